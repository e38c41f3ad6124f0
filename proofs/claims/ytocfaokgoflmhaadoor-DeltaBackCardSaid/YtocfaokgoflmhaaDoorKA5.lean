/- Plain: what a delta makes of a graph, told by both. * Plain: the statement 'DeltaApplies' on data. * Plain: what two graphs differ in, told by both. * Plain: which deltas are the same; the statements 'DeltaDiffs' and 'DeltaNothing' on data, but for what is touched. * Plain: the statement 'DeltaBack' on data. * A small logic over the model's walk, continued: arguments of a row, opened: what a reader treads reads as a datum. No program in sight. * The law 'DeltaBack' as it is given: whatever the input, the call returns true, and each argument reads behind it as it read before. No condition but that utf8's two tables hold what the library's text lays, which the card ties. -/
import Derived.Test.YtocfaokgoflmhaaDoorKA4
import Derived.Test.YtocfaokgoflmhaaDoorKA0
import Derived.OpenShut
import Derived.ShutString
import Derived.ChangeOld
import Derived.ChangeArms
import Derived.DataReads
import Derived.Test.YtocfaokgoflmhaaDoorRows
import Derived.Test.YtocfaokgoflmhaaDoorTie
import Derived.Test.YtocfaokgoflmhaaDoorCards
import Derived.Test.YtocfaokgoflmhaaDoorKA3
import Derived.WalkKit
import Derived.ProofKit
import Derived.Below
import Derived.LaidMore
import Derived.Stop.Joined
import Derived.SevenTiedAt
import Derived.Lib.LaidIn
import Derived.Lib.LaidU8T
import Derived.PinnedBridge
import Derived.SizedLaws
section
set_option linter.unusedVariables false
set_option linter.unusedSimpArgs false
set_option synthInstance.maxSize 1000000
set_option synthInstance.maxHeartbeats 400000
namespace Go.Proofs.YtocfaokgoflmhaaDoor
open Go.RowKit Go.Graph
theorem made_l2 (m:List (Int×Nd)): ∀(n k f:Nat) (xs:List Nd),k+n=256→n<f→xs.length≤k→F.delta_made_l2 m f xs (k:Int)=some (xs++madeF m n k)
 |0,k,f,xs,hk,hf,hx=>by
  obtain⟨f,rfl⟩: ∃f',f=f'+1:=⟨f-1,by omega⟩
  rw[F.delta_made_l2,if_neg (by omega),madeF,List.append_nil]
 |n+1,k,f,xs,hk,hf,hx=>by
  obtain⟨f,rfl⟩: ∃f',f=f'+1:=⟨f-1,by omega⟩
  rw[F.delta_made_l2,if_pos (by omega),A.lt,madeF,show((0,0,[],(0,0,(ByteArray.mk #[])),(ByteArray.mk #[]),0,0):Nd)=z0 from rfl]
  simp only[F.delta_made_j1]
  by_cases h:Z.mhas m (k:Int)=true
  ·rw[if_pos h,if_pos h,A.gd1 (by simp only[List.length_cons,List.length_nil];omega),A.gd1 (A.r64n (by omega))]
   have:=made_l2 m n (k+1) f (xs++[Z.mget z0 m (k:Int)]) (by omega) (by omega) (by simp only[List.length_append,List.length_cons,List.length_nil];omega)
   refine Eq.trans this ?_
   rw[List.append_assoc];rfl
  ·rw[if_neg h,if_neg h,A.gd1 (A.r64n (by omega))]
   exact made_l2 m n (k+1) f xs (by omega) (by omega) (by omega)
theorem made_l3 (g:List Nd)(d:Dl)(m0:List (Int×Nd))(hg:Inc g)(hp:Inc d.2.1)(hl:d.2.1.length≤1000)(rg: ∀n∈g,0≤n.1∧n.1≤255)(rp: ∀n∈d.2.1,0≤n.1∧n.1≤255)
  (h0: ∀i,Z.mhas m0 i=(hs g i&& !decide (i∈d.1))) (h1: ∀i,Z.mhas m0 i=true→Z.mget z0 m0 i=gt g i):F.delta_made_l3 d A.FU m0 0=some (mrgN d.1 g d.2.1):=
 A.lp d.2.1 (fun f (s:List (Int×Nd)) y=>F.delta_made_l3 d f s y) (fun _ _ _=>some (mrgN d.1 g d.2.1))
  (fun k s=>∀i,Z.mhas s i=(hs (d.2.1.take k) i||(hs g i&& !decide (i∈d.1)))∧(Z.mhas s i=true→Z.mget z0 s i=if hs (d.2.1.take k) i=true then gt (d.2.1.take k) i else gt g i))
  (fun f s hP=>by
   rw[F.delta_made_l3,if_neg (by omega)]
   rw[List.take_of_length_le (Nat.le_refl _)]at hP
   have e:=made_l2 s 256 0 A.FU [] rfl (by have:=FU_big;omega) (Nat.le_refl _)
   rw[List.nil_append,made_eq hg hp rg rp (fun i=>(hP i).1) (fun i=>(hP i).2)]at e
   exact e)
  (fun f s k x hx hk hP ih=>by
   rw[F.delta_made_l3,if_pos (by omega),A.ixn hx,Option.bind_some,A.gd1 (A.r64n (by omega))]
   have hm:mapOf (d.2.1.take (k+1))=Z.mins (mapOf (d.2.1.take k)) x.1 x:=by
    rw[mins_new (mhas_mapOf fun n hn e=>?_),take_s hx]
    ·simp[mapOf]
    ·obtain⟨i,hi2⟩:=List.getElem?_of_mem hn
     rw[List.getElem?_take]at hi2
     split at hi2
     ·have:=hp.inj hi2 hx e;omega
     ·cases hi2
   refine ih _ fun i=>?_
   obtain⟨p1,p2⟩:=hP i
   change Z.mhas (Z.mins s x.1 x) i=_∧(Z.mhas (Z.mins s x.1 x) i=true→Z.mget z0 (Z.mins s x.1 x) i=_)
   unfold hs gt at*
   rw[hm,Z.mhas_ins,Z.mhas_ins,Z.mget_ins,Z.mget_ins,p1,Bool.or_assoc]
   refine⟨rfl,fun h=>?_⟩
   by_cases e:i=x.1
   ·simp[e]
   ·simp only[e,decide_false,Bool.false_or,if_false]at h ⊢
    exact p2 (by rw[p1];exact h))
  (by have:=FU_big;omega) m0 fun i=>⟨by rw[h0];rfl,fun h=>by rw[h1 i h];rfl⟩
theorem made_P (g:List Nd)(d:Dl)(hg:Inc g)(hp:Inc d.2.1)(h1:g.length≤1000)(hl:d.2.1.length≤1000)(h3:d.1.length≤1000)(rg: ∀n∈g,0≤n.1∧n.1≤255)(rp: ∀n∈d.2.1,0≤n.1∧n.1≤255):F.delta_made g d=some (mrgN d.1 g d.2.1):=by
 unfold F.delta_made
 rw[byId_eq g hg (by omega),Option.bind_some]
 exact A.lp d.1 (fun f (s:List (Int×Nd)) y=>F.delta_made_l4 d f s y) (fun _ _ _=>some (mrgN d.1 g d.2.1))
  (fun k s=>(s.map Prod.fst).Nodup∧∀i,Z.mhas s i=(hs g i&& !decide (i∈d.1.take k))∧(Z.mhas s i=true→Z.mget z0 s i=gt g i))
  (fun f s hP=>by
   rw[F.delta_made_l4,if_neg (by omega)]
   rw[List.take_of_length_le (Nat.le_refl _)]at hP
   exact made_l3 g d s hg hp hl rg rp (fun i=>(hP.2 i).1) (fun i=>(hP.2 i).2))
  (fun f s k x hx hk hP ih=>by
   rw[F.delta_made_l4,if_pos (by omega),A.ixn hx,Option.bind_some,A.gd1 (A.r64n (by omega))]
   obtain⟨n1,n2⟩:=Z.mdel_nodup hP.1 x
   refine ih _ ⟨n1,fun i=>?_⟩
   obtain⟨p1,p2⟩:=hP.2 i
   rw[take_s hx]
   by_cases e:i=x
   ·subst e
    rw[n2];simp
   ·obtain⟨q1,q2⟩:=Z.mdel_ne z0 s x i e
    rw[q2,q1,p1]
    refine⟨by simp[e],fun h=>p2 (by rw[p1];exact h)⟩)
  (by have:=FU_big;omega) (mapOf g) ⟨by
   unfold mapOf;rw[List.map_map]
   exact(List.pairwise_map.2 (hg.imp fun h=>by simp only[Function.comp];omega)),fun i=>⟨by simp[hs],fun _=>rfl⟩⟩
theorem clone_eq9 (n:Nd)(h:n.2.2.1.length≤5000):F.R09_clone n=some n:=by
 unfold F.R09_clone
 rw[A.gd1 (by simp only[List.length_nil];omega)];rfl
theorem makes_R (g:List Nd)(d:Dl)(hg:Sml g)(hp:Sml d.2.1)(h3:d.1.length≤1000):F.R09_makes g d=some (mrgN d.1 g d.2.1):=by
 have hgl:=hg.1
 have hpl:=hp.1
 have main: ∀(n i k f:Nat) (xs:List Nd),(g.length-i)+(d.2.1.length-k)≤n→n<f→i≤g.length→k≤d.2.1.length→xs.length≤i+k→F.R09_makes_l5 g d f xs (i:Int) (k:Int)=some (xs++mrgN d.1 (g.drop i) (d.2.1.drop k)):=by
  intro n
  induction n with
  |zero=>
   intro i k f xs hn hf hi hk hx
   obtain⟨f,rfl⟩: ∃f',f=f'+1:=⟨f-1,by omega⟩
   rw[F.R09_makes_l5,A.bo,if_neg (by rw[decide_eq_true_iff];omega),List.drop_eq_nil_of_le (by omega),List.drop_eq_nil_of_le (by omega),mrgN,List.append_nil]
  |succ n ih=>
   intro i k f xs hn hf hi hk hx
   obtain⟨f,rfl⟩: ∃f',f=f'+1:=⟨f-1,by omega⟩
   rw[F.R09_makes_l5,A.bo]
   have put1: ∀(i2:Nat) (b:Nd),i2≤i+1→i2≤g.length→i≤i2→d.2.1[k]?=some b→F.R09_makes_j2 (F.R09_makes_l5 g d f) d xs (k:Int) (i2:Int)=some (xs++b::mrgN d.1 (g.drop i2) (d.2.1.drop (k+1))):=by
    intro i2 b h1 h2 h4 hb
    have hkl:=(List.getElem?_eq_some_iff.1 hb).1
    rw[F.R09_makes_j2,A.ixn hb,Option.bind_some,show F.R09_clone (b.1,b.2.1,b.2.2.1,(b.2.2.2.1.1,b.2.2.2.1.2.1,b.2.2.2.1.2.2),b.2.2.2.2.1,b.2.2.2.2.2.1,b.2.2.2.2.2.2)=some b from clone_eq9 b (hp.in (List.mem_of_getElem? hb)),Option.bind_some,A.gd1 (by simp only[List.length_cons,List.length_nil];omega),A.gd1 (A.r64n (by omega))]
    have:=ih i2 (k+1) f (xs++[b]) (by omega) (by omega) (by omega) (by omega) (by simp only[List.length_append,List.length_cons,List.length_nil];omega)
    refine Eq.trans this ?_
    rw[List.append_assoc];rfl
   have take1: ∀a:Nd,g[i]?=some a→F.R09_makes_j4 (F.R09_makes_l5 g d f) g d xs (i:Int) (k:Int) true=some (xs++if a.1∈d.1 then mrgN d.1 (g.drop (i+1)) (d.2.1.drop k)else a::mrgN d.1 (g.drop (i+1)) (d.2.1.drop k)):=by
    intro a ha
    have hil:=(List.getElem?_eq_some_iff.1 ha).1
    rw[F.R09_makes_j4,if_pos rfl,A.ixn ha,Option.bind_some,has_eq d.1 a.1 (by omega),Option.bind_some]
    simp only[F.R09_makes_j1,Option.bind_some]
    by_cases hd:a.1∈d.1
    ·rw[decide_eq_true hd,if_neg (by simp),A.gd1 (A.r64n (by omega)),if_pos hd]
     exact ih (i+1) k f xs (by omega) (by omega) (by omega) (by omega) (by omega)
    ·rw[decide_eq_false hd,if_pos (show(!false)=true from rfl),show F.R09_clone (a.1,a.2.1,a.2.2.1,(a.2.2.2.1.1,a.2.2.2.1.2.1,a.2.2.2.1.2.2),a.2.2.2.2.1,a.2.2.2.2.2.1,a.2.2.2.2.2.2)=some a from clone_eq9 a (hg.in (List.mem_of_getElem? ha)),Option.bind_some,A.gd1 (by simp only[List.length_cons,List.length_nil];omega),A.gd1 (A.r64n (by omega)),if_neg hd]
     have:=ih (i+1) k f (xs++[a]) (by omega) (by omega) (by omega) (by omega) (by simp only[List.length_append,List.length_cons,List.length_nil];omega)
     refine Eq.trans this ?_
     rw[List.append_assoc];rfl
   by_cases hc:(i:Int)<(g.length:Int)∨(k:Int)<(d.2.1.length:Int)
   ·rw[if_pos (decide_eq_true hc)]
    by_cases hk2:k<d.2.1.length
    ·have hb:d.2.1[k]?=some d.2.1[k]:=List.getElem?_eq_getElem hk2
     rw[if_neg (by omega),A.dropx hb]
     by_cases hi2:i<g.length
     ·have ha:g[i]?=some g[i]:=List.getElem?_eq_getElem hi2
      rw[if_pos (by omega),A.ixn ha,Option.bind_some,A.ixn hb,Option.bind_some,A.dropx ha,mrgN]
      by_cases h1:g[i].1<d.2.1[k].1
      ·rw[decide_eq_true h1,take1 _ ha,if_pos h1,A.dropx hb]
      ·rw[decide_eq_false h1,F.R09_makes_j4,if_neg Bool.false_ne_true,if_pos (by omega),A.ixn ha,Option.bind_some,A.ixn hb,Option.bind_some,if_neg h1,F.R09_makes_j3]
       by_cases h2:g[i].1=d.2.1[k].1
       ·rw[if_pos (decide_eq_true h2),A.gd1 (A.r64n (by omega)),if_pos h2]
        exact put1 (i+1) _ (by omega) (by omega) (by omega) hb
       ·rw[if_neg (by rw[decide_eq_true_iff];exact h2),if_neg h2,put1 i _ (by omega) (by omega) (by omega) hb,A.dropx ha]
     ·rw[if_neg (by omega),F.R09_makes_j4,if_neg Bool.false_ne_true,if_neg (by omega),F.R09_makes_j3,if_neg Bool.false_ne_true,put1 i _ (by omega) (by omega) (by omega) hb,List.drop_eq_nil_of_le (show g.length≤i by omega),mrgN,mrgN]
    ·have ha:g[i]?=some g[i]:=List.getElem?_eq_getElem (by omega)
     rw[if_pos (by omega),take1 _ ha,A.dropx ha,List.drop_eq_nil_of_le (show d.2.1.length≤k by omega),mrgN]
   ·rw[if_neg (by rw[decide_eq_true_iff];exact hc),List.drop_eq_nil_of_le (show g.length≤i by omega),List.drop_eq_nil_of_le (show d.2.1.length≤k by omega),mrgN,List.append_nil]
 have:=main (g.length+d.2.1.length) 0 0 A.FU [] (by omega) (by have:=FU_big;omega) (by omega) (by omega) (Nat.le_refl _)
 exact this
theorem mrgN_sml {g:List Nd}{d:Dl}(hg:Sml g)(hp:Sml d.2.1)(h1:g.length≤60)(h2:d.2.1.length≤60)(i1:Inc g)(i2:Inc d.2.1):Sml (mrgN d.1 g d.2.1):=by
 refine⟨by have:=mrgN_len d.1 _ g d.2.1 (Nat.le_refl _);omega,fun n hn=>?_⟩
 rcases(mrgN_mem d.1 _ g d.2.1 (Nat.le_refl _) i1 i2 n).1 hn with h|h
 ·exact hp.2 n h
 ·exact hg.2 n h.1
structure Made (g:List Nd) (d:Dl) (x:List Nd):Prop where
 good:Good g
 may:mayB g d=true
 eq:x=mrgN d.1 g d.2.1
 new:Good x
 sml:Sml x
theorem Made.inc {g:List Nd}{d:Dl}{x:List Nd}(h:Made g d x):Inc d.2.1:=by
 have:=h.may;unfold mayB at this;simp only[Bool.and_eq_true]at this;exact puts_inc this.1.2
theorem Made.mem {g:List Nd}{d:Dl}{x:List Nd}(h:Made g d x)(n:Nd):n∈x↔n∈d.2.1∨(n∈g∧n.1∉d.1∧∀y∈d.2.1,y.1≠n.1):=by
 rw[h.eq];exact mrgN_mem d.1 _ g d.2.1 (Nat.le_refl _) h.good.inc h.inc n
structure SmD (d:Dl):Prop where
 put:Sml d.2.1
 pl:d.2.1.length≤60
 dl:d.1.length≤60
 ml:d.2.2.length≤60
theorem apply_same (g:List Nd)(d:Dl)(hg:Sml g)(hl:g.length≤60)(hd:SmD d): ∃x e,F.delta_Apply g d=some (x,e)∧F.R09_Check g d=some e∧F.R09_Apply g d=some (x,e)∧(e≠0→x=[])∧(e=0→Made g d x):=by
 have hdl:=hd.dl;have hpl:=hd.pl;have hml:=hd.ml
 obtain⟨e1,c1,c2,c3,_⟩:=check_same g hg
 have key: ∃x e,F.delta_Apply g d=some (x,e)∧F.R09_Check g d=some e∧(e≠0→x=[])∧(e=0→Made g d x):=by
  unfold F.delta_Apply F.R09_Check
  rw[c1,c2,Option.bind_some,Option.bind_some]
  by_cases h0:e1=0
  case neg=>rw[if_pos h0,if_pos h0];exact⟨[],e1,rfl,rfl,fun _=>rfl,fun h=>absurd h h0⟩
  have G:=c3 h0
  rw[if_neg (fun h=>h h0),if_neg (fun h=>h h0),byId_eq g G.inc (by omega),Option.bind_some]
  rw[show F.delta_may (mapOf g) (d.1,d.2.1,d.2.2)=some (mayB g d)from may_P g d (by omega) (by omega) (by omega),show F.R09_may g (d.1,d.2.1,d.2.2)=some (mayB g d)from may_R g d (by omega) (by omega) (by omega) (by omega),Option.bind_some,Option.bind_some]
  cases hm:mayB g d with
  |false=>exact⟨[],90,rfl,rfl,fun _=>rfl,fun h=>(by cases h)⟩
  |true=>
   simp only[Bool.not_true,Bool.false_eq_true,if_false]
   have hinc:Inc d.2.1:=by have h:=hm;unfold mayB at h;simp only[Bool.and_eq_true]at h;exact puts_inc h.1.2
   have hsm:=mrgN_sml (d:=d) hg hd.put hl hpl G.inc hinc
   obtain⟨e2,k1,k2,k3,k4⟩:=check_same _ hsm
   rw[show F.R09_makes g (d.1,d.2.1,d.2.2)=some (mrgN d.1 g d.2.1)from makes_R g d hg hd.put (by omega),Option.bind_some,k2,Option.bind_some]
   have hr:F.delta_Apply_l1 g d A.FU 0=if d.2.1.all (fun n=>decide (1≤n.1∧n.1≤255))=true then(if e2≠0 then some ([],e2)else some (mrgN d.1 g d.2.1,0))else some ([],80):=by
    by_cases hall:d.2.1.all (fun n=>decide (1≤n.1∧n.1≤255))=true
    ·rw[if_pos hall]
     have hall2:=List.all_eq_true.1 hall
     refine A.lp0 d.2.1 (fun f y=>F.delta_Apply_l1 g d f y) (fun _ _=>if e2≠0 then some ([],e2)else some (mrgN d.1 g d.2.1,0)) (fun f=>?_) (fun f k x hx hk ih=>?_) (by have:=FU_big;omega)
     ·rw[F.delta_Apply_l1,if_neg (by omega),show F.delta_made g (d.1,d.2.1,d.2.2)=some (mrgN d.1 g d.2.1)from made_P g d G.inc hinc (by omega) (by omega) (by omega) (fun n hn=>by have:=G.id hn;omega) (fun n hn=>by have:=of_decide_eq_true (hall2 n hn);omega),Option.bind_some,k1,Option.bind_some]
      by_cases h2:e2=0
      ·rw[if_neg (fun h=>h h2),if_neg (fun h=>h h2),Clone_eq _ (by have:=(k3 h2).len;omega) (fun n hn=>hsm.in hn)];rfl
      ·rw[if_pos h2,if_pos h2]
     ·have:=of_decide_eq_true (hall2 x (List.mem_of_getElem? hx))
      rw[F.delta_Apply_l1,if_pos (by omega),A.ixn hx,Option.bind_some,A.bo,if_neg (by rw[decide_eq_true_iff];omega),A.gd1 (A.r64n (by omega)),ih]
    ·rw[if_neg hall]
     have:=A.lp0 d.2.1 (fun f y=>F.delta_Apply_l1 g d f y) (fun k l=>if l.all (fun n=>decide (1≤n.1∧n.1≤255))=true then F.delta_Apply_l1 g d 1 (d.2.1.length:Int)else some ([],80))
      (fun f=>by
       rw[F.delta_Apply_l1,if_neg (by omega)]
       show _=F.delta_Apply_l1 g d (0+1) (d.2.1.length:Int)
       rw[F.delta_Apply_l1,if_neg (by omega)])
      (fun f k x hx hk ih=>by
       rw[F.delta_Apply_l1,if_pos (by omega),A.ixn hx,Option.bind_some,A.bo]
       have e: ∀r:List Nd,(x::r).all (fun n=>decide (1≤n.1∧n.1≤255))=(decide (1≤x.1∧x.1≤255)&&r.all (fun n=>decide (1≤n.1∧n.1≤255))):=fun r=>rfl
       simp only[e]
       by_cases h:1≤x.1∧x.1≤255
       ·rw[if_neg (by rw[decide_eq_true_iff];omega),A.gd1 (A.r64n (by omega)),ih,decide_eq_true h,Bool.true_and]
       ·rw[if_pos (by rw[decide_eq_true_iff];omega),decide_eq_false h,Bool.false_and,if_neg Bool.false_ne_true])
      (by have:=FU_big;omega)
     rw[if_neg hall]at this
     exact this
   rw[hr]
   by_cases hall:d.2.1.all (fun n=>decide (1≤n.1∧n.1≤255))=true
   ·rw[if_pos hall]
    by_cases h2:e2=0
    ·rw[if_neg (fun h=>h h2)]
     exact⟨_,0,rfl,by rw[h2],fun h=>absurd rfl h,fun _=>⟨G,hm,rfl,k3 h2,hsm⟩⟩
    ·rw[if_pos h2]
     exact⟨[],e2,rfl,rfl,fun _=>rfl,fun h=>absurd h h2⟩
   ·rw[if_neg hall]
    have h80:e2=80:=k4 (by
     rw[List.all_eq_true]at hall
     simp only[Classical.not_forall]at hall
     obtain⟨n,hn,h⟩:=hall
     rw[decide_eq_true_iff]at h
     exact⟨n,(mrgN_mem d.1 _ g d.2.1 (Nat.le_refl _) G.inc hinc n).2 (.inl hn),by omega⟩)
    exact⟨[],80,rfl,by rw[h80],fun _=>rfl,fun h=>(by cases h)⟩
 obtain⟨x,e,a1,a2,a3,a4⟩:=key
 refine⟨x,e,a1,a2,?_,a3,a4⟩
 unfold F.R09_Apply
 rw[show F.R09_Check g (d.1,d.2.1,d.2.2)=some e from a2,Option.bind_some]
 by_cases h:e=0
 ·rw[if_neg (fun h2=>h2 h),show F.R09_makes g (d.1,d.2.1,d.2.2)=some (mrgN d.1 g d.2.1)from makes_R g d hg hd.put (by omega),(a4 h).eq,h];rfl
 ·rw[if_pos h,a3 h]
end Go.Proofs.YtocfaokgoflmhaaDoor
end
section
set_option linter.unusedVariables false
set_option linter.unusedSimpArgs false
set_option synthInstance.maxSize 1000000
set_option synthInstance.maxHeartbeats 400000
namespace Go.Proofs.YtocfaokgoflmhaaDoor
open Go.RowKit Go.Graph
theorem live9:F.L09_live=some true:=by kernel_rfl
theorem thinD {d:Dl}(h:(fewB d.2.1&&decide ((d.1.length:Int)≤60)&&decide ((d.2.2.length:Int)≤60))=true):SmD d:=by
 simp only[Bool.and_eq_true,decide_eq_true_eq]at h
 obtain⟨h1,h2⟩:=fewB_sml h.1.1
 exact⟨h2,h1,by omega,by omega⟩
theorem R_Same_self {g:List Nd}(h:Sml g):F.R08_Same g g=some true:=by rw[R_Same g g h,decide_eq_true rfl]
end Go.Proofs.YtocfaokgoflmhaaDoor
end
section
set_option linter.unusedVariables false
set_option linter.unusedSimpArgs false
set_option synthInstance.maxSize 1000000
set_option synthInstance.maxHeartbeats 400000
namespace Go.A
theorem fst {α:Type}(l:List α)(p:α→Bool)(L:Nat→Int→Option Int)(h0: ∀f,L (f+1) (l.length:Int)=some (-1))
  (h1: ∀f (k:Nat) x,l[k]?=some x→k<l.length→L (f+1) (k:Int)=if p x=true then some (k:Int)else L f ((k:Int)+1)) (hl:l.length<FU):
  (L FU 0=some (-1)∧∀x∈l,p x=false)∨∃(k:Nat) (x:α),l[k]?=some x∧L FU 0=some (k:Int)∧p x=true∧∀y∈l.take k,p y=false:=by
 have main: ∀(n k f:Nat),k+n=l.length→n<f→(∀y∈l.take k,p y=false)→(L f (k:Int)=some (-1)∧∀x∈l,p x=false)∨∃(i:Nat) (x:α),l[i]?=some x∧L f (k:Int)=some (i:Int)∧p x=true∧∀y∈l.take i,p y=false:=by
  intro n
  induction n with
  |zero=>
   intro k f hk hf hp
   obtain⟨f,rfl⟩: ∃f',f=f'+1:=⟨f-1,by omega⟩
   obtain rfl:k=l.length:=by omega
   rw[List.take_of_length_le (Nat.le_refl _)]at hp
   exact .inl ⟨h0 f,hp⟩
  |succ n ih=>
   intro k f hk hf hp
   obtain⟨f,rfl⟩: ∃f',f=f'+1:=⟨f-1,by omega⟩
   have hx:l[k]?=some l[k]:=List.getElem?_eq_getElem (by omega)
   rw[h1 f k _ hx (by omega)]
   cases hb:p l[k]with
   |true=>rw[if_pos rfl];exact .inr ⟨k,_,hx,rfl,hb,hp⟩
   |false=>
    rw[if_neg Bool.false_ne_true]
    refine ih (k+1) f (by omega) (by omega) fun y hy=>?_
    rw[List.take_add_one,hx]at hy
    rcases List.mem_append.1 hy with h|h
    ·exact hp y h
    ·rw[Option.toList_some,List.mem_singleton]at h;rw[h];exact hb
 exact main l.length 0 FU (by omega) hl (by simp)
theorem del {α:Type}(l:List α)(p:α→Bool)(L:Nat→List α→Int→Int→Option (List α))
  (h0: ∀f xs (i:Nat),xs.length=l.length→i≤l.length→L (f+1) xs (i:Int) (l.length:Int)=some (xs.take i))
  (h1: ∀f xs (i j:Nat) x,xs[j]?=some x→i<j→j<l.length→xs.length=l.length→L (f+1) xs (i:Int) (j:Int)=if p x=true then L f xs (i:Int) ((j:Int)+1)else L f (xs.set i x) ((i:Int)+1) ((j:Int)+1))
  {k:Nat} {x:α} (hx:l[k]?=some x) (hp:p x=true) (hpre: ∀y∈l.take k,p y=false) (hl:l.length<FU):L FU l (k:Int) ((k:Int)+1)=some (l.filter fun y=> !p y):=by
 have main: ∀(n j i f:Nat) (xs:List α),j+n=l.length→n<f→i<j→xs.length=l.length→xs.take i=(l.take j).filter (fun y=> !p y)→xs.drop j=l.drop j→L f xs (i:Int) (j:Int)=some (l.filter fun y=> !p y):=by
  intro n
  induction n with
  |zero=>
   intro j i f xs hj hf hij hlen ht hd
   obtain⟨f,rfl⟩: ∃f',f=f'+1:=⟨f-1,by omega⟩
   obtain rfl:j=l.length:=by omega
   rw[h0 f xs i hlen (by omega),ht,List.take_of_length_le (Nat.le_refl _)]
  |succ n ih=>
   intro j i f xs hj hf hij hlen ht hd
   obtain⟨f,rfl⟩: ∃f',f=f'+1:=⟨f-1,by omega⟩
   have hy:l[j]?=some l[j]:=List.getElem?_eq_getElem (by omega)
   have hxj:xs[j]?=some l[j]:=by
    have:=congrArg List.head? hd
    rwa[List.head?_drop,List.head?_drop,hy]at this
   have htk:(l.take (j+1)).filter (fun y=> !p y)=(l.take j).filter (fun y=> !p y)++if p l[j]=true then []else [l[j]]:=by
    rw[List.take_add_one,hy,List.filter_append,Option.toList_some,List.filter_cons,List.filter_nil]
    cases p l[j]<;>rfl
   have hd2:xs.drop (j+1)=l.drop (j+1):=by
    have:=congrArg List.tail hd
    rwa[List.tail_drop,List.tail_drop]at this
   rw[h1 f xs i j _ hxj hij (by omega) hlen]
   cases hb:p l[j]with
   |true=>
    rw[if_pos rfl]
    exact ih (j+1) i f xs (by omega) (by omega) (by omega) hlen (by rw[htk,hb,if_pos rfl,List.append_nil,ht]) hd2
   |false=>
    rw[if_neg Bool.false_ne_true]
    have hset:(xs.set i l[j]).take (i+1)=xs.take i++[l[j]]:=by
     rw[List.take_add_one,List.getElem?_set,if_pos rfl,if_pos (by omega),List.take_set_of_le (Nat.le_refl _)];rfl
    have hdrop:(xs.set i l[j]).drop (j+1)=xs.drop (j+1):=List.drop_set_of_lt (by omega)
    have:=ih (j+1) (i+1) f (xs.set i l[j]) (by omega) (by omega) (by omega) (by rw[List.length_set];exact hlen) (by rw[htk,hb,if_neg Bool.false_ne_true,hset,ht]) (by rw[hdrop];exact hd2)
    exact this
 have hk:=(List.getElem?_eq_some_iff.1 hx).1
 refine main (l.length-(k+1)) (k+1) k FU l (by omega) (by omega) (by omega) rfl ?_ rfl
 rw[List.take_add_one,hx,List.filter_append,List.filter_eq_self.2 (fun y hy=>by rw[hpre y hy];rfl)]
 simp[hp]
end Go.A
namespace Go.Proofs.YtocfaokgoflmhaaDoor
open Go.RowKit Go.Graph
def inpB (n:Nd):Bool:=decide (n.2.1=1)
theorem inputs_eq (g:List Nd)(hg:g.length≤1000):F.delta_inputs g=some (g.filter inpB):=by
 unfold F.delta_inputs F.slices_Clone_api_Node_api_Node
 rw[A.gd1 (by simp only[List.length_nil];omega),List.nil_append,Option.bind_some]
 have key:F.slices_DeleteFunc_api_Node_api_Node_delta_inputs_1 g=some (g.filter inpB):=by
  unfold F.slices_DeleteFunc_api_Node_api_Node_delta_inputs_1 F.slices_IndexFunc_api_Node_api_Node_delta_inputs_1
  have hfil:(g.filter inpB)=g.filter fun y=> !(decide (y.2.1≠1)):=List.filter_congr fun n _=>by unfold inpB;by_cases h:n.2.1=1<;>simp[h]
  rcases A.fst g (fun n=>decide (n.2.1≠1)) (fun f y=>F.slices_IndexFunc_api_Node_api_Node_delta_inputs_1_l1 g f y) (fun f=>by rw[F.slices_IndexFunc_api_Node_api_Node_delta_inputs_1_l1,if_neg (by omega)])
   (fun f k x hx hk=>by
    rw[F.slices_IndexFunc_api_Node_api_Node_delta_inputs_1_l1,if_pos (by omega),A.ixn hx,Option.bind_some,F.delta_inputs_1,Option.bind_some]
    by_cases h:x.2.1≠1
    ·rw[if_pos (decide_eq_true h),if_pos (decide_eq_true h)]
    ·rw[if_neg (by rw[decide_eq_true_iff];exact h),if_neg (by rw[decide_eq_true_iff];exact h),A.gd1 (A.r64n (by omega))])
   (by have:=FU_big;omega)with⟨h1,h2⟩|⟨k,x,h1,h2,h3,h4⟩
  ·rw[h1,Option.bind_some,if_pos rfl,hfil,List.filter_eq_self.2 (fun n hn=>by rw[h2 n hn];rfl)]
  ·have hk:=(List.getElem?_eq_some_iff.1 h1).1
   rw[h2,Option.bind_some,if_neg (by omega),A.gd1 (A.r64n (by omega)),hfil]
   exact A.del g (fun n=>decide (n.2.1≠1)) (fun f xs i j=>F.slices_DeleteFunc_api_Node_api_Node_delta_inputs_1_l2 g f xs i j)
    (fun f xs i hlen hi=>by
     rw[F.slices_DeleteFunc_api_Node_api_Node_delta_inputs_1_l2,if_neg (by omega),A.gd1 ⟨by omega,by omega⟩,A.gd1 ⟨by omega,by simp only[List.length_append,List.length_take,List.length_replicate];omega⟩,Int.toNat_natCast]
     congr 1
     rw[List.take_append_of_le_length (by rw[List.length_take];omega),List.take_take,Nat.min_self])
    (fun f xs i j x hx hij hj hlen=>by
     have hi:xs[i]?=some xs[i]:=List.getElem?_eq_getElem (by omega)
     rw[F.slices_DeleteFunc_api_Node_api_Node_delta_inputs_1_l2,if_pos (by omega),A.ixn hx,Option.bind_some,F.delta_inputs_1,Option.bind_some]
     simp only[F.slices_DeleteFunc_api_Node_api_Node_delta_inputs_1_j1]
     by_cases h:x.2.1≠1
     ·rw[decide_eq_true h,Bool.not_true,if_neg Bool.false_ne_true,if_pos rfl,A.gd1 (A.r64n (by omega))]
     ·rw[decide_eq_false h,Bool.not_false,if_pos rfl,if_neg Bool.false_ne_true,A.ixn hi,Option.bind_some,A.gd1 (A.r64n (by omega)),A.gd1 (A.r64n (by omega)),Int.toNat_natCast])
    h1 h3 h4 (by have:=FU_big;omega)
 rw[key,Option.bind_some]
theorem sml_one {n:Nd}{g:List Nd}(hg:Sml g)(hn:n∈g):Sml [n]:=⟨by simp,fun m hm=>by rw[List.mem_singleton]at hm;subst hm;exact hg.2 m hn⟩
theorem sml_z0:Sml [z0]:=⟨by simp,fun m hm=>by rw[List.mem_singleton]at hm;subst hm;decide⟩
theorem sameNode_P (x y:Nd)(hx:Sml [x]):F.delta_sameNode x y=some (decide (x=y)):=by
 unfold F.delta_sameNode
 rw[show F.graph_Same [(x.1,x.2.1,x.2.2.1,(x.2.2.2.1.1,x.2.2.2.1.2.1,x.2.2.2.1.2.2),x.2.2.2.2.1,x.2.2.2.2.2.1,x.2.2.2.2.2.2)] [(y.1,y.2.1,y.2.2.1,(y.2.2.2.1.1,y.2.2.2.1.2.1,y.2.2.2.1.2.2),y.2.2.2.2.1,y.2.2.2.2.2.1,y.2.2.2.2.2.2)]=some (decide ([x]=[y]))from P_Same [x] [y] hx,Option.bind_some]
 congr 1;exact decide_eq_decide.2 (by simp)
theorem gt_sml {g:List Nd}(hg:Sml g)(id:Int):Sml [gt g id]:=by
 rcases idx_cases z0 g id with⟨_,_,h3,_⟩|⟨j,n,_,h2,_,h4,_⟩
 ·unfold gt;rw[h3];exact sml_z0
 ·unfold gt;rw[h4];exact sml_one hg (List.mem_of_getElem? h2)
theorem sml_filter {g:List Nd}(hg:Sml g)(p:Nd→Bool):Sml (g.filter p):=⟨Nat.le_trans (List.length_filter_le _ _) hg.1,fun n hn=>hg.2 n (List.mem_filter.1 hn).1⟩
def inB (b:List Nd)(n:Nd):Bool:=hs b n.1&&decide (gt b n.1=n)
theorem inB_iff {b:List Nd}(hb:Inc b)(n:Nd):inB b n=true↔n∈b:=by
 unfold inB
 rw[Bool.and_eq_true,decide_eq_true_iff]
 constructor
 ·rintro⟨h1,h2⟩
  obtain⟨m,hm,e⟩:=has_mem.1 h1
  have:=(hb.got hm z0).1
  unfold gt at h2
  rw[←e,this]at h2;rw[←h2];exact hm
 ·intro h
  exact⟨(hb.got h z0).2,(hb.got h z0).1⟩
def goB (b:List Nd)(n:Nd):Bool:= !hs b n.1
def diffB (a b:List Nd):Dl:=((a.filter (goB b)).map (·.1),b.filter (fun n=> !inB a n),[])
def diffV (a b:List Nd)(e1 e2:Int):Dl×Int:=if e1≠0 then(([],[],[]),e1)else if e2≠0 then(([],[],[]),e2)else if a.filter inpB=b.filter inpB then(diffB a b,0)else(([],[],[]),90)
theorem diffV_1 {a b:List Nd}{e1 e2:Int}(h:e1≠0):diffV a b e1 e2=(([],[],[]),e1):=if_pos h
theorem diffV_2 {a b:List Nd}{e1 e2:Int}(h:e1=0)(h2:e2≠0):diffV a b e1 e2=(([],[],[]),e2):=by unfold diffV;rw[if_neg (show ¬(e1≠0)from fun k=>k h),if_pos h2]
theorem diffV_3 {a b:List Nd}{e1 e2:Int}(h:e1=0)(h2:e2=0)(h3: ¬a.filter inpB=b.filter inpB):diffV a b e1 e2=(([],[],[]),90):=by unfold diffV;rw[if_neg (show ¬(e1≠0)from fun k=>k h),if_neg (show ¬(e2≠0)from fun k=>k h2),if_neg h3]
theorem diffV_4 {a b:List Nd}{e1 e2:Int}(h:e1=0)(h2:e2=0)(h3:a.filter inpB=b.filter inpB):diffV a b e1 e2=(diffB a b,0):=by unfold diffV;rw[if_neg (show ¬(e1≠0)from fun k=>k h),if_neg (show ¬(e2≠0)from fun k=>k h2),if_pos h3]
theorem diff_l4 (a b:List Nd)(xs:List Int)(ha:Sml a)(hb:Sml b):F.delta_Diff_l4 (mapOf a) xs b A.FU [] 0=some ((xs,b.filter (fun n=> !inB a n),[]),0):=by
 have hbl:=hb.1
 have:=A.lp b (fun f (s:List Nd) y=>F.delta_Diff_l4 (mapOf a) xs b f s y) (fun _ l s=>some ((xs,s++l.filter (fun n=> !inB a n),[]),0)) (fun k s=>s.length≤k)
  (fun f s hsl=>by rw[F.delta_Diff_l4,if_neg (by omega),List.filter_nil,List.append_nil])
  (fun f s k x hx hk hsl ih=>by
   rw[F.delta_Diff_l4,if_pos (by omega),A.ixn hx,Option.bind_some,A.lt,show((0,0,[],(0,0,(ByteArray.mk #[])),(ByteArray.mk #[]),0,0):Nd)=z0 from rfl]
   have hj: ∀y,F.delta_Diff_j3 (F.delta_Diff_l4 (mapOf a) xs b f) s (k:Int) x y=some ((xs,s++((if y=true then [x]else [])++(b.drop (k+1)).filter (fun n=> !inB a n)),[]),0):=fun y=>by
    rw[F.delta_Diff_j3]
    simp only[F.delta_Diff_j2]
    cases y with
    |true=>
     rw[if_pos rfl,if_pos rfl,A.gd1 (by simp only[List.length_cons,List.length_nil];omega),A.gd1 (A.r64n (by omega))]
     have:=ih (s++[x]) (by simp only[List.length_append,List.length_cons,List.length_nil];omega)
     refine Eq.trans this ?_
     rw[List.append_assoc]
    |false=>rw[if_neg Bool.false_ne_true,if_neg Bool.false_ne_true,A.gd1 (A.r64n (by omega)),ih s (by omega),List.nil_append]
   rw[hj,show F.delta_sameNode ((gt a x.1).1,(gt a x.1).2.1,(gt a x.1).2.2.1,((gt a x.1).2.2.2.1.1,(gt a x.1).2.2.2.1.2.1,(gt a x.1).2.2.2.1.2.2),(gt a x.1).2.2.2.2.1,(gt a x.1).2.2.2.2.2.1,(gt a x.1).2.2.2.2.2.2) (x.1,x.2.1,x.2.2.1,(x.2.2.2.1.1,x.2.2.2.1.2.1,x.2.2.2.1.2.2),x.2.2.2.2.1,x.2.2.2.2.2.1,x.2.2.2.2.2.2)=some (decide (gt a x.1=x))from sameNode_P (gt a x.1) x (gt_sml ha x.1),Option.bind_some,hj,List.filter_cons,inB,show Z.mhas (mapOf a) x.1=hs a x.1 from rfl]
   generalize hs a x.1=bb
   cases bb with
   |false=>simp
   |true=>by_cases h:gt a x.1=x<;>simp[h])
  (by have:=FU_big;omega) [] (Nat.le_refl _)
 rw[List.nil_append]at this
 exact this
theorem diff_P (a b:List Nd)(ha:Sml a)(hb:Sml b)(e1 e2:Int)(h1:F.graph_Check a=some e1)(h2:F.graph_Check b=some e2)(g1:e1=0→Good a)(g2:e2=0→Good b):F.delta_Diff a b=some (diffV a b e1 e2):=by
 have hal:=ha.1;have hbl:=hb.1
 unfold F.delta_Diff
 rw[h1,h2,Option.bind_some,Option.bind_some]
 by_cases z1:e1=0
 case neg=>rw[if_pos z1,diffV_1 z1]
 have n1: ¬(e1≠0):=fun h=>h z1
 rw[if_neg n1]
 by_cases z2:e2=0
 case neg=>rw[if_pos z2,diffV_2 z1 z2]
 have n2: ¬(e2≠0):=fun h=>h z2
 rw[if_neg n2]
 have G1:=g1 z1;have G2:=g2 z2
 rw[inputs_eq a (by omega),Option.bind_some,inputs_eq b (by omega),Option.bind_some,P_Same _ _ (sml_filter ha _),Option.bind_some]
 by_cases he:a.filter inpB=b.filter inpB
 case neg=>rw[decide_eq_false he,Bool.not_false,if_pos rfl,diffV_3 z1 z2 he]
 rw[decide_eq_true he,Bool.not_true,if_neg Bool.false_ne_true,diffV_4 z1 z2 he,byId_eq a G1.inc (by omega),Option.bind_some,byId_eq b G2.inc (by omega),Option.bind_some]
 have:=A.lp a (fun f (s:List Int) y=>F.delta_Diff_l5 a b (mapOf a) (mapOf b) f s y) (fun _ l s=>some ((s++(l.filter (goB b)).map (·.1),b.filter (fun n=> !inB a n),[]),0)) (fun k s=>s.length≤k)
  (fun f s hs=>by
   rw[F.delta_Diff_l5,if_neg (by omega),Clone_eq b (by have:=G2.len;omega) (fun n hn=>hb.in hn),Option.bind_some,diff_l4 a b s ha hb,List.filter_nil,List.map_nil,List.append_nil])
  (fun f s k x hx hk hs2 ih=>by
   rw[F.delta_Diff_l5,if_pos (by omega),A.ixn hx,Option.bind_some,A.lt,List.filter_cons,goB]
   simp only[F.delta_Diff_j1]
   change (if(!(hs b x.1))=true then _ else _)=_
   cases hs b x.1 with
   |true=>simp only[Bool.not_true,Bool.false_eq_true,if_false];rw[A.gd1 (A.r64n (by omega)),ih s (by omega)]
   |false=>
    simp only[Bool.not_false,if_true]
    rw[A.gd1 (by simp only[List.length_cons,List.length_nil];omega),A.gd1 (A.r64n (by omega)),ih (s++[x.1]) (by simp only[List.length_append,List.length_cons,List.length_nil];omega),List.append_assoc];rfl)
  (by have:=FU_big;omega) [] (Nat.le_refl _)
 rw[List.nil_append]at this
 exact this
end Go.Proofs.YtocfaokgoflmhaaDoor
end
section
set_option linter.unusedVariables false
set_option linter.unusedSimpArgs false
set_option synthInstance.maxSize 1000000
set_option synthInstance.maxHeartbeats 400000
namespace Go.Proofs.YtocfaokgoflmhaaDoor
open Go.RowKit Go.Graph
structure SzD (d:Dl):Prop where
 put:Sml d.2.1
 dl:d.1.length≤1000
 ml:d.2.2.length≤1000
theorem SmD.sz {d:Dl}(h:SmD d):SzD d:=⟨h.put,by have:=h.dl;omega,by have:=h.ml;omega⟩
theorem apply_ok {g:List Nd}{d:Dl}(hg:Sml g)(hl:g.length≤60)(hd:SmD d)(h1:F.R08_Check g=some 0)(h2:mayB g d=true)(h3:F.R08_Check (mrgN d.1 g d.2.1)=some 0):F.delta_Apply g d=some (mrgN d.1 g d.2.1,0):=by
 have hdl:=hd.dl;have hpl:=hd.pl;have hml:=hd.ml
 obtain⟨x,e,a1,a2,a3,a4,a5⟩:=apply_same g d hg hl hd
 have c:F.R09_Check g d=some 0:=by
  unfold F.R09_Check
  have m:=may_R g d (by omega) (by omega) (by omega) (by omega)
  have k:=makes_R g d hg hd.put (by omega)
  obtain⟨d1,d2,d3⟩:=d
  simp only[h1,Option.bind_some,ne_eq,not_true_eq_false,if_false,m,h2,Bool.not_true,Bool.false_eq_true,k]
  rw[h3];rfl
 have a6:e=0:=Option.some.inj (a2.symm.trans c)
 subst a6
 rw[a1,(a5 rfl).eq]
end Go.Proofs.YtocfaokgoflmhaaDoor
end
section
set_option linter.unusedVariables false
set_option linter.unusedSimpArgs false
set_option synthInstance.maxSize 1000000
set_option synthInstance.maxHeartbeats 400000
namespace Go.Proofs.YtocfaokgoflmhaaDoor
open Go.RowKit Go.Graph
theorem back_mem {a b:List Nd}(ia:Inc a)(ib:Inc b):mrgN (diffB a b).1 a (diffB a b).2.1=b:=by
 have hp:Inc (diffB a b).2.1:=List.Pairwise.filter _ ib
 refine inc_ext (mrgN_inc _ _ a _ (Nat.le_refl _) ia hp) ib fun x=>?_
 rw[mrgN_mem _ _ a _ (Nat.le_refl _) ia hp]
 have hput: ∀y,y∈(diffB a b).2.1↔y∈b∧y∉a:=fun y=>by
  unfold diffB
  rw[List.mem_filter]
  refine and_congr_right fun _=>?_
  rw[Bool.not_eq_true',←Bool.not_eq_true,inB_iff ia]
 have hdrop: ∀i,i∈(diffB a b).1↔∃n∈a,n.1=i∧hs b i=false:=fun i=>by
  unfold diffB
  rw[List.mem_map]
  constructor
  ·rintro⟨n,hn,e⟩
   obtain⟨h1,h2⟩:=List.mem_filter.1 hn
   subst e
   exact⟨n,h1,rfl,by unfold goB at h2;rwa[Bool.not_eq_true']at h2⟩
  ·rintro⟨n,hn,e,h⟩
   subst e
   exact⟨n,List.mem_filter.2 ⟨hn,by unfold goB;rw[h];rfl⟩,rfl⟩
 constructor
 ·rintro(h|⟨h1,h2,h3⟩)
  ·exact((hput x).1 h).1
  ·have hb:hs b x.1=true:=by
    cases hb:hs b x.1 with
    |true=>rfl
    |false=>exact absurd ((hdrop x.1).2 ⟨x,h1,rfl,hb⟩) h2
   obtain⟨n,hn,e⟩:=has_mem.1 hb
   by_cases hna:n∈a
   ·have e1:=(ia.got hna z0).1
    have e2:=(ia.got h1 z0).1
    rw[e]at e1
    rw[←e2,e1];exact hn
   ·exact absurd e (h3 n ((hput n).2 ⟨hn,hna⟩))
 ·intro h
  by_cases ha:x∈a
  ·refine .inr ⟨ha,fun hd=>?_,fun y hy e=>?_⟩
   ·obtain⟨n,_,_,h2⟩:=(hdrop x.1).1 hd
    rw[show hs b x.1=true from(ib.got h z0).2]at h2;cases h2
   ·obtain⟨h1,h2⟩:=(hput y).1 hy
    have e1:=(ib.got h1 z0).1
    have e2:=(ib.got h z0).1
    rw[e]at e1
    rw[←e1,e2]at h2;exact h2 ha
  ·exact .inl ((hput x).2 ⟨h,ha⟩)
theorem back_may {a b:List Nd}(ia:Inc a)(ib:Inc b)(la:a.length≤32)(lb:b.length≤32)(he:a.filter inpB=b.filter inpB):mayB a (diffB a b)=true:=by
 have inp: ∀n,inpB n=true→(n∈a↔n∈b):=fun n hi=>by
  constructor
  ·intro h
   have:n∈a.filter inpB:=List.mem_filter.2 ⟨h,hi⟩
   rw[he]at this;exact(List.mem_filter.1 this).1
  ·intro h
   have:n∈b.filter inpB:=List.mem_filter.2 ⟨h,hi⟩
   rw[←he]at this;exact(List.mem_filter.1 this).1
 unfold mayB
 simp only[Bool.and_eq_true,decide_eq_true_eq]
 have l1:=List.length_filter_le (goB b) a
 have l2:=List.length_filter_le (fun n=> !inB a n) b
 refine⟨⟨⟨⟨⟨?_,?_⟩,?_⟩,?_⟩,?_⟩,rfl⟩
 ·unfold diffB;rw[List.length_map];omega
 ·unfold diffB;simp only[];omega
 ·simp[diffB]
 ·unfold dropsB
  rw[Bool.and_eq_true]
  refine⟨List.all_eq_true.2 fun i hi=>?_,rise_inc.2 (List.Pairwise.filter _ ia)⟩
  obtain⟨n,hn,e⟩:=List.mem_map.1 hi
  obtain⟨h1,h2⟩:=List.mem_filter.1 hn
  subst e
  obtain⟨e1,e2⟩:=ia.got h1 z0
  unfold dropOk
  rw[show hs a n.1=true from e2,show gt a n.1=n from e1,Bool.true_and,decide_eq_true_iff]
  intro hk
  have hb:=(inp n (decide_eq_true hk)).1 h1
  unfold goB at h2
  rw[show hs b n.1=true from(ib.got hb z0).2]at h2;cases h2
 ·unfold putsB
  rw[Bool.and_eq_true]
  refine⟨List.all_eq_true.2 fun n hn=>?_,rise_inc.2 (List.Pairwise.filter _ ib)⟩
  obtain⟨h1,h2⟩:=List.mem_filter.1 hn
  rw[Bool.not_eq_true',←Bool.not_eq_true,inB_iff ia]at h2
  unfold putOk
  have c1:n.2.1≠1:=fun hk=>h2 ((inp n (decide_eq_true hk)).2 h1)
  have c2:(hs a n.1&&decide ((gt a n.1).2.1=1))=false:=by
   cases hh:hs a n.1 with
   |false=>rfl
   |true=>
    obtain⟨m,hm,e⟩:=has_mem.1 hh
    have e1:gt a n.1=m:=by rw[←e];exact(ia.got hm z0).1
    rw[e1,Bool.true_and,decide_eq_false_iff_not]
    intro hk
    have hmb:=(inp m (decide_eq_true hk)).1 hm
    have e2:=(ib.got hmb z0).1
    have e3:=(ib.got h1 z0).1
    rw[e]at e2
    rw[←e3,e2]at h2;exact h2 hm
  have c3:n.1∉(diffB a b).1:=fun hd=>by
   obtain⟨m,hm,e⟩:=List.mem_map.1 hd
   obtain⟨_,q2⟩:=List.mem_filter.1 hm
   unfold goB at q2
   rw[e,show hs b n.1=true from(ib.got h1 z0).2]at q2;cases q2
  rw[decide_eq_true c1,c2,decide_eq_true c3];rfl
theorem back_ok {a b:List Nd}(ha:Sml a)(hb:Sml b)(ca:F.R08_Check a=some 0)(cb:F.R08_Check b=some 0)(ga:Good a)(gb:Good b)(he:a.filter inpB=b.filter inpB):F.delta_Apply a (diffB a b)=some (b,0):=by
 have la:=ga.len;have lb:=gb.len
 have l1:=List.length_filter_le (goB b) a
 have l2:=List.length_filter_le (fun n=> !inB a n) b
 have hd:SmD (diffB a b):=⟨sml_filter hb _,by unfold diffB;simp only[];omega,by unfold diffB;rw[List.length_map];omega,by simp[diffB]⟩
 have:=apply_ok ha (by omega) hd ca (back_may ga.inc gb.inc la lb he) (by rw[back_mem ga.inc gb.inc];exact cb)
 rwa[back_mem ga.inc gb.inc]at this
theorem back_j2 (g:List Nd)(d:Dl)(hg:Sml g)(hl:g.length≤60)(hd:SmD d):F.L09_DeltaBack_j2 g d=some true:=by
 obtain⟨x,e,a1,a2,a3,a4,a5⟩:=apply_same g d hg hl hd
 unfold F.L09_DeltaBack_j2 F.delta_Invert
 rw[show F.delta_Apply g (d.1,d.2.1,d.2.2)=some (x,e)from a1,Option.bind_some]
 by_cases h0:e=0
 case neg=>rw[if_pos h0,Option.bind_some,if_pos h0]
 subst h0
 have M:=a5 rfl
 have n0: ¬((x,(0:Int)).2≠0):=fun h=>h rfl
 obtain⟨e1,c1,c2,c3,_⟩:=check_same x M.sml
 obtain⟨e2,k1,k2,k3,_⟩:=check_same g hg
 rw[if_neg n0,show F.delta_Diff (x,(0:Int)).1 g=_ from diff_P x g M.sml hg e1 e2 c1 k1 c3 k3,Option.bind_some,Option.bind_some]
 by_cases hz:(diffV x g e1 e2).2=0
 case neg=>rw[if_pos hz]
 have z1:e1=0:=Decidable.byContradiction fun h=>by rw[diffV_1 h]at hz;exact h hz
 have z2:e2=0:=Decidable.byContradiction fun h=>by rw[diffV_2 z1 h]at hz;exact h hz
 have z3:x.filter inpB=g.filter inpB:=Decidable.byContradiction fun h=>by rw[diffV_3 z1 z2 h]at hz;cases hz
 rw[diffV_4 z1 z2 z3]
 rw[z1]at c2 c3;rw[z2]at k2 k3
 have B:=back_ok M.sml hg c2 k2 (c3 rfl) (k3 rfl) z3
 rw[if_neg (show ¬((0:Int)≠0)from fun h=>h rfl),Option.bind_some,show F.delta_Apply (x,(0:Int)).1 ((diffB x g).1,(diffB x g).2.1,(diffB x g).2.2)=some (g,0)from B,Option.bind_some]
 rw[show F.R08_Same (g,(0:Int)).1 g=some true from R_Same_self hg]
 rfl
theorem deltaBack_plain {P Q R:Prop}(a b:List Nd)(d:Dl)(_:P)(_:Q)(_:R):F.L09_DeltaBack a b d=some true:=by
 unfold F.L09_DeltaBack
 rw[live9,few_eq [a,b] (by simp),show F.L09_thin (d.1,d.2.1,d.2.2)=_ from thin_eq d]
 have hj:F.L09_DeltaBack_j4 a b d true=some true:=by rw[F.L09_DeltaBack_j4,if_pos rfl]
 simp only[Option.bind_some,Bool.not_true,Bool.false_eq_true,if_false,List.all_cons,List.all_nil,Bool.and_true]
 cases hf:(fewB a&&fewB b)with
 |false=>rw[if_pos (show(!false)=true from rfl)];exact hj
 |true=>
  rw[Bool.and_eq_true]at hf
  rw[if_neg (show ¬(!true)=true from Bool.false_ne_true)]
  cases ht:(fewB d.2.1&&decide ((d.1.length:Int)≤60)&&decide ((d.2.2.length:Int)≤60))with
  |false=>exact hj
  |true=>
   obtain⟨la,ha⟩:=fewB_sml hf.1
   obtain⟨lb,hb⟩:=fewB_sml hf.2
   have hd:=thinD ht
   have hj2:=back_j2 a d ha la hd
   obtain⟨e1,c1,c2,c3,_⟩:=check_same a ha
   obtain⟨e2,k1,k2,k3,_⟩:=check_same b hb
   rw[Bool.not_true,F.L09_DeltaBack_j4,if_neg Bool.false_ne_true,diff_P a b ha hb e1 e2 c1 k1 c3 k3,Option.bind_some]
   by_cases hz:(diffV a b e1 e2).2=0
   case neg=>rw[if_neg hz];exact hj2
   have z1:e1=0:=Decidable.byContradiction fun h=>by rw[diffV_1 h]at hz;exact h hz
   have z2:e2=0:=Decidable.byContradiction fun h=>by rw[diffV_2 z1 h]at hz;exact h hz
   have z3:a.filter inpB=b.filter inpB:=Decidable.byContradiction fun h=>by rw[diffV_3 z1 z2 h]at hz;cases hz
   rw[diffV_4 z1 z2 z3]
   rw[z1]at c2 c3;rw[z2]at k2 k3
   have B:=back_ok ha hb c2 k2 (c3 rfl) (k3 rfl) z3
   rw[if_pos (show((diffB a b,(0:Int)).2=0)from rfl),show F.delta_Apply a ((diffB a b,(0:Int)).1.1,(diffB a b,(0:Int)).1.2.1,(diffB a b,(0:Int)).1.2.2)=some (b,0)from B,Option.bind_some,if_neg (show ¬((b,(0:Int)).2≠0)from fun h=>h rfl),show F.R08_Same (b,(0:Int)).1 b=some true from R_Same_self hb,Option.bind_some,F.L09_DeltaBack_j3,if_neg (show ¬(!true)=true from Bool.false_ne_true)]
   exact hj2
end Go.Proofs.YtocfaokgoflmhaaDoor
end
section
namespace Go.Z
open Go.RowKit
def OpenT (P:Program)(T:TypeId)(t:Ty):Prop:=
 P.cellsOf T=t.size∧∀(H:Type) (enc:TypeId×Value→H) (w:World) (base:Nat) (spare:Nat→Bool) (held:Bool) (fuel:Nat) (cs:List Value) (x:DataW H×List MemPlace),
  DataW.trod enc P w base spare held fuel T cs=some x→∃y:t.den,t.rep w (nt []) cs y
section
variable {P:Program}{T e:TypeId}
theorem ot_int {k:IntKind}(hc:P.cellsOf T=1)(ht:P.underlying T=some (.int k)):OpenT P T (.int k):=⟨hc,fun H enc w base spare held fuel cs x h=>by
 obtain⟨n,rfl,_,hw⟩:=DataW.trod_int ht h
 refine⟨n,rfl,?_⟩
 simp only[Lit.wf,Bool.and_eq_true,decide_eq_true_eq]at hw
 exact hw⟩
theorem ot_str (hc:P.cellsOf T=1)(ht:P.underlying T=some .string):OpenT P T .str:=⟨hc,fun H enc w base spare held fuel cs x h=>by
 obtain⟨s,rfl,_,hs⟩:=DataW.trod_string ht h
 exact⟨s,rfl,hs⟩⟩
def OpenPs (P:Program):List (TypeId×Nat)→Nat→Ty→Prop
 | [],_,_=>False
 | [(T,o')],o,t=>o'=o∧OpenT P T t
 |(T,o')::p::ps,o,.pair a b=>o'=o∧OpenT P T a∧OpenPs P (p::ps) (o+a.size) b
 |_::_::_,_,_=>False
theorem open_ps {H:Type}{enc:TypeId×Value→H}{w:World}{base:Nat}{spare:Nat→Bool}{held:Bool}{fuel:Nat}{cs:List Value}:
  ∀(ps:List (TypeId×Nat)) (o:Nat) (t:Ty),OpenPs P ps o t→(∀p∈ps,∃x,DataW.trod enc P w base spare held fuel p.1 ((cs.drop p.2).take (P.cellsOf p.1))=some x)→∃y:t.den,t.rep w (nt []) ((cs.drop o).take t.size) y
 | [],_,_,h,_=>h.elim
 | [(T,o')],o,t,h,hx=>by
  obtain⟨rfl,⟨hc,ho⟩⟩:=h
  obtain⟨x,hx⟩:=hx (T,o') (List.mem_singleton.2 rfl)
  rw[←hc];exact ho _ _ _ _ _ _ _ _ _ hx
 |(T,o')::p::ps,o,.pair a b,h,hx=>by
  obtain⟨rfl,⟨hc,ho⟩,hr⟩:=h
  obtain⟨x,h1⟩:=hx (T,o') (List.mem_cons_self ..)
  obtain⟨ya,hya⟩:=ho _ _ _ _ _ _ _ _ _ h1
  obtain⟨yb,hyb⟩:=open_ps (p::ps) _ b hr fun q hq=>hx q (List.mem_cons_of_mem _ hq)
  refine⟨(ya,yb),_,_,?_,hya,hyb⟩
  show(cs.drop o').take (a.size+b.size)=_
  rw[hc,List.take_add,List.drop_drop]
 |_::_::_,_,.int _,h,_=>h.elim
 |_::_::_,_,.byte,h,_=>h.elim
 |_::_::_,_,.bool,h,_=>h.elim
 |_::_::_,_,.str,h,_=>h.elim
 |_::_::_,_,.slice _,h,_=>h.elim
theorem ot_struct {fs:List Field}{t:Ty}(hc:P.cellsOf T=t.size)(ht:P.underlying T=some (.struct fs.toArray))(h:OpenPs P (fs.map fun f=>(f.type,f.offset)) 0 t):OpenT P T t:=⟨hc,fun H enc w base spare held fuel cs x hx=>by
 obtain⟨xs,n,_,_,hl,hs,hf⟩:=DataW.trod_struct ht hx
 have hcs:cs=(cs.drop 0).take t.size:=by rw[List.drop_zero,List.take_of_length_le (by omega)]
 rw[hcs]
 refine open_ps (fuel:=n) (enc:=enc) (base:=base) (spare:=spare) (held:=held) _ 0 t h fun p hp=>?_
 obtain⟨f,hf1,rfl⟩:=List.mem_map.1 hp
 obtain⟨i,hi,he⟩:=List.getElem_of_mem hf1
 have h1:=hf i f (by rw[List.getElem?_toArray,List.getElem?_eq_getElem hi,he])
 rw[h1,List.getElem?_eq_getElem (by rw[hs];simpa using hi)]
 exact⟨_,rfl⟩⟩
theorem rows_of {t:Ty}{w:World}{g:Addr}: ∀(n:Nat),(∀i,i<n→∃(cs:List Value) (y:t.den),cs.length=t.size∧(∀j u,cs[j]?=some u→w.cell? (g.add (i*t.size+j))=some u)∧t.rep w (nt []) cs y)→
  ∃(cells:List Value) (ys:List t.den),ys.length=n∧cells.length=n*t.size∧(∀j u,cells[j]?=some u→w.cell? (g.add j)=some u)∧∀(i:Nat) (y:t.den),ys[i]?=some y→t.rep w (nt []) ((cells.drop (i*t.size)).take t.size) y
 |0,_=>⟨[],[],rfl,by simp,by simp,by simp⟩
 |n+1,h=>by
  obtain⟨cells,ys,h1,h2,h3,h4⟩:=rows_of n fun i hi=>h i (by omega)
  obtain⟨cs,y,c1,c2,c3⟩:=h n (by omega)
  refine⟨cells++cs,ys++[y],by simp[h1],by rw[List.length_append,h2,c1,Nat.succ_mul],fun j u hj=>?_,?_⟩
  ·by_cases hlt:j<cells.length
   ·rw[List.getElem?_append_left hlt]at hj;exact h3 j u hj
   ·rw[List.getElem?_append_right (by omega)]at hj
    have:=c2 _ u hj
    rwa[h2,show n*t.size+(j-n*t.size)=j by omega]at this
  ·refine rep_append (xs:=ys) (ys:=[y]) (by rw[h2,h1]) h4 fun i y' hi=>?_
   have:i=0:=by have:=(List.getElem?_eq_some_iff.1 hi).1;simp at this;omega
   subst this
   simp at hi;subst hi
   rw[Nat.zero_mul,List.drop_zero,List.take_of_length_le (by omega)];exact c3
theorem ot_slice {t:Ty}(hc:P.cellsOf T=1)(ht:P.underlying T=some (.slice e))(h:OpenT P e t):OpenT P T (.slice t):=⟨hc,fun H enc w base spare held fuel cs x hx=>by
 rcases DataW.trod_slice ht hx with⟨rfl,_⟩|⟨ad,len,cap,elems,rest,n,_,rfl,_,hb,hl,hm,hlen,hel,_,_⟩
 ·exact⟨[],rep_nil _⟩
 ·have each: ∀i,i<len→∃(cs:List Value) (y:t.den),cs.length=t.size∧(∀j u,cs[j]?=some u→w.cell? (ad.add (i*t.size+j))=some u)∧t.rep w (nt []) cs y:=fun i hi=>by
   have h1:=hel i hi
   rw[List.getElem?_eq_getElem (by omega),Option.bind_eq_some_iff]at h1
   obtain⟨cs',h2,h3⟩:=h1
   obtain⟨_,h4,h5⟩:=World.cells?_some h2
   obtain⟨y,hy⟩:=h.2 _ _ _ _ _ _ _ _ _ h3
   rw[h.1]at h4 h5
   refine⟨cs',y,h4,fun j u hj=>?_,hy⟩
   have hlt:=(List.getElem?_eq_some_iff.1 hj).1
   have:=h5 j (by omega)
   rw[add_add]at this
   rw[this,hj]
  obtain⟨cells,ys,h1,h2,h3,h4⟩:=rows_of len each
  by_cases hz:len=0
  ·subst hz
   have:ys=[]:=List.eq_nil_of_length_eq_zero h1
   subst this
   exact⟨[],some ad,cap,[],rfl,by simp,hm,by simp,.inl rfl,by simp⟩
  ·have hp:=pos_size t
   have hlt:0<cells.length:=by rw[h2];exact Nat.mul_pos (by omega) hp
   have h0:=h3 0 _ (List.getElem?_eq_getElem hlt)
   have hspot:=World.cell?_spot h0
   obtain⟨b,off,spot⟩:=ad
   simp only[Addr.add]at hspot
   subst hspot
   refine⟨ys,some ⟨b,off,none⟩,cap,cells,by rw[h1],by omega,hm,by rw[h1];exact h2,.inr ⟨b,off,rfl,by simp[nt],fun j u hj=>?_⟩,h4⟩
   have:=h3 j u hj
   rwa[Addr.add_lit]at this⟩
end
end Go.Z
end
section
namespace Go.Proofs.YtocfaokgoflmhaaDoor.deltaBackDone
open Go.ChangeShapes Go.WideShapes Go.ChangeAt Go.RowKit
set_option linter.unusedVariables false
theorem own:ownKnob Tryd.prog.godebug=none:=by kernel_rfl
theorem laidOut:laidOutB Tryd.prog=true:=by kernel_rfl
theorem ot3:Z.OpenT Tryd.prog 3 (Z.Ty.int .i64):=Z.ot_int (by kernel_rfl) Tryd.underlying3
theorem ot25:Z.OpenT Tryd.prog 25 (Z.Ty.slice (Z.Ty.int .i64)):=Z.ot_slice (by kernel_rfl) Tryd.underlying25 ot3
theorem ot2:Z.OpenT Tryd.prog 2 (Z.Ty.int .i64):=Z.ot_int (by kernel_rfl) Tryd.underlying2
theorem ot9:Z.OpenT Tryd.prog 9 Z.Ty.str:=Z.ot_str (by kernel_rfl) Tryd.underlying9
theorem ot41:Z.OpenT Tryd.prog 41 T40:=Z.ot_struct (by kernel_rfl) Tryd.underlying41 ⟨rfl,ot3,rfl,ot2,rfl,ot9⟩
theorem ot43:Z.OpenT Tryd.prog 43 T42:=Z.ot_struct (by kernel_rfl) Tryd.underlying43 ⟨rfl,ot3,rfl,ot3,rfl,ot25,rfl,ot41,rfl,ot9,rfl,ot2,rfl,ot3⟩
theorem ot22:Z.OpenT Tryd.prog 22 (Z.Ty.slice T42):=Z.ot_slice (by kernel_rfl) Tryd.underlying22 ot43
theorem ot24:Z.OpenT Tryd.prog 24 T23:=Z.ot_struct (by kernel_rfl) Tryd.underlying24 ⟨rfl,ot22⟩
theorem ot84:Z.OpenT Tryd.prog 84 T83:=Z.ot_struct (by kernel_rfl) Tryd.underlying84 ⟨rfl,ot3,rfl,ot3,rfl,ot3,rfl,ot2,rfl,ot41⟩
theorem ot26:Z.OpenT Tryd.prog 26 (Z.Ty.slice T83):=Z.ot_slice (by kernel_rfl) Tryd.underlying26 ot84
theorem ot28:Z.OpenT Tryd.prog 28 T27:=Z.ot_struct (by kernel_rfl) Tryd.underlying28 ⟨rfl,ot25,rfl,ot22,rfl,ot26⟩
set_option maxRecDepth 100000 in
theorem laid_met (os:Os)(args:Array Value):laidMetH Tryd.prog Rows.deltaBackRow.laid (({World.holding Tryd.prog os ⟨#[],#[],[]⟩with heap:=((World.holding Tryd.prog os ⟨#[],#[],[]⟩).heap.modify 0 (A.putCells A.tabF)).modify 1 (A.putCells A.tabA)}:World).forCall (fun _ _=>0) ⟨#[],args,[]⟩).memory:=by
 rw[MakeChecks.laidMetH_plain _ _ _ (by kernel_rfl)]
 exact(LaidIn.of_run (l:=Rows.deltaBackRow.laid) [1,0] 8 (by kernel_rfl) (by kernel_rfl) (by kernel_rfl) (by kernel_rfl)).met
theorem of_laid {W:World}(h:laidMetH Tryd.prog Rows.deltaBackRow.laid W):Lib.Utf8Tabs 0 1 W:=by
 rw[MakeChecks.laidMetH_plain _ _ _ (by kernel_rfl)]at h
 have h1:=Lib.laidMet.reads h (.tail _ (.head _))
 rw[show Rows.laid_unicode_utf8_first=Lib.firstData from Pinned.utf8First_eq]at h1
 have h2:=Lib.laidMet.reads h (.head _)
 rw[show(Rows.laid_unicode_utf8_acceptRanges:DataW Unit)=Lib.acceptData by kernel_rfl]at h2
 exact utf8Tabs_of_readsT (U8Types.of196 Tryd.laysValid) ⟨by kernel_rfl,by kernel_rfl,by kernel_rfl,by kernel_rfl,by kernel_rfl,by kernel_rfl,by kernel_rfl⟩ h1 h2
set_option maxHeartbeats 1000000 in
set_option maxRecDepth 100000 in
theorem lifted (os:Os)(started:os.Started)(H:Type)(enc:TypeId×Value→H):
  ReturnsInHanded {} Tryd.checked os 3 .any (fun w args=>(Rows.deltaBackSpec.pre enc Tryd.prog Tryd.f3 [] false w args∧laidMetH Tryd.prog Rows.deltaBackRow.laid w)∧sizedMet enc Tryd.prog Tryd.f3 (OpenSpec.ofChange Rows.deltaBackSpec) false w args) (Rows.deltaBackSpec.post enc Tryd.prog Tryd.f3 false true false false):=by
 refine returnsInHanded_of_change_and (C:=Tryd.checked) (X:=fun w _=>laidMetH Tryd.prog Rows.deltaBackRow.laid w) (fun _ _ _ hh h=>h.of_heap hh) own started (by kernel_rfl) Tryd.func3
  (ChangeSpec.witness_shaped (enc:=enc) (C:=Tryd.checked) (os:=os) (X:=fun w _=>laidMetH Tryd.prog Rows.deltaBackRow.laid w) false ({World.holding Tryd.prog os ⟨#[],#[],[]⟩with heap:=((World.holding Tryd.prog os ⟨#[],#[],[]⟩).heap.modify 0 (A.putCells A.tabF)).modify 1 (A.putCells A.tabA)}) #[.agg #[.slice none 0 0],.agg #[.slice none 0 0],.agg #[.slice none 0 0,.slice none 0 0,.slice none 0 0]] 16 rfl (World.shaped_of_RefB (by kernel_rfl) (by kernel_rfl)) (by kernel_rfl) (by kernel_rfl) (by kernel_rfl) (laid_met os _)) ?_
 intro W base args ds gs before hval0 hW hcnd _ hL _
 have hval: ∀(j:Nat) t v,Tryd.f3.params[j]?=some t→args[j]?=some v→Value.okWide Tryd.prog W .any base t v:=hval0
 have hW':=hW
 obtain⟨p,q,hA0,hV,rfl,hfz,hnd⟩:=hW
 have hA:DataW.TrodAll enc Tryd.prog W 0 (fun _=>true) true Tryd.f3.params.toList args.toList ds p:=hA0
 rw[Tryd.params3]at hA hval
 obtain⟨v0,vs0,d0,ds0,p0,q0,hargs,rfl,rfl,h0,r0⟩:=trodAll_cons hA
 obtain⟨v1,vs1,d1,ds1,p1,q1,rfl,rfl,rfl,h1,r1⟩:=trodAll_cons r0
 obtain⟨v2,vs2,d2,ds2,p2,q2,rfl,rfl,rfl,h2,r2⟩:=trodAll_cons r1
 obtain⟨rfl,rfl,rfl⟩:=trodAll_nil r2
 obtain rfl:args=#[v0,v1,v2]:=by cases args;simp_all
 obtain⟨rfl,rfl⟩:=trodVars_none hV
 have k0:=h0
 have lt0: ∀x∈p0,x.block<W.heap.size:=by obtain⟨m,hm⟩:=k0;exact DataW.trod_lt m _ _ _ hm
 obtain⟨fu0,hf0⟩:=h0
 obtain⟨x0,hx0⟩:=ot24.2 _ _ _ _ _ _ _ _ _ hf0
 obtain⟨cs0,rfl,_⟩:=okWide_struct Tryd.underlying24 (hval 0 24 v0 rfl rfl)
 replace hx0:T23.rep W (Z.nt []) cs0.toList x0:=hx0
 have hok0:=Z.rep_ok _ hx0
 obtain⟨a0,c0,hc0⟩: ∃a c,cs0.toList=[.slice a x0.length c]:=by obtain⟨a,c,_,h,_⟩:=hx0;exact⟨a,c,h⟩
 obtain rfl:cs0=#[.slice a0 x0.length c0]:=by rw[←Array.toArray_toList (xs:=cs0),hc0]
 have k1:=h1
 have lt1: ∀x∈p1,x.block<W.heap.size:=by obtain⟨m,hm⟩:=k1;exact DataW.trod_lt m _ _ _ hm
 obtain⟨fu1,hf1⟩:=h1
 obtain⟨x1,hx1⟩:=ot24.2 _ _ _ _ _ _ _ _ _ hf1
 obtain⟨cs1,rfl,_⟩:=okWide_struct Tryd.underlying24 (hval 1 24 v1 rfl rfl)
 replace hx1:T23.rep W (Z.nt []) cs1.toList x1:=hx1
 have hok1:=Z.rep_ok _ hx1
 obtain⟨a1,c1,hc1⟩: ∃a c,cs1.toList=[.slice a x1.length c]:=by obtain⟨a,c,_,h,_⟩:=hx1;exact⟨a,c,h⟩
 obtain rfl:cs1=#[.slice a1 x1.length c1]:=by rw[←Array.toArray_toList (xs:=cs1),hc1]
 have k2:=h2
 have lt2: ∀x∈p2,x.block<W.heap.size:=by obtain⟨m,hm⟩:=k2;exact DataW.trod_lt m _ _ _ hm
 obtain⟨fu2,hf2⟩:=h2
 obtain⟨x2,hx2⟩:=ot28.2 _ _ _ _ _ _ _ _ _ hf2
 obtain⟨cs2,rfl,_⟩:=okWide_struct Tryd.underlying28 (hval 2 28 v2 rfl rfl)
 replace hx2:T27.rep W (Z.nt []) cs2.toList x2:=hx2
 have hok2:=Z.rep_ok _ hx2
 obtain⟨ca1,cb2,he3,hr4,hr5⟩:=hx2
 obtain⟨A6,c7,he8,hn9,hn10⟩:=Z.rep_slice hr4
 rw[he8]at hr4
 have hle_A6:=Z.rep_le hr4
 obtain⟨ca11,cb12,he13,hr14,hr15⟩:=hr5
 obtain⟨A16,c17,he18,hn19,hn20⟩:=Z.rep_slice hr14
 rw[he18]at hr14
 have hle_A16:=Z.rep_le hr14
 obtain⟨A21,c22,he23,hn24,hn25⟩:=Z.rep_slice hr15
 rw[he23]at hr15
 have hle_A21:=Z.rep_le hr15
 have he2:cs2.toList=[.slice A6 x2.1.length c7,.slice A16 x2.2.1.length c17,.slice A21 x2.2.2.length c22]:=by simp only[he3,he8,he13,he18,he23,List.cons_append,List.nil_append]
 obtain rfl:cs2=#[.slice A6 x2.1.length c7,.slice A16 x2.2.1.length c17,.slice A21 x2.2.2.length c22]:=by rw[←Array.toArray_toList (xs:=cs2),he2]
 clear hA0 hval0
 have htab:=of_laid hL
 have hF:F.L09_DeltaBack x0 x1 x2=some true:=deltaBack_plain x0 x1 x2 hok0 hok1 hok2
 have hct:=L09_DeltaBack_ok x0 x1 x2 a0 c0 a1 c1 A6 c7 A16 c17 A21 c22 true hF
 refine(hct W (fun _=>True) (A.Hp.start ⟨A.Hall.sh hx0,A.Hall.sh hx1,A.Hall.sh hr4,A.Hall.sh hr14,A.Hall.sh hr15,A.Hall.tabs htab⟩)).mono ?_
 rintro e W' ⟨v,H',rfl,⟨rfl,rfl⟩,hh⟩
 have bel:=hh.ch.below
 exact⟨_,rfl,_,_,_,[],_,[],hW',trodAll_mk1 (shut_bool Tryd.underlying4 _),(trodAll_cons_mk (Below.trod laidOut (by kernel_rfl) (of_decide_eq_true (by kernel_rfl)) k0 bel lt0) (trodAll_cons_mk (Below.trod laidOut (by kernel_rfl) (of_decide_eq_true (by kernel_rfl)) k1 bel lt1) (trodAll_cons_mk (Below.trod laidOut (by kernel_rfl) (of_decide_eq_true (by kernel_rfl)) k2 bel lt2) trodAll_mk0))),rfl,bel.frame _,fun h=>by cases h⟩
theorem over:Rows.deltaBackRow.holds Tryd.pinned (OpenSpec.ofChange Rows.deltaBackSpec):=
 OpenClaim.holds_of_wide 3 Tryd.f3 rfl rfl rfl rfl rfl rfl rfl ⟨rfl,rfl,rfl,rfl,rfl⟩ rfl rfl rfl rfl rfl (by kernel_rfl) Tryd.func3 (by kernel_rfl)
  (of_decide_eq_true (by kernel_rfl)) (by unfold Func.isWrapper;first|(rw[if_pos (by decide+kernel)];kernel_rfl)|(rw[if_neg (by decide+kernel)];exact⟨rfl,rfl⟩))
  (fun os started H enc _=>lifted os started H enc)
theorem proved:Rows.DeltaBackCardSaid:=
 Claim7.holds_tied_plain_at .later [] [.data,.pinned] true (true,"88323bb34adf3011c33b5b52f51e62f06275afdaa50dbb3d16d3785158e50ae7") false
  over (fun _ h=>by cases h) (by kernel_rfl) (fun _ h=>by cases h) deltaBack_row_tie rfl ⟨rfl,rfl⟩ (by kernel_rfl) rfl
  (fun f fn hf hfn=>by
   obtain rfl:f=3:=Option.some.inj ((show Tryd.prog.funcNamed Rows.deltaBackRow.func=some 3 by kernel_rfl).symm.trans hf) |>.symm
   obtain rfl:fn=Tryd.f3:=(Option.some.inj (Tryd.func3.symm.trans hfn)).symm
   exact⟨by kernel_rfl,fun j t ht=>by
    rw[Tryd.params3]at ht
    have hm:t∈[24,24,28]:=by simpa using Array.mem_of_getElem? ht
    have hall:([24,24,28].all fun u=> !Tryd.prog.wantsStandIn u)=true:=by kernel_rfl
    exact(show Tryd.prog.wantsStandIn t=false by simpa using List.all_eq_true.1 hall t hm)⟩)
  (by kernel_rfl)
#print axioms proved
end Go.Proofs.YtocfaokgoflmhaaDoor.deltaBackDone
end
