/- The law 'GraphOrder' as it is given: whatever the input, the call returns true, and each argument reads behind it as it read before. No condition but that utf8's two tables hold what the library's text lays, which the card ties. -/
import Derived.Test.YtbdlcighhphaoaaDoorKC3
import Derived.Test.YtbdlcighhphaoaaDoorKC0
import Derived.OpenShut
import Derived.ShutString
import Derived.ChangeOld
import Derived.ChangeArms
import Derived.DataReads
import Derived.Test.YtbdlcighhphaoaaDoorRows
import Derived.Test.YtbdlcighhphaoaaDoorTie
import Derived.Test.YtbdlcighhphaoaaDoorCards
import Derived.WalkKit
import Derived.ProofKit
import Derived.Below
import Derived.LaidMore
import Derived.Stop.Joined
import Derived.SevenTiedAt
import Derived.Lib.LaidIn
import Derived.Lib.LaidU8T
import Derived.PinnedBridge
import Derived.SizedLaws
section
set_option linter.unusedVariables false
set_option linter.unusedSimpArgs false
set_option synthInstance.maxSize 1000000
set_option synthInstance.maxHeartbeats 400000
namespace Go.Proofs.YtbdlcighhphaoaaDoor
open Go.RowKit Go.Graph
inductive Rch {α:Type} (R:α→α→Prop) (a:α):α→Prop
 |one {b:α} (h:R a b):Rch R a b
 |step {b c:α} (h:Rch R a b) (h2:R b c):Rch R a c
theorem insS_at (g:List Nd)(d:List Int)(id:Int): ∀(k:Nat) (l:List Int) (p:Pl) (v:Int),(p,v)∈insS g d id k l→p.1=id∧(k:Int)≤p.2∧p.2<(k:Int)+l.length
 |_,[],_,_,h=>by cases h
 |k,z::r,p,v,h=>by
  unfold insS at h
  rw[List.length_cons]
  rcases List.mem_cons.1 h with h|h
  ·injection h with h1 h2;subst h1;refine⟨rfl,Int.le_refl _,?_⟩;simp only[];omega
  ·have:=insS_at g d id (k+1) r p v h;omega
theorem insS_nodup (g:List Nd)(d:List Int)(id:Int): ∀(k:Nat) (l:List Int),((insS g d id k l).map (·.1)).Nodup
 |_,[]=>List.nodup_nil
 |k,z::r=>by
  unfold insS
  rw[List.map_cons,List.nodup_cons]
  refine⟨fun h=>?_,insS_nodup g d id (k+1) r⟩
  obtain⟨⟨p,v⟩,h1,h2⟩:=List.mem_map.1 h
  have:=insS_at g d id (k+1) r p v h1
  simp only[]at h2
  rw[h2]at this;simp only[]at this;omega
theorem spotsF_ids {g:List Nd}(d:List Int): ∀(k:Nat) (l:List Nd) (sp:Sp),sp∈spotsF g d k l→∃n∈l,n.1=sp.1.1
 |_,[],_,h=>by cases h
 |k,n::r,sp,h=>by
  unfold spotsF at h
  rcases List.mem_append.1 h with h|h
  ·exact⟨n,List.mem_cons_self ..,(insS_at g d n.1 0 _ sp.1 sp.2 h).1.symm⟩
  ·rcases List.mem_append.1 h with h|h
   ·unfold outS at h
    split at h
    ·rw[List.mem_singleton]at h;subst h;exact⟨n,List.mem_cons_self ..,rfl⟩
    ·cases h
   ·obtain⟨m,h1,h2⟩:=spotsF_ids d (k+1) r sp h
    exact⟨m,List.mem_cons_of_mem _ h1,h2⟩
theorem spotsF_nodup {g:List Nd}(d:List Int): ∀(k:Nat) (l:List Nd),l.Pairwise (fun a b=>a.1<b.1)→(∀n∈l,n.2.2.1.length≤2)→((spotsF g d k l).map (·.1)).Nodup
 |_,[],_,_=>List.nodup_nil
 |k,n::r,hp,hl=>by
  rw[List.pairwise_cons]at hp
  have h2:=hl n (List.mem_cons_self ..)
  unfold spotsF
  rw[List.map_append,List.nodup_append,List.map_append,List.nodup_append]
  have hrest: ∀p∈(spotsF g d (k+1) r).map (·.1),p.1≠n.1:=fun p hp2 e=>by
   obtain⟨sp,h1,rfl⟩:=List.mem_map.1 hp2
   obtain⟨m,h3,h4⟩:=spotsF_ids d (k+1) r sp h1
   have:=hp.1 m h3;omega
  have hout: ∀p∈(outS n (iget d (k:Int))).map (·.1),p=(n.1,2):=fun p hp2=>by
   unfold outS at hp2
   split at hp2
   ·simpa using hp2
   ·cases hp2
  have hin: ∀p∈(insS g d n.1 0 n.2.2.1).map (·.1),p.1=n.1∧p.2<2:=fun p hp2=>by
   obtain⟨⟨q,v⟩,h1,rfl⟩:=List.mem_map.1 hp2
   have:=insS_at g d n.1 0 _ q v h1
   simp only[];omega
  refine⟨insS_nodup g d n.1 0 _,⟨?_,spotsF_nodup d (k+1) r hp.2 (fun x hx=>hl x (List.mem_cons_of_mem _ hx)),?_⟩,?_⟩
  ·unfold outS;split<;>simp
  ·intro a ha b hb e
   have h3:=hout a ha
   subst e
   exact hrest a hb (by rw[h3])
  ·intro a ha b hb e
   subst e
   have h3:=hin a ha
   rcases List.mem_append.1 hb with hb|hb
   ·have:=hout a hb;rw[this]at h3;simp only[]at h3;omega
   ·exact hrest a hb h3.1
theorem useN_mem (id nd:Int): ∀(k:Nat) (l:List Int) (u:Pl),u∈useN id nd k l→u.1=nd∧∃j:Nat,u.2=(k:Int)+j∧j<l.length
 |_,[],u,h=>by cases h
 |k,z::r,u,h=>by
  unfold useN at h
  have hrec:u∈useN id nd (k+1) r→u.1=nd∧∃j:Nat,u.2=(k:Int)+j∧j<(z::r).length:=fun h=>by
   obtain⟨h1,j,h2,h3⟩:=useN_mem id nd (k+1) r u h
   exact⟨h1,j+1,by omega,by rw[List.length_cons];omega⟩
  split at h
  ·rcases List.mem_cons.1 h with rfl|h
   ·exact⟨rfl,0,by simp,by rw[List.length_cons];omega⟩
   ·exact hrec h
  ·exact hrec h
theorem insS_get (g:List Nd)(d:List Int)(id:Int): ∀(k:Nat) (l:List Int) (j:Nat),j<l.length→∃v,((id,(k:Int)+j),v)∈insS g d id k l
 |_,[],j,h=>by simp at h
 |k,z::r,j,h=>by
  unfold insS
  cases j with
  |zero=>exact⟨iget d (idx g z),by simp⟩
  |succ j=>
   rw[List.length_cons]at h
   obtain⟨v,hv⟩:=insS_get g d id (k+1) r j (by omega)
   refine⟨v,List.mem_cons_of_mem _ ?_⟩
   have e:(k:Int)+((j+1:Nat):Int)=((k+1:Nat):Int)+(j:Int):=by omega
   rw[e];exact hv
theorem spotsF_ins {g:List Nd}(d:List Int): ∀(k:Nat) (l:List Nd) (n:Nd),n∈l→∀sp∈insS g d n.1 0 n.2.2.1,sp∈spotsF g d k l
 |_,[],_,h,_,_=>by cases h
 |k,m::r,n,h,sp,hs=>by
  unfold spotsF
  rcases List.mem_cons.1 h with rfl|h
  ·exact List.mem_append_left _ hs
  ·exact List.mem_append_right _ (List.mem_append_right _ (spotsF_ins d (k+1) r n h sp hs))
theorem spotsF_out {g:List Nd}(d:List Int): ∀(k:Nat) (l:List Nd) (n:Nd),n∈l→n.2.1≠15→∃v,((n.1,2),v)∈spotsF g d k l
 |_,[],_,h,_=>by cases h
 |k,m::r,n,h,h15=>by
  unfold spotsF
  rcases List.mem_cons.1 h with rfl|h
  ·exact⟨iget d (k:Int),List.mem_append_right _ (List.mem_append_left _ (by unfold outS;rw[if_pos h15];simp))⟩
  ·obtain⟨v,hv⟩:=spotsF_out d (k+1) r n h h15
   exact⟨v,List.mem_append_right _ (List.mem_append_right _ hv)⟩
theorem usesF_mem (id:Int): ∀(l:List Nd) (u:Pl),u∈usesF id l→∃n∈l,u.1=n.1∧∃j:Nat,u.2=(j:Int)∧j<n.2.2.1.length
 | [],u,h=>by cases h
 |n::r,u,h=>by
  unfold usesF at h
  rcases List.mem_append.1 h with h|h
  ·obtain⟨h1,j,h2,h3⟩:=useN_mem id n.1 0 _ u h
   exact⟨n,List.mem_cons_self ..,h1,j,by omega,h3⟩
  ·obtain⟨m,h1,h2⟩:=usesF_mem id r u h
   exact⟨m,List.mem_cons_of_mem _ h1,h2⟩
theorem inE_mem (g:List Nd)(d:List Int)(n:Nd): ∀(k:Nat) (l:List Int) (e:Ed),e∈inE g d n k l→e.1.1=n.1∧(k:Int)≤e.1.2∧e.1.2<(k:Int)+l.length∧e.2.1=(n.1,2)
 |_,[],_,h=>by cases h
 |k,z::r,e,h=>by
  unfold inE at h
  rw[List.length_cons]
  rcases List.mem_cons.1 h with rfl|h
  ·refine⟨rfl,Int.le_refl _,?_,rfl⟩;simp only[];omega
  ·have:=inE_mem g d n (k+1) r e h
   refine⟨this.1,by omega,by omega,this.2.2.2⟩
theorem edgesF_mem {g:List Nd}(d:List Int): ∀(k:Nat) (l:List Nd) (e:Ed),e∈edgesF g d k l→∃n∈l,e.1.1=n.1∧((n.2.1≠15∧e.2.1=(n.1,2)∧0≤e.1.2∧e.1.2<n.2.2.1.length)∨(e.1.2=2∧∃m∈g,e.2.1.1=m.1∧∃j:Nat,e.2.1.2=(j:Int)∧j<m.2.2.1.length))
 |_,[],_,h=>by cases h
 |k,n::r,e,h=>by
  unfold edgesF at h
  have hrec:e∈edgesF g d (k+1) r→∃m∈n::r,e.1.1=m.1∧((m.2.1≠15∧e.2.1=(m.1,2)∧0≤e.1.2∧e.1.2<m.2.2.1.length)∨(e.1.2=2∧∃q∈g,e.2.1.1=q.1∧∃j:Nat,e.2.1.2=(j:Int)∧j<q.2.2.1.length)):=fun h=>by
   obtain⟨m,h1,h2⟩:=edgesF_mem d (k+1) r e h
   exact⟨m,List.mem_cons_of_mem _ h1,h2⟩
  split at h
  ·exact hrec h
  ·rename_i h15
   rcases List.mem_append.1 h with h|h
   ·obtain⟨h1,h2,h3,h4⟩:=inE_mem g d n 0 _ e h
    exact⟨n,List.mem_cons_self ..,h1,.inl ⟨h15,h4,by omega,by omega⟩⟩
   ·rcases List.mem_append.1 h with h|h
    ·unfold outE at h
     obtain⟨u,hu,rfl⟩:=List.mem_map.1 h
     obtain⟨m,h1,h2⟩:=usesF_mem n.1 g u hu
     exact⟨n,List.mem_cons_self ..,rfl,.inr ⟨rfl,m,h1,h2⟩⟩
    ·exact hrec h
theorem edge_to {g:List Nd}(d:List Int){e:Ed}(he:e∈edges g d): ∃v,(e.2.1,v)∈spots g d:=by
 obtain⟨n,hn,h1,h|h⟩:=edgesF_mem d 0 g e he
 ·obtain⟨v,hv⟩:=spotsF_out d 0 g n hn h.1
  exact⟨v,by rw[h.2.1];exact hv⟩
 ·obtain⟨_,m,hm,h2,j,h3,h4⟩:=h
  obtain⟨v,hv⟩:=insS_get g d m.1 0 m.2.2.1 j h4
  refine⟨v,spotsF_ins d 0 g m hm _ ?_⟩
  have e1:e.2.1=(m.1,((0:Nat):Int)+(j:Int)):=Prod.ext h2 (by rw[h3];simp)
  rw[e1];exact hv
theorem edge_from {g:List Nd}(d:List Int){e:Ed}(he:e∈edges g d): ∃n∈g,e.1.1=n.1:=by
 obtain⟨n,hn,h1,_⟩:=edgesF_mem d 0 g e he
 exact⟨n,hn,h1⟩
theorem edge_out {g:List Nd}(d:List Int)(ho:Own g){e:Ed}(he:e∈edges g d)(h2:e.2.1.2=2):e.1.1=e.2.1.1∧e.1.2≠2:=by
 obtain⟨n,hn,h1,h|h⟩:=edgesF_mem d 0 g e he
 ·have:=in2 ho hn
  exact⟨by rw[h1,h.2.1],by omega⟩
 ·obtain⟨_,m,hm,_,j,h3,h4⟩:=h
  have:=in2 ho hm
  omega
theorem atS_mem {p:Pl}: ∀{l:List Sp} {v:Int},(l.map (·.1)).Nodup→(p,v)∈l→atS p l=v
 | [],_,_,h=>by cases h
 |x::r,v,hn,h=>by
  rw[List.map_cons,List.nodup_cons]at hn
  unfold atS
  rcases List.mem_cons.1 h with rfl|h
  ·rw[if_pos rfl]
  ·rw[if_neg (fun e=>hn.1 (by rw[e];exact List.mem_map_of_mem (f:=(·.1)) h))]
   exact atS_mem hn.2 h
theorem R_at_eq (l:List Sp)(p:Pl)(hl:l.length≤100000):F.dB l p=some (atS p l):=
 A.lp0 l (fun f y=>F.cH l p f y) (fun _ t=>some (atS p t))
  (fun f=>by rw[F.cH,if_neg (by omega)];rfl)
  (fun f k x hx hk ih=>by
   rw[F.cH,if_pos (by omega),A.ixn hx,Option.bind_some,Option.bind_some,atS]
   by_cases h:x.1=p
   ·rw[if_pos (show x.1=p from h),if_pos h]
   ·rw[if_neg (show ¬x.1=p from h),if_neg h,A.gd1 (A.r64n (by omega)),ih])
  (by have:=FU_big;omega)
theorem R_on_eq (l:List Pl)(p:Pl)(hl:l.length≤100000):F.dl l p=some (decide (p∈l)):=
 A.lp0 l (fun f y=>F.cI l p f y) (fun _ t=>some (decide (p∈t)))
  (fun f=>by rw[F.cI,if_neg (by omega)];simp)
  (fun f k x hx hk ih=>by
   rw[F.cI,if_pos (by omega),A.ixn hx,Option.bind_some]
   by_cases h:x=p
   ·rw[if_pos (show x=p from h)];simp[h]
   ·rw[if_neg (show ¬x=p from h),A.gd1 (A.r64n (by omega)),ih]
    congr 1
    exact decide_eq_decide.2 ⟨fun h2=>List.mem_cons_of_mem _ h2,fun h2=>(List.mem_cons.1 h2).resolve_left fun e=>h e.symm⟩)
  (by have:=FU_big;omega)
def openB (g:List Nd)(S:List Sp)(dd:Int)(e:Ed):Bool:=decide (dd≤atS e.2.1 S)&&(decide ((find g e.1.1).1.2.1≠14)||decide ((find g e.1.1).1.2.2.2.2.2.2≠dd)||decide (e.1.2=2))
theorem R_open_eq (g:List Nd)(S:List Sp)(e:Ed)(dd:Int)(hb:Few g)(hi:Inc g)(hS:S.length≤100000)(hf: ∃n∈g,e.1.1=n.1):F.dd g S e dd=some (openB g S dd e):=by
 obtain⟨n,hn,h1⟩:=hf
 obtain⟨j,hj⟩:=List.mem_iff_getElem?.1 hn
 unfold F.dd openB
 rw[h1,Find_eq g hb hi hj,Option.bind_some,show F.dB S e.2.1=_ from R_at_eq S e.2.1 hS,Option.bind_some,find_eq hi hj]
 by_cases h:dd≤atS e.2.1 S
 ·rw[if_pos h,decide_eq_true h,Bool.true_and]
  congr 1
 ·rw[if_neg h,decide_eq_false h,Bool.false_and]
def addR (g:List Nd)(S:List Sp)(dd:Int)(cur:Pl):List Ed→List Pl→List Pl
 | [],r=>r
 |e::t,r=>addR g S dd cur t (if e.1=cur∧openB g S dd e=true∧e.2.1∉r then r++[e.2.1]else r)
theorem round_l3 (g:List Nd)(S:List Sp)(E:List Ed)(from_:Sp)(k3:List Pl→List Pl→Int→Option Bool)(y:Nat)(cur:Pl)(r:List Pl)(hb:Few g)(hi:Inc g)(hS:S.length≤100000)(hE:E.length≤5000)(hf: ∀e∈E,∃n∈g,e.1.1=n.1)(hc:(from_.1::r)[y]?=some cur)(hy:y≤10000)(hr:r.length≤9000)(hall: ∀k,(addR g S from_.2 cur (E.take k) r).length≤9000):
  F.aY k3 g S E from_ (y:Int) A.FU r (from_.1::r) 0=k3 (addR g S from_.2 cur E r) (from_.1::addR g S from_.2 cur E r) ((y:Int)+1):=
 A.lp E (fun f (s:List Pl×List Pl) i=>F.aY k3 g S E from_ (y:Int) f s.1 s.2 i) (fun k t s=>k3 (addR g S from_.2 cur t s.1) (from_.1::addR g S from_.2 cur t s.1) ((y:Int)+1)) (fun k s=>s.2=from_.1::s.1∧s.2[y]?=some cur∧s.1=addR g S from_.2 cur (E.take k) r)
  (fun f s hs=>by
   rw[F.aY,if_neg (by omega),A.gd1 (A.r64n (by omega)),hs.1];rfl)
  (fun f s k e he hk hs ih=>by
   obtain⟨q,r'⟩:=s
   obtain⟨h1,h2,h3⟩:=hs
   simp only[]at h1 h2 h3
   have hlen:q.length≤9000:=by rw[h3];exact hall _
   have hsnoc: ∀(t:List Ed) (e:Ed) (r:List Pl),addR g S from_.2 cur (t++[e]) r=(if e.1=cur∧openB g S from_.2 e=true∧e.2.1∉addR g S from_.2 cur t r then addR g S from_.2 cur t r++[e.2.1]else addR g S from_.2 cur t r):=by
    intro t
    induction t with
    |nil=>intro e r;rfl
    |cons x t iht=>intro e r;rw[List.cons_append,addR,addR];exact iht e _
   have hnext:addR g S from_.2 cur (E.take (k+1)) r=if e.1=cur∧openB g S from_.2 e=true∧e.2.1∉q then q++[e.2.1]else q:=by
    rw[take_s he,hsnoc,←h3]
   have hopen:=R_open_eq g S e from_.2 hb hi hS (hf e (List.mem_of_getElem? he))
   rw[F.aY,if_pos (by omega),A.ixn he,Option.bind_some,A.ixn h2,Option.bind_some,addR]
   simp only[F.cu,F.cV,A.ixn he,Option.bind_some,A.gd1 (A.r64n (n:=k) (by omega)),Bool.false_eq_true,if_false]
   have stay: ¬(e.1=cur∧openB g S from_.2 e=true∧e.2.1∉q)→F.aY k3 g S E from_ (y:Int) f q r' ((k:Int)+1)=k3 (addR g S from_.2 cur (E.drop (k+1)) (if e.1=cur∧openB g S from_.2 e=true∧e.2.1∉q then q++[e.2.1]else q)) (from_.1::addR g S from_.2 cur (E.drop (k+1)) (if e.1=cur∧openB g S from_.2 e=true∧e.2.1∉q then q++[e.2.1]else q)) ((y:Int)+1):=fun hn=>by
    rw[if_neg hn]at hnext ⊢
    exact ih (q,r') ⟨h1,h2,hnext.symm⟩
   by_cases hcur:e.1=cur
   ·rw[if_pos (show e.1=cur from hcur),show F.dd g S (e.1,e.2.1,(e.2.2.1,e.2.2.2.1,e.2.2.2.2.1,e.2.2.2.2.2.1,(e.2.2.2.2.2.2.1,e.2.2.2.2.2.2.2.1,e.2.2.2.2.2.2.2.2.1,e.2.2.2.2.2.2.2.2.2))) from_.2=_ from hopen,Option.bind_some]
    by_cases ho:openB g S from_.2 e=true
    ·rw[if_pos ho,show F.dl q e.2.1=_ from R_on_eq q e.2.1 (by omega),Option.bind_some]
     by_cases hm:e.2.1∈q
     ·rw[decide_eq_true hm,Bool.not_true,if_neg Bool.false_ne_true]
      exact stay fun h=>h.2.2 hm
     ·have hc3:e.1=cur∧openB g S from_.2 e=true∧e.2.1∉q:=⟨hcur,ho,hm⟩
      rw[decide_eq_false hm,Bool.not_false,if_pos rfl,A.gd1 (by simp only[List.length_cons,List.length_nil];omega),A.gd1 (by rw[h1];simp only[List.length_cons,List.length_nil];omega),if_pos hc3]
      rw[if_pos hc3]at hnext
      refine ih (q++[e.2.1],r'++[e.2.1]) ⟨?_,?_,hnext.symm⟩
      ·simp only[h1,List.cons_append]
      ·simp only[]
       rw[List.getElem?_append_left (List.getElem?_eq_some_iff.1 h2).1];exact h2
    ·rw[if_neg ho]
     exact stay fun h=>ho h.2.1
   ·rw[if_neg (show ¬e.1=cur from hcur)]
    exact stay fun h=>hcur h.1)
  (by have:=FU_big;omega) (r,from_.1::r) ⟨rfl,hc,rfl⟩
def okE (g:List Nd)(S:List Sp)(E:List Ed)(dd:Int)(p q:Pl):Prop:=∃e∈E,e.1=p∧e.2.1=q∧openB g S dd e=true
theorem addR_mono (g:List Nd)(S:List Sp)(dd:Int)(cur:Pl): ∀(t:List Ed) (r:List Pl),∃x,addR g S dd cur t r=r++x∧(∀p∈x,∃e∈t,e.1=cur∧e.2.1=p∧openB g S dd e=true)∧(r.Nodup→(r++x).Nodup)∧(∀e∈t,e.1=cur→openB g S dd e=true→e.2.1∈r++x)
 | [],r=>⟨[],by rw[addR,List.append_nil],by simp,by simp,by simp⟩
 |e::t,r=>by
  rw[addR]
  by_cases h:e.1=cur∧openB g S dd e=true∧e.2.1∉r
  ·rw[if_pos h]
   obtain⟨x,h1,h2,h3,h4⟩:=addR_mono g S dd cur t (r++[e.2.1])
   refine⟨e.2.1::x,by rw[h1];simp,fun p hp=>?_,fun hn=>?_,fun e2 he2 a b=>?_⟩
   ·rcases List.mem_cons.1 hp with rfl|hp
    ·exact⟨e,List.mem_cons_self ..,h.1,rfl,h.2.1⟩
    ·obtain⟨e2,a,b⟩:=h2 p hp;exact⟨e2,List.mem_cons_of_mem _ a,b⟩
   ·have:=h3 (List.nodup_append.2 ⟨hn,by simp,fun a ha b hb=>by rw[List.mem_singleton]at hb;subst hb;intro e2;subst e2;exact h.2.2 ha⟩)
    simpa using this
   ·rcases List.mem_cons.1 he2 with rfl|he2
    ·simp
    ·have:=h4 e2 he2 a b;simpa using this
  ·rw[if_neg h]
   obtain⟨x,h1,h2,h3,h4⟩:=addR_mono g S dd cur t r
   refine⟨x,h1,fun p hp=>?_,h3,fun e2 he2 a b=>?_⟩
   ·obtain⟨e2,a,b⟩:=h2 p hp;exact⟨e2,List.mem_cons_of_mem _ a,b⟩
   ·rcases List.mem_cons.1 he2 with rfl|he2
    ·refine List.mem_append_left _ ?_
     by_cases hm:e2.2.1∈r
     ·exact hm
     ·exact absurd ⟨a,b,hm⟩ h
    ·exact h4 e2 he2 a b
theorem nodup_len {α:Type}[DecidableEq α]: ∀{l m:List α},l.Nodup→(∀x∈l,x∈m)→l.length≤m.length
 | [],m,_,_=>Nat.zero_le _
 |a::l,m,hn,h=>by
  rw[List.nodup_cons]at hn
  have ha:=h a (List.mem_cons_self ..)
  have:=nodup_len (l:=l) (m:=m.erase a) hn.2 fun x hx=>(List.mem_erase_of_ne (fun e=>by subst e;exact hn.1 hx)).2 (h x (List.mem_cons_of_mem _ hx))
  rw[List.length_erase_of_mem ha]at this
  have hpos:0<m.length:=List.length_pos_of_mem ha
  rw[List.length_cons];omega
theorem round_eq (g:List Nd)(S:List Sp)(E:List Ed)(from_:Sp)(hb:Few g)(hi:Inc g)(hS:S.length≤100000)(hE:E.length≤4000)(hf: ∀e∈E,∃n∈g,e.1.1=n.1):
  ∃b,F.c2 g S E from_=some b∧(b=true↔Rch (okE g S E from_.2) from_.1 from_.1):=by
 have sub: ∀(r:List Pl),r.Nodup→(∀p∈r,∃e∈E,e.2.1=p)→r.length≤4000:=fun r hn h=>by
  have:=nodup_len (m:=E.map fun e=>e.2.1) hn fun p hp=>by obtain⟨e,h1,h2⟩:=h p hp;exact List.mem_map.2 ⟨e,h1,h2⟩
  rw[List.length_map]at this;omega
 have main: ∀(n f y:Nat) (r:List Pl),y+n=4002→n<f→r.Nodup→y≤1+r.length→(∀p∈r,∃e∈E,e.2.1=p)→(∀p∈r,Rch (okE g S E from_.2) from_.1 p)→(∀i p q,i<y→(from_.1::r)[i]?=some p→okE g S E from_.2 p q→q∈r)→
   ∃b,F.cv g S E from_ f r (from_.1::r) (y:Int)=some b∧(b=true↔Rch (okE g S E from_.2) from_.1 from_.1):=by
  intro n
  induction n with
  |zero=>
   intro f y r hy hf' hn hyl hsub _ _
   have:=sub r hn hsub
   omega
  |succ n ih=>
   intro f y r hy hf' hn hyl hsub hreach hclosed
   obtain⟨f,rfl⟩: ∃f',f=f'+1:=⟨f-1,by omega⟩
   have hl:=sub r hn hsub
   rw[F.cv]
   by_cases h:y<1+r.length
   ·obtain⟨cur,hcur⟩: ∃c,(from_.1::r)[y]?=some c:=⟨_,List.getElem?_eq_getElem (by rw[List.length_cons];omega)⟩
    obtain⟨x,h1,h2,h3,h4⟩:=addR_mono g S from_.2 cur E r
    have hsub2: ∀p∈r++x,∃e∈E,e.2.1=p:=fun p hp=>by
     rcases List.mem_append.1 hp with hp|hp
     ·exact hsub p hp
     ·obtain⟨e,a,_,b,_⟩:=h2 p hp;exact⟨e,a,b⟩
    have hall: ∀k,(addR g S from_.2 cur (E.take k) r).length≤9000:=fun k=>by
     obtain⟨x',a,b,c,_⟩:=addR_mono g S from_.2 cur (E.take k) r
     have:=sub (r++x') (c hn) fun p hp=>by
      rcases List.mem_append.1 hp with hp|hp
      ·exact hsub p hp
      ·obtain⟨e,a2,_,b2,_⟩:=b p hp;exact⟨e,List.mem_of_mem_take a2,b2⟩
     rw[a];omega
    rw[if_pos (by rw[List.length_cons];omega),round_l3 g S E from_ _ y cur r hb hi hS (by omega) hf hcur (by omega) (by omega) hall,h1]
    have e1:(y:Int)+1=((y+1:Nat):Int):=by omega
    rw[e1]
    have hcr:cur=from_.1∨Rch (okE g S E from_.2) from_.1 cur:=by
     cases y with
     |zero=>injection hcur with hcur;exact .inl hcur.symm
     |succ y=>exact .inr (hreach cur (List.mem_of_getElem? (by simpa using hcur)))
    refine ih f (y+1) (r++x) (by omega) (by omega) (h3 hn) (by rw[List.length_append];omega) hsub2 (fun p hp=>?_) fun i p q hi2 hp hok=>?_
    ·rcases List.mem_append.1 hp with hp|hp
     ·exact hreach p hp
     ·obtain⟨e,a,b,c,d2⟩:=h2 p hp
      rcases hcr with hcr|hcr
      ·exact .one ⟨e,a,b.trans hcr,c,d2⟩
      ·exact .step hcr ⟨e,a,b,c,d2⟩
    ·rw[←List.cons_append,List.getElem?_append_left (by rw[List.length_cons];omega)]at hp
     rcases Nat.lt_or_ge i y with h5|h5
     ·exact List.mem_append_left _ (hclosed i p q h5 hp hok)
     ·obtain rfl:i=y:=by omega
      rw[hcur]at hp;injection hp with hp;subst hp
      obtain⟨e,a,b,c,d2⟩:=hok
      rw[←c];exact h4 e a b d2
   ·rw[if_neg (by rw[List.length_cons];omega),show F.dl r from_.1=_ from R_on_eq r from_.1 (by omega),Option.bind_some]
    refine⟨_,rfl,?_⟩
    rw[decide_eq_true_eq]
    refine⟨hreach _,fun hr=>?_⟩
    have hin: ∀q,Rch (okE g S E from_.2) from_.1 q→q∈r:=fun q hq=>by
     induction hq with
     |one h6=>exact hclosed 0 _ _ (by omega) rfl h6
     |step h6 h7 ih2=>
      obtain⟨i,hi3⟩:=List.mem_iff_getElem?.1 ih2
      have:=(List.getElem?_eq_some_iff.1 hi3).1
      exact hclosed (i+1) _ _ (by omega) (by simpa using hi3) h7
    exact hin _ hr
 exact main 4002 A.FU 0 [] (by omega) (by have:=FU_big;omega) List.nodup_nil (by simp) (by simp) (by simp) (fun i p q h=>by omega)
abbrev Seen:=List (Pl×Bool)
def seen (m:Seen)(v:Pl):Prop:=Z.mget false m v=true
def addP (deep:List Sp)(from_:Pl)(dd:Int):List Pl→Seen→List Pl→Option (Seen×List Pl)
 | [],m,xs=>some (m,xs)
 |t::r,m,xs=>if t=from_ then none else if dd≤Z.mget 0 deep t∧Z.mget false m t=false then addP deep from_ dd r (Z.mins m t true) (xs++[t])else addP deep from_ dd r m xs
theorem reaches_l3 (deep:List Sp)(from_:Pl)(dd:Int)(k3:Seen→List Pl→Option Bool)(tos:List Pl)(m:Seen)(xs:List Pl)(hl:tos.length≤4000)(hx:xs.length≤10000):
  F.v k3 deep from_ dd tos A.FU m xs 0=match addP deep from_ dd tos m xs with
   |none=>some true
   |some s=>k3 s.1 s.2:=
 A.lp tos (fun f (s:Seen×List Pl) i=>F.v k3 deep from_ dd tos f s.1 s.2 i) (fun _ t s=>match addP deep from_ dd t s.1 s.2 with
   |none=>some true
   |some s=>k3 s.1 s.2) (fun k s=>s.2.length≤10000+k)
  (fun f s hs=>by rw[F.v,if_neg (by omega),addP])
  (fun f s k t ht hk hs ih=>by
   rw[F.v,if_pos (by omega),A.ixn ht,Option.bind_some,addP,A.lt]
   simp only[F.aU,F.aT,A.lt,A.gd1 (A.r64n (n:=k) (by omega)),Bool.false_eq_true,if_false]
   by_cases h:t=from_
   ·rw[if_pos (show t=from_ from h),if_pos h]
   ·rw[if_neg (show ¬t=from_ from h),if_neg h]
    by_cases hd:dd≤Z.mget 0 deep t
    ·rw[if_pos (show dd≤Z.mget 0 deep t from hd)]
     by_cases hm:Z.mget false s.1 t=false
     ·have hc:dd≤Z.mget 0 deep t∧Z.mget false s.1 t=false:=⟨hd,hm⟩
      rw[if_pos hc,show Z.mget false s.1 t=false from hm,Bool.not_false,if_pos rfl,A.gd1 (by simp only[List.length_cons,List.length_nil];omega)]
      exact ih (Z.mins s.1 t true,s.2++[t]) (by simp only[List.length_append,List.length_cons,List.length_nil];omega)
     ·have hm2:Z.mget false s.1 t=true:=by cases h2:Z.mget false s.1 t with
       |true=>rfl
       |false=>exact absurd h2 hm
      have hc: ¬(dd≤Z.mget 0 deep t∧Z.mget false s.1 t=false):=fun h2=>hm h2.2
      rw[if_neg hc,show Z.mget false s.1 t=true from hm2,Bool.not_true,if_neg Bool.false_ne_true]
      exact ih s (by omega)
    ·rw[if_neg (show ¬dd≤Z.mget 0 deep t from hd),if_neg (fun h2=>hd h2.1)]
     exact ih s (by omega))
  (by have:=FU_big;omega) (m,xs) (by simp only[];omega)
def un (T:List Pl)(m:Seen):Nat:=(T.filter fun t=> !(Z.mget false m t)).length
theorem un_ins {T:List Pl}{m:Seen}{t:Pl}(ht:t∈T)(hm:Z.mget false m t=false):un T (Z.mins m t true)+1≤un T m:=by
 unfold un
 have mono: ∀(l:List Pl),(l.filter fun t'=> !(Z.mget false (Z.mins m t true) t')).length≤(l.filter fun t'=> !(Z.mget false m t')).length:=by
  intro l
  induction l with
  |nil=>exact Nat.le_refl _
  |cons a l ih=>
   rw[List.filter_cons,List.filter_cons,Z.mget_ins]
   by_cases e:a=t
   ·rw[if_pos e,e,hm];simp only[Bool.not_true,Bool.false_eq_true,if_false,Bool.not_false,if_true,List.length_cons];omega
   ·rw[if_neg e];split<;>(try simp only[List.length_cons])<;>omega
 induction T with
 |nil=>cases ht
 |cons a l ih=>
  rw[List.filter_cons,List.filter_cons,Z.mget_ins]
  have:=mono l
  by_cases e:a=t
  ·rw[if_pos e,e,hm];simp only[Bool.not_true,Bool.false_eq_true,if_false,Bool.not_false,if_true,List.length_cons];omega
  ·have:=ih ((List.mem_cons.1 ht).resolve_left fun h=>e h.symm)
   rw[if_neg e];split<;>(try simp only[List.length_cons])<;>omega
theorem addP_none {deep:List Sp}{from_:Pl}{dd:Int}: ∀{tos:List Pl} {m:Seen} {xs:List Pl},addP deep from_ dd tos m xs=none→from_∈tos
 | [],_,_,h=>by cases h
 |t::r,m,xs,h=>by
  rw[addP]at h
  by_cases e:t=from_
  ·rw[e];exact List.mem_cons_self ..
  ·rw[if_neg e]at h
   split at h
   ·exact List.mem_cons_of_mem _ (addP_none h)
   ·exact List.mem_cons_of_mem _ (addP_none h)
theorem seen_ins {m:Seen}{t v:Pl}:seen (Z.mins m t true) v↔v=t∨seen m v:=by
 unfold seen
 rw[Z.mget_ins]
 by_cases e:v=t
 ·rw[if_pos e];simp[e]
 ·rw[if_neg e];simp[e]
theorem addP_some {deep:List Sp}{from_:Pl}{dd:Int}{T:List Pl}: ∀{tos:List Pl} {m m':Seen} {xs xs':List Pl},(∀t∈tos,t∈T)→addP deep from_ dd tos m xs=some (m',xs')→
  from_∉tos∧(∀v,seen m v→seen m' v)∧(∀v,seen m' v→seen m v∨(v∈tos∧dd≤Z.mget 0 deep v))∧(∀t∈tos,dd≤Z.mget 0 deep t→seen m' t)∧(∀v∈xs,v∈xs')∧(∀v∈xs',v∈xs∨seen m' v)∧(∀v,seen m' v→seen m v∨v∈xs')∧xs'.length+un T m'≤xs.length+un T m
 | [],m,m',xs,xs',_,h=>by
  injection h with h;injection h with h1 h2;subst h1;subst h2
  exact⟨by simp,fun v h=>h,fun v h=>.inl h,by simp,fun v h=>h,fun v h=>.inl h,fun v h=>.inl h,Nat.le_refl _⟩
 |t::r,m,m',xs,xs',hT,h=>by
  rw[addP]at h
  by_cases e:t=from_
  ·rw[if_pos e]at h;cases h
  ·rw[if_neg e]at h
   by_cases hc:dd≤Z.mget 0 deep t∧Z.mget false m t=false
   ·rw[if_pos hc]at h
    obtain⟨a1,a2,a3,a4,a5,a6,a7,a8⟩:=addP_some (fun x hx=>hT x (List.mem_cons_of_mem _ hx)) h
    have hun:=un_ins (hT t (List.mem_cons_self ..)) hc.2
    refine⟨fun h2=>(List.mem_cons.1 h2).elim (fun h3=>e h3.symm) a1,fun v hv=>a2 v (seen_ins.2 (.inr hv)),fun v hv=>?_,fun x hx hdx=>?_,fun v hv=>a5 v (List.mem_append_left _ hv),fun v hv=>?_,fun v hv=>?_,by rw[List.length_append]at a8;simp only[List.length_cons,List.length_nil]at a8;omega⟩
    ·rcases a3 v hv with h2|h2
     ·rcases seen_ins.1 h2 with rfl|h3
      ·exact .inr ⟨List.mem_cons_self ..,hc.1⟩
      ·exact .inl h3
     ·exact .inr ⟨List.mem_cons_of_mem _ h2.1,h2.2⟩
    ·rcases List.mem_cons.1 hx with rfl|hx
     ·exact a2 _ (seen_ins.2 (.inl rfl))
     ·exact a4 x hx hdx
    ·rcases a6 v hv with h2|h2
     ·rcases List.mem_append.1 h2 with h2|h2
      ·exact .inl h2
      ·rw[List.mem_singleton]at h2;subst h2;exact .inr (a2 _ (seen_ins.2 (.inl rfl)))
     ·exact .inr h2
    ·rcases a7 v hv with h2|h2
     ·rcases seen_ins.1 h2 with rfl|h3
      ·exact .inr (a5 _ (List.mem_append_right _ (List.mem_singleton.2 rfl)))
      ·exact .inl h3
     ·exact .inr h2
   ·rw[if_neg hc]at h
    obtain⟨a1,a2,a3,a4,a5,a6,a7,a8⟩:=addP_some (fun x hx=>hT x (List.mem_cons_of_mem _ hx)) h
    refine⟨fun h2=>(List.mem_cons.1 h2).elim (fun h3=>e h3.symm) a1,a2,fun v hv=>?_,fun x hx hdx=>?_,a5,a6,a7,a8⟩
    ·rcases a3 v hv with h2|h2
     ·exact .inl h2
     ·exact .inr ⟨List.mem_cons_of_mem _ h2.1,h2.2⟩
    ·rcases List.mem_cons.1 hx with rfl|hx
     ·refine a2 _ ?_
      unfold seen
      cases h2:Z.mget false m x with
      |true=>rfl
      |false=>exact absurd ⟨hdx,h2⟩ hc
     ·exact a4 x hx hdx
def blk (g:List Nd)(dd:Int)(p:Pl):Prop:=(Z.mget ((0,0,[],(0,0,(ByteArray.mk #[])),(ByteArray.mk #[]),0,0):Nd) (mapOf g) p.1).2.1=14∧(Z.mget ((0,0,[],(0,0,(ByteArray.mk #[])),(ByteArray.mk #[]),0,0):Nd) (mapOf g) p.1).2.2.2.2.2.2=dd
def okP (g:List Nd)(steps:List (Pl×List Pl))(deep:List Sp)(dd:Int)(p q:Pl):Prop:=q∈Z.mget [] steps p∧¬blk g dd p∧dd≤Z.mget 0 deep q
theorem reaches_eq (g:List Nd)(a0:(List (Int×Nd))×(List Int)×(List (Int×Int)))(h0:a0.1=mapOf g)(steps:List (Pl×List Pl))(deep:List Sp)(from_:Pl)(dd:Int)(T:List Pl)(hT:T.length≤4000)(hst: ∀p q,q∈Z.mget [] steps p→q∈T)(hsl: ∀p,(Z.mget [] steps p).length≤4000)(hfd:dd≤Z.mget 0 deep from_):
  ∃b,F.aD a0 steps deep from_ dd=some b∧(b=true↔Rch (okP g steps deep dd) from_ from_):=by
 have main: ∀(n f:Nat) (m:Seen) (xs:List Pl),xs.length+un T m≤n→n<f→xs.length≤9000→xs.length+un T m≤9000→(∀v,seen m v→Rch (okP g steps deep dd) from_ v)→(∀t∈xs,t=from_∨seen m t)→(∀v,v=from_∨seen m v→v∉xs→∀w,okP g steps deep dd v w→w≠from_∧seen m w)→
   ∃b,F.w a0 steps deep from_ dd f m xs=some b∧(b=true↔Rch (okP g steps deep dd) from_ from_):=by
  intro n
  induction n with
  |zero=>
   intro f m xs hn hf hx900 _ i1 i2 i3
   obtain⟨f,rfl⟩: ∃f',f=f'+1:=⟨f-1,by omega⟩
   have hx:xs=[]:=List.eq_nil_of_length_eq_zero (by omega)
   subst hx
   rw[F.w,if_neg (by simp)]
   refine⟨false,rfl,fun h=>(by cases h),fun h=>?_⟩
   have hin: ∀q,Rch (okP g steps deep dd) from_ q→q≠from_∧seen m q:=fun q hq=>by
    induction hq with
    |one h6=>exact i3 from_ (.inl rfl) (by simp) _ h6
    |step h6 h7 ih2=>exact i3 _ (.inr ih2.2) (by simp) _ h7
   exact absurd rfl (hin _ h).1
  |succ n ih=>
   intro f m xs hn hf hx900 hu900 i1 i2 i3
   obtain⟨f,rfl⟩: ∃f',f=f'+1:=⟨f-1,by omega⟩
   rw[F.w]
   by_cases hne:xs=[]
   ·subst hne
    rw[if_neg (by simp)]
    refine⟨false,rfl,fun h=>(by cases h),fun h=>?_⟩
    have hin: ∀q,Rch (okP g steps deep dd) from_ q→q≠from_∧seen m q:=fun q hq=>by
     induction hq with
     |one h6=>exact i3 from_ (.inl rfl) (by simp) _ h6
     |step h6 h7 ih2=>exact i3 _ (.inr ih2.2) (by simp) _ h7
    exact absurd rfl (hin _ h).1
   ·obtain⟨ys,at_,rfl⟩: ∃ys a,xs=ys++[a]:=⟨xs.dropLast,xs.getLast hne,(List.dropLast_concat_getLast hne).symm⟩
    have hl:(ys++[at_]).length=ys.length+1:=by simp
    have e1:(((ys++[at_]).length:Int)-1)=(ys.length:Int):=by rw[hl];omega
    have hat:(ys++[at_])[ys.length]?=some at_:=by simp
    rw[if_pos (by omega),A.gd1 ⟨by omega,by omega⟩,e1,A.ixn hat,Option.bind_some,A.gd1 ⟨by omega,by omega⟩,A.gd1 ⟨by omega,by rw[Int.toNat_natCast];omega⟩,A.lt,F.bj,e1,Int.toNat_natCast,A.ba,h0]
    have htake:List.take ys.length (ys++[at_])=ys:=by simp
    rw[htake]
    have hatr:at_=from_∨seen m at_:=i2 at_ (by simp)
    by_cases hb:blk g dd at_
    ·rw[if_pos (show decide ((Z.mget ((0,0,[],(0,0,(ByteArray.mk #[])),(ByteArray.mk #[]),0,0):Nd) (mapOf g) at_.1).2.1=14∧(Z.mget ((0,0,[],(0,0,(ByteArray.mk #[])),(ByteArray.mk #[]),0,0):Nd) (mapOf g) at_.1).2.2.2.2.2.2=dd)=true from decide_eq_true hb)]
     refine ih f m ys (by omega) (by omega) (by omega) (by omega) i1 (fun t ht=>i2 t (List.mem_append_left _ ht)) fun v hv hvx w hw=>?_
     by_cases e:v=at_
     ·subst e;exact absurd hb hw.2.1
     ·exact i3 v hv (fun h=>by
       rcases List.mem_append.1 h with h|h
       ·exact hvx h
       ·exact e (List.mem_singleton.1 h)) w hw
    ·rw[if_neg (show ¬decide ((Z.mget ((0,0,[],(0,0,(ByteArray.mk #[])),(ByteArray.mk #[]),0,0):Nd) (mapOf g) at_.1).2.1=14∧(Z.mget ((0,0,[],(0,0,(ByteArray.mk #[])),(ByteArray.mk #[]),0,0):Nd) (mapOf g) at_.1).2.2.2.2.2.2=dd)=true from fun h=>hb (by have h9:=of_decide_eq_true h;exact h9)),A.lt,show Z.mget [] steps at_=Z.mget [] steps at_ from rfl,reaches_l3 deep from_ dd _ _ m ys (hsl at_) (by omega)]
     cases hadd:addP deep from_ dd (Z.mget [] steps at_) m ys with
     |none=>
      have hfrom:=addP_none hadd
      have hok:okP g steps deep dd at_ from_:=⟨hfrom,hb,hfd⟩
      refine⟨true,rfl,fun _=>?_,fun _=>rfl⟩
      rcases hatr with h|h
      ·rw[h]at hok;exact .one hok
      ·exact .step (i1 at_ h) hok
     |some s=>
      obtain⟨m',xs'⟩:=s
      obtain⟨a1,a2,a3,a4,a5,a6,a7,a8⟩:=addP_some (T:=T) (hst at_) hadd
      simp only[]
      refine ih f m' xs' (by omega) (by omega) (by omega) (by omega) (fun v hv=>?_) (fun t ht=>?_) fun v hv hvx w hw=>?_
      ·rcases a3 v hv with h|h
       ·exact i1 v h
       ·have hok:okP g steps deep dd at_ v:=⟨h.1,hb,h.2⟩
        rcases hatr with h2|h2
        ·rw[h2]at hok;exact .one hok
        ·exact .step (i1 at_ h2) hok
      ·rcases a6 t ht with h|h
       ·rcases i2 t (List.mem_append_left _ h)with h2|h2
        ·exact .inl h2
        ·exact .inr (a2 t h2)
       ·exact .inr h
      ·have hv2:v=from_∨seen m v:=by
        rcases hv with h|h
        ·exact .inl h
        ·rcases a7 v h with h2|h2
         ·exact .inr h2
         ·exact absurd h2 hvx
       by_cases e:v=at_
       ·subst e
        exact⟨fun h=>a1 (h▸hw.1),a4 w hw.1 hw.2.2⟩
       ·obtain⟨h1,h2⟩:=i3 v hv2 (fun h=>by
         rcases List.mem_append.1 h with h|h
         ·exact hvx (a5 v h)
         ·exact e (List.mem_singleton.1 h)) w hw
        exact⟨h1,a2 w h2⟩
 have hu:un T []≤T.length:=List.length_filter_le _ _
 exact main (1+T.length) A.FU [] [from_] (by simp;omega) (by have:=FU_big;omega) (by simp) (by simp;omega) (fun v h=>by cases h) (fun t ht=>.inl (List.mem_singleton.1 ht)) (fun v hv hx w hw=>by
  rcases hv with h|h
  ·exact absurd (List.mem_singleton.2 h) hx
  ·cases h)
theorem mget_mem {p:Pl}: ∀{l:List Sp} {v:Int},(l.map (·.1)).Nodup→(p,v)∈l→Z.mget 0 l p=v
 | [],_,_,h=>by cases h
 |(a,w)::r,v,hn,h=>by
  rw[List.map_cons,List.nodup_cons]at hn
  unfold Z.mget
  rcases List.mem_cons.1 h with h|h
  ·injection h with h1 h2;rw[if_pos h1,h2]
  ·rw[if_neg (fun e=>hn.1 (by rw[←e];exact List.mem_map_of_mem (f:=(·.1)) h))]
   exact mget_mem hn.2 h
theorem mhas_app {l:List Sp}{p:Pl}(h:p∉l.map (·.1)):Z.mhas l p=false:=by
 induction l with
 |nil=>rfl
 |cons a r ih=>
  rw[List.map_cons,List.mem_cons,not_or]at h
  obtain⟨q,v⟩:=a
  unfold Z.mhas
  rw[if_neg h.1];exact ih h.2
def toOf (E:List Ed)(p:Pl):List Pl:=(E.filter fun e=>decide (e.1=p)).map fun e=>e.2.1
theorem turns_l2 (a0:(List (Int×Nd))×(List Int)×(List (Int×Int)))(S:List Sp)(E:List Ed)(hE:E.length≤4000): ∃st,(∀p,Z.mget [] st p=toOf E p)∧F.af a0 S E A.FU [] 0=A.mrg (F.aB a0 S st) (some false) S:=by
 have main: ∀(n k f:Nat) (m:List (Pl×List Pl)),k+n=E.length→n<f→(∀p,Z.mget [] m p=toOf (E.take k) p)→∃st,(∀p,Z.mget [] st p=toOf E p)∧F.af a0 S E f m (k:Int)=A.mrg (F.aB a0 S st) (some false) S:=by
  intro n
  induction n with
  |zero=>
   intro k f m hk hf hm
   obtain⟨f,rfl⟩: ∃f',f=f'+1:=⟨f-1,by omega⟩
   rw[List.take_of_length_le (by omega)]at hm
   exact⟨m,hm,by rw[F.af,if_neg (by omega)]⟩
  |succ n ih=>
   intro k f m hk hf hm
   obtain⟨f,rfl⟩: ∃f',f=f'+1:=⟨f-1,by omega⟩
   have hx:E[k]?=some E[k]:=List.getElem?_eq_getElem (by omega)
   generalize E[k]=x at hx
   have hlen:(Z.mget [] m x.1).length≤4000:=by
    rw[hm];unfold toOf
    rw[List.length_map]
    have:=List.length_filter_le (fun e:Ed=>decide (e.1=x.1)) (E.take k)
    rw[List.length_take]at this;omega
   rw[F.af,if_pos (by omega),A.ixn hx,Option.bind_some,A.gd1 (by rw[show Z.mget [] m x.1=Z.mget [] m x.1 from rfl];simp only[List.length_cons,List.length_nil];omega),A.gd1 (A.r64n (by omega))]
   refine ih (k+1) f _ (by omega) (by omega) fun p=>?_
   rw[show Z.mins m x.1 (Z.mget [] m x.1++[x.2.1])=Z.mins m x.1 (Z.mget [] m x.1++[x.2.1])from rfl,Z.mget_ins,take_s hx]
   unfold toOf
   rw[List.filter_append,List.map_append,List.filter_cons,List.filter_nil]
   by_cases e:p=x.1
   ·subst e
    rw[if_pos rfl,hm,if_pos (decide_eq_true rfl)];rfl
   ·rw[if_neg e,hm,if_neg (by simp only[decide_eq_true_eq];exact fun h=>e h.symm),List.map_nil,List.append_nil];rfl
 exact main E.length 0 A.FU [] (by omega) (by have:=FU_big;omega) (fun p=>rfl)
theorem turns_l3 (g:List Nd)(a0:(List (Int×Nd))×(List Int)×(List (Int×Int)))(S:List Sp)(E:List Ed)(hS:S.length≤4000)(hn:(S.map (·.1)).Nodup)(hE:F.aE a0 g=some E):F.aq a0 g S A.FU [] 0=F.af a0 S E A.FU [] 0:=
 A.lp S (fun f (m:List Sp) i=>F.aq a0 g S f m i) (fun _ _ _=>F.af a0 S E A.FU [] 0) (fun k m=>m=S.take k)
  (fun f m hm=>by
   rw[List.take_of_length_le (Nat.le_refl _)]at hm
   rw[F.aq,if_neg (by omega),show F.aE a0 g=some E from hE,Option.bind_some,hm])
  (fun f m k x hx hk hm ih=>by
   rw[F.aq,if_pos (by omega),A.ixn hx,Option.bind_some,A.gd1 (A.r64n (by omega))]
   refine ih _ ?_
   rw[show Z.mins m x.1 x.2=Z.mins m x.1 x.2 from rfl,mins_new (mhas_app ?_),hm,take_s hx]
   rw[hm]
   intro h
   rw[List.map_take]at h
   have hd:=hn
   rw[←List.take_append_drop k (S.map (·.1)),List.nodup_append]at hd
   refine hd.2.2 _ h _ ?_ rfl
   rw[←List.map_drop,A.dropx hx,List.map_cons];exact List.mem_cons_self ..)
  (by have:=FU_big;omega) [] (by simp)
theorem nodeAt {g:List Nd}(hi:Inc g){n:Nd}(hn:n∈g)(z:Nd):Z.mget z (mapOf g) n.1=n∧find g n.1=(n,true):=by
 obtain⟨j,hj⟩:=List.mem_iff_getElem?.1 hn
 exact⟨hi.mget hj,find_eq hi hj⟩
theorem mem_st {g:List Nd}{d:List Int}{st:List (Pl×List Pl)}(hst: ∀p,Z.mget [] st p=toOf (edges g d) p){p q:Pl}:q∈Z.mget [] st p↔∃e∈edges g d,e.1=p∧e.2.1=q:=by
 rw[hst];unfold toOf
 constructor
 ·intro h
  obtain⟨e,h1,h2⟩:=List.mem_map.1 h
  obtain⟨h3,h4⟩:=List.mem_filter.1 h1
  exact⟨e,h3,of_decide_eq_true h4,h2⟩
 ·rintro⟨e,h1,h2,h3⟩
  exact List.mem_map.2 ⟨e,List.mem_filter.2 ⟨h1,decide_eq_true h2⟩,h3⟩
theorem nodup_S {g:List Nd}{d:List Int}(hi:Inc g)(ho:Own g):((spots g d).map (·.1)).Nodup:=spotsF_nodup d 0 g hi fun n hn=>in2 ho hn
theorem ok_iff {g:List Nd}{d:List Int}(hi:Inc g)(ho:Own g){dd:Int}{p q:Pl}:okE g (spots g d) (edges g d) dd p q↔(∃e∈edges g d,e.1=p∧e.2.1=q)∧dd≤Z.mget 0 (spots g d) q∧(¬blk g dd p∨p.2=2):=by
 have hN:=nodup_S (d:=d) hi ho
 have key: ∀e∈edges g d,(openB g (spots g d) dd e=true↔dd≤Z.mget 0 (spots g d) e.2.1∧(¬blk g dd e.1∨e.1.2=2)):=fun e he=>by
  obtain⟨v,hv⟩:=edge_to d he
  obtain⟨n,hn,h1⟩:=edge_from d he
  obtain⟨h2,h3⟩:=nodeAt hi hn ((0,0,[],(0,0,(ByteArray.mk #[])),(ByteArray.mk #[]),0,0):Nd)
  unfold openB blk
  rw[mget_mem hN hv,atS_mem hN hv,h1,h3,h2,Bool.and_eq_true,decide_eq_true_eq,Bool.or_eq_true,Bool.or_eq_true,decide_eq_true_eq,decide_eq_true_eq,decide_eq_true_eq]
  constructor
  ·rintro⟨a,(b|b)|b⟩
   ·exact⟨a,.inl fun h=>b h.1⟩
   ·exact⟨a,.inl fun h=>b h.2⟩
   ·exact⟨a,.inr b⟩
  ·rintro⟨a,b|b⟩
   ·by_cases c:n.2.1=14
    ·exact⟨a,.inl (.inr fun h=>b ⟨c,h⟩)⟩
    ·exact⟨a,.inl (.inl c)⟩
   ·exact⟨a,.inr b⟩
 constructor
 ·rintro⟨e,h1,h2,h3,h4⟩
  have:=(key e h1).1 h4
  rw[h2,h3]at this
  exact⟨⟨e,h1,h2,h3⟩,this⟩
 ·rintro⟨⟨e,h1,h2,h3⟩,h4⟩
  refine⟨e,h1,h2,h3,(key e h1).2 ?_⟩
  rw[h2,h3];exact h4
theorem rch_iff {g:List Nd}{d:List Int}{st:List (Pl×List Pl)}(hi:Inc g)(ho:Own g)(hst: ∀p,Z.mget [] st p=toOf (edges g d) p){dd:Int}{a:Pl}:Rch (okP g st (spots g d) dd) a a↔Rch (okE g (spots g d) (edges g d) dd) a a:=by
 have up: ∀{p q},okP g st (spots g d) dd p q→okE g (spots g d) (edges g d) dd p q:=fun {p q} h=>
  (ok_iff hi ho).2 ⟨(mem_st hst).1 h.1,h.2.2,.inl h.2.1⟩
 have down: ∀{p q},okE g (spots g d) (edges g d) dd p q→(p.2≠2∨¬blk g dd p)→okP g st (spots g d) dd p q:=fun {p q} h h2=>by
  obtain⟨h3,h4,h5⟩:=(ok_iff hi ho).1 h
  refine⟨(mem_st hst).2 h3,?_,h4⟩
  rcases h2 with h2|h2
  ·exact h5.resolve_right h2
  ·exact h2
 have blk_same: ∀{p q:Pl},p.1=q.1→(blk g dd p↔blk g dd q):=fun {p q} e=>by unfold blk;rw[e]
 constructor
 ·intro h
  have: ∀b,Rch (okP g st (spots g d) dd) a b→Rch (okE g (spots g d) (edges g d) dd) a b:=fun b h=>by
   induction h with
   |one h=>exact .one (up h)
   |step _ h2 ih=>exact .step ih (up h2)
  exact this a h
 ·intro h
  have key: ∀b,Rch (okE g (spots g d) (edges g d) dd) a b→Rch (okP g st (spots g d) dd) a b∨(a.2=2∧blk g dd a):=fun b h=>by
   induction h with
   |one h=>
    by_cases h2:a.2=2∧blk g dd a
    ·exact .inr h2
    ·exact .inl (.one (down h (by
      by_cases h3:a.2=2
      ·exact .inr fun h4=>h2 ⟨h3,h4⟩
      ·exact .inl h3)))
   | @step b c _ h2 ih=>
    rcases ih with ih|ih
    ·refine .inl (.step ih (down h2 ?_))
     by_cases h3:b.2=2
     ·refine .inr fun h4=>?_
      have hlast: ∃p,okP g st (spots g d) dd p b:=by cases ih with
       |one h=>exact⟨_,h⟩
       |step _ h=>exact⟨_,h⟩
      obtain⟨p,hp⟩:=hlast
      obtain⟨e,h5,h6,h7⟩:=(mem_st hst).1 hp.1
      have h8:=edge_out d ho h5 (by rw[h7];exact h3)
      rw[h6,h7]at h8
      exact hp.2.1 ((blk_same h8.1).2 h4)
     ·exact .inl h3
    ·exact .inr ih
  rcases key a h with h2|⟨h2,h3⟩
  ·exact h2
  ·have hlast: ∃p,okE g (spots g d) (edges g d) dd p a:=by cases h with
    |one h=>exact⟨_,h⟩
    |step _ h=>exact⟨_,h⟩
   obtain⟨p,hp⟩:=hlast
   obtain⟨⟨e,h5,h6,h7⟩,_,h9⟩:=(ok_iff hi ho).1 hp
   have h8:=edge_out d ho h5 (by rw[h7];exact h2)
   rw[h6,h7]at h8
   rcases h9 with h9|h9
   ·exact absurd ((blk_same h8.1).2 h3) h9
   ·exact absurd h9 h8.2
theorem edges_len {g:List Nd}(ho:Own g)(hg:g.length≤40)(d:List Int): ∀(m k:Nat),k+m=g.length→(edgesF g d k (g.drop k)).length≤83*m
 |0,k,h=>by rw[List.drop_eq_nil_of_le (by omega)];exact Nat.le_refl 0
 |m+1,k,h=>by
  have hx:g[k]?=some g[k]:=List.getElem?_eq_getElem (by omega)
  generalize g[k]=x at hx
  have h2:=in2 ho (List.mem_of_getElem? hx)
  have h3:=usesF_len x.1 g fun x hx=>in2 ho hx
  have h4:=edges_len ho hg d m (k+1) (by omega)
  rw[A.dropx hx,edgesF]
  split
  ·omega
  ·rw[List.length_append,List.length_append,inE_len,outE,List.length_map];omega
theorem spots_port {g:List Nd}(ho:Own g)(d:List Int): ∀(k:Nat) (l:List Nd),(∀n∈l,n∈g)→∀sp∈spotsF g d k l,0≤sp.1.2∧sp.1.2≤2
 |_,[],_,_,h=>by cases h
 |k,n::r,hl,sp,h=>by
  have h2:=in2 ho (hl n (List.mem_cons_self ..))
  unfold spotsF at h
  rcases List.mem_append.1 h with h|h
  ·have:=insS_at g d n.1 0 _ sp.1 sp.2 h;omega
  ·rcases List.mem_append.1 h with h|h
   ·unfold outS at h
    split at h
    ·rw[List.mem_singleton]at h;subst h;simp
    ·cases h
   ·exact spots_port ho d (k+1) r (fun x hx=>hl x (List.mem_cons_of_mem _ hx)) sp h
theorem turns_same (g:List Nd)(d:List Int)(a0:(List (Int×Nd))×(List Int)×(List (Int×Int)))(h0:a0.1=mapOf g)(hb:Few g)(hi:Inc g)(hfed:Fed g)(ho:Own g)(hib:InB d)(hr:RelD g d a0.2.2)(hd:d.length=g.length):
  ∃b,F.a9 a0 g=some b∧(∀r5 r9,F.bQ g r5 r9 (spots g d) (edges g d) A.FU 0=some (if b=true then([],[],81)else(r5.1,r9.1,0)))∧(b=true↔∃sp∈spots g d,Rch (okE g (spots g d) (edges g d) sp.2) sp.1 sp.1):=by
 have hlen:=hb.1
 have hS:(spots g d).length≤120:=by
  have:=spots_len ho d g.length 0 (by omega);rw[List.drop_zero]at this;unfold spots;omega
 have hE:(edges g d).length≤4000:=by
  have:=edges_len ho hlen d g.length 0 (by omega);rw[List.drop_zero]at this;unfold edges;omega
 have hN:=nodup_S (d:=d) hi ho
 have hok: ∀sp∈spots g d,SpOk g sp:=by
  have:=o_am (d:=d) (g:=g) hib g.length 0 (by omega);rw[List.drop_zero]at this;exact this
 obtain⟨st,hst,hl2⟩:=turns_l2 a0 (spots g d) (edges g d) hE
 have hto: ∀p q,q∈Z.mget [] st p→q∈(edges g d).map fun e=>e.2.1:=fun p q h=>by
  obtain⟨e,h1,_,h3⟩:=(mem_st hst).1 h
  exact List.mem_map.2 ⟨e,h1,h3⟩
 have htl: ∀p,(Z.mget [] st p).length≤4000:=fun p=>by
  rw[hst];unfold toOf;rw[List.length_map]
  exact Nat.le_trans (List.length_filter_le _ _) hE
 have hval: ∀sp∈spots g d,∃b,F.aD a0 st (spots g d) sp.1 sp.2=some b∧F.c2 g (spots g d) (edges g d) sp=some b∧(b=true↔Rch (okE g (spots g d) (edges g d) sp.2) sp.1 sp.1):=fun sp hsp=>by
  obtain⟨b,h1,h2⟩:=reaches_eq g a0 h0 st (spots g d) sp.1 sp.2 ((edges g d).map fun e=>e.2.1) (by rw[List.length_map];exact hE) hto htl (by rw[mget_mem hN (p:=sp.1) (v:=sp.2) hsp];exact Int.le_refl _)
  obtain⟨b',h3,h4⟩:=round_eq g (spots g d) (edges g d) sp hb hi (by omega) hE (fun e he=>edge_from d he)
  refine⟨b,h1,?_,h2.trans (rch_iff hi ho hst)⟩
  rw[h3];congr 1
  rw[Bool.eq_iff_iff,h4,h2]
  exact(rch_iff hi ho hst).symm
 let p:Sp→Bool:=fun sp=>(F.aD a0 st (spots g d) sp.1 sp.2).getD false
 have hp: ∀sp∈spots g d,(p sp=true↔Rch (okE g (spots g d) (edges g d) sp.2) sp.1 sp.1):=fun sp hsp=>by
  obtain⟨b,h1,_,h3⟩:=hval sp hsp
  rw[show p sp=b from congrArg (fun o=>Option.getD o false) h1];exact h3
 refine⟨(spots g d).any p,?_,fun r5 r9=>?_,?_⟩
 ·unfold F.a9
  rw[show F.aQ a0 g=_ from spotsP_eq g d a0 hb hfed ho hr,Option.bind_some,turns_l3 g a0 (spots g d) (edges g d) (by omega) hN (edgesP_eq g d a0 hb hfed ho hib hr),hl2]
  have:=A.mrg_any (body:=F.aB a0 (spots g d) st) (rest:=some false) (y:=true) (p:=p) (l:=spots g d) fun sp hsp=>by
   obtain⟨b,h1,_,_⟩:=hval sp hsp
   obtain⟨⟨j,n,hn,hid⟩,hdd⟩:=hok sp hsp
   have hng:=List.mem_of_getElem? hn
   have hids:=own_id (ho n hng)
   have hport:0≤sp.1.2∧sp.1.2≤2:=spots_port ho d 0 g (fun n hn=>hn) sp hsp
   unfold F.aB
   have hh:decide (A.h6 sp.1.1)=true∧decide (A.h6 sp.1.2)=true:=⟨decide_eq_true (Z.i64_has ⟨by omega,by omega⟩),decide_eq_true (Z.i64_has ⟨by omega,by omega⟩)⟩
   rw[A.gd1 hh,show F.aD a0 st (spots g d) sp.1 sp.2=_ from h1,Option.bind_some,show p sp=b from congrArg (fun o=>Option.getD o false) h1]
  rw[this]
  cases (spots g d).any p<;>rfl
 ·have loop:=A.lp0 (spots g d) (fun f y=>F.bQ g r5 r9 (spots g d) (edges g d) f y) (fun _ t=>some (if t.any p=true then([],[],81)else(r5.1,r9.1,0)))
   (fun f=>by rw[F.bQ,if_neg (by omega)];rfl)
   (fun f k x hx hk ih=>by
    obtain⟨b,h1,h2,_⟩:=hval x (List.mem_of_getElem? hx)
    rw[F.bQ,if_pos (by omega),A.ixn hx,Option.bind_some,show F.c2 g (spots g d) (edges g d) (x.1,x.2)=_ from h2,Option.bind_some,List.any_cons,show p x=b from congrArg (fun o=>Option.getD o false) h1]
    cases b with
    |true=>rfl
    |false=>rw[if_neg Bool.false_ne_true,A.gd1 (A.r64n (by omega)),ih,Bool.false_or])
   (by have:=FU_big;omega)
  exact loop
 ·rw[List.any_eq_true]
  exact⟨fun⟨sp,h1,h2⟩=>⟨sp,h1,(hp sp h1).1 h2⟩,fun⟨sp,h1,h2⟩=>⟨sp,h1,(hp sp h1).2 h2⟩⟩
theorem own_of {g:List Nd}(h:okL g 0 0 g=true):Own g:=fun n hn=>by
 obtain⟨j,hj⟩:=List.mem_iff_getElem?.1 hn
 have hL:=okL_iff g g.length 0 (by omega)
 rw[List.drop_zero,show lastOf g 0=0 from rfl]at hL
 have:=hL.1 h j n (by omega) hj
 cases hq:ownQ n with
 |true=>rfl
 |false=>exact absurd (.inr (.inl hq)) this
theorem orderF_plc (g:List Nd): ∀(r:Nat) (done:List Bool) (l l':List Int),orderF g r done l=some l'→Plc g l→Plc g l'
 |0,done,l,l',h,hp=>by injection h with h;subst h;exact hp
 |r+1,done,l,l',h,hp=>by
  rw[orderF]at h
  by_cases hc:firstF g done 0 g (-1)<0
  ·rw[if_pos hc]at h;cases h
  ·rw[if_neg hc]at h
   by_cases hg:g.length=0
   ·have:=firstF_le g done 0 g (-1) (by omega)
    have e:g=[]:=List.eq_nil_of_length_eq_zero hg
    subst e
    simp[firstF]at hc
   ·have hle:=firstF_le g done 0 g (-1) (by omega) (by omega)
    refine orderF_plc g r _ _ l' h fun i p hip=>?_
    rw[List.getElem?_append]at hip
    split at hip
    ·exact hp i p hip
    ·rename_i hil
     have:i-l.length=0:=by
      have:=(List.getElem?_eq_some_iff.1 hip).1
      simp only[List.length_cons,List.length_nil]at this;omega
     rw[this]at hip
     injection hip with hip
     subst hip
     exact⟨(firstF g done 0 g (-1)).toNat,g[(firstF g done 0 g (-1)).toNat]'(by omega),by omega,List.getElem?_eq_getElem (by omega)⟩
structure Whole (g:List Nd) (l d:List Int) (dm:List (Int×Int)):Prop where
 inc:Inc g
 fed:Fed g
 own:Own g
 rel:RelD g d dm
 inb:InB d
 dlen:d.length=g.length
 key:KeyD g l dm
 plc:Plc g l
 llen:l.length=g.length
 ord:orderF g g.length (List.replicate g.length false) []=some l
 dep:depthsF g l (List.replicate g.length 0)=some d
 lps:loopsF g d g=true
 nort: ∀sp∈spots g d,¬Rch (okE g (spots g d) (edges g d) sp.2) sp.1 sp.1
 kin:g.all (fun n=>n.2.2.1.all (inOk g))=true
 okr:okR g 0 g=true
 chk:g.all (fun n=>decide (chk n.2.1 n.2.2.2.1=0))=true
 l32:g.length≤32
theorem whole_same (g:List Nd)(hb:Few g):
  (∃e,e≠0∧F.az g=some (none,e)∧F.c5 g=some ([],[],e))∨
  (∃l d dm,F.az g=some (some (mapOf g,l.map (idAt g),dm),0)∧F.c5 g=some (l,d,0)∧Whole g l d dm):=by
 rw[whole_P g hb]
 unfold F.c5
 rw[parts_eq g hb,ok_eq]
 by_cases h32:(32:Int)<(g.length:Int)
 ·rw[if_pos h32,if_pos h32]
  exact .inl ⟨80,by decide,rfl,rfl⟩
 rw[if_neg h32,if_neg h32]
 by_cases hok:okR g 0 g=true
 case neg=>rw[if_neg hok,if_neg hok];exact .inl ⟨80,by decide,rfl,rfl⟩
 rw[if_pos hok,if_pos hok]
 by_cases hfn:g.all (fun n=>decide (chk n.2.1 n.2.2.2.1=0))=true
 case neg=>rw[if_neg hfn,if_neg hfn];exact .inl ⟨60,by decide,rfl,rfl⟩
 rw[if_pos hfn,if_pos hfn]
 by_cases hin:g.all (fun n=>n.2.2.1.all (inOk g))=true
 case neg=>rw[if_neg hin,if_neg hin];exact .inl ⟨80,by decide,rfl,rfl⟩
 rw[if_pos hin,if_pos hin,Option.bind_some,if_neg (by decide)]
 have hi:=ok_inc hok
 have hfed:=fed_of hin
 have ho:=own_of (by rw[ok_eq];exact hok)
 have hlen:=hb.1
 unfold sortP
 rcases order_sort hb hi hfed (mapOf g)with⟨l,h1,h2,h3,h4⟩|⟨h1,p,h2⟩
 case inr=>rw[h1,h2];exact .inl ⟨81,by decide,rfl,rfl⟩
 rw[h1,h2]
 simp only[Option.bind_some,Bool.not_true,Bool.false_eq_true,if_false]
 have hplc:Plc g l:=orderF_plc g g.length _ [] l h4 fun i p h=>by cases h
 rcases depths_same g l hb hi hfed ho (by omega) hplc with⟨d,dm,d1,d2,d3,d4,d5,d6,d7,d8⟩|⟨d1,p,d2⟩
 case inr=>rw[d1,d2];exact .inl ⟨80,by decide,rfl,rfl⟩
 rw[d1,d2]
 simp only[Option.bind_some,Bool.not_true,Bool.false_eq_true,if_false]
 obtain⟨b,t1,t2,t3⟩:=turns_same g d (mapOf g,l.map (idAt g),dm) rfl hb hi hfed ho d4 d3 d5
 rw[t1,spotsR_eq g d hb hfed ho d5]
 simp only[Option.bind_some]
 rw[edgesR_eq g d hb hi ho d4]
 simp only[Option.bind_some,t2]
 cases b with
 |true=>exact .inl ⟨81,by decide,rfl,rfl⟩
 |false=>exact .inr ⟨l,d,dm,rfl,rfl,hi,hfed,ho,d3,d4,d5,d6,hplc,h3,h4,d8,d7,fun sp h1 h2=>Bool.noConfusion (t3.2 ⟨sp,h1,h2⟩),hin,hok,hfn,by omega⟩
theorem Cmp_eq (a b:Int):F.bk a b=some (if a<b then-1 else if b<a then 1 else 0):=by
 unfold F.bk F.bU
 simp only[Option.bind_some,ne_eq,not_true_eq_false,decide_false,Bool.false_eq_true,if_false]
 split
 ·rfl
 ·split<;>rfl
def orF:List Int→Int
 | []=>0
 |x::r=>if x≠0 then x else orF r
theorem Or_eq (l:List Int)(hl:l.length≤100):F.cl l=some (orF l):=by
 have loop:=A.lp0 l (fun f y=>F.bl l f y) (fun _ t=>some (orF t)) (fun f=>by rw[F.bl,if_neg (by omega)];rfl)
  (fun f k x hx hk ih=>by
   rw[F.bl,if_pos (by omega),A.ixn hx,Option.bind_some,orF]
   by_cases h:x≠0
   ·rw[if_pos h,if_pos h]
   ·rw[if_neg h,if_neg h,A.gd1 (A.r64n (by omega)),ih])
  (by have:=FU_big;omega)
 exact loop
def cmpI (a b:Int):Int:=if a<b then-1 else if b<a then 1 else 0
def cmpP (p q:Pl):Int:=orF [cmpI p.1 q.1,cmpI p.2 q.2]
def cmpE (x y:Ed):Int:=orF [cmpP x.1 y.1,cmpP x.2.1 y.2.1]
theorem place_eq (p q:Pl):F.bY p q=some (cmpP p q):=by
 unfold F.bY
 rw[Cmp_eq,Option.bind_some,Cmp_eq,Option.bind_some,Or_eq _ (by simp),Option.bind_some];rfl
theorem Edges1_eq (x y:Ed):F.aP x y=some (cmpE x y):=by
 unfold F.aP
 rw[place_eq,Option.bind_some,place_eq,Option.bind_some,Or_eq _ (by simp),Option.bind_some];rfl
def ltP (p q:Pl):Prop:=p.1<q.1∨p.1=q.1∧p.2<q.2
def ltE (x y:Ed):Prop:=ltP x.1 y.1∨x.1=y.1∧ltP x.2.1 y.2.1
theorem cmpI_lt {a b:Int}(h:a<b):cmpI b a=1:=by unfold cmpI;rw[if_neg (by omega),if_pos h]
theorem cmpI_self (a:Int):cmpI a a=0:=by unfold cmpI;rw[if_neg (by omega),if_neg (by omega)]
theorem cmpP_lt {p q:Pl}(h:ltP p q):cmpP q p=1:=by
 unfold cmpP
 rcases h with h|⟨h1,h2⟩
 ·rw[cmpI_lt h];rfl
 ·rw[h1,cmpI_self,cmpI_lt h2];rfl
theorem cmpP_self (p:Pl):cmpP p p=0:=by
 unfold cmpP;rw[cmpI_self,cmpI_self];rfl
theorem cmpE_lt {x y:Ed}(h:ltE x y):cmpE y x=1:=by
 unfold cmpE
 rcases h with h|⟨h1,h2⟩
 ·rw[cmpP_lt h];rfl
 ·rw[h1,cmpP_self,cmpP_lt h2];rfl
def Od (l:List Ed):Prop:=l.Pairwise ltE
theorem Od.cmp {l:List Ed}(h:Od l){i j:Nat}(hij:i<j)(hj:j<l.length): ∃x y,l[i]?=some x∧l[j]?=some y∧cmpE y x=1:=by
 refine⟨l[i],l[j],List.getElem?_eq_getElem (by omega),List.getElem?_eq_getElem hj,cmpE_lt ?_⟩
 exact List.pairwise_iff_getElem.1 h i j (by omega) hj hij
theorem Od.less {l:List Ed}(h:Od l){i j:Nat}(hij:i<j)(hj:j<l.length){β:Type}(K:Int→Option β):
  ((A.ix l (j:Int)).bind fun y=>(A.ix l (i:Int)).bind fun x=>(F.aP y x).bind K)=K 1:=by
 obtain⟨x,y,h1,h2,h3⟩:=h.cmp hij hj
 rw[A.ixn h2,Option.bind_some,A.ixn h1,Option.bind_some,Edges1_eq,Option.bind_some,h3]
theorem ins_l2 {l:List Ed}(h:Od l)(hl:l.length≤1000000)(k3:Int→Option Unit)(a j:Nat)(hj:j<l.length)(f:Nat):
  F.p k3 l (a:Int) (j:Int) (f+1)=k3 ((j:Int)+1):=by
 have e:F.i k3 l (j:Int) false=k3 ((j:Int)+1):=by
  unfold F.i
  rw[if_neg (by simp),A.gd1 (A.r64n (by omega))]
 rw[F.p]
 by_cases hc:(a:Int)<(j:Int)
 ·rw[if_pos hc,A.gd1 ⟨by omega,by omega⟩]
  obtain⟨i,rfl⟩: ∃i:Nat,j=i+1:=⟨j-1,by omega⟩
  rw[show(((i+1:Nat):Int)-1)=(i:Int) by omega]
  exact(h.less (i:=i) (j:=i+1) (by omega) hj _).trans e
 ·rw[if_neg hc];exact e
theorem ins_l3 {l:List Ed}(h:Od l)(hl:l.length≤1000000)(a b:Nat)(hb:b≤l.length): ∀(n j f:Nat),b≤j+n→n<f→
  F.d l (a:Int) (b:Int) f (j:Int)=some ()
 |n,j,0,hn,hf=>absurd hf (by omega)
 |n,j,f+1,hn,hf=>by
  rw[F.d]
  by_cases hc:(j:Int)<(b:Int)
  ·rw[if_pos hc]
   obtain⟨m,hm⟩: ∃m,A.FU=m+1:=⟨A.FU-1,by have:=FU_big;omega⟩
   rw[hm,ins_l2 h hl _ a j (by omega) m]
   exact ins_l3 h hl a b hb (n-1) (j+1) f (by omega) (by omega)
  ·rw[if_neg hc]
theorem ins_eq {l:List Ed}(h:Od l)(hl:l.length≤1000000)(a b:Nat)(ha:a≤l.length)(hb:b≤l.length):F.k l (a:Int) (b:Int)=some ():=by
 unfold F.k
 rw[A.gd1 (A.r64n (by omega))]
 exact ins_l3 h hl a b hb b (a+1) A.FU (by omega) (by have:=FU_big;omega)
theorem half (a b:Nat)(h:a+b≤100000000):IntKind.u64.wrap ((a:Int)+(b:Int)) / 2^((1:Int)).toNat=(((a+b) / 2:Nat):Int):=by
 rw[Z.u64_in _ (by omega)]
 show((a:Int)+(b:Int)) / 2=_
 omega
theorem r64h (a b:Nat)(h:a+b≤100000000):Z.R64 ((a:Int)+(b:Int))∧(0≤(1:Int)∧(1:Int)≤64)∧Z.R64 ((((a+b) / 2:Nat):Int)):=⟨⟨by omega,by omega⟩,⟨by omega,by omega⟩,⟨by omega,by omega⟩⟩
theorem r64i {x:Int}(h:0≤x∧x≤1000000000):Z.R64 x:=⟨by omega,by omega⟩
theorem sym_l1 (l:List Ed)(a m f:Nat)(ham:a+1=m)(hm:m≤1000000):F.s l (a:Int) (m:Int) (f+1)=some ():=by
 rw[F.s,A.gd1 (r64i (by omega)),if_neg (by omega)]
theorem sym_l2 {l:List Ed}(h:Od l)(hl:l.length≤1000000)(a m:Nat)(ham:a+1=m): ∀(n j f:Nat),m≤j→j≤l.length→j≤m+n→n<f→
  F.f l (a:Int) f (m:Int) (j:Int)=some ()
 |n,j,0,hm,hj,hn,hf=>absurd hf (by omega)
 |n,j,f+1,hm,hj,hn,hf=>by
  rw[F.f]
  by_cases hc:(m:Int)<(j:Int)
  ·rw[if_pos hc,half m j (by omega),A.gd1 (r64h m j (by omega))]
   refine(h.less (i:=a) (j:=(m+j) / 2) (by omega) (by omega) _).trans ?_
   show(if(1:Int)<0 then _ else _)=_
   rw[if_neg (by decide)]
   exact sym_l2 h hl a m ham (n-1) ((m+j) / 2) f (by omega) (by omega) (by omega) (by omega)
  ·obtain⟨q,hq⟩: ∃q,A.FU=q+1:=⟨A.FU-1,by have:=FU_big;omega⟩
   rw[if_neg hc,hq,sym_l1 l a m q ham (by omega)]
theorem sym_l4 {l:List Ed}(h:Od l)(hl:l.length≤1000000)(m:Nat)(hm:m<l.length): ∀(n i f:Nat),i≤m→m≤i+n→n<f→
  F.g l (m:Int) f (i:Int) (m:Int)=some ()
 |n,i,0,hi,hn,hf=>absurd hf (by omega)
 |n,i,f+1,hi,hn,hf=>by
  rw[F.g]
  by_cases hc:(i:Int)<(m:Int)
  ·rw[if_pos hc,half i m (by omega),A.gd1 (r64h i m (by omega))]
   refine(h.less (i:=(i+m) / 2) (j:=m) (by omega) hm _).trans ?_
   show(if(!decide ((1:Int)<0))=true then _ else _)=_
   rw[if_pos (by decide),A.gd1 (A.r64n (by omega))]
   exact sym_l4 h hl m hm (n-1) ((i+m) / 2+1) f (by omega) (by omega) (by omega)
  ·obtain⟨q,hq⟩: ∃q,A.FU=q+1:=⟨A.FU-1,by have:=FU_big;omega⟩
   obtain rfl:i=m:=by omega
   rw[if_neg hc,hq,F.aa,if_neg (by omega)]
theorem sym_l6 {l:List Ed}(h:Od l)(hl:l.length≤1000000)(rc:List Ed→Int→Int→Int→Option Unit)(a m b mid r s:Nat)(hmid:(a+b) / 2=mid)(ha:a≤1000000)(hb:b≤1000000)(hr:r≤1000000)(hm:m≤1000000)
  (hp: ∀c,s≤c→c<r→c<mid+m-1-c∧mid+m-1-c<l.length) (he:F.b l (a:Int) (m:Int) (b:Int) rc 1 (r:Int) (r:Int)=some ()): ∀(n c f:Nat),s≤c→c≤r→r≤c+n→n<f→
  F.b l (a:Int) (m:Int) (b:Int) rc f (c:Int) (r:Int)=some ()
 |n,c,0,hs,hi,hn,hf=>absurd hf (by omega)
 |n,c,f+1,hs,hi,hn,hf=>by
  by_cases hc:c<r
  ·obtain⟨p1,p2⟩:=hp ((c+r) / 2) (by omega) (by omega)
   rw[F.b,if_pos (by omega),half c r (by omega),half a b (by omega),hmid,A.gd1 (r64h c r (by omega)),show((((mid:Nat):Int)+(m:Int))-1)-(((c+r) / 2:Nat):Int)=((mid+m-1-(c+r) / 2:Nat):Int) by omega,A.gd1 (r64i (by omega))]
   refine(h.less (i:=(c+r) / 2) (j:=mid+m-1-(c+r) / 2) p1 p2 _).trans ?_
   show(if(!decide ((1:Int)<0))=true then _ else _)=_
   rw[if_pos (by decide),A.gd1 (A.r64n (by omega))]
   exact sym_l6 h hl rc a m b mid r s hmid ha hb hr hm hp he (n-1) ((c+r) / 2+1) f (by omega) (by omega) (by omega) (by omega)
  ·obtain rfl:c=r:=by omega
   rw[F.b,if_neg (by omega)]at he ⊢
   exact he
theorem sym_eq {l:List Ed}(h:Od l)(hl:l.length≤1000000): ∀(n f a m b:Nat),a<m→m<b→b≤l.length→b≤a+n→n<f→
  F.c f l (a:Int) (m:Int) (b:Int)=some ()
 |n,0,a,m,b,h1,h2,h3,hn,hf=>absurd hf (by omega)
 |n,f+1,a,m,b,h1,h2,h3,hn,hf=>by
  have hFU:=FU_big
  rw[F.c,F.ac,A.gd1 (r64i (by omega))]
  by_cases c1:(m:Int)-(a:Int)=1
  ·rw[if_pos c1]
   exact sym_l2 h hl a m (by omega) b b A.FU (by omega) h3 (by omega) (by omega)
  rw[if_neg c1,A.gd1 (r64i (by omega))]
  by_cases c2:(b:Int)-(m:Int)=1
  ·rw[if_pos c2]
   exact sym_l4 h hl m (by omega) m a A.FU (by omega) (by omega) (by omega)
  rw[if_neg c2,half a b (by omega),A.gd1 (r64h a b (by omega)),A.gd1 (r64i (by omega))]
  generalize hmid:(a+b) / 2=mid
  by_cases c3:(mid:Int)<(m:Int)
  ·rw[if_pos c3,A.gd1 (r64i (by omega)),F.l,half a b (by omega),hmid,A.gd1 (r64i (by omega)),show(mid:Int)+(m:Int)-(b:Int)=((mid+m-b:Nat):Int) by omega]
   refine sym_l6 h hl (F.c f) a m b mid mid (mid+m-b) hmid (by omega) (by omega) (by omega) (by omega) (fun c g1 g2=>⟨by omega,by omega⟩) ?_ mid (mid+m-b) A.FU (by omega) (by omega) (by omega) (by omega)
   rw[F.b,if_neg (by omega),half a b (by omega),hmid,A.gd1 (r64i (by omega)),show(mid:Int)+(m:Int)-(mid:Int)=(m:Int) by omega,A.ba,A.ba,if_neg (by rw[decide_eq_true_iff];omega),if_neg (by rw[decide_eq_true_iff];omega),F.h,half a b (by omega),hmid,show(mid:Int)+(m:Int)-(mid:Int)=(m:Int) by omega,A.ba,if_pos (by rw[decide_eq_true_iff];omega),sym_eq h hl (n-1) f mid m b (by omega) h2 h3 (by omega) (by omega),Option.bind_some]
  ·rw[if_neg c3,F.l,half a b (by omega),hmid,A.gd1 (r64i (by omega))]
   refine sym_l6 h hl (F.c f) a m b mid m a hmid (by omega) (by omega) (by omega) (by omega) (fun c g1 g2=>⟨by omega,by omega⟩) ?_ m a A.FU (by omega) (by omega) (by omega) (by omega)
   have e5:F.h l (a:Int) (m:Int) (b:Int) (F.c f) (m:Int)=some ():=by
    rw[F.h,half a b (by omega),hmid,A.ba,if_neg (by rw[decide_eq_true_iff];omega)]
   rw[F.b,if_neg (by omega),half a b (by omega),hmid,A.gd1 (r64i (by omega)),A.ba,A.ba,if_neg (by rw[decide_eq_true_iff];omega),e5]
   by_cases c4:(m:Int)<(mid:Int)
   ·rw[if_pos (by rw[decide_eq_true_iff];omega),sym_eq h hl (n-1) f a m mid h1 (by omega) (by omega) (by omega) (by omega),Option.bind_some]
   ·rw[if_neg (by rw[decide_eq_true_iff];omega)]
theorem stb_l2 {l:List Ed}(h:Od l)(hl:l.length≤1000000)(k12:Int→Option Unit)(s:Nat)(hs:0<s)(hsl:s<l.length)(hk:k12 ((s*2:Nat):Int)=some ()): ∀(n a f:Nat),l.length≤a+n→n<f→a≤l.length→
  F.n k12 l (l.length:Int) (s:Int) f (a:Int) ((a+2*s:Nat):Int)=some ()
 |n,a,0,hn,hf,ha=>absurd hf (by omega)
 |n,a,f+1,hn,hf,ha=>by
  have hFU:=FU_big
  have e1:F.m k12 (s:Int)=some ():=by
   rw[F.m,A.gd1 (r64i (by omega)),show(s:Int)*2=((s*2:Nat):Int) by omega,hk]
  rw[F.n]
  by_cases hc:((a+2*s:Nat):Int)≤(l.length:Int)
  ·rw[if_pos hc,A.gd1 (r64i (by omega)),show(a:Int)+(s:Int)=((a+s:Nat):Int) by omega,sym_eq h hl l.length A.FU a (a+s) (a+2*s) (by omega) (by omega) (by omega) (by omega) (by omega),Option.bind_some,A.gd1 ⟨r64i (by omega),r64i (by omega)⟩,show((a+2*s:Nat):Int)+2*(s:Int)=((a+2*s+2*s:Nat):Int) by omega]
   exact stb_l2 h hl k12 s hs hsl hk (n-1) (a+2*s) f (by omega) (by omega) (by omega)
  ·rw[if_neg hc,A.gd1 (r64i (by omega)),show(a:Int)+(s:Int)=((a+s:Nat):Int) by omega]
   by_cases h2:((a+s:Nat):Int)<(l.length:Int)
   ·rw[if_pos h2,sym_eq h hl l.length A.FU a (a+s) l.length (by omega) (by omega) (by omega) (by omega) (by omega),Option.bind_some,e1]
   ·rw[if_neg h2,e1]
theorem stb_l3 {l:List Ed}(h:Od l)(hl:l.length≤1000000): ∀(n s f:Nat),0<s→l.length≤s+n→n<f→
  F.e l (l.length:Int) f (s:Int)=some ()
 |n,s,0,hs,hn,hf=>absurd hf (by omega)
 |n,s,f+1,hs,hn,hf=>by
  have hFU:=FU_big
  rw[F.e]
  by_cases hc:(s:Int)<(l.length:Int)
  ·rw[if_pos hc,A.gd1 (r64i (by omega)),show 2*(s:Int)=((0+2*s:Nat):Int) by omega]
   exact stb_l2 h hl _ s hs (by omega) (stb_l3 h hl (n-1) (s*2) f (by omega) (by omega) (by omega)) l.length 0 A.FU (by omega) (by omega) (by omega)
  ·rw[if_neg hc]
theorem stb_l4 {l:List Ed}(h:Od l)(hl:l.length≤1000000): ∀(n a f:Nat),l.length≤a+n→n<f→a≤l.length→
  F.o l (l.length:Int) f (a:Int) ((a+20:Nat):Int)=some ()
 |n,a,0,hn,hf,ha=>absurd hf (by omega)
 |n,a,f+1,hn,hf,ha=>by
  have hFU:=FU_big
  rw[F.o]
  by_cases hc:((a+20:Nat):Int)≤(l.length:Int)
  ·rw[if_pos hc,ins_eq h hl a (a+20) (by omega) (by omega),Option.bind_some,A.gd1 (r64i (by omega)),show((a+20:Nat):Int)+20=((a+20+20:Nat):Int) by omega]
   exact stb_l4 h hl (n-1) (a+20) f (by omega) (by omega) (by omega)
  ·rw[if_neg hc,ins_eq h hl a l.length (by omega) (by omega),Option.bind_some]
   exact stb_l3 h hl l.length 20 A.FU (by omega) (by omega) (by omega)
theorem sorted_eq {l:List Ed}(h:Od l)(hl:l.length≤1000000):F.q l=some ():=by
 unfold F.q F.ad
 have hFU:=FU_big
 have e:=stb_l4 h hl l.length 0 A.FU (by omega) (by omega) (by omega)
 rw[show(20:Int)=((0+20:Nat):Int) by rfl,show(0:Int)=((0:Nat):Int) by rfl,e];rfl
def fewF (s:Int):List Nd→Int
 | []=>s
 |x::r=>fewF (min (s+min (x.2.2.1.length:Int) 1048576+min (x.2.2.2.2.1.size:Int) 1048576+min (x.2.2.2.1.2.2.size:Int) 1048576) 1048576) r
theorem fewF_mono: ∀(l:List Nd) (s:Int),0≤s→s≤1048576→s≤fewF s l
 | [],s,_,_=>Int.le_refl s
 |x::r,s,h,h2=>by
  unfold fewF
  have:=fewF_mono r (min (s+min (x.2.2.1.length:Int) 1048576+min (x.2.2.2.2.1.size:Int) 1048576+min (x.2.2.2.1.2.2.size:Int) 1048576) 1048576) (by omega) (by omega)
  omega
theorem fewF_le: ∀(l:List Nd) (s:Int),0≤s→s≤1048576→fewF s l≤5000→∀x∈l,x.2.2.1.length≤5000∧x.2.2.2.2.1.size≤5000∧x.2.2.2.1.2.2.size≤5000
 | [],_,_,_,_,x,hx=>by cases hx
 |y::r,s,h,h2,h3,x,hx=>by
  unfold fewF at h3
  have h4:=fewF_mono r (min (s+min (y.2.2.1.length:Int) 1048576+min (y.2.2.2.2.1.size:Int) 1048576+min (y.2.2.2.1.2.2.size:Int) 1048576) 1048576) (by omega) (by omega)
  rcases List.mem_cons.1 hx with rfl|hx
  ·omega
  ·exact fewF_le r _ (by omega) (by omega) h3 x hx
theorem few_eq (g:List Nd): ∃b,F.db g=some b∧(b=true→Few g):=by
 unfold F.db
 rw[A.gd1 (by omega)]
 have hlen:(List.take (min (g.length:Int) 99).toNat g).length≤99:=by rw[List.length_take];omega
 have:=A.lp (List.take (min (g.length:Int) 99).toNat g) (fun f s y=>F.bT g f s y) (fun _ l s=>some (bif decide ((g.length:Int)≤40)then decide (fewF s l≤5000)else false)) (fun _ s=>0≤s∧s≤1048576)
  (fun f s _=>by rw[F.bT,if_neg (by omega)];rfl)
  (fun f s k x hx hk hp ih=>by
   rw[F.bT,if_pos (by omega),A.ixn hx,Option.bind_some,A.gd1 ⟨⟨by omega,by omega⟩,⟨by omega,by omega⟩,⟨by omega,by omega⟩⟩,A.gd1 (A.r64n (by omega)),ih _ (by omega)]
   rfl)
  (by have:=FU_big;omega) 0 (by omega)
 rw[this]
 refine⟨_,rfl,fun hb=>?_⟩
 by_cases h1:(g.length:Int)≤40
 ·simp only[h1,decide_true,cond_true,decide_eq_true_eq]at hb
  have e:List.take (min (g.length:Int) 99).toNat g=g:=List.take_of_length_le (by omega)
  rw[e]at hb
  exact⟨by omega,fewF_le g 0 (by omega) (by omega) hb⟩
 ·simp[h1]at hb
theorem useN_memO (id nd:Int): ∀(k:Nat) (l:List Int) (u:Pl),u∈useN id nd k l→u.1=nd∧(k:Int)≤u.2
 |_,[],u,h=>by cases h
 |k,z::r,u,h=>by
  unfold useN at h
  split at h
  ·rcases List.mem_cons.1 h with rfl|h
   ·exact⟨rfl,Int.le_refl _⟩
   ·have:=useN_memO id nd (k+1) r u h;exact⟨this.1,by have:=this.2;omega⟩
  ·have:=useN_memO id nd (k+1) r u h;exact⟨this.1,by have:=this.2;omega⟩
theorem useN_od (id nd:Int): ∀(k:Nat) (l:List Int),(useN id nd k l).Pairwise ltP
 |_,[]=>List.Pairwise.nil
 |k,z::r=>by
  unfold useN
  split
  ·refine List.pairwise_cons.2 ⟨fun u h=>?_,useN_od id nd (k+1) r⟩
   have:=useN_memO id nd (k+1) r u h
   exact .inr ⟨this.1.symm,by have:=this.2;show(k:Int)<u.2;omega⟩
  ·exact useN_od id nd (k+1) r
theorem usesF_memO (id:Int): ∀(l:List Nd) (u:Pl),u∈usesF id l→∃n∈l,u.1=n.1
 | [],u,h=>by cases h
 |n::r,u,h=>by
  unfold usesF at h
  rcases List.mem_append.1 h with h|h
  ·exact⟨n,List.mem_cons_self ..,(useN_memO id n.1 0 n.2.2.1 u h).1⟩
  ·obtain⟨m,h1,h2⟩:=usesF_memO id r u h;exact⟨m,List.mem_cons_of_mem _ h1,h2⟩
theorem usesF_od (id:Int): ∀(l:List Nd),Inc l→(usesF id l).Pairwise ltP
 | [],_=>List.Pairwise.nil
 |n::r,h=>by
  have h':=List.pairwise_cons.1 h
  unfold usesF
  refine List.pairwise_append.2 ⟨useN_od id n.1 0 n.2.2.1,usesF_od id r h'.2,fun a ha b hb=>.inl ?_⟩
  obtain⟨m,h1,h2⟩:=usesF_memO id r b hb
  rw[(useN_memO id n.1 0 n.2.2.1 a ha).1,h2];exact h'.1 m h1
theorem inE_memO (g:List Nd)(d:List Int)(n:Nd): ∀(k:Nat) (l:List Int) (e:Ed),e∈inE g d n k l→e.1.1=n.1∧(k:Int)≤e.1.2∧e.1.2<(k:Int)+l.length
 |_,[],e,h=>by cases h
 |k,z::r,e,h=>by
  unfold inE at h
  rcases List.mem_cons.1 h with rfl|h
  ·refine⟨rfl,Int.le_refl _,?_⟩
   rw[List.length_cons];show(k:Int)<_;omega
  ·have:=inE_memO g d n (k+1) r e h
   rw[List.length_cons]
   exact⟨this.1,by omega,by omega⟩
theorem inE_od (g:List Nd)(d:List Int)(n:Nd): ∀(k:Nat) (l:List Int),(inE g d n k l).Pairwise ltE
 |_,[]=>List.Pairwise.nil
 |k,z::r=>by
  unfold inE
  refine List.pairwise_cons.2 ⟨fun e h=>.inl (.inr ?_),inE_od g d n (k+1) r⟩
  have:=inE_memO g d n (k+1) r e h
  exact⟨this.1.symm,by show(k:Int)<e.1.2;omega⟩
theorem edgesF_memO (g:List Nd)(d:List Int): ∀(i:Nat) (l:List Nd) (e:Ed),e∈edgesF g d i l→∃n∈l,e.1.1=n.1
 |_,[],e,h=>by cases h
 |i,n::r,e,h=>by
  unfold edgesF at h
  split at h
  ·obtain⟨m,h1,h2⟩:=edgesF_memO g d (i+1) r e h;exact⟨m,List.mem_cons_of_mem _ h1,h2⟩
  ·rcases List.mem_append.1 h with h|h
   ·exact⟨n,List.mem_cons_self ..,(inE_memO g d n 0 n.2.2.1 e h).1⟩
   ·rcases List.mem_append.1 h with h|h
    ·unfold outE at h
     obtain⟨u,_,rfl⟩:=List.mem_map.1 h
     exact⟨n,List.mem_cons_self ..,rfl⟩
    ·obtain⟨m,h1,h2⟩:=edgesF_memO g d (i+1) r e h;exact⟨m,List.mem_cons_of_mem _ h1,h2⟩
theorem edgesF_od (g:List Nd)(d:List Int)(hg:Inc g): ∀(i:Nat) (l:List Nd),Inc l→(∀n∈l,n.2.2.1.length≤2)→Od (edgesF g d i l)
 |_,[],_,_=>List.Pairwise.nil
 |i,n::r,h,h2=>by
  have h':=List.pairwise_cons.1 h
  have ih:=edgesF_od g d hg (i+1) r h'.2 fun m hm=>h2 m (List.mem_cons_of_mem _ hm)
  have hn2:=h2 n (List.mem_cons_self ..)
  unfold edgesF
  split
  ·exact ih
  ·have later: ∀(a:Ed),a.1.1=n.1→∀b,b∈edgesF g d (i+1) r→ltE a b:=fun a ha b hb=>by
    obtain⟨m,h3,h4⟩:=edgesF_memO g d (i+1) r b hb
    exact .inl (.inl (by rw[ha,h4];exact h'.1 m h3))
   have out: ∀b,b∈outE g n (iget d (i:Int))→b.1=(n.1,2):=fun b hb=>by
    unfold outE at hb;obtain⟨u,_,rfl⟩:=List.mem_map.1 hb;rfl
   refine List.pairwise_append.2 ⟨inE_od g d n 0 n.2.2.1,List.pairwise_append.2 ⟨?_,ih,fun a ha b hb=>later a (by rw[out a ha]) b hb⟩,fun a ha b hb=>?_⟩
   ·unfold outE
    exact List.pairwise_map.2 ((usesF_od n.1 g hg).imp fun {a b} hab=>.inr ⟨rfl,hab⟩)
   ·have ha':=inE_memO g d n 0 n.2.2.1 a ha
    rcases List.mem_append.1 hb with hb|hb
    ·rw[ltE,out b hb]
     exact .inl (.inr ⟨ha'.1,by show a.1.2<2;omega⟩)
    ·exact later a ha'.1 b hb
theorem edgesF_len (g:List Nd)(d:List Int): ∀(i:Nat) (l:List Nd),g.length≤100→(∀n∈g,n.2.2.1.length≤2)→(∀n∈l,n.2.2.1.length≤2)→(edgesF g d i l).length≤300*l.length
 |_,[],_,_,_=>Nat.zero_le _
 |i,n::r,hg,h2,h3=>by
  have ih:=edgesF_len g d (i+1) r hg h2 fun m hm=>h3 m (List.mem_cons_of_mem _ hm)
  have hn:=h3 n (List.mem_cons_self ..)
  have hu:=usesF_len n.1 g h2
  unfold edgesF
  rw[List.length_cons]
  split
  ·omega
  ·rw[List.length_append,List.length_append,inE_len,outE,List.length_map];omega
theorem steps_tell (g:List Nd)(hb:Few g): ∃s x e,F.bq g=some (s,e)∧F.dp g=some (s,e)∧F.bp g=some (x,e)∧F.dA g=some (x,e)∧s.length≤1000000∧x.length≤1000000:=by
 have hlen:=hb.1
 unfold F.dA F.bq F.dp F.bp
 rcases whole_same g hb with⟨e,h0,h1,h2⟩|⟨l,d,dm,h1,h2,W⟩
 ·rw[h1,h2]
  simp only[Option.bind_some,A.om,if_pos h0]
  exact⟨[],[],e,rfl,rfl,rfl,rfl,by simp,by simp⟩
 ·have h3: ∀n∈g,n.2.2.1.length≤2:=fun n hn=>in2 W.own hn
  have hs:=spots_len W.own d g.length 0 (by omega)
  rw[List.drop_zero]at hs
  have he:(edges g d).length≤1000000:=Nat.le_trans (edgesF_len g d 0 g (by omega) h3 h3) (by omega)
  have hod:Od (edges g d):=edgesF_od g d W.inc 0 g W.inc h3
  rw[h1,h2]
  simp only[Option.bind_some,A.om,ne_eq,not_true_eq_false,if_false]
  rw[spotsR_eq g d hb W.fed W.own W.dlen,spotsP_eq g d _ hb W.fed W.own W.rel,edgesP_eq g d _ hb W.fed W.own W.inb W.rel]
  simp only[Option.bind_some,ne_eq,not_true_eq_false,if_false]
  rw[edgesR_eq g d hb W.inc W.own W.inb,sorted_eq hod he]
  exact⟨spots g d,edges g d,0,rfl,rfl,rfl,rfl,by unfold spots;omega,he⟩
theorem firstF_new (g:List Nd)(done:List Bool): ∀(r:List Nd) (i:Nat) (a:Int),0≤firstF g done i r a→(0≤a∧firstF g done i r a=a)∨(∃j:Nat,firstF g done i r a=(j:Int)∧j<i+r.length∧bget done (j:Int)=false)
 | [],i,a,h=>.inl ⟨h,rfl⟩
 |x::r,i,a,h=>by
  unfold firstF at h ⊢
  rcases firstF_new g done r (i+1) _ h with⟨h1,h2⟩|⟨j,h1,h2,h3⟩
  ·by_cases hc:(a<0∧bget done i=false)∧ready g done x=true
   ·rw[if_pos hc]at h2 ⊢
    exact .inr ⟨i,h2,by simp only[List.length_cons];omega,hc.1.2⟩
   ·rw[if_neg hc]at h1 h2 ⊢
    exact .inl ⟨h1,h2⟩
  ·exact .inr ⟨j,h1,by simp only[List.length_cons];omega,h3⟩
theorem bget_set (l:List Bool)(j k:Nat)(hj:j<l.length):bget (l.set j true) (k:Int)=if j=k then true else bget l (k:Int):=by
 unfold bget
 rw[Int.toNat_natCast,List.getElem?_set]
 by_cases h:j=k
 ·subst h;simp[hj]
 ·rw[if_neg h,if_neg h]
theorem order_nodup (g:List Nd): ∀(r:Nat) (done:List Bool) (acc l:List Int),orderF g r done acc=some l→done.length=g.length→acc.Nodup→(∀p∈acc,∃j:Nat,p=(j:Int)∧bget done (j:Int)=true)→l.Nodup
 |0,done,acc,l,h,_,hn,_=>by unfold orderF at h;injection h with h;subst h;exact hn
 |r+1,done,acc,l,h,hd,hn,ha=>by
  unfold orderF at h
  split at h
  ·cases h
  ·rename_i h0
   rcases firstF_new g done g 0 (-1) (by omega)with⟨h1,_⟩|⟨j,h1,h2,h3⟩
   ·omega
   ·rw[h1,Int.toNat_natCast]at h
    refine order_nodup g r _ _ l h (by rw[List.length_set];exact hd) ?_ fun p hp=>?_
    ·rw[List.nodup_append]
     refine⟨hn,by simp,fun a ha' b hb=>?_⟩
     rw[List.mem_singleton]at hb
     obtain⟨i,e,hi⟩:=ha a ha'
     intro e2
     rw[e,hb]at e2
     have:i=j:=by omega
     subst this
     rw[hi]at h3;cases h3
    ·rcases List.mem_append.1 hp with hp|hp
     ·obtain⟨i,e,hi⟩:=ha p hp
      exact⟨i,e,by rw[bget_set _ _ _ (by omega)];split<;>first|rfl|exact hi⟩
     ·rw[List.mem_singleton]at hp
      exact⟨j,hp,by rw[bget_set _ _ _ (by omega),if_pos rfl]⟩
theorem Whole.all {g:List Nd}{l d:List Int}{dm:List (Int×Int)}(W:Whole g l d dm){j:Nat}(hj:j<g.length):(j:Int)∈l:=by
 have hn:=order_nodup g _ _ [] l W.ord (by simp) (by simp) (by simp)
 by_cases h:(j:Int)∈l
 ·exact h
 ·exfalso
  have hm:=nodup_len (l:=(j:Int)::l) (m:=(List.range g.length).map Int.ofNat) (List.nodup_cons.2 ⟨h,hn⟩) fun x hx=>by
   rcases List.mem_cons.1 hx with rfl|hx
   ·exact List.mem_map.2 ⟨j,List.mem_range.2 hj,rfl⟩
   ·obtain⟨i,hi,e⟩:=List.getElem_of_mem hx
    obtain⟨k,n,e2,hk⟩:=W.plc i x (by rw[List.getElem?_eq_getElem hi,e])
    exact List.mem_map.2 ⟨k,List.mem_range.2 (List.getElem?_eq_some_iff.1 hk).1,e2.symm⟩
  rw[List.length_cons,List.length_map,List.length_range,W.llen]at hm
  omega
theorem o_ay (g:List Nd)(done:List Bool): ∀(r k:Nat) (a:Int),k+r=g.length→0≤firstF g done k (g.drop k) a→(0≤a∧firstF g done k (g.drop k) a=a)∨∃(j:Nat) (n:Nd),firstF g done k (g.drop k) a=(j:Int)∧g[j]?=some n∧bget done (j:Int)=false∧ready g done n=true
 |0,k,a,hk,h=>by rw[List.drop_eq_nil_of_le (by omega)]at h ⊢;exact .inl ⟨h,rfl⟩
 |r+1,k,a,hk,h=>by
  have hx:g[k]?=some g[k]:=List.getElem?_eq_getElem (by omega)
  rw[firstF_x hx]at h ⊢
  rcases o_ay g done r (k+1) _ (by omega) h with⟨h1,h2⟩|h1
  ·by_cases hc:(a<0∧bget done k=false)∧ready g done g[k]=true
   ·rw[if_pos hc]at h2 ⊢;exact .inr ⟨k,g[k],h2,hx,hc.1.2,hc.2⟩
   ·rw[if_neg hc]at h1 h2 ⊢;exact .inl ⟨h1,h2⟩
  ·exact .inr h1
theorem readyF_iff (g:List Nd)(done:List Bool)(kd:Int): ∀l:List Int,readyF g done kd l=true↔(kd≠14→∀k∈l,bget done (idx g k)=true)
 | []=>⟨fun _ _ k hk=>(by cases hk),fun _=>rfl⟩
 |k::r=>by
  unfold readyF
  by_cases h:kd≠14∧bget done (idx g k)=false
  ·rw[if_pos h]
   refine⟨fun h=>(by cases h),fun h2=>?_⟩
   have:=h2 h.1 k (List.mem_cons_self ..)
   rw[h.2]at this;cases this
  ·rw[if_neg h,readyF_iff g done kd r]
   refine⟨fun h2 h3 x hx=>?_,fun h2 h3 x hx=>h2 h3 x (List.mem_cons_of_mem _ hx)⟩
   rcases List.mem_cons.1 hx with rfl|hx
   ·cases hb:bget done (idx g x)with
    |true=>rfl
    |false=>exact absurd ⟨h3,hb⟩ h
   ·exact h2 h3 x hx
def OrdOk (g:List Nd)(l:List Int):Prop:=∀(i:Nat) (p:Int),l[i]?=some p→∃(j:Nat) (n:Nd),p=(j:Int)∧g[j]?=some n∧(n.2.1≠14→∀k∈n.2.2.1,idx g k∈l.take i)
structure Syn (g:List Nd) (done:List Bool) (l:List Int):Prop where
 len:done.length=g.length
 nod:l.Nodup
 syn: ∀j:Nat,j<g.length→(bget done (j:Int)=true↔(j:Int)∈l)
 ord:OrdOk g l
theorem Syn.plc {g:List Nd}{done:List Bool}{l:List Int}(h:Syn g done l): ∀p∈l,∃j:Nat,p=(j:Int)∧j<g.length:=fun p hp=>by
 obtain⟨i,hi,e⟩:=List.getElem_of_mem hp
 obtain⟨j,n,e2,hn,_⟩:=h.ord i p (by rw[List.getElem?_eq_getElem hi,e])
 exact⟨j,e2,(List.getElem?_eq_some_iff.1 hn).1⟩
theorem Syn.zero (g:List Nd):Syn g (List.replicate g.length false) []:=by
 refine⟨by simp,List.nodup_nil,fun j hj=>?_,fun i p h=>by cases h⟩
 unfold bget
 rw[Int.toNat_natCast,List.getElem?_replicate,if_pos hj];simp
theorem Syn.step {g:List Nd}{done:List Bool}{l:List Int}(h:Syn g done l)(hf:Fed g){j:Nat}{n:Nd}(hn:g[j]?=some n)(hb:bget done (j:Int)=false)(hr:ready g done n=true):Syn g (done.set j true) (l++[(j:Int)]):=by
 have hj:=(List.getElem?_eq_some_iff.1 hn).1
 have hnl:(j:Int)∉l:=fun hm=>by rw[(h.syn j hj).2 hm]at hb;cases hb
 refine⟨by rw[List.length_set];exact h.len,?_,fun i hi=>?_,fun i p hp=>?_⟩
 ·rw[List.nodup_append]
  refine⟨h.nod,by simp,fun a ha b hb2=>?_⟩
  rw[List.mem_singleton]at hb2
  intro e;rw[e,hb2]at ha;exact hnl ha
 ·rw[bget_set _ _ _ (by rw[h.len];exact hj),List.mem_append,List.mem_singleton]
  by_cases e:j=i
  ·subst e;simp
  ·rw[if_neg e,h.syn i hi]
   exact⟨.inl,fun h2=>h2.elim (fun h3=>h3) (fun h3=>absurd h3 (by omega))⟩
 ·by_cases hil:i<l.length
  ·rw[List.getElem?_append_left hil]at hp
   obtain⟨k,m,e1,e2,e3⟩:=h.ord i p hp
   refine⟨k,m,e1,e2,fun h14 x hx=>?_⟩
   rw[List.take_append_of_le_length (by omega)];exact e3 h14 x hx
  ·have hi2:i=l.length:=by
    have:=(List.getElem?_eq_some_iff.1 hp).1
    simp only[List.length_append,List.length_cons,List.length_nil]at this;omega
   subst hi2
   rw[List.getElem?_append_right (Nat.le_refl _),Nat.sub_self]at hp
   injection hp with hp
   refine⟨j,n,hp.symm,hn,fun h14 x hx=>?_⟩
   rw[List.take_left]
   have h0:=hf n (List.mem_of_getElem? hn) x hx
   obtain⟨m,e1,_,_⟩:=idx_get h0
   have h2:=(readyF_iff g done n.2.1 n.2.2.1).1 hr h14 x hx
   have h3:=(h.syn _ (List.getElem?_eq_some_iff.1 e1).1)
   rw[Int.toNat_of_nonneg h0]at h3
   exact h3.1 h2
theorem order_syn (g:List Nd)(hf:Fed g): ∀(r:Nat) (done:List Bool) (l l':List Int),Syn g done l→orderF g r done l=some l'→∃done',Syn g done' l'
 |0,done,l,l',h,e=>by unfold orderF at e;injection e with e;subst e;exact⟨done,h⟩
 |r+1,done,l,l',h,e=>by
  unfold orderF at e
  split at e
  ·cases e
  ·rename_i h0
   have hk:=o_ay g done g.length 0 (-1) (by omega) (by rw[List.drop_zero];omega)
   rw[List.drop_zero]at hk
   rcases hk with⟨h1,_⟩|⟨j,n,h1,h2,h3,h4⟩
   ·omega
   ·rw[h1,Int.toNat_natCast]at e
    exact order_syn g hf r _ _ l' (h.step hf h2 h3 h4) e
theorem Whole.syn {g:List Nd}{l d:List Int}{dm:List (Int×Int)}(W:Whole g l d dm): ∃done,Syn g done l:=order_syn g W.fed _ _ _ l (Syn.zero g) W.ord
def dOf (g:List Nd)(d:List Int)(k:Int):Int:=iget d (idx g k)
theorem depthOf_14 {n:Nd}(h:n.2.1=14)(a b:List Int):depthOf n a=depthOf n b:=by unfold depthOf depthA;rw[if_pos h,if_pos h]
theorem inc_idx {g:List Nd}(hi:Inc g){j:Nat}{n:Nd}(hn:g[j]?=some n):idx g n.1=(j:Int):=hi.idx hn
theorem iget_set (d:List Int)(j k:Nat)(v:Int)(hj:j<d.length):iget (d.set j v) (k:Int)=if j=k then v else iget d (k:Int):=by
 unfold iget
 rw[Int.toNat_natCast,List.getElem?_set]
 by_cases h:j=k
 ·subst h;simp[hj]
 ·rw[if_neg h,if_neg h]
theorem at_nat {g:List Nd}{j:Nat}{n:Nd}(hn:g[j]?=some n):at_ g (j:Int)=n:=at_some rfl hn
theorem depths_fix {g:List Nd}{l:List Int}(hf:Fed g)(ho:OrdOk g l)(hnd:l.Nodup): ∀(r k:Nat) (d d':List Int),k+r=l.length→d.length=g.length→depthsF g (l.drop k) d=some d'→d'.length=g.length∧(∀j:Nat,(j:Int)∈l.take k→iget d' (j:Int)=iget d (j:Int))∧∀(i:Nat) (j:Nat) (n:Nd),k≤i→l[i]?=some (j:Int)→g[j]?=some n→iget d' (j:Int)=depthOf n (n.2.2.1.map (dOf g d'))∧0≤iget d' (j:Int)
 |0,k,d,d',hk,hd,h=>by
  rw[List.drop_eq_nil_of_le (by omega)]at h
  injection h with h;subst h
  exact⟨hd,fun j _=>rfl,fun i j n hi hl _=>by have:=(List.getElem?_eq_some_iff.1 hl).1;omega⟩
 |r+1,k,d,d',hk,hd,h=>by
  have hx:l[k]?=some l[k]:=List.getElem?_eq_getElem (by omega)
  obtain⟨j,n,e1,hn,hin⟩:=ho k _ hx
  have hj:=(List.getElem?_eq_some_iff.1 hn).1
  rw[depthsF_x (n:=n) hx (by rw[e1];exact at_nat hn)]at h
  split at h
  ·cases h
  rename_i h0
  rw[e1,Int.toNat_natCast]at h
  obtain⟨a1,a2,a3⟩:=depths_fix hf ho hnd r (k+1) _ d' (by omega) (by rw[List.length_set];exact hd) h
  have hjt:(j:Int)∈l.take (k+1):=by rw[take_s hx,e1];simp
  have hjk:(j:Int)∉l.take k:=fun hm=>by
   have h3:=hnd
   rw[←List.take_append_drop k l,List.nodup_append]at h3
   refine h3.2.2 _ hm (j:Int) ?_ rfl
   rw[A.dropx hx,e1];simp
  have keep: ∀i:Nat,(i:Int)∈l.take k→iget d' (i:Int)=iget d (i:Int):=fun i hi=>by
   rw[a2 i (by rw[take_s hx];exact List.mem_append_left _ hi),iget_set _ _ _ _ (by omega),if_neg (fun e=>hjk (by rw[e];exact hi))]
  have hjv:iget d' (j:Int)=depthOf n (n.2.2.1.map (dOf g d')):=by
   rw[a2 j hjt,iget_set _ _ _ _ (by omega),if_pos rfl]
   by_cases h14:n.2.1=14
   ·exact depthOf_14 h14 _ _
   ·congr 1
    refine List.map_congr_left fun x hx2=>?_
    have h4:=hin h14 x hx2
    have h5:=hf n (List.mem_of_getElem? hn) x hx2
    unfold dOf
    have h6:=keep (idx g x).toNat
    rw[Int.toNat_of_nonneg h5]at h6
    exact(h6 h4).symm
  have hj0:0≤iget d' (j:Int):=by
   rw[a2 j hjt,iget_set _ _ _ _ (by omega),if_pos rfl];omega
  refine⟨a1,keep,fun i j2 n2 hi hl hn2=>?_⟩
  by_cases hik:i=k
  ·subst hik
   rw[hx,e1]at hl;injection hl with hl
   have:j=j2:=by omega
   subst this
   rw[hn]at hn2;injection hn2 with hn2;subst hn2
   exact⟨hjv,hj0⟩
  ·exact a3 i j2 n2 (by omega) hl hn2
theorem Whole.fix {g:List Nd}{l d:List Int}{dm:List (Int×Int)}(W:Whole g l d dm){n:Nd}(hn:n∈g):dOf g d n.1=depthOf n (n.2.2.1.map (dOf g d))∧0≤dOf g d n.1:=by
 obtain⟨done,S⟩:=W.syn
 obtain⟨j,hj,e⟩:=List.getElem_of_mem hn
 have hg:g[j]?=some n:=by rw[List.getElem?_eq_getElem hj,e]
 obtain⟨i,hi,e2⟩:=List.getElem_of_mem (W.all hj)
 have h:=depths_fix W.fed S.ord S.nod l.length 0 (List.replicate g.length 0) d (by omega) (by simp) (by rw[List.drop_zero];exact W.dep)
 have:=h.2.2 i j n (Nat.zero_le _) (by rw[List.getElem?_eq_getElem hi,e2]) hg
 unfold dOf
 rw[inc_idx W.inc hg];exact this
theorem insS_in (g:List Nd)(d:List Int)(id:Int): ∀(k:Nat) (l:List Int) (j:Nat) (z:Int),l[j]?=some z→((id,((k+j:Nat):Int)),iget d (idx g z))∈insS g d id k l
 |_,[],j,z,h=>by simp at h
 |k,y::r,j,z,h=>by
  unfold insS
  cases j with
  |zero=>simp at h;subst h;exact List.mem_cons_self ..
  |succ j=>
   have:=insS_in g d id (k+1) r j z (by simpa using h)
   rw[show k+1+j=k+(j+1) by omega]at this
   exact List.mem_cons_of_mem _ this
theorem spotsF_outP {g:List Nd}(d:List Int): ∀(i:Nat) (l:List Nd) (j:Nat) (n:Nd),l[j]?=some n→n.2.1≠15→((n.1,2),iget d ((i+j:Nat):Int))∈spotsF g d i l
 |_,[],j,n,h,_=>by simp at h
 |i,m::r,j,n,h,h15=>by
  unfold spotsF
  cases j with
  |zero=>
   simp at h;subst h
   exact List.mem_append_right _ (List.mem_append_left _ (by unfold outS;rw[if_pos h15];exact List.mem_singleton_self _))
  |succ j=>
   have:=spotsF_outP (g:=g) d (i+1) r j n (by simpa using h) h15
   rw[show i+1+j=i+(j+1) by omega]at this
   exact List.mem_append_right _ (List.mem_append_right _ this)
theorem spotsF_inv {g:List Nd}(d:List Int): ∀(i:Nat) (l:List Nd) (sp:Sp),sp∈spotsF g d i l→(∃n∈l,sp∈insS g d n.1 0 n.2.2.1)∨sp.1.2=2
 |_,[],sp,h=>by cases h
 |i,n::r,sp,h=>by
  unfold spotsF at h
  rcases List.mem_append.1 h with h|h
  ·exact .inl ⟨n,List.mem_cons_self ..,h⟩
  ·rcases List.mem_append.1 h with h|h
   ·unfold outS at h
    split at h
    ·rw[List.mem_singleton]at h;subst h;exact .inr rfl
    ·cases h
   ·rcases spotsF_inv d (i+1) r sp h with⟨m,h1,h2⟩|h2
    ·exact .inl ⟨m,List.mem_cons_of_mem _ h1,h2⟩
    ·exact .inr h2
theorem useN_in (id nd:Int): ∀(k:Nat) (l:List Int) (j:Nat),l[j]?=some id→(nd,((k+j:Nat):Int))∈useN id nd k l
 |_,[],j,h=>by simp at h
 |k,y::r,j,h=>by
  unfold useN
  cases j with
  |zero=>simp at h;subst h;rw[if_pos rfl];exact List.mem_cons_self ..
  |succ j=>
   have:=useN_in id nd (k+1) r j (by simpa using h)
   rw[show k+1+j=k+(j+1) by omega]at this
   split
   ·exact List.mem_cons_of_mem _ this
   ·exact this
theorem useN_inv (id nd:Int): ∀(k:Nat) (l:List Int) (u:Pl),u∈useN id nd k l→∃j:Nat,u=(nd,((k+j:Nat):Int))∧l[j]?=some id
 |_,[],u,h=>by cases h
 |k,z::r,u,h=>by
  have go:u∈useN id nd (k+1) r→∃j:Nat,u=(nd,((k+j:Nat):Int))∧(z::r)[j]?=some id:=fun h=>by
   obtain⟨j,h1,h2⟩:=useN_inv id nd (k+1) r u h
   exact⟨j+1,by rw[h1,show k+1+j=k+(j+1) by omega],by simpa using h2⟩
  unfold useN at h
  split at h
  ·rename_i hz
   rcases List.mem_cons.1 h with rfl|h
   ·exact⟨0,rfl,by rw[←hz];rfl⟩
   ·exact go h
  ·exact go h
theorem usesF_in (id:Int): ∀(l:List Nd) (n:Nd) (j:Nat),n∈l→n.2.2.1[j]?=some id→(n.1,(j:Int))∈usesF id l
 | [],n,j,h,_=>by cases h
 |m::r,n,j,h,hj=>by
  unfold usesF
  rcases List.mem_cons.1 h with rfl|h
  ·have:=useN_in id n.1 0 n.2.2.1 j hj
   rw[Nat.zero_add]at this
   exact List.mem_append_left _ this
  ·exact List.mem_append_right _ (usesF_in id r n j h hj)
theorem usesF_inv (id:Int): ∀(l:List Nd) (u:Pl),u∈usesF id l→∃n∈l,∃j:Nat,u=(n.1,(j:Int))∧n.2.2.1[j]?=some id
 | [],u,h=>by cases h
 |n::r,u,h=>by
  unfold usesF at h
  rcases List.mem_append.1 h with h|h
  ·obtain⟨j,h1,h2⟩:=useN_inv id n.1 0 n.2.2.1 u h
   rw[Nat.zero_add]at h1
   exact⟨n,List.mem_cons_self ..,j,h1,h2⟩
  ·obtain⟨m,h1,h2⟩:=usesF_inv id r u h
   exact⟨m,List.mem_cons_of_mem _ h1,h2⟩
theorem inE_inv (g:List Nd)(d:List Int)(n:Nd): ∀(k:Nat) (l:List Int) (e:Ed),e∈inE g d n k l→∃(j:Nat) (z:Int),l[j]?=some z∧e=((n.1,((k+j:Nat):Int)),(n.1,2),withinP n (iget d (idx g z)))
 |_,[],e,h=>by cases h
 |k,z::r,e,h=>by
  unfold inE at h
  rcases List.mem_cons.1 h with rfl|h
  ·exact⟨0,z,rfl,rfl⟩
  ·obtain⟨j,y,h1,h2⟩:=inE_inv g d n (k+1) r e h
   exact⟨j+1,y,by simpa using h1,by rw[h2,show k+1+j=k+(j+1) by omega]⟩
theorem edgesF_inv {g:List Nd}(d:List Int): ∀(i:Nat) (l:List Nd) (e:Ed),e∈edgesF g d i l→∃(j:Nat) (n:Nd),l[j]?=some n∧n.2.1≠15∧(e∈inE g d n 0 n.2.2.1∨e∈outE g n (iget d ((i+j:Nat):Int)))
 |_,[],e,h=>by cases h
 |i,n::r,e,h=>by
  have go:e∈edgesF g d (i+1) r→∃(j:Nat) (m:Nd),(n::r)[j]?=some m∧m.2.1≠15∧(e∈inE g d m 0 m.2.2.1∨e∈outE g m (iget d ((i+j:Nat):Int))):=fun h=>by
   obtain⟨j,m,h1,h2,h3⟩:=edgesF_inv d (i+1) r e h
   rw[show i+1+j=i+(j+1) by omega]at h3
   exact⟨j+1,m,by simpa using h1,h2,h3⟩
  unfold edgesF at h
  split at h
  ·exact go h
  ·rename_i h15
   rcases List.mem_append.1 h with h|h
   ·exact⟨0,n,rfl,h15,.inl h⟩
   ·rcases List.mem_append.1 h with h|h
    ·exact⟨0,n,rfl,h15,.inr h⟩
    ·exact go h
theorem edgesF_out {g:List Nd}(d:List Int): ∀(i:Nat) (l:List Nd) (j:Nat) (n:Nd) (e:Ed),l[j]?=some n→n.2.1≠15→e∈outE g n (iget d ((i+j:Nat):Int))→e∈edgesF g d i l
 |_,[],j,n,e,h,_,_=>by simp at h
 |i,m::r,j,n,e,h,h15,he=>by
  unfold edgesF
  cases j with
  |zero=>simp at h;subst h;rw[if_neg h15];exact List.mem_append_right _ (List.mem_append_left _ he)
  |succ j=>
   rw[show i+(j+1)=i+1+j by omega]at he
   have:=edgesF_out d (i+1) r j n e (by simpa using h) h15 he
   split
   ·exact this
   ·exact List.mem_append_right _ (List.mem_append_right _ this)
theorem EndsId (d:Int)(hd:0≤d∧d≤4):(idP d).1.1=d∧F.aI (idP d).1=some d:=five (P:=fun d=>(idP d).1.1=d∧F.aI (idP d).1=some d) ⟨rfl,by kernel_rfl⟩ ⟨rfl,by kernel_rfl⟩ ⟨rfl,by kernel_rfl⟩ ⟨rfl,by kernel_rfl⟩ ⟨rfl,by kernel_rfl⟩ d hd
theorem EndsEnter (d:Int)(hd:0≤d∧d≤4):d≤3→(enterP d).1.1=d∧F.aI (enterP d).1=some (d+1):=five (P:=fun d=>d≤3→(enterP d).1.1=d∧F.aI (enterP d).1=some (d+1)) (fun _=>⟨rfl,by kernel_rfl⟩) (fun _=>⟨rfl,by kernel_rfl⟩) (fun _=>⟨rfl,by kernel_rfl⟩) (fun _=>⟨rfl,by kernel_rfl⟩) (fun h=>absurd h (by decide)) d hd
theorem EndsLeave (d:Int)(hd:0≤d∧d≤4):1≤d→(leaveP d).1.1=d∧F.aI (leaveP d).1=some (d-1):=five (P:=fun d=>1≤d→(leaveP d).1.1=d∧F.aI (leaveP d).1=some (d-1)) (fun h=>absurd h (by decide)) (fun _=>⟨rfl,by kernel_rfl⟩) (fun _=>⟨rfl,by kernel_rfl⟩) (fun _=>⟨rfl,by kernel_rfl⟩) (fun _=>⟨rfl,by kernel_rfl⟩) d hd
theorem EndsNext (d:Int)(hd:0≤d∧d≤4):1≤d→(nextP d).1.1=d∧F.aI (nextP d).1=some d:=five (P:=fun d=>1≤d→(nextP d).1.1=d∧F.aI (nextP d).1=some d) (fun h=>absurd h (by decide)) (fun _=>⟨rfl,by kernel_rfl⟩) (fun _=>⟨rfl,by kernel_rfl⟩) (fun _=>⟨rfl,by kernel_rfl⟩) (fun _=>⟨rfl,by kernel_rfl⟩) d hd
theorem within_ends {n:Nd}{L:List Int}{x:Int}{j:Nat}(hL:L[j]?=some x)(hq:ownQ n=true)(hlen:L.length=n.2.2.1.length)(h15:n.2.1≠15)(h0:0≤depthOf n L)(hx:0≤x∧x≤4)(h14:n.2.1=14→x=n.2.2.2.2.2.2∧1≤x):
  (withinP n x).1=x∧F.aI (withinP n x)=some (depthOf n L):=by
 have hj:=(List.getElem?_eq_some_iff.1 hL).1
 have hin:=own_ins hq
 have hl:=own_len hq
 unfold depthOf capd depthA at h0 ⊢
 unfold withinP
 have one:n.2.1≠5→n.2.1≠9→d0 L=x:=fun a b=>by
  have h1:L.length=1:=by rcases hl with h|h|h<;>omega
  obtain⟨y,rfl⟩: ∃y,L=[y]:=by
   cases L with
   |nil=>simp at h1
   |cons y r=>cases r with
    |nil=>exact⟨y,rfl⟩
    |cons _ _=>simp at h1
  obtain rfl:j=0:=by simp at hj;exact hj
  simp at hL;subst hL;rfl
 by_cases c14:n.2.1=14
 ·obtain⟨e1,e2⟩:=h14 c14
  rw[if_neg (by omega),if_neg (by omega),if_pos c14,if_pos c14,←e1,if_neg (by omega)]
  exact EndsNext x hx e2
 rw[if_neg c14]at h0
 rw[if_neg c14,if_neg c14]
 by_cases c12:n.2.1=12
 ·rw[if_pos c12,one (by omega) (by omega)]at h0 ⊢
  rw[if_pos c12]
  have h3:x≤3:=by split at h0<;>omega
  rw[if_neg (by omega)]
  exact EndsEnter x hx h3
 rw[if_neg c12]at h0 ⊢
 rw[if_neg c12]
 by_cases c13:n.2.1=13
 ·rw[if_pos c13,one (by omega) (by omega)]at h0 ⊢
  rw[if_pos c13]
  have h3:1≤x:=by split at h0<;>omega
  rw[if_neg (by omega)]
  exact EndsLeave x hx h3
 rw[if_neg c13]at h0 ⊢
 rw[if_neg c13]
 suffices h:(if 4<(if n.2.1=5∨n.2.1=9 then(if iget L 0≠iget L 1 then-1 else d0 L)else if n.2.1=11∨n.2.1=16∨n.2.1=15 then(if d0 L≠0 then-1 else d0 L)else d0 L)then-1 else(if n.2.1=5∨n.2.1=9 then(if iget L 0≠iget L 1 then-1 else d0 L)else if n.2.1=11∨n.2.1=16∨n.2.1=15 then(if d0 L≠0 then-1 else d0 L)else d0 L))=x by
  rw[h];exact EndsId x hx
 by_cases c59:n.2.1=5∨n.2.1=9
 ·rw[if_pos c59]at h0 ⊢
  have h1:L.length=2:=by rcases hl with h|h|h<;>omega
  obtain⟨y,z,rfl⟩: ∃y z,L=[y,z]:=by
   cases L with
   |nil=>simp at h1
   |cons y r=>cases r with
    |nil=>simp at h1
    |cons z r=>cases r with
     |nil=>exact⟨y,z,rfl⟩
     |cons _ _=>simp at h1
  have e0:iget [y,z] 0=y:=rfl
  have e1:iget [y,z] 1=z:=rfl
  have e2:d0 [y,z]=y:=rfl
  rw[e0,e1,e2]at h0 ⊢
  by_cases hyz:y≠z
  ·rw[if_pos hyz]at h0;rw[if_neg (by omega)]at h0;omega
  ·rw[if_neg hyz]at h0 ⊢
   have hyz:y=z:=Classical.byContradiction hyz
   subst hyz
   have hxy:y=x:=by
    rcases Nat.lt_or_ge j 1 with hj1|hj1
    ·obtain rfl:j=0:=by omega
     simpa using hL
    ·obtain rfl:j=1:=by simp at hj;omega
     simpa using hL
   subst hxy
   rw[if_neg (by omega)]
 ·rw[if_neg c59,one (by omega) (by omega)]at h0 ⊢
  by_cases c:n.2.1=11∨n.2.1=16∨n.2.1=15
  ·rw[if_pos c]at h0 ⊢
   by_cases hx0:x≠0
   ·rw[if_pos hx0]at h0;rw[if_neg (by omega)]at h0;omega
   ·rw[if_neg hx0,if_neg (by omega)]
  ·rw[if_neg c,if_neg (by omega)]
end Go.Proofs.YtbdlcighhphaoaaDoor
end
section
set_option linter.unusedVariables false
set_option linter.unusedSimpArgs false
namespace Go.A
theorem fst {α:Type}(l:List α)(p:α→Bool)(L:Nat→Int→Option Int)(h0: ∀f,L (f+1) (l.length:Int)=some (-1))
  (h1: ∀f (k:Nat) x,l[k]?=some x→k<l.length→L (f+1) (k:Int)=if p x=true then some (k:Int)else L f ((k:Int)+1)) (hl:l.length<FU):
  (L FU 0=some (-1)∧∀x∈l,p x=false)∨∃(k:Nat) (x:α),l[k]?=some x∧L FU 0=some (k:Int)∧p x=true∧∀y∈l.take k,p y=false:=by
 have main: ∀(n k f:Nat),k+n=l.length→n<f→(∀y∈l.take k,p y=false)→(L f (k:Int)=some (-1)∧∀x∈l,p x=false)∨∃(i:Nat) (x:α),l[i]?=some x∧L f (k:Int)=some (i:Int)∧p x=true∧∀y∈l.take i,p y=false:=by
  intro n
  induction n with
  |zero=>
   intro k f hk hf hp
   obtain⟨f,rfl⟩: ∃f',f=f'+1:=⟨f-1,by omega⟩
   obtain rfl:k=l.length:=by omega
   rw[List.take_of_length_le (Nat.le_refl _)]at hp
   exact .inl ⟨h0 f,hp⟩
  |succ n ih=>
   intro k f hk hf hp
   obtain⟨f,rfl⟩: ∃f',f=f'+1:=⟨f-1,by omega⟩
   have hx:l[k]?=some l[k]:=List.getElem?_eq_getElem (by omega)
   rw[h1 f k _ hx (by omega)]
   cases hb:p l[k]with
   |true=>rw[if_pos rfl];exact .inr ⟨k,_,hx,rfl,hb,hp⟩
   |false=>
    rw[if_neg Bool.false_ne_true]
    refine ih (k+1) f (by omega) (by omega) fun y hy=>?_
    rw[List.take_add_one,hx]at hy
    rcases List.mem_append.1 hy with h|h
    ·exact hp y h
    ·rw[Option.toList_some,List.mem_singleton]at h;rw[h];exact hb
 exact main l.length 0 FU (by omega) hl (by simp)
end Go.A
end
section
set_option linter.unusedVariables false
set_option linter.unusedSimpArgs false
set_option synthInstance.maxSize 1000000
set_option synthInstance.maxHeartbeats 400000
namespace Go.Proofs.YtbdlcighhphaoaaDoor
open Go.RowKit Go.Graph
theorem own_c {n:Nd}(h:ownQ n=true): ¬ownC n:=fun hc=>by
 unfold ownQ at h
 split at h
 ·cases h
 ·first|cases h|(rw[if_pos hc]at h;cases h)
theorem o_aX {g:List Nd}{l d:List Int}{dm:List (Int×Int)}(W:Whole g l d dm){e:Ed}(he:e∈edges g d): ∃a b,(e.1,a)∈spots g d∧(e.2.1,b)∈spots g d∧e.2.2.1=a∧F.aI e.2.2=some b:=by
 obtain⟨j,n,hn,h15,h|h⟩:=edgesF_inv d 0 g e he
 ·obtain⟨k,z,hz,rfl⟩:=inE_inv g d n 0 n.2.2.1 e h
  have hng:=List.mem_of_getElem? hn
  have hfix:=W.fix hng
  have hidx:=W.inc.idx hn
  have hw:=within_ends (n:=n) (L:=n.2.2.1.map (dOf g d)) (x:=iget d (idx g z)) (j:=k) (by rw[List.getElem?_map,hz];rfl) (W.own n hng) (by rw[List.length_map]) h15 (by rw[←hfix.1];exact hfix.2) (W.inb _) (fun h14=>by
   have hl:=W.lps
   rw[loopsF_any,Bool.not_eq_true']at hl
   have h1:=List.any_eq_false.1 hl n hng
   rw[decide_eq_true_iff,not_and]at h1
   have h2:=Classical.not_not.1 (h1 h14)
   have hlen:=own_len (W.own n hng)
   have hk:=(List.getElem?_eq_some_iff.1 hz).1
   obtain rfl:k=0:=by omega
   have hz0:iget n.2.2.1 0=z:=by unfold iget;show(n.2.2.1[0]?).getD 0=z;rw[hz];rfl
   rw[hz0]at h2
   refine⟨h2,?_⟩
   have hc:=own_c (W.own n hng)
   unfold ownC at hc
   rw[h2];omega)
  refine⟨iget d (idx g z),iget d ((0+j:Nat):Int),spotsF_ins d 0 g n hng _ (insS_in g d n.1 0 n.2.2.1 k z hz),spotsF_outP d 0 g j n hn h15,hw.1,?_⟩
  show F.aI (withinP n (iget d (idx g z)))=_
  rw[hw.2,←hfix.1,dOf,hidx,Nat.zero_add]
 ·unfold outE at h
  obtain⟨u,hu,rfl⟩:=List.mem_map.1 h
  obtain⟨m,hm,k,rfl,hk⟩:=usesF_inv n.1 g u hu
  have hidx:=W.inc.idx hn
  have h1:=insS_in g d m.1 0 m.2.2.1 k n.1 hk
  rw[hidx,Nat.zero_add]at h1
  rw[Nat.zero_add]at h
  have h2:=spotsF_outP (g:=g) d 0 g j n hn h15
  rw[Nat.zero_add]at h2 ⊢
  have h3:=EndsId (iget d (j:Int)) (W.inb _)
  exact⟨iget d (j:Int),iget d (j:Int),h2,spotsF_ins d 0 g m hm _ h1,h3.1,h3.2⟩
theorem countP_one {α:Type}{p:α→Bool}{x:α}: ∀{l:List α},l.Nodup→x∈l→p x=true→(∀y∈l,p y=true→y=x)→l.countP p=1
 | [],_,h,_,_=>by cases h
 |a::r,hn,hx,hp,hu=>by
  have hn':=List.nodup_cons.1 hn
  rcases List.mem_cons.1 hx with rfl|hx
  ·rw[List.countP_cons_of_pos hp,List.countP_eq_zero.2 fun y hy hpy=>hn'.1 (by rw[←hu y (List.mem_cons_of_mem _ hy) hpy];exact hy)]
  ·have ha: ¬p a=true:=fun hpa=>hn'.1 (by rw[hu a (List.mem_cons_self ..) hpa];exact hx)
   rw[List.countP_cons_of_neg ha]
   exact countP_one hn'.2 hx hp fun y hy=>hu y (List.mem_cons_of_mem _ hy)
theorem ltP_irr {p:Pl}(h:ltP p p):False:=by rcases h with h|h<;>omega
theorem od_nodup {l:List Ed}(h:Od l):l.Nodup:=List.Pairwise.imp (fun {a b} hab e=>by
 subst e
 rcases hab with h|h
 ·exact ltP_irr h
 ·exact ltP_irr h.2) h
theorem node_of {g:List Nd}{z:Int}(h:0≤idx g z): ∃(j:Nat) (n:Nd),idx g z=(j:Int)∧g[j]?=some n∧n.1=z:=by
 rcases idx_cases z0 g z with⟨h1,_⟩|⟨j,n,h1,h2,h3,_⟩
 ·omega
 ·exact⟨j,n,h1,h2,h3⟩
theorem fed_one {g:List Nd}{l d:List Int}{dm:List (Int×Int)}(W:Whole g l d dm){sp:Sp}(hs:sp∈spots g d)(h2:sp.1.2≠2):(edges g d).countP (fun e=>decide (e.2.1=sp.1))=1:=by
 have h3: ∀n∈g,n.2.2.1.length≤2:=fun n hn=>in2 W.own hn
 have hod:Od (edges g d):=edgesF_od g d W.inc 0 g W.inc h3
 rcases spotsF_inv d 0 g sp hs with⟨m,hm,hi⟩|h
 case inr=>exact absurd h h2
 obtain⟨p,v⟩:=sp
 obtain⟨i1,i2,i3⟩:=insS_at g d m.1 0 m.2.2.1 p v hi
 obtain⟨k,hk⟩: ∃k:Nat,p.2=(k:Int):=⟨p.2.toNat,by omega⟩
 have hp:p=(m.1,(k:Int)):=Prod.ext i1 hk
 subst hp
 have hkl:k<m.2.2.1.length:=by simp only at i3;omega
 have hz:m.2.2.1[k]?=some m.2.2.1[k]:=List.getElem?_eq_getElem hkl
 generalize m.2.2.1[k]=z at hz
 have hin:=List.all_eq_true.1 (List.all_eq_true.1 W.kin m hm) z (List.mem_of_getElem? hz)
 have hz0:=W.fed m hm z (List.mem_of_getElem? hz)
 obtain⟨j,n,j1,j2,j3⟩:=node_of hz0
 unfold inOk at hin
 rw[if_neg (by omega),decide_eq_true_iff,j1,at_some rfl j2]at hin
 have he:(((n.1,2),(m.1,(k:Int)),(idP (iget d ((0+j:Nat):Int))).1):Ed)∈edges g d:=
  edgesF_out d 0 g j n _ j2 hin (List.mem_map.2 ⟨(m.1,(k:Int)),usesF_in n.1 g m k hm (by rw[j3];exact hz),rfl⟩)
 refine countP_one (od_nodup hod) he (decide_eq_true rfl) fun y hy hpy=>?_
 have hpy:y.2.1=(m.1,(k:Int)):=of_decide_eq_true hpy
 obtain⟨j',n',hn',_,h|h⟩:=edgesF_inv d 0 g y hy
 ·obtain⟨q,w,hw,rfl⟩:=inE_inv g d n' 0 n'.2.2.1 y h
  have:(2:Int)=(k:Int):=congrArg Prod.snd hpy
  exact absurd this.symm h2
 ·unfold outE at h
  obtain⟨u,hu,rfl⟩:=List.mem_map.1 h
  obtain⟨m',hm',k',rfl,hk'⟩:=usesF_inv n'.1 g u hu
  obtain⟨e1,e2⟩:=Prod.mk.inj (show(((m'.1,(k':Int)):Int×Int))=(m.1,(k:Int))from hpy)
  obtain rfl:k'=k:=by omega
  obtain⟨q,hq,hq2⟩:=List.getElem_of_mem hm
  obtain⟨q',hq',hq2'⟩:=List.getElem_of_mem hm'
  have a1:=W.inc.idx (j:=q) (n:=m) (by rw[List.getElem?_eq_getElem hq,hq2])
  have a2:=W.inc.idx (j:=q') (n:=m') (by rw[List.getElem?_eq_getElem hq',hq2'])
  rw[e1,a1]at a2
  obtain rfl:q=q':=by omega
  obtain rfl:m=m':=by rw[←hq2,←hq2']
  rw[hz]at hk'
  have e3:z=n'.1:=Option.some.inj hk'
  have a3:=W.inc.idx hn'
  rw[←e3,j1]at a3
  obtain rfl:j=j':=by omega
  rw[j2]at hn'
  obtain rfl:=Option.some.inj hn'
  rfl
theorem Index_eq (l:List Int)(x:Int)(hl:l.length≤1000):(F.au l x=some (-1)∧x∉l)∨∃k:Nat,F.au l x=some (k:Int)∧l[k]?=some x:=by
 unfold F.au
 rcases A.fst l (fun y=>decide (x=y)) (fun f y=>F.am l x f y) (fun f=>by rw[F.am,if_neg (by omega)])
  (fun f k y hy hk=>by
   rw[F.am,if_pos (by omega),A.ixn hy,Option.bind_some]
   by_cases h:x=y
   ·rw[if_pos h,if_pos (decide_eq_true h)]
   ·rw[if_neg h,if_neg (by rw[decide_eq_true_iff];exact h),A.gd1 (A.r64n (by omega))])
  (by have:=FU_big;omega)with⟨h1,h2⟩|⟨k,y,h1,h2,h3,_⟩
 ·exact .inl ⟨h1,fun h=>by have:=h2 x h;rw[decide_eq_false_iff_not]at this;exact this rfl⟩
 ·obtain rfl:x=y:=of_decide_eq_true h3
  exact .inr ⟨k,h2,h1⟩
theorem Contains_eq (l:List Int)(x:Int)(hl:l.length≤1000)(h:x∈l):F.aG l x=some true:=by
 unfold F.aG
 rcases Index_eq l x hl with⟨_,h2⟩|⟨k,h1,_⟩
 ·exact absurd h h2
 ·rw[h1,Option.bind_some,decide_eq_true (by omega)]
theorem ord_l2 (k29:Int→Option Bool)(r2:List Int×Int)(y i:Nat)(n:Nd)(hn:n.2.2.1.length≤2)(hy:y≤100)(hr:r2.1.length≤100)(hi:i≤r2.1.length)(hc:n.2.1≠14→∀k∈n.2.2.1,k∈r2.1.take i):
  F.ag k29 r2 (y:Int) n (i:Int) A.FU 0=k29 ((y:Int)+1):=
 A.lp0 n.2.2.1 (fun f z=>F.ag k29 r2 (y:Int) n (i:Int) f z) (fun _ _=>k29 ((y:Int)+1))
  (fun f=>by rw[F.ag,if_neg (by omega),A.gd1 (A.r64n (by omega))])
  (fun f k x hx hk ih=>by
   have e:F.a2 (F.ag k29 r2 (y:Int) n (i:Int) f) (k:Int) false=k29 ((y:Int)+1):=by
    rw[F.a2,if_neg (by decide),A.gd1 (A.r64n (by omega)),ih]
   rw[F.ag,if_pos (by omega),A.ixn hx,Option.bind_some]
   by_cases h14:n.2.1≠14
   ·rw[if_pos h14,A.gd1 ⟨by omega,by rw[Int.toNat_natCast];omega⟩,Int.toNat_natCast,Contains_eq _ x (by rw[List.length_take];omega) (hc h14 x (List.mem_of_getElem? hx)),Option.bind_some]
    exact e
   ·rw[if_neg h14];exact e)
  (by have:=FU_big;omega)
theorem ord_l6 (r40:List Sp×Int)(m:List (Pl×Int))(hl:r40.1.length≤1000000)(h: ∀sp∈r40.1,sp.1.2≠2→Z.mget 0 m sp.1=1):F.ah r40 m A.FU 0=some true:=
 A.lp0 r40.1 (fun f z=>F.ah r40 m f z) (fun _ _=>some true)
  (fun f=>by rw[F.ah,if_neg (by omega)])
  (fun f k x hx hk ih=>by
   have e:F.a5 (F.ah r40 m f) (k:Int) false=some true:=by
    rw[F.a5,if_neg (by decide),A.gd1 (A.r64n (by omega)),ih]
   rw[F.ah,if_pos (by omega),A.ixn hx,Option.bind_some]
   by_cases h2:x.1.2≠2
   ·have h1:=h x (List.mem_of_getElem? hx) h2
    rw[if_pos h2,A.lt,show Z.mget 0 m x.1=1 from h1]
    exact e
   ·rw[if_neg h2];exact e)
  (by have:=FU_big;omega)
theorem ord_l7 (r40:List Sp×Int)(r45:List Ed×Int)(hl:r40.1.length≤1000000)(hl2:r45.1.length≤1000000)(hn:(r40.1.map (·.1)).Nodup)
  (he: ∀e∈r45.1,∃a b,(e.1,a)∈r40.1∧(e.2.1,b)∈r40.1∧e.2.2.1=a∧F.aI e.2.2=some b)
  (hf: ∀sp∈r40.1,sp.1.2≠2→r45.1.countP (fun e=>decide (e.2.1=sp.1))=1):F.t r40 r45 r40.1 A.FU [] 0=some true:=
 A.lp r45.1 (fun f (s:List (Pl×Int)) z=>F.t r40 r45 r40.1 f s z) (fun _ _ _=>some true) (fun k s=>∀p:Pl,p.2≠2→Z.mget 0 s p=(((r45.1.take k).countP (fun e=>decide (e.2.1=p)):Nat):Int))
  (fun f s hs=>by
   rw[F.t,if_neg (by omega)]
   refine ord_l6 r40 s hl fun sp h1 h2=>?_
   rw[hs sp.1 h2,List.take_length,hf sp h1 h2];rfl)
  (fun f s k x hx hk hs ih=>by
   obtain⟨a,b,h1,h2,h3,h4⟩:=he x (List.mem_of_getElem? hx)
   have get: ∀(p:Pl) (v:Int),(p,v)∈r40.1→Z.mget 0 r40.1 p=v∧Z.mhas r40.1 p=true:=fun p v hp=>by
    obtain⟨i,hi,e⟩:=List.getElem_of_mem hp
    have:=Z.mget_get (z:=(0:Int)) (m:=r40.1) (i:=i) (p:=(p,v)) hn (by rw[List.getElem?_eq_getElem hi,e])
    exact this
   obtain⟨g1,g2⟩:=get _ _ h1
   obtain⟨g3,g4⟩:=get _ _ h2
   have htk:=take_s hx
   have hct: ∀p:Pl,(r45.1.take (k+1)).countP (fun e=>decide (e.2.1=p))=(r45.1.take k).countP (fun e=>decide (e.2.1=p))+(if x.2.1=p then 1 else 0):=fun p=>by
    rw[htk,List.countP_append,List.countP_singleton]
    by_cases hp:x.2.1=p<;>simp[hp]
   have hcl:=List.countP_le_length (p:=fun e:Ed=>decide (e.2.1=x.2.1)) (l:=r45.1.take k)
   rw[List.length_take]at hcl
   have e:F.a4 (F.t r40 r45 r40.1 f) s (k:Int) x false=some true:=by
    rw[F.a4,if_neg (by decide)]
    by_cases hp2:x.2.1.2≠2
    ·have hv:=hs x.2.1 hp2
     rw[if_pos hp2,A.lt,show Z.mget 0 s x.2.1=_ from hv,A.gd1 (A.r64n (by omega)),F.a3,A.gd1 (A.r64n (by omega))]
     refine ih _ fun p hp=>?_
     rw[hct p,show(x.2.1:Pl)=x.2.1 from rfl,Z.mget_ins]
     by_cases hpx:p=x.2.1
     ·rw[if_pos hpx,if_pos hpx.symm,hpx];rfl
     ·rw[if_neg hpx,if_neg (fun h=>hpx h.symm),hs p hp];rfl
    ·rw[if_neg hp2,F.a3,A.gd1 (A.r64n (by omega))]
     refine ih _ fun p hp=>?_
     rw[hct p,if_neg (fun h=>hp (by rw[←h];exact Classical.not_not.1 hp2)),hs p hp];rfl
   rw[F.t,if_pos (by omega),A.ixn hx,Option.bind_some,A.lt,A.lt,show Z.mget 0 r40.1 x.1=a from g1,show Z.mget 0 r40.1 x.2.1=b from g3,show Z.mhas r40.1 x.1=true from g2,show Z.mhas r40.1 x.2.1=true from g4]
   rw[if_neg (by simp[h3])]
   rw[show F.aI (x.2.2.1,x.2.2.2.1,x.2.2.2.2.1,x.2.2.2.2.2.1,(x.2.2.2.2.2.2.1,x.2.2.2.2.2.2.2.1,x.2.2.2.2.2.2.2.2.1,x.2.2.2.2.2.2.2.2.2))=some b from h4,Option.bind_some,decide_eq_false (fun h=>h rfl)]
   exact e)
  (by have:=FU_big;omega) [] (fun p hp=>rfl)
theorem ord_l8 (r40:List Sp×Int)(r45:List Ed×Int)(hl:r40.1.length≤1000000)(hn:(r40.1.map (·.1)).Nodup):F.aA r40 r45 A.FU [] 0=F.t r40 r45 r40.1 A.FU [] 0:=
 A.lp r40.1 (fun f (s:List (Pl×Int)) z=>F.aA r40 r45 f s z) (fun _ _ _=>F.t r40 r45 r40.1 A.FU [] 0) (fun k s=>s=r40.1.take k)
  (fun f s hs=>by rw[F.aA,if_neg (by omega),hs,List.take_length])
  (fun f s k x hx hk hs ih=>by
   rw[F.aA,if_pos (by omega),A.ixn hx,Option.bind_some,A.gd1 (A.r64n (by omega))]
   refine ih _ ?_
   have hno:Z.mhas s x.1=false:=by
    cases hm:Z.mhas s x.1 with
    |false=>rfl
    |true=>
     exfalso
     have h1:=Z.mget_mem (z:=(0:Int)) hm
     rw[hs]at h1
     obtain⟨i,hi,e⟩:=List.getElem_of_mem h1
     rw[List.length_take]at hi
     rw[List.getElem_take]at e
     have h2:=List.pairwise_iff_getElem.1 hn i k (by rw[List.length_map];omega) (by rw[List.length_map];omega) (by omega)
     rw[List.getElem_map,List.getElem_map,e]at h2
     refine h2 ?_
     rw[List.getElem?_eq_getElem hk]at hx
     rw[Option.some.inj hx]
   rw[show Z.mins s x.1 x.2=s++[x]from mins_new hno,hs,take_s hx])
  (by have:=FU_big;omega) [] rfl
theorem begunO:F.cF=some true:=by kernel_rfl
theorem named_16 {s:ByteArray}(h:named s=true):s.size≤16:=by
 unfold named at h
 simp only[Bool.and_eq_true,decide_eq_true_eq]at h
 omega
theorem own_16 {n:Nd}(h:ownQ n=true):n.2.2.2.2.1.size≤16:=by
 unfold ownQ at h
 split at h
 ·cases h
 ·split at h
  ·cases h
  ·split at h
   ·exact named_16 h
   ·rw[decide_eq_true_iff]at h;rw[h];decide
theorem dec_4 (s:ByteArray)(p:Nat):(Utf8.decode s p).2≤4:=by
 have h:=wid_4 s p
 unfold wid at h
 split at h
 ·rename_i e;rw[e];decide
 ·exact h
theorem cnt_4 {s:ByteArray}(h:cnt s s.size 0=1):s.size≤4:=by
 cases hs:s.size with
 |zero=>omega
 |succ n=>
  rw[hs,cnt,if_pos (by omega)]at h
  have h4:=dec_4 s 0
  cases n with
  |zero=>omega
  |succ n=>
   rw[cnt]at h
   split at h
   ·omega
   ·omega
theorem text_16 {f:Fun}(h:textP f=true):f.2.2.size≤16:=by
 unfold textP at h
 split at h
 ·simp only[Bool.and_eq_true,decide_eq_true_eq]at h;omega
 ·split at h
  ·simp only[Bool.and_eq_true,decide_eq_true_eq]at h
   have:=cnt_4 h.1;omega
  ·rw[decide_eq_true_iff]at h;rw[h];decide
theorem chk_16 {k:Int}{f:Fun}(h:chk k f=0):f.2.2.size≤16:=by
 unfold chk at h
 split at h
 ·split at h
  ·rename_i hf;rw[hf];decide
  ·cases h
 ·unfold anyF at h
  split at h
  ·rename_i ha
   obtain⟨y,_,hy⟩:=List.any_eq_true.1 ha
   simp only[Bool.and_eq_true]at hy
   exact text_16 hy.2.2
  ·cases h
theorem small_of {g:List Nd}(h32:g.length≤32)(hok:okL g 0 0 g=true)(hc:g.all (fun n=>decide (chk n.2.1 n.2.2.2.1=0))=true):Few g:=by
 have ho:=own_of hok
 refine⟨by omega,fun x hx=>⟨by have:=in2 ho hx;omega,by have:=own_16 (ho x hx);omega,?_⟩⟩
 have:=chk_16 (of_decide_eq_true (List.all_eq_true.1 hc x hx))
 omega
theorem whole_all (g:List Nd)(h: ∀x∈g,x.2.2.2.2.1.size≤9223372036854775807∧x.2.2.2.1.2.2.size≤9223372036854775807):Few g∨∃e,e≠0∧F.az g=some (none,e):=by
 unfold F.az
 by_cases h32:(32:Int)<(g.length:Int)
 ·rw[if_pos h32];exact .inr ⟨80,by decide,rfl⟩
 rw[if_neg h32,whole_l6 g (by omega) (fun x hx=>(h x hx).1)]
 by_cases hok:okL g 0 0 g=true
 case neg=>rw[if_neg hok];exact .inr ⟨80,by decide,rfl⟩
 rw[if_pos hok,whole_l5 g _ (by omega) (fun x hx=>(h x hx).2)]
 by_cases hc:g.all (fun n=>decide (chk n.2.1 n.2.2.2.1=0))=true
 case neg=>rw[if_neg hc];exact .inr ⟨60,by decide,rfl⟩
 exact .inl (small_of (by omega) hok hc)
theorem order_law (g:List Nd)(hb:Few g):(∃l e,e≠0∧F.bo g=some (l,e))∨∃l d dm,F.bo g=some (l.map (idAt g),0)∧F.bq g=some (spots g d,0)∧F.bp g=some (edges g d,0)∧Whole g l d dm:=by
 obtain⟨s,x,e,h1,h2,h3,h4,_,_⟩:=steps_tell g hb
 have hlen:=hb.1
 unfold F.bo
 rcases whole_same g hb with⟨e,h0,w1,w2⟩|⟨l,d,dm,w1,w2,W⟩
 ·rw[w1]
  simp only[Option.bind_some,A.om,if_pos h0]
  exact .inl ⟨[],e,h0,rfl⟩
 ·right
  refine⟨l,d,dm,?_,?_,?_,W⟩
  ·rw[w1]
   simp only[Option.bind_some,A.om,ne_eq,not_true_eq_false,if_false]
  ·unfold F.bq
   rw[w1]
   simp only[Option.bind_some,A.om,ne_eq,not_true_eq_false,if_false]
   rw[spotsP_eq g d _ hb W.fed W.own W.rel];rfl
  ·have h3: ∀n∈g,n.2.2.1.length≤2:=fun n hn=>in2 W.own hn
   have he:(edges g d).length≤1000000:=Nat.le_trans (edgesF_len g d 0 g (by omega) h3 h3) (by omega)
   have hod:Od (edges g d):=edgesF_od g d W.inc 0 g W.inc h3
   unfold F.bp
   rw[w1]
   simp only[Option.bind_some,A.om,ne_eq,not_true_eq_false,if_false]
   rw[edgesP_eq g d _ hb W.fed W.own W.inb W.rel,Option.bind_some,sorted_eq hod he];rfl
theorem ord_l9 {g:List Nd}{l d:List Int}{dm:List (Int×Int)}(hb:Few g)(W:Whole g l d dm)(h1:F.bq g=some (spots g d,0))(h2:F.bp g=some (edges g d,0)):F.al g (l.map (idAt g),0) A.FU 0=some true:=by
 have hlen:=hb.1
 have hll:=W.llen
 obtain⟨done,S⟩:=W.syn
 have h3: ∀n∈g,n.2.2.1.length≤2:=fun n hn=>in2 W.own hn
 exact A.lp0 g (fun f y=>F.al g (l.map (idAt g),0) f y) (fun _ _=>some true)
  (fun f=>by
   have hs:=spots_len W.own d g.length 0 (by omega)
   rw[List.drop_zero]at hs
   have he:(edges g d).length≤1000000:=Nat.le_trans (edgesF_len g d 0 g (by omega) h3 h3) (by omega)
   have hnd:((spots g d).map (·.1)).Nodup:=spotsF_nodup d 0 g W.inc h3
   rw[F.al,if_neg (by omega),h1,Option.bind_some,h2,Option.bind_some,if_neg (by simp)]
   rw[ord_l8 _ _ (by show(spots g d).length≤_;unfold spots;omega) hnd]
   exact ord_l7 _ _ (by show(spots g d).length≤_;unfold spots;omega) he hnd (fun e he=>o_aX W he) (fun sp hs h2=>fed_one W hs h2))
  (fun f k n hn hk ih=>by
   have hng:=List.mem_of_getElem? hn
   have hidn:idAt g (k:Int)=n.1:=by unfold idAt;rw[at_some rfl hn]
   rw[F.al,if_pos (by omega),A.ixn hn,Option.bind_some]
   rcases Index_eq (l.map (idAt g)) n.1 (by rw[List.length_map];omega)with⟨_,hno⟩|⟨i,i1,i2⟩
   ·exact absurd (by rw[←hidn];exact List.mem_map_of_mem (W.all hk)) hno
   ·rw[i1,Option.bind_some,if_neg (by omega)]
    have hil:=(List.getElem?_eq_some_iff.1 i2).1
    rw[List.length_map]at hil
    refine(ord_l2 _ (l.map (idAt g),0) k i n (h3 n hng) (by omega) (by show(l.map (idAt g)).length≤_;rw[List.length_map];omega) (by show i≤(l.map (idAt g)).length;rw[List.length_map];omega) fun h14 z hz=>?_).trans ih
    obtain⟨q,m,e1,hm,hin⟩:=S.ord i l[i] (List.getElem?_eq_getElem hil)
    rw[List.getElem?_map,List.getElem?_eq_getElem hil,Option.map_some,e1]at i2
    have hidm:idAt g (q:Int)=m.1:=by unfold idAt;rw[at_some rfl hm]
    rw[hidm]at i2
    have i2:=Option.some.inj i2
    have a1:=W.inc.idx hn
    have a2:=W.inc.idx hm
    rw[i2,a1]at a2
    obtain rfl:k=q:=by omega
    rw[hn]at hm
    obtain rfl:=Option.some.inj hm
    have hzi:=hin h14 z hz
    obtain⟨j,w,j1,j2,j3⟩:=node_of (W.fed n hng z hz)
    show z∈(l.map (idAt g)).take i
    rw[←List.map_take]
    refine List.mem_map.2 ⟨idx g z,hzi,?_⟩
    unfold idAt
    rw[j1,at_some rfl j2,j3])
  (by have:=FU_big;omega)
theorem graphOrder_plain (g:List Nd)(hg:(Z.Ty.slice T33).ok g):F.bR g=some true:=by
 obtain⟨b,hf,hb⟩:=few_eq g
 have hsz: ∀x∈g,x.2.2.2.2.1.size≤9223372036854775807∧x.2.2.2.1.2.2.size≤9223372036854775807:=fun x hx=>by
  obtain⟨_,_,_,⟨_,_,hS⟩,hN,_,_⟩:=hg.2 x hx
  exact⟨hN,hS⟩
 unfold F.bR F.bi
 have small:Few g→_:=fun hb=>order_law g hb
 rcases whole_all g hsz with hF|⟨e,h0,hw⟩
 ·rcases order_law g hF with⟨l,e,h0,h1⟩|⟨l,d,dm,h1,h2,h3,W⟩
  ·rw[h1,Option.bind_some,begunO,Option.bind_some,hf]
   simp only[Bool.not_true,Bool.false_eq_true,if_false,Option.bind_some]
   cases b<;>simp[h0]
  ·rw[h1,Option.bind_some,begunO,Option.bind_some,hf]
   simp only[Bool.not_true,Bool.false_eq_true,if_false,Option.bind_some]
   cases b with
   |false=>rfl
   |true=>
    simp only[Bool.not_true,cond_false,ne_eq,not_true_eq_false,decide_false,Bool.false_eq_true,if_false]
    rw[if_neg (by rw[List.length_map,W.llen];exact fun h=>h rfl)]
    exact ord_l9 hF W h2 h3
 ·unfold F.bo
  rw[hw]
  simp only[Option.bind_some,A.om,if_pos h0,begunO,hf]
  cases b<;>simp[h0]
end Go.Proofs.YtbdlcighhphaoaaDoor
end
section
namespace Go.Z
open Go.RowKit
def OpenT (P:Program)(T:TypeId)(t:Ty):Prop:=
 P.cellsOf T=t.size∧∀(H:Type) (enc:TypeId×Value→H) (w:World) (base:Nat) (spare:Nat→Bool) (held:Bool) (fuel:Nat) (cs:List Value) (x:DataW H×List MemPlace),
  DataW.trod enc P w base spare held fuel T cs=some x→∃y:t.den,t.rep w (nt []) cs y
section
variable {P:Program}{T e:TypeId}
theorem ot_int {k:IntKind}(hc:P.cellsOf T=1)(ht:P.underlying T=some (.int k)):OpenT P T (.int k):=⟨hc,fun H enc w base spare held fuel cs x h=>by
 obtain⟨n,rfl,_,hw⟩:=DataW.trod_int ht h
 refine⟨n,rfl,?_⟩
 simp only[Lit.wf,Bool.and_eq_true,decide_eq_true_eq]at hw
 exact hw⟩
theorem ot_str (hc:P.cellsOf T=1)(ht:P.underlying T=some .string):OpenT P T .str:=⟨hc,fun H enc w base spare held fuel cs x h=>by
 obtain⟨s,rfl,_,hs⟩:=DataW.trod_string ht h
 exact⟨s,rfl,hs⟩⟩
def OpenPs (P:Program):List (TypeId×Nat)→Nat→Ty→Prop
 | [],_,_=>False
 | [(T,o')],o,t=>o'=o∧OpenT P T t
 |(T,o')::p::ps,o,.pair a b=>o'=o∧OpenT P T a∧OpenPs P (p::ps) (o+a.size) b
 |_::_::_,_,_=>False
theorem open_ps {H:Type}{enc:TypeId×Value→H}{w:World}{base:Nat}{spare:Nat→Bool}{held:Bool}{fuel:Nat}{cs:List Value}:
  ∀(ps:List (TypeId×Nat)) (o:Nat) (t:Ty),OpenPs P ps o t→(∀p∈ps,∃x,DataW.trod enc P w base spare held fuel p.1 ((cs.drop p.2).take (P.cellsOf p.1))=some x)→∃y:t.den,t.rep w (nt []) ((cs.drop o).take t.size) y
 | [],_,_,h,_=>h.elim
 | [(T,o')],o,t,h,hx=>by
  obtain⟨rfl,⟨hc,ho⟩⟩:=h
  obtain⟨x,hx⟩:=hx (T,o') (List.mem_singleton.2 rfl)
  rw[←hc];exact ho _ _ _ _ _ _ _ _ _ hx
 |(T,o')::p::ps,o,.pair a b,h,hx=>by
  obtain⟨rfl,⟨hc,ho⟩,hr⟩:=h
  obtain⟨x,h1⟩:=hx (T,o') (List.mem_cons_self ..)
  obtain⟨ya,hya⟩:=ho _ _ _ _ _ _ _ _ _ h1
  obtain⟨yb,hyb⟩:=open_ps (p::ps) _ b hr fun q hq=>hx q (List.mem_cons_of_mem _ hq)
  refine⟨(ya,yb),_,_,?_,hya,hyb⟩
  show(cs.drop o').take (a.size+b.size)=_
  rw[hc,List.take_add,List.drop_drop]
 |_::_::_,_,.int _,h,_=>h.elim
 |_::_::_,_,.byte,h,_=>h.elim
 |_::_::_,_,.bool,h,_=>h.elim
 |_::_::_,_,.str,h,_=>h.elim
 |_::_::_,_,.slice _,h,_=>h.elim
theorem ot_struct {fs:List Field}{t:Ty}(hc:P.cellsOf T=t.size)(ht:P.underlying T=some (.struct fs.toArray))(h:OpenPs P (fs.map fun f=>(f.type,f.offset)) 0 t):OpenT P T t:=⟨hc,fun H enc w base spare held fuel cs x hx=>by
 obtain⟨xs,n,_,_,hl,hs,hf⟩:=DataW.trod_struct ht hx
 have hcs:cs=(cs.drop 0).take t.size:=by rw[List.drop_zero,List.take_of_length_le (by omega)]
 rw[hcs]
 refine open_ps (fuel:=n) (enc:=enc) (base:=base) (spare:=spare) (held:=held) _ 0 t h fun p hp=>?_
 obtain⟨f,hf1,rfl⟩:=List.mem_map.1 hp
 obtain⟨i,hi,he⟩:=List.getElem_of_mem hf1
 have h1:=hf i f (by rw[List.getElem?_toArray,List.getElem?_eq_getElem hi,he])
 rw[h1,List.getElem?_eq_getElem (by rw[hs];simpa using hi)]
 exact⟨_,rfl⟩⟩
theorem rows_of {t:Ty}{w:World}{g:Addr}: ∀(n:Nat),(∀i,i<n→∃(cs:List Value) (y:t.den),cs.length=t.size∧(∀j u,cs[j]?=some u→w.cell? (g.add (i*t.size+j))=some u)∧t.rep w (nt []) cs y)→
  ∃(cells:List Value) (ys:List t.den),ys.length=n∧cells.length=n*t.size∧(∀j u,cells[j]?=some u→w.cell? (g.add j)=some u)∧∀(i:Nat) (y:t.den),ys[i]?=some y→t.rep w (nt []) ((cells.drop (i*t.size)).take t.size) y
 |0,_=>⟨[],[],rfl,by simp,by simp,by simp⟩
 |n+1,h=>by
  obtain⟨cells,ys,h1,h2,h3,h4⟩:=rows_of n fun i hi=>h i (by omega)
  obtain⟨cs,y,c1,c2,c3⟩:=h n (by omega)
  refine⟨cells++cs,ys++[y],by simp[h1],by rw[List.length_append,h2,c1,Nat.succ_mul],fun j u hj=>?_,?_⟩
  ·by_cases hlt:j<cells.length
   ·rw[List.getElem?_append_left hlt]at hj;exact h3 j u hj
   ·rw[List.getElem?_append_right (by omega)]at hj
    have:=c2 _ u hj
    rwa[h2,show n*t.size+(j-n*t.size)=j by omega]at this
  ·refine rep_append (xs:=ys) (ys:=[y]) (by rw[h2,h1]) h4 fun i y' hi=>?_
   have:i=0:=by have:=(List.getElem?_eq_some_iff.1 hi).1;simp at this;omega
   subst this
   simp at hi;subst hi
   rw[Nat.zero_mul,List.drop_zero,List.take_of_length_le (by omega)];exact c3
theorem ot_slice {t:Ty}(hc:P.cellsOf T=1)(ht:P.underlying T=some (.slice e))(h:OpenT P e t):OpenT P T (.slice t):=⟨hc,fun H enc w base spare held fuel cs x hx=>by
 rcases DataW.trod_slice ht hx with⟨rfl,_⟩|⟨ad,len,cap,elems,rest,n,_,rfl,_,hb,hl,hm,hlen,hel,_,_⟩
 ·exact⟨[],rep_nil _⟩
 ·have each: ∀i,i<len→∃(cs:List Value) (y:t.den),cs.length=t.size∧(∀j u,cs[j]?=some u→w.cell? (ad.add (i*t.size+j))=some u)∧t.rep w (nt []) cs y:=fun i hi=>by
   have h1:=hel i hi
   rw[List.getElem?_eq_getElem (by omega),Option.bind_eq_some_iff]at h1
   obtain⟨cs',h2,h3⟩:=h1
   obtain⟨_,h4,h5⟩:=World.cells?_some h2
   obtain⟨y,hy⟩:=h.2 _ _ _ _ _ _ _ _ _ h3
   rw[h.1]at h4 h5
   refine⟨cs',y,h4,fun j u hj=>?_,hy⟩
   have hlt:=(List.getElem?_eq_some_iff.1 hj).1
   have:=h5 j (by omega)
   rw[add_add]at this
   rw[this,hj]
  obtain⟨cells,ys,h1,h2,h3,h4⟩:=rows_of len each
  by_cases hz:len=0
  ·subst hz
   have:ys=[]:=List.eq_nil_of_length_eq_zero h1
   subst this
   exact⟨[],some ad,cap,[],rfl,by simp,hm,by simp,.inl rfl,by simp⟩
  ·have hp:=pos_size t
   have hlt:0<cells.length:=by rw[h2];exact Nat.mul_pos (by omega) hp
   have h0:=h3 0 _ (List.getElem?_eq_getElem hlt)
   have hspot:=World.cell?_spot h0
   obtain⟨b,off,spot⟩:=ad
   simp only[Addr.add]at hspot
   subst hspot
   refine⟨ys,some ⟨b,off,none⟩,cap,cells,by rw[h1],by omega,hm,by rw[h1];exact h2,.inr ⟨b,off,rfl,by simp[nt],fun j u hj=>?_⟩,h4⟩
   have:=h3 j u hj
   rwa[Addr.add_lit]at this⟩
end
end Go.Z
end
section
namespace Go.Proofs.YtbdlcighhphaoaaDoor.graphOrderDone
open Go.ChangeShapes Go.WideShapes Go.ChangeAt Go.RowKit
set_option linter.unusedVariables false
theorem own:ownKnob Tryd.prog.godebug=none:=by kernel_rfl
theorem laidOut:laidOutB Tryd.prog=true:=by kernel_rfl
theorem ot3:Z.OpenT Tryd.prog 3 A.ti:=Z.ot_int (by kernel_rfl) Tryd.underlying3
theorem ot30:Z.OpenT Tryd.prog 30 A.TI:=Z.ot_slice (by kernel_rfl) Tryd.underlying30 ot3
theorem ot2:Z.OpenT Tryd.prog 2 A.ti:=Z.ot_int (by kernel_rfl) Tryd.underlying2
theorem ot9:Z.OpenT Tryd.prog 9 Z.Ty.str:=Z.ot_str (by kernel_rfl) Tryd.underlying9
theorem ot32:Z.OpenT Tryd.prog 32 T31:=Z.ot_struct (by kernel_rfl) Tryd.underlying32 ⟨rfl,ot3,rfl,ot2,rfl,ot9⟩
theorem ot34:Z.OpenT Tryd.prog 34 T33:=Z.ot_struct (by kernel_rfl) Tryd.underlying34 ⟨rfl,ot3,rfl,ot3,rfl,ot30,rfl,ot32,rfl,ot9,rfl,ot2,rfl,ot3⟩
theorem ot22:Z.OpenT Tryd.prog 22 (Z.Ty.slice T33):=Z.ot_slice (by kernel_rfl) Tryd.underlying22 ot34
theorem ot24:Z.OpenT Tryd.prog 24 T23:=Z.ot_struct (by kernel_rfl) Tryd.underlying24 ⟨rfl,ot22⟩
set_option maxRecDepth 100000 in
theorem laid_met (os:Os)(args:Array Value):laidMetH Tryd.prog Rows.graphOrderRow.laid (({World.holding Tryd.prog os ⟨#[],#[],[]⟩with heap:=((World.holding Tryd.prog os ⟨#[],#[],[]⟩).heap.modify 0 (A.putCells A.tabF)).modify 1 (A.putCells A.tabA)}:World).forCall (fun _ _=>0) ⟨#[],args,[]⟩).memory:=by
 rw[MakeChecks.laidMetH_plain _ _ _ (by kernel_rfl)]
 exact(LaidIn.of_run (l:=Rows.graphOrderRow.laid) [1,0] 8 (by kernel_rfl) (by kernel_rfl) (by kernel_rfl) (by kernel_rfl)).met
theorem of_laid {W:World}(h:laidMetH Tryd.prog Rows.graphOrderRow.laid W):Lib.Utf8Tabs 0 1 W:=by
 rw[MakeChecks.laidMetH_plain _ _ _ (by kernel_rfl)]at h
 have h1:=Lib.laidMet.reads h (.tail _ (.head _))
 rw[show Rows.laid_unicode_utf8_first=Lib.firstData from Pinned.utf8First_eq]at h1
 have h2:=Lib.laidMet.reads h (.head _)
 rw[show(Rows.laid_unicode_utf8_acceptRanges:DataW Unit)=Lib.acceptData by kernel_rfl]at h2
 exact utf8Tabs_of_readsT (U8Types.of196 Tryd.laysValid) ⟨by kernel_rfl,by kernel_rfl,by kernel_rfl,by kernel_rfl,by kernel_rfl,by kernel_rfl,by kernel_rfl⟩ h1 h2
set_option maxHeartbeats 1000000 in
set_option maxRecDepth 100000 in
theorem lifted (os:Os)(started:os.Started)(H:Type)(enc:TypeId×Value→H):
  ReturnsInHanded {} Tryd.checked os 7 .any (fun w args=>(Rows.graphOrderSpec.pre enc Tryd.prog Tryd.f7 [] false w args∧laidMetH Tryd.prog Rows.graphOrderRow.laid w)∧sizedMet enc Tryd.prog Tryd.f7 (OpenSpec.ofChange Rows.graphOrderSpec) false w args) (Rows.graphOrderSpec.post enc Tryd.prog Tryd.f7 false true false false):=by
 refine returnsInHanded_of_change_and (C:=Tryd.checked) (X:=fun w _=>laidMetH Tryd.prog Rows.graphOrderRow.laid w) (fun _ _ _ hh h=>h.of_heap hh) own started (by kernel_rfl) Tryd.func7
  (ChangeSpec.witness_shaped (enc:=enc) (C:=Tryd.checked) (os:=os) (X:=fun w _=>laidMetH Tryd.prog Rows.graphOrderRow.laid w) false ({World.holding Tryd.prog os ⟨#[],#[],[]⟩with heap:=((World.holding Tryd.prog os ⟨#[],#[],[]⟩).heap.modify 0 (A.putCells A.tabF)).modify 1 (A.putCells A.tabA)}) #[.agg #[.slice none 0 0]] 16 rfl (World.shaped_of_RefB (by kernel_rfl) (by kernel_rfl)) (by kernel_rfl) (by kernel_rfl) (by kernel_rfl) (laid_met os _)) ?_
 intro W base args ds gs before hval0 hW hcnd _ hL _
 have hval: ∀(j:Nat) t v,Tryd.f7.params[j]?=some t→args[j]?=some v→Value.okWide Tryd.prog W .any base t v:=hval0
 have hW':=hW
 obtain⟨p,q,hA0,hV,rfl,hfz,hnd⟩:=hW
 have hA:DataW.TrodAll enc Tryd.prog W 0 (fun _=>true) true Tryd.f7.params.toList args.toList ds p:=hA0
 rw[Tryd.params7]at hA hval
 obtain⟨v0,vs0,d0,ds0,p0,q0,hargs,rfl,rfl,h0,r0⟩:=trodAll_cons hA
 obtain⟨rfl,rfl,rfl⟩:=trodAll_nil r0
 obtain rfl:args=#[v0]:=by cases args;simp_all
 obtain⟨rfl,rfl⟩:=trodVars_none hV
 have k0:=h0
 have lt0: ∀x∈p0,x.block<W.heap.size:=by obtain⟨m,hm⟩:=k0;exact DataW.trod_lt m _ _ _ hm
 obtain⟨fu0,hf0⟩:=h0
 obtain⟨x0,hx0⟩:=ot24.2 _ _ _ _ _ _ _ _ _ hf0
 obtain⟨cs0,rfl,_⟩:=okWide_struct Tryd.underlying24 (hval 0 24 v0 rfl rfl)
 replace hx0:T23.rep W (Z.nt []) cs0.toList x0:=hx0
 have hok0:=Z.rep_ok _ hx0
 obtain⟨a0,c0,hc0⟩: ∃a c,cs0.toList=[.slice a x0.length c]:=by obtain⟨a,c,_,h,_⟩:=hx0;exact⟨a,c,h⟩
 obtain rfl:cs0=#[.slice a0 x0.length c0]:=by rw[←Array.toArray_toList (xs:=cs0),hc0]
 clear hA0 hval0
 have htab:=of_laid hL
 have hF:F.bR x0=some true:=graphOrder_plain x0 hok0
 have hct:=o_ak a0 c0 x0 true hF
 refine(hct W (fun _=>True) (A.Hp.start ⟨A.Hall.sh hx0,A.Hall.tabs htab⟩)).mono ?_
 rintro e W' ⟨v,H',rfl,⟨rfl,rfl⟩,hh⟩
 have bel:=hh.ch.below
 exact⟨_,rfl,_,_,_,[],_,[],hW',trodAll_mk1 (shut_bool Tryd.underlying4 _),(trodAll_cons_mk (Below.trod laidOut (by kernel_rfl) (of_decide_eq_true (by kernel_rfl)) k0 bel lt0) trodAll_mk0),rfl,bel.frame _,fun h=>by cases h⟩
theorem over:Rows.graphOrderRow.holds Tryd.pinned (OpenSpec.ofChange Rows.graphOrderSpec):=
 OpenClaim.holds_of_wide 7 Tryd.f7 rfl rfl rfl rfl rfl rfl rfl ⟨rfl,rfl,rfl,rfl,rfl⟩ rfl rfl rfl rfl rfl (by kernel_rfl) Tryd.func7 (by kernel_rfl)
  (of_decide_eq_true (by kernel_rfl)) (by unfold Func.isWrapper;first|(rw[if_pos (by decide+kernel)];kernel_rfl)|(rw[if_neg (by decide+kernel)];exact⟨rfl,rfl⟩))
  (fun os started H enc _=>lifted os started H enc)
theorem proved:Rows.GraphOrderCardSaid:=
 Claim7.holds_tied_plain_at .later [] [.data,.pinned] true (true,"457d12e9bc61cdb79bba3c0ce5e87f8b62100122b89a9273838a7a650f225db8") false
  over (fun _ h=>by cases h) (by kernel_rfl) (fun _ h=>by cases h) graphOrder_row_tie rfl ⟨rfl,rfl⟩ (by kernel_rfl) rfl
  (fun f fn hf hfn=>by
   obtain rfl:f=7:=Option.some.inj ((show Tryd.prog.funcNamed Rows.graphOrderRow.func=some 7 by kernel_rfl).symm.trans hf) |>.symm
   obtain rfl:fn=Tryd.f7:=(Option.some.inj (Tryd.func7.symm.trans hfn)).symm
   exact⟨by kernel_rfl,fun j t ht=>by
    rw[Tryd.params7]at ht
    have hm:t∈[24]:=by simpa using Array.mem_of_getElem? ht
    have hall:([24].all fun u=> !Tryd.prog.wantsStandIn u)=true:=by kernel_rfl
    exact(show Tryd.prog.wantsStandIn t=false by simpa using List.all_eq_true.1 hall t hm)⟩)
  (by kernel_rfl)
#print axioms proved
end Go.Proofs.YtbdlcighhphaoaaDoor.graphOrderDone
end
