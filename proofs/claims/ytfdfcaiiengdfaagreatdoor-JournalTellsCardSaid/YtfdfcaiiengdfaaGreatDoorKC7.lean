/- The law 'JournalTells' as it is given: whatever the input, the call returns true, and each argument reads behind it as it read before. No condition but that utf8's two tables hold what the library's text lays, which the card ties. -/
import Derived.Test.YtfdfcaiiengdfaaGreatDoorKC6
import Derived.Test.YtfdfcaiiengdfaaGreatDoorKC0
import Derived.OpenShut
import Derived.ShutString
import Derived.ChangeOld
import Derived.ChangeArms
import Derived.DataReads
import Derived.Test.YtfdfcaiiengdfaaGreatDoorRows
import Derived.Test.YtfdfcaiiengdfaaGreatDoorTie
import Derived.Test.YtfdfcaiiengdfaaGreatDoorCards
import Derived.Test.YtfdfcaiiengdfaaGreatDoorKC5
import Derived.WalkKit
import Derived.ProofKit
import Derived.Below
import Derived.LaidMore
import Derived.Stop.Joined
import Derived.SevenTiedAt
import Derived.Lib.LaidIn
import Derived.Lib.LaidU8T
import Derived.PinnedBridge
import Derived.SizedLaws
section
set_option linter.unusedVariables false
set_option linter.unusedSimpArgs false
set_option synthInstance.maxSize 1000000
set_option synthInstance.maxHeartbeats 400000
namespace Go.Proofs.YtfdfcaiiengdfaaGreatDoor
open Go.RowKit Go.Graph
def keepB (k:Int):Bool:=decide (k=11∨k=16)
theorem keeps_eq (k:Int):F.dK k=some (keepB k):=by unfold F.dK keepB;rw[A.bo]
theorem Holds_eq (k:Int):F.es k=some (keepB k):=by unfold F.es keepB;rw[A.bo]
def useP (m:Mv):Bool:=if m.2.2.1=1 then decide (m.2.2.2.1=0∧m.2.2.2.2=((0,0,ByteArray.mk #[]):Fun))else if m.2.2.1=2 then decide ((0≤m.2.2.2.1∧m.2.2.2.1≤1048576)∧m.2.2.2.2=((0,0,ByteArray.mk #[]):Fun))else if m.2.2.1=3 then decide (m.2.2.2.1=0)else false
theorem uses_eq9 (m:Mv):F.dz m=some (useP m):=by
 unfold F.dz useP F.c0 F.c1
 by_cases h1:m.2.2.1=1
 ·rw[if_pos h1,if_pos h1]
  by_cases h2:m.2.2.2.1=0
  ·rw[if_pos h2];congr 1;exact decide_eq_decide.2 ⟨fun h=>⟨h2,h⟩,fun h=>h.2⟩
  ·rw[if_neg h2,decide_eq_false (fun h=>h2 h.1)]
 ·rw[if_neg h1,if_neg h1]
  by_cases h2:m.2.2.1=2
  ·rw[if_pos h2,if_pos h2,A.ba]
   by_cases h3:0≤m.2.2.2.1∧m.2.2.2.1≤1048576
   ·rw[if_pos (decide_eq_true h3)];congr 1;exact decide_eq_decide.2 ⟨fun h=>⟨h3,h⟩,fun h=>h.2⟩
   ·rw[if_neg (by rw[decide_eq_true_iff];exact h3),decide_eq_false (fun h=>h3 h.1)]
  ·rw[if_neg h2,if_neg h2]
   by_cases h3:m.2.2.1=3
   ·rw[if_pos h3,if_pos h3]
   ·rw[if_neg h3,if_neg h3]
def moveOk (g put:List Nd)(m:Mv):Bool:=hs g m.1&&hs put m.2.1&&keepB (gt g m.1).2.1&&decide ((gt put m.2.1).2.1=(gt g m.1).2.1)&&useP m&& !(decide (m.2.2.1=2)&&decide ((gt g m.1).2.1≠11))
def mvF (ok:Mv→Bool):List Int→List Mv→Bool
 |_,[]=>true
 |pre,m::r=>ok m&&decide (m.2.1∉pre)&&mvF ok (pre++[m.2.1]) r
theorem move_R (g:List Nd)(d:Dl)(m:Mv)(hg:g.length≤1000)(hp:d.2.1.length≤1000):F.eh g d m=some (moveOk g d.2.1 m):=by
 unfold F.eh
 rw[Get_eq g _ (by omega),Option.bind_some,Get_eq d.2.1 _ (by omega),Option.bind_some]
 simp only[Holds_eq,Option.bind_some,F.dN,F.dL,F.dM,Bool.cond_eq_ite]
 unfold moveOk useP
 have e:(m.2.2.2.2:Fun)=m.2.2.2.2:=rfl
 rw[e]
 generalize m.2.2.2.2=fz
 cases hs g m.1 with
 |false=>simp
 |true=>
  cases hs d.2.1 m.2.1 with
  |false=>simp
  |true=>
   cases keepB (gt g m.1).2.1 with
   |false=>simp
   |true=>
    by_cases hk:(gt g m.1).2.1=(gt d.2.1 m.2.1).2.1
    ·by_cases h1:m.2.2.1=1
     ·by_cases h2:m.2.2.2.1=0<;>by_cases h6:fz=((0,0,ByteArray.mk #[]):Fun)<;>simp[hk,h1,h2,h6]
     ·by_cases h2:m.2.2.1=2
      ·by_cases h3:(gt g m.1).2.1=11<;>by_cases h4:0≤m.2.2.2.1<;>by_cases h5:m.2.2.2.1≤1048576<;>by_cases h6:fz=((0,0,ByteArray.mk #[]):Fun)<;>simp[←hk,h2,h3,h4,h5,h6]
      ·by_cases h3:m.2.2.1=3<;>simp[hk,h1,h2,h3]
    ·have hk2: ¬(gt d.2.1 m.2.1).2.1=(gt g m.1).2.1:=fun e=>hk e.symm
     simp[hk,hk2]
def tos (l:List Mv):List Int:=l.map fun m:Mv=>m.2.1
theorem moves_P (g:List Nd)(d:Dl)(hi:Inc d.2.1)(hp:d.2.1.length≤1000)(hm:d.2.2.length≤1000):F.c5 (mapOf g) d=some (mvF (moveOk g d.2.1) [] d.2.2):=by
 unfold F.c5
 rw[byId_eq _ hi (by omega),Option.bind_some]
 exact A.lp d.2.2 (fun f (s:List (Int×Bool)) y=>F.u (mapOf g) d (mapOf d.2.1) f s y) (fun k l _=>some (mvF (moveOk g d.2.1) (tos (d.2.2.take k)) l)) (fun k s=>∀t,Z.mget false s t=decide (t∈tos (d.2.2.take k)))
  (fun f s hs=>by rw[F.u,if_neg (by omega)];rfl)
  (fun f s k x hx hk hP ih=>by
   rw[F.u,if_pos (by omega),A.ixn hx,Option.bind_some]
   simp only[A.lt,keeps_eq,Option.bind_some,F.a4,Bool.cond_eq_ite,hP,show((0,0,[],(0,0,(ByteArray.mk #[])),(ByteArray.mk #[]),0,0):Nd)=z0 from rfl]
   have htk:tos (d.2.2.take (k+1))=tos (d.2.2.take k)++[x.2.1]:=by unfold tos;rw[take_s hx,List.map_append];rfl
   have hstep:A.gd (Z.R64 ((k:Int)+1)) (F.u (mapOf g) d (mapOf d.2.1) f (Z.mins s x.2.1 true) ((k:Int)+1))=some (mvF (moveOk g d.2.1) (tos (d.2.2.take k)++[x.2.1]) (d.2.2.drop (k+1))):=by
    rw[A.gd1 (A.r64n (by omega)),ih _ fun t=>?_,htk]
    rw[htk,Z.mget_ins,hP]
    by_cases h:t=x.2.1<;>simp[h]
   rw[hstep,show F.dz x=some (useP x)from uses_eq9 x,Option.bind_some,mvF,moveOk]
   change (if(if(!(hs g x.1))=true then true else !(hs d.2.1 x.2.1))=true then _ else if(if(!(keepB (gt g x.1).2.1))=true then true else decide ((gt d.2.1 x.2.1).2.1≠(gt g x.1).2.1))=true then _ else _)=_
   cases hs g x.1 with
   |false=>simp
   |true=>
    cases hs d.2.1 x.2.1 with
    |false=>simp
    |true=>
     cases keepB (gt g x.1).2.1 with
     |false=>simp
     |true=>
      by_cases hk:(gt d.2.1 x.2.1).2.1=(gt g x.1).2.1
      ·by_cases h5:x.2.1∈tos (d.2.2.take k)
       ·simp[hk,h5]
       ·cases h6:useP x with
        |false=>simp[hk,h5]
        |true=>by_cases h7:x.2.2.1=2<;>by_cases h8:(gt g x.1).2.1=11<;>simp[hk,h5,h7,h8]
      ·simp[hk])
  (by have:=FU_big;omega) [] (fun t=>by simp[tos,Z.mget])
theorem may_R1 (g:List Nd)(d:Dl)(k3:Int→Option Bool)(k:Nat)(x:Mv)(hx:d.2.2[k]?=some x)(hm:d.2.2.length≤1000):F.cn k3 d (k:Int) A.FU 0=if x.2.1∈tos (d.2.2.take k)then some false else k3 ((k:Int)+1):=by
 have hk:=(List.getElem?_eq_some_iff.1 hx).1
 have hlen:(d.2.2.take k).length=k:=by rw[List.length_take];omega
 have:=A.lp0 (d.2.2.take k) (fun f y=>F.cn k3 d (k:Int) f y) (fun _ l=>if x.2.1∈tos l then some false else k3 ((k:Int)+1))
  (fun f=>by rw[hlen,F.cn,if_neg (by omega),A.gd1 (A.r64n (by omega))];simp[tos])
  (fun f i m hm2 hi ih=>by
   have hm3:d.2.2[i]?=some m:=by
    rw[List.getElem?_take]at hm2
    split at hm2
    ·exact hm2
    ·cases hm2
   rw[F.cn,if_pos (by omega),A.ixn hm3,Option.bind_some,A.ixn hx,Option.bind_some]
   by_cases h:m.2.1=x.2.1
   ·rw[if_pos h,if_pos (by simp[tos,h])]
   ·rw[if_neg h,A.gd1 (A.r64n (by omega)),ih]
    by_cases h2:x.2.1∈tos ((d.2.2.take k).drop (i+1))
    ·rw[if_pos h2,if_pos (by unfold tos;rw[List.map_cons];exact List.mem_cons_of_mem _ h2)]
    ·rw[if_neg h2,if_neg (by unfold tos;rw[List.map_cons,List.mem_cons];exact fun h3=>h3.elim (fun e=>h e.symm) h2)])
  (by rw[hlen];have:=FU_big;omega)
 exact this
def mayB (g:List Nd)(d:Dl):Bool:=decide ((d.1.length:Int)≤32)&&decide ((d.2.1.length:Int)≤32)&&decide ((d.2.2.length:Int)≤16)&&dropsB g d.1&&putsB g d&&mvF (moveOk g d.2.1) [] d.2.2
theorem puts_inc {g:List Nd}{d:Dl}(h:putsB g d=true):Inc d.2.1:=by
 unfold putsB at h
 rw[Bool.and_eq_true]at h
 exact rise_inc.1 h.2
theorem may_P (g:List Nd)(d:Dl)(h1:d.1.length≤1000)(h2:d.2.1.length≤1000)(h3:d.2.2.length≤1000):F.dV (mapOf g) d=some (mayB g d):=by
 unfold F.dV mayB
 simp only[A.ba]
 have e1:F.dJ (mapOf g) d=some (dropsB g d.1):=drops_P g d h1
 have e2:F.d9 (mapOf g) d=some (putsB g d):=puts_P g d h1 h2
 rw[e1,e2]
 simp only[Option.bind_some,F.b6]
 by_cases hl:(((d.1.length:Int)≤32∧(d.2.1.length:Int)≤32)∧(d.2.2.length:Int)≤16)
 ·rw[if_pos (decide_eq_true hl),decide_eq_true hl.1.1,decide_eq_true hl.1.2,decide_eq_true hl.2]
  cases dropsB g d.1 with
  |false=>simp
  |true=>
   cases hpu:putsB g d with
   |false=>simp
   |true=>
    rw[show F.c5 (mapOf g) d=some (mvF (moveOk g d.2.1) [] d.2.2)from moves_P g d (puts_inc hpu) h2 h3]
    simp
 ·rw[if_neg (by rw[decide_eq_true_iff];exact hl)]
  by_cases a1:(d.1.length:Int)≤32<;>by_cases a2:(d.2.1.length:Int)≤32<;>by_cases a3:(d.2.2.length:Int)≤16<;>simp[a1,a2,a3]
  exact absurd ⟨⟨a1,a2⟩,a3⟩ hl
theorem may_R (g:List Nd)(d:Dl)(hg:g.length≤1000)(h1:d.1.length≤1000)(h2:d.2.1.length≤1000)(h3:d.2.2.length≤1000):F.eC g d=some (mayB g d):=by
 have loop:F.bV g d A.FU 0=some (mvF (moveOk g d.2.1) [] d.2.2):=
  A.lp0 d.2.2 (fun f y=>F.bV g d f y) (fun k l=>some (mvF (moveOk g d.2.1) (tos (d.2.2.take k)) l))
   (fun f=>by rw[F.bV,if_neg (by omega)];rfl)
   (fun f k x hx hk ih=>by
    rw[F.bV,if_pos (by omega),A.ixn hx,Option.bind_some,show F.eh g d x=some (moveOk g d.2.1 x)from move_R g d x hg h2,Option.bind_some,may_R1 g d _ k x hx h3,ih,mvF]
    have htk:tos (d.2.2.take (k+1))=tos (d.2.2.take k)++[x.2.1]:=by unfold tos;rw[take_s hx,List.map_append];rfl
    rw[htk]
    cases moveOk g d.2.1 x with
    |false=>simp
    |true=>by_cases h:x.2.1∈tos (d.2.2.take k)<;>simp[h])
   (by have:=FU_big;omega)
 unfold F.eC mayB
 have e2:F.eF g d=some (putsB g d&&decide ((d.2.1.length:Int)≤32)):=puts_R g d hg h1 h2
 rw[drops_R g d.1 hg h1,e2]
 simp only[Option.bind_some,F.ed,loop,Bool.cond_eq_ite]
 by_cases a1:(d.1.length:Int)≤32<;>by_cases a2:(d.2.1.length:Int)≤32<;>by_cases a3:(d.2.2.length:Int)≤16<;>cases dropsB g d.1<;>cases putsB g d<;>simp[a1,a2,a3]<;>omega
theorem made_l2 (m:List (Int×Nd)): ∀(n k f:Nat) (xs:List Nd),k+n=256→n<f→xs.length≤k→F.aW m f xs (k:Int)=some (xs++madeF m n k)
 |0,k,f,xs,hk,hf,hx=>by
  obtain⟨f,rfl⟩: ∃f',f=f'+1:=⟨f-1,by omega⟩
  rw[F.aW,if_neg (by omega),madeF,List.append_nil]
 |n+1,k,f,xs,hk,hf,hx=>by
  obtain⟨f,rfl⟩: ∃f',f=f'+1:=⟨f-1,by omega⟩
  rw[F.aW,if_pos (by omega),A.lt,madeF,show((0,0,[],(0,0,(ByteArray.mk #[])),(ByteArray.mk #[]),0,0):Nd)=z0 from rfl]
  simp only[F.c2]
  by_cases h:Z.mhas m (k:Int)=true
  ·rw[if_pos h,if_pos h,A.gd1 (by simp only[List.length_cons,List.length_nil];omega),A.gd1 (A.r64n (by omega))]
   have:=made_l2 m n (k+1) f (xs++[Z.mget z0 m (k:Int)]) (by omega) (by omega) (by simp only[List.length_append,List.length_cons,List.length_nil];omega)
   refine Eq.trans this ?_
   rw[List.append_assoc];rfl
  ·rw[if_neg h,if_neg h,A.gd1 (A.r64n (by omega))]
   exact made_l2 m n (k+1) f xs (by omega) (by omega) (by omega)
theorem made_l3 (g:List Nd)(d:Dl)(m0:List (Int×Nd))(hg:Inc g)(hp:Inc d.2.1)(hl:d.2.1.length≤1000)(rg: ∀n∈g,0≤n.1∧n.1≤255)(rp: ∀n∈d.2.1,0≤n.1∧n.1≤255)
  (h0: ∀i,Z.mhas m0 i=(hs g i&& !decide (i∈d.1))) (h1: ∀i,Z.mhas m0 i=true→Z.mget z0 m0 i=gt g i):F.bq d A.FU m0 0=some (mrgN d.1 g d.2.1):=
 A.lp d.2.1 (fun f (s:List (Int×Nd)) y=>F.bq d f s y) (fun _ _ _=>some (mrgN d.1 g d.2.1))
  (fun k s=>∀i,Z.mhas s i=(hs (d.2.1.take k) i||(hs g i&& !decide (i∈d.1)))∧(Z.mhas s i=true→Z.mget z0 s i=if hs (d.2.1.take k) i=true then gt (d.2.1.take k) i else gt g i))
  (fun f s hP=>by
   rw[F.bq,if_neg (by omega)]
   rw[List.take_of_length_le (Nat.le_refl _)]at hP
   have e:=made_l2 s 256 0 A.FU [] rfl (by have:=FU_big;omega) (Nat.le_refl _)
   rw[List.nil_append,made_eq hg hp rg rp (fun i=>(hP i).1) (fun i=>(hP i).2)]at e
   exact e)
  (fun f s k x hx hk hP ih=>by
   rw[F.bq,if_pos (by omega),A.ixn hx,Option.bind_some,A.gd1 (A.r64n (by omega))]
   have hm:mapOf (d.2.1.take (k+1))=Z.mins (mapOf (d.2.1.take k)) x.1 x:=by
    rw[mins_new (mhas_mapOf fun n hn e=>?_),take_s hx]
    ·simp[mapOf]
    ·obtain⟨i,hi2⟩:=List.getElem?_of_mem hn
     rw[List.getElem?_take]at hi2
     split at hi2
     ·have:=hp.inj hi2 hx e;omega
     ·cases hi2
   refine ih _ fun i=>?_
   obtain⟨p1,p2⟩:=hP i
   change Z.mhas (Z.mins s x.1 x) i=_∧(Z.mhas (Z.mins s x.1 x) i=true→Z.mget z0 (Z.mins s x.1 x) i=_)
   unfold hs gt at*
   rw[hm,Z.mhas_ins,Z.mhas_ins,Z.mget_ins,Z.mget_ins,p1,Bool.or_assoc]
   refine⟨rfl,fun h=>?_⟩
   by_cases e:i=x.1
   ·simp[e]
   ·simp only[e,decide_false,Bool.false_or,if_false]at h ⊢
    exact p2 (by rw[p1];exact h))
  (by have:=FU_big;omega) m0 fun i=>⟨by rw[h0];rfl,fun h=>by rw[h1 i h];rfl⟩
theorem made_P (g:List Nd)(d:Dl)(hg:Inc g)(hp:Inc d.2.1)(h1:g.length≤1000)(hl:d.2.1.length≤1000)(h3:d.1.length≤1000)(rg: ∀n∈g,0≤n.1∧n.1≤255)(rp: ∀n∈d.2.1,0≤n.1∧n.1≤255):F.dA g d=some (mrgN d.1 g d.2.1):=by
 unfold F.dA
 rw[byId_eq g hg (by omega),Option.bind_some]
 exact A.lp d.1 (fun f (s:List (Int×Nd)) y=>F.bR d f s y) (fun _ _ _=>some (mrgN d.1 g d.2.1))
  (fun k s=>(s.map Prod.fst).Nodup∧∀i,Z.mhas s i=(hs g i&& !decide (i∈d.1.take k))∧(Z.mhas s i=true→Z.mget z0 s i=gt g i))
  (fun f s hP=>by
   rw[F.bR,if_neg (by omega)]
   rw[List.take_of_length_le (Nat.le_refl _)]at hP
   exact made_l3 g d s hg hp hl rg rp (fun i=>(hP.2 i).1) (fun i=>(hP.2 i).2))
  (fun f s k x hx hk hP ih=>by
   rw[F.bR,if_pos (by omega),A.ixn hx,Option.bind_some,A.gd1 (A.r64n (by omega))]
   obtain⟨n1,n2⟩:=Z.mdel_nodup hP.1 x
   refine ih _ ⟨n1,fun i=>?_⟩
   obtain⟨p1,p2⟩:=hP.2 i
   rw[take_s hx]
   by_cases e:i=x
   ·subst e
    rw[n2];simp
   ·obtain⟨q1,q2⟩:=Z.mdel_ne z0 s x i e
    rw[q2,q1,p1]
    refine⟨by simp[e],fun h=>p2 (by rw[p1];exact h)⟩)
  (by have:=FU_big;omega) (mapOf g) ⟨by
   unfold mapOf;rw[List.map_map]
   exact(List.pairwise_map.2 (hg.imp fun h=>by simp only[Function.comp];omega)),fun i=>⟨by simp[hs],fun _=>rfl⟩⟩
theorem clone_eq9 (n:Nd)(h:n.2.2.1.length≤5000):F.cV n=some n:=by
 unfold F.cV
 rw[A.gd1 (by simp only[List.length_nil];omega)];rfl
theorem makes_R (g:List Nd)(d:Dl)(hg:Sml g)(hp:Sml d.2.1)(h3:d.1.length≤1000):F.dw g d=some (mrgN d.1 g d.2.1):=by
 have hgl:=hg.1
 have hpl:=hp.1
 have main: ∀(n i k f:Nat) (xs:List Nd),(g.length-i)+(d.2.1.length-k)≤n→n<f→i≤g.length→k≤d.2.1.length→xs.length≤i+k→F.v g d f xs (i:Int) (k:Int)=some (xs++mrgN d.1 (g.drop i) (d.2.1.drop k)):=by
  intro n
  induction n with
  |zero=>
   intro i k f xs hn hf hi hk hx
   obtain⟨f,rfl⟩: ∃f',f=f'+1:=⟨f-1,by omega⟩
   rw[F.v,A.bo,if_neg (by rw[decide_eq_true_iff];omega),List.drop_eq_nil_of_le (by omega),List.drop_eq_nil_of_le (by omega),mrgN,List.append_nil]
  |succ n ih=>
   intro i k f xs hn hf hi hk hx
   obtain⟨f,rfl⟩: ∃f',f=f'+1:=⟨f-1,by omega⟩
   rw[F.v,A.bo]
   have put1: ∀(i2:Nat) (b:Nd),i2≤i+1→i2≤g.length→i≤i2→d.2.1[k]?=some b→F.cP (F.v g d f) d xs (k:Int) (i2:Int)=some (xs++b::mrgN d.1 (g.drop i2) (d.2.1.drop (k+1))):=by
    intro i2 b h1 h2 h4 hb
    have hkl:=(List.getElem?_eq_some_iff.1 hb).1
    rw[F.cP,A.ixn hb,Option.bind_some,show F.cV b=some b from clone_eq9 b (hp.in (List.mem_of_getElem? hb)),Option.bind_some,A.gd1 (by simp only[List.length_cons,List.length_nil];omega),A.gd1 (A.r64n (by omega))]
    have:=ih i2 (k+1) f (xs++[b]) (by omega) (by omega) (by omega) (by omega) (by simp only[List.length_append,List.length_cons,List.length_nil];omega)
    refine Eq.trans this ?_
    rw[List.append_assoc];rfl
   have take1: ∀a:Nd,g[i]?=some a→F.bl (F.v g d f) g d xs (i:Int) (k:Int) true=some (xs++if a.1∈d.1 then mrgN d.1 (g.drop (i+1)) (d.2.1.drop k)else a::mrgN d.1 (g.drop (i+1)) (d.2.1.drop k)):=by
    intro a ha
    have hil:=(List.getElem?_eq_some_iff.1 ha).1
    rw[F.bl,if_pos rfl,A.ixn ha,Option.bind_some,has_eq d.1 a.1 (by omega),Option.bind_some]
    simp only[F.dv,Option.bind_some]
    by_cases hd:a.1∈d.1
    ·rw[decide_eq_true hd,if_neg (by simp),A.gd1 (A.r64n (by omega)),if_pos hd]
     exact ih (i+1) k f xs (by omega) (by omega) (by omega) (by omega) (by omega)
    ·rw[decide_eq_false hd,if_pos (show(!false)=true from rfl),show F.cV a=some a from clone_eq9 a (hg.in (List.mem_of_getElem? ha)),Option.bind_some,A.gd1 (by simp only[List.length_cons,List.length_nil];omega),A.gd1 (A.r64n (by omega)),if_neg hd]
     have:=ih (i+1) k f (xs++[a]) (by omega) (by omega) (by omega) (by omega) (by simp only[List.length_append,List.length_cons,List.length_nil];omega)
     refine Eq.trans this ?_
     rw[List.append_assoc];rfl
   by_cases hc:(i:Int)<(g.length:Int)∨(k:Int)<(d.2.1.length:Int)
   ·rw[if_pos (decide_eq_true hc)]
    by_cases hk2:k<d.2.1.length
    ·have hb:d.2.1[k]?=some d.2.1[k]:=List.getElem?_eq_getElem hk2
     rw[if_neg (by omega),A.dropx hb]
     by_cases hi2:i<g.length
     ·have ha:g[i]?=some g[i]:=List.getElem?_eq_getElem hi2
      rw[if_pos (by omega),A.ixn ha,Option.bind_some,A.ixn hb,Option.bind_some,A.dropx ha,mrgN]
      by_cases h1:g[i].1<d.2.1[k].1
      ·rw[decide_eq_true h1,take1 _ ha,if_pos h1,A.dropx hb]
      ·rw[decide_eq_false h1,F.bl,if_neg Bool.false_ne_true,if_pos (by omega),A.ixn ha,Option.bind_some,A.ixn hb,Option.bind_some,if_neg h1,F.cQ]
       by_cases h2:g[i].1=d.2.1[k].1
       ·rw[if_pos (decide_eq_true h2),A.gd1 (A.r64n (by omega)),if_pos h2]
        exact put1 (i+1) _ (by omega) (by omega) (by omega) hb
       ·rw[if_neg (by rw[decide_eq_true_iff];exact h2),if_neg h2,put1 i _ (by omega) (by omega) (by omega) hb,A.dropx ha]
     ·rw[if_neg (by omega),F.bl,if_neg Bool.false_ne_true,if_neg (by omega),F.cQ,if_neg Bool.false_ne_true,put1 i _ (by omega) (by omega) (by omega) hb,List.drop_eq_nil_of_le (show g.length≤i by omega),mrgN,mrgN]
    ·have ha:g[i]?=some g[i]:=List.getElem?_eq_getElem (by omega)
     rw[if_pos (by omega),take1 _ ha,A.dropx ha,List.drop_eq_nil_of_le (show d.2.1.length≤k by omega),mrgN]
   ·rw[if_neg (by rw[decide_eq_true_iff];exact hc),List.drop_eq_nil_of_le (show g.length≤i by omega),List.drop_eq_nil_of_le (show d.2.1.length≤k by omega),mrgN,List.append_nil]
 have:=main (g.length+d.2.1.length) 0 0 A.FU [] (by omega) (by have:=FU_big;omega) (by omega) (by omega) (Nat.le_refl _)
 exact this
theorem mrgN_sml {g:List Nd}{d:Dl}(hg:Sml g)(hp:Sml d.2.1)(h1:g.length≤60)(h2:d.2.1.length≤60)(i1:Inc g)(i2:Inc d.2.1):Sml (mrgN d.1 g d.2.1):=by
 refine⟨by have:=mrgN_len d.1 _ g d.2.1 (Nat.le_refl _);omega,fun n hn=>?_⟩
 rcases(mrgN_mem d.1 _ g d.2.1 (Nat.le_refl _) i1 i2 n).1 hn with h|h
 ·exact hp.2 n h
 ·exact hg.2 n h.1
structure Made (g:List Nd) (d:Dl) (x:List Nd):Prop where
 good:Good g
 may:mayB g d=true
 eq:x=mrgN d.1 g d.2.1
 new:Good x
 sml:Sml x
theorem Made.inc {g:List Nd}{d:Dl}{x:List Nd}(h:Made g d x):Inc d.2.1:=by
 have:=h.may;unfold mayB at this;simp only[Bool.and_eq_true]at this;exact puts_inc this.1.2
theorem Made.mem {g:List Nd}{d:Dl}{x:List Nd}(h:Made g d x)(n:Nd):n∈x↔n∈d.2.1∨(n∈g∧n.1∉d.1∧∀y∈d.2.1,y.1≠n.1):=by
 rw[h.eq];exact mrgN_mem d.1 _ g d.2.1 (Nat.le_refl _) h.good.inc h.inc n
structure SmD (d:Dl):Prop where
 put:Sml d.2.1
 pl:d.2.1.length≤60
 dl:d.1.length≤60
 ml:d.2.2.length≤60
theorem apply_same (g:List Nd)(d:Dl)(hg:Sml g)(hl:g.length≤60)(hd:SmD d): ∃x e,F.ax g d=some (x,e)∧F.bZ g d=some e∧F.cW g d=some (x,e)∧(e≠0→x=[])∧(e=0→Made g d x):=by
 have hdl:=hd.dl;have hpl:=hd.pl;have hml:=hd.ml
 obtain⟨e1,c1,c2,c3,_⟩:=check_same g hg
 have key: ∃x e,F.ax g d=some (x,e)∧F.bZ g d=some e∧(e≠0→x=[])∧(e=0→Made g d x):=by
  unfold F.ax F.bZ
  rw[c1,c2,Option.bind_some,Option.bind_some]
  by_cases h0:e1=0
  case neg=>rw[if_pos h0,if_pos h0];exact⟨[],e1,rfl,rfl,fun _=>rfl,fun h=>absurd h h0⟩
  have G:=c3 h0
  rw[if_neg (fun h=>h h0),if_neg (fun h=>h h0),byId_eq g G.inc (by omega),Option.bind_some]
  rw[show F.dV (mapOf g) d=some (mayB g d)from may_P g d (by omega) (by omega) (by omega),show F.eC g d=some (mayB g d)from may_R g d (by omega) (by omega) (by omega) (by omega),Option.bind_some,Option.bind_some]
  cases hm:mayB g d with
  |false=>exact⟨[],90,rfl,rfl,fun _=>rfl,fun h=>(by cases h)⟩
  |true=>
   simp only[Bool.not_true,Bool.false_eq_true,if_false]
   have hinc:Inc d.2.1:=by have h:=hm;unfold mayB at h;simp only[Bool.and_eq_true]at h;exact puts_inc h.1.2
   have hsm:=mrgN_sml (d:=d) hg hd.put hl hpl G.inc hinc
   obtain⟨e2,k1,k2,k3,k4⟩:=check_same _ hsm
   rw[show F.dw g d=some (mrgN d.1 g d.2.1)from makes_R g d hg hd.put (by omega),Option.bind_some,k2,Option.bind_some]
   have hr:F.q g d A.FU 0=if d.2.1.all (fun n=>decide (1≤n.1∧n.1≤255))=true then(if e2≠0 then some ([],e2)else some (mrgN d.1 g d.2.1,0))else some ([],80):=by
    by_cases hall:d.2.1.all (fun n=>decide (1≤n.1∧n.1≤255))=true
    ·rw[if_pos hall]
     have hall2:=List.all_eq_true.1 hall
     refine A.lp0 d.2.1 (fun f y=>F.q g d f y) (fun _ _=>if e2≠0 then some ([],e2)else some (mrgN d.1 g d.2.1,0)) (fun f=>?_) (fun f k x hx hk ih=>?_) (by have:=FU_big;omega)
     ·rw[F.q,if_neg (by omega),show F.dA g d=some (mrgN d.1 g d.2.1)from made_P g d G.inc hinc (by omega) (by omega) (by omega) (fun n hn=>by have:=G.id hn;omega) (fun n hn=>by have:=of_decide_eq_true (hall2 n hn);omega),Option.bind_some,k1,Option.bind_some]
      by_cases h2:e2=0
      ·rw[if_neg (fun h=>h h2),if_neg (fun h=>h h2),Clone_eq _ (by have:=(k3 h2).len;omega) (fun n hn=>hsm.in hn)];rfl
      ·rw[if_pos h2,if_pos h2]
     ·have:=of_decide_eq_true (hall2 x (List.mem_of_getElem? hx))
      rw[F.q,if_pos (by omega),A.ixn hx,Option.bind_some,A.bo,if_neg (by rw[decide_eq_true_iff];omega),A.gd1 (A.r64n (by omega)),ih]
    ·rw[if_neg hall]
     have:=A.lp0 d.2.1 (fun f y=>F.q g d f y) (fun k l=>if l.all (fun n=>decide (1≤n.1∧n.1≤255))=true then F.q g d 1 (d.2.1.length:Int)else some ([],80))
      (fun f=>by
       rw[F.q,if_neg (by omega)]
       show _=F.q g d (0+1) (d.2.1.length:Int)
       rw[F.q,if_neg (by omega)])
      (fun f k x hx hk ih=>by
       rw[F.q,if_pos (by omega),A.ixn hx,Option.bind_some,A.bo]
       have e: ∀r:List Nd,(x::r).all (fun n=>decide (1≤n.1∧n.1≤255))=(decide (1≤x.1∧x.1≤255)&&r.all (fun n=>decide (1≤n.1∧n.1≤255))):=fun r=>rfl
       simp only[e]
       by_cases h:1≤x.1∧x.1≤255
       ·rw[if_neg (by rw[decide_eq_true_iff];omega),A.gd1 (A.r64n (by omega)),ih,decide_eq_true h,Bool.true_and]
       ·rw[if_pos (by rw[decide_eq_true_iff];omega),decide_eq_false h,Bool.false_and,if_neg Bool.false_ne_true])
      (by have:=FU_big;omega)
     rw[if_neg hall]at this
     exact this
   rw[hr]
   by_cases hall:d.2.1.all (fun n=>decide (1≤n.1∧n.1≤255))=true
   ·rw[if_pos hall]
    by_cases h2:e2=0
    ·rw[if_neg (fun h=>h h2)]
     exact⟨_,0,rfl,by rw[h2],fun h=>absurd rfl h,fun _=>⟨G,hm,rfl,k3 h2,hsm⟩⟩
    ·rw[if_pos h2]
     exact⟨[],e2,rfl,rfl,fun _=>rfl,fun h=>absurd h h2⟩
   ·rw[if_neg hall]
    have h80:e2=80:=k4 (by
     rw[List.all_eq_true]at hall
     simp only[Classical.not_forall]at hall
     obtain⟨n,hn,h⟩:=hall
     rw[decide_eq_true_iff]at h
     exact⟨n,(mrgN_mem d.1 _ g d.2.1 (Nat.le_refl _) G.inc hinc n).2 (.inl hn),by omega⟩)
    exact⟨[],80,rfl,by rw[h80],fun _=>rfl,fun h=>(by cases h)⟩
 obtain⟨x,e,a1,a2,a3,a4⟩:=key
 refine⟨x,e,a1,a2,?_,a3,a4⟩
 unfold F.cW
 rw[show F.bZ g d=some e from a2,Option.bind_some]
 by_cases h:e=0
 ·rw[if_neg (fun h2=>h2 h),show F.dw g d=some (mrgN d.1 g d.2.1)from makes_R g d hg hd.put (by omega),(a4 h).eq,h];rfl
 ·rw[if_pos h,a3 h]
theorem sml_nil:Sml []:=⟨by simp,by simp⟩
theorem R_Same_self {g:List Nd}(h:Sml g):F.dh g g=some true:=by rw[R_Same g g h,decide_eq_true rfl]
structure SzD (d:Dl):Prop where
 put:Sml d.2.1
 dl:d.1.length≤1000
 ml:d.2.2.length≤1000
theorem SmD.sz {d:Dl}(h:SmD d):SzD d:=⟨h.put,by have:=h.dl;omega,by have:=h.ml;omega⟩
theorem dl_ext {x y:Dl}:x=y↔x.1=y.1∧x.2.1=y.2.1∧x.2.2=y.2.2:=by
 obtain⟨a,b,c⟩:=x;obtain⟨a',b',c'⟩:=y;simp only[Prod.mk.injEq]
theorem R_SameD (d e:Dl)(hd:SzD d):F.cb d e=some (decide (d=e)):=by
 have h1:=hd.dl;have h2:=hd.ml
 have x:=dl_ext (x:=d) (y:=e)
 unfold F.cb
 rw[R_sameInts _ _ (by omega),Option.bind_some,R_Same _ _ hd.put,Option.bind_some]
 by_cases c1:d.1=e.1
 case neg=>rw[decide_eq_false c1,Bool.not_false,if_pos rfl,F.cw,if_pos rfl,decide_eq_false (fun h=>c1 (x.1 h).1)]
 rw[decide_eq_true c1,Bool.not_true,if_neg Bool.false_ne_true]
 by_cases c2:d.2.1=e.2.1
 case neg=>rw[decide_eq_false c2,Bool.not_false,cond_true,F.cw,if_pos rfl,decide_eq_false (fun h=>c2 (x.1 h).2.1)]
 rw[decide_eq_true c2,Bool.not_true,cond_false,F.cw]
 by_cases c3:d.2.2.length=e.2.2.length
 case neg=>rw[if_pos (by rw[decide_eq_true_iff];omega),decide_eq_false (fun h=>c3 (by rw[(x.1 h).2.2]))]
 rw[if_neg (by rw[decide_eq_true_iff];omega),A.eqk d.2.2 e.2.2 (fun f y=>F.cv d e f y) (some true) (some false) c3 (fun f=>by rw[F.cv,if_neg (by omega)])
  (fun f k u v hu hv hk=>by
   rw[F.cv,if_pos (by omega),A.ixn hu,Option.bind_some,A.ixn hv,Option.bind_some]
   by_cases h:u=v
   ·rw[if_neg (show ¬(u≠v)from fun hn=>hn h),if_pos h,A.gd1 (A.r64n (by omega))]
   ·rw[if_pos (show(u≠v)from fun hn=>h hn),if_neg h]) (by have:=FU_big;omega),A.ite_dec]
 congr 1
 exact decide_eq_decide.2 ⟨fun h=>x.2 ⟨c1,c2,h⟩,fun h=>(x.1 h).2.2⟩
theorem EqM (a b:List Mv)(ha:a.length≤1000):F.ab a b=some (decide (a=b)):=by
 unfold F.ab
 by_cases hl:a.length=b.length
 ·rw[if_neg (by omega)]
  rw[A.eqk a b (fun f y=>F.g a b f y) (some true) (some false) hl (fun f=>by rw[F.g,if_neg (by omega)])
   (fun f k u v hu hv hk=>by
    rw[F.g,if_pos (by omega),A.ixn hu,Option.bind_some,A.ixn hv,Option.bind_some]
    by_cases h:u=v
    ·rw[if_neg (show ¬(u≠v)from fun hn=>hn h),if_pos h,A.gd1 (A.r64n (by omega))]
    ·rw[if_pos (show(u≠v)from fun hn=>h hn),if_neg h]) (by have:=FU_big;omega),A.ite_dec]
 ·rw[if_pos (by omega),decide_eq_false (fun e=>hl (by rw[e]))]
theorem P_SameD (d e:Dl)(hd:SzD d):F.dD d e=some (decide (d=e)):=by
 have h1:=hd.dl;have h2:=hd.ml
 have x:=dl_ext (x:=d) (y:=e)
 unfold F.dD F.dC
 rw[EqI _ _ (by omega),Option.bind_some,Option.bind_some,P_Same _ _ hd.put,Option.bind_some,EqM _ _ h2,Option.bind_some]
 simp only[F.cg]
 by_cases c1:d.1=e.1
 case neg=>rw[if_neg (by rw[decide_eq_true_iff];exact c1),decide_eq_false (fun h=>c1 (x.1 h).1)]
 by_cases c2:d.2.1=e.2.1
 case neg=>rw[if_pos (decide_eq_true c1),if_neg (by rw[decide_eq_true_iff];exact c2),decide_eq_false (fun h=>c2 (x.1 h).2.1)]
 rw[if_pos (decide_eq_true c1),if_pos (decide_eq_true c2)]
 congr 1
 exact decide_eq_decide.2 ⟨fun h=>x.2 ⟨c1,c2,h⟩,fun h=>(x.1 h).2.2⟩
abbrev Nt:=Int×Int×Int×Dl×Int
abbrev nilD:Dl:=([],[],[])
abbrev nilN:Nt:=(0,0,0,([],[],[]),0)
def apV (g:List Nd)(d:Dl):List Nd×Int:=(F.ax g d).getD ([],0)
def chkG (g:List Nd):Int:=(F.a8 g).getD 0
structure GS (g:List Nd):Prop where
 good:Good g
 sml:Sml g
theorem chkG_eq {g:List Nd}(hs:Sml g):F.a8 g=some (chkG g)∧F.cU g=some (chkG g)∧(chkG g=0→GS g):=by
 obtain⟨e,h1,h2,h3,_⟩:=check_same g hs
 have:chkG g=e:=by unfold chkG;rw[h1];rfl
 rw[this];exact⟨h1,h2,fun h=>⟨h3 h,hs⟩⟩
theorem apV_eq {g:List Nd}{d:Dl}(G:GS g)(hd:SmD d):F.ax g d=some (apV g d)∧F.cq g d=some (apV g d).2∧F.bZ g d=some (apV g d).2∧F.cW g d=some (apV g d)∧((apV g d).2=0→GS (apV g d).1):=by
 obtain⟨x,e,a1,a2,a3,a4,a5⟩:=apply_same g d G.sml (by have:=G.good.len;omega) hd
 have:apV g d=(x,e):=by unfold apV;rw[a1];rfl
 rw[this]
 refine⟨a1,?_,a2,a3,fun h=>⟨(a5 h).new,(a5 h).sml⟩⟩
 unfold F.cq
 rw[show F.ax g d=some (x,e)from a1];rfl
structure RS where
 g:List Nd
 ver:Int
 cut:Int
 op:Option Nt
 hs:List (List Nd×Int×Dl)
def jst (s:RS)(n:Nt):Option RS:=
 if n.1=1 then
  if s.op.isSome=false∧n.2.1=s.ver∧n.2.2.2.2=0∧s.cut<n.2.2.1∧n.2.2.1≤1073741824∧(apV s.g n.2.2.2.1).2=0 then some ⟨s.g,s.ver,s.cut,some n,s.hs⟩else none
 else match s.op with
  |none=>none
  |some o=>
   if n.2.2.1=o.2.2.1∧n.2.2.2.1=nilD then
    if n.1=2 then
     if n.2.1=s.ver+1∧n.2.2.2.2=0 then some ⟨(apV s.g o.2.2.2.1).1,s.ver+1,o.2.2.1,none,s.hs++[((apV s.g o.2.2.2.1).1,o.2.2.1,o.2.2.2.1)]⟩else none
    else if n.1=3 then
     if n.2.1=s.ver∧n.2.2.2.2≠0 then some ⟨s.g,s.ver,s.cut,none,s.hs⟩else none
    else none
   else none
def jrun:RS→List Nt→Option RS
 |s,[]=>some s
 |s,n::r=>match jst s n with
  |none=>none
  |some t=>jrun t r
def Chn:List Nd→Int→List (List Nd×Int×Dl)→List Nd→Int→Prop
 |g,c,[],g',c'=>g=g'∧c=c'∧GS g
 |g,c,x::r,g',c'=>GS g∧SmD x.2.2∧c<x.2.1∧apV g x.2.2=(x.1,0)∧Chn x.1 x.2.1 r g' c'
theorem Chn.gs: ∀{l:List (List Nd×Int×Dl)} {g:List Nd} {c:Int} {g':List Nd} {c':Int},Chn g c l g' c'→GS g
 | [],_,_,_,_,h=>h.2.2
 |_::_,_,_,_,_,h=>h.1
theorem Chn.snoc {x:List Nd×Int×Dl}: ∀{l:List (List Nd×Int×Dl)} {g:List Nd} {c:Int} {g':List Nd} {c':Int},Chn g c l g' c'→SmD x.2.2→c'<x.2.1→apV g' x.2.2=(x.1,0)→Chn g c (l++[x]) x.1 x.2.1
 | [],g,c,g',c',h,h1,h2,h3=>by
  obtain⟨rfl,rfl,G⟩:=h
  refine⟨G,h1,h2,h3,rfl,rfl,?_⟩
  have:=(apV_eq G h1).2.2.2.2
  rw[h3]at this;exact this rfl
 |y::l,g,c,g',c',h,h1,h2,h3=>by
  obtain⟨a1,a2,a3,a4,a5⟩:=h
  exact⟨a1,a2,a3,a4,Chn.snoc a5 h1 h2 h3⟩
theorem Chn.le: ∀{l:List (List Nd×Int×Dl)} {g:List Nd} {c:Int} {g':List Nd} {c':Int},Chn g c l g' c'→c≤c'∧∀x∈l,c<x.2.1∧x.2.1≤c'
 | [],_,_,_,_,h=>⟨by have:=h.2.1;omega,fun x hx=>by cases hx⟩
 |y::l,g,c,g',c',h=>by
  obtain⟨a1,a2,a3,a4,a5⟩:=h
  obtain⟨h1,h2⟩:=a5.le
  refine⟨by omega,fun x hx=>?_⟩
  rcases List.mem_cons.1 hx with rfl|hx
  ·exact⟨a3,h1⟩
  ·have:=h2 x hx;omega
structure JI (f:List Nd) (s:RS) (k:Nat):Prop where
 gs:GS s.g
 op: ∀o,s.op=some o→SmD o.2.2.2.1∧(apV s.g o.2.2.2.1).2=0∧s.cut<o.2.2.1∧o.2.2.1≤1073741824
 ver:s.ver=(s.hs.length:Int)
 len:s.hs.length≤k
 cut:0≤s.cut∧s.cut≤1073741824
 chn:Chn f 0 s.hs s.g s.cut
theorem JI.ch {f:List Nd}{s:RS}{k:Nat}(h:JI f s k)(o:Nt)(ho:s.op=some o):apV s.g o.2.2.2.1=((apV s.g o.2.2.2.1).1,0):=by
 have:=(h.op o ho).2.1
 rw[←this]
theorem jst_inv {f:List Nd}{s t:RS}{k:Nat}{n:Nt}(h:JI f s k)(hn:SmD n.2.2.2.1)(hj:jst s n=some t):JI f t (k+1):=by
 unfold jst at hj
 by_cases h1:n.1=1
 ·rw[if_pos h1]at hj
  split at hj
  case isFalse=>cases hj
  case isTrue c=>
   obtain⟨c1,c2,c3,c4,c5,c6⟩:=c
   injection hj with hj;subst hj
   exact⟨h.gs,fun o ho=>by injection ho with ho;subst ho;exact⟨hn,c6,c4,c5⟩,h.ver,by have:=h.len;show s.hs.length≤k+1;omega,h.cut,h.chn⟩
 ·rw[if_neg h1]at hj
  cases ho:s.op with
  |none=>rw[ho]at hj;cases hj
  |some o=>
   rw[ho]at hj
   obtain⟨p1,p2,p3,p4⟩:=h.op o ho
   simp only at hj
   split at hj
   case isFalse=>cases hj
   case isTrue=>
    split at hj
    ·split at hj
     ·injection hj with hj;subst hj
      have hc:Chn f 0 (s.hs++[((apV s.g o.2.2.2.1).1,o.2.2.1,o.2.2.2.1)]) (apV s.g o.2.2.2.1).1 o.2.2.1:=Chn.snoc (x:=((apV s.g o.2.2.2.1).1,o.2.2.1,o.2.2.2.1)) h.chn p1 p3 (h.ch o ho)
      refine⟨(apV_eq h.gs p1).2.2.2.2 p2,fun o' ho'=>(by cases ho'),?_,?_,⟨?_,p4⟩,hc⟩
      ·show s.ver+1=((s.hs++[_]).length:Int)
       rw[List.length_append,h.ver];simp
      ·show(s.hs++[_]).length≤k+1
       rw[List.length_append];have:=h.len;simp;omega
      ·show 0≤o.2.2.1
       have:=h.cut.1;omega
     ·cases hj
    ·split at hj
     ·split at hj
      ·injection hj with hj;subst hj
       exact⟨h.gs,fun o' ho'=>(by cases ho'),h.ver,by have:=h.len;show s.hs.length≤k+1;omega,h.cut,h.chn⟩
      ·cases hj
     ·cases hj
def pr (s:RS):List Nd×Int×Int×List Nt:=(s.g,s.ver,s.cut,s.op.toList)
def s0 (g:List Nd):RS:=⟨g,0,0,none,[]⟩
theorem ji0 {g:List Nd}(G:GS g):JI g (s0 g) 0:=⟨G,fun o ho=>(by cases ho),rfl,Nat.le_refl _,⟨Int.le_refl _,(by show(0:Int)≤1073741824;decide)⟩,rfl,rfl,G⟩
def jok (x:Option RS)(b:Bool)(u:List Nd×Int×Int×List Nt):Prop:=match x with
 |some t=>b=true∧u=pr t
 |none=>b=false
theorem plain_eq (n:Nt)(hn:SmD n.2.2.2.1):F.ch n=some (decide (n.2.2.2.1=nilD)&&(decide (n.1=2)==decide (n.2.2.2.2=0))):=by
 unfold F.ch
 rw[show F.dD n.2.2.2.1 ([],[],[])=some (decide (n.2.2.2.1=nilD))from P_SameD n.2.2.2.1 nilD hn.sz,Option.bind_some]
 by_cases h:n.2.2.2.1=nilD<;>simp[h]
theorem P_next {f:List Nd}{s:RS}{k:Nat}(n:Nt)(h:JI f s k)(hk:k≤2000)(hn:SmD n.2.2.2.1): ∃b u,F.a5 (pr s) n=some (b,u)∧jok (jst s n) b u:=by
 have hv:Z.R64 (s.ver+1):=by have h1:=h.ver;have h2:=h.len;exact⟨by omega,by omega⟩
 unfold F.a5 jst
 by_cases h1:n.1=1
 ·rw[if_pos h1,if_pos h1]
  unfold F.cj
  cases ho:s.op with
  |some o=>
   rw[if_pos (by simp[pr,ho])]
   refine⟨false,_,rfl,?_⟩
   rw[if_neg (by simp)];rfl
  |none=>
   by_cases hc:((n.2.1≠s.ver∨n.2.2.2.2≠0)∨n.2.2.1≤s.cut)∨1073741824<n.2.2.1
   ·rw[if_pos (by simp only[pr,ho,Option.toList_none,List.isEmpty_nil,Bool.not_true,cond_false,A.bo,decide_eq_true_eq];exact hc)]
    refine⟨false,_,rfl,?_⟩
    rw[if_neg (by omega)];rfl
   ·rw[if_neg (by simp only[pr,ho,Option.toList_none,List.isEmpty_nil,Bool.not_true,cond_false,A.bo,decide_eq_true_eq];exact hc)]
    rw[show F.cq (pr s).1 n.2.2.2.1=some (apV s.g n.2.2.2.1).2 from(apV_eq h.gs hn).2.1,Option.bind_some]
    by_cases hz:(apV s.g n.2.2.2.1).2=0
    ·rw[show decide ((apV s.g n.2.2.2.1).2≠0)=false from decide_eq_false (fun k=>k hz),F.aA,if_neg Bool.false_ne_true]
     refine⟨true,_,rfl,?_⟩
     rw[if_pos (by refine⟨by simp,?_⟩;omega)];exact⟨rfl,rfl⟩
    ·rw[show decide ((apV s.g n.2.2.2.1).2≠0)=true from decide_eq_true hz,F.aA,if_pos rfl]
     refine⟨false,_,rfl,?_⟩
     rw[if_neg (fun h=>hz h.2.2.2.2.2)];rfl
 ·rw[if_neg h1,if_neg h1]
  by_cases h23:n.1=2∨n.1=3
  case neg=>
   rw[if_neg (by omega),if_neg (by omega)]
   refine⟨false,_,rfl,?_⟩
   cases s.op with
   |none=>rfl
   |some o=>
    simp only
    split
    ·rw[if_neg (by omega),if_neg (by omega)];rfl
    ·rfl
  case pos=>
   have e:(if n.1=2 then F.y (pr s) n else if n.1=3 then F.y (pr s) n else some (false,((pr s).1,(pr s).2.1,(pr s).2.2.1,(pr s).2.2.2)))=F.y (pr s) n:=by
    rcases h23 with h2|h3
    ·rw[if_pos h2]
    ·rw[if_neg (by omega),if_pos h3]
   rw[e]
   unfold F.y F.ck
   cases ho:s.op with
   |none=>
    rw[if_pos (by simp[pr,ho]),F.f,if_pos rfl]
    exact⟨false,_,rfl,rfl⟩
   |some o=>
    obtain⟨p1,p2,p3,p4⟩:=h.op o ho
    have hop:(pr s).2.2.2=[o]:=by simp[pr,ho]
    simp only
    rw[if_neg (by simp[pr,ho])]
    rw[show A.ix ((pr s).1,(pr s).2.1,(pr s).2.2.1,(pr s).2.2.2).2.2.2 0=some o from by rw[show((pr s).1,(pr s).2.1,(pr s).2.2.1,(pr s).2.2.2).2.2.2=[o]from hop];rfl,Option.bind_some]
    by_cases hc:n.2.2.1=o.2.2.1
    case neg=>
     rw[if_pos hc,F.f,if_pos rfl]
     refine⟨false,_,rfl,?_⟩
     rw[if_neg (fun h=>hc h.1)];rfl
    rw[if_neg (fun h=>h hc),show F.ch _=_ from plain_eq n hn,Option.bind_some]
    by_cases hd:n.2.2.2.1=nilD
    case neg=>
     rw[decide_eq_false hd,Bool.false_and,Bool.not_false,F.f,if_pos rfl]
     refine⟨false,_,rfl,?_⟩
     rw[if_neg (fun h=>hd h.2)];rfl
    rw[decide_eq_true hd,Bool.true_and,if_pos ⟨hc,hd⟩]
    rcases h23 with h2|h3
    ·rw[decide_eq_true h2,if_pos h2]
     by_cases hw:n.2.2.2.2=0
     case neg=>
      rw[decide_eq_false hw,show(!(true==false))=true from rfl,F.f,if_pos rfl]
      refine⟨false,_,rfl,?_⟩
      rw[if_neg (fun h=>hw h.2)];rfl
     rw[decide_eq_true hw,show(!(true==true))=false from rfl,F.f,if_neg Bool.false_ne_true,if_neg (show ¬n.1=3 by omega)]
     rw[show A.ix ((pr s).1,(pr s).2.1,(pr s).2.2.1,(pr s).2.2.2).2.2.2 0=some o from by rw[show((pr s).1,(pr s).2.1,(pr s).2.2.1,(pr s).2.2.2).2.2.2=[o]from hop];rfl,Option.bind_some]
     rw[show F.ax ((pr s).1,(pr s).2.1,(pr s).2.2.1,(pr s).2.2.2).1 o.2.2.2.1=some (apV s.g o.2.2.2.1)from(apV_eq h.gs p1).1,Option.bind_some,F.bP]
     rw[show A.ix ((pr s).1,(pr s).2.1,(pr s).2.2.1,(pr s).2.2.2).2.2.2 0=some o from by rw[show((pr s).1,(pr s).2.1,(pr s).2.2.1,(pr s).2.2.2).2.2.2=[o]from hop];rfl,Option.bind_some]
     rw[A.gd1 (show Z.R64 (((pr s).1,(pr s).2.1,(pr s).2.2.1,(pr s).2.2.2).2.1+1)from hv),decide_eq_true p2,cond_true]
     refine⟨decide (n.2.1=s.ver+1),_,rfl,?_⟩
     by_cases hvv:n.2.1=s.ver+1
     ·rw[if_pos ⟨hvv,hw⟩];exact⟨decide_eq_true hvv,rfl⟩
     ·rw[if_neg (fun h=>hvv h.1)];exact decide_eq_false hvv
    ·rw[decide_eq_false (show ¬n.1=2 by omega),if_neg (show ¬n.1=2 by omega),if_pos h3]
     by_cases hw:n.2.2.2.2=0
     case pos=>
      rw[decide_eq_true hw,show(!(false==true))=true from rfl,F.f,if_pos rfl]
      refine⟨false,_,rfl,?_⟩
      rw[if_neg (fun h=>h.2 hw)];rfl
     rw[decide_eq_false hw,show(!(false==false))=false from rfl,F.f,if_neg Bool.false_ne_true,if_pos h3]
     refine⟨decide (n.2.1=s.ver),_,rfl,?_⟩
     by_cases hvv:n.2.1=s.ver
     ·rw[if_pos ⟨hvv,hw⟩];exact⟨decide_eq_true hvv,rfl⟩
     ·rw[if_neg (fun h=>hvv h.1)];exact decide_eq_false hvv
abbrev Lg:=List Nd×List Nt
def jwh (l:Lg):Option RS×Int:=if chkG l.1≠0 then(none,chkG l.1)else match jrun (s0 l.1) l.2 with
 |some s=>(some s,0)
 |none=>(none,220)
structure SmL (l:Lg):Prop where
 first:Sml l.1
 fl:l.1.length≤60
 notes: ∀n∈l.2,SmD n.2.2.2.1
 len:l.2.length≤1000
theorem jrun_inv {f:List Nd}: ∀{l:List Nt} {s t:RS} {k:Nat},JI f s k→(∀n∈l,SmD n.2.2.2.1)→jrun s l=some t→JI f t (k+l.length)
 | [],s,t,k,h,_,hj=>by injection hj with hj;subst hj;exact h
 |n::l,s,t,k,h,hn,hj=>by
  unfold jrun at hj
  cases hs:jst s n with
  |none=>rw[hs]at hj;cases hj
  |some u=>
   rw[hs]at hj
   have:=jrun_inv (jst_inv h (hn n (List.mem_cons_self ..)) hs) (fun m hm=>hn m (List.mem_cons_of_mem _ hm)) hj
   rw[List.length_cons,show k+(l.length+1)=k+1+l.length by omega];exact this
theorem jwh_some {l:Lg}{s:RS}(hl:SmL l)(h:(jwh l).1=some s):JI l.1 s l.2.length∧(jwh l).2=0∧jrun (s0 l.1) l.2=some s∧chkG l.1=0:=by
 unfold jwh at h ⊢
 by_cases h0:chkG l.1=0
 ·rw[if_neg (fun k=>k h0)]at h ⊢
  cases hr:jrun (s0 l.1) l.2 with
  |none=>rw[hr]at h;cases h
  |some t=>
   rw[hr]at h;injection h with h;subst h
   refine⟨?_,rfl,rfl,h0⟩
   have:=jrun_inv (ji0 ((chkG_eq hl.first).2.2 h0)) hl.notes hr
   rw[Nat.zero_add]at this;exact this
 ·rw[if_pos h0]at h;cases h
theorem jwh_none {l:Lg}(h:(jwh l).1=none):(jwh l).2≠0:=by
 unfold jwh at h ⊢
 by_cases h0:chkG l.1=0
 ·rw[if_neg (fun k=>k h0)]at h ⊢
  cases hr:jrun (s0 l.1) l.2 with
  |none=>exact fun h=>by cases h
  |some t=>rw[hr]at h;cases h
 ·rw[if_pos h0];exact h0
def wres (x:Option RS):Option (List Nd×Int×Int×List Nt)×Int:=match x with
 |some s=>(some (pr s),0)
 |none=>(none,220)
theorem jwhole_P (l:Lg)(hl:SmL l):F.ah l=some ((jwh l).1.map pr,(jwh l).2):=by
 obtain⟨c1,c2,c3⟩:=chkG_eq hl.first
 unfold F.ah jwh
 rw[c1,Option.bind_some]
 by_cases h0:chkG l.1=0
 case neg=>rw[if_pos h0,if_pos h0];rfl
 rw[if_neg (show ¬chkG l.1≠0 from fun k=>k h0),if_neg (show ¬chkG l.1≠0 from fun k=>k h0),if_neg (by have:=hl.len;omega)]
 have:=A.lp l.2 (fun f (s:RS) y=>F.aZ l f s.g s.op.toList s.ver s.cut y) (fun _ r s=>some (wres (jrun s r))) (fun k s=>JI l.1 s k)
  (fun f s h=>by rw[F.aZ,if_neg (by omega)];rfl)
  (fun f s k n hx hk h ih=>by
   have hk2:=hl.len
   obtain⟨b,u,e1,e2⟩:=P_next n h (by omega) (hl.notes n (List.mem_of_getElem? hx))
   rw[F.aZ,if_pos (by omega),A.ixn hx,Option.bind_some,show F.a5 (s.g,s.ver,s.cut,s.op.toList) (n.1,n.2.1,n.2.2.1,n.2.2.2.1,n.2.2.2.2)=some (b,u)from e1,Option.bind_some]
   show _=some (wres (match jst s n with|none=>none|some t=>jrun t (l.2.drop (k+1))))
   cases hj:jst s n with
   |none=>rw[hj]at e2;obtain rfl:=(show b=false from e2);rfl
   |some t=>
    rw[hj]at e2
    obtain⟨rfl,rfl⟩:=(show b=true∧u=pr t from e2)
    rw[if_neg (by simp),A.gd1 (A.r64n (by omega))]
    exact ih t (jst_inv h (hl.notes n (List.mem_of_getElem? hx)) hj))
  (by have:=FU_big;have:=hl.len;omega) (s0 l.1) (ji0 (c3 h0))
 refine Eq.trans this ?_
 cases jrun (s0 l.1) l.2<;>rfl
theorem note_eq (n:Nt)(h:SmD n.2.2.2.1):F.aP n=some n:=by
 have h1:=h.dl;have h2:=h.ml;have h3:=h.pl
 unfold F.aP F.dc
 rw[A.gd1 (by omega),A.gd1 (by omega),A.gd1 List.length_replicate,A.gd1 List.length_replicate,Clone_eq _ (by omega) (fun m hm=>(h.put.2 m hm).1),Option.bind_some]
theorem jcheck (l:Lg)(hl:SmL l):F.br l=some (jwh l).2:=by
 unfold F.br
 rw[show F.ah l=_ from jwhole_P l hl,Option.bind_some]
 cases (jwh l).1<;>rfl
def eL:Lg:=([],[])
def askJ (l:Lg)(d:Dl)(cut:Int)(s:RS):Lg×Int:=if s.op.isSome=true then(eL,9)else if(1023:Int)≤(l.2.length:Int)then(eL,3)else if cut<1∨1073741824<cut then(eL,1)else if cut≤s.cut then(eL,190)else if(apV s.g d).2≠0 then(eL,(apV s.g d).2)else((l.1,l.2++[(1,s.ver,cut,d,0)]),0)
def jof {α:Type}(l:Lg)(z:α)(f:RS→α×Int):α×Int:=match(jwh l).1 with
 |none=>(z,(jwh l).2)
 |some s=>f s
theorem smd_nil:SmD nilD:=⟨sml_nil,by simp,by simp,by simp⟩
abbrev Hs:=List (List Nd×Int×Dl)
def tn (x:List Nd×Int×Dl):Dl×Int:=(x.2.2,x.2.1)
def jTurns (l:Lg):List (Dl×Int):=match(jwh l).1 with
 |none=>[]
 |some s=>s.hs.map tn
theorem jst_op {s t:RS}{n last:Nt}(h:jst s n=some t)(ho: ∀o,s.op=some o→last=o):(∀o,t.op=some o→n=o)∧(n.1=2→t.hs=s.hs++[((apV s.g last.2.2.2.1).1,last.2.2.1,last.2.2.2.1)])∧(n.1≠2→t.hs=s.hs):=by
 unfold jst at h
 by_cases h1:n.1=1
 ·rw[if_pos h1]at h
  split at h
  ·injection h with h;subst h
   exact⟨fun o h=>by injection h,fun h=>by omega,fun _=>rfl⟩
  ·cases h
 ·rw[if_neg h1]at h
  cases hop:s.op with
  |none=>rw[hop]at h;cases h
  |some o=>
   rw[hop]at h
   obtain rfl:=ho o hop
   simp only at h
   split at h
   ·split at h
    ·split at h
     ·injection h with h;subst h
      exact⟨fun o h=>(by cases h),fun _=>rfl,fun h=>by omega⟩
     ·cases h
    ·split at h
     ·split at h
      ·injection h with h;subst h
       exact⟨fun o h=>(by cases h),fun h=>by omega,fun _=>rfl⟩
      ·cases h
     ·cases h
   ·cases h
theorem P_Turns (l:Lg)(hl:SmL l):F.bs l=some (jTurns l):=by
 unfold F.bs jTurns
 rw[show F.br l=_ from jcheck l hl,Option.bind_some]
 cases hs:(jwh l).1 with
 |none=>rw[if_neg (jwh_none hs)];rfl
 |some t=>
  obtain⟨J,e0,hr,hc⟩:=jwh_some hl hs
  have G0:=(chkG_eq hl.first).2.2 hc
  have hl2:=hl.len
  rw[if_pos e0]
  have:=A.lp l.2 (fun f (s:List (Dl×Int)×Nt) y=>F.an l f s.1 s.2.2.2.2.1.1 s.2.2.2.2.1.2.1 s.2.2.2.2.1.2.2 s.2.1 s.2.2.1 s.2.2.2.1 s.2.2.2.2.2 y) (fun _ _ _=>some (t.hs.map tn))
   (fun k st=>∃s,JI l.1 s k∧jrun s (l.2.drop k)=some t∧st.1=s.hs.map tn∧(∀o,s.op=some o→st.2=o)∧SmD st.2.2.2.2.1)
   (fun f st ⟨s,h1,h2,h3,h4,h5⟩=>by
    rw[F.an,if_neg (by omega)]
    rw[List.drop_eq_nil_of_le (Nat.le_refl _)]at h2
    injection h2 with h2;subst h2
    rw[F.b7,h3])
   (fun f st k x hx hk ⟨s,h1,h2,h3,h4,h5⟩ ih=>by
    rw[A.dropx hx]at h2
    unfold jrun at h2
    cases hj:jst s x with
    |none=>rw[hj]at h2;cases h2
    |some u=>
     rw[hj]at h2
     have hsm:=hl.notes x (List.mem_of_getElem? hx)
     have J2:=jst_inv h1 hsm hj
     obtain⟨o1,o2,o3⟩:=jst_op hj h4
     rw[F.an,if_pos (by omega),A.ixn hx,Option.bind_some]
     by_cases hk2:x.1=2
     ·rw[if_pos hk2,show F.aP (st.2.1,st.2.2.1,st.2.2.2.1,st.2.2.2.2.1,st.2.2.2.2.2)=some st.2 from note_eq st.2 h5,Option.bind_some]
      have hlen:st.1.length≤1000:=by rw[h3,List.length_map];have:=h1.len;omega
      rw[A.gd1 (by simp only[List.length_cons,List.length_nil];omega),F.bD,A.gd1 (A.r64n (by omega))]
      refine ih (st.1++[(st.2.2.2.2.1,st.2.2.2.1)],x) ⟨u,J2,h2,?_,fun o ho=>o1 o ho,hsm⟩
      rw[o2 hk2,List.map_append,h3];rfl
     ·rw[if_neg hk2,F.bD,A.gd1 (A.r64n (by omega))]
      exact ih (st.1,x) ⟨u,J2,h2,by rw[o3 hk2];exact h3,fun o ho=>o1 o ho,hsm⟩)
   (by have:=FU_big;omega) ([],nilN) ⟨s0 l.1,ji0 G0,hr,rfl,fun o h=>(by cases h),smd_nil⟩
  exact this
def nm {α:Type}:Nat→List α→List (Int×α)
 |_,[]=>[]
 |k,x::r=>((k:Int)+1,x)::nm (k+1) r
theorem P_it (xs:List (Dl×Int))(h:xs.length≤2000):F.a6 xs=some (nm 0 xs):=by
 unfold F.a6
 exact A.lp0 xs (fun f y=>F.aj xs f y) (fun k r=>some (nm k r))
  (fun f=>by rw[F.aj,if_neg (by omega)];rfl)
  (fun f k x hx hk ih=>by
   rw[F.aj,if_pos (by omega),A.ixn hx,Option.bind_some,A.gd1 (A.r64n (by omega)),A.gd1 (A.r64n (by omega)),ih];rfl)
  (by have:=FU_big;omega)
def rul (e:Int):List Nd→Int→Hs→List Nd×Int×Int
 |g,v,[]=>(g,v,0)
 |g,v,x::r=>if e<x.2.1 then(g,v,0)else rul e x.1 (v+1) r
def jAt (l:Lg)(e:Int):List Nd×Int×Int:=match(jwh l).1 with
 |none=>([],0,(jwh l).2)
 |some s=>if e<0∨1073741824<e then([],0,1)else rul e l.1 0 s.hs
theorem GS.clone {g:List Nd}(G:GS g):F.am g=some g:=Clone_eq g (by have:=G.good.len;omega) (fun n hn=>(G.sml.2 n hn).1)
theorem rul_P (e:Int): ∀{hs:Hs} {g:List Nd} {c:Int} {g':List Nd} {c':Int} (k:Nat),Chn g c hs g' c'→F.ci e (nm k (hs.map tn)) g k=some (rul e g k hs)
 | [],g,c,g',c',k,h=>by
  show(F.am g).bind _=_
  rw[h.gs.clone];rfl
 |x::hs,g,c,g',c',k,h=>by
  show(if e<x.2.1 then _ else _)=_
  unfold rul
  by_cases h1:e<x.2.1
  ·rw[if_pos h1,if_pos h1,h.gs.clone];rfl
  ·obtain⟨a1,a2,a3,a4,a5⟩:=h
   rw[if_neg h1,if_neg h1,show F.ax g (((k:Int)+1,tn x).2.1.1,((k:Int)+1,tn x).2.1.2.1,((k:Int)+1,tn x).2.1.2.2)=_ from(apV_eq a1 a2).1,Option.bind_some,a4]
   exact rul_P e (k+1) a5
theorem P_At (l:Lg)(e:Int)(hl:SmL l):F.cl l e=some (jAt l e):=by
 unfold F.cl jAt
 rw[show F.br l=_ from jcheck l hl,Option.bind_some]
 cases hs:(jwh l).1 with
 |none=>rw[if_pos (jwh_none hs)]
 |some s=>
  obtain⟨J,e0,hr,hc⟩:=jwh_some hl hs
  simp only
  rw[if_neg (fun k=>k e0),A.bo]
  by_cases h:e<0∨1073741824<e
  ·rw[if_pos (decide_eq_true h),if_pos h]
  ·rw[if_neg (fun k=>h (of_decide_eq_true k)),if_neg h,show F.bs l=_ from P_Turns l hl,Option.bind_some]
   have h2:jTurns l=s.hs.map tn:=by unfold jTurns;rw[hs]
   rw[h2,P_it _ (by rw[List.length_map];have:=J.len;have:=hl.len;omega),Option.bind_some]
   exact rul_P e 0 J.chn
def jNow (l:Lg):List Nd×Int×Int:=match(jwh l).1 with
 |none=>([],0,(jwh l).2)
 |some s=>(s.g,s.ver,0)
theorem P_Now (l:Lg)(hl:SmL l):F.c7 l=some (jNow l):=by
 unfold F.c7 jNow
 rw[show F.ah l=_ from jwhole_P l hl,Option.bind_some]
 cases hs:(jwh l).1 with
 |none=>exact if_pos (jwh_none hs)
 |some s=>
  obtain⟨J,e0,_,_⟩:=jwh_some hl hs
  show(if(jwh l).2≠0 then _ else _)=_
  rw[if_neg (fun k=>k e0),show F.am (pr s).1=_ from J.gs.clone,Option.bind_some];rfl
def jOpen (l:Lg):Nt×Bool:=match(jwh l).1 with
 |none=>(nilN,false)
 |some s=>match s.op with
  |none=>(nilN,false)
  |some o=>(o,true)
theorem P_Open (l:Lg)(hl:SmL l):F.cR l=some (jOpen l):=by
 unfold F.cR jOpen
 rw[show F.ah l=_ from jwhole_P l hl,Option.bind_some]
 cases hs:(jwh l).1 with
 |none=>exact if_pos (jwh_none hs)
 |some s=>
  obtain⟨J,e0,_,_⟩:=jwh_some hl hs
  show(if(jwh l).2≠0 then _ else _)=_
  rw[if_neg (fun k=>k e0)]
  cases ho:s.op with
  |none=>rw[if_pos (by simp[pr,ho])];simp only[ho]
  |some o=>
   have hop:(pr s).2.2.2=[o]:=by simp[pr,ho]
   rw[if_neg (by rw[hop];simp),hop,show A.ix [o] 0=some o from rfl,Option.bind_some,show F.aP (o.1,o.2.1,o.2.2.1,o.2.2.2.1,o.2.2.2.2)=some o from note_eq o (J.op o ho).1,Option.bind_some];simp only[ho]
theorem nt_ext {x y:Nt}:x=y↔x.1=y.1∧x.2.1=y.2.1∧x.2.2.1=y.2.2.1∧x.2.2.2.1=y.2.2.2.1∧x.2.2.2.2=y.2.2.2.2:=by
 obtain⟨a,b,c,d,e⟩:=x;obtain⟨a',b',c',d',e'⟩:=y;simp only[Prod.mk.injEq]
abbrev Rr:=List Nd×Int×Int×Bool×Nt×List (List Nd)×List Int×List Dl
def prR (s:RS)(w:Nt):Rr:=(s.g,s.ver,s.cut,s.op.isSome,s.op.getD w,s.hs.map (·.1),s.hs.map (·.2.1),s.hs.map (·.2.2))
def jokR (x:Option RS)(b:Bool)(u:Rr):Prop:=match x with
 |some t=>b=true∧∃w,u=prR t w
 |none=>b=false
theorem R_step {f:List Nd}{s:RS}{k:Nat}(w n:Nt)(h:JI f s k)(hk:k≤2000)(hn:SmD n.2.2.2.1): ∃b u,F.b3 (prR s w) n=some (b,u)∧jokR (jst s n) b u:=by
 have hlen:=h.len
 have hv:Z.R64 (s.ver+1):=by have h1:=h.ver;exact⟨by omega,by omega⟩
 unfold F.b3 jst
 rw[show F.cb n.2.2.2.1 ([],[],[])=some (decide (n.2.2.2.1=nilD))from R_SameD n.2.2.2.1 nilD hn.sz,Option.bind_some]
 have e1:(prR s w).2.1=s.ver:=rfl
 have e2:(prR s w).2.2.1=s.cut:=rfl
 have e3:(prR s w).2.2.2.1=s.op.isSome:=rfl
 have e4:(prR s w).2.2.2.2.1=s.op.getD w:=rfl
 have e0:(prR s w).1=s.g:=rfl
 by_cases h1:n.1=1
 ·rw[if_pos h1,if_pos h1]
  have hc0:=h.cut.1
  cases ho:s.op with
  |some o=>
   rw[if_pos (by rw[e3,ho];simp),F.aK,if_pos rfl]
   refine⟨false,_,rfl,?_⟩
   rw[if_neg (by simp)];rfl
  |none=>
   by_cases hc:((((n.2.1≠s.ver)∨n.2.2.1<1)∨1073741824<n.2.2.1)∨n.2.2.1≤s.cut)∨n.2.2.2.2≠0
   ·rw[if_pos (by simp only[e1,e2,e3,ho,Option.isSome_none,cond_false,A.bo,decide_eq_true_eq];exact hc),F.aK,if_pos rfl]
    refine⟨false,_,rfl,?_⟩
    rw[if_neg (by omega)];rfl
   ·rw[if_neg (by simp only[e1,e2,e3,ho,Option.isSome_none,cond_false,A.bo,decide_eq_true_eq];exact hc)]
    rw[show F.bZ (prR s w).1 n.2.2.2.1=some (apV s.g n.2.2.2.1).2 from(apV_eq h.gs hn).2.2.1,Option.bind_some,F.aK]
    by_cases hz:(apV s.g n.2.2.2.1).2=0
    ·rw[decide_eq_false (fun k=>k hz),if_neg Bool.false_ne_true]
     refine⟨true,_,rfl,?_⟩
     rw[if_pos (by refine⟨by simp,?_⟩;omega)];exact⟨rfl,n,rfl⟩
    ·rw[decide_eq_true hz,if_pos rfl]
     refine⟨false,_,rfl,?_⟩
     rw[if_neg (fun h=>hz h.2.2.2.2.2)];rfl
 rw[if_neg h1,if_neg h1]
 by_cases h2:n.1=2
 ·rw[if_pos h2]
  rw[A.gd1 (show(!(prR s w).2.2.2.1)=false→Z.R64 ((prR s w).2.1+1)from fun _=>hv)]
  cases ho:s.op with
  |none=>
   rw[if_pos (by rw[e3,ho];rfl)]
   exact⟨false,_,rfl,rfl⟩
  |some o=>
   obtain⟨p1,p2,p3,p4⟩:=h.op o ho
   have e5:(prR s w).2.2.2.2.1=o:=by rw[e4,ho];rfl
   simp only
   have hd:(bif bif bif bif !(prR s w).2.2.2.1 then true else decide (n.2.1≠(prR s w).2.1+1)then true else decide (n.2.2.1≠(prR s w).2.2.2.2.1.2.2.1)then true else !(decide (n.2.2.2.1=nilD))then true else decide (n.2.2.2.2≠0))=decide ((((n.2.1≠s.ver+1)∨n.2.2.1≠o.2.2.1)∨¬n.2.2.2.1=nilD)∨n.2.2.2.2≠0):=by
    rw[e5,e1,e3,ho]
    simp only[Option.isSome_some,Bool.not_true,cond_false,A.bn,A.bo]
   rw[hd]
   by_cases hc:(((n.2.1≠s.ver+1)∨n.2.2.1≠o.2.2.1)∨¬n.2.2.2.1=nilD)∨n.2.2.2.2≠0
   ·rw[if_pos (decide_eq_true hc)]
    refine⟨false,_,rfl,?_⟩
    by_cases hq:n.2.2.1=o.2.2.1∧n.2.2.2.1=nilD
    ·rw[if_pos hq,if_pos h2,if_neg (fun k=>by
      rcases hc with((hc|hc)|hc)|hc
      ·exact hc k.1
      ·exact hc hq.1
      ·exact hc hq.2
      ·exact hc k.2)];rfl
    ·rw[if_neg hq];rfl
   ·rw[if_neg (fun k=>hc (of_decide_eq_true k)),A.gd1 (show Z.R64 ((prR s w).2.1+1)from hv)]
    simp only[not_or,ne_eq,Decidable.not_not]at hc
    obtain⟨⟨⟨q1,q2⟩,q3⟩,q4⟩:=hc
    rw[if_pos ⟨q2,q3⟩,if_pos h2,if_pos ⟨q1,q4⟩]
    have ea:F.cW (prR s w).1 ((prR s w).2.2.2.2.1.2.2.2.1.1,(prR s w).2.2.2.2.1.2.2.2.1.2.1,(prR s w).2.2.2.2.1.2.2.2.1.2.2)=some (apV s.g o.2.2.2.1):=by
     show F.cW s.g (prR s w).2.2.2.2.1.2.2.2.1=_
     rw[e5];exact(apV_eq h.gs p1).2.2.2.1
    rw[ea,Option.bind_some,A.gd1 (by show(List.length (s.hs.map _)+1)*24≤_;rw[List.length_map];omega),A.gd1 (by show(List.length (s.hs.map _)+1)*8≤_;rw[List.length_map];omega),A.gd1 (by show(List.length (s.hs.map _)+1)*72≤_;rw[List.length_map];omega)]
    refine⟨true,_,rfl,rfl,o,?_⟩
    show(_,_,_,_,(prR s w).2.2.2.2.1,_,_,_++[(prR s w).2.2.2.2.1.2.2.2.1])=_
    rw[e5]
    unfold prR
    simp only[List.map_append,List.map_cons,List.map_nil,q2]
    rfl
 rw[if_neg h2]
 by_cases h3:n.1=3
 ·rw[if_pos h3]
  cases ho:s.op with
  |none=>
   rw[if_pos (by rw[e3,ho];rfl)]
   exact⟨false,_,rfl,rfl⟩
  |some o=>
   have e5:(prR s w).2.2.2.2.1=o:=by rw[e4,ho];rfl
   simp only
   have hd:(bif bif bif bif !(prR s w).2.2.2.1 then true else decide (n.2.1≠(prR s w).2.1)then true else decide (n.2.2.1≠(prR s w).2.2.2.2.1.2.2.1)then true else !(decide (n.2.2.2.1=nilD))then true else decide (n.2.2.2.2=0))=decide ((((n.2.1≠s.ver)∨n.2.2.1≠o.2.2.1)∨¬n.2.2.2.1=nilD)∨n.2.2.2.2=0):=by
    rw[e5,e1,e3,ho]
    simp only[Option.isSome_some,Bool.not_true,cond_false,A.bn,A.bo]
   rw[hd]
   by_cases hc:(((n.2.1≠s.ver)∨n.2.2.1≠o.2.2.1)∨¬n.2.2.2.1=nilD)∨n.2.2.2.2=0
   ·rw[if_pos (decide_eq_true hc)]
    refine⟨false,_,rfl,?_⟩
    by_cases hq:n.2.2.1=o.2.2.1∧n.2.2.2.1=nilD
    ·rw[if_pos hq,if_neg h2,if_pos h3,if_neg (fun k=>by
      rcases hc with((hc|hc)|hc)|hc
      ·exact hc k.1
      ·exact hc hq.1
      ·exact hc hq.2
      ·exact k.2 hc)];rfl
    ·rw[if_neg hq];rfl
   ·rw[if_neg (fun k=>hc (of_decide_eq_true k))]
    simp only[not_or,ne_eq,Decidable.not_not]at hc
    obtain⟨⟨⟨q1,q2⟩,q3⟩,q4⟩:=hc
    rw[if_pos ⟨q2,q3⟩,if_neg h2,if_pos h3,if_pos ⟨q1,q4⟩]
    refine⟨true,_,rfl,rfl,o,?_⟩
    show(_,_,_,_,(prR s w).2.2.2.2.1,_,_,_)=_
    rw[e5];rfl
 ·rw[if_neg h3]
  refine⟨false,_,rfl,?_⟩
  cases s.op with
  |none=>rfl
  |some o=>
   simp only
   split<;>rfl
def rdR (l:Lg)(x:Option Rr×Int):Prop:=match(jwh l).1 with
 |none=>x=(none,(jwh l).2)
 |some s=>∃w,x=(some (prR s w),0)
theorem R_read (l:Lg)(hl:SmL l): ∃x,F.bT l=some x∧rdR l x:=by
 have hl2:=hl.len
 obtain⟨c1,c2,c3⟩:=chkG_eq hl.first
 unfold F.bT rdR jwh
 rw[c2,Option.bind_some]
 by_cases h0:chkG l.1=0
 case neg=>rw[if_pos h0,if_pos h0];exact⟨_,rfl,rfl⟩
 rw[if_neg (show ¬chkG l.1≠0 from fun k=>k h0),if_neg (show ¬chkG l.1≠0 from fun k=>k h0),if_neg (by omega)]
 have main: ∀(n k f:Nat) (s:RS) (w:Nt),k+n=l.2.length→n<f→JI l.1 s k→∃x,F.cx l f (prR s w).1 (prR s w).2.2.2.2.1.2.2.2.1.1 (prR s w).2.2.2.2.1.2.2.2.1.2.1 (prR s w).2.2.2.2.1.2.2.2.1.2.2 (prR s w).2.2.2.2.2.1 (prR s w).2.2.2.2.2.2.1 (prR s w).2.2.2.2.2.2.2 (prR s w).2.1 (prR s w).2.2.1 (prR s w).2.2.2.1 (prR s w).2.2.2.2.1.1 (prR s w).2.2.2.2.1.2.1 (prR s w).2.2.2.2.1.2.2.1 (prR s w).2.2.2.2.1.2.2.2.2 (k:Int)=some x∧(match jrun s (l.2.drop k)with|none=>x=(none,220)|some t=>∃w,x=(some (prR t w),0)):=by
  intro n
  induction n with
  |zero=>
   intro k f s w hk hf hJ
   obtain⟨f,rfl⟩: ∃f',f=f'+1:=⟨f-1,by omega⟩
   rw[F.cx,if_neg (by omega),List.drop_eq_nil_of_le (by omega)]
   exact⟨_,rfl,w,rfl⟩
  |succ n ih=>
   intro k f s w hk hf hJ
   obtain⟨f,rfl⟩: ∃f',f=f'+1:=⟨f-1,by omega⟩
   have hx:l.2[k]?=some l.2[k]:=List.getElem?_eq_getElem (by omega)
   have hsm:=hl.notes _ (List.mem_of_getElem? hx)
   obtain⟨b,u,e1,e2⟩:=R_step w l.2[k] hJ (by omega) hsm
   rw[F.cx,if_pos (by omega),A.ixn hx,Option.bind_some,show F.b3 _ _=_ from e1,Option.bind_some,A.dropx hx]
   unfold jrun
   cases hj:jst s l.2[k]with
   |none=>
    rw[hj]at e2;obtain rfl:=(show b=false from e2)
    exact⟨_,rfl,rfl⟩
   |some t=>
    rw[hj]at e2
    obtain⟨rfl,w',rfl⟩:=(show b=true∧∃w,u=prR t w from e2)
    rw[if_neg (by simp),A.gd1 (A.r64n (by omega))]
    exact ih (k+1) f t w' (by omega) (by omega) (jst_inv hJ hsm hj)
 obtain⟨x,h1,h2⟩:=main l.2.length 0 A.FU (s0 l.1) nilN (by omega) (by have:=FU_big;omega) (ji0 (c3 h0))
 refine⟨x,h1,?_⟩
 rw[List.drop_zero]at h2
 revert h2
 cases jrun (s0 l.1) l.2<;>exact fun h=>h
theorem R_SameN (x y:Nt)(hx:SmD x.2.2.2.1):F.cS x y=some (decide (x=y)):=by
 unfold F.cS
 have h:=nt_ext (x:=x) (y:=y)
 simp only[A.ba,F.cp]
 by_cases c:(x.1=y.1∧x.2.1=y.2.1)∧x.2.2.1=y.2.2.1
 ·rw[if_pos (decide_eq_true c),show F.cb _ _=_ from R_SameD x.2.2.2.1 y.2.2.2.1 hx.sz,Option.bind_some,A.ba]
  congr 1
  exact decide_eq_decide.2 ⟨fun k=>h.2 ⟨c.1.1,c.1.2,c.2,k.1,k.2⟩,fun k=>⟨(h.1 k).2.2.2.1,(h.1 k).2.2.2.2⟩⟩
 ·rw[if_neg (fun k=>c (of_decide_eq_true k)),decide_eq_false (fun k=>c ⟨⟨(h.1 k).1,(h.1 k).2.1⟩,(h.1 k).2.2.1⟩)]
def thin22 (n:Nd):Bool:= !decide (((10:Int)<(n.2.2.1.length:Int)∨(100:Int)<(n.2.2.2.2.1.size:Int))∨(200:Int)<(n.2.2.2.1.2.2.size:Int))
theorem nodes_l1 (g:List Nd)(h:g.length≤50):F.bH g A.FU 0=some (g.all thin22):=
 A.lp0 g (fun f i=>F.bH g f i) (fun _ l=>some (l.all thin22))
  (fun f=>by rw[F.bH,if_neg (by omega)];rfl)
  (fun f k x hx hk ih=>by
   rw[F.bH,if_pos (by omega),A.ixn hx,Option.bind_some,A.bo,A.bo]
   have e:(x::g.drop (k+1)).all thin22=(thin22 x&&(g.drop (k+1)).all thin22):=rfl
   rw[e]
   unfold thin22
   by_cases c:((10:Int)<(x.2.2.1.length:Int)∨(100:Int)<(x.2.2.2.2.1.size:Int))∨(200:Int)<(x.2.2.2.1.2.2.size:Int)
   ·rw[if_pos (decide_eq_true c),decide_eq_true c];rfl
   ·rw[if_neg (fun k=>c (of_decide_eq_true k)),A.gd1 (A.r64n (by omega)),ih,decide_eq_false c];rfl)
  (by have:=FU_big;omega)
theorem nodes22 (g:List Nd):F.dW g=some (decide (g.length≤50)&&g.all thin22):=by
 unfold F.dW
 by_cases h:g.length≤50
 ·rw[if_neg (by omega),nodes_l1 g h,decide_eq_true h,Bool.true_and]
 ·rw[if_pos (by omega),decide_eq_false h,Bool.false_and]
theorem nodes22_sml {g:List Nd}(h:(decide (g.length≤50)&&g.all thin22)=true):g.length≤50∧Sml g:=by
 rw[Bool.and_eq_true,decide_eq_true_iff,List.all_eq_true]at h
 refine⟨h.1,by omega,fun n hn=>?_⟩
 have:=h.2 n hn
 unfold thin22 at this
 rw[Bool.not_eq_true',decide_eq_false_iff_not]at this
 omega
def thinD (d:Dl):Bool:=((decide (d.2.1.length≤50)&&d.2.1.all thin22)&&decide (((d.1).length:Int)≤50))&&decide (((d.2.2).length:Int)≤40)
theorem thin22_eq (d:Dl):F.ef d=some (thinD d):=by
 unfold F.ef thinD
 rw[nodes22,Option.bind_some]
 simp only[Bool.cond_eq_ite]
 cases (decide (d.2.1.length≤50)&&d.2.1.all thin22)<;>by_cases h:((d.1).length:Int)≤50<;>simp[h]
theorem thinD_sm {d:Dl}(h:thinD d=true):SmD d:=by
 unfold thinD at h
 rw[Bool.and_eq_true,Bool.and_eq_true,decide_eq_true_iff,decide_eq_true_iff]at h
 obtain⟨h1,h2⟩:=nodes22_sml h.1.1
 exact⟨h2,by omega,by omega,by omega⟩
def fewL (l:Lg):Bool:=(decide (l.1.length≤50)&&l.1.all thin22)&&(decide (l.2.length≤30)&&l.2.all fun n=>thinD n.2.2.2.1)
theorem few22_l1 (l:Lg)(h:l.2.length≤30):F.cm l A.FU 0=some (l.2.all fun n=>thinD n.2.2.2.1):=
 A.lp0 l.2 (fun f i=>F.cm l f i) (fun _ r=>some (r.all fun n=>thinD n.2.2.2.1))
  (fun f=>by rw[F.cm,if_neg (by omega)];rfl)
  (fun f k x hx hk ih=>by
   rw[F.cm,if_pos (by omega),A.ixn hx,Option.bind_some,show F.ef x.2.2.2.1=_ from thin22_eq x.2.2.2.1,Option.bind_some]
   have e:(x::l.2.drop (k+1)).all (fun n=>thinD n.2.2.2.1)=(thinD x.2.2.2.1&&(l.2.drop (k+1)).all fun n=>thinD n.2.2.2.1):=rfl
   rw[e]
   cases thinD x.2.2.2.1 with
   |true=>rw[if_neg (by simp),A.gd1 (A.r64n (by omega)),ih,Bool.true_and]
   |false=>rfl)
  (by have:=FU_big;omega)
theorem few22 (l:Lg):F.eB l=some (fewL l):=by
 unfold F.eB fewL
 rw[nodes22,Option.bind_some]
 cases (decide (l.1.length≤50)&&l.1.all thin22)with
 |false=>rfl
 |true=>
  rw[Bool.not_true,cond_false,Bool.true_and]
  by_cases h:l.2.length≤30
  ·rw[if_neg (fun k=>by have:=of_decide_eq_true k;omega),few22_l1 l h,decide_eq_true h,Bool.true_and]
  ·rw[if_pos (decide_eq_true (by omega)),decide_eq_false h,Bool.false_and]
theorem fewL_sm {l:Lg}(h:fewL l=true):SmL l∧l.2.length≤30:=by
 unfold fewL at h
 obtain⟨ha,hb⟩:=(Bool.and_eq_true_iff ..).1 h
 rw[Bool.and_eq_true,decide_eq_true_iff,List.all_eq_true]at hb
 obtain⟨h1,h2⟩:=nodes22_sml ha
 exact⟨⟨h2,by omega,fun n hn=>thinD_sm (hb.2 n hn),by omega⟩,hb.1⟩
theorem live22:F.eX=some true:=by kernel_rfl
theorem Chn.mem: ∀{l:Hs} {g:List Nd} {c:Int} {g':List Nd} {c':Int},Chn g c l g' c'→∀x∈l,SmD x.2.2
 | [],_,_,_,_,_,x,hx=>by cases hx
 |y::l,g,c,g',c',h,x,hx=>by
  obtain⟨a1,a2,a3,a4,a5⟩:=h
  rcases List.mem_cons.1 hx with rfl|hx
  ·exact a2
  ·exact Chn.mem a5 x hx
theorem rul_sml {e:Int}: ∀{hs:Hs} {g:List Nd} {c:Int} {g':List Nd} {c':Int} (v:Int),Chn g c hs g' c'→Sml (rul e g v hs).1
 | [],g,c,g',c',v,h=>h.2.2.sml
 |x::hs,g,c,g',c',v,h=>by
  obtain⟨a1,a2,a3,a4,a5⟩:=h
  unfold rul
  split
  ·exact a1.sml
  ·exact rul_sml (v+1) a5
theorem jAt_sml {l:Lg}(hl:SmL l)(e:Int):Sml (jAt l e).1:=by
 unfold jAt
 cases hs:(jwh l).1 with
 |none=>exact sml_nil
 |some s=>
  simp only
  split
  ·exact sml_nil
  ·exact rul_sml 0 (jwh_some hl hs).1.chn
theorem jNow_sml {l:Lg}(hl:SmL l):Sml (jNow l).1:=by
 unfold jNow
 cases hs:(jwh l).1 with
 |none=>exact sml_nil
 |some s=>exact(jwh_some hl hs).1.gs.sml
structure Asked (l:Lg) (d:Dl) (cut:Int) (s:RS):Prop where
 wh:(jwh l).1=some s
 op:s.op=none
 cu:s.cut<cut∧1≤cut∧cut≤1073741824
 ok:(apV s.g d).2=0
 res:jof l eL (askJ l d cut)=((l.1,l.2++[(1,s.ver,cut,d,0)]),0)
def askd (s:RS)(d:Dl)(cut:Int):RS:=⟨s.g,s.ver,s.cut,some (1,s.ver,cut,d,0),s.hs⟩
theorem Asked.jst {l:Lg}{d:Dl}{cut:Int}{s:RS}(h:Asked l d cut s):jst s (1,s.ver,cut,d,0)=some (askd s d cut):=by
 have h1:=h.cu
 unfold Go.Proofs.YtfdfcaiiengdfaaGreatDoor.jst
 rw[if_pos rfl,if_pos ⟨by rw[h.op];rfl,rfl,rfl,h1.1,h1.2.2,h.ok⟩];rfl
def rul2 (e:Int):Nat→Hs→List Nd×Int→List Nd×Int×Int
 |_,[],st=>(st.1,st.2,0)
 |k,x::r,st=>if x.2.1≤e then rul2 e (k+1) r (x.1,(k:Int)+1)else rul2 e (k+1) r st
theorem rul2_hi {e:Int}: ∀{hs:Hs} {k:Nat} {st:List Nd×Int},(∀x∈hs,e<x.2.1)→rul2 e k hs st=(st.1,st.2,0)
 | [],_,_,_=>rfl
 |x::hs,k,st,h=>by
  have h1:=h x (List.mem_cons_self ..)
  unfold rul2
  rw[if_neg (by omega)];exact rul2_hi fun y hy=>h y (List.mem_cons_of_mem _ hy)
theorem rul2_eq {e:Int}: ∀{hs:Hs} {g:List Nd} {c:Int} {g':List Nd} {c':Int} (k:Nat),Chn g c hs g' c'→rul2 e k hs (g,k)=rul e g k hs
 | [],g,c,g',c',k,h=>rfl
 |x::hs,g,c,g',c',k,h=>by
  obtain⟨a1,a2,a3,a4,a5⟩:=h
  unfold rul2 rul
  by_cases h1:x.2.1≤e
  ·rw[if_pos h1,if_neg (by omega)];exact rul2_eq (k+1) a5
  ·rw[if_neg h1,if_pos (by omega)]
   refine rul2_hi fun y hy=>?_
   have:=(a5.le.2 y hy).1;omega
theorem R_At (l:Lg)(e:Int)(hl:SmL l):F.eW l e=some (jAt l e):=by
 obtain⟨x,h1,h2⟩:=R_read l hl
 unfold F.eW jAt
 rw[show F.bT l=some x from h1,Option.bind_some]
 unfold rdR at h2
 cases hs:(jwh l).1 with
 |none=>rw[hs]at h2;obtain rfl:=(show x=(none,(jwh l).2)from h2);exact if_pos (jwh_none hs)
 |some s=>
  rw[hs]at h2;obtain⟨w,rfl⟩:=(show ∃w,x=(some (prR s w),0)from h2)
  obtain⟨J,e0,hr,hc⟩:=jwh_some hl hs
  have hl2:=hl.len;have hj:=J.len
  show(if(0:Int)≠0 then some ([],0,0)else if(bif decide (e<0)then true else decide (1073741824<e))=true then some ([],0,1)else F.b0 e (prR s w) A.FU l.1 0 0)=_
  rw[if_neg (fun k=>k rfl),A.bo]
  simp only
  by_cases h:e<0∨1073741824<e
  ·rw[if_pos (decide_eq_true h),if_pos h]
  rw[if_neg (fun k=>h (of_decide_eq_true k)),if_neg h]
  have:=A.lp s.hs (fun f (st:List Nd×Int) y=>F.b0 e (prR s w) f st.1 st.2 y) (fun k r st=>some (rul2 e k r st)) (fun _ _=>True)
   (fun f st _=>by
    rw[F.b0,if_neg (by show ¬(bif decide ((s.hs.length:Int)<((s.hs.map _).length:Int))then _ else _)=true;rw[List.length_map];simp)];rfl)
   (fun f st k x hx hk _ ih=>by
    rw[F.b0,if_pos (by show(bif decide ((k:Int)<((s.hs.map _).length:Int))then decide ((k:Int)<((s.hs.map _).length:Int))else _)=true;rw[List.length_map,List.length_map,decide_eq_true (by omega)];rfl)]
    rw[show A.ix (prR s w).2.2.2.2.2.2.1 (k:Int)=some x.2.1 from A.ixn (by show(s.hs.map _)[k]?=_;rw[List.getElem?_map,hx];rfl),Option.bind_some]
    unfold rul2
    by_cases h1:x.2.1≤e
    ·rw[if_pos h1,if_pos h1,show A.ix (prR s w).2.2.2.2.2.1 (k:Int)=some x.1 from A.ixn (by show(s.hs.map _)[k]?=_;rw[List.getElem?_map,hx];rfl),Option.bind_some,A.gd1 (A.r64n (by omega)),F.d3,A.gd1 (A.r64n (by omega))]
     exact ih (x.1,(k:Int)+1) trivial
    ·rw[if_neg h1,if_neg h1,F.d3,A.gd1 (A.r64n (by omega))]
     exact ih st trivial)
   (by have:=FU_big;omega) (l.1,0) trivial
  refine this.trans ?_
  congr 1
  exact rul2_eq 0 J.chn
theorem R_Now (l:Lg)(hl:SmL l):F.eD l=some (jNow l):=by
 obtain⟨x,h1,h2⟩:=R_read l hl
 unfold F.eD jNow
 rw[show F.bT l=some x from h1,Option.bind_some]
 unfold rdR at h2
 cases hs:(jwh l).1 with
 |none=>rw[hs]at h2;obtain rfl:=(show x=(none,(jwh l).2)from h2);exact if_pos (jwh_none hs)
 |some s=>rw[hs]at h2;obtain⟨w,rfl⟩:=(show ∃w,x=(some (prR s w),0)from h2);rfl
theorem R_Open (l:Lg)(hl:SmL l):F.el l=some (jOpen l):=by
 obtain⟨x,h1,h2⟩:=R_read l hl
 unfold F.el jOpen
 rw[show F.bT l=some x from h1,Option.bind_some]
 unfold rdR at h2
 cases hs:(jwh l).1 with
 |none=>rw[hs]at h2;obtain rfl:=(show x=(none,(jwh l).2)from h2);exact if_pos (jwh_none hs)
 |some s=>
  rw[hs]at h2;obtain⟨w,rfl⟩:=(show ∃w,x=(some (prR s w),0)from h2)
  show(if(bif decide ((0:Int)≠0)then true else !s.op.isSome)=true then _ else some (s.op.getD w,true))=_
  simp only
  cases ho:s.op<;>rfl
theorem R_Turns (l:Lg)(hl:SmL l):F.d4 l=some (jTurns l):=by
 obtain⟨x,h1,h2⟩:=R_read l hl
 unfold F.d4 jTurns
 rw[show F.bT l=some x from h1,Option.bind_some]
 unfold rdR at h2
 cases hs:(jwh l).1 with
 |none=>rw[hs]at h2;obtain rfl:=(show x=(none,(jwh l).2)from h2);exact if_pos (jwh_none hs)
 |some s=>
  rw[hs]at h2;obtain⟨w,rfl⟩:=(show ∃w,x=(some (prR s w),0)from h2)
  obtain⟨J,e0,hr,hc⟩:=jwh_some hl hs
  have hl2:=hl.len;have hj:=J.len
  show(if(0:Int)≠0 then some []else F.bN (prR s w) A.FU [] 0)=_
  rw[if_neg (fun k=>k rfl)]
  exact A.lp s.hs (fun f (xs:List (Dl×Int)) y=>F.bN (prR s w) f xs y) (fun k r xs=>some (xs++r.map tn)) (fun k xs=>xs.length=k)
   (fun f xs _=>by
    rw[F.bN,if_neg (by show ¬(bif decide ((s.hs.length:Int)<((s.hs.map _).length:Int))then _ else _)=true;rw[List.length_map];simp),List.map_nil,List.append_nil])
   (fun f xs k x hx hk hxs ih=>by
    rw[F.bN,if_pos (by show(bif decide ((k:Int)<((s.hs.map _).length:Int))then decide ((k:Int)<((s.hs.map _).length:Int))else _)=true;rw[List.length_map,List.length_map,decide_eq_true (by omega)];rfl)]
    rw[show A.ix (prR s w).2.2.2.2.2.2.2 (k:Int)=some x.2.2 from A.ixn (by show(s.hs.map _)[k]?=_;rw[List.getElem?_map,hx];rfl),Option.bind_some]
    rw[show A.ix (prR s w).2.2.2.2.2.2.1 (k:Int)=some x.2.1 from A.ixn (by show(s.hs.map _)[k]?=_;rw[List.getElem?_map,hx];rfl),Option.bind_some]
    rw[A.gd1 (by simp only[List.length_cons,List.length_nil];omega),A.gd1 (A.r64n (by omega))]
    refine(ih (xs++[tn x]) (by rw[List.length_append,hxs];rfl)).trans ?_
    rw[List.map_cons,List.append_assoc xs];rfl)
   (by have:=FU_big;omega) [] rfl
theorem turns_sz {l:Lg}(hl:SmL l):(jTurns l).length≤1000∧∀x∈jTurns l,SzD x.1:=by
 unfold jTurns
 cases hs:(jwh l).1 with
 |none=>exact⟨by simp,fun x hx=>by cases hx⟩
 |some s=>
  have J:=(jwh_some hl hs).1
  refine⟨by rw[List.length_map];have:=J.len;have:=hl.len;omega,fun x hx=>?_⟩
  obtain⟨y,hy,rfl⟩:=List.mem_map.1 hx
  exact(J.chn.mem y hy).sz
theorem tells_l3 {g h:List Nd×Int×Int}{p q:Nt×Bool}{ts:List (Dl×Int)}(hl:ts.length≤1000)(hz: ∀x∈ts,SzD x.1)(hE:F.l g h p q ts [] (ts.length:Int)=some true):
  ∀(n k:Nat),k+n=ts.length→F.l g h p q ts (nm k (ts.drop k)) (k:Int)=some true
 |0,k,hk=>by
  obtain rfl:k=ts.length:=by omega
  rw[List.drop_eq_nil_of_le (Nat.le_refl _)];exact hE
 |n+1,k,hk=>by
  have hx:ts[k]?=some ts[k]:=List.getElem?_eq_getElem (by omega)
  rw[A.dropx hx]
  unfold nm F.l
  rw[A.gd1 (show(decide ((ts.length:Int)≤(k:Int)))=false→Z.R64 ((k:Int)+1)from fun _=>A.r64n (by omega)),if_neg (by rw[A.bo,decide_eq_true_iff];rintro(h|h);omega;exact h rfl)]
  rw[A.ixn hx,Option.bind_some,if_neg (fun h=>h rfl),Option.bind_some]
  rw[show F.cb (((k:Int)+1,ts[k]).2.1.1,((k:Int)+1,ts[k]).2.1.2.1,((k:Int)+1,ts[k]).2.1.2.2) (ts[k].1.1,ts[k].1.2.1,ts[k].1.2.2)=some true from by
   rw[show F.cb (((k:Int)+1,ts[k]).2.1.1,((k:Int)+1,ts[k]).2.1.2.1,((k:Int)+1,ts[k]).2.1.2.2) (ts[k].1.1,ts[k].1.2.1,ts[k].1.2.2)=_ from R_SameD ts[k].1 ts[k].1 (hz _ (List.mem_of_getElem? hx)),decide_eq_true rfl],Option.bind_some,F.aN,Bool.not_true,if_neg Bool.false_ne_true,A.gd1 (A.r64n (by omega))]
  exact tells_l3 hl hz hE n (k+1) (by omega)
theorem jOpen_sm {l:Lg}(hl:SmL l):SmD (jOpen l).1.2.2.2.1:=by
 unfold jOpen
 cases hs:(jwh l).1 with
 |none=>exact smd_nil
 |some s=>
  simp only
  cases ho:s.op with
  |none=>exact smd_nil
  |some o=>exact((jwh_some hl hs).1.op o ho).1
theorem journalTells_plain {P Q:Prop}(l:Lg)(e:Int)(_:P)(_:Q):F.cc l e=some true:=by
 unfold F.cc
 rw[live22,Option.bind_some,if_neg (by simp),show F.eB l=_ from few22 l,Option.bind_some]
 cases h1:fewL l with
 |false=>rfl
 |true=>
  obtain⟨hl,hl2⟩:=fewL_sm h1
  rw[if_neg (by simp),show F.cl l e=_ from P_At l e hl,Option.bind_some,show F.eW l e=_ from R_At l e hl,Option.bind_some,R_Same_self (jAt_sml hl e),Option.bind_some,if_neg (by simp)]
  rw[show F.c7 l=_ from P_Now l hl,Option.bind_some,show F.eD l=_ from R_Now l hl,Option.bind_some,show F.cR l=_ from P_Open l hl,Option.bind_some,show F.el l=_ from R_Open l hl,Option.bind_some]
  obtain⟨z1,z2⟩:=turns_sz hl
  rw[show F.bs l=_ from P_Turns l hl,Option.bind_some,show F.d4 l=_ from R_Turns l hl,Option.bind_some,P_it _ (by omega),Option.bind_some]
  refine tells_l3 z1 z2 ?_ (jTurns l).length 0 (by omega)
  unfold F.l
  rw[if_pos rfl,R_Same_self (jNow_sml hl),Option.bind_some,if_pos (by simp)]
  have:=R_SameN (jOpen l).1 (jOpen l).1 (jOpen_sm hl)
  rw[decide_eq_true rfl]at this
  rw[show F.cS ((jOpen l).1.1,(jOpen l).1.2.1,(jOpen l).1.2.2.1,((jOpen l).1.2.2.2.1.1,(jOpen l).1.2.2.2.1.2.1,(jOpen l).1.2.2.2.1.2.2),(jOpen l).1.2.2.2.2) ((jOpen l).1.1,(jOpen l).1.2.1,(jOpen l).1.2.2.1,((jOpen l).1.2.2.2.1.1,(jOpen l).1.2.2.2.1.2.1,(jOpen l).1.2.2.2.1.2.2),(jOpen l).1.2.2.2.2)=some true from this,Option.bind_some,F.aO,cond_true,beq_self_eq_true]
end Go.Proofs.YtfdfcaiiengdfaaGreatDoor
end
section
namespace Go.Z
open Go.RowKit
def OpenT (P:Program)(T:TypeId)(t:Ty):Prop:=
 P.cellsOf T=t.size∧∀(H:Type) (enc:TypeId×Value→H) (w:World) (base:Nat) (spare:Nat→Bool) (held:Bool) (fuel:Nat) (cs:List Value) (x:DataW H×List MemPlace),
  DataW.trod enc P w base spare held fuel T cs=some x→∃y:t.den,t.rep w (nt []) cs y
section
variable {P:Program}{T e:TypeId}
theorem ot_int {k:IntKind}(hc:P.cellsOf T=1)(ht:P.underlying T=some (.int k)):OpenT P T (.int k):=⟨hc,fun H enc w base spare held fuel cs x h=>by
 obtain⟨n,rfl,_,hw⟩:=DataW.trod_int ht h
 refine⟨n,rfl,?_⟩
 simp only[Lit.wf,Bool.and_eq_true,decide_eq_true_eq]at hw
 exact hw⟩
theorem ot_str (hc:P.cellsOf T=1)(ht:P.underlying T=some .string):OpenT P T .str:=⟨hc,fun H enc w base spare held fuel cs x h=>by
 obtain⟨s,rfl,_,hs⟩:=DataW.trod_string ht h
 exact⟨s,rfl,hs⟩⟩
def OpenPs (P:Program):List (TypeId×Nat)→Nat→Ty→Prop
 | [],_,_=>False
 | [(T,o')],o,t=>o'=o∧OpenT P T t
 |(T,o')::p::ps,o,.pair a b=>o'=o∧OpenT P T a∧OpenPs P (p::ps) (o+a.size) b
 |_::_::_,_,_=>False
theorem open_ps {H:Type}{enc:TypeId×Value→H}{w:World}{base:Nat}{spare:Nat→Bool}{held:Bool}{fuel:Nat}{cs:List Value}:
  ∀(ps:List (TypeId×Nat)) (o:Nat) (t:Ty),OpenPs P ps o t→(∀p∈ps,∃x,DataW.trod enc P w base spare held fuel p.1 ((cs.drop p.2).take (P.cellsOf p.1))=some x)→∃y:t.den,t.rep w (nt []) ((cs.drop o).take t.size) y
 | [],_,_,h,_=>h.elim
 | [(T,o')],o,t,h,hx=>by
  obtain⟨rfl,⟨hc,ho⟩⟩:=h
  obtain⟨x,hx⟩:=hx (T,o') (List.mem_singleton.2 rfl)
  rw[←hc];exact ho _ _ _ _ _ _ _ _ _ hx
 |(T,o')::p::ps,o,.pair a b,h,hx=>by
  obtain⟨rfl,⟨hc,ho⟩,hr⟩:=h
  obtain⟨x,h1⟩:=hx (T,o') (List.mem_cons_self ..)
  obtain⟨ya,hya⟩:=ho _ _ _ _ _ _ _ _ _ h1
  obtain⟨yb,hyb⟩:=open_ps (p::ps) _ b hr fun q hq=>hx q (List.mem_cons_of_mem _ hq)
  refine⟨(ya,yb),_,_,?_,hya,hyb⟩
  show(cs.drop o').take (a.size+b.size)=_
  rw[hc,List.take_add,List.drop_drop]
 |_::_::_,_,.int _,h,_=>h.elim
 |_::_::_,_,.byte,h,_=>h.elim
 |_::_::_,_,.bool,h,_=>h.elim
 |_::_::_,_,.str,h,_=>h.elim
 |_::_::_,_,.slice _,h,_=>h.elim
theorem ot_struct {fs:List Field}{t:Ty}(hc:P.cellsOf T=t.size)(ht:P.underlying T=some (.struct fs.toArray))(h:OpenPs P (fs.map fun f=>(f.type,f.offset)) 0 t):OpenT P T t:=⟨hc,fun H enc w base spare held fuel cs x hx=>by
 obtain⟨xs,n,_,_,hl,hs,hf⟩:=DataW.trod_struct ht hx
 have hcs:cs=(cs.drop 0).take t.size:=by rw[List.drop_zero,List.take_of_length_le (by omega)]
 rw[hcs]
 refine open_ps (fuel:=n) (enc:=enc) (base:=base) (spare:=spare) (held:=held) _ 0 t h fun p hp=>?_
 obtain⟨f,hf1,rfl⟩:=List.mem_map.1 hp
 obtain⟨i,hi,he⟩:=List.getElem_of_mem hf1
 have h1:=hf i f (by rw[List.getElem?_toArray,List.getElem?_eq_getElem hi,he])
 rw[h1,List.getElem?_eq_getElem (by rw[hs];simpa using hi)]
 exact⟨_,rfl⟩⟩
theorem rows_of {t:Ty}{w:World}{g:Addr}: ∀(n:Nat),(∀i,i<n→∃(cs:List Value) (y:t.den),cs.length=t.size∧(∀j u,cs[j]?=some u→w.cell? (g.add (i*t.size+j))=some u)∧t.rep w (nt []) cs y)→
  ∃(cells:List Value) (ys:List t.den),ys.length=n∧cells.length=n*t.size∧(∀j u,cells[j]?=some u→w.cell? (g.add j)=some u)∧∀(i:Nat) (y:t.den),ys[i]?=some y→t.rep w (nt []) ((cells.drop (i*t.size)).take t.size) y
 |0,_=>⟨[],[],rfl,by simp,by simp,by simp⟩
 |n+1,h=>by
  obtain⟨cells,ys,h1,h2,h3,h4⟩:=rows_of n fun i hi=>h i (by omega)
  obtain⟨cs,y,c1,c2,c3⟩:=h n (by omega)
  refine⟨cells++cs,ys++[y],by simp[h1],by rw[List.length_append,h2,c1,Nat.succ_mul],fun j u hj=>?_,?_⟩
  ·by_cases hlt:j<cells.length
   ·rw[List.getElem?_append_left hlt]at hj;exact h3 j u hj
   ·rw[List.getElem?_append_right (by omega)]at hj
    have:=c2 _ u hj
    rwa[h2,show n*t.size+(j-n*t.size)=j by omega]at this
  ·refine rep_append (xs:=ys) (ys:=[y]) (by rw[h2,h1]) h4 fun i y' hi=>?_
   have:i=0:=by have:=(List.getElem?_eq_some_iff.1 hi).1;simp at this;omega
   subst this
   simp at hi;subst hi
   rw[Nat.zero_mul,List.drop_zero,List.take_of_length_le (by omega)];exact c3
theorem ot_slice {t:Ty}(hc:P.cellsOf T=1)(ht:P.underlying T=some (.slice e))(h:OpenT P e t):OpenT P T (.slice t):=⟨hc,fun H enc w base spare held fuel cs x hx=>by
 rcases DataW.trod_slice ht hx with⟨rfl,_⟩|⟨ad,len,cap,elems,rest,n,_,rfl,_,hb,hl,hm,hlen,hel,_,_⟩
 ·exact⟨[],rep_nil _⟩
 ·have each: ∀i,i<len→∃(cs:List Value) (y:t.den),cs.length=t.size∧(∀j u,cs[j]?=some u→w.cell? (ad.add (i*t.size+j))=some u)∧t.rep w (nt []) cs y:=fun i hi=>by
   have h1:=hel i hi
   rw[List.getElem?_eq_getElem (by omega),Option.bind_eq_some_iff]at h1
   obtain⟨cs',h2,h3⟩:=h1
   obtain⟨_,h4,h5⟩:=World.cells?_some h2
   obtain⟨y,hy⟩:=h.2 _ _ _ _ _ _ _ _ _ h3
   rw[h.1]at h4 h5
   refine⟨cs',y,h4,fun j u hj=>?_,hy⟩
   have hlt:=(List.getElem?_eq_some_iff.1 hj).1
   have:=h5 j (by omega)
   rw[add_add]at this
   rw[this,hj]
  obtain⟨cells,ys,h1,h2,h3,h4⟩:=rows_of len each
  by_cases hz:len=0
  ·subst hz
   have:ys=[]:=List.eq_nil_of_length_eq_zero h1
   subst this
   exact⟨[],some ad,cap,[],rfl,by simp,hm,by simp,.inl rfl,by simp⟩
  ·have hp:=pos_size t
   have hlt:0<cells.length:=by rw[h2];exact Nat.mul_pos (by omega) hp
   have h0:=h3 0 _ (List.getElem?_eq_getElem hlt)
   have hspot:=World.cell?_spot h0
   obtain⟨b,off,spot⟩:=ad
   simp only[Addr.add]at hspot
   subst hspot
   refine⟨ys,some ⟨b,off,none⟩,cap,cells,by rw[h1],by omega,hm,by rw[h1];exact h2,.inr ⟨b,off,rfl,by simp[nt],fun j u hj=>?_⟩,h4⟩
   have:=h3 j u hj
   rwa[Addr.add_lit]at this⟩
end
end Go.Z
end
section
namespace Go.Proofs.YtfdfcaiiengdfaaGreatDoor.journalTellsDone
open Go.ChangeShapes Go.WideShapes Go.ChangeAt Go.RowKit
set_option linter.unusedVariables false
theorem own:ownKnob Tryz.prog.godebug=none:=by kernel_rfl
theorem laidOut:laidOutB Tryz.prog=true:=by kernel_rfl
theorem ot3:Z.OpenT Tryz.prog 3 A.ti:=Z.ot_int (by kernel_rfl) Tryz.underlying3
theorem ot28:Z.OpenT Tryz.prog 28 A.TI:=Z.ot_slice (by kernel_rfl) Tryz.underlying28 ot3
theorem ot2:Z.OpenT Tryz.prog 2 A.ti:=Z.ot_int (by kernel_rfl) Tryz.underlying2
theorem ot9:Z.OpenT Tryz.prog 9 Z.Ty.str:=Z.ot_str (by kernel_rfl) Tryz.underlying9
theorem ot69:Z.OpenT Tryz.prog 69 T68:=Z.ot_struct (by kernel_rfl) Tryz.underlying69 ⟨rfl,ot3,rfl,ot2,rfl,ot9⟩
theorem ot71:Z.OpenT Tryz.prog 71 T70:=Z.ot_struct (by kernel_rfl) Tryz.underlying71 ⟨rfl,ot3,rfl,ot3,rfl,ot28,rfl,ot69,rfl,ot9,rfl,ot2,rfl,ot3⟩
theorem ot22:Z.OpenT Tryz.prog 22 (Z.Ty.slice T70):=Z.ot_slice (by kernel_rfl) Tryz.underlying22 ot71
theorem ot24:Z.OpenT Tryz.prog 24 T23:=Z.ot_struct (by kernel_rfl) Tryz.underlying24 ⟨rfl,ot22⟩
theorem ot95:Z.OpenT Tryz.prog 95 T94:=Z.ot_struct (by kernel_rfl) Tryz.underlying95 ⟨rfl,ot3,rfl,ot3,rfl,ot3,rfl,ot2,rfl,ot69⟩
theorem ot29:Z.OpenT Tryz.prog 29 (Z.Ty.slice T94):=Z.ot_slice (by kernel_rfl) Tryz.underlying29 ot95
theorem ot31:Z.OpenT Tryz.prog 31 T30:=Z.ot_struct (by kernel_rfl) Tryz.underlying31 ⟨rfl,ot28,rfl,ot22,rfl,ot29⟩
theorem ot32:Z.OpenT Tryz.prog 32 A.ti:=Z.ot_int (by kernel_rfl) Tryz.underlying32
theorem ot56:Z.OpenT Tryz.prog 56 T55:=Z.ot_struct (by kernel_rfl) Tryz.underlying56 ⟨rfl,ot3,rfl,ot2,rfl,ot2,rfl,ot31,rfl,ot32⟩
theorem ot25:Z.OpenT Tryz.prog 25 (Z.Ty.slice T55):=Z.ot_slice (by kernel_rfl) Tryz.underlying25 ot56
theorem ot27:Z.OpenT Tryz.prog 27 T26:=Z.ot_struct (by kernel_rfl) Tryz.underlying27 ⟨rfl,ot24,rfl,ot25⟩
set_option maxRecDepth 100000 in
theorem laid_met (os:Os)(args:Array Value):laidMetH Tryz.prog Rows.journalTellsRow.laid (({World.holding Tryz.prog os ⟨#[],#[],[]⟩with heap:=((World.holding Tryz.prog os ⟨#[],#[],[]⟩).heap.modify 0 (A.putCells A.tabF)).modify 1 (A.putCells A.tabA)}:World).forCall (fun _ _=>0) ⟨#[],args,[]⟩).memory:=by
 rw[MakeChecks.laidMetH_plain _ _ _ (by kernel_rfl)]
 exact(LaidIn.of_run (l:=Rows.journalTellsRow.laid) [1,0] 8 (by kernel_rfl) (by kernel_rfl) (by kernel_rfl) (by kernel_rfl)).met
theorem of_laid {W:World}(h:laidMetH Tryz.prog Rows.journalTellsRow.laid W):Lib.Utf8Tabs 0 1 W:=by
 rw[MakeChecks.laidMetH_plain _ _ _ (by kernel_rfl)]at h
 have h1:=Lib.laidMet.reads h (.tail _ (.head _))
 rw[show Rows.laid_unicode_utf8_first=Lib.firstData from Pinned.utf8First_eq]at h1
 have h2:=Lib.laidMet.reads h (.head _)
 rw[show(Rows.laid_unicode_utf8_acceptRanges:DataW Unit)=Lib.acceptData by kernel_rfl]at h2
 exact utf8Tabs_of_readsT (U8Types.of196 Tryz.laysValid) ⟨by kernel_rfl,by kernel_rfl,by kernel_rfl,by kernel_rfl,by kernel_rfl,by kernel_rfl,by kernel_rfl⟩ h1 h2
set_option maxHeartbeats 1000000 in
set_option maxRecDepth 100000 in
theorem lifted (os:Os)(started:os.Started)(H:Type)(enc:TypeId×Value→H):
  ReturnsInHanded {} Tryz.checked os 5 .any (fun w args=>(Rows.journalTellsSpec.pre enc Tryz.prog Tryz.f5 [] false w args∧laidMetH Tryz.prog Rows.journalTellsRow.laid w)∧sizedMet enc Tryz.prog Tryz.f5 (OpenSpec.ofChange Rows.journalTellsSpec) false w args) (Rows.journalTellsSpec.post enc Tryz.prog Tryz.f5 false true false false):=by
 refine returnsInHanded_of_change_and (C:=Tryz.checked) (X:=fun w _=>laidMetH Tryz.prog Rows.journalTellsRow.laid w) (fun _ _ _ hh h=>h.of_heap hh) own started (by kernel_rfl) Tryz.func5
  (ChangeSpec.witness_shaped (enc:=enc) (C:=Tryz.checked) (os:=os) (X:=fun w _=>laidMetH Tryz.prog Rows.journalTellsRow.laid w) false ({World.holding Tryz.prog os ⟨#[],#[],[]⟩with heap:=((World.holding Tryz.prog os ⟨#[],#[],[]⟩).heap.modify 0 (A.putCells A.tabF)).modify 1 (A.putCells A.tabA)}) #[.agg #[.slice none 0 0,.slice none 0 0],A.i 0] 16 rfl (World.shaped_of_RefB (by kernel_rfl) (by kernel_rfl)) (by kernel_rfl) (by kernel_rfl) (by kernel_rfl) (laid_met os _)) ?_
 intro W base args ds gs before hval0 hW hcnd _ hL _
 have hval: ∀(j:Nat) t v,Tryz.f5.params[j]?=some t→args[j]?=some v→Value.okWide Tryz.prog W .any base t v:=hval0
 have hW':=hW
 obtain⟨p,q,hA0,hV,rfl,hfz,hnd⟩:=hW
 have hA:DataW.TrodAll enc Tryz.prog W 0 (fun _=>true) true Tryz.f5.params.toList args.toList ds p:=hA0
 rw[Tryz.params5]at hA hval
 obtain⟨v0,vs0,d0,ds0,p0,q0,hargs,rfl,rfl,h0,r0⟩:=trodAll_cons hA
 obtain⟨v1,vs1,d1,ds1,p1,q1,rfl,rfl,rfl,h1,r1⟩:=trodAll_cons r0
 obtain⟨rfl,rfl,rfl⟩:=trodAll_nil r1
 obtain rfl:args=#[v0,v1]:=by cases args;simp_all
 obtain⟨rfl,rfl⟩:=trodVars_none hV
 have k0:=h0
 have lt0: ∀x∈p0,x.block<W.heap.size:=by obtain⟨m,hm⟩:=k0;exact DataW.trod_lt m _ _ _ hm
 obtain⟨fu0,hf0⟩:=h0
 obtain⟨x0,hx0⟩:=ot27.2 _ _ _ _ _ _ _ _ _ hf0
 obtain⟨cs0,rfl,_⟩:=okWide_struct Tryz.underlying27 (hval 0 27 v0 rfl rfl)
 replace hx0:T26.rep W (Z.nt []) cs0.toList x0:=hx0
 have hok0:=Z.rep_ok _ hx0
 obtain⟨ca1,cb2,he3,hr4,hr5⟩:=hx0
 obtain⟨A6,c7,he8,hn9,hn10⟩:=Z.rep_slice hr4
 rw[he8]at hr4
 have hle_A6:=Z.rep_le hr4
 obtain⟨A11,c12,he13,hn14,hn15⟩:=Z.rep_slice hr5
 rw[he13]at hr5
 have hle_A11:=Z.rep_le hr5
 have he0:cs0.toList=[.slice A6 x0.1.length c7,.slice A11 x0.2.length c12]:=by simp only[he3,he8,he13,List.cons_append,List.nil_append]
 obtain rfl:cs0=#[.slice A6 x0.1.length c7,.slice A11 x0.2.length c12]:=by rw[←Array.toArray_toList (xs:=cs0),he0]
 have k1:=h1
 have lt1: ∀x∈p1,x.block<W.heap.size:=by obtain⟨m,hm⟩:=k1;exact DataW.trod_lt m _ _ _ hm
 obtain⟨fu1,hf1⟩:=h1
 obtain⟨x1,hx1⟩:=ot2.2 _ _ _ _ _ _ _ _ _ hf1
 obtain⟨u1,rfl⟩:=okWide_int Tryz.underlying2 (hval 1 2 v1 rfl rfl)
 have he1:=hx1.1
 replace he1:u1=x1:=by simpa[Value.cells] using he1
 subst he1
 have hok1:=hx1.2
 clear hA0 hval0
 have htab:=of_laid hL
 have hF:F.cc x0 u1=some true:=journalTells_plain x0 u1 hok0 hok1
 have hct:=o_ay A6 A11 c7 c12 x0 u1 hok1 true hF
 refine(hct W (fun _=>True) (A.Hp.start ⟨A.Hall.sh hr4,A.Hall.sh hr5,A.Hall.tabs htab⟩)).mono ?_
 rintro e W' ⟨v,H',rfl,⟨rfl,rfl⟩,hh⟩
 have bel:=hh.ch.below
 exact⟨_,rfl,_,_,_,[],_,[],hW',trodAll_mk1 (shut_bool Tryz.underlying4 _),(trodAll_cons_mk (Below.trod laidOut (by kernel_rfl) (of_decide_eq_true (by kernel_rfl)) k0 bel lt0) (trodAll_cons_mk (Below.trod laidOut (by kernel_rfl) (of_decide_eq_true (by kernel_rfl)) k1 bel lt1) trodAll_mk0)),rfl,bel.frame _,fun h=>by cases h⟩
theorem over:Rows.journalTellsRow.holds Tryz.pinned (OpenSpec.ofChange Rows.journalTellsSpec):=
 OpenClaim.holds_of_wide 5 Tryz.f5 rfl rfl rfl rfl rfl rfl rfl ⟨rfl,rfl,rfl,rfl,rfl⟩ rfl rfl rfl rfl rfl (by kernel_rfl) Tryz.func5 (by kernel_rfl)
  (of_decide_eq_true (by kernel_rfl)) (by unfold Func.isWrapper;first|(rw[if_pos (by decide+kernel)];kernel_rfl)|(rw[if_neg (by decide+kernel)];exact⟨rfl,rfl⟩))
  (fun os started H enc _=>lifted os started H enc)
theorem proved:Rows.JournalTellsCardSaid:=
 Claim7.holds_tied_plain_at .later [] [.data,.pinned] true (true,"dcf9895dc01dd190c890d480028fc795193f40708716d6b48c7f1189faf6d443") false
  over (fun _ h=>by cases h) (by kernel_rfl) (fun _ h=>by cases h) journalTells_row_tie rfl ⟨rfl,rfl⟩ (by kernel_rfl) rfl
  (fun f fn hf hfn=>by
   obtain rfl:f=5:=Option.some.inj ((show Tryz.prog.funcNamed Rows.journalTellsRow.func=some 5 by kernel_rfl).symm.trans hf) |>.symm
   obtain rfl:fn=Tryz.f5:=(Option.some.inj (Tryz.func5.symm.trans hfn)).symm
   exact⟨by kernel_rfl,fun j t ht=>by
    rw[Tryz.params5]at ht
    have hm:t∈[27,2]:=by simpa using Array.mem_of_getElem? ht
    have hall:([27,2].all fun u=> !Tryz.prog.wantsStandIn u)=true:=by kernel_rfl
    exact(show Tryz.prog.wantsStandIn t=false by simpa using List.all_eq_true.1 hall t hm)⟩)
  (by kernel_rfl)
#print axioms proved
end Go.Proofs.YtfdfcaiiengdfaaGreatDoor.journalTellsDone
end
