/- The law 'SchemaNothing' as it is given: whatever the input, the call returns true, and each argument reads behind it as it read before. No condition but that utf8's two tables hold what the library's text lays, which the card ties. -/
import Derived.Test.YtlhiofnikdppeaaGreatDoorK5
import Derived.Test.YtlhiofnikdppeaaGreatDoorK4
import Derived.Test.YtlhiofnikdppeaaGreatDoorK0
import Derived.OpenShut
import Derived.ShutString
import Derived.ChangeOld
import Derived.ChangeArms
import Derived.DataReads
import Derived.Test.YtlhiofnikdppeaaGreatDoorRows
import Derived.Test.YtlhiofnikdppeaaGreatDoorTie
import Derived.Test.YtlhiofnikdppeaaGreatDoorCards
import Derived.WalkKit
import Derived.ProofKit
import Derived.Below
import Derived.LaidMore
import Derived.Stop.Joined
import Derived.SevenTiedAt
import Derived.Lib.LaidIn
import Derived.Lib.LaidU8T
import Derived.PinnedBridge
import Derived.SizedLaws
set_option linter.unusedVariables false
set_option linter.unusedSimpArgs false
set_option synthInstance.maxSize 1000000
set_option synthInstance.maxHeartbeats 400000
section
namespace Go.Proofs.YtlhiofnikdppeaaGreatDoor
open Go.RowKit Go.Graph
inductive Rch {α:Type} (R:α→α→Prop) (a:α):α→Prop
 |one {b:α} (h:R a b):Rch R a b
 |step {b c:α} (h:Rch R a b) (h2:R b c):Rch R a c
theorem Qeb (g:List Nd)(d:List Int)(id:Int): ∀(k:Nat) (l:List Int) (p:Pl) (v:Int),(p,v)∈insS g d id k l→p.1=id∧(k:Int)≤p.2∧p.2<(k:Int)+l.length
 |_,[],_,_,h=>by cases h
 |k,z::r,p,v,h=>by
  unfold insS at h
  rw[Qd]
  rcases Qg.1 h with h|h
  ·injection h with E H;subst E;refine⟨rfl,Yo _,?_⟩;simp only[];omega
  ·have:=Qeb g d id (k+1) r p v h;omega
theorem Qem (g:List Nd)(d:List Int)(id:Int): ∀(k:Nat) (l:List Int),((insS g d id k l).map (·.1)).Nodup
 |_,[]=>Xq
 |k,z::r=>by
  unfold insS
  rw[Qv,Q8]
  refine⟨fun h=>?_,Qem g d id (k+1) r⟩
  obtain⟨⟨p,v⟩,H,E⟩:=Wh.1 h
  have:=Qeb g d id (k+1) r p v H
  simp only[]at E
  rw[E]at this;simp only[]at this;omega
theorem Qel {g:List Nd}(d:List Int): ∀(k:Nat) (l:List Nd) (sp:Sp),sp∈spotsF g d k l→∃n∈l,n.1=sp.1.1
 |_,[],_,h=>by cases h
 |k,n::r,sp,h=>by
  unfold spotsF at h
  rcases Qu.1 h with h|h
  ·exact⟨n,Qf ..,(Qeb g d n.1 0 _ sp.1 sp.2 h).1.symm⟩
  ·rcases Qu.1 h with h|h
   ·unfold outS at h
    split at h
    ·rw[Qi]at h;subst h;exact⟨n,Qf ..,rfl⟩
    ·cases h
   ·obtain⟨m,E,H⟩:=Qel d (k+1) r sp h
    exact⟨m,Qb _ E,H⟩
theorem Qda {g:List Nd}(d:List Int): ∀(k:Nat) (l:List Nd),l.Pairwise (fun a b=>a.1<b.1)→(∀n∈l,n.2.2.1.length≤2)→((spotsF g d k l).map (·.1)).Nodup
 |_,[],_,_=>Xq
 |k,n::r,hp,O=>by
  rw[Qo]at hp
  have V:=O n (Qf ..)
  unfold spotsF
  rw[Xb,Wr,Xb,Wr]
  have hrest: ∀p∈(spotsF g d (k+1) r).map (·.1),p.1≠n.1:=fun p E e=>by
   obtain⟨sp,J,rfl⟩:=Wh.1 E
   obtain⟨m,H,W⟩:=Qel d (k+1) r sp J
   have:=hp.1 m H;omega
  have hout: ∀p∈(outS n (iget d (k:Int))).map (·.1),p=(n.1,2):=fun p E=>by
   unfold outS at E
   split at E
   ·simpa using E
   ·cases E
  have L: ∀p∈(insS g d n.1 0 n.2.2.1).map (·.1),p.1=n.1∧p.2<2:=fun p E=>by
   obtain⟨⟨q,v⟩,J,rfl⟩:=Wh.1 E
   have:=Qeb g d n.1 0 _ q v J
   simp only[];omega
  refine⟨Qem g d n.1 0 _,⟨?_,Qda d (k+1) r hp.2 (fun x Q=>O x (Qb _ Q)),?_⟩,?_⟩
  ·unfold outS;split<;>simp
  ·intro a N b I e
   have H:=hout a N
   subst e
   exact hrest a I (by rw[H])
  ·intro a N b I e
   subst e
   have H:=L a N
   rcases Qu.1 I with I|I
   ·have:=hout a I;rw[this]at H;simp only[]at H;omega
   ·exact hrest a I H.1
theorem useN_mem (id nd:Int): ∀(k:Nat) (l:List Int) (u:Pl),u∈useN id nd k l→u.1=nd∧∃j:Nat,u.2=(k:Int)+j∧j<l.length
 |_,[],u,h=>by cases h
 |k,z::r,u,h=>by
  unfold useN at h
  have hrec:u∈useN id nd (k+1) r→u.1=nd∧∃j:Nat,u.2=(k:Int)+j∧j<(z::r).length:=fun h=>by
   obtain⟨E,j,H,I⟩:=useN_mem id nd (k+1) r u h
   exact⟨E,j+1,by omega,by rw[Qd];omega⟩
  split at h
  ·rcases Qg.1 h with rfl|h
   ·exact⟨rfl,0,by simp,by rw[Qd];omega⟩
   ·exact hrec h
  ·exact hrec h
theorem insS_get (g:List Nd)(d:List Int)(id:Int): ∀(k:Nat) (l:List Int) (j:Nat),j<l.length→∃v,((id,(k:Int)+j),v)∈insS g d id k l
 |_,[],j,h=>by simp at h
 |k,z::r,j,h=>by
  unfold insS
  cases j with
  |zero=>exact⟨iget d (idx g z),by simp⟩
  |succ j=>
   rw[Qd]at h
   obtain⟨v,E⟩:=insS_get g d id (k+1) r j (by omega)
   refine⟨v,Qb _ ?_⟩
   have e:(k:Int)+((j+1:Nat):Int)=((k+1:Nat):Int)+(j:Int):=by omega
   rw[e];exact E
theorem Qew {g:List Nd}(d:List Int): ∀(k:Nat) (l:List Nd) (n:Nd),n∈l→∀sp∈insS g d n.1 0 n.2.2.1,sp∈spotsF g d k l
 |_,[],_,h,_,_=>by cases h
 |k,m::r,n,h,sp,hs=>by
  unfold spotsF
  rcases Qg.1 h with rfl|h
  ·exact We _ hs
  ·exact Wg _ (Wg _ (Qew d (k+1) r n h sp hs))
theorem Qfe {g:List Nd}(d:List Int): ∀(k:Nat) (l:List Nd) (n:Nd),n∈l→n.2.1≠15→∃v,((n.1,2),v)∈spotsF g d k l
 |_,[],_,h,_=>by cases h
 |k,m::r,n,h,E=>by
  unfold spotsF
  rcases Qg.1 h with rfl|h
  ·exact⟨iget d (k:Int),Wg _ (We _ (by unfold outS;rw[if_pos E];simp))⟩
  ·obtain⟨v,H⟩:=Qfe d (k+1) r n h E
   exact⟨v,Wg _ (Wg _ H)⟩
theorem Qhu (id:Int): ∀(l:List Nd) (u:Pl),u∈Qbc id l→∃n∈l,u.1=n.1∧∃j:Nat,u.2=(j:Int)∧j<n.2.2.1.length
 | [],u,h=>by cases h
 |n::r,u,h=>by
  unfold Qbc at h
  rcases Qu.1 h with h|h
  ·obtain⟨E,j,H,I⟩:=useN_mem id n.1 0 _ u h
   exact⟨n,Qf ..,E,j,by omega,I⟩
  ·obtain⟨m,E,H⟩:=Qhu id r u h
   exact⟨m,Qb _ E,H⟩
theorem inE_mem (g:List Nd)(d:List Int)(n:Nd): ∀(k:Nat) (l:List Int) (e:Ed),e∈inE g d n k l→e.1.1=n.1∧(k:Int)≤e.1.2∧e.1.2<(k:Int)+l.length∧e.2.1=(n.1,2)
 |_,[],_,h=>by cases h
 |k,z::r,e,h=>by
  unfold inE at h
  rw[Qd]
  rcases Qg.1 h with rfl|h
  ·refine⟨rfl,Yo _,?_,rfl⟩;simp only[];omega
  ·have:=inE_mem g d n (k+1) r e h
   refine⟨this.1,by omega,by omega,this.2.2.2⟩
theorem Qbn {g:List Nd}(d:List Int): ∀(k:Nat) (l:List Nd) (e:Ed),e∈Qaw g d k l→∃n∈l,e.1.1=n.1∧((n.2.1≠15∧e.2.1=(n.1,2)∧0≤e.1.2∧e.1.2<n.2.2.1.length)∨(e.1.2=2∧∃m∈g,e.2.1.1=m.1∧∃j:Nat,e.2.1.2=(j:Int)∧j<m.2.2.1.length))
 |_,[],_,h=>by cases h
 |k,n::r,e,h=>by
  unfold Qaw at h
  have hrec:e∈Qaw g d (k+1) r→∃m∈n::r,e.1.1=m.1∧((m.2.1≠15∧e.2.1=(m.1,2)∧0≤e.1.2∧e.1.2<m.2.2.1.length)∨(e.1.2=2∧∃q∈g,e.2.1.1=q.1∧∃j:Nat,e.2.1.2=(j:Int)∧j<q.2.2.1.length)):=fun h=>by
   obtain⟨m,E,H⟩:=Qbn d (k+1) r e h
   exact⟨m,Qb _ E,H⟩
  split at h
  ·exact hrec h
  ·rename_i I
   rcases Qu.1 h with h|h
   ·obtain⟨E,H,N,J⟩:=inE_mem g d n 0 _ e h
    exact⟨n,Qf ..,E,.inl ⟨I,J,by omega,by omega⟩⟩
   ·rcases Qu.1 h with h|h
    ·unfold outE at h
     obtain⟨u,L,rfl⟩:=Wh.1 h
     obtain⟨m,E,H⟩:=Qhu n.1 g u L
     exact⟨n,Qf ..,rfl,.inr ⟨rfl,m,E,H⟩⟩
    ·exact hrec h
theorem edge_to {g:List Nd}(d:List Int){e:Ed}(H:e∈edges g d): ∃v,(e.2.1,v)∈spots g d:=by
 obtain⟨n,I,Q,h|h⟩:=Qbn d 0 g e H
 ·obtain⟨v,E⟩:=Qfe d 0 g n I h.1
  exact⟨v,by rw[h.2.1];exact E⟩
 ·obtain⟨_,m,J,L,j,N,O⟩:=h
  obtain⟨v,E⟩:=insS_get g d m.1 0 m.2.2.1 j O
  refine⟨v,Qew d 0 g m J _ ?_⟩
  have e1:e.2.1=(m.1,((0:Nat):Int)+(j:Int)):=Prod.ext L (by rw[N];simp)
  rw[e1];exact E
theorem Qha {g:List Nd}(d:List Int){e:Ed}(E:e∈edges g d): ∃n∈g,e.1.1=n.1:=by
 obtain⟨n,H,I,_⟩:=Qbn d 0 g e E
 exact⟨n,H,I⟩
theorem edge_out {g:List Nd}(d:List Int)(E:Own g){e:Ed}(H:e∈edges g d)(N:e.2.1.2=2):e.1.1=e.2.1.1∧e.1.2≠2:=by
 obtain⟨n,I,J,h|h⟩:=Qbn d 0 g e H
 ·have:=in2 E I
  exact⟨by rw[J,h.2.1],by omega⟩
 ·obtain⟨_,m,L,_,j,O,Q⟩:=h
  have:=in2 E L
  omega
theorem atS_mem {p:Pl}: ∀{l:List Sp} {v:Int},(l.map (·.1)).Nodup→(p,v)∈l→atS p l=v
 | [],_,_,h=>by cases h
 |x::r,v,E,h=>by
  rw[Qv,Q8]at E
  unfold atS
  rcases Qg.1 h with rfl|h
  ·rw[if_pos rfl]
  ·rw[if_neg (fun e=>E.1 (by rw[e];exact List.mem_map_of_mem (f:=(·.1)) h))]
   exact atS_mem E.2 h
theorem R_at_eq (l:List Sp)(p:Pl)(I:l.length≤100000):F.fs l p=some (atS p l):=
 A.lp0 l (fun f y=>F.ei l p f y) (fun _ t=>some (atS p t))
  (fun f=>by rw[F.ei,if_neg (by omega)];rfl)
  (fun f k x E hk H=>by
   rw[F.ei,if_pos (by omega),A.ixn E,Qa,Qa,atS]
   by_cases h:x.1=p
   ·rw[if_pos (show x.1=p from h),if_pos h]
   ·rw[if_neg (show ¬x.1=p from h),if_neg h,A.gd1 (A.r64n (by omega)),H])
  (by have:=Qab;omega)
theorem R_on_eq (l:List Pl)(p:Pl)(J:l.length≤100000):F.fd l p=some (decide (p∈l)):=
 A.lp0 l (fun f y=>F.ej l p f y) (fun _ t=>some (decide (p∈t)))
  (fun f=>by rw[F.ej,if_neg (by omega)];simp)
  (fun f k x H hk I=>by
   rw[F.ej,if_pos (by omega),A.ixn H,Qa]
   by_cases h:x=p
   ·rw[if_pos (show x=p from h)];simp[h]
   ·rw[if_neg (show ¬x=p from h),A.gd1 (A.r64n (by omega)),I]
    congr 1
    exact decide_eq_decide.2 ⟨fun E=>Qb _ E,fun E=>(Qg.1 E).resolve_left fun e=>h e.symm⟩)
  (by have:=Qab;omega)
def Qbo (g:List Nd)(S:List Sp)(dd:Int)(e:Ed):Bool:=decide (dd≤atS e.2.1 S)&&(decide ((find g e.1.1).1.2.1≠14)||decide ((find g e.1.1).1.2.2.2.2.2.2≠dd)||decide (e.1.2=2))
theorem R_open_eq (g:List Nd)(S:List Sp)(e:Ed)(dd:Int)(I:Few g)(E:Inc g)(J:S.length≤100000)(L: ∃n∈g,e.1.1=n.1):F.eD g S e dd=some (Qbo g S dd e):=by
 obtain⟨n,N,O⟩:=L
 obtain⟨j,H⟩:=Wm.1 N
 unfold F.eD Qbo
 rw[O,Find_eq g I E H,Qa,show F.fs S e.2.1=_ from R_at_eq S e.2.1 J,Qa,Qeh E H]
 by_cases h:dd≤atS e.2.1 S
 ·rw[if_pos h,decide_eq_true h,Wn]
  congr 1
 ·rw[if_neg h,decide_eq_false h,Yp]
def addR (g:List Nd)(S:List Sp)(dd:Int)(cur:Pl):List Ed→List Pl→List Pl
 | [],r=>r
 |e::t,r=>addR g S dd cur t (if e.1=cur∧Qbo g S dd e=true∧e.2.1∉r then r++[e.2.1]else r)
theorem round_l3 (g:List Nd)(S:List Sp)(E:List Ed)(from_:Sp)(H:List Pl→List Pl→Int→Option Bool)(y:Nat)(cur:Pl)(r:List Pl)(Y:Few g)(hi:Inc g)(hS:S.length≤100000)(hE:E.length≤5000)(hf: ∀e∈E,∃n∈g,e.1.1=n.1)(hc:(from_.1::r)[y]?=some cur)(hy:y≤10000)(hr:r.length≤9000)(hall: ∀k,(addR g S from_.2 cur (E.take k) r).length≤9000):
  F.bj H g S E from_ (y:Int) A.FU r (from_.1::r) 0=H (addR g S from_.2 cur E r) (from_.1::addR g S from_.2 cur E r) ((y:Int)+1):=
 A.lp E (fun f (s:List Pl×List Pl) i=>F.bj H g S E from_ (y:Int) f s.1 s.2 i) (fun k t s=>H (addR g S from_.2 cur t s.1) (from_.1::addR g S from_.2 cur t s.1) ((y:Int)+1)) (fun k s=>s.2=from_.1::s.1∧s.2[y]?=some cur∧s.1=addR g S from_.2 cur (E.take k) r)
  (fun f s hs=>by
   rw[F.bj,if_neg (by omega),A.gd1 (A.r64n (by omega)),hs.1];rfl)
  (fun f s k e L hk hs W=>by
   obtain⟨q,r'⟩:=s
   obtain⟨N,I,V⟩:=hs
   simp only[]at N I V
   have hlen:q.length≤9000:=by rw[V];exact hall _
   have hsnoc: ∀(t:List Ed) (e:Ed) (r:List Pl),addR g S from_.2 cur (t++[e]) r=(if e.1=cur∧Qbo g S from_.2 e=true∧e.2.1∉addR g S from_.2 cur t r then addR g S from_.2 cur t r++[e.2.1]else addR g S from_.2 cur t r):=by
    intro t
    induction t with
    |nil=>intro e r;rfl
    |cons x t iht=>intro e r;rw[W5,addR,addR];exact iht e _
   have hnext:addR g S from_.2 cur (E.take (k+1)) r=if e.1=cur∧Qbo g S from_.2 e=true∧e.2.1∉q then q++[e.2.1]else q:=by
    rw[Qbj L,hsnoc,←V]
   have hopen:=R_open_eq g S e from_.2 Y hi hS (hf e (Qh L))
   rw[F.bj,if_pos (by omega),A.ixn L,Qa,A.ixn I,Qa,addR]
   simp only[F.dm,F.eE,A.ixn L,Qa,A.gd1 (A.r64n (n:=k) (by omega)),Qs,if_false]
   have stay: ¬(e.1=cur∧Qbo g S from_.2 e=true∧e.2.1∉q)→F.bj H g S E from_ (y:Int) f q r' ((k:Int)+1)=H (addR g S from_.2 cur (E.drop (k+1)) (if e.1=cur∧Qbo g S from_.2 e=true∧e.2.1∉q then q++[e.2.1]else q)) (from_.1::addR g S from_.2 cur (E.drop (k+1)) (if e.1=cur∧Qbo g S from_.2 e=true∧e.2.1∉q then q++[e.2.1]else q)) ((y:Int)+1):=fun hn=>by
    rw[if_neg hn]at hnext ⊢
    exact W (q,r') ⟨N,I,hnext.symm⟩
   by_cases hcur:e.1=cur
   ·rw[if_pos (show e.1=cur from hcur),show F.eD g S e from_.2=_ from hopen,Qa]
    by_cases O:Qbo g S from_.2 e=true
    ·rw[if_pos O,show F.fd q e.2.1=_ from R_on_eq q e.2.1 (by omega),Qa]
     by_cases Q:e.2.1∈q
     ·rw[decide_eq_true Q,Wt,if_neg Q4]
      exact stay fun h=>h.2.2 Q
     ·have J:e.1=cur∧Qbo g S from_.2 e=true∧e.2.1∉q:=⟨hcur,O,Q⟩
      rw[decide_eq_false Q,Xl,if_pos rfl,A.gd1 (by simp only[Qd,Qm];omega),A.gd1 (by rw[N];simp only[Qd,Qm];omega),if_pos J]
      rw[if_pos J]at hnext
      refine W (q++[e.2.1],r'++[e.2.1]) ⟨?_,?_,hnext.symm⟩
      ·simp only[N,W5]
      ·simp only[]
       rw[Q5 (Qc.1 I).1];exact I
    ·rw[if_neg O]
     exact stay fun h=>O h.2.1
   ·rw[if_neg (show ¬e.1=cur from hcur)]
    exact stay fun h=>hcur h.1)
  (by have:=Qab;omega) (r,from_.1::r) ⟨rfl,hc,rfl⟩
def okE (g:List Nd)(S:List Sp)(E:List Ed)(dd:Int)(p q:Pl):Prop:=∃e∈E,e.1=p∧e.2.1=q∧Qbo g S dd e=true
theorem Qce (g:List Nd)(S:List Sp)(dd:Int)(cur:Pl): ∀(t:List Ed) (r:List Pl),∃x,addR g S dd cur t r=r++x∧(∀p∈x,∃e∈t,e.1=cur∧e.2.1=p∧Qbo g S dd e=true)∧(r.Nodup→(r++x).Nodup)∧(∀e∈t,e.1=cur→Qbo g S dd e=true→e.2.1∈r++x)
 | [],r=>⟨[],by rw[addR,Q9],by simp,by simp,by simp⟩
 |e::t,r=>by
  rw[addR]
  by_cases h:e.1=cur∧Qbo g S dd e=true∧e.2.1∉r
  ·rw[if_pos h]
   obtain⟨x,H,I,J,L⟩:=Qce g S dd cur t (r++[e.2.1])
   refine⟨e.2.1::x,by rw[H];simp,fun p hp=>?_,fun Q=>?_,fun e2 E a b=>?_⟩
   ·rcases Qg.1 hp with rfl|hp
    ·exact⟨e,Qf ..,h.1,rfl,h.2.1⟩
    ·obtain⟨e2,a,b⟩:=I p hp;exact⟨e2,Qb _ a,b⟩
   ·have:=J (Wr.2 ⟨Q,by simp,fun a V b N=>by rw[Qi]at N;subst N;intro e2;subst e2;exact h.2.2 V⟩)
    simpa using this
   ·rcases Qg.1 E with rfl|E
    ·simp
    ·have:=L e2 E a b;simpa using this
  ·rw[if_neg h]
   obtain⟨x,H,I,J,L⟩:=Qce g S dd cur t r
   refine⟨x,H,fun p hp=>?_,J,fun e2 E a b=>?_⟩
   ·obtain⟨e2,a,b⟩:=I p hp;exact⟨e2,Qb _ a,b⟩
   ·rcases Qg.1 E with rfl|E
    ·refine We _ ?_
     by_cases O:e2.2.1∈r
     ·exact O
     ·exact absurd ⟨a,b,O⟩ h
    ·exact L e2 E a b
theorem nodup_len {α:Type}[DecidableEq α]: ∀{l m:List α},l.Nodup→(∀x∈l,x∈m)→l.length≤m.length
 | [],m,_,_=>Xe _
 |a::l,m,E,h=>by
  rw[Q8]at E
  have H:=h a (Qf ..)
  have:=nodup_len (l:=l) (m:=m.erase a) E.2 fun x I=>(List.mem_erase_of_ne (fun e=>by subst e;exact E.1 I)).2 (h x (Qb _ I))
  rw[List.length_erase_of_mem H]at this
  have hpos:0<m.length:=List.length_pos_of_mem H
  rw[Qd];omega
theorem round_eq (g:List Nd)(S:List Sp)(E:List Ed)(from_:Sp)(hb:Few g)(hi:Inc g)(hS:S.length≤100000)(hE:E.length≤4000)(hf: ∀e∈E,∃n∈g,e.1.1=n.1):
  ∃b,F.eN g S E from_=some b∧(b=true↔Rch (okE g S E from_.2) from_.1 from_.1):=by
 have sub: ∀(r:List Pl),r.Nodup→(∀p∈r,∃e∈E,e.2.1=p)→r.length≤4000:=fun r I h=>by
  have:=nodup_len (m:=E.map fun e=>e.2.1) I fun p hp=>by obtain⟨e,O,N⟩:=h p hp;exact Wh.2 ⟨e,O,N⟩
  rw[Qr]at this;omega
 have main: ∀(n f y:Nat) (r:List Pl),y+n=4002→n<f→r.Nodup→y≤1+r.length→(∀p∈r,∃e∈E,e.2.1=p)→(∀p∈r,Rch (okE g S E from_.2) from_.1 p)→(∀i p q,i<y→(from_.1::r)[i]?=some p→okE g S E from_.2 p q→q∈r)→
   ∃b,F.d6 g S E from_ f r (from_.1::r) (y:Int)=some b∧(b=true↔Rch (okE g S E from_.2) from_.1 from_.1):=by
  intro n
  induction n with
  |zero=>
   intro f y r hy hf' I Q hsub _ _
   have:=sub r I hsub
   omega
  |succ n ih=>
   intro f y r hy hf' I Q hsub hreach hclosed
   obtain⟨f,rfl⟩: ∃f',f=f'+1:=⟨f-1,by omega⟩
   have hl:=sub r I hsub
   rw[F.d6]
   by_cases h:y<1+r.length
   ·obtain⟨cur,hcur⟩: ∃c,(from_.1::r)[y]?=some c:=⟨_,Qe (by rw[Qd];omega)⟩
    obtain⟨x,O,N,h3,h4⟩:=Qce g S from_.2 cur E r
    have hsub2: ∀p∈r++x,∃e∈E,e.2.1=p:=fun p hp=>by
     rcases Qu.1 hp with hp|hp
     ·exact hsub p hp
     ·obtain⟨e,a,_,b,_⟩:=N p hp;exact⟨e,a,b⟩
    have hall: ∀k,(addR g S from_.2 cur (E.take k) r).length≤9000:=fun k=>by
     obtain⟨x',a,b,c,_⟩:=Qce g S from_.2 cur (E.take k) r
     have:=sub (r++x') (c I) fun p hp=>by
      rcases Qu.1 hp with hp|hp
      ·exact hsub p hp
      ·obtain⟨e,a2,_,b2,_⟩:=b p hp;exact⟨e,Xw a2,b2⟩
     rw[a];omega
    rw[if_pos (by rw[Qd];omega),round_l3 g S E from_ _ y cur r hb hi hS (by omega) hf hcur (by omega) (by omega) hall,O]
    have e1:(y:Int)+1=((y+1:Nat):Int):=by omega
    rw[e1]
    have H:cur=from_.1∨Rch (okE g S E from_.2) from_.1 cur:=by
     cases y with
     |zero=>injection hcur with hcur;exact .inl hcur.symm
     |succ y=>exact .inr (hreach cur (Qh (by simpa using hcur)))
    refine ih f (y+1) (r++x) (by omega) (by omega) (h3 I) (by rw[Qj];omega) hsub2 (fun p hp=>?_) fun i p q hi2 hp J=>?_
    ·rcases Qu.1 hp with hp|hp
     ·exact hreach p hp
     ·obtain⟨e,a,b,c,d2⟩:=N p hp
      rcases H with H|H
      ·exact .one ⟨e,a,b.trans H,c,d2⟩
      ·exact .step H ⟨e,a,b,c,d2⟩
    ·rw[←W5,Q5 (by rw[Qd];omega)]at hp
     rcases Yq i y with Y|Y
     ·exact We _ (hclosed i p q Y hp J)
     ·obtain rfl:i=y:=by omega
      rw[hcur]at hp;injection hp with hp;subst hp
      obtain⟨e,a,b,c,d2⟩:=J
      rw[←c];exact h4 e a b d2
   ·rw[if_neg (by rw[Qd];omega),show F.fd r from_.1=_ from R_on_eq r from_.1 (by omega),Qa]
    refine⟨_,rfl,?_⟩
    rw[decide_eq_true_eq]
    refine⟨hreach _,fun hr=>?_⟩
    have V: ∀q,Rch (okE g S E from_.2) from_.1 q→q∈r:=fun q hq=>by
     induction hq with
     |one h6=>exact hclosed 0 _ _ (by omega) rfl h6
     |step h6 h7 W=>
      obtain⟨i,L⟩:=Wm.1 W
      have:=(Qc.1 L).1
      exact hclosed (i+1) _ _ (by omega) (by simpa using L) h7
    exact V _ hr
 exact main 4002 A.FU 0 [] (by omega) (by have:=Qab;omega) Xq (by simp) (by simp) (by simp) (fun i p q h=>by omega)
abbrev Seen:=List (Pl×Bool)
def seen (m:Seen)(v:Pl):Prop:=Z.mget false m v=true
def addP (deep:List Sp)(from_:Pl)(dd:Int):List Pl→Seen→List Pl→Option (Seen×List Pl)
 | [],m,xs=>some (m,xs)
 |t::r,m,xs=>if t=from_ then none else if dd≤Z.mget 0 deep t∧Z.mget false m t=false then addP deep from_ dd r (Z.mins m t true) (xs++[t])else addP deep from_ dd r m xs
theorem reaches_l3 (deep:List Sp)(from_:Pl)(dd:Int)(H:Seen→List Pl→Option Bool)(tos:List Pl)(m:Seen)(xs:List Pl)(V:tos.length≤4000)(W:xs.length≤10000):
  F.k H deep from_ dd tos A.FU m xs 0=match addP deep from_ dd tos m xs with
   |none=>some true
   |some s=>H s.1 s.2:=
 A.lp tos (fun f (s:Seen×List Pl) i=>F.k H deep from_ dd tos f s.1 s.2 i) (fun _ t s=>match addP deep from_ dd t s.1 s.2 with
   |none=>some true
   |some s=>H s.1 s.2) (fun k s=>s.2.length≤10000+k)
  (fun f s hs=>by rw[F.k,if_neg (by omega),addP])
  (fun f s k t Q hk hs L=>by
   rw[F.k,if_pos (by omega),A.ixn Q,Qa,addP,A.lt]
   simp only[F.a9,F.a8,A.lt,A.gd1 (A.r64n (n:=k) (by omega)),Qs,if_false]
   by_cases h:t=from_
   ·rw[if_pos (show t=from_ from h),if_pos h]
   ·rw[if_neg (show ¬t=from_ from h),if_neg h]
    by_cases I:dd≤Z.mget 0 deep t
    ·rw[if_pos (show dd≤Z.mget 0 deep t from I)]
     by_cases J:Z.mget false s.1 t=false
     ·have N:dd≤Z.mget 0 deep t∧Z.mget false s.1 t=false:=⟨I,J⟩
      rw[if_pos N,show Z.mget false s.1 t=false from J,Xl,if_pos rfl,A.gd1 (by simp only[Qd,Qm];omega)]
      exact L (Z.mins s.1 t true,s.2++[t]) (by simp only[Qj,Qd,Qm];omega)
     ·have O:Z.mget false s.1 t=true:=by cases E:Z.mget false s.1 t with
       |true=>rfl
       |false=>exact absurd E J
      have N: ¬(dd≤Z.mget 0 deep t∧Z.mget false s.1 t=false):=fun E=>J E.2
      rw[if_neg N,show Z.mget false s.1 t=true from O,Wt,if_neg Q4]
      exact L s (by omega)
    ·rw[if_neg (show ¬dd≤Z.mget 0 deep t from I),if_neg (fun E=>I E.1)]
     exact L s (by omega))
  (by have:=Qab;omega) (m,xs) (by simp only[];omega)
def un (T:List Pl)(m:Seen):Nat:=(T.filter fun t=> !(Z.mget false m t)).length
theorem un_ins {T:List Pl}{m:Seen}{t:Pl}(E:t∈T)(H:Z.mget false m t=false):un T (Z.mins m t true)+1≤un T m:=by
 unfold un
 have mono: ∀(l:List Pl),(l.filter fun t'=> !(Z.mget false (Z.mins m t true) t')).length≤(l.filter fun t'=> !(Z.mget false m t')).length:=by
  intro l
  induction l with
  |nil=>exact Qq _
  |cons a l I=>
   rw[Ww,Ww,Vl]
   by_cases e:a=t
   ·rw[if_pos e,e,H];simp only[Wt,Qs,if_false,Xl,if_true,Qd];omega
   ·rw[if_neg e];split<;>(try simp only[Qd])<;>omega
 induction T with
 |nil=>cases E
 |cons a l I=>
  rw[Ww,Ww,Vl]
  have:=mono l
  by_cases e:a=t
  ·rw[if_pos e,e,H];simp only[Wt,Qs,if_false,Xl,if_true,Qd];omega
  ·have:=I ((Qg.1 E).resolve_left fun h=>e h.symm)
   rw[if_neg e];split<;>(try simp only[Qd])<;>omega
theorem Qdm {deep:List Sp}{from_:Pl}{dd:Int}: ∀{tos:List Pl} {m:Seen} {xs:List Pl},addP deep from_ dd tos m xs=none→from_∈tos
 | [],_,_,h=>by cases h
 |t::r,m,xs,h=>by
  rw[addP]at h
  by_cases e:t=from_
  ·rw[e];exact Qf ..
  ·rw[if_neg e]at h
   split at h
   ·exact Qb _ (Qdm h)
   ·exact Qb _ (Qdm h)
theorem Qcf {m:Seen}{t v:Pl}:seen (Z.mins m t true) v↔v=t∨seen m v:=by
 unfold seen
 rw[Vl]
 by_cases e:v=t
 ·rw[if_pos e];simp[e]
 ·rw[if_neg e];simp[e]
theorem addP_some {deep:List Sp}{from_:Pl}{dd:Int}{T:List Pl}: ∀{tos:List Pl} {m m':Seen} {xs xs':List Pl},(∀t∈tos,t∈T)→addP deep from_ dd tos m xs=some (m',xs')→
  from_∉tos∧(∀v,seen m v→seen m' v)∧(∀v,seen m' v→seen m v∨(v∈tos∧dd≤Z.mget 0 deep v))∧(∀t∈tos,dd≤Z.mget 0 deep t→seen m' t)∧(∀v∈xs,v∈xs')∧(∀v∈xs',v∈xs∨seen m' v)∧(∀v,seen m' v→seen m v∨v∈xs')∧xs'.length+un T m'≤xs.length+un T m
 | [],m,m',xs,xs',_,h=>by
  injection h with h;injection h with Q E;subst Q;subst E
  exact⟨by simp,fun v h=>h,fun v h=>.inl h,by simp,fun v h=>h,fun v h=>.inl h,fun v h=>.inl h,Qq _⟩
 |t::r,m,m',xs,xs',O,h=>by
  rw[addP]at h
  by_cases e:t=from_
  ·rw[if_pos e]at h;cases h
  ·rw[if_neg e]at h
   by_cases N:dd≤Z.mget 0 deep t∧Z.mget false m t=false
   ·rw[if_pos N]at h
    obtain⟨a1,a2,a3,a4,a5,a6,a7,a8⟩:=addP_some (fun x H=>O x (Qb _ H)) h
    have V:=un_ins (O t (Qf ..)) N.2
    refine⟨fun E=>(Qg.1 E).elim (fun L=>e L.symm) a1,fun v I=>a2 v (Qcf.2 (.inr I)),fun v I=>?_,fun x H J=>?_,fun v I=>a5 v (We _ I),fun v I=>?_,fun v I=>?_,by rw[Qj]at a8;simp only[Qd,Qm]at a8;omega⟩
    ·rcases a3 v I with E|E
     ·rcases Qcf.1 E with rfl|L
      ·exact .inr ⟨Qf ..,N.1⟩
      ·exact .inl L
     ·exact .inr ⟨Qb _ E.1,E.2⟩
    ·rcases Qg.1 H with rfl|H
     ·exact a2 _ (Qcf.2 (.inl rfl))
     ·exact a4 x H J
    ·rcases a6 v I with E|E
     ·rcases Qu.1 E with E|E
      ·exact .inl E
      ·rw[Qi]at E;subst E;exact .inr (a2 _ (Qcf.2 (.inl rfl)))
     ·exact .inr E
    ·rcases a7 v I with E|E
     ·rcases Qcf.1 E with rfl|L
      ·exact .inr (a5 _ (Wg _ (Qi.2 rfl)))
      ·exact .inl L
     ·exact .inr E
   ·rw[if_neg N]at h
    obtain⟨a1,a2,a3,a4,a5,a6,a7,a8⟩:=addP_some (fun x H=>O x (Qb _ H)) h
    refine⟨fun E=>(Qg.1 E).elim (fun L=>e L.symm) a1,a2,fun v I=>?_,fun x H J=>?_,a5,a6,a7,a8⟩
    ·rcases a3 v I with E|E
     ·exact .inl E
     ·exact .inr ⟨Qb _ E.1,E.2⟩
    ·rcases Qg.1 H with rfl|H
     ·refine a2 _ ?_
      unfold seen
      cases E:Z.mget false m x with
      |true=>rfl
      |false=>exact absurd ⟨J,E⟩ N
     ·exact a4 x H J
def blk (g:List Nd)(dd:Int)(p:Pl):Prop:=(Z.mget ((0,0,[],(0,0,(ByteArray.mk #[])),(ByteArray.mk #[]),0,0):Nd) (mapOf g) p.1).2.1=14∧(Z.mget ((0,0,[],(0,0,(ByteArray.mk #[])),(ByteArray.mk #[]),0,0):Nd) (mapOf g) p.1).2.2.2.2.2.2=dd
def okP (g:List Nd)(steps:List (Pl×List Pl))(deep:List Sp)(dd:Int)(p q:Pl):Prop:=q∈Z.mget [] steps p∧¬blk g dd p∧dd≤Z.mget 0 deep q
theorem reaches_eq (g:List Nd)(a0:(List (Int×Nd))×(List Int)×(List (Int×Int)))(h0:a0.1=mapOf g)(steps:List (Pl×List Pl))(deep:List Sp)(from_:Pl)(dd:Int)(T:List Pl)(hT:T.length≤4000)(hst: ∀p q,q∈Z.mget [] steps p→q∈T)(hsl: ∀p,(Z.mget [] steps p).length≤4000)(hfd:dd≤Z.mget 0 deep from_):
  ∃b,F.aN a0 steps deep from_ dd=some b∧(b=true↔Rch (okP g steps deep dd) from_ from_):=by
 have main: ∀(n f:Nat) (m:Seen) (xs:List Pl),xs.length+un T m≤n→n<f→xs.length≤9000→xs.length+un T m≤9000→(∀v,seen m v→Rch (okP g steps deep dd) from_ v)→(∀t∈xs,t=from_∨seen m t)→(∀v,v=from_∨seen m v→v∉xs→∀w,okP g steps deep dd v w→w≠from_∧seen m w)→
   ∃b,F.l a0 steps deep from_ dd f m xs=some b∧(b=true↔Rch (okP g steps deep dd) from_ from_):=by
  intro n
  induction n with
  |zero=>
   intro f m xs hn hf hx900 _ W i2 L
   obtain⟨f,rfl⟩: ∃f',f=f'+1:=⟨f-1,by omega⟩
   have hx:xs=[]:=Q6 (by omega)
   subst hx
   rw[F.l,if_neg (by simp)]
   refine⟨false,rfl,fun h=>(by cases h),fun h=>?_⟩
   have N: ∀q,Rch (okP g steps deep dd) from_ q→q≠from_∧seen m q:=fun q hq=>by
    induction hq with
    |one h6=>exact L from_ (.inl rfl) (by simp) _ h6
    |step h6 h7 O=>exact L _ (.inr O.2) (by simp) _ h7
   exact absurd rfl (N _ h).1
  |succ n ih=>
   intro f m xs hn hf hx900 hu900 W i2 L
   obtain⟨f,rfl⟩: ∃f',f=f'+1:=⟨f-1,by omega⟩
   rw[F.l]
   by_cases Q:xs=[]
   ·subst Q
    rw[if_neg (by simp)]
    refine⟨false,rfl,fun h=>(by cases h),fun h=>?_⟩
    have N: ∀q,Rch (okP g steps deep dd) from_ q→q≠from_∧seen m q:=fun q hq=>by
     induction hq with
     |one h6=>exact L from_ (.inl rfl) (by simp) _ h6
     |step h6 h7 O=>exact L _ (.inr O.2) (by simp) _ h7
    exact absurd rfl (N _ h).1
   ·obtain⟨ys,at_,rfl⟩: ∃ys a,xs=ys++[a]:=⟨xs.dropLast,xs.getLast Q,(List.dropLast_concat_getLast Q).symm⟩
    have hl:(ys++[at_]).length=ys.length+1:=by simp
    have e1:(((ys++[at_]).length:Int)-1)=(ys.length:Int):=by rw[hl];omega
    have hat:(ys++[at_])[ys.length]?=some at_:=by simp
    rw[if_pos (by omega),A.gd1 ⟨by omega,by omega⟩,e1,A.ixn hat,Qa,A.gd1 ⟨by omega,by omega⟩,A.gd1 ⟨by omega,by rw[Qt];omega⟩,A.lt,F.bO,e1,Qt,A.ba,h0]
    have htake:List.take ys.length (ys++[at_])=ys:=by simp
    rw[htake]
    have hatr:at_=from_∨seen m at_:=i2 at_ (by simp)
    by_cases Y:blk g dd at_
    ·rw[if_pos (show decide ((Z.mget ((0,0,[],(0,0,(ByteArray.mk #[])),(ByteArray.mk #[]),0,0):Nd) (mapOf g) at_.1).2.1=14∧(Z.mget ((0,0,[],(0,0,(ByteArray.mk #[])),(ByteArray.mk #[]),0,0):Nd) (mapOf g) at_.1).2.2.2.2.2.2=dd)=true from decide_eq_true Y)]
     refine ih f m ys (by omega) (by omega) (by omega) (by omega) W (fun t ht=>i2 t (We _ ht)) fun v V I w J=>?_
     by_cases e:v=at_
     ·subst e;exact absurd Y J.2.1
     ·exact L v V (fun h=>by
       rcases Qu.1 h with h|h
       ·exact I h
       ·exact e (Qi.1 h)) w J
    ·rw[if_neg (show ¬decide ((Z.mget ((0,0,[],(0,0,(ByteArray.mk #[])),(ByteArray.mk #[]),0,0):Nd) (mapOf g) at_.1).2.1=14∧(Z.mget ((0,0,[],(0,0,(ByteArray.mk #[])),(ByteArray.mk #[]),0,0):Nd) (mapOf g) at_.1).2.2.2.2.2.2=dd)=true from fun h=>Y (by have h9:=of_decide_eq_true h;exact h9)),A.lt,show Z.mget [] steps at_=Z.mget [] steps at_ from rfl,reaches_l3 deep from_ dd _ _ m ys (hsl at_) (by omega)]
     cases hadd:addP deep from_ dd (Z.mget [] steps at_) m ys with
     |none=>
      have hfrom:=Qdm hadd
      have E:okP g steps deep dd at_ from_:=⟨hfrom,Y,hfd⟩
      refine⟨true,rfl,fun _=>?_,fun _=>rfl⟩
      rcases hatr with h|h
      ·rw[h]at E;exact .one E
      ·exact .step (W at_ h) E
     |some s=>
      obtain⟨m',xs'⟩:=s
      obtain⟨a1,a2,a3,a4,a5,a6,a7,a8⟩:=addP_some (T:=T) (hst at_) hadd
      simp only[]
      refine ih f m' xs' (by omega) (by omega) (by omega) (by omega) (fun v V=>?_) (fun t ht=>?_) fun v V I w J=>?_
      ·rcases a3 v V with h|h
       ·exact W v h
       ·have E:okP g steps deep dd at_ v:=⟨h.1,Y,h.2⟩
        rcases hatr with H|H
        ·rw[H]at E;exact .one E
        ·exact .step (W at_ H) E
      ·rcases a6 t ht with h|h
       ·rcases i2 t (We _ h)with H|H
        ·exact .inl H
        ·exact .inr (a2 t H)
       ·exact .inr h
      ·have hv2:v=from_∨seen m v:=by
        rcases V with h|h
        ·exact .inl h
        ·rcases a7 v h with H|H
         ·exact .inr H
         ·exact absurd H I
       by_cases e:v=at_
       ·subst e
        exact⟨fun h=>a1 (h▸J.1),a4 w J.1 J.2.2⟩
       ·obtain⟨h1,H⟩:=L v hv2 (fun h=>by
         rcases Qu.1 h with h|h
         ·exact I (a5 v h)
         ·exact e (Qi.1 h)) w J
        exact⟨h1,a2 w H⟩
 have hu:un T []≤T.length:=Xj _ _
 exact main (1+T.length) A.FU [] [from_] (by simp;omega) (by have:=Qab;omega) (by simp) (by simp;omega) (fun v h=>by cases h) (fun t ht=>.inl (Qi.1 ht)) (fun v V hx w J=>by
  rcases V with h|h
  ·exact absurd (Qi.2 h) hx
  ·cases h)
theorem mget_mem {p:Pl}: ∀{l:List Sp} {v:Int},(l.map (·.1)).Nodup→(p,v)∈l→Z.mget 0 l p=v
 | [],_,_,h=>by cases h
 |(a,w)::r,v,E,h=>by
  rw[Qv,Q8]at E
  unfold Z.mget
  rcases Qg.1 h with h|h
  ·injection h with H I;rw[if_pos H,I]
  ·rw[if_neg (fun e=>E.1 (by rw[←e];exact List.mem_map_of_mem (f:=(·.1)) h))]
   exact mget_mem E.2 h
theorem mhas_app {l:List Sp}{p:Pl}(h:p∉l.map (·.1)):Z.mhas l p=false:=by
 induction l with
 |nil=>rfl
 |cons a r E=>
  rw[Qv,Qg,not_or]at h
  obtain⟨q,v⟩:=a
  unfold Z.mhas
  rw[if_neg h.1];exact E h.2
def toOf (E:List Ed)(p:Pl):List Pl:=(E.filter fun e=>decide (e.1=p)).map fun e=>e.2.1
theorem turns_l2 (a0:(List (Int×Nd))×(List Int)×(List (Int×Int)))(S:List Sp)(E:List Ed)(N:E.length≤4000): ∃st,(∀p,Z.mget [] st p=toOf E p)∧F.ab a0 S E A.FU [] 0=A.mrg (F.aH a0 S st) (some false) S:=by
 have main: ∀(n k f:Nat) (m:List (Pl×List Pl)),k+n=E.length→n<f→(∀p,Z.mget [] m p=toOf (E.take k) p)→∃st,(∀p,Z.mget [] st p=toOf E p)∧F.ab a0 S E f m (k:Int)=A.mrg (F.aH a0 S st) (some false) S:=by
  intro n
  induction n with
  |zero=>
   intro k f m hk J H
   obtain⟨f,rfl⟩: ∃f',f=f'+1:=⟨f-1,by omega⟩
   rw[Q3 (by omega)]at H
   exact⟨m,H,by rw[F.ab,if_neg (by omega)]⟩
  |succ n L=>
   intro k f m hk J H
   obtain⟨f,rfl⟩: ∃f',f=f'+1:=⟨f-1,by omega⟩
   have I:E[k]?=some E[k]:=Qe (by omega)
   generalize E[k]=x at I
   have hlen:(Z.mget [] m x.1).length≤4000:=by
    rw[H];unfold toOf
    rw[Qr]
    have:=Xj (fun e:Ed=>decide (e.1=x.1)) (E.take k)
    rw[Qz]at this;omega
   rw[F.ab,if_pos (by omega),A.ixn I,Qa,A.gd1 (by rw[show Z.mget [] m x.1=Z.mget [] m x.1 from rfl];simp only[Qd,Qm];omega),A.gd1 (A.r64n (by omega))]
   refine L (k+1) f _ (by omega) (by omega) fun p=>?_
   rw[show Z.mins m x.1 (Z.mget [] m x.1++[x.2.1])=Z.mins m x.1 (Z.mget [] m x.1++[x.2.1])from rfl,Vl,Qbj I]
   unfold toOf
   rw[List.filter_append,Xb,Ww,List.filter_nil]
   by_cases e:p=x.1
   ·subst e
    rw[if_pos rfl,H,if_pos (decide_eq_true rfl)];rfl
   ·rw[if_neg e,H,if_neg (by simp only[decide_eq_true_eq];exact fun h=>e h.symm),W8,Q9];rfl
 exact main E.length 0 A.FU [] (by omega) (by have:=Qab;omega) (fun p=>rfl)
theorem turns_l3 (g:List Nd)(a0:(List (Int×Nd))×(List Int)×(List (Int×Int)))(S:List Sp)(E:List Ed)(Q:S.length≤4000)(L:(S.map (·.1)).Nodup)(N:F.a4 a0 g=some E):F.ar a0 g S A.FU [] 0=F.ab a0 S E A.FU [] 0:=
 A.lp S (fun f (m:List Sp) i=>F.ar a0 g S f m i) (fun _ _ _=>F.ab a0 S E A.FU [] 0) (fun k m=>m=S.take k)
  (fun f m H=>by
   rw[Q3 (Qq _)]at H
   rw[F.ar,if_neg (by omega),show F.a4 a0 g=some E from N,Qa,H])
  (fun f m k x I hk H O=>by
   rw[F.ar,if_pos (by omega),A.ixn I,Qa,A.gd1 (A.r64n (by omega))]
   refine O _ ?_
   rw[show Z.mins m x.1 x.2=Z.mins m x.1 x.2 from rfl,Qbz (mhas_app ?_),H,Qbj I]
   rw[H]
   intro h
   rw[List.map_take]at h
   have J:=L
   rw[←Xf k (S.map (·.1)),Wr]at J
   refine J.2.2 _ h _ ?_ rfl
   rw[←List.map_drop,A.dropx I,Qv];exact Qf ..)
  (by have:=Qab;omega) [] (by simp)
theorem nodeAt {g:List Nd}(E:Inc g){n:Nd}(I:n∈g)(z:Nd):Z.mget z (mapOf g) n.1=n∧find g n.1=(n,true):=by
 obtain⟨j,H⟩:=Wm.1 I
 exact⟨E.mget H,Qeh E H⟩
theorem mem_st {g:List Nd}{d:List Int}{st:List (Pl×List Pl)}(E: ∀p,Z.mget [] st p=toOf (edges g d) p){p q:Pl}:q∈Z.mget [] st p↔∃e∈edges g d,e.1=p∧e.2.1=q:=by
 rw[E];unfold toOf
 constructor
 ·intro h
  obtain⟨e,H,I⟩:=Wh.1 h
  obtain⟨J,L⟩:=Yd.1 H
  exact⟨e,J,of_decide_eq_true L,I⟩
 ·rintro⟨e,H,I,J⟩
  exact Wh.2 ⟨e,Yd.2 ⟨H,decide_eq_true I⟩,J⟩
theorem nodup_S {g:List Nd}{d:List Int}(E:Inc g)(H:Own g):((spots g d).map (·.1)).Nodup:=Qda d 0 g E fun n I=>in2 H I
theorem ok_iff {g:List Nd}{d:List Int}(L:Inc g)(V:Own g){dd:Int}{p q:Pl}:okE g (spots g d) (edges g d) dd p q↔(∃e∈edges g d,e.1=p∧e.2.1=q)∧dd≤Z.mget 0 (spots g d) q∧(¬blk g dd p∨p.2=2):=by
 have N:=nodup_S (d:=d) L V
 have key: ∀e∈edges g d,(Qbo g (spots g d) dd e=true↔dd≤Z.mget 0 (spots g d) e.2.1∧(¬blk g dd e.1∨e.1.2=2)):=fun e O=>by
  obtain⟨v,Q⟩:=edge_to d O
  obtain⟨n,W,E⟩:=Qha d O
  obtain⟨H,I⟩:=nodeAt L W ((0,0,[],(0,0,(ByteArray.mk #[])),(ByteArray.mk #[]),0,0):Nd)
  unfold Qbo blk
  rw[mget_mem N Q,atS_mem N Q,E,I,H,Qk,decide_eq_true_eq,Xx,Xx,decide_eq_true_eq,decide_eq_true_eq,decide_eq_true_eq]
  constructor
  ·rintro⟨a,(b|b)|b⟩
   ·exact⟨a,.inl fun h=>b h.1⟩
   ·exact⟨a,.inl fun h=>b h.2⟩
   ·exact⟨a,.inr b⟩
  ·rintro⟨a,b|b⟩
   ·by_cases c:n.2.1=14
    ·exact⟨a,.inl (.inr fun h=>b ⟨c,h⟩)⟩
    ·exact⟨a,.inl (.inl c)⟩
   ·exact⟨a,.inr b⟩
 constructor
 ·rintro⟨e,E,H,I,J⟩
  have:=(key e E).1 J
  rw[H,I]at this
  exact⟨⟨e,E,H,I⟩,this⟩
 ·rintro⟨⟨e,E,H,I⟩,J⟩
  refine⟨e,E,H,I,(key e E).2 ?_⟩
  rw[H,I];exact J
theorem rch_iff {g:List Nd}{d:List Int}{st:List (Pl×List Pl)}(Y:Inc g)(N:Own g)(J: ∀p,Z.mget [] st p=toOf (edges g d) p){dd:Int}{a:Pl}:Rch (okP g st (spots g d) dd) a a↔Rch (okE g (spots g d) (edges g d) dd) a a:=by
 have up: ∀{p q},okP g st (spots g d) dd p q→okE g (spots g d) (edges g d) dd p q:=fun {p q} h=>
  (ok_iff Y N).2 ⟨(mem_st J).1 h.1,h.2.2,.inl h.2.1⟩
 have down: ∀{p q},okE g (spots g d) (edges g d) dd p q→(p.2≠2∨¬blk g dd p)→okP g st (spots g d) dd p q:=fun {p q} h E=>by
  obtain⟨H,O,Q⟩:=(ok_iff Y N).1 h
  refine⟨(mem_st J).2 H,?_,O⟩
  rcases E with E|E
  ·exact Q.resolve_right E
  ·exact E
 have blk_same: ∀{p q:Pl},p.1=q.1→(blk g dd p↔blk g dd q):=fun {p q} e=>by unfold blk;rw[e]
 constructor
 ·intro h
  have: ∀b,Rch (okP g st (spots g d) dd) a b→Rch (okE g (spots g d) (edges g d) dd) a b:=fun b h=>by
   induction h with
   |one h=>exact .one (up h)
   |step _ E I=>exact .step I (up E)
  exact this a h
 ·intro h
  have key: ∀b,Rch (okE g (spots g d) (edges g d) dd) a b→Rch (okP g st (spots g d) dd) a b∨(a.2=2∧blk g dd a):=fun b h=>by
   induction h with
   |one h=>
    by_cases E:a.2=2∧blk g dd a
    ·exact .inr E
    ·exact .inl (.one (down h (by
      by_cases H:a.2=2
      ·exact .inr fun O=>E ⟨H,O⟩
      ·exact .inl H)))
   | @step b c _ E I=>
    rcases I with I|I
    ·refine .inl (.step I (down E ?_))
     by_cases H:b.2=2
     ·refine .inr fun O=>?_
      have hlast: ∃p,okP g st (spots g d) dd p b:=by cases I with
       |one h=>exact⟨_,h⟩
       |step _ h=>exact⟨_,h⟩
      obtain⟨p,hp⟩:=hlast
      obtain⟨e,Q,h6,V⟩:=(mem_st J).1 hp.1
      have L:=edge_out d N Q (by rw[V];exact H)
      rw[h6,V]at L
      exact hp.2.1 ((blk_same L.1).2 O)
     ·exact .inl H
    ·exact .inr I
  rcases key a h with E|⟨E,H⟩
  ·exact E
  ·have hlast: ∃p,okE g (spots g d) (edges g d) dd p a:=by cases h with
    |one h=>exact⟨_,h⟩
    |step _ h=>exact⟨_,h⟩
   obtain⟨p,hp⟩:=hlast
   obtain⟨⟨e,Q,h6,V⟩,_,W⟩:=(ok_iff Y N).1 hp
   have L:=edge_out d N Q (by rw[V];exact E)
   rw[h6,V]at L
   rcases W with W|W
   ·exact absurd ((blk_same L.1).2 H) W
   ·exact absurd W L.2
theorem Qhs {g:List Nd}(H:Own g)(I:g.length≤40)(d:List Int): ∀(m k:Nat),k+m=g.length→(Qaw g d k (g.drop k)).length≤83*m
 |0,k,h=>by rw[Q2 (by omega)];exact Qq 0
 |m+1,k,h=>by
  have E:g[k]?=some g[k]:=Qe (by omega)
  generalize g[k]=x at E
  have J:=in2 H (Qh E)
  have L:=Qbg x.1 g fun x E=>in2 H E
  have N:=Qhs H I d m (k+1) (by omega)
  rw[A.dropx E,Qaw]
  split
  ·omega
  ·rw[Qj,Qj,Qid,outE,Qr];omega
theorem Qeo {g:List Nd}(E:Own g)(d:List Int): ∀(k:Nat) (l:List Nd),(∀n∈l,n∈g)→∀sp∈spotsF g d k l,0≤sp.1.2∧sp.1.2≤2
 |_,[],_,_,h=>by cases h
 |k,n::r,H,sp,h=>by
  have J:=in2 E (H n (Qf ..))
  unfold spotsF at h
  rcases Qu.1 h with h|h
  ·have:=Qeb g d n.1 0 _ sp.1 sp.2 h;omega
  ·rcases Qu.1 h with h|h
   ·unfold outS at h
    split at h
    ·rw[Qi]at h;subst h;simp
    ·cases h
   ·exact Qeo E d (k+1) r (fun x I=>H x (Qb _ I)) sp h
theorem turns_same (g:List Nd)(d:List Int)(a0:(List (Int×Nd))×(List Int)×(List (Int×Int)))(h0:a0.1=mapOf g)(W:Few g)(Y:Inc g)(hfed:Fed g)(I:Own g)(N:InB d)(hr:RelD g d a0.2.2)(hd:d.length=g.length):
  ∃b,F.bx a0 g=some b∧(∀O Q,F.cH g O Q (spots g d) (edges g d) A.FU 0=some (if b=true then([],[],81)else(O.1,Q.1,0)))∧(b=true↔∃sp∈spots g d,Rch (okE g (spots g d) (edges g d) sp.2) sp.1 sp.1):=by
 have hlen:=W.1
 have hS:(spots g d).length≤120:=by
  have:=Qdp I d g.length 0 (by omega);rw[Wq]at this;unfold spots;omega
 have hE:(edges g d).length≤4000:=by
  have:=Qhs I hlen d g.length 0 (by omega);rw[Wq]at this;unfold edges;omega
 have hN:=nodup_S (d:=d) Y I
 have hok: ∀sp∈spots g d,SpOk g sp:=by
  have:=o_aQ (d:=d) (g:=g) N g.length 0 (by omega);rw[Wq]at this;exact this
 obtain⟨st,J,hl2⟩:=turns_l2 a0 (spots g d) (edges g d) hE
 have hto: ∀p q,q∈Z.mget [] st p→q∈(edges g d).map fun e=>e.2.1:=fun p q h=>by
  obtain⟨e,E,_,V⟩:=(mem_st J).1 h
  exact Wh.2 ⟨e,E,V⟩
 have htl: ∀p,(Z.mget [] st p).length≤4000:=fun p=>by
  rw[J];unfold toOf;rw[Qr]
  exact Wl (Xj _ _) hE
 have hval: ∀sp∈spots g d,∃b,F.aN a0 st (spots g d) sp.1 sp.2=some b∧F.eN g (spots g d) (edges g d) sp=some b∧(b=true↔Rch (okE g (spots g d) (edges g d) sp.2) sp.1 sp.1):=fun sp H=>by
  obtain⟨b,E,L⟩:=reaches_eq g a0 h0 st (spots g d) sp.1 sp.2 ((edges g d).map fun e=>e.2.1) (by rw[Qr];exact hE) hto htl (by rw[mget_mem hN (p:=sp.1) (v:=sp.2) H];exact Yo _)
  obtain⟨b',V,h4⟩:=round_eq g (spots g d) (edges g d) sp W Y (by omega) hE (fun e he=>Qha d he)
  refine⟨b,E,?_,L.trans (rch_iff Y I J)⟩
  rw[V];congr 1
  rw[Yx,h4,L]
  exact(rch_iff Y I J).symm
 let p:Sp→Bool:=fun sp=>(F.aN a0 st (spots g d) sp.1 sp.2).getD false
 have hp: ∀sp∈spots g d,(p sp=true↔Rch (okE g (spots g d) (edges g d) sp.2) sp.1 sp.1):=fun sp H=>by
  obtain⟨b,E,_,V⟩:=hval sp H
  rw[show p sp=b from congrArg (fun o=>Option.getD o false) E];exact V
 refine⟨(spots g d).any p,?_,fun O Q=>?_,?_⟩
 ·unfold F.bx
  rw[show F.bw a0 g=_ from spotsP_eq g d a0 W hfed I hr,Qa,turns_l3 g a0 (spots g d) (edges g d) (by omega) hN (edgesP_eq g d a0 W hfed I N hr),hl2]
  have:=A.mrg_any (body:=F.aH a0 (spots g d) st) (rest:=some false) (y:=true) (p:=p) (l:=spots g d) fun sp H=>by
   obtain⟨b,E,_,_⟩:=hval sp H
   obtain⟨⟨j,n,hn,hid⟩,hdd⟩:=hok sp H
   have hng:=Qh hn
   have hids:=own_id (I n hng)
   have hport:0≤sp.1.2∧sp.1.2≤2:=Qeo I d 0 g (fun n hn=>hn) sp H
   unfold F.aH
   have hh:decide (A.h6 sp.1.1)=true∧decide (A.h6 sp.1.2)=true:=⟨decide_eq_true (Jj ⟨by omega,by omega⟩),decide_eq_true (Jj ⟨by omega,by omega⟩)⟩
   rw[A.gd1 hh,show F.aN a0 st (spots g d) sp.1 sp.2=_ from E,Qa,show p sp=b from congrArg (fun o=>Option.getD o false) E]
  rw[this]
  cases (spots g d).any p<;>rfl
 ·have loop:=A.lp0 (spots g d) (fun f y=>F.cH g O Q (spots g d) (edges g d) f y) (fun _ t=>some (if t.any p=true then([],[],81)else(O.1,Q.1,0)))
   (fun f=>by rw[F.cH,if_neg (by omega)];rfl)
   (fun f k x hx hk ih=>by
    obtain⟨b,E,L,_⟩:=hval x (Qh hx)
    rw[F.cH,if_pos (by omega),A.ixn hx,Qa,show F.eN g (spots g d) (edges g d) x=_ from L,Qa,Xu,show p x=b from congrArg (fun o=>Option.getD o false) E]
    cases b with
    |true=>rfl
    |false=>rw[if_neg Q4,A.gd1 (A.r64n (by omega)),ih,Xd])
   (by have:=Qab;omega)
  exact loop
 ·rw[Yt]
  exact⟨fun⟨sp,E,L⟩=>⟨sp,E,(hp sp E).1 L⟩,fun⟨sp,E,L⟩=>⟨sp,E,(hp sp E).2 L⟩⟩
theorem own_of {g:List Nd}(h:okL g 0 0 g=true):Own g:=fun n H=>by
 obtain⟨j,I⟩:=Wm.1 H
 have E:=Qif g g.length 0 (by omega)
 rw[Wq,show lastOf g 0=0 from rfl]at E
 have:=E.1 h j n (by omega) I
 cases hq:ownQ n with
 |true=>rfl
 |false=>exact absurd (.inr (.inl hq)) this
theorem Qex (g:List Nd): ∀(r:Nat) (done:List Bool) (l l':List Int),Qbh g r done l=some l'→Plc g l→Plc g l'
 |0,done,l,l',h,hp=>by injection h with h;subst h;exact hp
 |r+1,done,l,l',h,hp=>by
  rw[Qbh]at h
  by_cases H:Qad g done 0 g (-1)<0
  ·rw[if_pos H]at h;cases h
  ·rw[if_neg H]at h
   by_cases I:g.length=0
   ·have:=Qdn g done 0 g (-1) (by omega)
    have e:g=[]:=Q6 I
    subst e
    simp[Qad]at H
   ·have J:=Qdn g done 0 g (-1) (by omega) (by omega)
    refine Qex g r _ _ l' h fun i p E=>?_
    rw[List.getElem?_append]at E
    split at E
    ·exact hp i p E
    ·rename_i L
     have:i-l.length=0:=by
      have:=(Qc.1 E).1
      simp only[Qd,Qm]at this;omega
     rw[this]at E
     injection E with E
     subst E
     exact⟨(Qad g done 0 g (-1)).toNat,g[(Qad g done 0 g (-1)).toNat]'(by omega),by omega,Qe (by omega)⟩
structure Whole (g:List Nd) (l d:List Int) (dm:List (Int×Int)):Prop where
 inc:Inc g
 fed:Fed g
 own:Own g
 rel:RelD g d dm
 inb:InB d
 dlen:d.length=g.length
 key:KeyD g l dm
 plc:Plc g l
 llen:l.length=g.length
 ord:Qbh g g.length (List.replicate g.length false) []=some l
 dep:Qat g l (List.replicate g.length 0)=some d
 lps:Qbd g d g=true
 nort: ∀sp∈spots g d,¬Rch (okE g (spots g d) (edges g d) sp.2) sp.1 sp.1
 kin:g.all (fun n=>n.2.2.1.all (inOk g))=true
 okr:okR g 0 g=true
 chk:g.all (fun n=>decide (chk n.2.1 n.2.2.2.1=0))=true
 l32:g.length≤32
theorem whole_same (g:List Nd)(L:Few g):
  (∃e,e≠0∧F.b0 g=some (none,e)∧F.dn g=some ([],[],e))∨
  (∃l d dm,F.b0 g=some (some (mapOf g,l.map (idAt g),dm),0)∧F.dn g=some (l,d,0)∧Whole g l d dm):=by
 rw[whole_P g L]
 unfold F.dn
 rw[parts_eq g L,ok_eq]
 by_cases J:(32:Int)<(g.length:Int)
 ·rw[if_pos J,if_pos J]
  exact .inl ⟨80,by decide,rfl,rfl⟩
 rw[if_neg J,if_neg J]
 by_cases E:okR g 0 g=true
 case neg=>rw[if_neg E,if_neg E];exact .inl ⟨80,by decide,rfl,rfl⟩
 rw[if_pos E,if_pos E]
 by_cases I:g.all (fun n=>decide (chk n.2.1 n.2.2.2.1=0))=true
 case neg=>rw[if_neg I,if_neg I];exact .inl ⟨60,by decide,rfl,rfl⟩
 rw[if_pos I,if_pos I]
 by_cases H:g.all (fun n=>n.2.2.1.all (inOk g))=true
 case neg=>rw[if_neg H,if_neg H];exact .inl ⟨80,by decide,rfl,rfl⟩
 rw[if_pos H,if_pos H,Qa,if_neg (by decide)]
 have N:=ok_inc E
 have hfed:=fed_of H
 have O:=own_of (by rw[ok_eq];exact E)
 have hlen:=L.1
 unfold sortP
 rcases order_sort L N hfed (mapOf g)with⟨l,Q,V,Y,W⟩|⟨Q,p,V⟩
 case inr=>rw[Q,V];exact .inl ⟨81,by decide,rfl,rfl⟩
 rw[Q,V]
 simp only[Qa,Wt,Qs,if_false]
 have hplc:Plc g l:=Qex g g.length _ [] l W fun i p h=>by cases h
 rcases Qio g l L N hfed O (by omega) hplc with⟨d,dm,d1,d2,d3,d4,d5,d6,d7,d8⟩|⟨d1,p,d2⟩
 case inr=>rw[d1,d2];exact .inl ⟨80,by decide,rfl,rfl⟩
 rw[d1,d2]
 simp only[Qa,Wt,Qs,if_false]
 obtain⟨b,t1,t2,t3⟩:=turns_same g d (mapOf g,l.map (idAt g),dm) rfl L N hfed O d4 d3 d5
 rw[t1,spotsR_eq g d L hfed O d5]
 simp only[Qa]
 rw[edgesR_eq g d L N O d4]
 simp only[Qa,t2]
 cases b with
 |true=>exact .inl ⟨81,by decide,rfl,rfl⟩
 |false=>exact .inr ⟨l,d,dm,rfl,rfl,N,hfed,O,d3,d4,d5,d6,hplc,Y,W,d8,d7,fun sp Q V=>Bool.noConfusion (t3.2 ⟨sp,Q,V⟩),H,E,I,by omega⟩
theorem clone_int (l:List Int)(h:l.length≤5000):F.bg l=some l:=by
 unfold F.bg
 rw[A.gd1 (by simp only[Qm];omega)];rfl
theorem set_same {α:Type}{l:List α}{k:Nat}{x:α}(h:l[k]?=some x):l.set k x=l:=by
 apply Wx
 intro i
 rw[X6]
 split
 ·rename_i e;subst e;split
  ·rw[h]
  ·rename_i E;rw[Wk (by omega)]
 ·rfl
theorem Clone_eq (g:List Nd)(I:g.length≤100)(h: ∀n∈g,n.2.2.1.length≤5000):F.dA g=some g:=by
 unfold F.dA F.aI
 rw[A.gd1 (by simp only[Qm];omega),Qa]
 exact A.lp g (fun f (s:List Nd) y=>F.bB g f s y) (fun _ _ s=>some s) (fun _ s=>s=g)
  (fun f s hs=>by rw[F.bB,if_neg (by omega)])
  (fun f s k x E hk hs H=>by
   subst hs
   rw[F.bB,if_pos (by omega),A.ixn E,Qa,clone_int _ (h x (Qh E)),Qa,Qa,A.gd1 (A.r64n (by omega))]
   rw[show(List.set s (k:Int).toNat x)=s from by rw[Qt];exact set_same E]
   exact H s rfl)
  (by have:=Qab;omega) g rfl
theorem inc_ext: ∀{a b:List Nd},Inc a→Inc b→(∀x,x∈a↔x∈b)→a=b
 | [],[],_,_,_=>rfl
 | [],y::b,_,_,h=>absurd ((h y).2 (Qf ..)) (by simp)
 |x::a,[],_,_,h=>absurd ((h x).1 (Qf ..)) (by simp)
 |x::a,y::b,Q,V,h=>by
  obtain⟨E,J⟩:=Qo.1 Q
  obtain⟨H,L⟩:=Qo.1 V
  have N:x=y:=by
   rcases Qg.1 ((h x).1 (Qf ..))with e|W
   ·exact e
   ·rcases Qg.1 ((h y).2 (Qf ..))with e|Y
    ·exact e.symm
    ·have:=H x W;have:=E y Y;omega
  subst N
  rw[inc_ext J L fun z=>⟨fun I=>?_,fun I=>?_⟩]
  ·rcases Qg.1 ((h z).1 (Qb _ I))with e|O
   ·subst e;have:=E z I;omega
   ·exact O
  ·rcases Qg.1 ((h z).2 (Qb _ I))with e|O
   ·subst e;have:=H z I;omega
   ·exact O
def mrgN (drop:List Int):List Nd→List Nd→List Nd
 | [],p=>p
 |x::g,[]=>if x.1∈drop then mrgN drop g []else x::mrgN drop g []
 |x::g,y::p=>if x.1<y.1 then(if x.1∈drop then mrgN drop g (y::p)else x::mrgN drop g (y::p))else if x.1=y.1 then y::mrgN drop g p else y::mrgN drop (x::g) p
termination_by g p=>g.length+p.length
theorem Qai (drop:List Int): ∀(n:Nat) (g p:List Nd),g.length+p.length≤n→Inc g→Inc p→∀x,x∈mrgN drop g p↔x∈p∨(x∈g∧x.1∉drop∧∀y∈p,y.1≠x.1)
 |0,[],[],_,_,_,x=>by simp[mrgN]
 |0,_::_,_,h,_,_,_=>by simp at h
 |0,[],_::_,h,_,_,_=>by simp at h
 |n+1,[],p,_,_,_,x=>by simp[mrgN]
 |n+1,a::g,[],h,hg,hp,x=>by
  obtain⟨Q,L⟩:=Qo.1 hg
  have W:=Qai drop n g [] (by simp only[Qd]at h;simpa using (by omega:g.length≤n)) L hp x
  rw[mrgN]
  by_cases N:a.1∈drop
  ·rw[if_pos N,W,Qg]
   constructor
   ·rintro(E|⟨E,I⟩)
    ·exact .inl E
    ·exact .inr ⟨.inr E,I⟩
   ·rintro(E|⟨rfl|E,I⟩)
    ·exact .inl E
    ·exact absurd N I.1
    ·exact .inr ⟨E,I⟩
  ·rw[if_neg N,Qg,W,Qg]
   constructor
   ·rintro(rfl|E|⟨E,I⟩)
    ·exact .inr ⟨.inl rfl,N,by simp⟩
    ·exact .inl E
    ·exact .inr ⟨.inr E,I⟩
   ·rintro(E|⟨E|E,I⟩)
    ·exact .inr (.inl E)
    ·exact .inl E
    ·exact .inr (.inr ⟨E,I⟩)
 |n+1,a::g,b::p,h,hg,hp,x=>by
  obtain⟨Q,L⟩:=Qo.1 hg
  obtain⟨hp1,Y⟩:=Qo.1 hp
  simp only[Qd]at h
  rw[mrgN]
  by_cases E:a.1<b.1
  ·have hne: ∀y∈b::p,y.1≠a.1:=fun y J=>by
    rcases Qg.1 J with rfl|J
    ·omega
    ·have:=hp1 y J;omega
   have W:=Qai drop n g (b::p) (by simp only[Qd];omega) L hp x
   rw[if_pos E]
   by_cases N:a.1∈drop
   ·rw[if_pos N,W]
    constructor
    ·rintro(E|⟨E,I⟩)
     ·exact .inl E
     ·exact .inr ⟨Qb _ E,I⟩
    ·rintro(E|⟨E,I⟩)
     ·exact .inl E
     ·rcases Qg.1 E with rfl|E
      ·exact absurd N I.1
      ·exact .inr ⟨E,I⟩
   ·rw[if_neg N,Qg,W]
    constructor
    ·rintro(rfl|E|⟨E,I⟩)
     ·exact .inr ⟨Qf ..,N,hne⟩
     ·exact .inl E
     ·exact .inr ⟨Qb _ E,I⟩
    ·rintro(E|⟨E,I⟩)
     ·exact .inr (.inl E)
     ·rcases Qg.1 E with rfl|E
      ·exact .inl rfl
      ·exact .inr (.inr ⟨E,I⟩)
  ·rw[if_neg E]
   by_cases I:a.1=b.1
   ·rw[if_pos I,Qg,Qai drop n g p (by omega) L Y x,Qg,Qg]
    constructor
    ·rintro(rfl|H|⟨H,V,O⟩)
     ·exact .inl (.inl rfl)
     ·exact .inl (.inr H)
     ·refine .inr ⟨.inr H,V,fun y J=>?_⟩
      rcases Qg.1 J with rfl|J
      ·have:=Q x H;omega
      ·exact O y J
    ·rintro((H|H)|⟨H|H,V,O⟩)
     ·exact .inl H
     ·exact .inr (.inl H)
     ·exact absurd (by rw[H];exact I.symm) (O b (Qf ..))
     ·exact .inr (.inr ⟨H,V,fun y J=>O y (Qb _ J)⟩)
   ·rw[if_neg I,Qg,Qai drop n (a::g) p (by simp only[Qd];omega) hg Y x,Qg,Qg]
    constructor
    ·rintro(rfl|H|⟨H,V,O⟩)
     ·exact .inl (.inl rfl)
     ·exact .inl (.inr H)
     ·refine .inr ⟨H,V,fun y J=>?_⟩
      rcases Qg.1 J with rfl|J
      ·rcases H with rfl|H
       ·omega
       ·have:=Q x H;omega
      ·exact O y J
    ·rintro((H|H)|⟨H,V,O⟩)
     ·exact .inl H
     ·exact .inr (.inl H)
     ·exact .inr (.inr ⟨H,V,fun y J=>O y (Qb _ J)⟩)
theorem Qch (drop:List Int): ∀(n:Nat) (g p:List Nd),g.length+p.length≤n→Inc g→Inc p→Inc (mrgN drop g p)
 |0,[],[],_,_,_=>by simp[mrgN,Inc]
 |0,_::_,_,h,_,_=>by simp at h
 |0,[],_::_,h,_,_=>by simp at h
 |n+1,[],p,_,_,hp=>by simpa[mrgN] using hp
 |n+1,a::g,[],h,V,hp=>by
  obtain⟨I,E⟩:=Qo.1 V
  have L:g.length+([]:List Nd).length≤n:=by simp only[Qd,Qm]at h ⊢;omega
  have W:=Qch drop n g [] L E hp
  rw[mrgN];split
  ·exact W
  ·refine Qo.2 ⟨fun y N=>?_,W⟩
   rcases(Qai drop n g [] L E hp y).1 N with O|O
   ·cases O
   ·exact I y O.1
 |n+1,a::g,b::p,h,V,hp=>by
  obtain⟨I,E⟩:=Qo.1 V
  obtain⟨Q,J⟩:=Qo.1 hp
  simp only[Qd]at h
  rw[mrgN]
  by_cases O:a.1<b.1
  ·have L:g.length+(b::p).length≤n:=by simp only[Qd];omega
   have W:=Qch drop n g (b::p) L E hp
   rw[if_pos O];split
   ·exact W
   ·refine Qo.2 ⟨fun y N=>?_,W⟩
    rcases(Qai drop n g (b::p) L E hp y).1 N with H|H
    ·rcases Qg.1 H with rfl|H
     ·exact O
     ·have:=Q y H;omega
    ·exact I y H.1
  ·rw[if_neg O]
   by_cases Y:a.1=b.1
   ·rw[if_pos Y]
    refine Qo.2 ⟨fun y N=>?_,Qch drop n g p (by omega) E J⟩
    rcases(Qai drop n g p (by omega) E J y).1 N with H|H
    ·exact Q y H
    ·have:=I y H.1;omega
   ·rw[if_neg Y]
    have L:(a::g).length+p.length≤n:=by simp only[Qd];omega
    refine Qo.2 ⟨fun y N=>?_,Qch drop n (a::g) p L V J⟩
    rcases(Qai drop n (a::g) p L V J y).1 N with H|⟨H,_⟩
    ·exact Q y H
    ·rcases Qg.1 H with rfl|H
     ·omega
     ·have:=I y H;omega
theorem Qca (drop:List Int): ∀(n:Nat) (g p:List Nd),g.length+p.length≤n→(mrgN drop g p).length≤g.length+p.length
 |0,[],[],_=>by simp[mrgN]
 |0,_::_,_,h=>by simp at h
 |0,[],_::_,h=>by simp at h
 |n+1,[],p,_=>by simp[mrgN]
 |n+1,a::g,[],h=>by
  simp only[Qd,Qm]at h
  have E:=Qca drop n g [] (by simpa using (by omega:g.length≤n))
  simp only[Qm]at E
  rw[mrgN];split<;>simp only[Qd,Qm]<;>omega
 |n+1,a::g,b::p,h=>by
  simp only[Qd]at h
  have H:=Qca drop n g (b::p) (by simp only[Qd];omega)
  have J:=Qca drop n g p (by omega)
  have I:=Qca drop n (a::g) p (by simp only[Qd];omega)
  simp only[Qd]at H I
  rw[mrgN];repeat' split
  all_goals simp only[Qd];omega
def madeF (m:List (Int×Nd)):Nat→Nat→List Nd
 |0,_=>[]
 |n+1,i=>if Z.mhas m (i:Int)=true then Z.mget z0 m (i:Int)::madeF m n (i+1)else madeF m n (i+1)
def Keyd (m:List (Int×Nd)):Prop:=∀i:Int,Z.mhas m i=true→(Z.mget z0 m i).1=i
theorem madeF_mem {m:List (Int×Nd)}: ∀(n i:Nat) (x:Nd),x∈madeF m n i↔∃j:Nat,i≤j∧j<i+n∧Z.mhas m (j:Int)=true∧Z.mget z0 m (j:Int)=x
 |0,i,x=>by
  simp only[madeF,Yr,false_iff]
  rintro⟨j,H,I,_⟩;omega
 |n+1,i,x=>by
  rw[madeF]
  have L:=madeF_mem (m:=m) n (i+1) x
  by_cases h:Z.mhas m (i:Int)=true
  ·rw[if_pos h,Qg,L]
   constructor
   ·rintro(rfl|⟨j,H,I,E⟩)
    ·exact⟨i,by omega,by omega,h,rfl⟩
    ·exact⟨j,by omega,by omega,E⟩
   ·rintro⟨j,H,I,E,J⟩
    by_cases e:j=i
    ·subst e;exact .inl J.symm
    ·exact .inr ⟨j,by omega,by omega,E,J⟩
  ·rw[if_neg h,L]
   constructor
   ·rintro⟨j,H,I,E⟩;exact⟨j,by omega,by omega,E⟩
   ·rintro⟨j,H,I,E,J⟩
    by_cases e:j=i
    ·subst e;exact absurd E h
    ·exact⟨j,by omega,by omega,E,J⟩
theorem Qea {m:List (Int×Nd)}(hk:Keyd m): ∀(n i:Nat),Inc (madeF m n i)
 |0,i=>by simp[madeF,Inc]
 |n+1,i=>by
  rw[madeF];split
  ·rename_i h
   refine Qo.2 ⟨fun y E=>?_,Qea hk n (i+1)⟩
   obtain⟨j,J,L,H,I⟩:=(madeF_mem n (i+1) y).1 E
   rw[hk _ h,←I,hk _ H];omega
  ·exact Qea hk n (i+1)
theorem Qei {g:List Nd}{id:Int}:Z.mhas (mapOf g) id=true↔∃n∈g,n.1=id:=by
 rcases Qap z0 g id with⟨_,E,_,H⟩|⟨j,n,_,E,I,_,J⟩
 ·rw[H];simp only[Qs,false_iff]
  rintro⟨n,L,e⟩;exact E n L e
 ·rw[J];simp only[true_iff];exact⟨n,Qh E,I⟩
theorem Inc.got {g:List Nd}(h:Inc g){n:Nd}(E:n∈g)(z:Nd):Z.mget z (mapOf g) n.1=n∧Z.mhas (mapOf g) n.1=true:=by
 obtain⟨j,H⟩:=Wv E
 exact⟨h.mget H,Qei.2 ⟨n,E,rfl⟩⟩
theorem made_eq {g p:List Nd}{drop:List Int}{m:List (Int×Nd)}(V:Inc g)(hp:Inc p)(rg: ∀n∈g,0≤n.1∧n.1≤255)(rp: ∀n∈p,0≤n.1∧n.1≤255)
  (W: ∀i,Z.mhas m i=(Z.mhas (mapOf p) i||(Z.mhas (mapOf g) i&& !decide (i∈drop)))) (I: ∀i,Z.mhas m i=true→Z.mget z0 m i=if Z.mhas (mapOf p) i=true then Z.mget z0 (mapOf p) i else Z.mget z0 (mapOf g) i):
  madeF m 256 0=mrgN drop g p:=by
 have key: ∀i,Z.mhas m i=true→(Z.mget z0 m i∈p∧(Z.mget z0 m i).1=i)∨(Z.mget z0 m i∈g∧(Z.mget z0 m i).1=i∧i∉drop∧∀y∈p,y.1≠i):=fun i J=>by
  have H:=I i J
  rw[W i]at J
  by_cases E:Z.mhas (mapOf p) i=true
  ·rw[if_pos E]at H
   obtain⟨n,O,e⟩:=Qei.1 E
   subst e
   rw[H,(hp.got O z0).1];exact .inl ⟨O,rfl⟩
  ·rw[if_neg E]at H
   rw[Yu]at E
   rw[E,Xd,Qk]at J
   obtain⟨n,O,e⟩:=Qei.1 J.1
   subst e
   rw[H,(V.got O z0).1]
   refine .inr ⟨O,rfl,by simpa using J.2,fun y Q e=>?_⟩
   rw[Qei.2 ⟨y,Q,e⟩]at E;cases E
 have hk:Keyd m:=fun i J=>by
  rcases key i J with h|h
  ·exact h.2
  ·exact h.2.1
 refine inc_ext (Qea hk 256 0) (Qch drop _ g p (Qq _) V hp) fun x=>?_
 rw[madeF_mem,Qai drop _ g p (Qq _) V hp]
 constructor
 ·rintro⟨j,_,_,Y,L⟩
  subst L
  rcases key j Y with h|⟨h5,h6,h7,h8⟩
  ·exact .inl h.1
  ·exact .inr ⟨h5,by rw[h6];exact h7,fun y Q=>by rw[h6];exact h8 y Q⟩
 ·intro N
  have H:Z.mhas m x.1=true∧Z.mget z0 m x.1=x∧0≤x.1∧x.1≤255:=by
   rcases N with N|⟨N,h2,Y⟩
   ·obtain⟨e1,e2⟩:=hp.got N z0
    have L:Z.mhas m x.1=true:=by rw[W,e2];rfl
    exact⟨L,by rw[I _ L,if_pos e2,e1],rp x N⟩
   ·obtain⟨e1,e2⟩:=V.got N z0
    have h5: ¬Z.mhas (mapOf p) x.1=true:=fun h=>by
     obtain⟨y,Q,e⟩:=Qei.1 h
     exact Y y Q e
    have L:Z.mhas m x.1=true:=by rw[W,e2];simp[h2]
    exact⟨L,by rw[I _ L,if_neg h5,e1],rg x N⟩
  refine⟨x.1.toNat,by omega,by omega,?_,?_⟩
  ·rw[Wu H.2.2.1];exact H.1
  ·rw[Wu H.2.2.1];exact H.2.1
end Go.Proofs.YtlhiofnikdppeaaGreatDoor
end
section
namespace Go.A
end Go.A
namespace Go.Proofs.YtlhiofnikdppeaaGreatDoor
open Go.RowKit Go.Graph
abbrev Dl:=List Int×List Nd×List Mv
def Sml (g:List Nd):Prop:=g.length≤200∧∀n∈g,n.2.2.1.length≤5000∧n.2.2.2.2.1.size≤5000∧n.2.2.2.1.2.2.size≤5000
theorem Sml.few {g:List Nd}(h:Sml g)(E:g.length≤40):Few g:=⟨E,h.2⟩
theorem Sml.in {g:List Nd}(h:Sml g){n:Nd}(E:n∈g):n.2.2.1.length≤5000:=(h.2 n E).1
structure Good (g:List Nd):Prop where
 inc:Inc g
 own:Own g
 fed:Fed g
 len:g.length≤32
theorem Good.id {g:List Nd}(h:Good g){n:Nd}(E:n∈g):1≤n.1∧n.1≤255:=own_id (h.own n E)
theorem Qeu (g:List Nd)(hs:Sml g): ∃e,F.cV g=some e∧F.eO g=some e∧(e=0→Good g)∧((∃n∈g,n.1<1∨255<n.1)→e=80):=by
 unfold F.cV F.eO
 by_cases H:(32:Int)<(g.length:Int)
 ·unfold F.b0 F.dn F.eJ
  rw[if_pos H,if_pos H]
  exact⟨80,rfl,rfl,fun h=>(by cases h),fun _=>rfl⟩
 ·have N:=hs.few (by omega)
  rcases whole_same g N with⟨e,O,J,E⟩|⟨l,d,dm,J,E,W⟩
  ·refine⟨e,by rw[J];rfl,by rw[E];rfl,fun h=>absurd h O,fun⟨n,L,Q⟩=>?_⟩
   have I: ¬okR g 0 g=true:=fun I=>by
    have:=own_id (own_of (by rw[ok_eq];exact I) n L);omega
   unfold F.dn at E
   rw[parts_eq g N,if_neg H,if_neg I]at E
   simp only[Qa]at E
   rw[if_pos (by decide)]at E
   injection E with E
   injection E with _ E
   injection E with _ E
   exact E.symm
  ·refine⟨0,by rw[J];rfl,by rw[E];rfl,fun _=>⟨W.inc,W.own,W.fed,by omega⟩,fun⟨n,L,Q⟩=>?_⟩
   have:=own_id (W.own n L);omega
def Qba:List Int→Bool
 |a::b::r=>decide (a<b)&&Qba (b::r)
 |_=>true
theorem rise_iff: ∀l:List Int,Qba l=true↔l.Pairwise (· < ·)
 | []=>by simp[Qba]
 | [a]=>by simp[Qba]
 |a::b::r=>by
  rw[Qba,Qk,decide_eq_true_iff,rise_iff (b::r),Qo (a:=a)]
  constructor
  ·rintro⟨I,H⟩
   refine⟨fun x E=>?_,H⟩
   rcases Qg.1 E with rfl|E
   ·exact I
   ·have:=(Qo.1 H).1 x E;omega
  ·exact fun h=>⟨h.1 b (Qf ..),h.2⟩
theorem rise_inc {g:List Nd}:Qba (g.map (·.1))=true↔Inc g:=by
 rw[rise_iff,Y9];rfl
theorem rise_at {l:List Int}{k:Nat}{a b:Int}(E:l[k]?=some a)(H:l[k+1]?=some b):Qba (l.drop k)=(decide (a<b)&&Qba (l.drop (k+1))):=by
 rw[A.dropx E,A.dropx H,Qba]
theorem Qfw {l:List Int}{k:Nat}(h:l.length≤k+1):Qba (l.drop k)=true:=by
 rcases E:l.drop k with _|⟨a,_|⟨b,r⟩⟩
 ·rfl
 ·rfl
 ·have:=congrArg List.length E;simp only[Xm,Qd]at this;omega
theorem Qgp (l:List Int)(O:l.length≤100000):F.c7 l=some (Qba l):=by
 have main: ∀(n k f:Nat),l.length-k≤n→n<f→F.bf l f ((k:Int)+1)=some (Qba (l.drop k)):=by
  intro n
  induction n with
  |zero=>
   intro k f J L
   obtain⟨f,rfl⟩: ∃f',f=f'+1:=⟨f-1,by omega⟩
   rw[F.bf,if_neg (by omega),Qfw (by omega)]
  |succ n N=>
   intro k f J L
   obtain⟨f,rfl⟩: ∃f',f=f'+1:=⟨f-1,by omega⟩
   rw[F.bf]
   by_cases h:k+1<l.length
   ·have E:l[k]?=some l[k]:=Qe (by omega)
    have H:l[k+1]?=some l[k+1]:=Qe h
    rw[if_pos (by omega),A.gd1 ⟨by omega,by omega⟩,show((k:Int)+1-1)=(k:Int) by omega,A.ixn E,Qa,show((k:Int)+1)=((k+1:Nat):Int) by omega,A.ixn H,Qa,rise_at E H]
    by_cases I:l[k+1]≤l[k]
    ·rw[if_pos I,decide_eq_false (by omega)];rfl
    ·rw[if_neg I,A.gd1 (A.r64n (by omega)),N (k+1) f (by omega) (by omega),decide_eq_true (by omega:l[k]<l[k+1])];rfl
   ·rw[if_neg (by omega),Qfw (by omega)]
 have:=main l.length 0 A.FU (by omega) (by have:=Qab;omega)
 exact this
theorem has_eq (l:List Int)(x:Int)(J:l.length≤100000):F.fn l x=some (decide (x∈l)):=
 A.lp0 l (fun f y=>F.dW l x f y) (fun _ r=>some (decide (x∈r)))
  (fun f=>by rw[F.dW,if_neg (by omega)];rfl)
  (fun f k a E hk H=>by
   rw[F.dW,if_pos (by omega),A.ixn E,Qa]
   by_cases h:a=x
   ·rw[if_pos h,decide_eq_true (by rw[h];exact Qf ..)]
   ·rw[if_neg h,A.gd1 (A.r64n (by omega)),H]
    congr 1
    refine decide_eq_decide.2 ?_
    rw[Qg]
    exact⟨.inr,fun I=>I.resolve_left fun e=>h e.symm⟩)
  (by have:=Qab;omega)
theorem Qdk (l:List Int)(x:Int)(Q:l.length≤100000):F.ax l x=some (decide (x∈l)):=by
 have: ∀(n k f:Nat),k+n=l.length→n<f→∃i:Int,F.ac l x f (k:Int)=some i∧(0≤i↔x∈l.drop k):=by
  intro n
  induction n with
  |zero=>
   intro k f E H
   obtain⟨f,rfl⟩: ∃f',f=f'+1:=⟨f-1,by omega⟩
   rw[F.ac,if_neg (by omega),Q2 (by omega)]
   exact⟨-1,rfl,by simp⟩
  |succ n J=>
   intro k f E H
   obtain⟨f,rfl⟩: ∃f',f=f'+1:=⟨f-1,by omega⟩
   have I:l[k]?=some l[k]:=Qe (by omega)
   rw[F.ac,if_pos (by omega),A.ixn I,Qa,A.dropx I]
   by_cases h:x=l[k]
   ·rw[if_pos h];exact⟨k,rfl,fun _=>by rw[h];exact Qf ..,fun _=>by omega⟩
   ·rw[if_neg h,A.gd1 (A.r64n (by omega))]
    obtain⟨i,L,N⟩:=J (k+1) f (by omega) (by omega)
    exact⟨i,L,by rw[N,Qg];exact⟨.inr,fun O=>O.resolve_left h⟩⟩
 obtain⟨i,E,H⟩:=this l.length 0 A.FU (by omega) (by have:=Qab;omega)
 unfold F.ax F.bW
 rw[show F.ac l x A.FU 0=some i from E,Qa]
 congr 1
 exact decide_eq_decide.2 H
theorem ids_eq (g:List Nd)(I:g.length≤10000):F.eH g=some (g.map (·.1)):=by
 have:=A.lp g (fun f (s:List Int) y=>F.b9 g f s y) (fun _ l s=>some (s++l.map (·.1))) (fun k s=>s.length=k)
  (fun f s hs=>by rw[F.b9,if_neg (by omega),W8,Q9])
  (fun f s k x E hk hs H=>by
   rw[F.b9,if_pos (by omega),A.ixn E,Qa,A.gd1 (by simp only[Qd,Qm];omega),A.gd1 (A.r64n (by omega)),H _ (by simp only[Qj,Qd,Qm];omega)]
   rw[Qx];rfl)
  (by have:=Qab;omega) [] rfl
 rw[Wo]at this;exact this
abbrev gt (g:List Nd) (id:Int):Nd:=Z.mget z0 (mapOf g) id
abbrev hs (g:List Nd) (id:Int):Bool:=Z.mhas (mapOf g) id
theorem Qgh (g:List Nd)(I:Inc g)(N:g.length≤10000):F.cK g=some (mapOf g):=by
 exact A.lp g (fun f (s:List (Int×Nd)) y=>F.bQ g f s y) (fun _ _ _=>some (mapOf g)) (fun k s=>s=mapOf (g.take k))
  (fun f s hs=>by rw[F.bQ,if_neg (by omega),hs,Q3 (Qq _)])
  (fun f s k x H hk hs J=>by
   rw[F.bQ,if_pos (by omega),A.ixn H,Qa,A.gd1 (A.r64n (by omega))]
   refine J _ ?_
   have hnew:Z.mhas s x.1=false:=by
    rw[hs]
    refine Qco fun n L e=>?_
    obtain⟨i,E⟩:=Wv L
    rw[Xa]at E
    split at E
    ·have:=I.inj E H e;omega
    ·cases E
   rw[show(x:Nd)=x from rfl,Qbz hnew,hs,Qbj H]
   simp[mapOf])
  (by have:=Qab;omega) [] rfl
theorem Get_eq (g:List Nd)(id:Int)(I:g.length≤10000):F.e0 g id=some (gt g id,hs g id):=
 A.lp0 g (fun f y=>F.dV g id f y) (fun _ l=>some (gt l id,hs l id))
  (fun f=>by rw[F.dV,if_neg (by omega)];rfl)
  (fun f k x E hk H=>by
   rw[F.dV,if_pos (by omega),A.ixn E,Qa]
   unfold gt hs mapOf
   simp only[Qv,Z.mget,Z.mhas]
   by_cases h:x.1=id
   ·rw[if_pos h,if_pos h.symm,if_pos h.symm,Qa]
   ·rw[if_neg h,if_neg (fun e=>h e.symm),if_neg (fun e=>h e.symm),A.gd1 (A.r64n (by omega)),H];rfl)
  (by have:=Qab;omega)
def Qgw (g:List Nd)(id:Int):Bool:=hs g id&&decide ((gt g id).2.1≠1)
def Qfc (g:List Nd)(l:List Int):Bool:=l.all (Qgw g)&&Qba l
theorem drops_P (g:List Nd)(d:Dl)(I:d.1.length≤1000):F.dz (mapOf g) d=some (Qfc g d.1):=
 A.lp0 d.1 (fun f y=>F.bA (mapOf g) d f y) (fun _ l=>some (l.all (Qgw g)&&Qba d.1))
  (fun f=>by rw[F.bA,if_neg (by omega),Qgp _ (by omega)];rfl)
  (fun f k x E hk H=>by
   rw[F.bA,if_pos (by omega),A.ixn E,Qa,A.lt,W6,Qgw,Xo]
   change (if(if(!(hs g x))=true then true else decide ((gt g x).2.1=1))=true then _ else _)=_
   cases hs g x with
   |false=>simp
   |true=>
    by_cases h:(gt g x).2.1=1
    ·simp[h]
    ·simp only[Wt,Qs,if_false,h,decide_false,ne_eq,not_false_eq_true,decide_true,Wn]
     rw[A.gd1 (A.r64n (by omega)),H])
  (by have:=Qab;omega)
def Qek (l:List Int)(k:Nat):Bool:=if k=0 then Qba l else Qba (l.drop (k-1))
theorem riseP_at {l:List Int}{k:Nat}{x:Int}(E:l[k]?=some x):(k=0∧Qek l k=Qek l (k+1))∨(∃p,0<k∧l[k-1]?=some p∧Qek l k=(decide (p<x)&&Qek l (k+1))):=by
 rcases Nat.eq_zero_or_pos k with h|h
 ·subst h;exact .inl ⟨rfl,rfl⟩
 ·have hk:=(Qc.1 E).1
  have hp:l[k-1]?=some l[k-1]:=Qe (by omega)
  refine .inr ⟨_,h,hp,?_⟩
  unfold Qek
  rw[if_neg (by omega),if_neg (by omega),rise_at hp (b:=x) (by rw[show k-1+1=k by omega];exact E),show k-1+1=k+1-1 by omega]
theorem Qhg (l:List Int):Qek l l.length=true:=by
 unfold Qek;split
 ·rename_i h;rw[Q6 h];rfl
 ·exact Qfw (by omega)
theorem drops_R (g:List Nd)(l:List Int)(N:g.length≤1000)(O:l.length≤1000):F.fp g l=some (Qfc g l&&decide ((l.length:Int)≤32)):=by
 have:=A.lp0 l (fun f y=>F.df g l f y) (fun k r=>some (r.all (Qgw g)&&Qek l k&&decide ((l.length:Int)≤32)))
  (fun f=>by rw[F.df,if_neg (by omega),Qhg];simp)
  (fun f k x E hk I=>by
   rw[F.df,if_pos (by omega),A.ixn E,Qa,Get_eq g x (by omega),Qa,F.et,W6,Qgw]
   simp only[F.dX,Xo]
   cases hs g x with
   |false=>simp
   |true=>
    by_cases h:(gt g x).2.1=1
    ·simp[h]
    ·simp only[Wt,Qs,if_false,h,decide_false,ne_eq,not_false_eq_true,decide_true,Wn]
     rcases riseP_at E with⟨L,H⟩|⟨p,L,hp,H⟩
     ·rw[if_neg (by omega),A.gd1 (A.r64n (by omega)),I,H]
     ·rw[if_pos (by omega),A.gd1 ⟨by omega,by omega⟩,show((k:Int)-1)=((k-1:Nat):Int) by omega,A.ixn E,Qa,A.ixn hp,Qa,H]
      by_cases J:x≤p
      ·rw[if_pos (decide_eq_true J),decide_eq_false (by omega: ¬p<x)];simp
      ·rw[if_neg (by rw[decide_eq_true_iff];exact J),A.gd1 (A.r64n (by omega)),I,decide_eq_true (by omega:p<x),Wn])
  (by have:=Qab;omega)
 exact this
def Qig (g:List Nd)(drop:List Int)(n:Nd):Bool:=decide (n.2.1≠1)&& !(hs g n.1&&decide ((gt g n.1).2.1=1))&&decide (n.1∉drop)
def Qgg (g:List Nd)(d:Dl):Bool:=d.2.1.all (Qig g d.1)&&Qba (d.2.1.map (·.1))
theorem puts_P (g:List Nd)(d:Dl)(N:d.1.length≤1000)(hp:d.2.1.length≤1000):F.dQ (mapOf g) d=some (Qgg g d):=
 A.lp0 d.2.1 (fun f y=>F.aA (mapOf g) d f y) (fun _ l=>some (l.all (Qig g d.1)&&Qba (d.2.1.map fun n:Nd=>n.1)))
  (fun f=>by rw[F.aA,if_neg (by omega),ids_eq _ (by omega),Qa,Qgp _ (by rw[Qr];omega)];rfl)
  (fun f k x I hk J=>by
   rw[F.aA,if_pos (by omega),A.ixn I,Qa,A.lt,W6,Qig]
   simp only[F.ch,Xo,Qdk d.1 x.1 (by omega),Qa]
   change (if x.2.1=1 then _ else if(if hs g x.1=true then decide ((gt g x.1).2.1=1)else false)=true then _ else _)=_
   by_cases E:x.2.1=1
   ·simp[E]
   ·rw[if_neg E,decide_eq_true (show x.2.1≠1 from E),Wn]
    have hrest:(if decide (x.1∈d.1)=true then some false else A.gd (Z.R64 ((k:Int)+1)) (F.aA (mapOf g) d f ((k:Int)+1)))=some (decide (x.1∉d.1)&&(d.2.1.drop (k+1)).all (Qig g d.1)&&Qba (d.2.1.map (·.1))):=by
     by_cases H:x.1∈d.1
     ·simp[H]
     ·rw[if_neg (by rw[decide_eq_true_iff];exact H),A.gd1 (A.r64n (by omega)),J,decide_eq_true H,Wn]
    rw[hrest]
    cases hs g x.1<;>by_cases L:(gt g x.1).2.1=1<;>simp[L])
  (by have:=Qab;omega)
theorem puts_R (g:List Nd)(d:Dl)(Y:g.length≤1000)(hd:d.1.length≤1000)(hp:d.2.1.length≤1000):F.fi g d=some (Qgg g d&&decide ((d.2.1.length:Int)≤32)):=by
 have:=A.lp0 d.2.1 (fun f y=>F.dC g d f y) (fun k r=>some (r.all (Qig g d.1)&&Qek (d.2.1.map fun n:Nd=>n.1) k&&decide ((d.2.1.length:Int)≤32)))
  (fun f=>by
   have e:=Qhg (d.2.1.map (·.1))
   rw[Qr]at e
   rw[F.dC,if_neg (by omega),e];simp)
  (fun f k x I hk N=>by
   have J:(d.2.1.map (·.1))[k]?=some x.1:=by rw[Qp,I];rfl
   rw[F.dC,if_pos (by omega),A.ixn I,Qa,Get_eq g x.1 (by omega),Qa,F.eR,A.ixn I,Qa,W6,Qig]
   simp only[F.c0,Xo,Qa,has_eq d.1 x.1 (by omega)]
   by_cases E:x.2.1=1
   ·simp[E]
   ·rw[if_neg E,decide_eq_true (show x.2.1≠1 from E),Wn]
    generalize Q:(if decide (x.1∈d.1)=true then _ else _:Option Bool)=R
    have hrest:R=some (decide (x.1∉d.1)&&(d.2.1.drop (k+1)).all (Qig g d.1)&&Qek (d.2.1.map (·.1)) k&&decide ((d.2.1.length:Int)≤32)):=by
     rw[←Q]
     by_cases L:x.1∈d.1
     ·simp[L]
     ·rw[if_neg (by rw[decide_eq_true_iff];exact L),decide_eq_true L,Wn]
      rcases riseP_at J with⟨V,E⟩|⟨p,V,H,E⟩
      ·rw[if_neg (by omega),if_neg Q4,A.gd1 (A.r64n (by omega)),N,E]
      ·rw[Qp]at H
       obtain⟨q,hq,e⟩:=X1.1 H
       subst e
       rw[if_pos (by omega),A.gd1 ⟨by omega,by omega⟩,show((k:Int)-1)=((k-1:Nat):Int) by omega,A.ixn hq,Qa,E]
       by_cases O:x.1≤q.1
       ·rw[if_pos (decide_eq_true O),decide_eq_false (by omega: ¬q.1<x.1)];simp
       ·rw[if_neg (by rw[decide_eq_true_iff];exact O),A.gd1 (A.r64n (by omega)),N,decide_eq_true (by omega:q.1<x.1),Wn]
    rw[hrest]
    cases hs g x.1<;>by_cases W:(gt g x.1).2.1=1<;>simp[W])
  (by have:=Qab;omega)
 exact this
def keepB (k:Int):Bool:=decide (k=11∨k=16)
theorem keeps_eq (k:Int):F.cW k=some (keepB k):=by unfold F.cW keepB;rw[A.bo]
theorem Holds_eq (k:Int):F.e7 k=some (keepB k):=by unfold F.e7 keepB;rw[A.bo]
def useP (m:Mv):Bool:=if m.2.2.1=1 then decide (m.2.2.2.1=0∧m.2.2.2.2=((0,0,ByteArray.mk #[]):Fun))else if m.2.2.1=2 then decide ((0≤m.2.2.2.1∧m.2.2.2.1≤1048576)∧m.2.2.2.2=((0,0,ByteArray.mk #[]):Fun))else if m.2.2.1=3 then decide (m.2.2.2.1=0)else false
theorem uses_eq9 (m:Mv):F.dt m=some (useP m):=by
 unfold F.dt useP F.cN F.cO
 by_cases I:m.2.2.1=1
 ·rw[if_pos I,if_pos I]
  by_cases E:m.2.2.2.1=0
  ·rw[if_pos E];congr 1;exact decide_eq_decide.2 ⟨fun h=>⟨E,h⟩,fun h=>h.2⟩
  ·rw[if_neg E,decide_eq_false (fun h=>E h.1)]
 ·rw[if_neg I,if_neg I]
  by_cases E:m.2.2.1=2
  ·rw[if_pos E,if_pos E,A.ba]
   by_cases H:0≤m.2.2.2.1∧m.2.2.2.1≤1048576
   ·rw[if_pos (decide_eq_true H)];congr 1;exact decide_eq_decide.2 ⟨fun h=>⟨H,h⟩,fun h=>h.2⟩
   ·rw[if_neg (by rw[decide_eq_true_iff];exact H),decide_eq_false (fun h=>H h.1)]
  ·rw[if_neg E,if_neg E]
   by_cases H:m.2.2.1=3
   ·rw[if_pos H,if_pos H]
   ·rw[if_neg H,if_neg H]
def Qar (g put:List Nd)(m:Mv):Bool:=hs g m.1&&hs put m.2.1&&keepB (gt g m.1).2.1&&decide ((gt put m.2.1).2.1=(gt g m.1).2.1)&&useP m&& !(decide (m.2.2.1=2)&&decide ((gt g m.1).2.1≠11))
def mvF (ok:Mv→Bool):List Int→List Mv→Bool
 |_,[]=>true
 |pre,m::r=>ok m&&decide (m.2.1∉pre)&&mvF ok (pre++[m.2.1]) r
theorem move_R (g:List Nd)(d:Dl)(m:Mv)(O:g.length≤1000)(hp:d.2.1.length≤1000):F.es g d m=some (Qar g d.2.1 m):=by
 unfold F.es
 rw[Get_eq g _ (by omega),Qa,Get_eq d.2.1 _ (by omega),Qa]
 simp only[Holds_eq,Qa,F.d9,F.eS,F.eT,Xo]
 unfold Qar useP
 have e:(m.2.2.2.2:Fun)=m.2.2.2.2:=rfl
 rw[e]
 generalize m.2.2.2.2=fz
 cases hs g m.1 with
 |false=>simp
 |true=>
  cases hs d.2.1 m.2.1 with
  |false=>simp
  |true=>
   cases keepB (gt g m.1).2.1 with
   |false=>simp
   |true=>
    by_cases hk:(gt g m.1).2.1=(gt d.2.1 m.2.1).2.1
    ·by_cases J:m.2.2.1=1
     ·by_cases E:m.2.2.2.1=0<;>by_cases h6:fz=((0,0,ByteArray.mk #[]):Fun)<;>simp[hk,J,E,h6]
     ·by_cases E:m.2.2.1=2
      ·by_cases H:(gt g m.1).2.1=11<;>by_cases L:0≤m.2.2.2.1<;>by_cases N:m.2.2.2.1≤1048576<;>by_cases h6:fz=((0,0,ByteArray.mk #[]):Fun)<;>simp[←hk,E,H,L,N,h6]
      ·by_cases H:m.2.2.1=3<;>simp[hk,J,E,H]
    ·have I: ¬(gt d.2.1 m.2.1).2.1=(gt g m.1).2.1:=fun e=>hk e.symm
     simp[hk,I]
def tos (l:List Mv):List Int:=l.map fun m:Mv=>m.2.1
theorem moves_P (g:List Nd)(d:Dl)(L:Inc d.2.1)(hp:d.2.1.length≤1000)(V:d.2.2.length≤1000):F.cX (mapOf g) d=some (mvF (Qar g d.2.1) [] d.2.2):=by
 unfold F.cX
 rw[Qgh _ L (by omega),Qa]
 exact A.lp d.2.2 (fun f (s:List (Int×Bool)) y=>F.ae (mapOf g) d (mapOf d.2.1) f s y) (fun k l _=>some (mvF (Qar g d.2.1) (tos (d.2.2.take k)) l)) (fun k s=>∀t,Z.mget false s t=decide (t∈tos (d.2.2.take k)))
  (fun f s hs=>by rw[F.ae,if_neg (by omega)];rfl)
  (fun f s k x I hk J N=>by
   rw[F.ae,if_pos (by omega),A.ixn I,Qa]
   simp only[A.lt,keeps_eq,Qa,F.ba,Xo,J,show((0,0,[],(0,0,(ByteArray.mk #[])),(ByteArray.mk #[]),0,0):Nd)=z0 from rfl]
   have E:tos (d.2.2.take (k+1))=tos (d.2.2.take k)++[x.2.1]:=by unfold tos;rw[Qbj I,Xb];rfl
   have hstep:A.gd (Z.R64 ((k:Int)+1)) (F.ae (mapOf g) d (mapOf d.2.1) f (Z.mins s x.2.1 true) ((k:Int)+1))=some (mvF (Qar g d.2.1) (tos (d.2.2.take k)++[x.2.1]) (d.2.2.drop (k+1))):=by
    rw[A.gd1 (A.r64n (by omega)),N _ fun t=>?_,E]
    rw[E,Vl,J]
    by_cases h:t=x.2.1<;>simp[h]
   rw[hstep,show F.dt x=some (useP x)from uses_eq9 x,Qa,mvF,Qar]
   change (if(if(!(hs g x.1))=true then true else !(hs d.2.1 x.2.1))=true then _ else if(if(!(keepB (gt g x.1).2.1))=true then true else decide ((gt d.2.1 x.2.1).2.1≠(gt g x.1).2.1))=true then _ else _)=_
   cases hs g x.1 with
   |false=>simp
   |true=>
    cases hs d.2.1 x.2.1 with
    |false=>simp
    |true=>
     cases keepB (gt g x.1).2.1 with
     |false=>simp
     |true=>
      by_cases hk:(gt d.2.1 x.2.1).2.1=(gt g x.1).2.1
      ·by_cases H:x.2.1∈tos (d.2.2.take k)
       ·simp[hk,H]
       ·cases h6:useP x with
        |false=>simp[hk,H]
        |true=>by_cases O:x.2.2.1=2<;>by_cases Q:(gt g x.1).2.1=11<;>simp[hk,H,O,Q]
      ·simp[hk])
  (by have:=Qab;omega) [] (fun t=>by simp[tos,Z.mget])
theorem may_R1 (g:List Nd)(d:Dl)(H:Int→Option Bool)(k:Nat)(x:Mv)(L:d.2.2[k]?=some x)(Q:d.2.2.length≤1000):F.dw H d (k:Int) A.FU 0=if x.2.1∈tos (d.2.2.take k)then some false else H ((k:Int)+1):=by
 have hk:=(Qc.1 L).1
 have hlen:(d.2.2.take k).length=k:=by rw[Qz];omega
 have:=A.lp0 (d.2.2.take k) (fun f y=>F.dw H d (k:Int) f y) (fun _ l=>if x.2.1∈tos l then some false else H ((k:Int)+1))
  (fun f=>by rw[hlen,F.dw,if_neg (by omega),A.gd1 (A.r64n (by omega))];simp[tos])
  (fun f i m E V N=>by
   have J:d.2.2[i]?=some m:=by
    rw[Xa]at E
    split at E
    ·exact E
    ·cases E
   rw[F.dw,if_pos (by omega),A.ixn J,Qa,A.ixn L,Qa]
   by_cases h:m.2.1=x.2.1
   ·rw[if_pos h,if_pos (by simp[tos,h])]
   ·rw[if_neg h,A.gd1 (A.r64n (by omega)),N]
    by_cases I:x.2.1∈tos ((d.2.2.take k).drop (i+1))
    ·rw[if_pos I,if_pos (by unfold tos;rw[Qv];exact Qb _ I)]
    ·rw[if_neg I,if_neg (by unfold tos;rw[Qv,Qg];exact fun O=>O.elim (fun e=>h e.symm) I)])
  (by rw[hlen];have:=Qab;omega)
 exact this
def mayB (g:List Nd)(d:Dl):Bool:=decide ((d.1.length:Int)≤32)&&decide ((d.2.1.length:Int)≤32)&&decide ((d.2.2.length:Int)≤16)&&Qfc g d.1&&Qgg g d&&mvF (Qar g d.2.1) [] d.2.2
theorem Qge {g:List Nd}{d:Dl}(h:Qgg g d=true):Inc d.2.1:=by
 unfold Qgg at h
 rw[Qk]at h
 exact rise_inc.1 h.2
theorem may_P (g:List Nd)(d:Dl)(I:d.1.length≤1000)(J:d.2.1.length≤1000)(L:d.2.2.length≤1000):F.dK (mapOf g) d=some (mayB g d):=by
 unfold F.dK mayB
 simp only[A.ba]
 have e1:F.dz (mapOf g) d=some (Qfc g d.1):=drops_P g d I
 have e2:F.dQ (mapOf g) d=some (Qgg g d):=puts_P g d I J
 rw[e1,e2]
 simp only[Qa,F.ca]
 by_cases E:(((d.1.length:Int)≤32∧(d.2.1.length:Int)≤32)∧(d.2.2.length:Int)≤16)
 ·rw[if_pos (decide_eq_true E),decide_eq_true E.1.1,decide_eq_true E.1.2,decide_eq_true E.2]
  cases Qfc g d.1 with
  |false=>simp
  |true=>
   cases H:Qgg g d with
   |false=>simp
   |true=>
    rw[show F.cX (mapOf g) d=some (mvF (Qar g d.2.1) [] d.2.2)from moves_P g d (Qge H) J L]
    simp
 ·rw[if_neg (by rw[decide_eq_true_iff];exact E)]
  by_cases a1:(d.1.length:Int)≤32<;>by_cases a2:(d.2.1.length:Int)≤32<;>by_cases a3:(d.2.2.length:Int)≤16<;>simp[a1,a2,a3]
  exact absurd ⟨⟨a1,a2⟩,a3⟩ E
theorem may_R (g:List Nd)(d:Dl)(E:g.length≤1000)(J:d.1.length≤1000)(L:d.2.1.length≤1000)(N:d.2.2.length≤1000):F.ff g d=some (mayB g d):=by
 have loop:F.dx g d A.FU 0=some (mvF (Qar g d.2.1) [] d.2.2):=
  A.lp0 d.2.2 (fun f y=>F.dx g d f y) (fun k l=>some (mvF (Qar g d.2.1) (tos (d.2.2.take k)) l))
   (fun f=>by rw[F.dx,if_neg (by omega)];rfl)
   (fun f k x H hk O=>by
    rw[F.dx,if_pos (by omega),A.ixn H,Qa,show F.es g d x=some (Qar g d.2.1 x)from move_R g d x E L,Qa,may_R1 g d _ k x H N,O,mvF]
    have I:tos (d.2.2.take (k+1))=tos (d.2.2.take k)++[x.2.1]:=by unfold tos;rw[Qbj H,Xb];rfl
    rw[I]
    cases Qar g d.2.1 x with
    |false=>simp
    |true=>by_cases h:x.2.1∈tos (d.2.2.take k)<;>simp[h])
   (by have:=Qab;omega)
 unfold F.ff mayB
 have e2:F.fi g d=some (Qgg g d&&decide ((d.2.1.length:Int)≤32)):=puts_R g d E J L
 rw[drops_R g d.1 E J,e2]
 simp only[Qa,F.e2,loop,Xo]
 by_cases a1:(d.1.length:Int)≤32<;>by_cases a2:(d.2.1.length:Int)≤32<;>by_cases a3:(d.2.2.length:Int)≤16<;>cases Qfc g d.1<;>cases Qgg g d<;>simp[a1,a2,a3]<;>omega
theorem made_l2 (m:List (Int×Nd)): ∀(n k f:Nat) (xs:List Nd),k+n=256→n<f→xs.length≤k→F.a2 m f xs (k:Int)=some (xs++madeF m n k)
 |0,k,f,xs,hk,E,H=>by
  obtain⟨f,rfl⟩: ∃f',f=f'+1:=⟨f-1,by omega⟩
  rw[F.a2,if_neg (by omega),madeF,Q9]
 |n+1,k,f,xs,hk,E,H=>by
  obtain⟨f,rfl⟩: ∃f',f=f'+1:=⟨f-1,by omega⟩
  rw[F.a2,if_pos (by omega),A.lt,madeF,show((0,0,[],(0,0,(ByteArray.mk #[])),(ByteArray.mk #[]),0,0):Nd)=z0 from rfl]
  simp only[F.cP]
  by_cases h:Z.mhas m (k:Int)=true
  ·rw[if_pos h,if_pos h,A.gd1 (by simp only[Qd,Qm];omega),A.gd1 (A.r64n (by omega))]
   have:=made_l2 m n (k+1) f (xs++[Z.mget z0 m (k:Int)]) (by omega) (by omega) (by simp only[Qj,Qd,Qm];omega)
   refine Eq.trans this ?_
   rw[Qx];rfl
  ·rw[if_neg h,if_neg h,A.gd1 (A.r64n (by omega))]
   exact made_l2 m n (k+1) f xs (by omega) (by omega) (by omega)
theorem made_l3 (g:List Nd)(d:Dl)(H:List (Int×Nd))(N:Inc g)(hp:Inc d.2.1)(hl:d.2.1.length≤1000)(rg: ∀n∈g,0≤n.1∧n.1≤255)(rp: ∀n∈d.2.1,0≤n.1∧n.1≤255)
  (O: ∀i,Z.mhas H i=(hs g i&& !decide (i∈d.1))) (Q: ∀i,Z.mhas H i=true→Z.mget z0 H i=gt g i):F.bo d A.FU H 0=some (mrgN d.1 g d.2.1):=
 A.lp d.2.1 (fun f (s:List (Int×Nd)) y=>F.bo d f s y) (fun _ _ _=>some (mrgN d.1 g d.2.1))
  (fun k s=>∀i,Z.mhas s i=(hs (d.2.1.take k) i||(hs g i&& !decide (i∈d.1)))∧(Z.mhas s i=true→Z.mget z0 s i=if hs (d.2.1.take k) i=true then gt (d.2.1.take k) i else gt g i))
  (fun f s I=>by
   rw[F.bo,if_neg (by omega)]
   rw[Q3 (Qq _)]at I
   have e:=made_l2 s 256 0 A.FU [] rfl (by have:=Qab;omega) (Qq _)
   rw[Wo,made_eq N hp rg rp (fun i=>(I i).1) (fun i=>(I i).2)]at e
   exact e)
  (fun f s k x J hk I V=>by
   rw[F.bo,if_pos (by omega),A.ixn J,Qa,A.gd1 (A.r64n (by omega))]
   have W:mapOf (d.2.1.take (k+1))=Z.mins (mapOf (d.2.1.take k)) x.1 x:=by
    rw[Qbz (Qco fun n Y e=>?_),Qbj J]
    ·simp[mapOf]
    ·obtain⟨i,E⟩:=Wv Y
     rw[Xa]at E
     split at E
     ·have:=hp.inj E J e;omega
     ·cases E
   refine V _ fun i=>?_
   obtain⟨L,p2⟩:=I i
   change Z.mhas (Z.mins s x.1 x) i=_∧(Z.mhas (Z.mins s x.1 x) i=true→Z.mget z0 (Z.mins s x.1 x) i=_)
   unfold hs gt at*
   rw[W,Z.mhas_ins,Z.mhas_ins,Vl,Vl,L,Bool.or_assoc]
   refine⟨rfl,fun h=>?_⟩
   by_cases e:i=x.1
   ·simp[e]
   ·simp only[e,decide_false,Xd,if_false]at h ⊢
    exact p2 (by rw[L];exact h))
  (by have:=Qab;omega) H fun i=>⟨by rw[O];rfl,fun h=>by rw[Q i h];rfl⟩
theorem made_P (g:List Nd)(d:Dl)(H:Inc g)(hp:Inc d.2.1)(Y:g.length≤1000)(L:d.2.1.length≤1000)(h3:d.1.length≤1000)(rg: ∀n∈g,0≤n.1∧n.1≤255)(rp: ∀n∈d.2.1,0≤n.1∧n.1≤255):F.du g d=some (mrgN d.1 g d.2.1):=by
 unfold F.du
 rw[Qgh g H (by omega),Qa]
 exact A.lp d.1 (fun f (s:List (Int×Nd)) y=>F.bR d f s y) (fun _ _ _=>some (mrgN d.1 g d.2.1))
  (fun k s=>(s.map Prod.fst).Nodup∧∀i,Z.mhas s i=(hs g i&& !decide (i∈d.1.take k))∧(Z.mhas s i=true→Z.mget z0 s i=gt g i))
  (fun f s E=>by
   rw[F.bR,if_neg (by omega)]
   rw[Q3 (Qq _)]at E
   exact made_l3 g d s H hp L rg rp (fun i=>(E.2 i).1) (fun i=>(E.2 i).2))
  (fun f s k x I hk E N=>by
   rw[F.bR,if_pos (by omega),A.ixn I,Qa,A.gd1 (A.r64n (by omega))]
   obtain⟨O,Q⟩:=Z.mdel_nodup E.1 x
   refine N _ ⟨O,fun i=>?_⟩
   obtain⟨J,V⟩:=E.2 i
   rw[Qbj I]
   by_cases e:i=x
   ·subst e
    rw[Q];simp
   ·obtain⟨q1,W⟩:=Z.mdel_ne z0 s x i e
    rw[W,q1,J]
    refine⟨by simp[e],fun h=>V (by rw[J];exact h)⟩)
  (by have:=Qab;omega) (mapOf g) ⟨by
   unfold mapOf;rw[List.map_map]
   exact(Y9.2 (H.imp fun h=>by simp only[Function.comp];omega)),fun i=>⟨by simp[hs],fun _=>rfl⟩⟩
theorem Qhz (n:Nd)(h:n.2.2.1.length≤5000):F.dL n=some n:=by
 unfold F.dL
 rw[A.gd1 (by simp only[Qm];omega)];rfl
theorem makes_R (g:List Nd)(d:Dl)(W:Sml g)(hp:Sml d.2.1)(h3:d.1.length≤1000):F.e8 g d=some (mrgN d.1 g d.2.1):=by
 have hgl:=W.1
 have hpl:=hp.1
 have main: ∀(n i k f:Nat) (xs:List Nd),(g.length-i)+(d.2.1.length-k)≤n→n<f→i≤g.length→k≤d.2.1.length→xs.length≤i+k→F.bh g d f xs (i:Int) (k:Int)=some (xs++mrgN d.1 (g.drop i) (d.2.1.drop k)):=by
  intro n
  induction n with
  |zero=>
   intro i k f xs hn hf hi hk hx
   obtain⟨f,rfl⟩: ∃f',f=f'+1:=⟨f-1,by omega⟩
   rw[F.bh,A.bo,if_neg (by rw[decide_eq_true_iff];omega),Q2 (by omega),Q2 (by omega),mrgN,Q9]
  |succ n O=>
   intro i k f xs hn hf hi hk hx
   obtain⟨f,rfl⟩: ∃f',f=f'+1:=⟨f-1,by omega⟩
   rw[F.bh,A.bo]
   have put1: ∀(I:Nat) (b:Nd),I≤i+1→I≤g.length→i≤I→d.2.1[k]?=some b→F.dg (F.bh g d f) d xs (k:Int) (I:Int)=some (xs++b::mrgN d.1 (g.drop I) (d.2.1.drop (k+1))):=by
    intro I b J L h4 H
    have hkl:=(Qc.1 H).1
    rw[F.dg,A.ixn H,Qa,show F.dL b=some b from Qhz b (hp.in (Qh H)),Qa,A.gd1 (by simp only[Qd,Qm];omega),A.gd1 (A.r64n (by omega))]
    have:=O I (k+1) f (xs++[b]) (by omega) (by omega) (by omega) (by omega) (by simp only[Qj,Qd,Qm];omega)
    refine Eq.trans this ?_
    rw[Qx];rfl
   have take1: ∀a:Nd,g[i]?=some a→F.bK (F.bh g d f) g d xs (i:Int) (k:Int) true=some (xs++if a.1∈d.1 then mrgN d.1 (g.drop (i+1)) (d.2.1.drop k)else a::mrgN d.1 (g.drop (i+1)) (d.2.1.drop k)):=by
    intro a E
    have hil:=(Qc.1 E).1
    rw[F.bK,if_pos rfl,A.ixn E,Qa,has_eq d.1 a.1 (by omega),Qa]
    simp only[F.eu,Qa]
    by_cases N:a.1∈d.1
    ·rw[decide_eq_true N,if_neg (by simp),A.gd1 (A.r64n (by omega)),if_pos N]
     exact O (i+1) k f xs (by omega) (by omega) (by omega) (by omega) (by omega)
    ·rw[decide_eq_false N,if_pos (show(!false)=true from rfl),show F.dL a=some a from Qhz a (W.in (Qh E)),Qa,A.gd1 (by simp only[Qd,Qm];omega),A.gd1 (A.r64n (by omega)),if_neg N]
     have:=O (i+1) k f (xs++[a]) (by omega) (by omega) (by omega) (by omega) (by simp only[Qj,Qd,Qm];omega)
     refine Eq.trans this ?_
     rw[Qx];rfl
   by_cases Y:(i:Int)<(g.length:Int)∨(k:Int)<(d.2.1.length:Int)
   ·rw[if_pos (decide_eq_true Y)]
    by_cases Q:k<d.2.1.length
    ·have H:d.2.1[k]?=some d.2.1[k]:=Qe Q
     rw[if_neg (by omega),A.dropx H]
     by_cases V:i<g.length
     ·have E:g[i]?=some g[i]:=Qe V
      rw[if_pos (by omega),A.ixn E,Qa,A.ixn H,Qa,A.dropx E,mrgN]
      by_cases J:g[i].1<d.2.1[k].1
      ·rw[decide_eq_true J,take1 _ E,if_pos J,A.dropx H]
      ·rw[decide_eq_false J,F.bK,if_neg Q4,if_pos (by omega),A.ixn E,Qa,A.ixn H,Qa,if_neg J,F.dY]
       by_cases L:g[i].1=d.2.1[k].1
       ·rw[if_pos (decide_eq_true L),A.gd1 (A.r64n (by omega)),if_pos L]
        exact put1 (i+1) _ (by omega) (by omega) (by omega) H
       ·rw[if_neg (by rw[decide_eq_true_iff];exact L),if_neg L,put1 i _ (by omega) (by omega) (by omega) H,A.dropx E]
     ·rw[if_neg (by omega),F.bK,if_neg Q4,if_neg (by omega),F.dY,if_neg Q4,put1 i _ (by omega) (by omega) (by omega) H,Q2 (show g.length≤i by omega),mrgN,mrgN]
    ·have E:g[i]?=some g[i]:=Qe (by omega)
     rw[if_pos (by omega),take1 _ E,A.dropx E,Q2 (show d.2.1.length≤k by omega),mrgN]
   ·rw[if_neg (by rw[decide_eq_true_iff];exact Y),Q2 (show g.length≤i by omega),Q2 (show d.2.1.length≤k by omega),mrgN,Q9]
 have:=main (g.length+d.2.1.length) 0 0 A.FU [] (by omega) (by have:=Qab;omega) (by omega) (by omega) (Qq _)
 exact this
theorem mrgN_sml {g:List Nd}{d:Dl}(E:Sml g)(hp:Sml d.2.1)(L:g.length≤60)(N:d.2.1.length≤60)(H:Inc g)(I:Inc d.2.1):Sml (mrgN d.1 g d.2.1):=by
 refine⟨by have:=Qca d.1 _ g d.2.1 (Qq _);omega,fun n J=>?_⟩
 rcases(Qai d.1 _ g d.2.1 (Qq _) H I n).1 J with h|h
 ·exact hp.2 n h
 ·exact E.2 n h.1
structure Made (g:List Nd) (d:Dl) (x:List Nd):Prop where
 good:Good g
 may:mayB g d=true
 eq:x=mrgN d.1 g d.2.1
 new:Good x
 sml:Sml x
theorem Made.inc {g:List Nd}{d:Dl}{x:List Nd}(h:Made g d x):Inc d.2.1:=by
 have:=h.may;unfold mayB at this;simp only[Qk]at this;exact Qge this.1.2
structure SmD (d:Dl):Prop where
 put:Sml d.2.1
 pl:d.2.1.length≤60
 dl:d.1.length≤60
 ml:d.2.2.length≤60
theorem Qis (g:List Nd)(d:Dl)(O:Sml g)(hl:g.length≤60)(L:SmD d): ∃x e,F.cY g d=some (x,e)∧F.eP g d=some e∧(e≠0→x=[])∧(e=0→Made g d x):=by
 have hdl:=L.dl;have Q:=L.pl;have hml:=L.ml
 obtain⟨e1,c1,c2,c3,_⟩:=Qeu g O
 unfold F.cY F.eP
 rw[c1,c2,Qa,Qa]
 by_cases J:e1=0
 case neg=>rw[if_pos J,if_pos J];exact⟨[],e1,rfl,rfl,fun _=>rfl,fun h=>absurd h J⟩
 have G:=c3 J
 rw[if_neg (fun h=>h J),if_neg (fun h=>h J),Qgh g G.inc (by omega),Qa]
 rw[show F.dK (mapOf g) d=some (mayB g d)from may_P g d (by omega) (by omega) (by omega),show F.ff g d=some (mayB g d)from may_R g d (by omega) (by omega) (by omega) (by omega),Qa,Qa]
 cases Y:mayB g d with
 |false=>exact⟨[],90,rfl,rfl,fun _=>rfl,fun h=>(by cases h)⟩
 |true=>
  simp only[Wt,Qs,if_false]
  have hinc:Inc d.2.1:=by have h:=Y;unfold mayB at h;simp only[Qk]at h;exact Qge h.1.2
  have H:=mrgN_sml (d:=d) O L.put hl Q G.inc hinc
  obtain⟨e2,k1,k2,k3,k4⟩:=Qeu _ H
  rw[show F.e8 g d=some (mrgN d.1 g d.2.1)from makes_R g d O L.put (by omega),Qa,k2,Qa]
  have hr:F.z g d A.FU 0=if d.2.1.all (fun n=>decide (1≤n.1∧n.1≤255))=true then(if e2≠0 then some ([],e2)else some (mrgN d.1 g d.2.1,0))else some ([],80):=by
   by_cases hall:d.2.1.all (fun n=>decide (1≤n.1∧n.1≤255))=true
   ·rw[if_pos hall]
    have hall2:=Q7.1 hall
    refine A.lp0 d.2.1 (fun f y=>F.z g d f y) (fun _ _=>if e2≠0 then some ([],e2)else some (mrgN d.1 g d.2.1,0)) (fun f=>?_) (fun f k x N hk V=>?_) (by have:=Qab;omega)
    ·rw[F.z,if_neg (by omega),show F.du g d=some (mrgN d.1 g d.2.1)from made_P g d G.inc hinc (by omega) (by omega) (by omega) (fun n I=>by have:=G.id I;omega) (fun n I=>by have:=of_decide_eq_true (hall2 n I);omega),Qa,k1,Qa]
     by_cases E:e2=0
     ·rw[if_neg (fun h=>h E),if_neg (fun h=>h E),Clone_eq _ (by have:=(k3 E).len;omega) (fun n I=>H.in I)];rfl
     ·rw[if_pos E,if_pos E]
    ·have:=of_decide_eq_true (hall2 x (Qh N))
     rw[F.z,if_pos (by omega),A.ixn N,Qa,A.bo,if_neg (by rw[decide_eq_true_iff];omega),A.gd1 (A.r64n (by omega)),V]
   ·rw[if_neg hall]
    have:=A.lp0 d.2.1 (fun f y=>F.z g d f y) (fun k l=>if l.all (fun n=>decide (1≤n.1∧n.1≤255))=true then F.z g d 1 (d.2.1.length:Int)else some ([],80))
     (fun f=>by
      rw[F.z,if_neg (by omega)]
      show _=F.z g d (0+1) (d.2.1.length:Int)
      rw[F.z,if_neg (by omega)])
     (fun f k x N hk V=>by
      rw[F.z,if_pos (by omega),A.ixn N,Qa,A.bo]
      have e: ∀r:List Nd,(x::r).all (fun n=>decide (1≤n.1∧n.1≤255))=(decide (1≤x.1∧x.1≤255)&&r.all (fun n=>decide (1≤n.1∧n.1≤255))):=fun r=>rfl
      simp only[e]
      by_cases h:1≤x.1∧x.1≤255
      ·rw[if_neg (by rw[decide_eq_true_iff];omega),A.gd1 (A.r64n (by omega)),V,decide_eq_true h,Wn]
      ·rw[if_pos (by rw[decide_eq_true_iff];omega),decide_eq_false h,Yp,if_neg Q4])
     (by have:=Qab;omega)
    rw[if_neg hall]at this
    exact this
  rw[hr]
  by_cases hall:d.2.1.all (fun n=>decide (1≤n.1∧n.1≤255))=true
  ·rw[if_pos hall]
   by_cases E:e2=0
   ·rw[if_neg (fun h=>h E)]
    exact⟨_,0,rfl,by rw[E],fun h=>absurd rfl h,fun _=>⟨G,Y,rfl,k3 E,H⟩⟩
   ·rw[if_pos E]
    exact⟨[],e2,rfl,rfl,fun _=>rfl,fun h=>absurd h E⟩
  ·rw[if_neg hall]
   have W:e2=80:=k4 (by
    rw[Q7]at hall
    simp only[Classical.not_forall]at hall
    obtain⟨n,I,h⟩:=hall
    rw[decide_eq_true_iff]at h
    exact⟨n,(Qai d.1 _ g d.2.1 (Qq _) G.inc hinc n).2 (.inl I),by omega⟩)
   exact⟨[],80,rfl,by rw[W],fun _=>rfl,fun h=>(by cases h)⟩
def stayB (d:Dl)(n:Nd):Bool:=keepB n.2.1&& !hs d.2.1 n.1&& !decide (n.1∈d.1)
theorem stays_P (g:List Nd)(d:Dl)(e:Int)(Q:g.length≤1000)(V:d.1.length≤1000)(W:d.2.1.length≤1000)(J:F.aF g d=some e)(L:e=0→Inc d.2.1):F.cZ g d=some (if e=0 then(g.filter (stayB d)).map (·.1)else []):=by
 unfold F.cZ
 rw[show F.aF g d=some e from J,Qa]
 by_cases E:e=0
 case neg=>rw[if_neg E,if_neg E,F.b4,F.dS];rfl
 rw[if_pos E,if_pos E,Qgh _ (L E) (by omega),Qa]
 have:=A.lp g (fun f (s:List Int) i=>F.aw g d (mapOf d.2.1) f s i) (fun _ l s=>some (s++(l.filter (stayB d)).map (·.1))) (fun k s=>s.length≤k)
  (fun f s _=>by rw[F.aw,if_neg (by omega),F.b4,F.dS];simp)
  (fun f s k x N hk O H=>by
   rw[F.aw,if_pos (by omega),A.ixn N,Qa,A.lt,keeps_eq,Qa,Qdk _ _ (by omega),Qa]
   have I: ∀y,F.b5 (F.aw g d (mapOf d.2.1) f) s (k:Int) x y=some (s++((if y=true then [x.1]else [])++((g.drop (k+1)).filter (stayB d)).map (·.1))):=fun y=>by
    rw[F.b5]
    simp only[F.cz]
    cases y with
    |true=>rw[if_pos rfl,if_pos rfl,A.gd1 (by simp only[Qd,Qm];omega),A.gd1 (A.r64n (by omega)),H _ (by simp only[Qj,Qd,Qm];omega),Qx]
    |false=>rw[if_neg Q4,if_neg Q4,A.gd1 (A.r64n (by omega)),H s (by omega),Wo]
   rw[I,I,Ww,stayB,show Z.mhas (mapOf d.2.1) x.1=hs d.2.1 x.1 from rfl,Xo]
   generalize hs d.2.1 x.1=bb
   cases keepB x.2.1<;>cases bb<;>by_cases h:x.1∈d.1<;>simp[h])
  (by have:=Qab;omega) [] (Qq _)
 rw[Wo]at this;exact this
theorem each_eq (l:List Int)(I:l.length≤100000):F.cm l=some l:=
 A.lp0 l (fun f y=>F.aP l f y) (fun _ r=>some r)
  (fun f=>by rw[F.aP,if_neg (by omega)])
  (fun f k x E hk H=>by rw[F.aP,if_pos (by omega),A.ixn E,Qa,A.gd1 (A.r64n (by omega)),H];rfl)
  (by have:=Qab;omega)
end Go.Proofs.YtlhiofnikdppeaaGreatDoor
end
section
namespace Go.Proofs.YtlhiofnikdppeaaGreatDoor
open Go.RowKit Go.Graph Go.Utf Go.Ent
abbrev Mp:=List (Int×List En)
def Qjd (m:Mp)(e:En):Mp:=Z.mins m e.1 (Z.mget [] m e.1++[e])
theorem step_get {l:List En}{m:Mp}{e:En}(h: ∀id,Z.mget [] m id=ofP l id): ∀id,Z.mget [] (Qjd m e) id=ofP (l++[e]) id:=fun id=>by
 unfold Qjd
 rw[Vl,h]
 unfold ofP
 rw[List.filter_append,Ww,List.filter_nil]
 by_cases E:id=e.1
 ·rw[if_pos E,E,if_pos (by simp)]
 ·rw[if_neg E,if_neg (by simpa using fun e=>E e.symm),Q9,h];rfl
theorem part_l4 (g:List Nd)(l:List En)(J:l.length≤100000): ∃m:Mp,(∀id,Z.mget [] m id=ofP l id)∧F.cQ g l=F.t g l m A.FU 0 0:=by
 refine⟨l.foldl Qjd [],?_,?_⟩
 ·have: ∀(r q:List En) (m:Mp),(∀id,Z.mget [] m id=ofP q id)→∀id,Z.mget [] (r.foldl Qjd m) id=ofP (q++r) id:=fun r=>by
   induction r with
   |nil=>intro q m h;rw[Q9];exact h
   |cons e r E=>
    intro q m h
    have:=E (q++[e]) (Qjd m e) (step_get h)
    rw[Qx]at this;exact this
  exact this l [] [] fun id=>rfl
 ·unfold F.cQ
  exact A.lp l (fun f (m:Mp) k=>F.aO g l f m k) (fun _ r m=>F.t g l (r.foldl Qjd m) A.FU 0 0) (fun k m=>∀id,Z.mget [] m id=ofP (l.take k) id)
   (fun f m _=>by rw[F.aO,if_neg (by omega)];rfl)
   (fun f m k x H hk I E=>by
    have hlen:(Z.mget ([]:List En) m x.1).length≤l.length:=by
     rw[I];exact Wl (Qcu _ _) (by rw[Qz];omega)
    rw[F.aO,if_pos (by omega),A.ixn H,Qa,A.gd1 (by simp only[Qd,Qm];omega),F.cL,A.gd1 (A.r64n (by omega))]
    refine E (Qjd m x) ?_
    have:=step_get (e:=x) I
    rw[X7,H];exact this)
   (by have:=Qab;omega) [] (fun id=>rfl)
def prt (l:List En):List Nd→Nat→Option Nat
 | [],y=>some y
 |n::r,y=>if keepB n.2.1=true then(if stP n (ofP l n.1)=true then prt l r (y+(ofP l n.1).length)else none)else prt l r y
theorem pKeeps_eq (k:Int):F.dR k=some (keepB k):=by unfold F.dR keepB;rw[A.bo]
theorem part_l3 (g:List Nd)(l:List En)(m:Mp)(I: ∀id,Z.mget [] m id=ofP l id)(O:l.length≤100000)(Q:g.length≤1000):
  F.t g l m A.FU 0 0=match prt l g 0 with
   |some y=>if y=l.length then some (some m,0)else some (none,171)
   |none=>some (none,171):=by
 exact A.lp g (fun f (s:Nat) k=>F.t g l m f (s:Int) k) (fun _ r s=>match prt l r s with
   |some y=>if y=l.length then some (some m,0)else some (none,171)
   |none=>some (none,171)) (fun k s=>s≤k*100000)
  (fun f s _=>by
   show F.t g l m (f+1) (s:Int) _=_
   rw[F.t,if_neg (by omega),prt]
   by_cases h:s=l.length
   ·rw[if_neg (by omega)];simp only[h,if_true]
   ·rw[if_pos (by omega)];simp only[h,if_false])
  (fun f s k x J hk hs H=>by
   show F.t g l m (f+1) (s:Int) _=_
   have L:=Qcu l x.1
   rw[F.t,if_pos (by omega),A.ixn J,Qa,pKeeps_eq,Qa,prt]
   cases N:keepB x.2.1 with
   |false=>
    rw[Xl,if_pos rfl,F.bC,A.gd1 (A.r64n (by omega)),if_neg Q4]
    exact H s (Wl hs (Wd _ (Nat.le_succ k)))
   |true=>
    rw[Wt,if_neg Q4,A.lt,I,if_pos rfl]
    show(F.bc x (ofP l x.1)).bind _=_
    rw[Qcm _ _ (by omega),Qa]
    by_cases E:stP x (ofP l x.1)=true
    ·rw[if_pos E,if_pos E,if_neg (fun h=>h rfl),A.lt,A.gd1 ⟨by omega,by omega⟩,F.bC,A.gd1 (A.r64n (by omega)),show(s:Int)+((ofP l x.1).length:Int)=((s+(ofP l x.1).length:Nat):Int) by omega]
     exact H _ (by omega)
    ·rw[if_neg E,if_neg E];rfl)
  (by have:=Qab;omega) 0 (Xe _)
theorem indexN (g:List Nd)(id:Int)(I:g.length≤1000):F.q g id=some (idx g id):=
 A.lp0 g (fun f y=>F.b g id f y) (fun k l=>some (idxF id k l))
  (fun f=>by rw[F.b,if_neg (by omega)];rfl)
  (fun f k x E hk H=>by
   rw[F.b,if_pos (by omega),A.ixn E,Qa,F.dF,Qa,idxF]
   by_cases h:x.1=id
   ·rw[if_pos (decide_eq_true h),if_pos h]
   ·rw[if_neg (by rw[decide_eq_true_iff];exact h),if_neg h,A.gd1 (A.r64n (by omega)),H])
  (by have:=Qab;omega)
theorem Qin (g:List Nd)(id:Int)(E:g.length≤1000):F.co g id=some (gt g id,hs g id):=by
 unfold F.co
 rw[indexN g id E,Qa]
 rcases Qap z0 g id with⟨e,_,e2,e3⟩|⟨j,n,e,H,_,e2,e3⟩
 ·rw[e,if_pos (by decide),gt,hs,e2,e3];rfl
 ·rw[e,if_neg (by omega),A.ixn H,Qa,gt,hs,e2,e3]
def oddB (g:List Nd)(d:Dl)(m:Mv):Bool:= !hs g m.1|| !hs d.2.1 m.2.1||decide (Qec (gt g m.1) (gt d.2.1 m.2.1) m≠0)
def SmF (d:Dl):Prop:=∀m,m∈d.2.2→m.2.2.2.2.2.2.size≤5000
theorem Qho (l:List Mv)(I:l.length≤100000):F.x l=some l:=
 A.lp0 l (fun f y=>F.f l f y) (fun _ r=>some r)
  (fun f=>by rw[F.f,if_neg (by omega)])
  (fun f k x E hk H=>by rw[F.f,if_pos (by omega),A.ixn E,Qa,A.gd1 (A.r64n (by omega)),H];rfl)
  (by have:=Qab;omega)
theorem odd_l1 (g:List Nd)(d:Dl)(I:g.length≤1000)(hp:d.2.1.length≤1000): ∀(r xs:List Mv),xs.length+r.length≤1000→(∀m,m∈r→m.2.2.2.2.2.2.size≤5000)→F.aQ g d r xs=some (xs++r.filter (oddB g d))
 | [],xs,_,_=>by rw[F.aQ];simp[F.m]
 |m::r,xs,J,L=>by
  have Q:=L m (Qf ..)
  have O:=odd_l1 g d I hp r (xs++[m]) (by simp only[Qj,Qd,Qm]at J ⊢;omega) fun m h=>L m (Qb _ h)
  have V:=odd_l1 g d I hp r xs (by simp only[Qd]at J;omega) fun m h=>L m (Qb _ h)
  have E:(List.length (α:=Mv) xs+List.length (α:=Mv) [m])*64≤140737488355328:=by simp only[Qd,Qm]at J ⊢;omega
  rw[F.aQ,Qin _ _ I,Qa,Qin _ _ hp,Qa,Ww,oddB]
  generalize hs g m.1=b1 at*
  generalize hs d.2.1 m.2.1=b2 at*
  by_cases N:b1=true∧b2=true
  ·obtain⟨rfl,rfl⟩:=N
   rw[if_neg (show ¬((bif !true then true else !true)=true) by decide)]
   show(F.bX (gt g m.1) (gt d.2.1 m.2.1) m).bind _=_
   rw[Fits_eq _ _ _ (by omega),Qa]
   by_cases H:Qec (gt g m.1) (gt d.2.1 m.2.1) m=0
   ·rw[if_neg (fun h=>h H),if_neg (by simp[H]),V]
   ·rw[if_pos H,if_pos (by simp[H]),A.gd1 E]
    refine Eq.trans O ?_
    rw[Qx];rfl
  ·have W:(bif !b1 then true else !b2)=true:=by cases b1<;>cases b2<;>simp at N ⊢
   have Y:(!b1|| !b2)=true:=by cases b1<;>cases b2<;>simp at N ⊢
   rw[if_pos W,if_pos (by rw[Y];rfl),A.gd1 E]
   refine Eq.trans O ?_
   rw[Qx];rfl
theorem odd_P (g:List Nd)(d:Dl)(e:Int)(H:g.length≤1000)(hp:d.2.1.length≤1000)(I:d.2.2.length≤1000)(J:SmF d)(L:F.aF g d=some e):F.dv g d=some (if e=0 then d.2.2.filter (oddB g d)else []):=by
 unfold F.dv
 rw[show F.aF g d=some e from L,Qa]
 by_cases E:e=0
 ·rw[if_pos E,if_pos E,F.m,Qa,Qho _ (by omega),Qa,odd_l1 g d H hp _ _ (by simpa using I) J,Wo]
 ·rw[if_neg E,if_neg E];rfl
abbrev tgt (d:Dl) (m:Mv):Nd:=gt d.2.1 m.2.1
theorem gt_hs {g:List Nd}{id:Int}(h:hs g id=true):(gt g id).1=id∧gt g id∈g:=by
 rcases Qap z0 g id with⟨e,_,e2,e3⟩|⟨j,n,e,E,H,e2,e3⟩
 ·unfold hs at h;rw[e3]at h;cases h
 ·unfold gt;rw[e2];exact⟨H,Qh E⟩
theorem gt_has {g:List Nd}{id:Int}(h: ∀n,n∈g→A.h6 n.1):A.h6 (gt g id).1:=by
 cases E:hs g id with
 |true=>exact h _ (gt_hs E).2
 |false=>unfold gt;rw[Z.mget_none E];exact i64h (by decide) (by decide)
structure Pr (g:List Nd) (d:Dl) (l:List En):Prop where
 sg:Sml g
 gl:g.length≤40
 sd:SmD d
 sf:SmF d
 ll:l.length≤200
 hk: ∀e,e∈l→hasK (key e)
 ht: ∀n,n∈d.2.1→A.h6 n.1
theorem ofP_k {l:List En}(h: ∀e,e∈l→hasK (key e)){id:Int}: ∀e,e∈ofP l id→hasK (key e):=fun e E=>h e (Qdq.1 E).1
theorem add_eq (mm:List (Go.Ent.Ky×Int))(e:En):F.af mm 16 e=some (Z.mins mm (key e) (num e)):=by
 rw[F.af,if_neg (by decide)]
theorem all_l1 (K:List (Go.Ent.Ky×Int)→Option (List En×Int))(x:List En)(mm:List (Go.Ent.Ky×Int))(I:x.length≤100000):F.bp K x A.FU mm 0=K (insM mm x):=
 A.lp x (fun f (mm:List (Go.Ent.Ky×Int)) k=>F.bp K x f mm k) (fun _ r mm=>K (insM mm r)) (fun _ _=>True)
  (fun f mm _=>by rw[F.bp,if_neg (by omega)];rfl)
  (fun f mm k e E hk _ H=>by
   rw[F.bp,if_pos (by omega),A.ixn E,Qa]
   show(F.af mm 16 e).bind _=_
   rw[add_eq,Qa,A.gd1 (A.r64n (by omega))]
   exact H _ trivial)
  (by have:=Qab;omega) mm trivial
theorem all_l2 (K:List (Go.Ent.Ky×Int)→Int→Option (List En×Int))(y:Int)(o:List En×Int)(mm:List (Go.Ent.Ky×Int))(I:o.1.length≤100000):F.bq K y o A.FU mm 0=A.gd (Z.R64 (y+1)) (K (insM mm o.1) (y+1)):=
 A.lp o.1 (fun f (mm:List (Go.Ent.Ky×Int)) k=>F.bq K y o f mm k) (fun _ r mm=>A.gd (Z.R64 (y+1)) (K (insM mm r) (y+1))) (fun _ _=>True)
  (fun f mm _=>by rw[F.bq,if_neg (by omega)];rfl)
  (fun f mm k e E hk _ H=>by
   rw[F.bq,if_pos (by omega),A.ixn E,Qa]
   show(F.af mm 16 e).bind _=_
   rw[add_eq,Qa,A.gd1 (A.r64n (by omega))]
   exact H _ trivial)
  (by have:=Qab;omega) mm trivial
theorem all_l4 (d:Dl)(p:Mp)(l:List En)(hp: ∀id,Z.mget [] p id=ofP l id)(E:l.length≤200): ∀(ids:List Int) (mm:List (Go.Ent.Ky×Int)),F.a3 d p ids mm=F.aR d p A.FU (insM mm (ids.flatMap (ofP l))) 0
 | [],mm=>by rw[F.a3];rfl
 |i::ids,mm=>by
  have:=Qcu l i
  rw[F.a3,A.lt,hp,all_l1 _ _ _ (by omega),all_l4 d p l hp E ids,Y8,Qfh]
theorem mig_len (tn:Nd)(m:Mv)(q:List En):(migP tn m q).1.length≤q.length:=by
 unfold migP
 split
 ·simp
 ·(split)
  ·simp
  ·(split)
   ·have:=Qdu (oneK tn) (q.map (mvE tn m)) []
    rw[Qr]at this;simpa using this
   ·simp
theorem all_l3 (g:List Nd)(d:Dl)(l:List En)(p:Mp)(hp: ∀id,Z.mget [] p id=ofP l id)(H:Pr g d l)(mm:List (Go.Ent.Ky×Int)):
  F.aR d p A.FU mm 0=if(mvs (tgt d) l d.2.2).1≠0 then some ([],(mvs (tgt d) l d.2.2).1)else(F.au (insM mm (mvs (tgt d) l d.2.2).2)).bind fun L=>some (L,0):=by
 have W:=H.ll;have J:=H.sd.pl;have N:=H.sd.ml
 exact A.lp d.2.2 (fun f (mm:List (Go.Ent.Ky×Int)) k=>F.aR d p f mm k) (fun _ r mm=>if(mvs (tgt d) l r).1≠0 then some ([],(mvs (tgt d) l r).1)else(F.au (insM mm (mvs (tgt d) l r).2)).bind fun L=>some (L,0)) (fun _ _=>True)
  (fun f mm _=>by rw[F.aR,if_neg (by omega),mvs,if_neg (fun h=>h rfl)];rfl)
  (fun f mm k m I hk _ O=>by
   have Q:=Qcu l m.1
   have V:(migP (gt d.2.1 m.2.1) m (ofP l m.1)).1.length≤_:=mig_len (tgt d m) m (ofP l m.1)
   rw[F.aR,if_pos (by omega),A.ixn I,Qa,Qin _ _ (by omega),Qa,A.lt,hp]
   show(F.a5 (tgt d m) m (ofP l m.1)).bind _=_
   rw[Migrate_eq _ _ _ (by have:=H.sf m (Qh I);omega) (by omega) (gt_has H.ht) (ofP_k H.hk),Qa]
   by_cases E:(migP (tgt d m) m (ofP l m.1)).2=0
   ·rw[if_neg (fun h=>h E),all_l2 _ _ _ _ (by omega),A.gd1 (A.r64n (by omega)),mvs_good (T:=tgt d) E,Qfh]
    exact O _ trivial
   ·rw[if_pos E,mvs_bad (T:=tgt d) E,if_pos E])
  (by have:=Qab;omega) mm trivial
def stays (g:List Nd)(d:Dl):List Int:=(g.filter (stayB d)).map (·.1)
def allX (g:List Nd)(d:Dl)(l:List En):List En:=(stays g d).flatMap (ofP l)++(mvs (tgt d) l d.2.2).2
def outV (g:List Nd)(d:Dl)(l:List En):List En×Int:=if(mvs (tgt d) l d.2.2).1≠0 then([],(mvs (tgt d) l d.2.2).1)else(foldP false (allX g d l) [],0)
def allV (g:List Nd)(d:Dl)(l:List En)(e:Int):List En×Int:=
 if e≠0 then([],e)else if d.2.2.filter (oddB g d)≠[]then([],181)else match prt l g 0 with
  |some y=>if y=l.length then outV g d l else([],171)
  |none=>([],171)
theorem o_aW {l:List En}: ∀{g:List Nd} {y z:Nat},prt l g y=some z→(∀n,n∈g→keepB n.2.1=true→stP n (ofP l n.1)=true)∧z=y+(((g.filter fun n=>keepB n.2.1).map (·.1)).map fun i=>(ofP l i).length).sum
 | [],y,z,h=>by
  unfold prt at h;injection h with h;exact⟨fun n L=>(by cases L),by simp[h]⟩
 |n::r,y,z,h=>by
  unfold prt at h
  rw[Ww]
  by_cases hk:keepB n.2.1=true
  ·rw[if_pos hk]at h ⊢
   by_cases hs:stP n (ofP l n.1)=true
   ·rw[if_pos hs]at h
    obtain⟨I,J⟩:=o_aW h
    refine⟨fun x H E=>?_,by rw[J,Qv,Qv,List.sum_cons];omega⟩
    rcases Qg.1 H with rfl|H
    ·exact hs
    ·exact I x H E
   ·rw[if_neg hs]at h;cases h
  ·rw[if_neg hk]at h ⊢
   obtain⟨I,J⟩:=o_aW h
   refine⟨fun x H E=>?_,J⟩
   rcases Qg.1 H with rfl|H
   ·exact absurd E hk
   ·exact I x H E
theorem ent_num {n:Nd}{e:En}(hk:keepB n.2.1=true)(h:Qcg n e=true):0≤num e∧num e≤MX:=by
 have E:=Eok.of (a:=n) (b:=n) rfl h
 have hk:=of_decide_eq_true hk
 rcases hk with H|H
 ·exact(E.t H).2
 ·have I:num e=1:=(E.f H).1
  rw[I];exact⟨by decide,by decide⟩
theorem st_og {n:Nd}{l:List En}(hk:keepB n.2.1=true)(h:stP n (ofP l n.1)=true)(H: ∀e,e∈l→hasK (key e)):Og n.1 (ofP l n.1):=
 ⟨dk_st h,fun e E=>⟨(Qdq.1 E).2,ent_num hk ((Qir.1 h).1 e E),H e (Qdq.1 E).1⟩⟩
theorem o_bG {ok:Mv→Bool}: ∀{r:List Mv} {pre:List Int},mvF ok pre r=true→(∀m,m∈r→ok m=true∧m.2.1∉pre)∧r.Pairwise fun a b=>a.2.1≠b.2.1
 | [],_,_=>⟨fun _ h=>(by cases h),List.Pairwise.nil⟩
 |m::r,pre,h=>by
  unfold mvF at h
  simp only[Qk,decide_eq_true_eq]at h
  obtain⟨H,I⟩:=o_bG h.2
  refine⟨fun x E=>?_,Qo.2 ⟨fun x E e=>(H x E).2 (by rw[←e];simp),I⟩⟩
  rcases Qg.1 E with rfl|E
  ·exact h.1
  ·exact⟨(H x E).1,fun hp=>(H x E).2 (We _ hp)⟩
theorem stays_nodup {g:List Nd}{d:Dl}(h:Inc g):(stays g d).Pairwise fun a b=>a≠b:=by
 refine Y9.2 ((h.sublist List.filter_sublist).imp fun h=>?_)
 omega
structure Fin (g:List Nd) (d:Dl) (l:List En):Prop where
 nm:Nm (allX g d l)
 k: ∀e,e∈allX g d l→hasK (key e)
 sn: ∀i,i∈stays g d→∀e,e∈ofP l i→0≤num e∧num e≤MX
theorem Qdt {g:List Nd}{d:Dl}{i:Int}(h:i∈stays g d): ∃n,n∈g∧n.1=i∧keepB n.2.1=true∧hs d.2.1 n.1=false:=by
 obtain⟨n,H,rfl⟩:=Wh.1 h
 obtain⟨I,E⟩:=Yd.1 H
 unfold stayB at E
 simp only[Qk]at E
 exact⟨n,I,rfl,E.1.1,by simpa using E.1.2⟩
theorem o_bH {g:List Nd}{d:Dl}{l:List En}{x:List Nd}(H:Pr g d l)(M:Made g d x){y:Nat}(W:prt l g 0=some y)(Y:(mvs (tgt d) l d.2.2).1=0):Fin g d l:=by
 obtain⟨p1,_⟩:=o_aW W
 obtain⟨e1,e2⟩:=o_bF Y
 have O:mvF (Qar g d.2.1) [] d.2.2=true:=by
  have:=M.may;unfold mayB at this;simp only[Qk]at this;exact this.2
 obtain⟨m1,m2⟩:=o_bG O
 have L: ∀m,m∈d.2.2→hs d.2.1 m.2.1=true:=fun m I=>by
  have:=(m1 m I).1;unfold Qar at this;simp only[Qk]at this;exact this.1.1.1.1.2
 have ogs: ∀i,i∈stays g d→Og i (ofP l i):=fun i J=>by
  obtain⟨n,hn,rfl,hk,_⟩:=Qdt J
  exact st_og hk (p1 n hn hk) H.hk
 have ogm: ∀m,m∈d.2.2→Og m.2.1 (migP (tgt d m) m (ofP l m.1)).1:=fun m I=>by
  have:=(mig_og (e2 m I) (ofP_k H.hk) (gt_has (id:=m.2.1) H.ht)).1
  rw[(gt_hs (L m I)).1]at this;exact this
 have memX: ∀e,e∈allX g d l→(∃i,i∈stays g d∧e∈ofP l i)∨∃m,m∈d.2.2∧e∈(migP (tgt d m) m (ofP l m.1)).1:=fun e E=>by
  rcases Qu.1 E with E|E
  ·exact .inl (Xn.1 E)
  ·rw[e1]at E;exact .inr (Xn.1 E)
 have all: ∀e,e∈allX g d l→(0≤num e∧num e≤MX)∧hasK (key e):=fun e E=>by
  rcases memX e E with⟨i,J,E⟩|⟨m,I,E⟩
  ·exact((ogs i J).e e E).2
  ·exact((ogm m I).e e E).2
 refine⟨⟨?_,fun e E=>(all e E).1⟩,fun e E=>(all e E).2,fun i J e E=>((ogs i J).e e E).2.1⟩
 refine List.pairwise_append.2 ⟨og_flat ogs (stays_nodup M.good.inc),by rw[e1];exact og_flat (c:=fun m:Mv=>m.2.1) ogm m2,fun a Q b N hk=>?_⟩
 obtain⟨i,J,Q⟩:=Xn.1 Q
 rw[e1]at N
 obtain⟨m,I,N⟩:=Xn.1 N
 obtain⟨n,_,rfl,_,V⟩:=Qdt J
 have ee:a.1=b.1:=congrArg (fun k:Go.Ent.Ky=>k.1) hk
 rw[((ogs _ J).e a Q).1,((ogm m I).e b N).1]at ee
 rw[ee,L m I]at V;cases V
theorem flat_len (l:List En){α:Type}(f:α→List En)(n:Nat): ∀(A:List α),(∀a,a∈A→(f a).length≤n)→(A.flatMap f).length≤A.length*n
 | [],_=>by simp
 |a::A,h=>by
  have H:=flat_len l f n A fun x E=>h x (Qb _ E)
  have I:=h a (Qf ..)
  rw[Y8,Qj,Qd,Xi];omega
theorem mvs_len {T:Mv→Nd}{l:List En}: ∀(r:List Mv),(mvs T l r).2.length≤r.length*l.length
 | []=>by simp[mvs]
 |m::r=>by
  unfold mvs
  have E:=mvs_len (T:=T) (l:=l) r
  have H:=mig_len (T m) m (ofP l m.1)
  have I:=Qcu l m.1
  split
  ·simp
  ·rw[Qj,Qd,Xi];omega
theorem Qhn (g:List Nd)(d:Dl):(stays g d).length≤g.length:=by
 unfold stays;rw[Qr];exact Xj _ _
theorem allX_len {g:List Nd}{d:Dl}{l:List En}(H:Pr g d l):(allX g d l).length≤20000:=by
 have I:=flat_len l (ofP l) 200 (stays g d) fun i _=>Wl (Qcu l i) H.ll
 have J:=mvs_len (T:=tgt d) (l:=l) d.2.2
 have L:=Qhn g d
 have N:=H.gl;have E:=H.sd.ml;have h6:=H.ll
 have O:d.2.2.length*l.length≤60*200:=Nat.mul_le_mul E h6
 have Q:(stays g d).length*200≤40*200:=Wd _ (by omega)
 unfold allX;rw[Qj];omega
theorem all_P {g:List Nd}{d:Dl}{l:List En}(H:Pr g d l){e:Int}(L:F.aF g d=some e)(O:e=0→∃x,Made g d x):F.dT g d l=some (allV g d l e):=by
 have Q:=H.ll;have V:=H.gl;have W:=H.sd.pl;have Y:=H.sd.ml;have hdl:=H.sd.dl
 unfold F.dT allV
 rw[show F.aF g d=some e from L,Qa]
 by_cases E:e=0
 case neg=>rw[if_pos E,if_pos E]
 obtain⟨x,M⟩:=O E
 rw[if_neg (fun h=>h E),if_neg (fun h=>h E),show F.dv g d=_ from odd_P g d e (by omega) (by omega) (by omega) H.sf L,Qa,if_pos E,Qho _ (by have:=Xj (oddB g d) d.2.2;omega),Qa]
 cases hod:d.2.2.filter (oddB g d)with
 |cons m r=>rw[F.ci,if_pos (by simp)]
 |nil=>
  obtain⟨p,hp,N⟩:=part_l4 g l (by omega)
  rw[F.ci,if_neg (fun h=>h rfl),N,part_l3 g l p hp (by omega) (by omega)]
  cases hy:prt l g 0 with
  |none=>rfl
  |some y=>
   by_cases I:y=l.length
   case neg=>simp only[I,if_false];rfl
   simp only[I,if_true]
   rw[Qa,A.om_s rfl,if_neg (fun h=>h rfl),show F.cZ g d=_ from stays_P g d e (by omega) (by omega) (by omega) L (fun _=>M.inc),Qa,if_pos E]
   show(F.cm (stays g d)).bind _=_
   rw[each_eq _ (by have:=Qhn g d;omega),Qa,all_l4 d p l hp Q,all_l3 g d l p hp H]
   unfold outV
   by_cases J:(mvs (tgt d) l d.2.2).1=0
   ·have Fi:=o_bH H M hy J
    rw[if_neg (fun h=>h J),if_neg (fun h=>h J),←Qfh]
    show(F.au (insM [] (allX g d l))).bind _=_
    rw[list_put _ Fi.nm Fi.k (by have:=allX_len H;omega),Qa]
   ·rw[if_pos J,if_pos J]
theorem chk_same (g:List Nd)(d:Dl)(E:Sml g)(H:g.length≤60)(I:SmD d): ∃e,F.aF g d=some e∧F.eP g d=some e∧(e=0→∃x,Made g d x):=by
 obtain⟨x,e,a1,a2,_,a4⟩:=Qis g d E H I
 refine⟨e,?_,a2,fun h=>⟨x,a4 h⟩⟩
 unfold F.aF
 rw[show F.cY g d=some (x,e)from a1];rfl
def fewF (s:Int):List Nd→Int
 | []=>s
 |x::r=>fewF (min (s+min (x.2.2.1.length:Int) 1048576+min (x.2.2.2.2.1.size:Int) 1048576+min (x.2.2.2.1.2.2.size:Int) 1048576) 1048576) r
theorem Qdz: ∀(l:List Nd) (s:Int),0≤s→s≤1048576→s≤fewF s l∧fewF s l≤1048576
 | [],s,_,h=>⟨Yo s,h⟩
 |x::r,s,h,E=>by
  unfold fewF
  have:=Qdz r (min (s+min (x.2.2.1.length:Int) 1048576+min (x.2.2.2.2.1.size:Int) 1048576+min (x.2.2.2.1.2.2.size:Int) 1048576) 1048576) (by omega) (by omega)
  omega
theorem fewF_le: ∀(l:List Nd) (s:Int),0≤s→s≤1048576→fewF s l≤5000→∀x∈l,x.2.2.1.length≤5000∧x.2.2.2.2.1.size≤5000∧x.2.2.2.1.2.2.size≤5000
 | [],_,_,_,_,x,E=>by cases E
 |y::r,s,h,I,H,x,E=>by
  unfold fewF at H
  have J:=(Qdz r (min (s+min (y.2.2.1.length:Int) 1048576+min (y.2.2.2.2.1.size:Int) 1048576+min (y.2.2.2.1.2.2.size:Int) 1048576) 1048576) (by omega) (by omega)).1
  rcases Qg.1 E with rfl|E
  ·omega
  ·exact fewF_le r _ (by omega) (by omega) H x E
def fewM (s:Int):List Mv→Int
 | []=>s
 |m::r=>fewM (min (s+min (m.2.2.2.2.2.2.size:Int) 1048576) 1048576) r
theorem fewM_le: ∀(l:List Mv) (s:Int),0≤s→s≤1048576→fewM s l≤5000→s≤5000∧∀m∈l,m.2.2.2.2.2.2.size≤5000
 | [],_,_,_,h=>⟨h,fun x E=>(by cases E)⟩
 |y::r,s,h,J,H=>by
  unfold fewM at H
  obtain⟨L,I⟩:=fewM_le r (min (s+min (y.2.2.2.2.2.2.size:Int) 1048576) 1048576) (by omega) (by omega) H
  refine⟨by omega,fun x E=>?_⟩
  rcases Qg.1 E with rfl|E
  ·omega
  ·exact I x E
theorem concat_eq (q:List (List Nd))(hq:q.length≤10)(h: ∀a,a∈q→a.length≤1000):F.ak q=some q.flatten:=by
 have fl: ∀r:List (List Nd),(∀a,a∈r→a.length≤1000)→r.flatten.length≤r.length*1000:=fun r=>by
  induction r with
  |nil=>intro _;simp
  |cons a r E=>intro h;have N:=E fun a I=>h a (Qb _ I);have I:=h a (Qf ..);rw[List.flatten_cons,Qj,Qd,Xi];omega
 have J:F.g q A.FU [] 0=some q.flatten:=by
  have:=A.lp q (fun f (s:List Nd) k=>F.g q f s k) (fun _ r s=>some (s++r.flatten)) (fun k s=>s.length≤k*1000)
   (fun f s _=>by rw[F.g,if_neg (by omega)];simp)
   (fun f s k a H hk hs E=>by
    have L:=h a (Qh H)
    rw[F.g,if_pos (by omega),A.ixn H,Qa,A.gd1 (by omega),A.gd1 (A.r64n (by omega)),E _ (by rw[Qj,Xi];omega),List.flatten_cons,Qx])
   (by have:=Qab;omega) [] (Xe _)
  rw[Wo]at this;exact this
 unfold F.ak
 have:=A.lp q (fun f (s:Nat) k=>F.d q f (s:Int) k) (fun _ _ _=>some q.flatten) (fun k s=>s≤k*1000)
  (fun f s hs=>by
   show F.d q (f+1) (s:Int) _=_
   rw[F.d,if_neg (by omega),F.br,A.gd1 (by omega),Qa,J])
  (fun f s k a H hk hs E=>by
   have L:=h a (Qh H)
   show F.d q (f+1) (s:Int) _=_
   rw[F.d,if_pos (by omega),A.ixn H,Qa,A.gd1 ⟨by omega,by omega⟩,if_neg (by omega),A.gd1 (A.r64n (by omega)),show(s:Int)+(a.length:Int)=((s+a.length:Nat):Int) by omega]
   exact E _ (by rw[Xi];omega))
  (by have:=Qab;omega) 0 (Xe _)
 exact this
structure Sz (g:List Nd) (d:Dl):Prop where
 sg:Sml g
 gl:g.length≤40
 sd:SmD d
 sf:SmF d
 ml:d.2.2.length≤40
theorem o_bI (g:List Nd)(d:Dl): ∃b,F.ee g d=some b∧(b=true→Sz g d):=by
 have ht1:(List.take (min (g.length:Int) 99).toNat g).length≤99:=by rw[Qz];omega
 have ht2:(List.take (min (d.2.1.length:Int) 99).toNat d.2.1).length≤99:=by rw[Qz];omega
 have ht3:(List.take (min (d.2.2.length:Int) 99).toNat d.2.2).length≤99:=by rw[Qz];omega
 unfold F.ee
 rw[A.gd1 (by omega),A.gd1 (by omega),concat_eq _ (by simp) (fun a E=>by
  rcases Qg.1 E with rfl|E
  ·omega
  ·rw[Qi]at E;subst E;omega),Qa]
 have e2:[List.take (min (g.length:Int) 99).toNat g,List.take (min (d.2.1.length:Int) 99).toNat d.2.1].flatten=List.take (min (g.length:Int) 99).toNat g++List.take (min (d.2.1.length:Int) 99).toNat d.2.1:=by simp
 rw[e2]
 have hlen:(List.take (min (g.length:Int) 99).toNat g++List.take (min (d.2.1.length:Int) 99).toNat d.2.1).length≤198:=by rw[Qj];omega
 generalize O:List.take (min (g.length:Int) 99).toNat g++List.take (min (d.2.1.length:Int) 99).toNat d.2.1=X at hlen ⊢
 have H:0≤fewF 0 X∧fewF 0 X≤1048576:=Qdz X 0 (by omega) (by omega)
 have l2:=A.lp X (fun f s y=>F.b8 g d X f s y) (fun _ r s=>F.bG g d A.FU (fewF s r) 0) (fun _ s=>0≤s∧s≤1048576)
  (fun f s _=>by rw[F.b8,if_neg (by omega),A.gd1 (by omega)];rfl)
  (fun f s k x I hk hp J=>by
   rw[F.b8,if_pos (by omega),A.ixn I,Qa,A.gd1 ⟨⟨by omega,by omega⟩,⟨by omega,by omega⟩,⟨by omega,by omega⟩⟩,A.gd1 (A.r64n (by omega)),J _ (by omega)]
   rfl)
  (by have:=Qab;omega) 0 (by omega)
 rw[l2]
 have l1:=A.lp (List.take (min (d.2.2.length:Int) 99).toNat d.2.2) (fun f s y=>F.bG g d f s y) (fun _ r s=>some (bif bif bif bif decide ((g.length:Int)≤40)then decide ((d.2.1.length:Int)≤40)else false then decide ((d.1.length:Int)≤60)else false then decide ((d.2.2.length:Int)≤40)else false then decide (fewM s r≤5000)else false)) (fun _ s=>0≤s∧s≤1048576)
  (fun f s _=>by rw[F.bG,if_neg (by omega)];rfl)
  (fun f s k x I hk hp J=>by
   rw[F.bG,if_pos (by omega),A.ixn I,Qa,A.gd1 ⟨by omega,by omega⟩,A.gd1 (A.r64n (by omega)),J _ (by omega)]
   rfl)
  (by have:=Qab;omega) (fewF 0 X) H
 rw[l1]
 refine⟨_,rfl,fun h=>?_⟩
 simp only[Xo]at h
 by_cases Q:(g.length:Int)≤40
 case neg=>simp[Q]at h
 by_cases V:(d.2.1.length:Int)≤40
 case neg=>simp[V]at h
 by_cases W:(d.1.length:Int)≤60
 case neg=>simp[W]at h
 by_cases Y:(d.2.2.length:Int)≤40
 case neg=>simp[Y]at h
 simp only[Q,V,W,Y,decide_true,if_true,decide_eq_true_eq]at h
 have t1:List.take (min (g.length:Int) 99).toNat g=g:=Q3 (by omega)
 have t2:List.take (min (d.2.1.length:Int) 99).toNat d.2.1=d.2.1:=Q3 (by omega)
 have t3:List.take (min (d.2.2.length:Int) 99).toNat d.2.2=d.2.2:=Q3 (by omega)
 rw[t1,t2]at O
 rw[t3]at h
 obtain⟨k1,k2⟩:=fewM_le d.2.2 _ H.1 H.2 h
 have L:=fewF_le X 0 (by omega) (by omega) k1
 rw[←O]at L
 exact⟨⟨by omega,fun n N=>L n (We _ N)⟩,by omega,⟨⟨by omega,fun n N=>L n (Wg _ N)⟩,by omega,by omega,by omega⟩,k2,by omega⟩
theorem hasK_of {l:List En}(h:(Z.Ty.slice T49).ok l): ∀e,e∈l→hasK (key e):=fun e E=>by
 have:=h.2 e E
 exact⟨this.1,this.2.1,this.2.2.1⟩
end Go.Proofs.YtlhiofnikdppeaaGreatDoor
end
section
namespace Go.A
theorem fst {α:Type}(l:List α)(p:α→Bool)(L:Nat→Int→Option Int)(J: ∀f,L (f+1) (l.length:Int)=some (-1))
  (N: ∀f (k:Nat) x,l[k]?=some x→k<l.length→L (f+1) (k:Int)=if p x=true then some (k:Int)else L f ((k:Int)+1)) (O:l.length<FU):
  (L FU 0=some (-1)∧∀x∈l,p x=false)∨∃(k:Nat) (x:α),l[k]?=some x∧L FU 0=some (k:Int)∧p x=true∧∀y∈l.take k,p y=false:=by
 have main: ∀(n k f:Nat),k+n=l.length→n<f→(∀y∈l.take k,p y=false)→(L f (k:Int)=some (-1)∧∀x∈l,p x=false)∨∃(i:Nat) (x:α),l[i]?=some x∧L f (k:Int)=some (i:Int)∧p x=true∧∀y∈l.take i,p y=false:=by
  intro n
  induction n with
  |zero=>
   intro k f hk Q hp
   obtain⟨f,rfl⟩: ∃f',f=f'+1:=⟨f-1,by omega⟩
   obtain rfl:k=l.length:=by omega
   rw[Q3 (Qq _)]at hp
   exact .inl ⟨J f,hp⟩
  |succ n V=>
   intro k f hk Q hp
   obtain⟨f,rfl⟩: ∃f',f=f'+1:=⟨f-1,by omega⟩
   have E:l[k]?=some l[k]:=Qe (by omega)
   rw[N f k _ E (by omega)]
   cases H:p l[k]with
   |true=>rw[if_pos rfl];exact .inr ⟨k,_,E,rfl,H,hp⟩
   |false=>
    rw[if_neg Q4]
    refine V (k+1) f (by omega) (by omega) fun y I=>?_
    rw[X7,E]at I
    rcases Qu.1 I with h|h
    ·exact hp y h
    ·rw[Option.toList_some,Qi]at h;rw[h];exact H
 exact main l.length 0 FU (by omega) O (by simp)
end Go.A
end
section
namespace Go.Proofs.YtlhiofnikdppeaaGreatDoor
open Go.RowKit Go.Graph Go.Utf Go.Ent
abbrev nul:Dl:=([],[],[])
theorem stays_nul (g:List Nd):stays g nul=(g.filter fun n=>keepB n.2.1).map (·.1):=by
 unfold stays
 congr 1
 refine List.filter_congr fun n _=>?_
 unfold stayB
 cases keepB n.2.1<;>simp[hs,mapOf,Z.mhas]
theorem allX_nul (g:List Nd)(l:List En):allX g nul l=(stays g nul).flatMap (ofP l):=by
 unfold allX;rw[mvs,Q9]
theorem Qie (L:List En)(x:En)(E:x∈L)(I:L.length≤100000):F.o L x=some true:=by
 unfold F.o
 show(F.ag L x).bind _=_
 unfold F.ag
 rcases A.fst L (fun y=>decide (x=y)) (fun f y=>F.i L x f y) (fun f=>by rw[F.i,if_neg (by omega)])
  (fun f k y H hk=>by
   rw[F.i,if_pos (by omega),A.ixn H,Qa]
   by_cases h:x=y
   ·rw[if_pos (show(x=y)from h),if_pos (decide_eq_true h)]
   ·rw[if_neg (show ¬(x=y)from h),if_neg (by simpa using h),A.gd1 (A.r64n (by omega))])
  (by have:=Qab;omega)with⟨_,h⟩|⟨k,y,_,h,_⟩
 ·have:=h x E;simp at this
 ·rw[h,Qa,decide_eq_true (by omega)]
theorem rises (L:List En)(y:Int)(hs:Srt L)(W:L.length≤100000):F.am (L,0) y A.FU 1=some (decide ((L.length:Int)=y)):=by
 have main: ∀(n k f:Nat),L.length≤k+1+n→n<f→k≤100001→F.am (L,0) y f ((k+1:Nat):Int)=some (decide ((L.length:Int)=y)):=by
  intro n
  induction n with
  |zero=>
   intro k f I J N
   obtain⟨f,rfl⟩: ∃f',f=f'+1:=⟨f-1,by omega⟩
   rw[F.am]
   show(if((k+1:Nat):Int)<((L.length:Nat):Int)then _ else _)=_
   rw[if_neg (by omega)]
  |succ n O=>
   intro k f I J N
   obtain⟨f,rfl⟩: ∃f',f=f'+1:=⟨f-1,by omega⟩
   rw[F.am]
   by_cases hk:k+1<L.length
   ·have Q:L[k]?=some L[k]:=Qe (by omega)
    have V:L[k+1]?=some L[k+1]:=Qe hk
    have E:=X4.1 hs k (k+1) (by omega) hk (by omega)
    have H: ¬(L[k+1].1<L[k].1):=fun Y=>by
     unfold kl at E
     have e1:(key L[k]).1=L[k].1:=rfl
     have e2:(key L[k+1]).1=L[k+1].1:=rfl
     rw[e1,e2,decide_eq_false (by omega),decide_eq_false (show ¬L[k].1=L[k+1].1 by omega)]at E
     simp at E
    rw[if_pos (show((k+1:Nat):Int)<((L.length:Nat):Int) by omega),A.gd1 ⟨by omega,by omega⟩,show((k+1:Nat):Int)-1=(k:Int) by omega,A.ixn Q,Qa,A.ixn V,Qa,if_neg H,A.gd1 ⟨by omega,by omega⟩]
    exact O (k+1) f (by omega) (by omega) (by omega)
   ·rw[if_neg (show ¬(((k+1:Nat):Int)<((L.length:Nat):Int)) by omega)]
 have h:=main (L.length) 0 A.FU (by omega) (by have:=Qab;omega) (by omega)
 exact h
theorem dk_nodup {l:List En}(h:Dk l):l.Nodup:=h.imp fun hk e=>hk (by rw[e])
theorem nothing_l3 (l L:List En)(hs:Srt L)(J:l.length≤200)(E:L.length≤100000)(N: ∀e,e∈l→num e≠0→e∈L):
  F.h l (L,0) A.FU 0 0=some (decide ((L.length:Int)=((l.filter fun e=>decide (num e≠0)).length:Int))):=by
 have:=A.lp l (fun f (s:Nat) k=>F.h l (L,0) f (s:Int) k) (fun _ r s=>some (decide ((L.length:Int)=((s+(r.filter fun e=>decide (num e≠0)).length:Nat):Int)))) (fun k s=>s≤k)
  (fun f s _=>by
   show F.h l (L,0) (f+1) (s:Int) _=_
   rw[F.h,if_neg (by omega),rises L _ hs E];rfl)
  (fun f s k x H hk O I=>by
   show F.h l (L,0) (f+1) (s:Int) _=_
   rw[F.h,if_pos (by omega),A.ixn H,Qa,Ww]
   by_cases h:num x=0
   ·rw[if_neg (show ¬(x.2.2.2≠0)from fun Q=>Q h),if_neg (by simp[h]),F.aT,A.gd1 (A.r64n (by omega))]
    exact I s (by omega)
   ·rw[if_pos (show x.2.2.2≠0 from h),if_pos (by simp[h]),A.gd1 (A.r64n (by omega))]
    show(F.o L x).bind _=_
    rw[Qie L x (N x (Qh H) h) E,Qa,if_neg (by decide),F.aT,A.gd1 (A.r64n (by omega)),show(s:Int)+1=((s+1:Nat):Int) by omega]
    refine Eq.trans (I (s+1) (by omega)) ?_
    rw[Qd]
    congr 3
    omega)
  (by have:=Qab;omega) 0 (Qq _)
 rw[Ws]at this;exact this
theorem Qhr (g:List Nd)(l:List En)(H:Pr g nul l){x:List Nd}(M:Made g nul x)(V:prt l g 0=some l.length):F.h l (foldP false (allX g nul l) [],0) A.FU 0 0=some true:=by
 have N:=H.ll
 have Fi:=o_bH H M V (by rw[mvs])
 obtain⟨p1,p2⟩:=o_aW V
 have E:=(foldP_nil (one:=false) (allX g nul l) (fun e O=>Fi.nm.b e O)).1
 have hids:=stays_nodup (d:=nul) M.good.inc
 have I: ∀e,e∈l→e.1∈stays g nul:=all_of hids (by rw[stays_nul];omega)
 have W: ∀e,e∈allX g nul l↔e∈l:=fun e=>by
  rw[allX_nul]
  exact⟨fun h=>by obtain⟨i,_,h2⟩:=Xn.1 h;exact(Qdq.1 h2).1,fun h=>Xn.2 ⟨e.1,I e h,Qdq.2 ⟨h,rfl⟩⟩⟩
 have hL: ∀e,e∈foldP false (allX g nul l) []↔e∈l.filter fun e=>decide (num e≠0):=fun e=>by
  rw[put_mem Fi.nm,W,Yd,decide_eq_true_iff]
 have Q:Dk l:=List.pairwise_iff_forall_sublist.2 fun {a b} J hk=>by
  have ee:a.1=b.1:=congrArg (fun k:Go.Ent.Ky=>k.1) hk
  obtain⟨n,hn,Y,L,_⟩:=Qdt (I a (J.subset (Qf ..)))
  have og:=st_og L (p1 n hn L) H.hk
  have hs:=J.filter (fun e=>decide (e.1=n.1))
  rw[Ww,if_pos (by simpa using Y.symm),Ww,if_pos (by simpa using (Y.trans ee).symm),List.filter_nil]at hs
  exact List.pairwise_iff_forall_sublist.1 og.dk hs hk
 have hlen:(foldP false (allX g nul l) []).length=(l.filter fun e=>decide (num e≠0)).length:=
  ((List.perm_ext_iff_of_nodup (dk_nodup (dk_srt E.srt)) ((dk_nodup Q).filter _)).2 hL).length_eq
 have hfl:=Xj (fun e=>decide (num e≠0)) l
 rw[nothing_l3 l _ E.srt N (by omega) (fun e O h0=>(put_mem Fi.nm e).2 ⟨(W e).2 O,h0⟩),hlen,decide_eq_true rfl]
theorem outV_nul (g:List Nd)(l:List En):outV g nul l=(foldP false (allX g nul l) [],0):=by
 unfold outV;rw[mvs,if_neg (fun h=>h rfl)]
theorem schemaNothing_plain (g:List Nd)(l:List En)(I:T23.ok g)(N:(Z.Ty.slice T49).ok l):F.bT g l=some true:=by
 have O: ∀y,y=true→F.an g l y=some true:=fun y J=>by rw[F.an,if_pos J,begun_eq];rfl
 unfold F.bT
 rw[begun_eq,Qa,if_neg (by decide)]
 obtain⟨b,Q,V⟩:=o_bQ l N.1
 rw[Q,Qa]
 cases b with
 |false=>rw[if_pos (show(!false)=true from rfl)];exact O true rfl
 |true=>
  rw[if_neg (by decide)]
  obtain⟨b,W,Y⟩:=o_bI g nul
  rw[W,Qa]
  cases b with
  |false=>exact O _ rfl
  |true=>
   have Z:=Y rfl
   have H:Pr g nul l:=⟨Z.sg,Z.gl,Z.sd,Z.sf,V rfl,hasK_of N,fun n hn=>by cases hn⟩
   have hgl:=Z.gl
   obtain⟨e,c1,c2,c3⟩:=chk_same g nul Z.sg (by omega) Z.sd
   rw[F.an,if_neg (by decide),all_P H c1 c3,Qa]
   have bad: ∀v:Int,v≠0→(if(([]:List En),v).2≠0 then some (decide (((([]:List En),v).1.length:Int)=0))else F.h l ([],v) A.FU 0 0)=some true:=fun v L=>by rw[if_pos L];rfl
   by_cases I:e=0
   case neg=>rw[show allV g nul l e=([],e) by unfold allV;rw[if_pos I]];exact bad e I
   obtain⟨x,M⟩:=c3 I
   cases J:prt l g 0 with
   |none=>rw[show allV g nul l e=([],171) by unfold allV;rw[if_neg (fun h=>h I),if_neg (fun h=>h rfl),J]];exact bad 171 (by decide)
   |some y=>
    have L:allV g nul l e=if y=l.length then outV g nul l else([],171):=by unfold allV;rw[if_neg (fun h=>h I),if_neg (fun h=>h rfl),J]
    rw[L]
    by_cases E:y=l.length
    ·rw[if_pos E,outV_nul]
     rw[if_neg (show ¬((foldP false (allX g nul l) [],(0:Int)).2≠0)from fun h=>h rfl)]
     exact Qhr g l H M (E▸J)
    ·rw[if_neg E];exact bad 171 (by decide)
end Go.Proofs.YtlhiofnikdppeaaGreatDoor
end
section
namespace Go.Z
open Go.RowKit
def OpenT (P:Program)(T:TypeId)(t:Ty):Prop:=
 P.cellsOf T=t.size∧∀(H:Type) (enc:TypeId×Value→H) (w:World) (base:Nat) (spare:Nat→Bool) (held:Bool) (fuel:Nat) (cs:List Value) (x:DataW H×List MemPlace),
  DataW.trod enc P w base spare held fuel T cs=some x→∃y:t.den,t.rep w (nt []) cs y
section
variable {P:Program}{T e:TypeId}
theorem ot_int {k:IntKind}(I:P.cellsOf T=1)(J:P.underlying T=some (.int k)):OpenT P T (.int k):=⟨I,fun H enc w base spare held fuel cs x h=>by
 obtain⟨n,rfl,_,E⟩:=DataW.trod_int J h
 refine⟨n,rfl,?_⟩
 simp only[Lit.wf,Qk,decide_eq_true_eq]at E
 exact E⟩
theorem ot_str (E:P.cellsOf T=1)(I:P.underlying T=some .string):OpenT P T .str:=⟨E,fun H enc w base spare held fuel cs x h=>by
 obtain⟨s,rfl,_,hs⟩:=DataW.trod_string I h
 exact⟨s,rfl,hs⟩⟩
def OpenPs (P:Program):List (TypeId×Nat)→Nat→Ty→Prop
 | [],_,_=>False
 | [(T,o')],o,t=>o'=o∧OpenT P T t
 |(T,o')::p::ps,o,.pair a b=>o'=o∧OpenT P T a∧OpenPs P (p::ps) (o+a.size) b
 |_::_::_,_,_=>False
theorem open_ps {H:Type}{enc:TypeId×Value→H}{w:World}{base:Nat}{spare:Nat→Bool}{held:Bool}{fuel:Nat}{cs:List Value}:
  ∀(ps:List (TypeId×Nat)) (o:Nat) (t:Ty),OpenPs P ps o t→(∀p∈ps,∃x,DataW.trod enc P w base spare held fuel p.1 ((cs.drop p.2).take (P.cellsOf p.1))=some x)→∃y:t.den,t.rep w (nt []) ((cs.drop o).take t.size) y
 | [],_,_,h,_=>h.elim
 | [(T,o')],o,t,h,E=>by
  obtain⟨rfl,⟨I,J⟩⟩:=h
  obtain⟨x,E⟩:=E (T,o') (Qi.2 rfl)
  rw[←I];exact J _ _ _ _ _ _ _ _ _ E
 |(T,o')::p::ps,o,.pair a b,h,E=>by
  obtain⟨rfl,⟨I,J⟩,O⟩:=h
  obtain⟨x,Q⟩:=E (T,o') (Qf ..)
  obtain⟨ya,L⟩:=J _ _ _ _ _ _ _ _ _ Q
  obtain⟨yb,N⟩:=open_ps (p::ps) _ b O fun q hq=>E q (Qb _ hq)
  refine⟨(ya,yb),_,_,?_,L,N⟩
  show(cs.drop o').take (a.size+b.size)=_
  rw[I,List.take_add,Y6]
 |_::_::_,_,.int _,h,_=>h.elim
 |_::_::_,_,.byte,h,_=>h.elim
 |_::_::_,_,.bool,h,_=>h.elim
 |_::_::_,_,.str,h,_=>h.elim
 |_::_::_,_,.slice _,h,_=>h.elim
theorem ot_struct {fs:List Field}{t:Ty}(L:P.cellsOf T=t.size)(N:P.underlying T=some (.struct fs.toArray))(h:OpenPs P (fs.map fun f=>(f.type,f.offset)) 0 t):OpenT P T t:=⟨L,fun H enc w base spare held fuel cs x O=>by
 obtain⟨xs,n,_,_,Y,hs,Q⟩:=DataW.trod_struct N O
 have E:cs=(cs.drop 0).take t.size:=by rw[Wq,Q3 (by omega)]
 rw[E]
 refine open_ps (fuel:=n) (enc:=enc) (base:=base) (spare:=spare) (held:=held) _ 0 t h fun p hp=>?_
 obtain⟨f,I,rfl⟩:=Wh.1 hp
 obtain⟨i,J,V⟩:=Xy I
 have W:=Q i f (by rw[Wy,Qe J,V])
 rw[W,Qe (by rw[hs];simpa using J)]
 exact⟨_,rfl⟩⟩
theorem rows_of {t:Ty}{w:World}{g:Addr}: ∀(n:Nat),(∀i,i<n→∃(cs:List Value) (y:t.den),cs.length=t.size∧(∀j u,cs[j]?=some u→w.cell? (g.add (i*t.size+j))=some u)∧t.rep w (nt []) cs y)→
  ∃(cells:List Value) (ys:List t.den),ys.length=n∧cells.length=n*t.size∧(∀j u,cells[j]?=some u→w.cell? (g.add j)=some u)∧∀(i:Nat) (y:t.den),ys[i]?=some y→t.rep w (nt []) ((cells.drop (i*t.size)).take t.size) y
 |0,_=>⟨[],[],rfl,by simp,by simp,by simp⟩
 |n+1,h=>by
  obtain⟨cells,ys,L,I,N,O⟩:=rows_of n fun i E=>h i (by omega)
  obtain⟨cs,y,c1,c2,c3⟩:=h n (by omega)
  refine⟨cells++cs,ys++[y],by simp[L],by rw[Qj,I,c1,Nat.succ_mul],fun j u H=>?_,?_⟩
  ·by_cases J:j<cells.length
   ·rw[Q5 J]at H;exact N j u H
   ·rw[Q1 (by omega)]at H
    have:=c2 _ u H
    rwa[I,show n*t.size+(j-n*t.size)=j by omega]at this
  ·refine Qey (xs:=ys) (ys:=[y]) (by rw[I,L]) O fun i y' E=>?_
   have:i=0:=by have:=(Qc.1 E).1;simp at this;omega
   subst this
   simp at E;subst E
   rw[Nat.zero_mul,Wq,Q3 (by omega)];exact c3
theorem ot_slice {t:Ty}(Y:P.cellsOf T=1)(ht:P.underlying T=some (.slice e))(h:OpenT P e t):OpenT P T (.slice t):=⟨Y,fun H enc w base spare held fuel cs x hx=>by
 rcases DataW.trod_slice ht hx with⟨rfl,_⟩|⟨ad,len,cap,elems,rest,n,_,rfl,_,hb,hl,V,hlen,Q,_,_⟩
 ·exact⟨[],Qfo _⟩
 ·have each: ∀i,i<len→∃(cs:List Value) (y:t.den),cs.length=t.size∧(∀j u,cs[j]?=some u→w.cell? (ad.add (i*t.size+j))=some u)∧t.rep w (nt []) cs y:=fun i hi=>by
   have E:=Q i hi
   rw[Qe (by omega),Y0]at E
   obtain⟨cs',J,L⟩:=E
   obtain⟨_,N,W⟩:=World.cells?_some J
   obtain⟨y,hy⟩:=h.2 _ _ _ _ _ _ _ _ _ L
   rw[h.1]at N W
   refine⟨cs',y,N,fun j u O=>?_,hy⟩
   have I:=(Qc.1 O).1
   have:=W j (by omega)
   rw[add_add]at this
   rw[this,O]
  obtain⟨cells,ys,E,J,L,N⟩:=rows_of len each
  by_cases hz:len=0
  ·subst hz
   have:ys=[]:=Q6 E
   subst this
   exact⟨[],some ad,cap,[],rfl,by simp,V,by simp,.inl rfl,by simp⟩
  ·have hp:=Qao t
   have I:0<cells.length:=by rw[J];exact Nat.mul_pos (by omega) hp
   have h0:=L 0 _ (Qe I)
   have hspot:=World.cell?_spot h0
   obtain⟨b,off,spot⟩:=ad
   simp only[Addr.add]at hspot
   subst hspot
   refine⟨ys,some ⟨b,off,none⟩,cap,cells,by rw[E],by omega,V,by rw[E];exact J,.inr ⟨b,off,rfl,by simp[nt],fun j u O=>?_⟩,N⟩
   have:=L j u O
   rwa[Addr.add_lit]at this⟩
end
end Go.Z
end
section
namespace Go.Proofs.YtlhiofnikdppeaaGreatDoor.schemaNothingDone
open Go.ChangeShapes Go.WideShapes Go.ChangeAt Go.RowKit
theorem own:ownKnob Tryz.prog.godebug=none:=by kernel_rfl
theorem laidOut:laidOutB Tryz.prog=true:=by kernel_rfl
theorem ot3:Z.OpenT Tryz.prog 3 A.ti:=Z.ot_int (by kernel_rfl) Tryz.underlying3
theorem ot25:Z.OpenT Tryz.prog 25 A.TI:=Z.ot_slice (by kernel_rfl) Tryz.underlying25 ot3
theorem ot2:Z.OpenT Tryz.prog 2 A.ti:=Z.ot_int (by kernel_rfl) Tryz.underlying2
theorem ot9:Z.OpenT Tryz.prog 9 Z.Ty.str:=Z.ot_str (by kernel_rfl) Tryz.underlying9
theorem ot41:Z.OpenT Tryz.prog 41 T40:=Z.ot_struct (by kernel_rfl) Tryz.underlying41 ⟨rfl,ot3,rfl,ot2,rfl,ot9⟩
theorem ot55:Z.OpenT Tryz.prog 55 T54:=Z.ot_struct (by kernel_rfl) Tryz.underlying55 ⟨rfl,ot3,rfl,ot3,rfl,ot25,rfl,ot41,rfl,ot9,rfl,ot2,rfl,ot3⟩
theorem ot22:Z.OpenT Tryz.prog 22 (Z.Ty.slice T54):=Z.ot_slice (by kernel_rfl) Tryz.underlying22 ot55
theorem ot24:Z.OpenT Tryz.prog 24 T23:=Z.ot_struct (by kernel_rfl) Tryz.underlying24 ⟨rfl,ot22⟩
theorem ot50:Z.OpenT Tryz.prog 50 T49:=Z.ot_struct (by kernel_rfl) Tryz.underlying50 ⟨rfl,ot3,rfl,ot2,rfl,ot9,rfl,ot2⟩
theorem ot29:Z.OpenT Tryz.prog 29 (Z.Ty.slice T49):=Z.ot_slice (by kernel_rfl) Tryz.underlying29 ot50
set_option maxRecDepth 100000 in
theorem laid_met (os:Os)(args:Array Value):laidMetH Tryz.prog Rows.schemaNothingRow.laid (({World.holding Tryz.prog os ⟨#[],#[],[]⟩with heap:=((World.holding Tryz.prog os ⟨#[],#[],[]⟩).heap.modify 0 (A.putCells A.tabF)).modify 1 (A.putCells A.tabA)}:World).forCall (fun _ _=>0) ⟨#[],args,[]⟩).memory:=by
 rw[MakeChecks.laidMetH_plain _ _ _ (by kernel_rfl)]
 exact(LaidIn.of_run (l:=Rows.schemaNothingRow.laid) [1,0] 8 (by kernel_rfl) (by kernel_rfl) (by kernel_rfl) (by kernel_rfl)).met
theorem of_laid {W:World}(h:laidMetH Tryz.prog Rows.schemaNothingRow.laid W):Lib.Utf8Tabs 0 1 W:=by
 rw[MakeChecks.laidMetH_plain _ _ _ (by kernel_rfl)]at h
 have E:=Lib.laidMet.reads h (.tail _ (.head _))
 rw[show Rows.laid_unicode_utf8_first=Lib.firstData from Pinned.utf8First_eq]at E
 have H:=Lib.laidMet.reads h (.head _)
 rw[show(Rows.laid_unicode_utf8_acceptRanges:DataW Unit)=Lib.acceptData by kernel_rfl]at H
 exact utf8Tabs_of_readsT (U8Types.of196 Tryz.laysValid) ⟨by kernel_rfl,by kernel_rfl,by kernel_rfl,by kernel_rfl,by kernel_rfl,by kernel_rfl,by kernel_rfl⟩ E H
set_option maxHeartbeats 1000000 in
set_option maxRecDepth 100000 in
theorem lifted (os:Os)(started:os.Started)(H:Type)(enc:TypeId×Value→H):
  ReturnsInHanded {} Tryz.checked os 4 .any (fun w args=>(Rows.schemaNothingSpec.pre enc Tryz.prog Tryz.f4 [] false w args∧laidMetH Tryz.prog Rows.schemaNothingRow.laid w)∧sizedMet enc Tryz.prog Tryz.f4 (OpenSpec.ofChange Rows.schemaNothingSpec) false w args) (Rows.schemaNothingSpec.post enc Tryz.prog Tryz.f4 false true false false):=by
 refine returnsInHanded_of_change_and (C:=Tryz.checked) (X:=fun w _=>laidMetH Tryz.prog Rows.schemaNothingRow.laid w) (fun _ _ _ O h=>h.of_heap O) own started (by kernel_rfl) Tryz.func4
  (ChangeSpec.witness_shaped (enc:=enc) (C:=Tryz.checked) (os:=os) (X:=fun w _=>laidMetH Tryz.prog Rows.schemaNothingRow.laid w) false ({World.holding Tryz.prog os ⟨#[],#[],[]⟩with heap:=((World.holding Tryz.prog os ⟨#[],#[],[]⟩).heap.modify 0 (A.putCells A.tabF)).modify 1 (A.putCells A.tabA)}) #[.agg #[.slice none 0 0],.slice none 0 0] 16 rfl (World.shaped_of_RefB (by kernel_rfl) (by kernel_rfl)) (by kernel_rfl) (by kernel_rfl) (by kernel_rfl) (laid_met os _)) ?_
 intro W base args ds gs before hval0 hW hcnd hsz0 hL _
 have hval: ∀(j:Nat) t v,Tryz.f4.params[j]?=some t→args[j]?=some v→Value.okWide Tryz.prog W .any base t v:=hval0
 have hW':=hW
 obtain⟨p,q,L,hV,rfl,hfz,hnd⟩:=hW
 have hA:DataW.TrodAll enc Tryz.prog W 0 (fun _=>true) true Tryz.f4.params.toList args.toList ds p:=L
 rw[Tryz.params4]at hA hval
 obtain⟨v0,vs0,d0,ds0,p0,q0,hargs,rfl,rfl,h0,r0⟩:=trodAll_cons hA
 obtain⟨v1,vs1,d1,ds1,p1,q1,rfl,rfl,rfl,h1,r1⟩:=trodAll_cons r0
 obtain⟨rfl,rfl,rfl⟩:=trodAll_nil r1
 obtain rfl:args=#[v0,v1]:=by cases args;simp_all
 obtain⟨rfl,rfl⟩:=trodVars_none hV
 have k0:=h0
 have lt0: ∀x∈p0,x.block<W.heap.size:=by obtain⟨m,Q⟩:=k0;exact DataW.trod_lt m _ _ _ Q
 obtain⟨fu0,V⟩:=h0
 obtain⟨J,E⟩:=ot24.2 _ _ _ _ _ _ _ _ _ V
 obtain⟨cs0,rfl,_⟩:=okWide_struct Tryz.underlying24 (hval 0 24 v0 rfl rfl)
 replace E:T23.rep W (Z.nt []) cs0.toList J:=E
 have hok0:=Z.rep_ok _ E
 obtain⟨a0,c0,Y⟩: ∃a c,cs0.toList=[.slice a J.length c]:=by obtain⟨a,c,_,h,_⟩:=E;exact⟨a,c,h⟩
 obtain rfl:cs0=#[.slice a0 J.length c0]:=by rw[←Wp (xs:=cs0),Y]
 have k1:=h1
 have lt1: ∀x∈p1,x.block<W.heap.size:=by obtain⟨m,Q⟩:=k1;exact DataW.trod_lt m _ _ _ Q
 obtain⟨fu1,hf1⟩:=h1
 obtain⟨N,I⟩:=ot29.2 _ _ _ _ _ _ _ _ _ hf1
 obtain⟨a1,n1,c1,rfl⟩:=okWide_slice Tryz.underlying29 (hval 1 29 v1 rfl rfl)
 replace I:(Z.Ty.slice T49).rep W (Z.nt []) [.slice a1 n1 c1] N:=I
 have hn1:=(Z.rep_slice_len I).1
 subst hn1
 clear L hval0
 have htab:=of_laid hL
 have hF:F.bT J N=some true:=schemaNothing_plain J N hok0 (Z.rep_ok _ I)
 have hct:=o_av a0 a1 c0 c1 J N true hF
 refine(hct W (fun _=>True) (A.Hp.start ⟨A.Hall.sh E,A.Hall.sh I,A.Hall.tabs htab⟩)).mono ?_
 rintro e W' ⟨v,H',rfl,⟨rfl,rfl⟩,O⟩
 have bel:=O.ch.below
 exact⟨_,rfl,_,_,_,[],_,[],hW',trodAll_mk1 (shut_bool Tryz.underlying4 _),(trodAll_cons_mk (Below.trod laidOut (by kernel_rfl) (of_decide_eq_true (by kernel_rfl)) k0 bel lt0) (trodAll_cons_mk (Below.trod laidOut (by kernel_rfl) (of_decide_eq_true (by kernel_rfl)) k1 bel lt1) trodAll_mk0)),rfl,bel.frame _,fun h=>by cases h⟩
theorem over:Rows.schemaNothingRow.holds Tryz.pinned (OpenSpec.ofChange Rows.schemaNothingSpec):=
 OpenClaim.holds_of_wide 4 Tryz.f4 rfl rfl rfl rfl rfl rfl rfl ⟨rfl,rfl,rfl,rfl,rfl⟩ rfl rfl rfl rfl rfl (by kernel_rfl) Tryz.func4 (by kernel_rfl)
  (of_decide_eq_true (by kernel_rfl)) (by unfold Func.isWrapper;first|(rw[if_pos (by decide+kernel)];kernel_rfl)|(rw[if_neg (by decide+kernel)];exact⟨rfl,rfl⟩))
  (fun os started H enc _=>lifted os started H enc)
theorem proved:Rows.SchemaNothingCardSaid:=
 Claim7.holds_tied_plain_at .later [] [.data,.pinned] true (true,"fcdfc0be3b1b062be7e3b37f3f2dff33e71c31ba5793463b53efd4aa70df77db") false
  over (fun _ h=>by cases h) (by kernel_rfl) (fun _ h=>by cases h) schemaNothing_row_tie rfl ⟨rfl,rfl⟩ (by kernel_rfl) rfl
  (fun f fn I E=>by
   obtain rfl:f=4:=Wz ((show Tryz.prog.funcNamed Rows.schemaNothingRow.func=some 4 by kernel_rfl).symm.trans I) |>.symm
   obtain rfl:fn=Tryz.f4:=(Wz (Tryz.func4.symm.trans E)).symm
   exact⟨by kernel_rfl,fun j t H=>by
    rw[Tryz.params4]at H
    have J:t∈[24,29]:=by simpa using Array.mem_of_getElem? H
    have hall:([24,29].all fun u=> !Tryz.prog.wantsStandIn u)=true:=by kernel_rfl
    exact(show Tryz.prog.wantsStandIn t=false by simpa using Q7.1 hall t J)⟩)
  (by kernel_rfl)
#print axioms proved
end Go.Proofs.YtlhiofnikdppeaaGreatDoor.schemaNothingDone
end
