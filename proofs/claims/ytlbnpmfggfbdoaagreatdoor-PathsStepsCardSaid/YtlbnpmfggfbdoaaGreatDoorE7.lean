/- The law 'PathsSteps' as it is given: whatever the input, the call returns true, and each argument reads behind it as it read before. No condition but that utf8's two tables hold what the library's text lays, which the card ties. -/
import Derived.Test.YtlbnpmfggfbdoaaGreatDoorE6
import Derived.Test.YtlbnpmfggfbdoaaGreatDoorE2
import Derived.Test.YtlbnpmfggfbdoaaGreatDoorE0
import Derived.OpenShut
import Derived.ShutString
import Derived.ChangeOld
import Derived.ChangeArms
import Derived.DataReads
import Derived.Test.YtlbnpmfggfbdoaaGreatDoorRows
import Derived.Test.YtlbnpmfggfbdoaaGreatDoorTie
import Derived.Test.YtlbnpmfggfbdoaaGreatDoorCards
import Derived.Test.YtlbnpmfggfbdoaaGreatDoorE5
import Derived.WalkKit
import Derived.ProofKit
import Derived.Below
import Derived.LaidMore
import Derived.Stop.Joined
import Derived.SevenTiedAt
import Derived.Lib.LaidIn
import Derived.Lib.LaidU8T
import Derived.PinnedBridge
import Derived.SizedLaws
set_option linter.unusedVariables false
set_option linter.unusedSimpArgs false
set_option synthInstance.maxSize 1000000
set_option synthInstance.maxHeartbeats 400000
set_option linter.unusedSectionVars false
section
namespace Go.Proofs.YtlbnpmfggfbdoaaGreatDoor
open Go.RowKit Go.Graph
def F.b8 (a:Int×Int×Int×Int×(Int×Int×Int×Int)):Option Int:=(F.aa a).bind fun r=>if r≠0 then some 0 else some (a.2.1+a.2.2.2.1)
theorem Qfu (g:List Nd)(d:List Int)(id:Int): ∀(k:Nat) (l:List Int) (j:Nat) (z:Int),l[j]?=some z→((id,((k+j:Nat):Int)),iget d (idx g z))∈insS g d id k l
 |_,[],j,z,h=>by simp at h
 |k,y::r,j,z,h=>by
  unfold insS
  cases j with
  |zero=>simp at h;subst h;exact Qg ..
  |succ j=>
   have:=Qfu g d id (k+1) r j z (by simpa using h)
   rw[show k+1+j=k+(j+1) by omega]at this
   exact Qe _ this
theorem spotsF_outP {g:List Nd}(d:List Int): ∀(i:Nat) (l:List Nd) (j:Nat) (n:Nd),l[j]?=some n→n.2.1≠15→((n.1,2),iget d ((i+j:Nat):Int))∈spotsF g d i l
 |_,[],j,n,h,_=>by simp at h
 |i,m::r,j,n,h,H=>by
  unfold spotsF
  cases j with
  |zero=>
   simp at h;subst h
   exact Q8 _ (Q6 _ (by unfold outS;rw[if_pos H];exact Ye _))
  |succ j=>
   have:=spotsF_outP (g:=g) d (i+1) r j n (by simpa using h) H
   rw[show i+1+j=i+(j+1) by omega]at this
   exact Q8 _ (Q8 _ this)
theorem useN_inv (id nd:Int): ∀(k:Nat) (l:List Int) (u:Pl),u∈useN id nd k l→∃j:Nat,u=(nd,((k+j:Nat):Int))∧l[j]?=some id
 |_,[],u,h=>by cases h
 |k,z::r,u,h=>by
  have go:u∈useN id nd (k+1) r→∃j:Nat,u=(nd,((k+j:Nat):Int))∧(z::r)[j]?=some id:=fun h=>by
   obtain⟨j,H,I⟩:=useN_inv id nd (k+1) r u h
   exact⟨j+1,by rw[H,show k+1+j=k+(j+1) by omega],by simpa using I⟩
  unfold useN at h
  split at h
  ·rename_i J
   rcases Qk.1 h with rfl|h
   ·exact⟨0,rfl,by rw[←J];rfl⟩
   ·exact go h
  ·exact go h
theorem Qhi (id:Int): ∀(l:List Nd) (u:Pl),u∈Qar id l→∃n∈l,∃j:Nat,u=(n.1,(j:Int))∧n.2.2.1[j]?=some id
 | [],u,h=>by cases h
 |n::r,u,h=>by
  unfold Qar at h
  rcases Qn.1 h with h|h
  ·obtain⟨j,H,I⟩:=useN_inv id n.1 0 n.2.2.1 u h
   rw[Wf]at H
   exact⟨n,Qg ..,j,H,I⟩
  ·obtain⟨m,H,I⟩:=Qhi id r u h
   exact⟨m,Qe _ H,I⟩
theorem Qit (g:List Nd)(d:List Int)(n:Nd): ∀(k:Nat) (l:List Int) (e:Ed),e∈inE g d n k l→∃(j:Nat) (z:Int),l[j]?=some z∧e=((n.1,((k+j:Nat):Int)),(n.1,2),Qai n (iget d (idx g z)))
 |_,[],e,h=>by cases h
 |k,z::r,e,h=>by
  unfold inE at h
  rcases Qk.1 h with rfl|h
  ·exact⟨0,z,rfl,rfl⟩
  ·obtain⟨j,y,H,I⟩:=Qit g d n (k+1) r e h
   exact⟨j+1,y,by simpa using H,by rw[I,show k+1+j=k+(j+1) by omega]⟩
theorem Qco {g:List Nd}(d:List Int): ∀(i:Nat) (l:List Nd) (e:Ed),e∈edgesF g d i l→∃(j:Nat) (n:Nd),l[j]?=some n∧n.2.1≠15∧(e∈inE g d n 0 n.2.2.1∨e∈outE g n (iget d ((i+j:Nat):Int)))
 |_,[],e,h=>by cases h
 |i,n::r,e,h=>by
  have go:e∈edgesF g d (i+1) r→∃(j:Nat) (m:Nd),(n::r)[j]?=some m∧m.2.1≠15∧(e∈inE g d m 0 m.2.2.1∨e∈outE g m (iget d ((i+j:Nat):Int))):=fun h=>by
   obtain⟨j,m,J,O,I⟩:=Qco d (i+1) r e h
   rw[show i+1+j=i+(j+1) by omega]at I
   exact⟨j+1,m,by simpa using J,O,I⟩
  unfold edgesF at h
  split at h
  ·exact go h
  ·rename_i H
   rcases Qn.1 h with h|h
   ·exact⟨0,n,rfl,H,.inl h⟩
   ·rcases Qn.1 h with h|h
    ·exact⟨0,n,rfl,H,.inr h⟩
    ·exact go h
theorem EndsId (d:Int)(H:0≤d∧d≤4):(idP d).1.1=d∧F.b8 (idP d).1=some d:=five (P:=fun d=>(idP d).1.1=d∧F.b8 (idP d).1=some d) ⟨rfl,by kernel_rfl⟩ ⟨rfl,by kernel_rfl⟩ ⟨rfl,by kernel_rfl⟩ ⟨rfl,by kernel_rfl⟩ ⟨rfl,by kernel_rfl⟩ d H
theorem Qhz (d:Int)(H:0≤d∧d≤4):d≤3→(Qap d).1.1=d∧F.b8 (Qap d).1=some (d+1):=five (P:=fun d=>d≤3→(Qap d).1.1=d∧F.b8 (Qap d).1=some (d+1)) (fun _=>⟨rfl,by kernel_rfl⟩) (fun _=>⟨rfl,by kernel_rfl⟩) (fun _=>⟨rfl,by kernel_rfl⟩) (fun _=>⟨rfl,by kernel_rfl⟩) (fun h=>absurd h (by decide)) d H
theorem Qgz (d:Int)(H:0≤d∧d≤4):1≤d→(Qas d).1.1=d∧F.b8 (Qas d).1=some (d-1):=five (P:=fun d=>1≤d→(Qas d).1.1=d∧F.b8 (Qas d).1=some (d-1)) (fun h=>absurd h (by decide)) (fun _=>⟨rfl,by kernel_rfl⟩) (fun _=>⟨rfl,by kernel_rfl⟩) (fun _=>⟨rfl,by kernel_rfl⟩) (fun _=>⟨rfl,by kernel_rfl⟩) d H
theorem EndsNext (d:Int)(H:0≤d∧d≤4):1≤d→(Qcm d).1.1=d∧F.b8 (Qcm d).1=some d:=five (P:=fun d=>1≤d→(Qcm d).1.1=d∧F.b8 (Qcm d).1=some d) (fun h=>absurd h (by decide)) (fun _=>⟨rfl,by kernel_rfl⟩) (fun _=>⟨rfl,by kernel_rfl⟩) (fun _=>⟨rfl,by kernel_rfl⟩) (fun _=>⟨rfl,by kernel_rfl⟩) d H
theorem within_ends {n:Nd}{L:List Int}{x:Int}{j:Nat}(O:L[j]?=some x)(hq:ownQ n=true)(hlen:L.length=n.2.2.1.length)(h15:n.2.1≠15)(H:0≤depthOf n L)(hx:0≤x∧x≤4)(h14:n.2.1=14→x=n.2.2.2.2.2.2∧1≤x):
  (Qai n x).1=x∧F.b8 (Qai n x)=some (depthOf n L):=by
 have hj:=(Qc.1 O).1
 have hin:=own_ins hq
 have hl:=own_len hq
 unfold depthOf capd Qct at H ⊢
 unfold Qai
 have one:n.2.1≠5→n.2.1≠9→d0 L=x:=fun a b=>by
  have J:L.length=1:=by rcases hl with h|h|h<;>omega
  obtain⟨y,rfl⟩: ∃y,L=[y]:=by
   cases L with
   |nil=>simp at J
   |cons y r=>cases r with
    |nil=>exact⟨y,rfl⟩
    |cons _ _=>simp at J
  obtain rfl:j=0:=by simp at hj;exact hj
  simp at O;subst O;rfl
 by_cases c14:n.2.1=14
 ·obtain⟨e1,e2⟩:=h14 c14
  rw[if_neg (by omega),if_neg (by omega),if_pos c14,if_pos c14,←e1,if_neg (by omega)]
  exact EndsNext x hx e2
 rw[if_neg c14]at H
 rw[if_neg c14,if_neg c14]
 by_cases c12:n.2.1=12
 ·rw[if_pos c12,one (by omega) (by omega)]at H ⊢
  rw[if_pos c12]
  have h3:x≤3:=by split at H<;>omega
  rw[if_neg (by omega)]
  exact Qhz x hx h3
 rw[if_neg c12]at H ⊢
 rw[if_neg c12]
 by_cases c13:n.2.1=13
 ·rw[if_pos c13,one (by omega) (by omega)]at H ⊢
  rw[if_pos c13]
  have h3:1≤x:=by split at H<;>omega
  rw[if_neg (by omega)]
  exact Qgz x hx h3
 rw[if_neg c13]at H ⊢
 rw[if_neg c13]
 suffices h:(if 4<(if n.2.1=5∨n.2.1=9 then(if iget L 0≠iget L 1 then-1 else d0 L)else if n.2.1=11∨n.2.1=16∨n.2.1=15 then(if d0 L≠0 then-1 else d0 L)else d0 L)then-1 else(if n.2.1=5∨n.2.1=9 then(if iget L 0≠iget L 1 then-1 else d0 L)else if n.2.1=11∨n.2.1=16∨n.2.1=15 then(if d0 L≠0 then-1 else d0 L)else d0 L))=x by
  rw[h];exact EndsId x hx
 by_cases c59:n.2.1=5∨n.2.1=9
 ·rw[if_pos c59]at H ⊢
  have J:L.length=2:=by rcases hl with h|h|h<;>omega
  obtain⟨y,z,rfl⟩: ∃y z,L=[y,z]:=by
   cases L with
   |nil=>simp at J
   |cons y r=>cases r with
    |nil=>simp at J
    |cons z r=>cases r with
     |nil=>exact⟨y,z,rfl⟩
     |cons _ _=>simp at J
  have e0:iget [y,z] 0=y:=rfl
  have e1:iget [y,z] 1=z:=rfl
  have e2:d0 [y,z]=y:=rfl
  rw[e0,e1,e2]at H ⊢
  by_cases I:y≠z
  ·rw[if_pos I]at H;rw[if_neg (by omega)]at H;omega
  ·rw[if_neg I]at H ⊢
   have I:y=z:=Wb I
   subst I
   have hxy:y=x:=by
    rcases Y4 j 1 with hj1|hj1
    ·obtain rfl:j=0:=by omega
     simpa using O
    ·obtain rfl:j=1:=by simp at hj;omega
     simpa using O
   subst hxy
   rw[if_neg (by omega)]
 ·rw[if_neg c59,one (by omega) (by omega)]at H ⊢
  by_cases c:n.2.1=11∨n.2.1=16∨n.2.1=15
  ·rw[if_pos c]at H ⊢
   by_cases hx0:x≠0
   ·rw[if_pos hx0]at H;rw[if_neg (by omega)]at H;omega
   ·rw[if_neg hx0,if_neg (by omega)]
  ·rw[if_neg c,if_neg (by omega)]
theorem own_c {n:Nd}(h:ownQ n=true): ¬ownC n:=fun H=>by
 unfold ownQ at h
 split at h
 ·cases h
 ·first|cases h|(rw[if_pos H]at h;cases h)
theorem named_16 {s:ByteArray}(h:named s=true):s.size≤16:=by
 unfold named at h
 simp only[Qm,decide_eq_true_eq]at h
 omega
theorem own_16 {n:Nd}(h:ownQ n=true):n.2.2.2.2.1.size≤16:=by
 unfold ownQ at h
 split at h
 ·cases h
 ·split at h
  ·cases h
  ·split at h
   ·exact named_16 h
   ·rw[decide_eq_true_iff]at h;rw[h];decide
theorem dec_4 (s:ByteArray)(p:Nat):(Utf8.decode s p).2≤4:=by
 have h:=wid_4 s p
 unfold wid at h
 split at h
 ·rename_i e;rw[e];decide
 ·exact h
theorem cnt_4 {s:ByteArray}(h:cnt s s.size 0=1):s.size≤4:=by
 cases H:s.size with
 |zero=>omega
 |succ n=>
  rw[H,cnt,if_pos (by omega)]at h
  have I:=dec_4 s 0
  cases n with
  |zero=>omega
  |succ n=>
   rw[cnt]at h
   split at h
   ·omega
   ·omega
theorem text_16 {f:Fun}(h:Qfh f=true):f.2.2.size≤16:=by
 unfold Qfh at h
 split at h
 ·simp only[Qm,decide_eq_true_eq]at h;omega
 ·split at h
  ·simp only[Qm,decide_eq_true_eq]at h
   have:=cnt_4 h.1;omega
  ·rw[decide_eq_true_iff]at h;rw[h];decide
theorem chk_16 {k:Int}{f:Fun}(h:chk k f=0):f.2.2.size≤16:=by
 unfold chk at h
 split at h
 ·split at h
  ·rename_i I;rw[I];decide
  ·cases h
 ·unfold anyF at h
  split at h
  ·rename_i J
   obtain⟨y,_,H⟩:=Ya.1 J
   simp only[Qm]at H
   exact text_16 H.2.2
  ·cases h
theorem small_of {g:List Nd}(O:g.length≤32)(H:okL g 0 0 g=true)(hc:g.all (fun n=>decide (chk n.2.1 n.2.2.2.1=0))=true):Few g:=by
 have J:=own_of H
 refine⟨by omega,fun x I=>⟨by have:=in2 J I;omega,by have:=own_16 (J x I);omega,?_⟩⟩
 have:=chk_16 (of_decide_eq_true (Qz.1 hc x I))
 omega
theorem whole_all (g:List Nd)(h: ∀x∈g,x.2.2.2.2.1.size≤9223372036854775807∧x.2.2.2.1.2.2.size≤9223372036854775807):Few g∨∃e,e≠0∧F.bJ g=some (none,e):=by
 unfold F.bJ
 by_cases I:(32:Int)<(g.length:Int)
 ·rw[if_pos I];exact .inr ⟨80,by decide,rfl⟩
 rw[if_neg I,whole_l6 g (by omega) (fun x J=>(h x J).1)]
 by_cases H:okL g 0 0 g=true
 case neg=>rw[if_neg H];exact .inr ⟨80,by decide,rfl⟩
 rw[if_pos H,whole_l5 g _ (by omega) (fun x J=>(h x J).2)]
 by_cases O:g.all (fun n=>decide (chk n.2.1 n.2.2.2.1=0))=true
 case neg=>rw[if_neg O];exact .inr ⟨60,by decide,rfl⟩
 exact .inl (small_of (by omega) H O)
def RT {α:Type}(R:α→α→Prop)(a b:α):Prop:=a=b∨Rch R a b
structure Kd (s:Sm) (a b:Int) (up:Prop):Prop where
 from_:s.1=a
 ends:s.2.1+s.2.2.2.1=b
 kept:(s.2.1=a∧a≤b)∨(s.2.1=b∧b=a-1∧s.2.2.1=0)
 add0:0≤s.2.2.1
 addU:up→s.2.1=a∧s.2.2.1=1
theorem kd_id {x b:Int}(H:0≤x∧x≤4)(h:F.b8 (idP x).1=some b){up:Prop}(I: ¬up):Kd (idP x).1 x b up:=by
 have J:=EndsId x H
 rw[J.2]at h
 obtain rfl:=Qp h
 have e:idP x=((x,x,0,0,(0,0,0,0)),0):=by unfold idP Qbl;rw[if_neg (by omega)]
 rw[e]
 exact⟨rfl,by show x+0=x;omega,.inl ⟨rfl,Xm _⟩,Xm _,fun h=>absurd h I⟩
theorem kd_enter {x b:Int}(I:0≤x∧x≤4)(H:(Qap x).1.1=x)(h:F.b8 (Qap x).1=some b){up:Prop}(J: ¬up):Kd (Qap x).1 x b up:=by
 have O:x≤3:=by
  by_cases h4:x≤3
  ·exact h4
  ·have e:Qap x=(z8,11):=by unfold Qap Qbl;rw[if_pos (.inr (by omega))]
   rw[e]at H
   have:(0:Int)=x:=H
   omega
 have h2:=Qhz x I O
 rw[h2.2]at h
 obtain rfl:=Qp h
 have e:Qap x=((x,x,0,1,(0,0,0,0)),0):=by unfold Qap Qbl;rw[if_neg (by omega)]
 rw[e]
 exact⟨rfl,rfl,.inl ⟨rfl,by omega⟩,Xm _,fun h=>absurd h J⟩
theorem kd_leave {x b:Int}(I:0≤x∧x≤4)(H:1≤x)(h:F.b8 (Qas x).1=some b){up:Prop}(J: ¬up):Kd (Qas x).1 x b up:=by
 have O:=Qgz x I H
 rw[O.2]at h
 obtain rfl:=Qp h
 have e:Qas x=((x,x-1,0,0,(0,0,0,0)),0):=by unfold Qas Qbl;rw[if_neg (by omega)]
 rw[e]
 exact⟨rfl,by show x-1+0=x-1;omega,.inr ⟨rfl,rfl,rfl⟩,Xm _,fun h=>absurd h J⟩
theorem kd_next {x b:Int}(I:0≤x∧x≤4)(H:1≤x)(h:F.b8 (Qcm x).1=some b){up:Prop}:Kd (Qcm x).1 x b up:=by
 have J:=EndsNext x I H
 rw[J.2]at h
 obtain rfl:=Qp h
 have e:Qcm x=((x,x,1,0,(0,0,0,0)),0):=by unfold Qcm Qbl;rw[if_neg (by omega)]
 rw[e]
 exact⟨rfl,by show x+0=x;omega,.inl ⟨rfl,Xm _⟩,by show(0:Int)≤1;omega,fun _=>⟨rfl,rfl⟩⟩
theorem node_one {g:List Nd}(I:Inc g){n m:Nd}(J:n∈g)(O:m∈g)(h:m.1=n.1):m=n:=by
 have h1:=(nodeAt I J ((0,0,[],(0,0,(ByteArray.mk #[])),(ByteArray.mk #[]),0,0):Nd)).2
 have H:=(nodeAt I O ((0,0,[],(0,0,(ByteArray.mk #[])),(ByteArray.mk #[]),0,0):Nd)).2
 rw[h,h1]at H
 injection H with H
 exact H.symm
theorem edge_kd {g:List Nd}{l d:List Int}{dm:List (Int×Int)}(W:Whole g l d dm){e:Ed}(he:e∈edges g d):
  ∃a b,(e.1,a)∈spots g d∧(e.2.1,b)∈spots g d∧Kd e.2.2 a b ((∃n∈g,n.1=e.1.1∧n.2.1=14)∧e.1.2≠2)∧∀n∈g,n.1=e.1.1→n.2.1=14→e.1.2≠2→a=n.2.2.2.2.2.2:=by
 obtain⟨j,n,hn,h15,h|h⟩:=Qco d 0 g e he
 ·obtain⟨k,z,hz,rfl⟩:=Qit g d n 0 n.2.2.1 e h
  have hng:=Qf hn
  have hfix:=W.fix hng
  have hidx:=W.inc.idx hn
  have h14x:n.2.1=14→iget d (idx g z)=n.2.2.2.2.2.2∧1≤iget d (idx g z):=fun I=>by
   have hl:=W.lps
   rw[Qbj,Xs]at hl
   have O:=X1.1 hl n hng
   rw[decide_eq_true_iff,not_and]at O
   have h2:=Classical.not_not.1 (O I)
   have hlen:=own_len (W.own n hng)
   have hk:=(Qc.1 hz).1
   obtain rfl:k=0:=by omega
   have hz0:iget n.2.2.1 0=z:=by unfold iget;show(n.2.2.1[0]?).getD 0=z;rw[hz];rfl
   rw[hz0]at h2
   refine⟨h2,?_⟩
   have hc:=own_c (W.own n hng)
   unfold ownC at hc
   rw[h2];omega
  have hw:=within_ends (n:=n) (L:=n.2.2.1.map (dOf g d)) (x:=iget d (idx g z)) (j:=k) (by rw[Qt,hz];rfl) (W.own n hng) (by rw[Qw]) h15 (by rw[←hfix.1];exact hfix.2) (W.inb _) h14x
  obtain⟨J,H⟩:=hw
  rw[←hfix.1,dOf,hidx]at H
  refine⟨iget d (idx g z),iget d ((0+j:Nat):Int),Qax d 0 g n hng _ (Qfu g d n.1 0 n.2.2.1 k z hz),spotsF_outP d 0 g j n hn h15,?_,fun m hm hmn I _=>?_⟩
  ·rw[Wf j]
   show Kd (Qai n (iget d (idx g z))) _ _ _
   have up14:((∃m∈g,m.1=n.1∧m.2.1=14)∧((0+k:Nat):Int)≠2)→n.2.1=14:=fun⟨⟨m,hm,O,h2⟩,_⟩=>by rw[←node_one W.inc hng hm O];exact h2
   unfold Qai at J H ⊢
   by_cases h12:n.2.1=12
   ·rw[if_pos h12]at J H ⊢
    exact kd_enter (W.inb _) J H fun hu=>by have:=up14 hu;omega
   rw[if_neg h12]at J H ⊢
   by_cases h13:n.2.1=13
   ·rw[if_pos h13]at J H ⊢
    have hx1:1≤iget d (idx g z):=by
     by_cases O:1≤iget d (idx g z)
     ·exact O
     ·have e:Qas (iget d (idx g z))=(z8,11):=by unfold Qas Qbl;rw[if_pos (.inl (by omega))]
      have h0:=hfix.2
      have hlen:=own_len (W.own n hng)
      have hk:=(Qc.1 hz).1
      obtain rfl:k=0:=by omega
      have hd0:d0 (n.2.2.1.map (dOf g d))=iget d (idx g z):=by
       rw[←Qis];unfold iget;show((n.2.2.1.map (dOf g d))[0]?).getD 0=_;rw[Qt,hz];rfl
      have hx:=W.inb (idx g z)
      rw[hfix.1]at h0
      unfold depthOf Qct capd at h0
      rw[if_neg (by omega),if_neg h12,if_pos h13,hd0]at h0
      split at h0<;>omega
    exact kd_leave (W.inb _) hx1 H fun hu=>by have:=up14 hu;omega
   rw[if_neg h13]at J H ⊢
   by_cases I:n.2.1=14
   ·rw[if_pos I]at J H ⊢
    exact kd_next (W.inb _) (h14x I).2 H
   ·rw[if_neg I]at J H ⊢
    exact kd_id (W.inb _) H fun hu=>I (up14 hu)
  ·obtain rfl:=node_one W.inc hng hm hmn
   exact(h14x I).1
 ·unfold outE at h
  obtain⟨u,hu,rfl⟩:=Qv.1 h
  obtain⟨m,hm,k,rfl,hk⟩:=Qhi n.1 g u hu
  have hidx:=W.inc.idx hn
  have O:=Qfu g d m.1 0 m.2.2.1 k n.1 hk
  rw[hidx,Wf]at O
  have h2:=spotsF_outP (g:=g) d 0 g j n hn h15
  rw[Wf]at h2 ⊢
  have h3:=EndsId (iget d (j:Int)) (W.inb _)
  exact⟨iget d (j:Int),iget d (j:Int),h2,Qax d 0 g m hm _ O,kd_id (W.inb _) h3.2 fun hu=>hu.2 rfl,fun _ _ _ _ h=>absurd rfl h⟩
abbrev Dp (g:List Nd) (d:List Int) (p:Pl):Int:=Z.mget 0 (spots g d) p
def okW (g:List Nd)(d:List Int)(m:Int)(p q:Pl):Prop:=∃e∈edges g d,e.1=p∧e.2.1=q∧m≤Dp g d p∧m≤Dp g d q
structure Wy0 (g:List Nd) (d:List Int) (p0 pk:Pl) (s:Sm):Prop where
 from_:s.1=Dp g d p0
 ends:s.2.1+s.2.2.2.1=Dp g d pk
 low:s.2.1≤Dp g d p0∧s.2.1≤Dp g d pk
 add0:0≤s.2.2.1
 way:RT (okW g d s.2.1) p0 pk
 turn:1≤s.2.2.1∨∃q,(q,s.2.1)∈spots g d∧RT (okE g (spots g d) (edges g d) s.2.1) p0 q∧RT (okE g (spots g d) (edges g d) s.2.1) q pk
structure Wy (g:List Nd) (d:List Int) (p0 pk:Pl) (s:Sm):Prop where
 weak:Wy0 g d p0 pk s
 turn:1≤s.2.2.1∨∃q,(q,s.2.1)∈spots g d∧RT (okE g (spots g d) (edges g d) s.2.1) p0 q∧RT (okE g (spots g d) (edges g d) s.2.1) q pk∧(Rch (okE g (spots g d) (edges g d) s.2.1) p0 q∨Rch (okE g (spots g d) (edges g d) s.2.1) q pk)
end Go.Proofs.YtlbnpmfggfbdoaaGreatDoor
end
section
namespace Go.Pth
abbrev Ctr:=Bool×Int
abbrev D:=List Ctr
def leC (x y:Ctr):Prop:=if x.1=true∧y.1=false then y.2=1048576 else x.2≤y.2
instance (x y:Ctr):Decidable (leC x y):=by unfold leC;exact inferInstance
def okC (x:Ctr):Prop:=0≤x.2∧x.2≤1048576
def le:D→D→Prop
 | [],[]=>True
 |x::a,y::b=>leC x y∧le a b
 |_,_=>False
instance decLe: ∀a b:D,Decidable (le a b)
 | [],[]=>.isTrue trivial
 |x::a,y::b=>match(inferInstance:Decidable (leC x y)),decLe a b with
  | .isTrue h1,.isTrue h2=>.isTrue ⟨h1,h2⟩
  | .isFalse h1,_=>.isFalse fun h=>h1 h.1
  |_,.isFalse h2=>.isFalse fun h=>h2 h.2
 | [],_::_=>.isFalse fun h=>h
 |_::_,[]=>.isFalse fun h=>h
def ok (a:D):Prop:=∀x∈a,okC x
theorem leC_refl (x:Ctr):leC x x:=by
 unfold leC
 rw[if_neg (fun h=>by rw[h.1]at h;exact absurd h.2 (by decide))]
 exact Xm _
theorem le_refl: ∀a:D,le a a
 | []=>trivial
 |x::a=>⟨leC_refl x,le_refl a⟩
theorem leC_trans {x y z:Ctr}(H:okC x)(I:okC z)(J:leC x y)(O:leC y z):leC x z:=by
 obtain⟨bx,nx⟩:=x
 obtain⟨by',ny⟩:=y
 obtain⟨bz,nz⟩:=z
 unfold leC at*
 unfold okC at*
 simp only at*
 cases bx<;>cases by'<;>cases bz<;>simp at* <;>omega
theorem le_trans: ∀{a b c:D},ok a→ok c→le a b→le b c→le a c
 | [],[],[],_,_,_,_=>trivial
 |x::a,y::b,z::c,I,J,O,h2=>⟨leC_trans (I x (Qg ..)) (J z (Qg ..)) O.1 h2.1,le_trans (fun u H=>I u (Qe _ H)) (fun u H=>J u (Qe _ H)) O.2 h2.2⟩
 | [],_::_,_,_,_,h,_=>h.elim
 |_::_,[],_,_,_,h,_=>h.elim
 | [],[],_::_,_,_,_,h=>h.elim
 |_::_,_::_,[],_,_,_,h=>h.elim
def small (a:D):Prop:=∀x∈a,x.2<1048576
theorem Qdo: ∀{a b:D},small a→small b→le a b→le b a→a=b
 | [],[],_,_,_,_=>rfl
 |x::a,y::b,I,J,O,h2=>by
  have hx:=I x (Qg ..)
  have hy:=J y (Qg ..)
  have e:=Qdo (fun u H=>I u (Qe _ H)) (fun u H=>J u (Qe _ H)) O.2 h2.2
  have h3:=O.1
  have h4:=h2.1
  obtain⟨bx,nx⟩:=x
  obtain⟨by',ny⟩:=y
  unfold leC at h3 h4
  simp only at*
  have:bx=by'∧nx=ny:=by cases bx<;>cases by'<;>simp at* <;>omega
  rw[this.1,this.2,e]
 | [],_::_,_,_,h,_=>h.elim
 |_::_,[],_,_,h,_=>h.elim
def bump (n:Int):D→Option D
 | []=>some []
 | [x]=>if x.2+n≤1048576 then some [(x.1,x.2+n)]else none
 |x::y::r=>(bump n (y::r)).map (x:: ·)
structure Op where
 keep:Nat
 add:Int
 zeros:Nat
def Op.app (o:Op)(d:D):Option D:=(bump o.add (d.take o.keep)).map (· ++List.replicate o.zeros (false,0))
theorem bump_mono {n:Int}(J:0≤n): ∀{a b v:D},ok a→le a b→bump n b=some v→∃u,bump n a=some u∧le u v
 | [],[],v,_,_,h=>⟨[],rfl,by rw[bump]at h;obtain rfl:=Qp h;trivial⟩
 | [x],[y],v,I,H,h=>by
  have hx:=I x (Qg ..)
  have H:=H.1
  unfold bump at h
  split at h
  ·rename_i hy
   obtain rfl:=Qp h
   have key:x.2+n≤1048576∧leC (x.1,x.2+n) (y.1,y.2+n):=by
    obtain⟨bx,nx⟩:=x
    obtain⟨by',ny⟩:=y
    unfold leC okC at*
    simp only at*
    cases bx<;>cases by'<;>simp at* <;>omega
   refine⟨[(x.1,x.2+n)],by unfold bump;rw[if_pos key.1],?_⟩
   exact And.intro key.2 trivial
  ·cases h
 |x::O::a,y::y2::b,v,I,H,h=>by
  rw[bump]at h
  obtain⟨v',h1,rfl⟩:=Wt.1 h
  obtain⟨u,h2,h3⟩:=bump_mono J (a:=O::a) (fun z hz=>I z (Qe _ hz)) H.2 h1
  exact⟨x::u,by rw[bump,h2];rfl,H.1,h3⟩
 | [],_::_,_,_,h,_=>h.elim
 |_::_,[],_,_,h,_=>h.elim
 | [_],_::_::_,_,_,h,_=>h.2.elim
 |_::_::_,[_],_,_,h,_=>h.2.elim
theorem le_take: ∀{a b:D} (k:Nat),le a b→le (a.take k) (b.take k)
 |_,_,0,_=>by rw[List.take_zero,List.take_zero];trivial
 | [],[],k+1,_=>trivial
 |x::a,y::b,k+1,h=>⟨h.1,le_take k h.2⟩
 | [],_::_,_+1,h=>h.elim
 |_::_,[],_+1,h=>h.elim
theorem le_app: ∀{a b:D} (c:D),le a b→le (a++c) (b++c)
 | [],[],c,_=>le_refl c
 |x::a,y::b,c,h=>⟨h.1,le_app c h.2⟩
 | [],_::_,_,h=>h.elim
 |_::_,[],_,h=>h.elim
theorem Op.mono {o:Op}(H:0≤o.add){a b v:D}(I:ok a)(J:le a b)(h:o.app b=some v): ∃u,o.app a=some u∧le u v:=by
 unfold Op.app at h ⊢
 obtain⟨v',O,rfl⟩:=Wt.1 h
 obtain⟨u,h2,h3⟩:=bump_mono H (fun x hx=>I x (Yc hx)) (le_take o.keep J) O
 exact⟨_,by rw[h2];rfl,le_app _ h3⟩
theorem o_bO {n:Int}(J:0≤n): ∀{a v:D},ok a→bump n a=some v→ok v
 | [],v,_,h=>by rw[bump]at h;obtain rfl:=Qp h;intro x O;cases O
 | [x],v,I,h=>by
  unfold bump at h
  split at h
  ·rename_i hy
   obtain rfl:=Qp h
   intro z H;rw[Qj]at H
   subst H
   have:=I x (Qg ..)
   unfold okC at this ⊢
   exact⟨by show 0≤x.2+n;omega,hy⟩
  ·cases h
 |x::x2::a,v,I,h=>by
  rw[bump]at h
  obtain⟨v',h1,rfl⟩:=Wt.1 h
  intro z H;rcases Qk.1 H with rfl|H
  ·exact I _ (Qg ..)
  ·exact o_bO J (a:=x2::a) (fun z H=>I z (Qe _ H)) h1 z H
theorem Op.ok {o:Op}(I:0≤o.add){a v:D}(J:ok a)(h:o.app a=some v):Pth.ok v:=by
 unfold Op.app at h
 obtain⟨v',O,rfl⟩:=Wt.1 h
 intro x H
 rcases Qn.1 H with H|H
 ·exact o_bO I (fun z hz=>J z (Yc hz)) O x H
 ·rw[(List.mem_replicate.1 H).2];unfold okC;decide
theorem bump_len {n:Int}: ∀{a v:D},bump n a=some v→v.length=a.length
 | [],v,h=>by rw[bump]at h;obtain rfl:=Qp h;rfl
 | [x],v,h=>by
  unfold bump at h
  split at h
  ·obtain rfl:=Qp h;rfl
  ·cases h
 |x::H::a,v,h=>by
  rw[bump]at h
  obtain⟨v',I,rfl⟩:=Wt.1 h
  rw[Qi,bump_len (a:=H::a) I];rfl
theorem bump_get {n:Int}: ∀{a v:D} (i:Nat),bump n a=some v→v[i]?=if i+1=a.length then(a[i]?).map (fun x=>(x.1,x.2+n))else a[i]?
 | [],v,i,h=>by rw[bump]at h;obtain rfl:=Qp h;simp
 | [x],v,i,h=>by
  unfold bump at h
  split at h
  ·obtain rfl:=Qp h
   cases i<;>simp
  ·cases h
 |x::I::a,v,i,h=>by
  rw[bump]at h
  obtain⟨v',J,rfl⟩:=Wt.1 h
  cases i with
  |zero=>simp
  |succ i=>
   have:=bump_get (a:=I::a) i J
   rw[Wq,Wq,this]
   simp only[Qi]
   by_cases H:i+1=a.length+1
   ·rw[if_pos H,if_pos (by omega)]
   ·rw[if_neg H,if_neg (by omega)]
section
variable {V:Type}[DecidableEq V]
structure Ed where
 src:V
 tgt:V
 op:Op
variable (E:List (Ed (V:=V)))(i0:V→D)
inductive Way (p:V):V→D→Prop
 |nil:Way p p (i0 p)
 |step {q:V} {s s':D} {e:Ed (V:=V)} (h:Way p q s) (he:e∈E) (hq:e.src=q) (hs:e.op.app s=some s'):Way p e.tgt s'
inductive NW (p:V):V→D→List (V×D)→Prop
 |nil:NW p p (i0 p) [(p,i0 p)]
 |step {q:V} {s s':D} {vis:List (V×D)} {e:Ed (V:=V)} (h:NW p q s vis) (he:e∈E) (hq:e.src=q) (hs:e.op.app s=some s') (hn: ∀x∈vis,x.1=e.tgt→¬le x.2 s'):NW p e.tgt s' ((e.tgt,s')::vis)
variable {E i0}
theorem Way.ok (H: ∀e∈E,0≤e.op.add)(I: ∀p,Pth.ok (i0 p)){p q:V}{s:D}(h:Way E i0 p q s):Pth.ok s:=by
 induction h with
 |nil=>exact I p
 |step _ J _ O ih=>exact Op.ok (H _ J) ih O
theorem NW.way {p q:V}{s:D}{vis:List (V×D)}(h:NW E i0 p q s vis):Way E i0 p q s:=by
 induction h with
 |nil=>exact .nil
 |step _ H hq I _ J=>exact .step J H hq I
theorem NW.pre {p q:V}{s:D}{vis:List (V×D)}(h:NW E i0 p q s vis): ∀x∈vis,∃vis',NW E i0 p x.1 x.2 vis':=by
 induction h with
 |nil=>intro x H;rw[Qj]at H;subst H;exact⟨_,.nil⟩
 |step h I hq J O ih=>
  intro x H
  rcases Qk.1 H with rfl|H
  ·exact⟨_,.step h I hq J O⟩
  ·exact ih x H
theorem Way.under (H: ∀e∈E,0≤e.op.add)(I: ∀p,Pth.ok (i0 p)){p q:V}{s:D}(h:Way E i0 p q s): ∃u vis,NW E i0 p q u vis∧le u s:=by
 induction h with
 |nil=>exact⟨_,_,.nil,le_refl _⟩
 | @step q s s' e h J hq hs ih=>
  obtain⟨u,vis,O,h2⟩:=ih
  obtain⟨w,h3,h4⟩:=Op.mono (H e J) (O.way.ok H I) h2 hs
  by_cases hc: ∃x∈vis,x.1=e.tgt∧le x.2 w
  ·obtain⟨x,hx,h5,h6⟩:=hc
   obtain⟨vis',h7⟩:=O.pre x hx
   rw[h5]at h7
   exact⟨x.2,vis',h7,le_trans (h7.way.ok H I) (Op.ok (H e J) (h.ok H I) hs) h6 h4⟩
  ·exact⟨w,_,.step O J hq h3 fun x hx h5 h6=>hc ⟨x,hx,h5,h6⟩,h4⟩
end
section
variable {V:Type}[DecidableEq V]
structure Net (E:List (Ed (V:=V))) (i0:V→D) (dep:V→Nat) (loops:List V):Prop where
 i0e: ∀p,i0 p=List.replicate (dep p) (true,0)
 keep: ∀e∈E,e.op.keep≤dep e.src
 ends: ∀e∈E,e.op.keep+e.op.zeros=dep e.tgt
 add: ∀e∈E,e.op.add=0∨(e.op.add=1∧e.op.keep=dep e.src∧e.op.zeros=0∧e.tgt∈loops)
 few:loops.length<1048576
variable {E:List (Ed (V:=V))}{i0:V→D}{dep:V→Nat}{loops:List V}(N:Net E i0 dep loops)
include N
theorem Net.add0: ∀e∈E,0≤e.op.add:=fun e H=>by rcases N.add e H with h|h<;>omega
theorem Net.iok (p:V):Pth.ok (i0 p):=by
 rw[N.i0e]
 intro x H
 rw[(List.mem_replicate.1 H).2];unfold okC;decide
theorem Way.len {p q:V}{s:D}(h:Way E i0 p q s):s.length=dep q:=by
 induction h with
 |nil=>rw[N.i0e,Xb]
 | @step q s s' e h H hq I J=>
  unfold Op.app at I
  obtain⟨v,O,rfl⟩:=Wt.1 I
  rw[Ql,Xb,bump_len O,Qu,J,←hq,←N.ends e H]
  have:=N.keep e H
  omega
theorem le_last: ∀(a:D) {x y:Ctr},leC x y→le (a++[x]) (a++[y])
 | [],_,_,h=>⟨h,trivial⟩
 |z::a,_,_,h=>⟨leC_refl z,le_last a h⟩
theorem NW.bound {p q:V}{s:D}{vis:List (V×D)}(h:NW E i0 p q s vis): ∀(i:Nat) (c:Ctr),s[i]?=some c→∃R:List V,R.Nodup∧(R.length:Int)=c.2∧
  ∀r∈R,r∈loops∧∃d c',(r,d)∈vis∧d.length=i+1∧d.take i=s.take i∧d[i]?=some c'∧c'.1=c.1∧c'.2≤c.2:=by
 induction h with
 |nil=>
  intro i c H
  rw[N.i0e,Xc]at H
  split at H
  ·obtain rfl:=Qp H;exact⟨[],X6,rfl,fun r I=>by cases I⟩
  ·cases H
 | @step q s s' vis e h he hq hs hn ih=>
  intro i c H
  have hlen:=h.way.len N
  have hk:=N.keep e he
  rw[hq,←hlen]at hk
  have hs0:=hs
  unfold Op.app at hs
  obtain⟨v,h1,rfl⟩:=Wt.1 hs
  have hvl:v.length=e.op.keep:=by rw[bump_len h1,Qu];omega
  have J:=fun i=>bump_get i h1
  rw[Qu,X7 hk]at J
  by_cases hi:i<e.op.keep
  ·rw[Q7 (by omega)]at H
   have htk: ∀j≤i,(v++List.replicate e.op.zeros (false,0)).take j=s.take j:=fun j hj=>by
    rw[X0 (by omega)]
    refine Wu fun m=>?_
    by_cases hm:m<j
    ·rw[Qq hm,Qq hm,J,if_neg (by omega),Qq (by omega)]
    ·rw[Q5 (by rw[Qu];omega),Q5 (by rw[Qu];omega)]
   rw[J,Qq hi]at H
   have keepR: ∀(c:Ctr),s[i]?=some c→∀c2:Ctr,c2.1=c.1→c.2≤c2.2→∀R:List V,(∀r∈R,r∈loops∧∃d c',(r,d)∈vis∧d.length=i+1∧d.take i=s.take i∧d[i]?=some c'∧c'.1=c.1∧c'.2≤c.2)→
     ∀r∈R,r∈loops∧∃d c',(r,d)∈(e.tgt,v++List.replicate e.op.zeros (false,0))::vis∧d.length=i+1∧d.take i=(v++List.replicate e.op.zeros (false,0)).take i∧d[i]?=some c'∧c'.1=c2.1∧c'.2≤c2.2:=fun c H c2 e1 e2 R hR r I=>by
    obtain⟨a1,d,c',a2,a3,a4,a5,a6,a7⟩:=hR r I
    exact⟨a1,d,c',Qe _ a2,a3,by rw[a4,htk i (Q1 _)],a5,by rw[a6,e1],by omega⟩
   by_cases hl:i+1=e.op.keep
   ·rw[if_pos hl]at H
    obtain⟨c0,O,rfl⟩:=Wt.1 H
    obtain⟨R,r1,r2,r3⟩:=ih i c0 O
    rcases N.add e he with ha|⟨ha,hkd,hz,hlp⟩
    ·rw[ha]
     exact⟨R,r1,by show(R.length:Int)=c0.2+0;omega,keepR c0 O (c0.1,c0.2+0) rfl (by show c0.2≤c0.2+0;omega) R r3⟩
    ·rw[ha]
     have hfull:v++List.replicate e.op.zeros (false,0)=s.take i++[(c0.1,c0.2+1)]:=by
      have h5:=htk i (Q1 _)
      have h6:(v++List.replicate e.op.zeros (false,0)).drop i=[(c0.1,c0.2+1)]:=by
       rw[hz,List.replicate_zero,Wk,Xy (by omega),Q2 (by omega)]
       have h7:=J i
       rw[if_pos hl,Qq hi,O,Wj,ha,Qd (by omega)]at h7
       rw[Qp h7]
      rw[←Xg i (v++List.replicate e.op.zeros (false,0)),h5,h6]
     have hnot:e.tgt∉R:=fun I=>by
      obtain⟨_,d,c',a2,a3,a4,a5,a6,a7⟩:=r3 e.tgt I
      refine hn _ a2 rfl ?_
      have hd:d=s.take i++[c']:=by
       rw[←Xg i d,a4,Xy (by omega),Q2 (by omega)]
       rw[Qd (by omega)]at a5
       rw[Qp a5]
      show le d _
      rw[hfull,hd]
      refine le_last N _ ?_
      unfold leC
      split
      ·rename_i hh;simp only at hh;rw[a6]at hh;rw[hh.1]at hh;exact absurd hh.2 (by decide)
      ·show c'.2≤c0.2+1;omega
     refine⟨e.tgt::R,Wm.2 ⟨hnot,r1⟩,by rw[Qi];show((R.length+1:Nat):Int)=c0.2+1;omega,fun r I=>?_⟩
     rcases Qk.1 I with rfl|I
     ·refine⟨hlp,_,(c0.1,c0.2+1),Qg ..,?_,rfl,?_,rfl,Xm _⟩
      ·rw[Ql,Xb];omega
      ·rw[hfull,We (by rw[Qu];omega),Qu,X7 (by omega),Nat.sub_self];rfl
     ·exact keepR c0 O (c0.1,c0.2+1) rfl (by show c0.2≤c0.2+1;omega) R r3 r I
   ·rw[if_neg hl]at H
    obtain⟨R,r1,r2,r3⟩:=ih i c H
    exact⟨R,r1,r2,keepR c H c rfl (Xm _) R r3⟩
  ·rw[We (by omega),Xc]at H
   split at H
   ·obtain rfl:=Qp H;exact⟨[],X6,rfl,fun r I=>by cases I⟩
   ·cases H
theorem nodup_sub {R L:List V}(h:R.Nodup)(H: ∀r∈R,r∈L):R.length≤L.length:=by
 induction R generalizing L with
 |nil=>exact Xq _
 |cons r R O=>
  rw[Wm]at h
  have I:=H r (Qg ..)
  have:=O (L:=L.erase r) h.2 fun x J=>(List.mem_erase_of_ne (fun e=>h.1 (by rw[←e];exact J))).2 (H x (Qe _ J))
  rw[Y3 I]at this
  have h0:0<L.length:=Y5 I
  rw[Qi];omega
theorem NW.le_loops {p q:V}{s:D}{vis:List (V×D)}(h:NW E i0 p q s vis): ∀c∈s,c.2≤loops.length:=fun c H=>by
 obtain⟨i,I⟩:=Xl H
 obtain⟨R,J,r2,O⟩:=h.bound N i c I
 have:=nodup_sub N J fun r hr=>(O r hr).1
 omega
theorem NW.small {p q:V}{s:D}{vis:List (V×D)}(h:NW E i0 p q s vis):Pth.small s:=fun c H=>by
 have:=h.le_loops N c H
 have:=N.few
 omega
theorem Qdd: ∀{a b:D},Pth.small b→le a b→Pth.small a
 | [],_,_,_=>fun x O=>by cases O
 |x::a,y::b,I,h=>fun z H=>by
  have hy:=I y (Qg ..)
  rcases Qk.1 H with rfl|H
  ·have J:=h.1
   unfold leC at J
   split at J<;>omega
  ·exact Qdd (fun u hu=>I u (Qe _ hu)) h.2 z H
 |_::_,[],_,h=>h.elim
structure Tab (T:V→V→List D):Prop where
 sound: ∀p q s,s∈T p q→Way E i0 p q s
 start: ∀p,(∃q,T p q≠[])→∃u∈T p p,le u (i0 p)
 fix: ∀p,∀e∈E,∀s∈T p e.src,∀s',e.op.app s=some s'→∃u∈T p e.tgt,le u s'
 min: ∀p q,∀u∈T p q,∀s∈T p q,le u s→le s u
end
section
variable {V:Type}[DecidableEq V]{E:List (Ed (V:=V))}{i0:V→D}{dep:V→Nat}{loops:List V}(N:Net E i0 dep loops){T:V→V→List D}(hT:Tab (E:=E) (i0:=i0) T)
include N hT
theorem Tab.all {p q:V}{s:D}(hp: ∃q,T p q≠[])(h:Way E i0 p q s): ∃u∈T p q,le u s:=by
 induction h with
 |nil=>exact hT.start p hp
 | @step q s s' e h H hq J ih=>
  obtain⟨u,I,h2⟩:=ih
  obtain⟨w,h3,h4⟩:=Op.mono (N.add0 e H) ((hT.sound _ _ _ I).ok N.add0 N.iok) h2 J
  rw[←hq]at I
  obtain⟨x,O,h6⟩:=hT.fix p e H u I w h3
  exact⟨x,O,le_trans ((hT.sound _ _ _ O).ok N.add0 N.iok) (Op.ok (N.add0 e H) (h.ok N.add0 N.iok) J) h6 h4⟩
theorem Tab.nw {p q:V}{s:D}(H:s∈T p q): ∃vis,NW E i0 p q s vis:=by
 have J:=hT.sound _ _ _ H
 obtain⟨u,vis,I,O⟩:=J.under N.add0 N.iok
 obtain⟨x,h3,h4⟩:=hT.all N ⟨q,fun e=>by rw[e]at H;cases H⟩ I.way
 have o1:=J.ok N.add0 N.iok
 have o2:=I.way.ok N.add0 N.iok
 have o3:=(hT.sound _ _ _ h3).ok N.add0 N.iok
 have h5:=hT.min p q x h3 s H (le_trans o3 o1 h4 O)
 have h6:=le_trans o1 o2 h5 h4
 have h7:=I.small N
 obtain rfl:=Qdo h7 (Qdd N h7 h6) O h6
 exact⟨vis,I⟩
theorem Tab.small {p q:V}{s:D}(H:s∈T p q):Pth.small s:=by
 obtain⟨vis,h⟩:=hT.nw N H;exact h.small N
theorem Tab.anti {p q:V}{u s:D}(H:u∈T p q)(I:s∈T p q)(h:le u s):u=s:=Qdo (hT.small N H) (hT.small N I) h (hT.min p q u H s I h)
theorem Tab.step {p q:V}{s:D}(H:s∈T p q):(p=q∧s=i0 p)∨∃e∈E,e.tgt=q∧∃u∈T p e.src,e.op.app u=some s:=by
 have hw:=hT.sound _ _ _ H
 have hp: ∃q,T p q≠[]:=⟨q,fun e=>by rw[e]at H;cases H⟩
 have o1:=hw.ok N.add0 N.iok
 cases hw with
 |nil=>exact .inl ⟨rfl,rfl⟩
 | @step q0 s0 _ e h J hq h2=>
  obtain⟨u,I,h3⟩:=hT.all N hp h
  obtain⟨w,O,h5⟩:=Op.mono (N.add0 e J) ((hT.sound _ _ _ I).ok N.add0 N.iok) h3 h2
  rw[←hq]at I
  obtain⟨x,h6,h7⟩:=hT.fix p e J u I w O
  have o2:=Op.ok (N.add0 e J) ((hT.sound _ _ _ I).ok N.add0 N.iok) O
  have o3:=(hT.sound _ _ _ h6).ok N.add0 N.iok
  obtain rfl:=hT.anti N h6 H (le_trans o3 o1 h7 h5)
  obtain rfl:=Qdo (Qdd N (hT.small N H) h5) (hT.small N H) h5 h7
  exact .inr ⟨e,J,rfl,u,I,O⟩
end
end Go.Pth
end
section
namespace Go.Proofs.YtlbnpmfggfbdoaaGreatDoor
open Go.RowKit Go.Graph
inductive Form (x y:Int) (s:Sm):Prop where
 |id (h:s=(x,x,0,0,(0,0,0,0))) (hy:y=x)
 |enter (h:s=(x,x,0,1,(0,0,0,0))) (hx:x≤3) (hy:y=x+1)
 |leave (h:s=(x,x-1,0,0,(0,0,0,0))) (hx:1≤x) (hy:y=x-1)
 |next (h:s=(x,x,1,0,(0,0,0,0))) (hx:1≤x) (hy:y=x)
theorem form_of {x a b:Int}{up:Prop}(hx:0≤x∧x≤4){n:Nd}{s:Sm}(hs:s=Qai n x∨s=(idP x).1)(K:Kd s a b up)(ha:a=x):Form x b s:=by
 have O:s=z8→Form x b s:=fun e=>by
  have I:=K.from_
  have H:=K.ends
  rw[e]at I H
  have I:(0:Int)=a:=I
  have H:(0:Int)+0=b:=H
  exact .id (by rw[e,←ha,←I];rfl) (by omega)
 have st: ∀(lo hi:Int) (t:Sm),s=(Qbl x lo hi t).1→s=z8∨(¬(x<lo∨hi<x)∧s=(x,t.2)):=fun lo hi t h=>by
  unfold Qbl at h
  split at h
  ·exact .inl h
  ·rename_i I;exact .inr ⟨I,h⟩
 have J:s=(idP x).1→Form x b s:=fun h=>by
  rcases st 0 4 _ h with h|⟨I,h⟩
  ·exact O h
  ·have H:=K.ends
   rw[h]at H
   have H:x+0=b:=H
   exact .id h (by omega)
 rcases hs with h|h
 ·unfold Qai at h
  split at h
  ·rcases st 0 3 _ h with h|⟨I,h⟩
   ·exact O h
   ·have H:=K.ends
    rw[h]at H
    have H:x+1=b:=H
    exact .enter h (by omega) (by omega)
  ·split at h
   ·rcases st 1 4 _ h with h|⟨I,h⟩
    ·exact O h
    ·have H:=K.ends
     rw[h]at H
     have H:x-1+0=b:=H
     exact .leave h (by omega) (by omega)
   ·split at h
    ·rcases st 1 4 _ h with h|⟨I,h⟩
     ·exact O h
     ·have H:=K.ends
      rw[h]at H
      have H:x+0=b:=H
      exact .next h (by omega) (by omega)
    ·exact J h
 ·exact J h
end Go.Proofs.YtlbnpmfggfbdoaaGreatDoor
end
section
namespace Go.Pth
theorem filter_le {α:Type}{P Q:α→Bool}: ∀{l:List α},(∀x∈l,P x=true→Q x=true)→(l.filter P).length≤(l.filter Q).length
 | [],_=>Q1 _
 |x::l,h=>by
  have H:=filter_le (l:=l) fun y I=>h y (Qe _ I)
  have J:=h x (Qg ..)
  rw[Xk,Xk]
  by_cases hp:P x=true
  ·rw[if_pos hp,if_pos (J hp),Qi,Qi];omega
  ·rw[if_neg hp];split
   ·rw[Qi];omega
   ·exact H
theorem filter_lt {α:Type}{P Q:α→Bool}: ∀{l:List α},(∀x∈l,P x=true→Q x=true)→(∃x∈l,Q x=true∧P x=false)→(l.filter P).length <(l.filter Q).length
 | [],_,h=>by obtain⟨x,I,_⟩:=h;cases I
 |x::l,h,he=>by
  have O:=fun y H=>h y (Qe x H)
  have ih:=filter_le O
  have I:=h x (Qg ..)
  obtain⟨y,H,h2,h3⟩:=he
  rw[Xk,Xk]
  rcases Qk.1 H with rfl|H
  ·rw[if_neg (by rw[h3];decide),if_pos h2,Qi];omega
  ·have J:=filter_lt O ⟨y,H,h2,h3⟩
   by_cases hp:P x=true
   ·rw[if_pos hp,if_pos (I hp),Qi,Qi];omega
   ·rw[if_neg hp];split
    ·rw[Qi];omega
    ·exact J
theorem nodup_le {α:Type}[DecidableEq α]: ∀{R L:List α},R.Nodup→(∀r∈R,r∈L)→R.length≤L.length
 | [],_,_,_=>Xq _
 |r::R,L,h,H=>by
  rw[Wm]at h
  have I:=H r (Qg ..)
  have:=nodup_le (L:=L.erase r) h.2 fun x J=>(List.mem_erase_of_ne (fun e=>h.1 (by rw[←e];exact J))).2 (H x (Qe _ J))
  rw[Y3 I]at this
  have O:0<L.length:=Y5 I
  rw[Qi];omega
section
variable {S:Type}[DecidableEq S]{ctr:S→D}{lt:S→S→Prop}
structure Lin (lt:S→S→Prop):Prop where
 irr: ∀a,¬lt a a
 tr: ∀a b c,lt a b→lt b c→lt a c
 tri: ∀a b,a≠b→lt a b∨lt b a
def less (ctr:S→D)(lt:S→S→Prop)(a b:S):Prop:=le (ctr a) (ctr b)∧(¬le (ctr b) (ctr a)∨lt a b)
def IsLst (ctr:S→D)(lt:S→S→Prop)(l r:List S):Prop:=r.Pairwise lt∧∀s,s∈r↔s∈l∧∀x∈l,¬less ctr lt x s
theorem pw_ext (L:Lin lt): ∀{a b:List S},a.Pairwise lt→b.Pairwise lt→(∀s,s∈a↔s∈b)→a=b
 | [],[],_,_,_=>rfl
 | [],y::b,_,_,h=>by have:=(h y).2 (Qg ..);cases this
 |x::a,[],_,_,h=>by have:=(h x).1 (Qg ..);cases this
 |x::a,y::b,J,O,h=>by
  rw[Wi]at J O
  have e:x=y:=by
   rcases Qk.1 ((h x).1 (Qg ..))with H|H
   ·exact H
   rcases Qk.1 ((h y).2 (Qg ..))with h2|h2
   ·exact h2.symm
   ·exact absurd (L.tr _ _ _ (O.1 x H) (J.1 y h2)) (L.irr _)
  subst e
  rw[pw_ext L J.2 O.2 fun s=>⟨fun I=>?_,fun I=>?_⟩]
  ·rcases Qk.1 ((h s).1 (Qe _ I))with rfl|H
   ·exact absurd (J.1 _ I) (L.irr _)
   ·exact H
  ·rcases Qk.1 ((h s).2 (Qe _ I))with rfl|H
   ·exact absurd (O.1 _ I) (L.irr _)
   ·exact H
theorem IsLst.uniq (L:Lin lt){l r r':List S}(h:IsLst ctr lt l r)(h':IsLst ctr lt l r'):r=r':=pw_ext L h.1 h'.1 fun s=>(h.2 s).trans (h'.2 s).symm
theorem less_irr (L:Lin lt)(a:S): ¬less ctr lt a a:=fun h=>h.2.elim (fun h=>h (le_refl _)) (L.irr a)
theorem less_tr (L:Lin lt){a b c:S}(O:ok (ctr a))(hb:ok (ctr b))(hc:ok (ctr c))(H:less ctr lt a b)(I:less ctr lt b c):less ctr lt a c:=by
 refine⟨le_trans O hc H.1 I.1,?_⟩
 by_cases h:le (ctr c) (ctr a)
 ·right
  have h3:lt b c:=I.2.resolve_left fun J=>J (le_trans hc hb h H.1)
  have h5:lt a b:=H.2.resolve_left fun J=>J (le_trans hb O I.1 h)
  exact L.tr _ _ _ h5 h3
 ·exact .inl h
open Classical in
theorem IsLst.cov (L:Lin lt){l r:List S}(h:IsLst ctr lt l r)(O: ∀s∈l,ok (ctr s)): ∀s∈l,∃u∈r,le (ctr u) (ctr s):=by
 have main: ∀n s,s∈l→(l.filter fun x=>decide (less ctr lt x s)).length≤n→∃u∈r,le (ctr u) (ctr s):=by
  intro n
  induction n with
  |zero=>
   intro s I hn
   refine⟨s,(h.2 s).2 ⟨I,fun x H J=>?_⟩,le_refl _⟩
   have:=Y5 ((Yn (p:=fun x=>decide (less ctr lt x s))).2 ⟨H,decide_eq_true J⟩)
   omega
  |succ n ih=>
   intro s I hn
   by_cases H: ∃x∈l,less ctr lt x s
   ·obtain⟨x,H,J⟩:=H
    have hlt:(l.filter fun y=>decide (less ctr lt y x)).length <(l.filter fun y=>decide (less ctr lt y s)).length:=
     filter_lt (fun y hy h1=>decide_eq_true (less_tr L (O y hy) (O x H) (O s I) (of_decide_eq_true h1) J)) ⟨x,H,decide_eq_true J,decide_eq_false (less_irr L x)⟩
    obtain⟨u,h1,h2⟩:=ih x H (by omega)
    exact⟨u,h1,le_trans (O u ((h.2 u).1 h1).1) (O s I) h2 J.1⟩
   ·exact⟨s,(h.2 s).2 ⟨I,fun x hx2 J=>H ⟨x,hx2,J⟩⟩,le_refl _⟩
 exact fun s I=>main _ s I (Q1 _)
end
def Uv (B:Nat):Nat→List D
 |0=>[[]]
 |n+1=>(List.range (B+1)).flatMap fun(c:Nat)=>(Uv B n).flatMap fun d=>[(true,(c:Int))::d,(false,(c:Int))::d]
theorem flat_len {α β:Type}{f:α→List β}{k:Nat}: ∀{l:List α},(∀x∈l,(f x).length=k)→(l.flatMap f).length=l.length*k
 | [],_=>by simp
 |x::l,h=>by
  rw[List.flatMap_cons,Ql,h x (Qg ..),flat_len fun y H=>h y (Qe _ H),Qi,Xv,X8,Yr]
theorem Uv_len (B:Nat): ∀n,(Uv B n).length=(2*(B+1))^n
 |0=>rfl
 |n+1=>by
  unfold Uv
  rw[flat_len (k:=(Uv B n).length*2) fun x _=>flat_len fun _ _=>rfl,X2,Uv_len B n,Nat.pow_succ]
  ac_rfl
theorem Uv_mem {B:Nat}: ∀{d:D},ok d→(∀c∈d,c.2≤B)→d∈Uv B d.length
 | [],_,_=>Ye _
 |x::d,h,I=>by
  have J:=h x (Qg ..)
  have O:=I x (Qg ..)
  unfold okC at J
  rw[Qi,Uv,Xi]
  refine⟨x.2.toNat,Xj.2 (by omega),Xi.2 ⟨d,Uv_mem (fun y H=>h y (Qe _ H)) (fun y H=>I y (Qe _ H)),?_⟩⟩
  have e:((x.2.toNat:Nat):Int)=x.2:=by omega
  rw[e]
  obtain⟨b,n⟩:=x
  cases b
  ·exact Qe _ (Ye _)
  ·exact Qg ..
theorem o_b2 {B:Nat}(J:B≤1048576): ∀{n:Nat} {d:D},d∈Uv B n→ok d
 |0,d,h=>by rw[Uv,Qj]at h;subst h;intro x H;cases H
 |n+1,d,h=>by
  rw[Uv]at h
  obtain⟨c,I,h⟩:=Xi.1 h
  obtain⟨d',O,h⟩:=Xi.1 h
  have I:=Xj.1 I
  have key: ∀b:Bool,ok ((b,(c:Int))::d'):=fun b x H=>by
   rcases Qk.1 H with rfl|H
   ·unfold okC;exact⟨by show(0:Int)≤c;omega,by show(c:Int)≤1048576;omega⟩
   ·exact o_b2 J O x H
  rcases Qk.1 h with rfl|h
  ·exact key true
  ·rw[Qj]at h;subst h;exact key false
section
variable {V S:Type}[DecidableEq V][DecidableEq S]
structure Sy (E:List (Ed (V:=V))) (ctr:S→D) (lt:S→S→Prop) (G:V→V→S→Prop) (thn:Ed (V:=V)→S→Option S):Prop where
 lin:Lin lt
 inj: ∀{p q a b},G p q a→G p q b→ctr a=ctr b→a=b
 ok: ∀{p q a},G p q a→ok (ctr a)
 some: ∀{e p s s'},e∈E→G p e.src s→thn e s=some s'→G p e.tgt s'∧e.op.app (ctr s)=some (ctr s')
 none: ∀{e p s},e∈E→G p e.src s→thn e s=none→e.op.app (ctr s)=none
variable {E:List (Ed (V:=V))}{i0:V→D}{dep:V→Nat}{loops:List V}(N:Net E i0 dep loops)
variable {ctr:S→D}{lt:S→S→Prop}{G:V→V→S→Prop}{thn:Ed (V:=V)→S→Option S}(Y:Sy E ctr lt G thn)
def Good (E:List (Ed (V:=V)))(i0:V→D)(ctr:S→D)(G:V→V→S→Prop)(T:V→V→List S)(p q:V)(s:S):Prop:=
 G p q s∧∃vis,NW E i0 p q (ctr s) vis∧∀x∈vis,∃u∈T p x.1,le (ctr u) x.2
structure Inv (E:List (Ed (V:=V))) (i0:V→D) (ctr:S→D) (lt:S→S→Prop) (G:V→V→S→Prop) (T:V→V→List S):Prop where
 good: ∀p q,∀s∈T p q,Good E i0 ctr G T p q s
 sort: ∀p q,(T p q).Pairwise lt
 min: ∀p q,∀u∈T p q,∀s∈T p q,¬less ctr lt u s
def Cv (ctr:S→D)(T T':V→V→List S):Prop:=∀p q,∀s∈T p q,∃u∈T' p q,le (ctr u) (ctr s)
def put (T:V→V→List S)(p q:V)(r:List S):V→V→List S:=fun p' q'=>if p'=p∧q'=q then r else T p' q'
theorem put_self (T:V→V→List S)(p q:V)(r:List S):put T p q r p q=r:=if_pos ⟨rfl,rfl⟩
theorem Cv.refl (T:V→V→List S):Cv ctr T T:=fun p q s H=>⟨s,H,le_refl _⟩
include N Y
theorem Good.small {T:V→V→List S}{p q:V}{s:S}(h:Good E i0 ctr G T p q s):Pth.small (ctr s):=by
 obtain⟨_,vis,h,_⟩:=h;exact h.small N
theorem Cv.trans {T T' T'':V→V→List S}(hT: ∀p q,∀s∈T p q,Pth.ok (ctr s))(hT'': ∀p q,∀s∈T'' p q,Pth.ok (ctr s))(J:Cv ctr T T')(O:Cv ctr T' T''):Cv ctr T T'':=fun p q s H=>by
 obtain⟨u,hu,h3⟩:=J p q s H
 obtain⟨v,I,h4⟩:=O p q u hu
 exact⟨v,I,le_trans (hT'' p q v I) (hT p q s H) h4 h3⟩
theorem Good.cv {T T':V→V→List S}(hT': ∀p q,∀s∈T' p q,Pth.ok (ctr s))(O:Cv ctr T T'){p q:V}{s:S}(h:Good E i0 ctr G T p q s):Good E i0 ctr G T' p q s:=by
 obtain⟨h1,vis,H,h3⟩:=h
 refine⟨h1,vis,H,fun x I=>?_⟩
 obtain⟨u,hu,h4⟩:=h3 x I
 obtain⟨v,J,h5⟩:=O p x.1 u hu
 obtain⟨vis',h6⟩:=H.pre x I
 exact⟨v,J,le_trans (hT' _ _ v J) (h6.way.ok N.add0 N.iok) h5 h4⟩
theorem Inv.anti {T:V→V→List S}(I:Inv E i0 ctr lt G T){p q:V}{u s:S}(O:u∈T p q)(hs:G p q s)(h1:le (ctr u) (ctr s))(J:le (ctr s) (ctr u)):u=s:=by
 have gu:=I.good p q u O
 have H:=gu.small N Y
 exact Y.inj gu.1 hs (Qdo H (Qdd N H J) h1 J)
theorem Inv.leq {T:V→V→List S}(I:Inv E i0 ctr lt G T){p q:V}{u s:S}(H:u∈T p q)(J:s∈T p q)(O:le (ctr u) (ctr s)):u=s:=by
 have h2:=I.min p q u H s J
 have h3:le (ctr s) (ctr u):=Wb fun h=>h2 ⟨O,.inl h⟩
 exact I.anti N Y H (I.good p q s J).1 O h3
theorem Inv.add {T:V→V→List S}(I:Inv E i0 ctr lt G T){p:V}{e:Ed (V:=V)}(he:e∈E){more r:List S}(hm: ∀m∈more,∃s,Good E i0 ctr G T p e.src s∧thn e s=some m)(hr:IsLst ctr lt (T p e.tgt++more) r):
  Inv E i0 ctr lt G (put T p e.tgt r)∧Cv ctr T (put T p e.tgt r)∧(∀m∈more,∃u∈r,le (ctr u) (ctr m))∧
   (r≠T p e.tgt→∃m∈more,ctr m∈Uv loops.length (dep e.tgt)∧∀u∈T p e.tgt,¬le (ctr u) (ctr m)):=by
 have gm: ∀m∈more,G p e.tgt m:=fun m h=>by obtain⟨s,h1,h2⟩:=hm m h;exact(Y.some he h1.1 h2).1
 have gl: ∀m∈T p e.tgt++more,G p e.tgt m:=fun m h=>(Qn.1 h).elim (fun h=>(I.good _ _ m h).1) (gm m)
 have hcov:=hr.cov Y.lin fun s H=>Y.ok (gl s H)
 have hcv:Cv ctr T (put T p e.tgt r):=fun p' q' s H=>by
  unfold put
  split
  ·rename_i h;rw[h.1,h.2]at H;exact hcov s (Q6 _ H)
  ·exact⟨s,H,le_refl _⟩
 have gr: ∀s∈r,G p e.tgt s:=fun s H=>gl s ((hr.2 s).1 H).1
 have okT': ∀p' q',∀s∈put T p e.tgt r p' q',Pth.ok (ctr s):=fun p' q' s H=>by
  unfold put at H
  split at H
  ·exact Y.ok (gr s H)
  ·exact Y.ok (I.good _ _ s H).1
 have nwm: ∀m∈more,(∀u∈T p e.tgt,¬le (ctr u) (ctr m))→∃s vis,NW E i0 p e.src (ctr s) vis∧(∀x∈vis,∃u∈T p x.1,le (ctr u) x.2)∧NW E i0 p e.tgt (ctr m) ((e.tgt,ctr m)::vis):=fun m h O=>by
  obtain⟨s,⟨h1,vis,h2,h3⟩,h4⟩:=hm m h
  refine⟨s,vis,h2,h3,.step h2 he rfl (Y.some he h1 h4).2 fun x hx hxe hle=>?_⟩
  obtain⟨u,J,h5⟩:=h3 x hx
  rw[hxe]at J
  exact O u J (le_trans (Y.ok (I.good _ _ u J).1) (Y.ok (gm m h)) h5 hle)
 refine⟨⟨fun p' q' s H=>?_,fun p' q'=>?_,fun p' q' u J s H=>?_⟩,hcv,fun m h=>hcov m (Q8 _ h),fun hne=>?_⟩
 ·unfold put at H
  split at H
  ·rename_i hpq
   obtain⟨rfl,rfl⟩:=hpq
   obtain⟨h1,h2⟩:=(hr.2 s).1 H
   by_cases hin:s∈T p' e.tgt
   ·exact(I.good _ _ s hin).cv N Y okT' hcv
   have hmo:s∈more:=(Qn.1 h1).resolve_left hin
   obtain⟨s0,vis,h3,h4,h5⟩:=nwm s hmo fun u J hle=>by
    have h6:le (ctr s) (ctr u):=Wb fun h=>h2 u (Q6 _ J) ⟨hle,.inl h⟩
    have:=I.anti N Y J (gm s hmo) hle h6
    rw[this]at J;exact hin J
   refine⟨gm s hmo,_,h5,fun x hx=>?_⟩
   rcases Qk.1 hx with rfl|hx
   ·exact⟨s,by rw[put_self];exact H,le_refl _⟩
   ·obtain⟨u,J,h6⟩:=h4 x hx
    obtain⟨v,hv,h7⟩:=hcv p' x.1 u J
    obtain⟨vis',h8⟩:=h3.pre x hx
    exact⟨v,hv,le_trans (okT' _ _ v hv) (h8.way.ok N.add0 N.iok) h7 h6⟩
  ·exact(I.good _ _ s H).cv N Y okT' hcv
 ·unfold put
  split
  ·exact hr.1
  ·exact I.sort _ _
 ·unfold put at J H
  split at J
  ·rename_i h
   rw[if_pos h]at H
   exact((hr.2 s).1 H).2 u ((hr.2 u).1 J).1
  ·rename_i h
   rw[if_neg h]at H
   exact I.min _ _ u J s H
 ·refine Wb fun hall=>hne (hr.uniq Y.lin ⟨I.sort _ _,fun s=>⟨fun H=>⟨Q6 _ H,fun x hx hl=>?_⟩,fun⟨H,hmin⟩=>?_⟩⟩)
  all_goals
   have hall: ∀m∈more,∃u∈T p e.tgt,le (ctr u) (ctr m):=fun m h=>Wb fun O=>by
    have O: ∀u∈T p e.tgt,¬le (ctr u) (ctr m):=fun u J hle=>O ⟨u,J,hle⟩
    obtain⟨s0,vis,_,_,h5⟩:=nwm m h O
    have h6:=Uv_mem (Y.ok (gm m h)) (h5.le_loops N)
    rw[h5.way.len N]at h6
    exact hall ⟨m,h,h6,O⟩
  ·rcases Qn.1 hx with hx|hx
   ·exact I.min _ _ x hx s H hl
   ·obtain⟨u,J,h1⟩:=hall x hx
    have gu:=I.good _ _ u J
    have gs:=I.good _ _ s H
    obtain rfl:=I.leq N Y J H (le_trans (Y.ok gu.1) (Y.ok gs.1) h1 hl.1)
    obtain rfl:=I.anti N Y J (gm x hx) h1 hl.1
    exact less_irr Y.lin _ hl
  ·rcases Qn.1 H with H|H
   ·exact H
   ·obtain⟨u,J,h1⟩:=hall s H
    have h6:le (ctr s) (ctr u):=Wb fun h=>hmin u (Q6 _ J) ⟨h1,.inl h⟩
    rw[←I.anti N Y J (gm s H) h1 h6];exact J
theorem Inv.first {T:V→V→List S}(I:Inv E i0 ctr lt G T){p:V}{s:S}(hp: ∀q,T p q=[])(hs:G p p s)(hc:ctr s=i0 p):Inv E i0 ctr lt G (put T p p [s]):=by
 refine⟨fun p' q' x H=>?_,fun p' q'=>?_,fun p' q' u J x H=>?_⟩
 ·unfold put at H
  split at H
  ·rename_i h
   obtain⟨rfl,rfl⟩:=h
   rw[Qj]at H
   subst H
   refine⟨hs,_,by rw[hc];exact .nil,fun y O=>?_⟩
   rw[Qj]at O
   subst O
   exact⟨x,by rw[put_self];exact Ye _,by rw[hc];exact le_refl _⟩
  ·obtain⟨h1,vis,h2,h3⟩:=I.good _ _ x H
   refine⟨h1,vis,h2,fun y O=>?_⟩
   obtain⟨u,J,h4⟩:=h3 y O
   refine⟨u,?_,h4⟩
   unfold put
   rw[if_neg]
   ·exact J
   ·intro h
    rw[h.1,hp]at J;cases J
 ·unfold put
  split
  ·exact Yd _ _
  ·exact I.sort _ _
 ·unfold put at J H
  split at J
  ·rename_i h
   rw[if_pos h]at H
   rw[Qj]at J H
   rw[J,H];exact less_irr Y.lin _
  ·rename_i h
   rw[if_neg h]at H
   exact I.min _ _ u J x H
theorem Inv.len {T:V→V→List S}(I:Inv E i0 ctr lt G T)(p q:V):(T p q).length≤(2*(loops.length+1))^dep q:=by
 have O:((T p q).map ctr).Nodup:=by
  refine Jb.2 ((I.sort p q).imp_of_mem fun {a b} ha hb h e=>?_)
  obtain rfl:=Y.inj (I.good _ _ a ha).1 (I.good _ _ b hb).1 e
  exact Y.lin.irr _ h
 have H:=nodup_le O (L:=Uv loops.length (dep q)) fun d hd=>by
  obtain⟨s,hs,rfl⟩:=Qv.1 hd
  obtain⟨h3,vis,J,_⟩:=I.good _ _ s hs
  have h6:=Uv_mem (Y.ok h3) (J.le_loops N)
  rw[J.way.len N]at h6;exact h6
 rw[Qw,Uv_len]at H;exact H
def mu (dep:V→Nat)(ctr:S→D)(B:Nat)(P:List (V×V))(T:V→V→List S):Nat:=
 ((P.flatMap fun x=>(Uv B (dep x.2)).map fun d=>(x,d)).filter fun y=> !((T y.1.1 y.1.2).any fun u=>decide (le (ctr u) y.2))).length
theorem mu_imp {T T':V→V→List S}(I:Inv E i0 ctr lt G T)(I':Inv E i0 ctr lt G T')(O:Cv ctr T T')(P:List (V×V)): ∀y∈(P.flatMap fun x=>(Uv loops.length (dep x.2)).map fun d=>(x,d)),(!((T' y.1.1 y.1.2).any fun u=>decide (le (ctr u) y.2)))=true→(!((T y.1.1 y.1.2).any fun u=>decide (le (ctr u) y.2)))=true:=by
 intro y hy h
 rw[Xs,X1]at h ⊢
 intro s hs H
 obtain⟨u,J,h1⟩:=O _ _ s hs
 refine h u J (decide_eq_true ?_)
 obtain⟨x,_,hx⟩:=Xi.1 hy
 obtain⟨d,hd,rfl⟩:=Qv.1 hx
 have hfew:=N.few
 exact le_trans (Y.ok (I'.good _ _ u J).1) (o_b2 (by omega) hd) h1 (of_decide_eq_true H)
theorem mu_lt {T T':V→V→List S}(I:Inv E i0 ctr lt G T)(I':Inv E i0 ctr lt G T')(J:Cv ctr T T'){P:List (V×V)}{p q:V}(hp:(p,q)∈P){d:D}(O:d∈Uv loops.length (dep q))(h0: ∀u∈T p q,¬le (ctr u) d)(h1: ∃u∈T' p q,le (ctr u) d):
  mu dep ctr loops.length P T'<mu dep ctr loops.length P T:=by
 refine filter_lt (mu_imp N Y I I' J P) ⟨((p,q),d),Xi.2 ⟨(p,q),hp,Qv.2 ⟨d,O,rfl⟩⟩,?_,?_⟩
 ·rw[Xs,X1]
  exact fun u H h=>h0 u H (of_decide_eq_true h)
 ·obtain⟨u,H,h⟩:=h1
  rw[Bool.not_eq_false',Ya]
  exact⟨u,H,decide_eq_true h⟩
theorem mu_max {T:V→V→List S}(P:List (V×V))(H: ∀x∈P,dep x.2≤4):mu dep ctr loops.length P T≤P.length*(2*(loops.length+1))^4:=by
 unfold mu
 refine Wh (X4 _ _) ?_
 clear N Y
 induction P with
 |nil=>simp
 |cons x P I=>
  rw[List.flatMap_cons,Ql,Qw,Uv_len,Qi,Xv,X8,Yr]
  exact Nat.add_le_add (I fun y J=>H y (Qe _ J)) (Nat.pow_le_pow_right (by omega) (H x (Qg ..)))
theorem Inv.add_lt {T:V→V→List S}(I:Inv E i0 ctr lt G T){p:V}{e:Ed (V:=V)}(J:e∈E){more r:List S}(O: ∀m∈more,∃s,Good E i0 ctr G T p e.src s∧thn e s=some m)(hr:IsLst ctr lt (T p e.tgt++more) r){P:List (V×V)}(hp:(p,e.tgt)∈P)(H:r≠T p e.tgt):
  mu dep ctr loops.length P (put T p e.tgt r)<mu dep ctr loops.length P T:=by
 obtain⟨h1,h2,h3,h4⟩:=I.add N Y J O hr
 obtain⟨m,h5,h6,h7⟩:=h4 H
 obtain⟨u,h8,h9⟩:=h3 m h5
 exact mu_lt N Y I h1 h2 hp h6 h7 ⟨u,by rw[put_self];exact h8,h9⟩
theorem Inv.tab {T:V→V→List S}(I:Inv E i0 ctr lt G T)(h0: ∀p,(∃q,T p q≠[])→∃u∈T p p,le (ctr u) (i0 p))(hf: ∀p,∀e∈E,∀s∈T p e.src,∀m,thn e s=some m→∃u∈T p e.tgt,le (ctr u) (ctr m)):
  Tab (E:=E) (i0:=i0) fun p q=>(T p q).map ctr where
 sound p q d hd:=by
  obtain⟨s,hs,rfl⟩:=Qv.1 hd
  obtain⟨_,vis,h,_⟩:=I.good _ _ s hs
  exact h.way
 start p h:=by
  obtain⟨q,hq⟩:=h
  obtain⟨u,hu,h1⟩:=h0 p ⟨q,fun e=>hq (by rw[e];rfl)⟩
  exact⟨_,Qv.2 ⟨u,hu,rfl⟩,h1⟩
 fix p e he d hd d' h:=by
  obtain⟨s,hs,rfl⟩:=Qv.1 hd
  have gs:=(I.good _ _ s hs).1
  cases hm:thn e s with
  |none=>rw[Y.none he gs hm]at h;cases h
  |some m=>
   rw[(Y.some he gs hm).2]at h
   obtain rfl:=Qp h
   obtain⟨u,hu,h1⟩:=hf p e he s hs m hm
   exact⟨_,Qv.2 ⟨u,hu,rfl⟩,h1⟩
 min p q d hd d' hd' h:=by
  obtain⟨u,hu,rfl⟩:=Qv.1 hd
  obtain⟨s,hs,rfl⟩:=Qv.1 hd'
  rw[I.leq N Y hu hs h];exact le_refl _
end
def ltL:List Int→List Int→Prop
 |x::a,y::b=>x<y∨(x=y∧ltL a b)
 |_,_=>False
instance decLtL: ∀a b:List Int,Decidable (ltL a b)
 | [],[]=>.isFalse fun h=>h
 | [],_::_=>.isFalse fun h=>h
 |_::_,[]=>.isFalse fun h=>h
 |x::a,y::b=>match(inferInstance:Decidable (x<y)),(inferInstance:Decidable (x=y)),decLtL a b with
  | .isTrue h,_,_=>.isTrue (.inl h)
  | .isFalse _,.isTrue h1,.isTrue h2=>.isTrue (.inr ⟨h1,h2⟩)
  | .isFalse h,.isFalse h1,_=>.isFalse fun h2=>h2.elim h fun h3=>h1 h3.1
  | .isFalse h,_,.isFalse h1=>.isFalse fun h2=>h2.elim h fun h3=>h1 h3.2
theorem ltL_irr: ∀a,¬ltL a a
 | [],h=>h
 |x::a,h=>h.elim (Int.lt_irrefl x) fun h=>ltL_irr a h.2
theorem ltL_tr: ∀{a b c},ltL a b→ltL b c→ltL a c
 |x::a,y::b,z::c,I,H=>by
  rcases I with I|⟨rfl,I⟩
  ·rcases H with H|⟨rfl,H⟩
   ·exact .inl (by omega)
   ·exact .inl I
  ·rcases H with H|⟨rfl,H⟩
   ·exact .inl H
   ·exact .inr ⟨rfl,ltL_tr I H⟩
 | [],_,_,h,_=>by cases ‹List Int› <;>exact h.elim
 |_::_,[],_,h,_=>h.elim
 |_::_,_::_,[],_,h=>h.elim
theorem ltL_tri: ∀{a b:List Int},a.length=b.length→a≠b→ltL a b∨ltL b a
 | [],[],_,h=>absurd rfl h
 |x::a,y::b,H,h=>by
  by_cases J:x<y
  ·exact .inl (.inl J)
  by_cases O:y<x
  ·exact .inr (.inl O)
  obtain rfl:x=y:=by omega
  rcases ltL_tri (a:=a) (b:=b) (by simpa using H) (fun e=>h (by rw[e]))with I|I
  ·exact .inl (.inr ⟨rfl,I⟩)
  ·exact .inr (.inr ⟨rfl,I⟩)
 | [],_::_,H,_=>by simp at H
 |_::_,[],H,_=>by simp at H
theorem le_map {α:Type}(f g:α→Ctr): ∀(l:List α),le (l.map f) (l.map g)↔∀i∈l,leC (f i) (g i)
 | []=>by simp[le]
 |x::l=>by
  rw[Q3,Q3,le,le_map f g l]
  constructor
  ·intro h i H
   rcases Qk.1 H with rfl|H
   ·exact h.1
   ·exact h.2 i H
  ·exact fun h=>⟨h x (Qg ..),fun i H=>h i (Qe _ H)⟩
end Go.Pth
namespace Go.Proofs.YtlbnpmfggfbdoaaGreatDoor
open Go.RowKit Go.Graph
def ints (s:Sm):List Int:=[s.1,s.2.1,s.2.2.1,s.2.2.2.1,s.2.2.2.2.1,s.2.2.2.2.2.1,s.2.2.2.2.2.2.1,s.2.2.2.2.2.2.2]
theorem ints_inj {a b:Sm}(h:ints a=ints b):a=b:=by
 obtain⟨a1,a2,a3,a4,a5,a6,a7,a8⟩:=a
 obtain⟨b1,b2,b3,b4,b5,b6,b7,b8⟩:=b
 unfold ints at h
 simp at h
 obtain⟨rfl,rfl,rfl,rfl,rfl,rfl,rfl,rfl⟩:=h
 rfl
def ltS (a b:Sm):Prop:=Pth.ltL (ints a) (ints b)
instance:DecidableRel ltS:=fun a b=>inferInstanceAs (Decidable (Pth.ltL (ints a) (ints b)))
theorem linS:Pth.Lin ltS:=⟨fun a=>Pth.ltL_irr _,fun a b c=>Pth.ltL_tr,fun a b h=>Pth.ltL_tri rfl fun e=>h (ints_inj e)⟩
def cg (s:Sm)(i:Nat):Pth.Ctr:=if(i:Int)<s.2.1 then(true,if(i:Int)+1=s.2.1 then s.2.2.1 else 0)else(false,(pus s).getD (i-s.2.1.toNat) 0)
def ctr (s:Sm):Pth.D:=(List.range (s.2.1+s.2.2.2.1).toNat).map (cg s)
def GS (x y:Int)(s:Sm):Prop:=OkS s∧s.1=x∧s.2.1+s.2.2.2.1=y
theorem o_b9 {s:Sm}(h:OkS s)(i:Nat):Pth.okC (cg s i):=by
 have I:=h.a
 unfold cg Pth.okC
 split
 ·simp only
  split<;>omega
 ·simp only
  rw[Jc]
  cases H:(pus s)[i-s.2.1.toNat]? with
  |none=>simp
  |some x=>
   have:=h.p _ _ H
   simp only[Jd]
   omega
theorem o_b7 {s:Sm}(h:OkS s):Pth.ok (ctr s):=fun c H=>by
 unfold ctr at H
 obtain⟨i,_,rfl⟩:=Qv.1 H
 exact o_b9 h i
theorem ctr_inj {x y:Int}{a b:Sm}(ha:GS x y a)(hb:GS x y b)(h:ctr a=ctr b):a=b:=by
 obtain⟨oa,fa,ea⟩:=ha
 obtain⟨ob,fb,eb⟩:=hb
 have I: ∀i:Nat,(i:Int)<y→cg a i=cg b i:=fun i hi=>by
  have J:=congrArg (fun l=>l[i]?) h
  unfold ctr at J
  simp only[Qt]at J
  rw[Yo (by omega),Yo (by omega)]at J
  exact Qp J
 have ak:=oa.k
 have bk:=ob.k
 have an:=oa.n
 have bn:=ob.n
 have akn:=oa.kn
 have nolt: ∀{a b:Sm},OkS a→OkS b→(∀i:Nat,(i:Int)<y→cg a i=cg b i)→b.2.1+b.2.2.2.1=y→¬a.2.1<b.2.1:=fun {a b} oa ob I eb hlt=>by
  have ak:=oa.k
  have bn:=ob.n
  have H:=I a.2.1.toNat (by omega)
  unfold cg at H
  rw[if_neg (by omega),if_pos (by omega)]at H
  exact absurd (show false=true from congrArg Prod.fst H) (by decide)
 have hk:a.2.1=b.2.1:=by
  have h1:=nolt oa ob I eb
  have J:=nolt ob oa (fun i hi=>(I i hi).symm) ea
  omega
 have hn:a.2.2.2.1=b.2.2.2.1:=by omega
 have hadd:a.2.2.1=b.2.2.1:=by
  by_cases h0:a.2.1=0
  ·rw[oa.k0 h0,ob.k0 (by omega)]
  ·have H:=I (a.2.1.toNat-1) (by omega)
   unfold cg at H
   rw[if_pos (by omega),if_pos (by omega),if_pos (by omega),if_pos (by omega)]at H
   exact congrArg Prod.snd H
 have hp: ∀j:Nat,j<4→(pus a).getD j 0=(pus b).getD j 0:=fun j hj=>by
  by_cases h4:(j:Int)<a.2.2.2.1
  ·have H:=I (a.2.1.toNat+j) (by omega)
   unfold cg at H
   rw[if_neg (by omega),if_neg (by omega)]at H
   have H:=congrArg Prod.snd H
   rw[show a.2.1.toNat+j-a.2.1.toNat=j by omega,show a.2.1.toNat+j-b.2.1.toNat=j by omega]at H
   exact H
  ·have z: ∀{s:Sm},OkS s→¬(j:Int)<s.2.2.2.1→(pus s).getD j 0=0:=fun {s} o h=>by
    rw[Jc]
    cases hx:(pus s)[j]? with
    |none=>rfl
    |some x=>exact(o.p _ _ hx).2.2 (by omega)
   rw[z oa h4,z ob (by omega)]
 obtain⟨a1,a2,a3,a4,a5,a6,a7,a8⟩:=a
 obtain⟨b1,b2,b3,b4,b5,b6,b7,b8⟩:=b
 have O:=hp 0 (by omega)
 have p1:=hp 1 (by omega)
 have p2:=hp 2 (by omega)
 have p3:=hp 3 (by omega)
 have O:a5=b5:=O
 have p1:a6=b6:=p1
 have p2:a7=b7:=p2
 have p3:a8=b8:=p3
 simp only at fa fb hk hn hadd
 rw[fa,fb,hk,hn,hadd,O,p1,p2,p3]
end Go.Proofs.YtlbnpmfggfbdoaaGreatDoor
end
section
namespace Go.Proofs.YtlbnpmfggfbdoaaGreatDoor
open Go.RowKit Go.Graph
theorem Qan {f K A N J O p2 p3:Int}:OkS (f,K,A,N,(J,O,p2,p3))↔(0≤f∧f≤4∧0≤N∧N≤4∧0≤K∧K≤f∧K+N≤4∧0≤A∧A≤1048576∧(K=0→A=0)∧(0≤J∧J≤1048576∧(N≤0→J=0))∧(0≤O∧O≤1048576∧(N≤1→O=0))∧(0≤p2∧p2≤1048576∧(N≤2→p2=0))∧(0≤p3∧p3≤1048576∧(N≤3→p3=0))):=by
 constructor
 ·intro h
  have h1:=h.f
  have h2:=h.n
  have h3:=h.k
  have h4:=h.kn
  have h5:=h.a
  have h6:=h.k0
  have h7:=h.p 0 J rfl
  have h8:=h.p 1 O rfl
  have h9:=h.p 2 p2 rfl
  have I:=h.p 3 p3 rfl
  simp only at h1 h2 h3 h4 h5 h6 h7 h8 h9 I
  exact⟨h1.1,h1.2,h2.1,h2.2,h3.1,h3.2,h4,h5.1,h5.2,h6,h7,h8,h9,I⟩
 ·intro ⟨h1,h2,h3,h4,h5,h6,h7,h8,h9,I,h11,h12,h13,h14⟩
  refine⟨⟨h1,h2⟩,⟨h3,h4⟩,⟨h5,h6⟩,h7,⟨h8,h9⟩,I,fun i x H=>?_⟩
  match i,H with
  |0,H=>obtain rfl:J=x:=Qp H;exact h11
  |1,H=>obtain rfl:O=x:=Qp H;exact h12
  |2,H=>obtain rfl:p2=x:=Qp H;exact h13
  |3,H=>obtain rfl:p3=x:=Qp H;exact h14
  |i+4,H=>cases H
def opS (s:Sm):Pth.Op:=⟨s.2.1.toNat,s.2.2.1,s.2.2.2.1.toNat⟩
def thW (a e:Sm):Sm:=
 if e.2.2.2.1=1 then(a.1,a.2.1,a.2.2.1,a.2.2.2.1+1,a.2.2.2.2)
 else if e.2.2.1=1 then(if a.2.2.2.1=0 then(a.1,a.2.1,a.2.2.1+1,0,(0,0,0,0))else(a.1,a.2.1,a.2.2.1,a.2.2.2.1,(if a.2.2.2.1=1 then a.2.2.2.2.1+1 else a.2.2.2.2.1,if a.2.2.2.1=2 then a.2.2.2.2.2.1+1 else a.2.2.2.2.2.1,if a.2.2.2.1=3 then a.2.2.2.2.2.2.1+1 else a.2.2.2.2.2.2.1,if a.2.2.2.1=4 then a.2.2.2.2.2.2.2+1 else a.2.2.2.2.2.2.2)))
 else if e.2.1<e.1 then(if a.2.2.2.1=0 then(a.1,a.2.1-1,0,0,(0,0,0,0))else(a.1,a.2.1,a.2.2.1,a.2.2.2.1-1,(if a.2.2.2.1=1 then 0 else a.2.2.2.2.1,if a.2.2.2.1=2 then 0 else a.2.2.2.2.2.1,if a.2.2.2.1=3 then 0 else a.2.2.2.2.2.2.1,if a.2.2.2.1=4 then 0 else a.2.2.2.2.2.2.2)))
 else a
def thV (a e:Sm):Int:=
 if e.2.2.1=1 then(if a.2.2.2.1=0 then a.2.2.1+1 else if a.2.2.2.1=1 then a.2.2.2.2.1+1 else if a.2.2.2.1=2 then a.2.2.2.2.2.1+1 else if a.2.2.2.1=3 then a.2.2.2.2.2.2.1+1 else a.2.2.2.2.2.2.2+1)else 0
theorem o_aA {x y:Int}{e:Sm}(J:Form x y e)(O:0≤x∧x≤4):OkS e:=by
 rcases J with⟨rfl,H⟩|⟨rfl,I,H⟩|⟨rfl,I,H⟩|⟨rfl,I,H⟩<;>exact Qan.2 (by omega)
structure ThOk (a e:Sm) (y:Int):Prop where
 prog:F.bG a e=if(1048576:Int)<thV a e then some ((0,0,0,0,(0,0,0,0)),12)else some (thW a e,0)
 ref:F.b7 a e=(F.aa (thW a e)).bind fun r=>if r≠0 then some ((0,0,0,0,(0,0,0,0)),12)else some (thW a e,0)
 ok:OkS (thW a e)↔¬(1048576:Int)<thV a e
 from_:(thW a e).1=a.1
 ends:(thW a e).2.1+(thW a e).2.2.2.1=y
 app:(opS e).app (ctr a)=if thV a e≤1048576 then some (ctr (thW a e))else none
theorem c00 {f B H I J O:Int}:ctr (f,0,B,0,(H,I,J,O))=[]:=rfl
theorem c01 {f B H I J O:Int}:ctr (f,0,B,1,(H,I,J,O))=[(false,H)]:=rfl
theorem c02 {f B H I J O:Int}:ctr (f,0,B,2,(H,I,J,O))=[(false,H),(false,I)]:=rfl
theorem c03 {f B H I J O:Int}:ctr (f,0,B,3,(H,I,J,O))=[(false,H),(false,I),(false,J)]:=rfl
theorem c04 {f B H I J O:Int}:ctr (f,0,B,4,(H,I,J,O))=[(false,H),(false,I),(false,J),(false,O)]:=rfl
theorem c10 {f B H I J O:Int}:ctr (f,1,B,0,(H,I,J,O))=[(true,B)]:=rfl
theorem c11 {f B H I J O:Int}:ctr (f,1,B,1,(H,I,J,O))=[(true,B),(false,H)]:=rfl
theorem c12 {f B H I J O:Int}:ctr (f,1,B,2,(H,I,J,O))=[(true,B),(false,H),(false,I)]:=rfl
theorem c13 {f B H I J O:Int}:ctr (f,1,B,3,(H,I,J,O))=[(true,B),(false,H),(false,I),(false,J)]:=rfl
theorem c20 {f B H I J O:Int}:ctr (f,2,B,0,(H,I,J,O))=[(true,0),(true,B)]:=rfl
theorem c21 {f B H I J O:Int}:ctr (f,2,B,1,(H,I,J,O))=[(true,0),(true,B),(false,H)]:=rfl
theorem c22 {f B H I J O:Int}:ctr (f,2,B,2,(H,I,J,O))=[(true,0),(true,B),(false,H),(false,I)]:=rfl
theorem c30 {f B H I J O:Int}:ctr (f,3,B,0,(H,I,J,O))=[(true,0),(true,0),(true,B)]:=rfl
theorem c31 {f B H I J O:Int}:ctr (f,3,B,1,(H,I,J,O))=[(true,0),(true,0),(true,B),(false,H)]:=rfl
theorem c40 {f B H I J O:Int}:ctr (f,4,B,0,(H,I,J,O))=[(true,0),(true,0),(true,0),(true,B)]:=rfl
theorem thN0 {f K B x y:Int}{e:Sm}(H:OkS (f,K,B,0,(0,0,0,0)))(hx:K+0=x)(I:Form x y e):ThOk (f,K,B,0,(0,0,0,0)) e y:=by
 have hk:=Qan.1 H
 obtain⟨n,hn⟩: ∃n,A.FU=n+5:=⟨A.FU-5,by decide⟩
 have g00: -9223372036854775808≤B∧B≤9223372036854775807:=by omega
 have g01: -9223372036854775808≤B+1∧B+1≤9223372036854775807:=by omega
 have g02: -9223372036854775808≤1+B∧1+B≤9223372036854775807:=by omega
 have b0:B≤1048576:=by omega
 have cK:K=0∨K=1∨K=2∨K=3∨K=4:=by omega
 have J:=o_aA I (by omega)
 subst hx
 rcases cK with rfl|rfl|rfl|rfl|rfl<;>rcases I with⟨rfl,rfl⟩|⟨rfl,O,rfl⟩|⟨rfl,O,rfl⟩|⟨rfl,O,rfl⟩<;>first
  |(exfalso;omega)
  |exact⟨(by unfold F.bG;rw[show F.az (_,_,_,_,(_,_,_,_))=some true from o_r H,Qa,show F.az (_,_,_,_,(_,_,_,_))=some true from o_r J];simp[thW,thV,F.bO,F.bn,A.cp4,A.ix,A.gd,Z.R64,Jt 1 B,g00,g01,g02,b0,Wv.2 b0]),(by unfold F.b7;rw[show F.aa (_,_,_,_,(_,_,_,_))=some 0 from o_e H,Qa,show F.aa (_,_,_,_,(_,_,_,_))=some 0 from o_e J];simp[thW,F.ce,F.cd,F.cc,F.bp,F.cb,F.ca,A.ix,A.gd,Z.R64,Int.min_def,hn,g00,g01,g02]),(by simp[thW,thV];rw[Qan];omega),(by simp[thW]),(by simp[thW]),(by simp[thW,thV,opS,Pth.Op.app,Pth.bump,c00,c01,c02,c03,c04,c10,c11,c12,c13,c20,c21,c22,c30,c31,c40,b0,Wv.2 b0])⟩
theorem thN1 {f K B H x y:Int}{e:Sm}(I:OkS (f,K,B,1,(H,0,0,0)))(hx:K+1=x)(J:Form x y e):ThOk (f,K,B,1,(H,0,0,0)) e y:=by
 have hk:=Qan.1 I
 obtain⟨n,hn⟩: ∃n,A.FU=n+5:=⟨A.FU-5,by decide⟩
 have g00: -9223372036854775808≤B∧B≤9223372036854775807:=by omega
 have g01: -9223372036854775808≤B+1∧B+1≤9223372036854775807:=by omega
 have g02: -9223372036854775808≤1+B∧1+B≤9223372036854775807:=by omega
 have b0:B≤1048576:=by omega
 have g10: -9223372036854775808≤H∧H≤9223372036854775807:=by omega
 have g11: -9223372036854775808≤H+1∧H+1≤9223372036854775807:=by omega
 have g12: -9223372036854775808≤1+H∧1+H≤9223372036854775807:=by omega
 have b1:H≤1048576:=by omega
 have cK:K=0∨K=1∨K=2∨K=3:=by omega
 have O:=o_aA J (by omega)
 subst hx
 rcases cK with rfl|rfl|rfl|rfl<;>rcases J with⟨rfl,rfl⟩|⟨rfl,h1,rfl⟩|⟨rfl,h1,rfl⟩|⟨rfl,h1,rfl⟩<;>first
  |(exfalso;omega)
  |exact⟨(by unfold F.bG;rw[show F.az (_,_,_,_,(_,_,_,_))=some true from o_r I,Qa,show F.az (_,_,_,_,(_,_,_,_))=some true from o_r O];simp[thW,thV,F.bO,F.bn,A.cp4,A.ix,A.gd,Z.R64,Jt 1 B,g00,g01,g02,g10,g11,g12,b0,Wv.2 b0,b1,Wv.2 b1]),(by unfold F.b7;rw[show F.aa (_,_,_,_,(_,_,_,_))=some 0 from o_e I,Qa,show F.aa (_,_,_,_,(_,_,_,_))=some 0 from o_e O];simp[thW,F.ce,F.cd,F.cc,F.bp,F.cb,F.ca,A.ix,A.gd,Z.R64,Int.min_def,hn,g00,g01,g02,g10,g11,g12]),(by simp[thW,thV];rw[Qan];omega),(by simp[thW]),(by simp[thW]),(by simp[thW,thV,opS,Pth.Op.app,Pth.bump,c00,c01,c02,c03,c04,c10,c11,c12,c13,c20,c21,c22,c30,c31,c40,b0,Wv.2 b0,b1,Wv.2 b1])⟩
theorem thN2 {f K B H I x y:Int}{e:Sm}(J:OkS (f,K,B,2,(H,I,0,0)))(hx:K+2=x)(O:Form x y e):ThOk (f,K,B,2,(H,I,0,0)) e y:=by
 have hk:=Qan.1 J
 obtain⟨n,hn⟩: ∃n,A.FU=n+5:=⟨A.FU-5,by decide⟩
 have g00: -9223372036854775808≤B∧B≤9223372036854775807:=by omega
 have g01: -9223372036854775808≤B+1∧B+1≤9223372036854775807:=by omega
 have g02: -9223372036854775808≤1+B∧1+B≤9223372036854775807:=by omega
 have b0:B≤1048576:=by omega
 have g10: -9223372036854775808≤H∧H≤9223372036854775807:=by omega
 have g11: -9223372036854775808≤H+1∧H+1≤9223372036854775807:=by omega
 have g12: -9223372036854775808≤1+H∧1+H≤9223372036854775807:=by omega
 have b1:H≤1048576:=by omega
 have g20: -9223372036854775808≤I∧I≤9223372036854775807:=by omega
 have g21: -9223372036854775808≤I+1∧I+1≤9223372036854775807:=by omega
 have g22: -9223372036854775808≤1+I∧1+I≤9223372036854775807:=by omega
 have b2:I≤1048576:=by omega
 have cK:K=0∨K=1∨K=2:=by omega
 have he:=o_aA O (by omega)
 subst hx
 rcases cK with rfl|rfl|rfl<;>rcases O with⟨rfl,rfl⟩|⟨rfl,h1,rfl⟩|⟨rfl,h1,rfl⟩|⟨rfl,h1,rfl⟩<;>first
  |(exfalso;omega)
  |exact⟨(by unfold F.bG;rw[show F.az (_,_,_,_,(_,_,_,_))=some true from o_r J,Qa,show F.az (_,_,_,_,(_,_,_,_))=some true from o_r he];simp[thW,thV,F.bO,F.bn,A.cp4,A.ix,A.gd,Z.R64,Jt 1 B,g00,g01,g02,g10,g11,g12,g20,g21,g22,b0,Wv.2 b0,b1,Wv.2 b1,b2,Wv.2 b2]),(by unfold F.b7;rw[show F.aa (_,_,_,_,(_,_,_,_))=some 0 from o_e J,Qa,show F.aa (_,_,_,_,(_,_,_,_))=some 0 from o_e he];simp[thW,F.ce,F.cd,F.cc,F.bp,F.cb,F.ca,A.ix,A.gd,Z.R64,Int.min_def,hn,g00,g01,g02,g10,g11,g12,g20,g21,g22]),(by simp[thW,thV];rw[Qan];omega),(by simp[thW]),(by simp[thW]),(by simp[thW,thV,opS,Pth.Op.app,Pth.bump,c00,c01,c02,c03,c04,c10,c11,c12,c13,c20,c21,c22,c30,c31,c40,b0,Wv.2 b0,b1,Wv.2 b1,b2,Wv.2 b2])⟩
theorem thN3 {f K B H I J x y:Int}{e:Sm}(O:OkS (f,K,B,3,(H,I,J,0)))(hx:K+3=x)(hf:Form x y e):ThOk (f,K,B,3,(H,I,J,0)) e y:=by
 have hk:=Qan.1 O
 obtain⟨n,hn⟩: ∃n,A.FU=n+5:=⟨A.FU-5,by decide⟩
 have g00: -9223372036854775808≤B∧B≤9223372036854775807:=by omega
 have g01: -9223372036854775808≤B+1∧B+1≤9223372036854775807:=by omega
 have g02: -9223372036854775808≤1+B∧1+B≤9223372036854775807:=by omega
 have b0:B≤1048576:=by omega
 have g10: -9223372036854775808≤H∧H≤9223372036854775807:=by omega
 have g11: -9223372036854775808≤H+1∧H+1≤9223372036854775807:=by omega
 have g12: -9223372036854775808≤1+H∧1+H≤9223372036854775807:=by omega
 have b1:H≤1048576:=by omega
 have g20: -9223372036854775808≤I∧I≤9223372036854775807:=by omega
 have g21: -9223372036854775808≤I+1∧I+1≤9223372036854775807:=by omega
 have g22: -9223372036854775808≤1+I∧1+I≤9223372036854775807:=by omega
 have b2:I≤1048576:=by omega
 have g30: -9223372036854775808≤J∧J≤9223372036854775807:=by omega
 have g31: -9223372036854775808≤J+1∧J+1≤9223372036854775807:=by omega
 have g32: -9223372036854775808≤1+J∧1+J≤9223372036854775807:=by omega
 have b3:J≤1048576:=by omega
 have cK:K=0∨K=1:=by omega
 have he:=o_aA hf (by omega)
 subst hx
 rcases cK with rfl|rfl<;>rcases hf with⟨rfl,rfl⟩|⟨rfl,h1,rfl⟩|⟨rfl,h1,rfl⟩|⟨rfl,h1,rfl⟩<;>first
  |(exfalso;omega)
  |exact⟨(by unfold F.bG;rw[show F.az (_,_,_,_,(_,_,_,_))=some true from o_r O,Qa,show F.az (_,_,_,_,(_,_,_,_))=some true from o_r he];simp[thW,thV,F.bO,F.bn,A.cp4,A.ix,A.gd,Z.R64,Jt 1 B,g00,g01,g02,g10,g11,g12,g20,g21,g22,g30,g31,g32,b0,Wv.2 b0,b1,Wv.2 b1,b2,Wv.2 b2,b3,Wv.2 b3]),(by unfold F.b7;rw[show F.aa (_,_,_,_,(_,_,_,_))=some 0 from o_e O,Qa,show F.aa (_,_,_,_,(_,_,_,_))=some 0 from o_e he];simp[thW,F.ce,F.cd,F.cc,F.bp,F.cb,F.ca,A.ix,A.gd,Z.R64,Int.min_def,hn,g00,g01,g02,g10,g11,g12,g20,g21,g22,g30,g31,g32]),(by simp[thW,thV];rw[Qan];omega),(by simp[thW]),(by simp[thW]),(by simp[thW,thV,opS,Pth.Op.app,Pth.bump,c00,c01,c02,c03,c04,c10,c11,c12,c13,c20,c21,c22,c30,c31,c40,b0,Wv.2 b0,b1,Wv.2 b1,b2,Wv.2 b2,b3,Wv.2 b3])⟩
theorem thN4 {f K B H I J O x y:Int}{e:Sm}(hs:OkS (f,K,B,4,(H,I,J,O)))(hx:K+4=x)(hf:Form x y e):ThOk (f,K,B,4,(H,I,J,O)) e y:=by
 have hk:=Qan.1 hs
 obtain⟨n,hn⟩: ∃n,A.FU=n+5:=⟨A.FU-5,by decide⟩
 have g00: -9223372036854775808≤B∧B≤9223372036854775807:=by omega
 have g01: -9223372036854775808≤B+1∧B+1≤9223372036854775807:=by omega
 have g02: -9223372036854775808≤1+B∧1+B≤9223372036854775807:=by omega
 have b0:B≤1048576:=by omega
 have g10: -9223372036854775808≤H∧H≤9223372036854775807:=by omega
 have g11: -9223372036854775808≤H+1∧H+1≤9223372036854775807:=by omega
 have g12: -9223372036854775808≤1+H∧1+H≤9223372036854775807:=by omega
 have b1:H≤1048576:=by omega
 have g20: -9223372036854775808≤I∧I≤9223372036854775807:=by omega
 have g21: -9223372036854775808≤I+1∧I+1≤9223372036854775807:=by omega
 have g22: -9223372036854775808≤1+I∧1+I≤9223372036854775807:=by omega
 have b2:I≤1048576:=by omega
 have g30: -9223372036854775808≤J∧J≤9223372036854775807:=by omega
 have g31: -9223372036854775808≤J+1∧J+1≤9223372036854775807:=by omega
 have g32: -9223372036854775808≤1+J∧1+J≤9223372036854775807:=by omega
 have b3:J≤1048576:=by omega
 have g40: -9223372036854775808≤O∧O≤9223372036854775807:=by omega
 have g41: -9223372036854775808≤O+1∧O+1≤9223372036854775807:=by omega
 have g42: -9223372036854775808≤1+O∧1+O≤9223372036854775807:=by omega
 have b4:O≤1048576:=by omega
 have cK:K=0:=by omega
 have he:=o_aA hf (by omega)
 subst hx
 rcases cK with rfl<;>rcases hf with⟨rfl,rfl⟩|⟨rfl,h1,rfl⟩|⟨rfl,h1,rfl⟩|⟨rfl,h1,rfl⟩<;>first
  |(exfalso;omega)
  |exact⟨(by unfold F.bG;rw[show F.az (_,_,_,_,(_,_,_,_))=some true from o_r hs,Qa,show F.az (_,_,_,_,(_,_,_,_))=some true from o_r he];simp[thW,thV,F.bO,F.bn,A.cp4,A.ix,A.gd,Z.R64,Jt 1 B,g00,g01,g02,g10,g11,g12,g20,g21,g22,g30,g31,g32,g40,g41,g42,b0,Wv.2 b0,b1,Wv.2 b1,b2,Wv.2 b2,b3,Wv.2 b3,b4,Wv.2 b4]),(by unfold F.b7;rw[show F.aa (_,_,_,_,(_,_,_,_))=some 0 from o_e hs,Qa,show F.aa (_,_,_,_,(_,_,_,_))=some 0 from o_e he];simp[thW,F.ce,F.cd,F.cc,F.bp,F.cb,F.ca,A.ix,A.gd,Z.R64,Int.min_def,hn,g00,g01,g02,g10,g11,g12,g20,g21,g22,g30,g31,g32,g40,g41,g42]),(by simp[thW,thV];rw[Qan];omega),(by simp[thW]),(by simp[thW]),(by simp[thW,thV,opS,Pth.Op.app,Pth.bump,c00,c01,c02,c03,c04,c10,c11,c12,c13,c20,c21,c22,c30,c31,c40,b0,Wv.2 b0,b1,Wv.2 b1,b2,Wv.2 b2,b3,Wv.2 b3,b4,Wv.2 b4])⟩
theorem then_form {a e:Sm}{x y:Int}(I:OkS a)(H:a.2.1+a.2.2.2.1=x)(J:Form x y e):ThOk a e y:=by
 obtain⟨f,K,A,N,p0,p1,p2,O⟩:=a
 have hk:=Qan.1 I
 have H:K+N=x:=H
 have cN:N=0∨N=1∨N=2∨N=3∨N=4:=by omega
 rcases cN with rfl|rfl|rfl|rfl|rfl
 ·obtain rfl:p0=0:=(by omega);obtain rfl:p1=0:=(by omega);obtain rfl:p2=0:=(by omega);obtain rfl:O=0:=(by omega);exact thN0 I H J
 ·obtain rfl:p1=0:=(by omega);obtain rfl:p2=0:=(by omega);obtain rfl:O=0:=(by omega);exact thN1 I H J
 ·obtain rfl:p2=0:=(by omega);obtain rfl:O=0:=(by omega);exact thN2 I H J
 ·obtain rfl:O=0:=(by omega);exact thN3 I H J
 ·exact thN4 I H J
abbrev PE:=Pth.Ed (V:=Pl)
def eNt (e:Ed):PE:=⟨e.1,e.2.1,opS e.2.2⟩
def dpN (g:List Nd)(d:List Int)(p:Pl):Nat:=(Dp g d p).toNat
def i0N (g:List Nd)(d:List Int)(p:Pl):Pth.D:=List.replicate (dpN g d p) (true,0)
def lpsN (g:List Nd):List Pl:=(g.filter fun n=>decide (n.2.1=14)).map fun n=>(n.1,2)
def EN (g:List Nd)(d:List Int):List PE:=(edges g d).map eNt
theorem within_add {n:Nd}{x:Int}(h:n.2.1≠14):(Qai n x).2.2.1=0:=by
 have st: ∀(lo H:Int) (t:Sm),t.2.2.1=0→(Qbl x lo H t).1.2.2.1=0:=fun lo H t h=>by
  unfold Qbl
  split
  ·rfl
  ·exact h
 unfold Qai
 split
 ·exact st _ _ _ rfl
 ·(split)
  ·exact st _ _ _ rfl
  ·first|exact st _ _ _ rfl|(rw[if_neg h];exact st _ _ _ rfl)
theorem id_add {x:Int}:(idP x).1.2.2.1=0:=by
 unfold idP Qbl
 split<;>rfl
structure EF (g:List Nd) (d:List Int) (e:Ed):Prop where
 form:Form (Dp g d e.1) (Dp g d e.2.1) e.2.2
 src:0≤Dp g d e.1∧Dp g d e.1≤4
 tgt:0≤Dp g d e.2.1∧Dp g d e.2.1≤4
 lp:e.2.2.2.2.1≠0→e.2.1∈lpsN g
 ends:(∃a,(e.1,a)∈spots g d)∧∃b,(e.2.1,b)∈spots g d
theorem Qao {g:List Nd}{l d:List Int}{dm:List (Int×Int)}(W:Whole g l d dm){e:Ed}(he:e∈edges g d):EF g d e:=by
 obtain⟨a,b,ha,hb,K,_⟩:=edge_kd W he
 have O:=nodup_S (d:=d) W.inc W.own
 have ea:Dp g d e.1=a:=mget_mem O ha
 have eb:Dp g d e.2.1=b:=mget_mem O hb
 have fin: ∀(n:Nd) (x:Int),Form a b e.2.2→(0≤a∧a≤4)→(e.2.2.2.2.1≠0→e.2.1∈lpsN g)→EF g d e:=fun n x R I hl=>by
  refine⟨by rw[ea,eb];exact R,by rw[ea];exact I,?_,hl,⟨a,ha⟩,⟨b,hb⟩⟩
  rw[eb]
  rcases R with⟨_,h⟩|⟨_,h1,h⟩|⟨_,h1,h⟩|⟨_,h1,h⟩<;>omega
 obtain⟨j,n,hn,h15,h|h⟩:=Qco d 0 g e he
 ·obtain⟨k,z,hz,rfl⟩:=Qit g d n 0 n.2.2.1 e h
  have hng:=Qf hn
  have ex:Dp g d (n.1,((0+k:Nat):Int))=iget d (idx g z):=mget_mem O (Qax d 0 g n hng _ (Qfu g d n.1 0 n.2.2.1 k z hz))
  have H:a=iget d (idx g z):=by rw[←ea];exact ex
  have I:=W.inb (idx g z)
  refine fin n (iget d (idx g z)) (by rw[H];exact form_of I (.inl rfl) K H) (by rw[H];exact I) fun h0=>?_
  by_cases J:n.2.1=14
  ·exact Qv.2 ⟨n,Yn.2 ⟨hng,decide_eq_true J⟩,rfl⟩
  ·exact absurd (within_add J) h0
 ·unfold outE at h
  obtain⟨u,hu,rfl⟩:=Qv.1 h
  have h2:=spotsF_outP (g:=g) d 0 g j n hn h15
  have ex:Dp g d (n.1,2)=iget d ((0+j:Nat):Int):=mget_mem O h2
  have H:a=iget d ((0+j:Nat):Int):=by rw[←ea];exact ex
  have I:=W.inb ((0+j:Nat):Int)
  exact fin n (iget d ((0+j:Nat):Int)) (by rw[H];exact form_of (n:=n) I (.inr rfl) K H) (by rw[H];exact I) fun h0=>absurd id_add h0
theorem netN {g:List Nd}{l d:List Int}{dm:List (Int×Int)}(W:Whole g l d dm):Pth.Net (EN g d) (i0N g d) (dpN g d) (lpsN g) where
 i0e p:=rfl
 keep e he:=by
  obtain⟨e,hE,rfl⟩:=Qv.1 he
  have h:=Qao W hE
  have h1:=h.src
  show e.2.2.2.1.toNat≤(Dp g d e.1).toNat
  rcases h.form with⟨h2,h3⟩|⟨h2,_,h3⟩|⟨h2,_,h3⟩|⟨h2,_,h3⟩<;>rw[h2]<;>simp only<;>omega
 ends e he:=by
  obtain⟨e,hE,rfl⟩:=Qv.1 he
  have h:=Qao W hE
  have h1:=h.src
  show e.2.2.2.1.toNat+e.2.2.2.2.2.1.toNat=(Dp g d e.2.1).toNat
  rcases h.form with⟨h2,h3⟩|⟨h2,_,h3⟩|⟨h2,_,h3⟩|⟨h2,_,h3⟩<;>rw[h2,h3]<;>simp only<;>omega
 add e he:=by
  obtain⟨e,hE,rfl⟩:=Qv.1 he
  have h:=Qao W hE
  have h1:=h.src
  show e.2.2.2.2.1=0∨(e.2.2.2.2.1=1∧e.2.2.2.1.toNat=(Dp g d e.1).toNat∧e.2.2.2.2.2.1.toNat=0∧e.2.1∈lpsN g)
  have hl:=h.lp
  rcases h.form with⟨h2,h3⟩|⟨h2,_,h3⟩|⟨h2,_,h3⟩|⟨h2,_,h3⟩<;>rw[h2]at hl ⊢
  ·exact .inl rfl
  ·exact .inl rfl
  ·exact .inl rfl
  ·exact .inr ⟨rfl,rfl,rfl,hl (show(1:Int)≠0 by decide)⟩
 few:=by
  have h1:=X4 (fun n:Nd=>decide (n.2.1=14)) g
  have h2:=W.l32
  unfold lpsN
  rw[Qw];omega
theorem lps32 {g:List Nd}{l d:List Int}{dm:List (Int×Int)}(W:Whole g l d dm):(lpsN g).length≤32:=by
 have H:=X4 (fun n:Nd=>decide (n.2.1=14)) g
 have I:=W.l32
 unfold lpsN
 rw[Qw];omega
theorem dp4 {g:List Nd}{l d:List Int}{dm:List (Int×Int)}(W:Whole g l d dm){p:Pl}{a:Int}(h:(p,a)∈spots g d):Dp g d p=a∧0≤a∧a≤4:=by
 have I:=nodup_S (d:=d) W.inc W.own
 refine⟨mget_mem I h,?_⟩
 have: ∀(i:Nat) (l:List Nd) (sp:Sp),sp∈spotsF g d i l→0≤sp.2∧sp.2≤4:=by
  intro i l
  induction l generalizing i with
  |nil=>intro sp h;cases h
  |cons n r J=>
   intro sp h
   unfold spotsF at h
   rcases Qn.1 h with h|h
   ·have: ∀(k:Nat) (l:List Int),sp∈insS g d n.1 k l→0≤sp.2∧sp.2≤4:=by
     intro k l
     induction l generalizing k with
     |nil=>intro h;cases h
     |cons y r H=>
      intro h
      unfold insS at h
      rcases Qk.1 h with rfl|h
      ·exact W.inb _
      ·exact H (k+1) h
    exact this _ _ h
   ·rcases Qn.1 h with h|h
    ·unfold outS at h
     split at h
     ·rw[Qj]at h;subst h;exact W.inb _
     ·cases h
    ·exact J (i+1) sp h
 exact this 0 g (p,a) h
def GN (g:List Nd)(d:List Int)(p q:Pl)(s:Sm):Prop:=GS (dpN g d p) (dpN g d q) s
def sumE (dep:Pl→Nat)(e:PE):Sm:=((dep e.src:Int),(e.op.keep:Int),e.op.add,(e.op.zeros:Int),(0,0,0,0))
def thnN (g:List Nd)(d:List Int)(e:PE)(s:Sm):Option Sm:=if thV s (sumE (dpN g d) e)≤1048576 then some (thW s (sumE (dpN g d) e))else none
theorem sum_eq {g:List Nd}{d:List Int}{e:Ed}(h:EF g d e):sumE (dpN g d) (eNt e)=e.2.2:=by
 have J:=h.src
 unfold sumE eNt dpN opS
 simp only
 have e1:((Dp g d e.1).toNat:Int)=Dp g d e.1:=by omega
 rcases h.form with⟨H,I⟩|⟨H,_,I⟩|⟨H,_,I⟩|⟨H,_,I⟩<;>rw[H]<;>simp only[e1]
 ·rfl
 ·rfl
 ·rw[show(((Dp g d e.1)-1).toNat:Int)=Dp g d e.1-1 by omega];rfl
 ·rfl
theorem Qja {g:List Nd}{d:List Int}{e:Ed}(h:EF g d e){p:Pl}{s:Sm}(I:GN g d p e.1 s):ThOk s e.2.2 (Dp g d e.2.1):=by
 have J:=h.src
 obtain⟨o,O,H⟩:=I
 unfold dpN at H
 exact then_form o (by rw[H];omega) h.form
theorem syN {g:List Nd}{l d:List Int}{dm:List (Int×Int)}(W:Whole g l d dm):Pth.Sy (EN g d) ctr ltS (GN g d) (thnN g d) where
 lin:=linS
 inj ha hb h:=ctr_inj ha hb h
 ok h:=o_b7 h.1
 some he hs h:=by
  obtain⟨e,hE,rfl⟩:=Qv.1 he
  have R:=Qao W hE
  have T:=Qja R hs
  have h4:=R.tgt
  unfold thnN at h
  rw[sum_eq R]at h
  split at h
  ·rename_i hv
   obtain rfl:=Qp h
   refine⟨⟨T.ok.2 (by omega),by rw[T.from_];exact hs.2.1,?_⟩,?_⟩
   ·rw[T.ends]
    show Dp g d e.2.1=((Dp g d e.2.1).toNat:Int)
    omega
   ·show(opS e.2.2).app _=_
    rw[T.app,if_pos hv]
  ·cases h
 none he hs h:=by
  obtain⟨e,hE,rfl⟩:=Qv.1 he
  have R:=Qao W hE
  have T:=Qja R hs
  unfold thnN at h
  rw[sum_eq R]at h
  split at h
  ·cases h
  ·rename_i hv
   show(opS e.2.2).app _=_
   rw[T.app,if_neg hv]
theorem Qif {g:List Nd}{l d:List Int}{dm:List (Int×Int)}(W:Whole g l d dm){e:Ed}(I:e∈edges g d){p:Pl}{s:Sm}(J:GN g d p e.1 s):
  (∃m,thnN g d (eNt e) s=some m∧F.bG s e.2.2=some (m,0)∧F.b7 s e.2.2=some (m,0))∨(thnN g d (eNt e) s=none∧∃z,F.bG s e.2.2=some (z,12)∧F.b7 s e.2.2=some (z,12)):=by
 have R:=Qao W I
 have T:=Qja R J
 unfold thnN
 rw[sum_eq R,T.prog,T.ref]
 by_cases H:thV s e.2.2≤1048576
 ·rw[if_pos H,if_neg (by omega),o_e (T.ok.2 (by omega)),Qa,if_neg (by decide)]
  exact .inl ⟨_,rfl,rfl,rfl⟩
 ·rw[if_neg H,if_pos (by omega),Check_no (fun h=>T.ok.1 h (by omega)),Qa,if_pos (by decide)]
  exact .inr ⟨rfl,_,rfl,rfl⟩
theorem o_b3 {g:List Nd}{l d:List Int}{dm:List (Int×Int)}(W:Whole g l d dm){p:Pl}{x:Int}(h:(p,x)∈spots g d):F.dn x=some (idP x)∧F.eE x=some (idP x)∧idP x=((x,x,0,0,(0,0,0,0)),0)∧GN g d p p (idP x).1∧ctr (idP x).1=i0N g d p:=by
 obtain⟨H,I⟩:=dp4 W h
 have e:idP x=((x,x,0,0,(0,0,0,0)),0):=by unfold idP Qbl;rw[if_neg (by omega)]
 refine⟨Id_eqP x I,Id_eqR x I,e,⟨by rw[e];exact Qan.2 (by omega),?_,?_⟩,?_⟩
 ·rw[e];unfold dpN;rw[H];show x=_;omega
 ·rw[e];unfold dpN;rw[H];show x+0=_;omega
 ·rw[e]
  unfold i0N dpN
  rw[H]
  exact five (P:=fun x=>ctr (x,x,0,0,(0,0,0,0))=List.replicate x.toNat (true,0)) rfl rfl rfl rfl rfl x I
theorem leC_t {x y:Pth.Ctr}(h:x.1=true∧y.1=false):Pth.leC x y↔y.2=1048576:=by unfold Pth.leC;rw[if_pos h]
theorem leC_f {x y:Pth.Ctr}(h: ¬(x.1=true∧y.1=false)):Pth.leC x y↔x.2≤y.2:=by unfold Pth.leC;rw[if_neg h]
theorem all_le {α:Type}(f g:α→Pth.Ctr)(l:List α):(l.all fun i=>decide (Pth.leC (f i) (g i)))=decide (Pth.le (l.map f) (l.map g)):=by
 rw[Y6,Qz,decide_eq_true_iff,Pth.le_map]
 simp only[decide_eq_true_eq]
theorem cg_ix {s:Sm}(h:OkS s){i:Nat}(hi:i<4):(s.2.1≤(i:Int)→∃x,A.ix [s.2.2.2.2.1,s.2.2.2.2.2.1,s.2.2.2.2.2.2.1,s.2.2.2.2.2.2.2] ((i:Int)-s.2.1)=some x∧cg s i=(false,x))∧((i:Int)<s.2.1→cg s i=(true,if(i:Int)=s.2.1-1 then s.2.2.1 else 0)):=by
 have hk:=h.k
 constructor
 ·intro I
  obtain⟨x,O,H⟩:=ix4 (a:=s.2.2.2.2.1) (b:=s.2.2.2.2.2.1) (c:=s.2.2.2.2.2.2.1) (d:=s.2.2.2.2.2.2.2) (i:=(i:Int)-s.2.1) (by omega)
  refine⟨x,O,?_⟩
  unfold cg
  rw[if_neg (by omega),Jc]
  have e:i-s.2.1.toNat=((i:Int)-s.2.1).toNat:=by omega
  rw[e]
  show(false,([s.2.2.2.2.1,s.2.2.2.2.2.1,s.2.2.2.2.2.2.1,s.2.2.2.2.2.2.2][((i:Int)-s.2.1).toNat]?).getD 0)=_
  rw[H];rfl
 ·intro I
  unfold cg
  rw[if_pos I]
  by_cases J:(i:Int)=s.2.1-1
  ·rw[if_pos J,if_pos (by omega)]
  ·rw[if_neg J,if_neg (by omega)]
theorem leq_ix {a b:Sm}(ha:OkS a)(hb:OkS b){i:Nat}(hi:i<4):F.eM a b (i:Int)=some (decide (Pth.leC (cg a i) (cg b i))):=by
 have ak:=ha.k
 have af:=ha.f
 have bk:=hb.k
 have bf:=hb.f
 obtain⟨a1,a2⟩:=cg_ix ha hi
 obtain⟨b1,b2⟩:=cg_ix hb hi
 have gj: ∀x y:Int,(cg a i).2=x→(cg b i).2=y→F.dV a b (i:Int) x y=some (decide (Pth.leC (cg a i) (cg b i))):=fun x y J hy=>by
  unfold F.dV
  rw[A.ba]
  have e:((i:Int)<a.2.1∧b.2.1≤(i:Int))↔((cg a i).1=true∧(cg b i).1=false):=by
   by_cases I:(i:Int)<a.2.1
   ·rw[a2 I]
    by_cases H:(i:Int)<b.2.1
    ·rw[b2 H];simp;omega
    ·obtain⟨z,_,hz⟩:=b1 (by omega)
     rw[hz];simp;omega
   ·obtain⟨z,_,hz⟩:=a1 (by omega)
    rw[hz];simp;omega
  rw[←J,←hy]
  by_cases h:(i:Int)<a.2.1∧b.2.1≤(i:Int)
  ·rw[if_pos (decide_eq_true h)];exact congrArg some (decide_eq_decide.2 (leC_t (e.1 h)).symm)
  ·rw[if_neg (by rw[decide_eq_true_iff];exact h)];exact congrArg some (decide_eq_decide.2 (leC_f (fun H=>h (e.2 H))).symm)
 have g2: ∀x v:Int,(cg a i).2=x→((i:Int)<b.2.1→v=if(i:Int)=b.2.1-1 then b.2.2.1 else 0)→F.dW a b (i:Int) v x=some (decide (Pth.leC (cg a i) (cg b i))):=fun x v J O=>by
  unfold F.dW
  by_cases h:b.2.1≤(i:Int)
  ·obtain⟨y,I,H⟩:=b1 h
   rw[if_pos h,A.gd1 ⟨by omega,by omega⟩,I,Qa]
   exact gj _ _ J (by rw[H])
  ·rw[if_neg h]
   exact gj _ _ J (by rw[b2 (by omega),O (by omega)])
 have g3: ∀u v:Int,((i:Int)<a.2.1→u=if(i:Int)=a.2.1-1 then a.2.2.1 else 0)→((i:Int)<b.2.1→v=if(i:Int)=b.2.1-1 then b.2.2.1 else 0)→F.dX a b (i:Int) u v=some (decide (Pth.leC (cg a i) (cg b i))):=fun u v hu O=>by
  unfold F.dX
  by_cases h:a.2.1≤(i:Int)
  ·obtain⟨x,I,H⟩:=a1 h
   rw[if_pos h,A.gd1 ⟨by omega,by omega⟩,I,Qa]
   exact g2 _ _ (by rw[H]) O
  ·rw[if_neg h]
   exact g2 _ _ (by rw[a2 (by omega),hu (by omega)]) O
 have g4: ∀u:Int,((i:Int)<a.2.1→u=if(i:Int)=a.2.1-1 then a.2.2.1 else 0)→F.dY a b (i:Int) u=some (decide (Pth.leC (cg a i) (cg b i))):=fun u hu=>by
  unfold F.dY
  rw[A.gd1 ⟨by omega,by omega⟩]
  by_cases h:(i:Int)=b.2.1-1
  ·rw[if_pos h];exact g3 _ _ hu fun _=>(if_pos h).symm
  ·rw[if_neg h];exact g3 _ _ hu fun _=>(if_neg h).symm
 unfold F.eM
 rw[A.gd1 ⟨by omega,by omega⟩]
 by_cases h:(i:Int)=a.2.1-1
 ·rw[if_pos h];exact g4 _ fun _=>(if_pos h).symm
 ·rw[if_neg h];exact g4 _ fun _=>(if_neg h).symm
theorem Leq_R {x y:Int}{a b:Sm}(I:GS x y a)(J:GS x y b):F.ee a b=some (decide (Pth.le (ctr a) (ctr b))):=by
 obtain⟨oa,fa,ea⟩:=I
 obtain⟨ob,fb,eb⟩:=J
 have ak:=oa.k
 have an:=oa.n
 have akn:=oa.kn
 have bk:=ob.k
 have bn:=ob.n
 have loop:=A.lp0 (List.range (a.2.1+a.2.2.2.1).toNat) (fun f z=>F.df a b f z) (fun k l=>some (l.all fun i=>decide (Pth.leC (cg a i) (cg b i))))
  (fun f=>by
   rw[X2,F.df,A.gd1 ⟨by omega,by omega⟩,if_neg (by omega)];rfl)
  (fun f k i H hk O=>by
   rw[X2]at hk
   rw[Yo hk]at H
   obtain rfl:k=i:=Qp H
   rw[F.df,A.gd1 ⟨by omega,by omega⟩,if_pos (by omega),show F.eM (_,_,_,_,(_,_,_,_)) (_,_,_,_,(_,_,_,_)) (k:Int)=_ from leq_ix oa ob (i:=k) (by omega),Qa,Xw]
   cases hd:decide (Pth.leC (cg a k) (cg b k))with
   |false=>rfl
   |true=>rw[if_neg (by decide),A.gd1 (A.r64n (by omega)),O,Xf])
  (by rw[X2];have:=Qab;omega)
 rw[all_le]at loop
 unfold F.ee F.er
 rw[show F.aa (_,_,_,_,(_,_,_,_))=some 0 from o_e oa,Qa,if_neg (by decide),show F.aa (_,_,_,_,(_,_,_,_))=some 0 from o_e ob,Qa,A.gd1 ⟨fun _=>⟨by omega,by omega⟩,fun _=>⟨by omega,by omega⟩⟩]
 simp only[ne_eq,not_true_eq_false,decide_false,cond_false,fa,fb,ea,eb,Qy,if_false]
 rw[loop]
 unfold ctr
 rw[ea,eb]
theorem Qdr {b:Sm}(J:OkS b):F.a0 b=some ((List.range (b.2.1+b.2.2.2.1).toNat).map fun(i:Nat)=>((i:Int),cg b i)):=by
 have bk:=J.k
 have bn:=J.n
 have bkn:=J.kn
 unfold F.a0
 rw[A.gd1 ⟨by omega,by omega⟩]
 exact A.lp0 (List.range (b.2.1+b.2.2.2.1).toNat) (fun f z=>F.ah b f z) (fun k l=>some (l.map fun(i:Nat)=>((i:Int),cg b i)))
  (fun f=>by rw[X2,F.ah,if_neg (by omega)];rfl)
  (fun f k i hi hk ih=>by
   rw[X2]at hk
   rw[Yo hk]at hi
   obtain rfl:k=i:=Qp hi
   obtain⟨b1,b2⟩:=cg_ix J (i:=k) (by omega)
   have go: ∀v:Int,cg b k=(decide ((k:Int)<b.2.1),v)→F.aU (F.ah b f) b (k:Int) v=some ((k::(List.range (b.2.1+b.2.2.2.1).toNat).drop (k+1)).map fun(i:Nat)=>((i:Int),cg b i)):=fun v hv=>by
    unfold F.aU
    rw[A.gd1 (A.r64n (by omega)),ih,Q3,hv];rfl
   rw[F.ah,if_pos (by omega),A.gd1 ⟨by omega,by omega⟩]
   by_cases O:(k:Int)<b.2.1
   ·have H:=b2 O
    by_cases I:(k:Int)=b.2.1-1
    ·rw[if_pos I]
     rw[if_pos I]at H
     exact go _ (by rw[H,decide_eq_true O])
    ·rw[if_neg I,if_neg (by omega)]
     rw[if_neg I]at H
     exact go _ (by rw[H,decide_eq_true O])
   ·obtain⟨z,H,I⟩:=b1 (by omega)
    rw[if_neg (by omega),if_pos (by omega),A.gd1 ⟨by omega,by omega⟩,H,Qa]
    exact go _ (by rw[I,decide_eq_false O]))
  (by rw[X2];have:=Qab;omega)
theorem leqP_l2 {a b:Sm}{xs:List Pth.Ctr}(J:xs.length=4): ∀(l:List Nat),(∀i∈l,xs[i]?=some (cg b i))→F.bK xs (l.map fun(i:Nat)=>((i:Int),cg a i))=some (l.all fun i=>decide (Pth.leC (cg a i) (cg b i)))
 | [],_=>rfl
 |i::l,h=>by
  have ih:=leqP_l2 (a:=a) (b:=b) J l fun j O=>h j (Qe _ O)
  have hi:=A.ixn (h i (Qg ..))
  rw[Q3,F.bK,Xw]
  have tail: ∀t:Bool,(some ((if t=true then false else true)&&l.all fun i=>decide (Pth.leC (cg a i) (cg b i))):Option Bool)=if t=true then some false else some (l.all fun i=>decide (Pth.leC (cg a i) (cg b i))):=fun t=>by cases t<;>rfl
  have O: ∀y:Bool,(y=true↔((cg a i).1=true∧(cg b i).1=false))→F.dr (F.bK xs (l.map fun(i:Nat)=>((i:Int),cg a i))) xs ((i:Int),cg a i) y=some (decide (Pth.leC (cg a i) (cg b i))&&l.all fun i=>decide (Pth.leC (cg a i) (cg b i))):=fun y hy=>by
   unfold F.dr
   rw[A.gd1 J.symm,A.gd1 J.symm,hi,Qa,Qa,ih]
   by_cases H:y=true
   ·rw[if_pos H]
    by_cases I:(cg b i).2=1048576
    ·rw[if_neg (fun h=>h I),decide_eq_true ((leC_t (hy.1 H)).2 I)];rfl
    ·rw[if_pos I,decide_eq_false (fun h=>I ((leC_t (hy.1 H)).1 h))];rfl
   ·rw[if_neg H]
    have hn: ¬((cg a i).1=true∧(cg b i).1=false):=fun h=>H (hy.2 h)
    by_cases I:(cg b i).2<(cg a i).2
    ·rw[if_pos I,decide_eq_false (fun h=>by have:=(leC_f hn).1 h;omega)];rfl
    ·rw[if_neg I,decide_eq_true ((leC_f hn).2 (by omega))];rfl
  by_cases H:(cg a i).1=true
  ·rw[if_pos H,A.gd1 J.symm,hi,Qa]
   exact O _ (by rw[H];simp)
  ·rw[if_neg H]
   exact O _ (by simp[H])
theorem leqP_l3 {a b:Sm}(O:OkS a)(m:Nat)(hm:(a.2.1+a.2.2.2.1).toNat=m)(hm4:m≤4): ∀(n k:Nat) (xs:List Pth.Ctr),k+n=m→xs.length=4→(∀j,j<k→xs[j]?=some (cg b j))→
  F.cw a ((List.range' k n).map fun(i:Nat)=>((i:Int),cg b i)) xs=some (decide (Pth.le ((List.range m).map (cg a)) ((List.range m).map (cg b)))):=by
 intro n
 induction n with
 |zero=>
  intro k xs hk I h
  rw[List.range'_zero,Xt,F.cw,show F.cH (_,_,_,_,(_,_,_,_))=some a from rfl,Qa,show F.a0 (_,_,_,_,(_,_,_,_))=_ from Qdr O,Qa,hm]
  rw[leqP_l2 (b:=b) I _ fun i hi=>h i (by have:=Xj.1 hi;omega),all_le]
 |succ n ih=>
  intro k xs hk I h
  have J:xs[k]?=some xs[k]:=Qd (by omega)
  rw[List.range'_succ,Q3,F.cw,A.gd1 I.symm,A.ixn J,Qa]
  refine ih (k+1) _ (by omega) (by rw[W5];exact I) fun j hj=>?_
  show(xs.set ((k:Int)).toNat (cg b k))[j]?=_
  rw[Qs,Ja]
  by_cases H:k=j
  ·subst H;rw[if_pos rfl,if_pos (by omega)]
  ·rw[if_neg H];exact h j (by omega)
theorem Leq_P {x y:Int}{a b:Sm}(H:GS x y a)(I:GS x y b):F.dz a b=some (decide (Pth.le (ctr a) (ctr b))):=by
 obtain⟨oa,fa,ea⟩:=H
 obtain⟨ob,fb,eb⟩:=I
 have ak:=oa.k
 have an:=oa.n
 have akn:=oa.kn
 have bk:=ob.k
 have bn:=ob.n
 unfold F.dz F.d4
 rw[show F.az (_,_,_,_,(_,_,_,_))=some true from o_r oa,Qa,if_neg (by decide),show F.az (_,_,_,_,(_,_,_,_))=some true from o_r ob,Qa,A.gd1 ⟨fun _=>⟨by omega,by omega⟩,fun _=>⟨by omega,by omega⟩⟩]
 rw[show(bif bif !true then true else decide (a.1≠b.1)then true else decide (a.2.1+a.2.2.2.1≠b.2.1+b.2.2.2.1))=false from by simp[fa,fb,ea,eb],if_neg (by decide),show F.cH (_,_,_,_,(_,_,_,_))=some b from rfl,Qa,show F.a0 (_,_,_,_,(_,_,_,_))=_ from Qdr ob,Qa,eb,List.range_eq_range']
 refine(leqP_l3 oa y.toNat (by rw[ea]) (by omega) y.toNat 0 _ (by omega) rfl (fun j J=>absurd J (by omega))).trans ?_
 unfold ctr
 rw[ea,eb]
def lexC:List Int→List Int→Int
 |x::a,y::b=>if x<y then-1 else if y<x then 1 else lexC a b
 |_,_=>0
theorem lexC_lt: ∀(a b:List Int),lexC a b<0↔Pth.ltL a b
 |x::a,y::b=>by
  unfold lexC Pth.ltL
  by_cases H:x<y
  ·rw[if_pos H];exact⟨fun _=>.inl H,fun _=>by decide⟩
  rw[if_neg H]
  by_cases I:y<x
  ·rw[if_pos I];exact⟨fun h=>absurd h (by decide),fun h=>h.elim (fun h=>absurd h H) fun h=>by omega⟩
  rw[if_neg I,lexC_lt a b]
  exact⟨fun h=>.inr ⟨by omega,h⟩,fun h=>h.elim (fun h=>absurd h H) fun h=>h.2⟩
 | [],b=>by cases b<;>exact⟨fun h=>absurd h (by simp[lexC]),fun h=>h.elim⟩
 |x::a,[]=>⟨fun h=>absurd h (by simp[lexC]),fun h=>h.elim⟩
theorem Qho (a b:Sm):F.cP a b=some (lexC (ints a) (ints b)):=by
 have:=A.lp0 (ints a) (fun f z=>F.b6 a b f z) (fun k l=>some (lexC l ((ints b).drop k)))
  (fun f=>by rw[F.b6,if_neg (by simp[ints])];rfl)
  (fun f k x I hk J=>by
   have O:k<8:=hk
   have H:(ints b)[k]?=some ((ints b)[k]'(by show k<8;omega)):=Qd _
   have e1:A.ix [a.1,a.2.1,a.2.2.1,a.2.2.2.1,a.2.2.2.2.1,a.2.2.2.2.2.1,a.2.2.2.2.2.2.1,a.2.2.2.2.2.2.2] (k:Int)=some x:=A.ixn I
   have e2:A.ix [b.1,b.2.1,b.2.2.1,b.2.2.2.1,b.2.2.2.2.1,b.2.2.2.2.2.1,b.2.2.2.2.2.2.1,b.2.2.2.2.2.2.2] (k:Int)=some _:=A.ixn H
   rw[F.b6,A.ba,if_pos (decide_eq_true ⟨by omega,by omega⟩),e1,e2]
   simp only[Qa]
   rw[A.gd1 (A.r64n (by omega)),J,A.dropx H,lexC]
   repeat' split
   all_goals first|rfl|omega)
  (by show 8<A.FU;decide)
 rw[Wa]at this
 exact this
theorem Cmp64_eq (a b:Int):F.bZ a b=some (cmpI a b):=by
 unfold F.bZ F.cN cmpI
 simp only[Qa,ne_eq,not_true_eq_false,decide_false,Qy,if_false]
 split
 ·rfl
 ·split<;>rfl
theorem CompareI (a b:List Int)(h:a.length=b.length)(hl:a.length≤100):F.bx a b=some (lexC a b):=by
 have:=A.lp0 a (fun f z=>F.av a b f z) (fun k l=>some (lexC l (b.drop k)))
  (fun f=>by rw[F.av,if_neg (by omega),if_neg (by omega)];rfl)
  (fun f k x O hk ih=>by
   have J:b[k]?=some b[k]:=Qd (by omega)
   rw[F.av,if_pos (by omega),A.ixn O,Qa,if_neg (by omega),A.ixn J,Qa,Cmp64_eq,Qa,A.gd1 (A.r64n (by omega)),ih,A.dropx J,lexC]
   unfold cmpI
   by_cases H:x<b[k]
   ·rw[if_pos H,if_pos H,if_pos (by decide)]
   rw[if_neg H,if_neg H]
   by_cases I:b[k]<x
   ·rw[if_pos I,if_pos I,if_pos (by decide)]
   ·rw[if_neg I,if_neg I,if_neg (by decide)])
  (by have:=Qab;omega)
 rw[Wa]at this
 exact this
theorem Qdt (a b:Sm):F.aV a b=some (lexC (ints a) (ints b)):=by
 have st: ∀(x y:Int) (r:List Int) (u v:List Int) (z:Option Int),(x=y→(if orF r≠0 then some (orF r)else z)=some (lexC u v))→(if orF (cmpI x y::r)≠0 then some (orF (cmpI x y::r))else z)=some (lexC (x::u) (y::v)):=fun x y r u v z h=>by
  have e0:orF (cmpI x y::r)=if cmpI x y≠0 then cmpI x y else orF r:=rfl
  have e1:lexC (x::u) (y::v)=if x<y then-1 else if y<x then 1 else lexC u v:=rfl
  rcases Int.lt_trichotomy x y with H|H|H
  ·have e:cmpI x y= -1:=by unfold cmpI;rw[if_pos H]
   have e2:orF (cmpI x y::r)= -1:=by rw[e0,e];rfl
   rw[e2,e1,if_pos H,if_pos (show(-1:Int)≠0 by decide)]
  ·have e2:orF (cmpI x y::r)=orF r:=by rw[e0,H,Qcf];rfl
   rw[e2,e1,if_neg (show ¬x<y by omega),if_neg (show ¬y<x by omega)];exact h H
  ·have e2:orF (cmpI x y::r)=1:=by rw[e0,Qiu H];rfl
   rw[e2,e1,if_neg (show ¬x<y by omega),if_pos H,if_pos (show(1:Int)≠0 by decide)]
 unfold F.aV
 rw[Qds,Qa,Qds,Qa,Cmp64_eq,Qa,Qds,Qa,Or_eq _ (by simp),Qa,CompareI _ _ (by simp) (by simp),Qa]
 exact st _ _ _ _ _ _ fun _=>st _ _ _ _ _ _ fun _=>st _ _ _ _ _ _ fun _=>st _ _ _ _ _ _ fun _=>by rw[orF,if_neg (fun h=>h rfl)]
instance decLess: ∀a b:Sm,Decidable (Pth.less ctr ltS a b):=fun a b=>inferInstanceAs (Decidable (Pth.le (ctr a) (ctr b)∧(¬Pth.le (ctr b) (ctr a)∨ltS a b)))
theorem cmp_lt (a b:Sm):decide (lexC (ints a) (ints b)<0)=decide (ltS a b):=decide_eq_decide.2 (lexC_lt _ _)
theorem less_P {x y:Int}{a b:Sm}(O:GS x y a)(hb:GS x y b):F.ec a b=some (decide (Pth.less ctr ltS a b)):=by
 unfold F.ec F.cA
 by_cases J:a=b
 ·rw[if_neg (fun h=>h J),decide_eq_false (by rw[J];exact Pth.less_irr linS _)]
 rw[if_pos J,show F.dz (_,_,_,_,(_,_,_,_)) (_,_,_,_,(_,_,_,_))=_ from Leq_P O hb,Qa]
 by_cases H:Pth.le (ctr a) (ctr b)
 ·rw[if_pos (decide_eq_true H),show F.dz (_,_,_,_,(_,_,_,_)) (_,_,_,_,(_,_,_,_))=_ from Leq_P hb O,Qa]
  by_cases I:Pth.le (ctr b) (ctr a)
  ·rw[if_neg (by rw[decide_eq_true I];decide),show F.aV (_,_,_,_,(_,_,_,_)) (_,_,_,_,(_,_,_,_))=_ from Qdt a b,Qa,cmp_lt]
   congr 1;rw[decide_eq_decide]
   exact⟨fun h=>⟨H,.inr h⟩,fun h=>h.2.resolve_left fun h3=>h3 I⟩
  ·rw[if_pos (by rw[decide_eq_false I];rfl),decide_eq_true (p:=Pth.less ctr ltS a b) ⟨H,.inl I⟩]
 ·rw[if_neg (by rw[decide_eq_true_iff];exact H),decide_eq_false (fun h=>H h.1)]
theorem under_R {x y:Int}{a b:Sm}(J:GS x y a)(O:GS x y b):F.ef a b=some (decide (Pth.less ctr ltS a b)):=by
 unfold F.ef F.c1
 rw[show F.ee (_,_,_,_,(_,_,_,_)) (_,_,_,_,(_,_,_,_))=_ from Leq_R J O,Qa]
 by_cases H:Pth.le (ctr a) (ctr b)
 ·rw[if_pos (decide_eq_true H),show F.ee (_,_,_,_,(_,_,_,_)) (_,_,_,_,(_,_,_,_))=_ from Leq_R O J,Qa]
  by_cases I:Pth.le (ctr b) (ctr a)
  ·rw[if_neg (by rw[decide_eq_true I];decide),show F.cP (_,_,_,_,(_,_,_,_)) (_,_,_,_,(_,_,_,_))=_ from Qho a b,Qa,cmp_lt]
   congr 1;rw[decide_eq_decide]
   exact⟨fun h=>⟨H,.inr h⟩,fun h=>h.2.resolve_left fun h3=>h3 I⟩
  ·rw[if_pos (by rw[decide_eq_false I];rfl),decide_eq_true (p:=Pth.less ctr ltS a b) ⟨H,.inl I⟩]
 ·rw[if_neg (by rw[decide_eq_true_iff];exact H),decide_eq_false (fun h=>H h.1)]
abbrev rlS (a b:Sm):Bool:=decide (ltS a b)
def cpF:Sm→List Sm→List Sm
 |_,[]=>[]
 |p,x::l=>if x=p then cpF p l else x::cpF x l
def cpS:List Sm→List Sm
 | []=>[]
 |p::t=>p::cpF p t
theorem Qin: ∀{l:List Sm} {p r:Sm},r∈p::cpF p l↔r∈p::l
 | [],p,r=>by simp[cpF]
 |x::l,p,r=>by
  unfold cpF
  by_cases h:x=p
  ·subst h
   rw[if_pos rfl,Qin];simp
  ·rw[if_neg h,Qk,Qin,Qk,Qk,Qk]
theorem cpF_pw: ∀{l:List Sm} {p:Sm},(p::l).Pairwise (fun a b=>rlS b a=false)→(p::cpF p l).Pairwise ltS
 | [],p,_=>Yd ..
 |x::l,p,h=>by
  obtain⟨h1,J⟩:=Wi.1 h
  unfold cpF
  by_cases e:x=p
  ·subst e
   rw[if_pos rfl]
   exact cpF_pw J
  ·rw[if_neg e]
   have O:=cpF_pw J
   have H:ltS p x:=(linS.tri p x fun h=>e h.symm).resolve_right (of_decide_eq_false (h1 x (Qg ..)))
   refine Wi.2 ⟨fun b I=>?_,O⟩
   rcases Qk.1 I with rfl|I
   ·exact H
   ·exact linS.tr _ _ _ H ((Wi.1 O).1 b I)
theorem o_b8 {l:List Sm}(h:l.Pairwise (fun a b=>rlS b a=false)):(cpS l).Pairwise ltS∧∀s,s∈cpS l↔s∈l:=by
 cases l with
 |nil=>exact⟨List.Pairwise.nil,fun s=>Iff.rfl⟩
 |cons p t=>exact⟨cpF_pw h,fun s=>Qin⟩
theorem CompactS (l:List Sm)(hl:l.length≤1000000000):F.ao l=some (cpS l):=by
 have hFU:=Qab
 rw[F.ao]
 by_cases h2:l.length<2
 ·rw[if_pos (by omega)]
  cases l with
  |nil=>rfl
  |cons p t=>
   have:t=[]:=by cases t with
    |nil=>rfl
    |cons a b=>simp only[Qi]at h2;omega
   subst this
   rfl
 ·rw[if_neg (by omega)]
  have second: ∀(k:Nat) (hk:k<l.length),1≤k→∀(q j f i:Nat) (xs:List Sm) (p:Sm),k+j+q=l.length→q<f→1≤j→k≤i→i≤k+j-1→xs.length=l.length→xs.drop (k+j-1)=l.drop (k+j-1)→l[k+j-1]?=some p→
    F.p l (k:Int) f xs (i:Int) (j:Int)=some (xs.take i++cpF p (l.drop (k+j))):=by
   intro k hk hk1 q
   induction q with
   |zero=>
    intro j f i xs p hq O hj hi hij hx I hp
    obtain⟨f,rfl⟩: ∃f',f=f'+1:=⟨f-1,by omega⟩
    rw[F.p,if_neg (by omega),A.gd1 ⟨by omega,by omega⟩,A.gd1 ⟨by omega,by simp;omega⟩,Qs,X0 (by rw[Qu];omega),List.take_take,Nat.min_self,Q2 (by omega)]
    simp[cpF]
   |succ q J=>
    intro j f i xs p hq O hj hi hij hx I hp
    obtain⟨f,rfl⟩: ∃f',f=f'+1:=⟨f-1,by omega⟩
    obtain⟨y,H⟩: ∃y,l[k+j]?=some y:=⟨_,Qd (by omega)⟩
    have gx: ∀t,k+j-1≤t→xs[t]?=l[t]?:=fun t ht=>by
     have:=congrArg (fun z=>z[t-(k+j-1)]?) I
     simp only[Wc]at this
     rw[show k+j-1+(t-(k+j-1))=t by omega]at this
     exact this
    have y1:(xs.drop k)[j]?=some y:=by rw[Wc,gx _ (by omega)];exact H
    have y2:(xs.drop k)[j-1]?=some p:=by rw[Wc,gx _ (by omega),show k+(j-1)=k+j-1 by omega];exact hp
    have hxi:xs[i]?=some xs[i]:=Qd (by omega)
    have ej:(j:Int)-1=((j-1:Nat):Int):=by omega
    have ej1:(j:Int)+1=((j+1:Nat):Int):=by omega
    have ei1:(i:Int)+1=((i+1:Nat):Int):=by omega
    rw[F.p,if_pos (by omega),A.gd1 ⟨by omega,by omega⟩,Qs,A.gd1 (by omega),A.ixn y1,Qa,A.gd1 (by omega),ej,A.ixn y2,Qa,A.dropx H]
    show(if y≠p then _ else _)=some (xs.take i++cpF p (y::l.drop (k+j+1)))
    unfold cpF
    by_cases e:y=p
    ·rw[if_neg (fun h=>h e),if_pos e,F.aw,A.gd1 ⟨by omega,by omega⟩,ej1]
     exact J (j+1) f i xs p (by omega) (by omega) (by omega) hi (by omega) hx (by
      have:=congrArg (List.drop 1) I
      rw[X5,X5]at this
      rw[show k+(j+1)-1=k+j-1+1 by omega];exact this) (by rw[show k+(j+1)-1=k+j by omega,H,e])
    ·rw[if_pos e,if_neg e,A.gd1 (by omega),Qa,A.ixn hxi,Qa,A.gd1 ⟨by omega,by omega⟩,F.aw,A.gd1 ⟨by omega,by omega⟩,ej1,ei1,Qs]
     rw[J (j+1) f (i+1) (xs.set i y) y (by omega) (by omega) (by omega) (by omega) (by omega) (by rw[W5];exact hx) (by
      rw[List.drop_set_of_lt (by omega)]
      have:=congrArg (List.drop 1) I
      rw[X5,X5]at this
      rw[show k+(j+1)-1=k+j-1+1 by omega];exact this) (by rw[show k+(j+1)-1=k+j by omega,H])]
     have:(xs.set i y).take (i+1)=xs.take i++[y]:=by
      rw[Yk,Ys (by omega),List.take_set_of_le (by omega)];rfl
     rw[this,Wd];rfl
  have first: ∀(q k f:Nat) (p:Sm),k+q=l.length→q<f→1≤k→l[k-1]?=some p→F.x l f (k:Int)=some (l.take k++cpF p (l.drop k)):=by
   intro q
   induction q with
   |zero=>
    intro k f p hk O h1 hp
    obtain⟨f,rfl⟩: ∃f',f=f'+1:=⟨f-1,by omega⟩
    rw[F.x,if_neg (by omega),Q2 (by omega),W7 (by omega)];simp[cpF]
   |succ q J=>
    intro k f p hk O h1 hp
    obtain⟨f,rfl⟩: ∃f',f=f'+1:=⟨f-1,by omega⟩
    obtain⟨y,H⟩: ∃y,l[k]?=some y:=⟨_,Qd (by omega)⟩
    have ek:(k:Int)-1=((k-1:Nat):Int):=by omega
    rw[F.x,if_pos (by omega),A.gd1 ⟨by omega,by omega⟩,A.ixn H,Qa,ek,A.ixn hp,Qa]
    show(if y=p then _ else _)=_
    by_cases e:y=p
    ·rw[if_pos e,A.gd1 ⟨by omega,by omega⟩]
     have:=second k (by omega) h1 (l.length-(k+1)) 1 A.FU k l y (by omega) (by omega) (by omega) (by omega) (by omega) rfl rfl (by rw[show k+1-1=k by omega];exact H)
     refine this.trans ?_
     rw[A.dropx H]
     conv=>rhs;rw[cpF]
     rw[if_pos e,e]
    ·rw[if_neg e,A.gd1 ⟨by omega,by omega⟩,show(k:Int)+1=((k+1:Nat):Int) by omega,J (k+1) f y (by omega) (by omega) (by omega) (by rw[show k+1-1=k by omega];exact H),A.dropx H,Yk,H]
     conv=>rhs;rw[cpF]
     rw[if_neg e];simp
  obtain⟨p,t,rfl⟩: ∃p t,l=p::t:=by
   cases l with
   |nil=>simp at h2
   |cons p t=>exact⟨p,t,rfl⟩
  have:=first ((p::t).length -1) 1 A.FU p (by omega) (by omega) (by omega) rfl
  refine(show F.x (p::t) A.FU 1=_ from this).trans ?_
  rfl
theorem ordS (l:List Sm):A.ordB (fun x y=>F.aV x y) l=true∧A.cl0 (fun x y=>F.aV x y)=rlS∧A.OrdOn rlS l:=by
 have e:A.cl0 (fun x y=>F.aV x y)=rlS:=by
  funext a b
  show(match F.aV a b with|some c=>decide (c<0)|none=>false)=_
  rw[Qdt];exact cmp_lt a b
 have asy: ∀a b,rlS a b=true→rlS b a=false:=fun a b h=>decide_eq_false fun H=>linS.irr _ (linS.tr _ _ _ (of_decide_eq_true h) H)
 have tri: ∀a b,rlS a b=false→rlS b a=false→a=b:=fun a b I H=>Wb fun h=>(linS.tri a b h).elim (of_decide_eq_false I) (of_decide_eq_false H)
 have tr: ∀a b c,rlS a b=true→rlS b c=true→rlS a c=true:=fun a b c I H=>decide_eq_true (linS.tr _ _ _ (of_decide_eq_true I) (of_decide_eq_true H))
 refine⟨?_,e,fun x _ y _ h=>asy x y h,fun x _ y _ I H=>tri x y I H,fun x _ y _ z _ I H=>tr x y z I H⟩
 unfold A.ordB
 rw[Qz]
 intro x J
 rw[Qz]
 intro y O
 rw[e,Qm,Qm]
 refine⟨⟨by show(F.aV x y).isSome=true;rw[Qdt];rfl,?_⟩,?_⟩
 ·cases I:rlS x y with
  |true=>rw[asy x y I];rfl
  |false=>
   cases H:rlS y x with
   |true=>rfl
   |false=>rw[decide_eq_true (tri x y I H)];rfl
 ·rw[Qz]
  intro z hz
  cases I:rlS x y with
  |false=>rfl
  |true=>
   cases H:rlS y z with
   |false=>rfl
   |true=>rw[tr x y z I H];rfl
theorem sortSm (l:List Sm)(H:l.length≤1000000000): ∃r,((F.ac l).bind fun r=>(F.ao r).bind fun r=>some (r,(0:Int)))=some (r,0)∧r.Pairwise ltS∧∀s,s∈r↔s∈l:=by
 obtain⟨I,J,O⟩:=ordS l
 have hp:=A.srtL_perm rlS l
 obtain⟨h4,h5⟩:=o_b8 (A.srtL_pw O l fun a h=>h)
 refine⟨cpS (A.srtL rlS l),?_,h4,fun s=>(h5 s).trans hp.mem_iff⟩
 rw[F.ac,A.gd1 (by omega),A.srtF,if_pos I,Qa,J,CompactS _ (by rw[hp.length_eq];exact H)];rfl
theorem Qgo {x y:Int}(l:List Sm)(hl:l.length≤1000000000)(O: ∀s∈l,GS x y s){s:Sm}(hs:GS x y s):F.o l s=some (l.any fun u=>decide (Pth.less ctr ltS u s)):=by
 have h:=A.fst l (fun u=>decide (Pth.less ctr ltS u s)) (fun f z=>F.d l s f z)
  (fun f=>by rw[F.d,if_neg (by omega)])
  (fun f k u H hk=>by
   rw[F.d,if_pos (by omega),A.ixn H,Qa,F.eq]
   rw[show F.ec (_,_,_,_,(_,_,_,_)) (_,_,_,_,(_,_,_,_))=_ from less_P (O u (Qf H)) hs,Qa,Qa,A.gd1 (A.r64n (by omega))])
  (by have:=Qab;omega)
 unfold F.o F.ay
 rcases h with⟨I,J⟩|⟨k,u,I,J,h3,_⟩
 ·rw[show F.d l (_,_,_,_,(_,_,_,_)) A.FU 0=_ from I,Qa,X1.2 fun u H=>by rw[J u H];decide];rfl
 ·rw[show F.d l (_,_,_,_,(_,_,_,_)) A.FU 0=_ from J,Qa,Ya.2 ⟨u,Qf I,h3⟩,decide_eq_true (by omega)]
theorem Ends_P {x y:Int}{s:Sm}(h:GS x y s):F.dc s=some y:=by
 obtain⟨o,I,H⟩:=h
 have hk:=o.k
 have J:=o.n
 have O:=o.f
 unfold F.dc
 rw[show F.az (_,_,_,_,(_,_,_,_))=some true from o_r o,Qa,if_neg (by decide),A.gd1 ⟨by omega,by omega⟩,H]
theorem least_mem {x y:Int}{l r:List Sm}(H:r.Pairwise ltS)(I: ∀s,s∈r↔s∈l.filter fun s=> !(l.any fun u=>decide (Pth.less ctr ltS u s))):Pth.IsLst ctr ltS l r:=by
 refine⟨H,fun s=>(I s).trans ?_⟩
 rw[Yn,Xs,X1]
 simp only[decide_eq_true_eq]
theorem Least_P {x y:Int}(l:List Sm)(hl:l.length≤1000000000)(J: ∀s∈l,GS x y s): ∃r,F.dT l=some (r,0)∧Pth.IsLst ctr ltS l r:=by
 have l3:=A.lp l (fun f (xs:List Sm) z=>F.a1 l f xs z) (fun k t xs=>((F.ac (xs++t.filter fun s=> !(l.any fun u=>decide (Pth.less ctr ltS u s)))).bind fun r=>(F.ao r).bind fun r=>some (r,(0:Int)))) (fun k xs=>xs.length≤k)
  (fun f xs hxs=>by rw[F.a1,if_neg (by omega),List.filter_nil,Wk])
  (fun f xs k s H hk hxs O=>by
   obtain⟨z,I⟩: ∃z,l[0]?=some z:=⟨_,Qd (by omega)⟩
   have hsl:=Qf H
   have g1:=J s hsl
   have g0:=J _ (Qf I)
   rw[F.a1,if_pos (by omega),A.ixn H,Qa,show A.ix l 0=some z from A.ixn (k:=0) I,Qa,if_neg (by rw[g1.2.1,g0.2.1];exact fun h=>h rfl),Qa]
   rw[show F.dc (_,_,_,_,(_,_,_,_))=_ from Ends_P g1,Qa,show F.dc (_,_,_,_,(_,_,_,_))=_ from Ends_P g0,Qa,decide_eq_false (fun h=>h rfl)]
   unfold F.dj F.di
   rw[if_neg (by decide),show F.o l (_,_,_,_,(_,_,_,_))=_ from Qgo l hl J g1,Qa,A.gd1 (A.r64n (by omega)),A.gd1 (A.r64n (by omega)),Xk]
   cases hb:(l.any fun u=>decide (Pth.less ctr ltS u s))with
   |true=>rw[if_neg (by decide),if_neg (by decide)];exact O _ (by omega)
   |false=>
    rw[if_pos (show(!false)=true from rfl),if_pos (show(!false)=true from rfl),A.gd1 (by rw[W8];omega),O _ (by rw[Ql,W8];omega),Wd]
    rfl)
  (by have:=Qab;omega) [] (by simp)
 have l4:=A.lp0 l (fun f z=>F.co l f z) (fun k t=>F.a1 l A.FU [] 0)
  (fun f=>by rw[F.co,if_neg (by omega)])
  (fun f k s H hk O=>by
   rw[F.co,if_pos (by omega),A.ixn H,Qa,show F.az (_,_,_,_,(_,_,_,_))=some true from o_r (J s (Qf H)).1,Qa,if_neg (by decide),A.gd1 (A.r64n (by omega)),O])
  (by have:=Qab;omega)
 obtain⟨r,h1,h2,h3⟩:=sortSm (l.filter fun s=> !(l.any fun u=>decide (Pth.less ctr ltS u s))) (Wh (X4 _ _) hl)
 refine⟨r,?_,least_mem (x:=x) (y:=y) h2 h3⟩
 unfold F.dT
 rw[l4,l3,Xa,h1]
def insP (s:Sm):List Sm→List Sm
 | []=>[s]
 |x::l=>if x=s then x::l else if ltS s x then s::x::l else x::insP s l
theorem Qgj (s:Sm): ∀(l:List Sm) (u:Sm),u∈insP s l↔u=s∨u∈l
 | [],u=>by simp[insP]
 |x::l,u=>by
  unfold insP
  split
  ·rename_i h;subst h;simp
  ·(split)
   ·simp
   ·rw[Qk,Qgj s l u,Qk]
    constructor<;>rintro(h|h|h)<;>simp[h]
theorem insP_pw (s:Sm): ∀{l:List Sm},l.Pairwise ltS→(insP s l).Pairwise ltS
 | [],_=>Yd ..
 |x::l,h=>by
  obtain⟨O,h2⟩:=Wi.1 h
  unfold insP
  split
  ·exact h
  ·rename_i J
   split
   ·rename_i I
    refine Wi.2 ⟨fun b H=>?_,h⟩
    rcases Qk.1 H with rfl|H
    ·exact I
    ·exact linS.tr _ _ _ I (O b H)
   ·rename_i hnlt
    refine Wi.2 ⟨fun b H=>?_,insP_pw s h2⟩
    rcases(Qgj s l b).1 H with rfl|H
    ·exact(linS.tri x b J).resolve_right hnlt
    ·exact O b H
theorem insP_len (s:Sm): ∀(l:List Sm),(insP s l).length≤l.length+1
 | []=>Q1 _
 |x::l=>by
  unfold insP
  have:=insP_len s l
  split
  ·simp
  ·split<;>simp<;>omega
theorem insert_R (l:List Sm)(s:Sm)(hl:l.length≤1000000000):F.es l s=some (insP s l):=by
 have:=A.lp l (fun f (st:List Sm×Bool) z=>F.aS l s f st.1 st.2 z) (fun k t st=>some (st.1++if st.2=true then t else insP s t)) (fun k st=>st.1.length≤k+1∧(st.2=false→st.1.length≤k))
  (fun f st H=>by
   rw[F.aS,if_neg (by omega)]
   cases hb:st.2 with
   |true=>rw[if_neg (by decide),F.cL,if_pos rfl,Wk]
   |false=>rw[if_pos (by decide),A.gd1 (by rw[W8];omega),F.cL];rfl)
  (fun f st k x hx hk H ih=>by
   have J: ∀(xs:List Sm) (b:Bool),xs.length≤k+1→(b=false→xs.length≤k)→F.cI (F.aS l s f) l (k:Int) xs b=some (xs++[x]++if b=true then l.drop (k+1)else insP s (l.drop (k+1))):=fun xs b h1 h2=>by
    unfold F.cI
    rw[A.ixn hx,Qa,A.gd1 (by rw[W8];omega),A.gd1 (A.r64n (by omega))]
    exact ih (xs++[x],b) ⟨by rw[Ql,W8];omega,fun h=>by rw[Ql,W8];have:=h2 h;omega⟩
   rw[F.aS,if_pos (by omega),A.ixn hx,Qa]
   by_cases O:x=s
   ·rw[if_pos O]
    unfold F.cK F.cJ
    rw[if_neg (by decide),if_neg (by decide),J _ _ H.1 (fun h=>absurd h (by decide)),if_pos rfl]
    cases st.2 with
    |true=>simp
    |false=>simp[insP,O]
   ·rw[if_neg O]
    unfold F.cK F.cJ
    cases hb:st.2 with
    |true=>rw[if_neg (by decide),if_neg (by decide),J _ _ H.1 (fun h=>absurd h (by decide))];simp
    |false=>
     have h3:=H.2 hb
     rw[if_pos (by decide),A.ixn hx,Qa,show F.cP (_,_,_,_,(_,_,_,_)) (_,_,_,_,(_,_,_,_))=_ from Qho s x,Qa,cmp_lt,if_neg (show ¬(false:Bool)=true by decide),insP,if_neg O]
     by_cases I:ltS s x
     ·rw[if_pos (decide_eq_true I),if_pos I,A.gd1 (by rw[W8];omega),J _ _ (by rw[Ql,W8];omega) (fun h=>absurd h (by decide)),if_pos rfl]
      simp
     ·rw[if_neg (by rw[decide_eq_true_iff];exact I),if_neg I,J _ _ (by omega) (fun _=>h3),if_neg (by decide)]
      simp)
  (by have:=Qab;omega) ([],false) ⟨by simp,by simp⟩
 exact this
theorem Least_R {x y:Int}(l:List Sm)(hl:l.length≤1000000000)(O: ∀s∈l,GS x y s): ∃r,F.eD l=some (r,0)∧Pth.IsLst ctr ltS l r:=by
 have l3: ∀(xs:List Sm) (i:Nat) (s:Sm) (K:List Sm→Int→Option (List Sm×Int)),l[i]?=some s→i<l.length→xs.length≤1000000000→F.bo K l xs (i:Int) A.FU true 0=if(l.any fun u=>decide (Pth.less ctr ltS u s))=true then F.bP K (i:Int) xs else F.bP K (i:Int) (insP s xs):=fun xs i s K H hi J=>by
  have:=A.lp l (fun f (b:Bool) z=>F.bo K l xs (i:Int) f b z) (fun k t b=>if(!b||t.any fun u=>decide (Pth.less ctr ltS u s))=true then F.bP K (i:Int) xs else F.bP K (i:Int) (insP s xs)) (fun _ _=>True)
   (fun f b _=>by
    rw[F.bo,if_neg (by omega)]
    cases b with
    |true=>rw[if_pos rfl,A.ixn H,Qa,show F.es xs (_,_,_,_,(_,_,_,_))=_ from insert_R xs s J,Qa];exact(if_neg (by simp)).symm
    |false=>rw[if_neg (show ¬(false:Bool)=true by decide)];exact(if_pos (by simp)).symm)
   (fun f b k u hu hk _ I=>by
    rw[F.bo,if_pos (by omega),A.ixn hu,Qa,A.ixn H,Qa,show F.ef (_,_,_,_,(_,_,_,_)) (_,_,_,_,(_,_,_,_))=_ from under_R (O u (Qf hu)) (O s (Qf H)),Qa]
    unfold F.dA
    rw[A.gd1 (A.r64n (by omega)),A.gd1 (A.r64n (by omega)),Xo,I _ trivial,I _ trivial]
    cases hb:decide (Pth.less ctr ltS u s)with
    |true=>rw[if_pos rfl,if_pos (by simp),if_pos (by simp)]
    |false=>simp only[W6,Qy,if_false])
   (by have:=Qab;omega) true trivial
  exact this
 have l5:=A.lp l (fun f (xs:List Sm) z=>F.aW l f xs z) (fun k t xs=>some ((t.filter fun s=> !(l.any fun u=>decide (Pth.less ctr ltS u s))).foldl (fun a s=>insP s a) xs,(0:Int))) (fun k xs=>xs.length≤k)
  (fun f xs J=>by rw[F.aW,if_neg (by omega)];rfl)
  (fun f xs k s H hk J I=>by
   obtain⟨z,hl0⟩: ∃z,l[0]?=some z:=⟨_,Qd (by omega)⟩
   have g1:=O s (Qf H)
   have g0:=O _ (Qf hl0)
   have k1:=g1.1.k
   have n1:=g1.1.n
   have f1:=g1.1.f
   have k2:=g0.1.k
   have n2:=g0.1.n
   have f2:=g0.1.f
   have e0:A.ix l 0=some z:=A.ixn (k:=0) hl0
   rw[F.aW,if_pos (by omega),A.ixn H,Qa,e0,Qa,if_neg (by rw[g1.2.1,g0.2.1];exact fun h=>h rfl)]
   simp only[Qa]
   rw[A.gd1 ⟨by omega,by omega⟩,A.gd1 ⟨by omega,by omega⟩,decide_eq_false (by rw[g1.2.2,g0.2.2];exact fun h=>h rfl)]
   unfold F.dB
   rw[if_neg (by decide),l3 xs k s _ H hk (by omega),Xk]
   unfold F.bP
   rw[A.gd1 (A.r64n (by omega)),A.gd1 (A.r64n (by omega))]
   cases hb:(l.any fun u=>decide (Pth.less ctr ltS u s))with
   |true=>rw[if_pos rfl,if_neg (by decide)];exact I _ (by omega)
   |false=>
    have:=insP_len s xs
    rw[if_neg (by decide),if_pos (show(!false)=true from rfl),List.foldl_cons];exact I _ (by omega))
  (by have:=Qab;omega) [] (by simp)
 have l6:=A.lp0 l (fun f z=>F.cC l f z) (fun k t=>F.aW l A.FU [] 0)
  (fun f=>by rw[F.cC,if_neg (by omega)])
  (fun f k s H hk I=>by
   rw[F.cC,if_pos (by omega),A.ixn H,Qa,show F.aa (_,_,_,_,(_,_,_,_))=some 0 from o_e (O s (Qf H)).1,Qa,if_neg (by decide),A.gd1 (A.r64n (by omega)),I])
  (by have:=Qab;omega)
 have fold: ∀(t xs:List Sm),xs.Pairwise ltS→(t.foldl (fun a s=>insP s a) xs).Pairwise ltS∧∀s,s∈t.foldl (fun a s=>insP s a) xs↔s∈xs∨s∈t:=by
  intro t
  induction t with
  |nil=>intro xs h;exact⟨h,fun s=>by simp⟩
  |cons u t I=>
   intro xs h
   obtain⟨h1,h2⟩:=I (insP u xs) (insP_pw u h)
   refine⟨h1,fun s=>(h2 s).trans ?_⟩
   rw[Qgj,Qk]
   constructor
   ·rintro((h|h)|h)<;>simp[h]
   ·rintro(h|h|h)<;>simp[h]
 obtain⟨h2,h3⟩:=fold (l.filter fun s=> !(l.any fun u=>decide (Pth.less ctr ltS u s))) [] List.Pairwise.nil
 refine⟨_,?_,least_mem (x:=x) (y:=y) h2 fun s=>(h3 s).trans ?_⟩
 ·unfold F.eD
  rw[l6,l5]
 ·simp
abbrev Pth:=Pl×Pl×List Sm
theorem SameS (a b:List Sm)(h:a.length≤1000000000):F.eN a b=some (decide (a=b)):=by
 unfold F.eN
 by_cases H:a.length=b.length
 ·rw[if_neg (by omega)]
  exact A.eql a b (fun f y=>F.cQ a b f y) H (fun f=>by rw[F.cQ,if_neg (by omega)])
   (fun f k x z I J hk=>by
    rw[F.cQ,if_pos (by omega),A.ixn I,Qa,A.ixn J,Qa,A.gd1 (A.r64n (by omega))]
    by_cases e:x=z
    ·rw[if_neg (fun h=>h e),if_pos e]
    ·rw[if_pos e,if_neg e])
   (by have:=Qab;omega)
 ·rw[if_pos (by omega),decide_eq_false (fun e=>H (by rw[e]))]
theorem EqualS (a b:List Sm)(h:a.length≤1000000000):F.aH a b=some (decide (a=b)):=by
 unfold F.aH
 by_cases H:a.length=b.length
 ·rw[if_neg (by omega)]
  exact A.eql a b (fun f y=>F.aj a b f y) H (fun f=>by rw[F.aj,if_neg (by omega)])
   (fun f k x z I J hk=>by
    rw[F.aj,if_pos (by omega),A.ixn I,Qa,A.ixn J,Qa,A.gd1 (A.r64n (by omega))]
    by_cases e:x=z
    ·rw[if_neg (fun h=>h e),if_pos e]
    ·rw[if_pos e,if_neg e])
   (by have:=Qab;omega)
 ·rw[if_pos (by omega),decide_eq_false (fun e=>H (by rw[e]))]
def Tbl (l:List Pth):Prop:=l.length≤100000∧∀x∈l,x.2.2.length≤1000000000
def Qfy (p q:Pl):List Pth→List Sm
 | []=>[]
 |x::l=>if x.1=p∧x.2.1=q then x.2.2 else Qfy p q l
theorem Sums_P (l:List Pth)(p q:Pl)(h:Tbl l):F.dd l p q=some (Qfy p q l):=
 A.lp0 l (fun f y=>F.cm l p q f y) (fun _ l=>some (Qfy p q l))
  (fun f=>by rw[F.cm,if_neg (by omega)];rfl)
  (fun f k x I hk J=>by
   have hs:=h.2 x (Qf I)
   have O:=h.1
   rw[F.cm,if_pos (by omega),A.ixn I,Qa,Qfy,A.gd1 (A.r64n (by omega)),J]
   unfold F.ad
   rw[A.gd1 (by rw[Qx];omega),Qa,Xa]
   by_cases H:x.1=p∧x.2.1=q
   ·rw[if_pos H,if_pos (show(x.1,x.2.1)=(p,q)from Ju H.1 H.2)]
   ·rw[if_neg H,if_neg (fun e:(x.1,x.2.1)=(p,q)=>H ⟨congrArg Prod.fst e,congrArg Prod.snd e⟩)])
  (by have:=Qab;have:=h.1;omega)
end Go.Proofs.YtlbnpmfggfbdoaaGreatDoor
end
section
namespace Go.A
theorem srtF_perm {α:Type}[DecidableEq α]{cmp:α→α→Option Int}{xs ys:List α}(h:ys.Perm xs)(H:ordB cmp xs=true):srtF cmp ys=some (srtL (cl0 cmp) xs):=by
 have key:ordB cmp ys=true:=by
  unfold ordB at H ⊢
  rw[Qz]at H ⊢
  intro x hx
  have J:=H x (h.mem_iff.1 hx)
  rw[Qz]at J ⊢
  intro y hy
  have I:=J y (h.mem_iff.1 hy)
  rw[Qm,Qz]at I ⊢
  exact⟨I.1,fun z hz=>I.2 z (h.mem_iff.1 hz)⟩
 unfold srtF
 rw[if_pos key]
 obtain⟨O,_⟩:=Qiv H
 have hm: ∀a∈ys,a∈xs:=fun a ha=>h.mem_iff.1 ha
 rw[srt_uniq O ((srtL_perm (cl0 cmp) ys).trans h) (srtL_pw O ys hm)]
theorem dem_allK {α β γ:Type}[DecidableEq γ](m:List α)(g:α→β)(L:Nat→List Nat→List β→Option γ)(E:List β→Option γ)(K:Nat→List Nat→List β→Nat→α→Option γ)(r:γ)
  (hL: ∀f sn xs,L (f+1) sn xs=dem m sn (E xs) (K f sn xs)) (hK: ∀f sn xs i p,m[i]?=some p→xs.length<m.length→K f sn xs i p=L f (i::sn) (xs++[g p]))
  (hE: ∀ys,ys.Perm (m.map g)→E ys=some r) (hm:m.length<FU):L FU [] []=some r:=by
 have main: ∀(f:Nat) (sn:List Nat) (xs:List β),sn.Nodup→(∀i,i∈sn→i<m.length)→m.length<f+sn.length→xs.length=sn.length→xs.Perm ((sn.filterMap fun i=>m[i]?).map g)→L f sn xs=some r:=by
  intro f
  induction f with
  |zero=>intro sn xs J H h3;have:=Qeb J H;omega
  |succ f ih=>
   intro sn xs J H h3 h4 h5
   have hsl:=Qeb J H
   rw[hL]
   have dof: ∀{e:Option γ} {k:Nat→α→Option γ},((∀i,i<m.length→i∈sn)→e=some r)→(∀i p,m[i]?=some p→i∉sn→k i p=some r)→dem m sn e k=some r:=by
    intro e k J H
    unfold dem
    have hmem: ∀i,i∈(List.range m.length).filter (fun i=> !(sn.contains i))↔i<m.length∧i∉sn:=fun i=>by
     rw[Yn,Xj];simp
    split
    ·rename_i hl
     rw[hl]at hmem
     exact J fun i O=>Wb fun hn=>by have:=(hmem i).2 ⟨O,hn⟩;cases this
    ·rename_i i js hl
     rw[hl]at hmem
     have O:=(hmem i).1 (Qg ..)
     rw[Qd O.1,Qa,H i _ (Qd O.1) O.2,if_pos]
     rw[Qz]
     intro j I
     have I:=(hmem j).1 (Qe _ I)
     rw[Qd I.1,Qa,H j _ (Qd I.1) I.2]
     exact decide_eq_true rfl
   refine dof (fun hall=>hE xs (h5.trans ?_)) fun i p hp O=>?_
   ·refine List.Perm.map g ?_
    have hp:sn.Perm (List.range m.length):=by
     refine(List.perm_ext_iff_of_nodup J List.nodup_range).2 fun i=>?_
     rw[Xj];exact⟨H i,hall i⟩
    refine(hp.filterMap _).trans ?_
    have:(List.range m.length).filterMap (fun i=>m[i]?)=m:=by
     have e:(List.range m.length).filterMap (fun i=>m[i]?)=(List.range m.length).pmap (fun i h=>m[i]'h) (fun i h=>Xj.1 h):=by
      have: ∀(l:List Nat) (h: ∀i,i∈l→i<m.length),l.filterMap (fun i=>m[i]?)=l.pmap (fun i h=>m[i]'h) h:=by
       intro l
       induction l with
       |nil=>intro _;rfl
       |cons i l ih=>intro h;rw[List.filterMap_cons,Qd (h i (Qg ..)),List.pmap];simp only[];rw[ih fun j I=>h j (Qe _ I)]
      exact this _ _
     rw[e];exact List.ext_getElem (by simp) fun k J H=>by simp
    rw[this]
   ·have hlt:=(Qc.1 hp).1
    have hsn:(i::sn).Nodup:=Wm.2 ⟨O,J⟩
    have hsb: ∀j,j∈i::sn→j<m.length:=fun j I=>(Qk.1 I).elim (fun e=>e▸hlt) (H j)
    have hsl2:=Qeb hsn hsb
    rw[Qi]at hsl2
    rw[hK f sn xs i p hp (by omega)]
    refine ih _ _ hsn hsb (by rw[Qi];omega) (by rw[Ql,h4];rfl) ?_
    rw[List.filterMap_cons,hp]
    simp only[Q3]
    exact(List.perm_append_comm (l₁:=xs) (l₂:=[g p])).trans (h5.cons (g p))
 exact main FU [] [] X6 (by simp) (by simpa using hm) rfl (List.Perm.refl _)
end Go.A
namespace Go.Proofs.YtlbnpmfggfbdoaaGreatDoor
open Go.RowKit Go.Graph
abbrev Ends:=Pl×Pl
abbrev Tab0:=List (Ends×List Sm)
def Qcu (p:Ends×List Sm):Pth:=(p.1.1,p.1.2,p.2)
theorem Qhf (m:Tab0)(hk: ∀p∈m,A.h6 p.1.1.1∧A.h6 p.1.1.2∧A.h6 p.1.2.1∧A.h6 p.1.2.2)(J: ∀p∈m,p.2≠[])(hl:m.length≤1000000)(O:A.ordB (fun x y=>F.aI x y) (m.map Qcu)=true):
  F.aD m A.FU [] []=some (A.srtL (A.cl0 fun x y=>F.aI x y) (m.map Qcu),0):=
 A.dem_allK m Qcu (fun f sn xs=>F.aD m f sn xs) (fun xs=>(F.ar xs).bind fun r=>some (r,0))
  (fun f sn xs i p=>A.gd (decide (A.h6 p.1.1.1)=true∧decide (A.h6 p.1.1.2)=true∧decide (A.h6 p.1.2.1)=true∧decide (A.h6 p.1.2.2)=true) (if(0:Int)<((p.2).length:Int)then(A.gd ((List.length (α:=Pth) xs+List.length (α:=Pth) [(p.1.1,p.1.2,p.2)])*56≤140737488355328) ((F.aD m f) (i::sn) (xs++[(p.1.1,p.1.2,p.2)])))else((F.aD m f) (i::sn) xs))) _
  (fun f sn xs=>by rw[F.aD])
  (fun f sn xs i p hp hx=>by
   have H:=Qf hp
   obtain⟨a,b,c,d⟩:=hk p H
   have h0:=List.length_pos_iff.2 (J p H)
   rw[A.gd1 ⟨decide_eq_true a,decide_eq_true b,decide_eq_true c,decide_eq_true d⟩,if_pos (by omega),A.gd1 (by rw[W8];omega)]
   rfl)
  (fun ys I=>by
   have hlen:=I.length_eq
   rw[Qw]at hlen
   unfold F.ar
   rw[A.gd1 (by omega),A.srtF_perm I O];rfl)
  (by have:=Qab;omega)
def g0_:List Nd:=[(1,1,[],(0,0,ByteArray.mk #[]),ByteArray.mk #[97],0,0),(2,2,[1],(1,0,ByteArray.mk #[]),ByteArray.mk #[],0,0),(3,15,[2],(0,0,ByteArray.mk #[]),ByteArray.mk #[98],0,0)]
def zz:List Sm:=[(0,0,0,0,(0,0,0,0))]
def sp0:List Sp:=[((1,2),0),((2,0),0),((2,2),0),((3,0),0)]
def zS:Sm:=(0,0,0,0,(0,0,0,0))
def ed0:List (Pl×Pl×Sm):=[((1,2),(2,0),zS),((2,0),(2,2),zS),((2,2),(3,0),zS)]
theorem spots0:F.b9 g0_=some (sp0,0):=by kernel_rfl
theorem edges0:F.ct g0_=some (ed0,0):=by kernel_rfl
def tb4:Tab0:=[(((1,2),(1,2)),zz),(((2,0),(2,0)),zz),(((2,2),(2,2)),zz),(((3,0),(3,0)),zz)]
def tb5:Tab0:=[(((1,2),(1,2)),zz),(((2,0),(2,0)),zz),(((2,2),(2,2)),zz),(((3,0),(3,0)),zz),(((1,2),(2,0)),zz)]
def tb6:Tab0:=[(((1,2),(1,2)),zz),(((2,0),(2,0)),zz),(((2,2),(2,2)),zz),(((3,0),(3,0)),zz),(((1,2),(2,0)),zz),(((1,2),(2,2)),zz)]
def tb7:Tab0:=[(((1,2),(1,2)),zz),(((2,0),(2,0)),zz),(((2,2),(2,2)),zz),(((3,0),(3,0)),zz),(((1,2),(2,0)),zz),(((1,2),(2,2)),zz),(((1,2),(3,0)),zz)]
def tb8:Tab0:=[(((1,2),(1,2)),zz),(((2,0),(2,0)),zz),(((2,2),(2,2)),zz),(((3,0),(3,0)),zz),(((1,2),(2,0)),zz),(((1,2),(2,2)),zz),(((1,2),(3,0)),zz),(((2,0),(2,2)),zz)]
def tb9:Tab0:=[(((1,2),(1,2)),zz),(((2,0),(2,0)),zz),(((2,2),(2,2)),zz),(((3,0),(3,0)),zz),(((1,2),(2,0)),zz),(((1,2),(2,2)),zz),(((1,2),(3,0)),zz),(((2,0),(2,2)),zz),(((2,0),(3,0)),zz)]
def tb10:Tab0:=[(((1,2),(1,2)),zz),(((2,0),(2,0)),zz),(((2,2),(2,2)),zz),(((3,0),(3,0)),zz),(((1,2),(2,0)),zz),(((1,2),(2,2)),zz),(((1,2),(3,0)),zz),(((2,0),(2,2)),zz),(((2,0),(3,0)),zz),(((2,2),(3,0)),zz)]
def ta0:Tab0:=[]
def ta1:Tab0:=[(((1,2),(1,2)),zz)]
def ta2:Tab0:=[(((1,2),(1,2)),zz),(((2,0),(2,0)),zz)]
def ta3:Tab0:=[(((1,2),(1,2)),zz),(((2,0),(2,0)),zz),(((2,2),(2,2)),zz)]
theorem id0:F.dn 0=some (zS,0):=by kernel_rfl
theorem init_step {f:Nat}{m m':Tab0}{y:Nat}{p:Pl}(hp:sp0[y]?=some (p,0))(H:F.ap m (p,p) [zS]=some (true,m')):F.aE (sp0,0) (ed0,0) (f+1) m (y:Int)=F.aE (sp0,0) (ed0,0) f m' ((y:Int)+1):=by
 have I:=(Qc.1 hp).1
 have J:sp0.length=4:=rfl
 rw[F.aE,if_pos (show(y:Int)<(sp0.length:Int) by omega),show A.ix ((sp0,0):List Sp×Int).1 (y:Int)=some (p,0)from A.ixn hp,Qa,show F.dn ((p,0):Sp).2=some (zS,0)from id0,Qa]
 rw[show F.ap m (((((p,0):Sp).1.1),(((p,0):Sp).1.2)),((((p,0):Sp).1.1),(((p,0):Sp).1.2))) [(((zS,0):Sm×Int).1.1,((zS,0):Sm×Int).1.2.1,((zS,0):Sm×Int).1.2.2.1,((zS,0):Sm×Int).1.2.2.2.1,(((zS,0):Sm×Int).1.2.2.2.2.1,((zS,0):Sm×Int).1.2.2.2.2.2.1,((zS,0):Sm×Int).1.2.2.2.2.2.2.1,((zS,0):Sm×Int).1.2.2.2.2.2.2.2))]=some (true,m')from H,Qa,A.gd1 (A.r64n (by omega))]
theorem ad0:F.ap ta0 ((1,2),(1,2)) [zS]=some (true,ta1):=by kernel_rfl
theorem ad1:F.ap ta1 ((2,0),(2,0)) [zS]=some (true,ta2):=by kernel_rfl
theorem ad2:F.ap ta2 ((2,2),(2,2)) [zS]=some (true,ta3):=by kernel_rfl
theorem ad3:F.ap ta3 ((3,0),(3,0)) [zS]=some (true,tb4):=by kernel_rfl
theorem init0:F.aE (sp0,0) (ed0,0) A.FU [] 0=F.t (sp0,0) (ed0,0) A.FU tb4:=by
 obtain⟨n,H⟩: ∃n,A.FU=n+5:=⟨A.FU-5,by decide⟩
 rw[show F.aE (sp0,0) (ed0,0) A.FU [] 0=F.aE (sp0,0) (ed0,0) (n+5) ta0 ((0:Nat):Int) by rw[←H];rfl]
 rw[init_step (y:=0) rfl ad0]
 refine(init_step (y:=1) rfl ad1).trans ?_
 refine(init_step (y:=2) rfl ad2).trans ?_
 refine(init_step (y:=3) rfl ad3).trans ?_
 rw[F.aE,if_neg (by decide)]
theorem round4 (k:Tab0→Option ((List Pth)×Int)):F.j k (sp0,0) (ed0,0) A.FU tb4 0=k tb5:=by kernel_rfl
theorem round5 (k:Tab0→Option ((List Pth)×Int)):F.j k (sp0,0) (ed0,0) A.FU tb5 0=k tb6:=by kernel_rfl
theorem round6 (k:Tab0→Option ((List Pth)×Int)):F.j k (sp0,0) (ed0,0) A.FU tb6 0=k tb7:=by kernel_rfl
theorem round7 (k:Tab0→Option ((List Pth)×Int)):F.j k (sp0,0) (ed0,0) A.FU tb7 0=k tb8:=by kernel_rfl
theorem round8 (k:Tab0→Option ((List Pth)×Int)):F.j k (sp0,0) (ed0,0) A.FU tb8 0=k tb9:=by kernel_rfl
theorem round9 (k:Tab0→Option ((List Pth)×Int)):F.j k (sp0,0) (ed0,0) A.FU tb9 0=k tb10:=by kernel_rfl
theorem scan {f:Nat}{k:Tab0→Option ((List Pth)×Int)}{y:Nat}{x:Sp}(H:sp0[y]?=some x)(I: ∀k65,F.ai k k65 (ed0,0) (y:Int) x A.FU tb10 0=k65 tb10 ((y:Int)+1)):F.j k (sp0,0) (ed0,0) (f+1) tb10 (y:Int)=F.j k (sp0,0) (ed0,0) f tb10 ((y:Int)+1):=by
 have J:=(Qc.1 H).1
 have O:sp0.length=4:=rfl
 rw[F.j,if_pos (show(y:Int)<(sp0.length:Int) by omega),show A.ix ((sp0,0):List Sp×Int).1 (y:Int)=some x from A.ixn H,Qa,I]
theorem round10 (k:Tab0→Option ((List Pth)×Int)):F.j k (sp0,0) (ed0,0) A.FU tb10 0=F.aD tb10 A.FU [] []:=by
 obtain⟨n,H⟩: ∃n,A.FU=n+5:=⟨A.FU-5,by decide⟩
 have e:F.j k (sp0,0) (ed0,0) A.FU tb10 0=F.j k (sp0,0) (ed0,0) (n+5) tb10 ((0:Nat):Int):=by rw[←H];rfl
 rw[e,scan (y:=0) (x:=((1,2),0)) rfl (fun k65=>by kernel_rfl)]
 refine(scan (y:=1) (x:=((2,0),0)) rfl (fun k65=>by kernel_rfl)).trans ?_
 refine(scan (y:=2) (x:=((2,2),0)) rfl (fun k65=>by kernel_rfl)).trans ?_
 refine(scan (y:=3) (x:=((3,0),0)) rfl (fun k65=>by kernel_rfl)).trans ?_
 rw[F.j,if_neg (by decide)]
theorem table0:F.aZ g0_=F.aD tb10 A.FU [] []:=by
 obtain⟨n,H⟩: ∃n,A.FU=n+7:=⟨A.FU-7,by decide⟩
 have st: ∀f m,F.t (sp0,0) (ed0,0) (f+1) m=F.j (F.t (sp0,0) (ed0,0) f) (sp0,0) (ed0,0) A.FU m 0:=fun f m=>by rw[F.t]
 unfold F.aZ
 rw[spots0,Qa,if_neg (fun h=>h rfl),edges0,Qa,if_neg (fun h=>h rfl),init0]
 have:F.t (sp0,0) (ed0,0) A.FU tb4=F.t (sp0,0) (ed0,0) (n+7) tb4:=by rw[←H]
 rw[this,st,round4,st,round5,st,round6,st,round7,st,round8,st,round9,st,round10]
theorem begunP:F.ed=some true:=by
 have h:F.aZ [(1,1,[],(0,0,ByteArray.mk #[]),ByteArray.mk #[97],0,0),(2,2,[1],(1,0,ByteArray.mk #[]),ByteArray.mk #[],0,0),(3,15,[2],(0,0,ByteArray.mk #[]),ByteArray.mk #[98],0,0)]=some (A.srtL (A.cl0 fun x y=>F.aI x y) (tb10.map Qcu),0):=
  table0.trans (Qhf tb10 (by decide) (by decide) (by decide) (by kernel_rfl))
 have e:F.ed=((F.aZ [(1,1,[],(0,0,ByteArray.mk #[]),ByteArray.mk #[97],0,0),(2,2,[1],(1,0,ByteArray.mk #[]),ByteArray.mk #[],0,0),(3,15,[2],(0,0,ByteArray.mk #[]),ByteArray.mk #[98],0,0)]).bind fun H=>((F.dd H.1 (1,2) (3,0)).bind fun r10=>(if(bif bif decide (H.2=0)then decide (((H.1).length:Int)=10)else false then decide (((r10).length:Int)=1)else false)=true then((A.ix r10 0).bind fun x15=>(F.c0 (decide (x15=(0,0,0,0,(0,0,0,0))))))else(F.c0 false)))):=rfl
 rw[e,h,Qa]
 show _=some true
 kernel_rfl
end Go.Proofs.YtlbnpmfggfbdoaaGreatDoor
end
section
namespace Go.Proofs.YtlbnpmfggfbdoaaGreatDoor
open Go.RowKit Go.Graph
theorem Qcd (g:List Nd)(d:List Int)(id:Int): ∀(k:Nat) (l:List Int) (sp:Sp),sp∈insS g d id k l→sp.1.1=id∧(k:Int)≤sp.1.2∧sp.1.2<(k:Int)+l.length
 |_,[],sp,h=>by cases h
 |k,y::r,sp,h=>by
  unfold insS at h
  rcases Qk.1 h with rfl|h
  ·refine⟨rfl,Xm _,?_⟩
   rw[Qi];show(k:Int)<_;omega
  ·have:=Qcd g d id (k+1) r sp h
   rw[Qi]
   exact⟨this.1,by omega,by omega⟩
theorem insS_od (g:List Nd)(d:List Int)(id:Int): ∀(k:Nat) (l:List Int),(insS g d id k l).Pairwise fun a b=>ltP a.1 b.1
 |_,[]=>List.Pairwise.nil
 |k,y::r=>by
  unfold insS
  refine Wi.2 ⟨fun sp h=>.inr ?_,insS_od g d id (k+1) r⟩
  have:=Qcd g d id (k+1) r sp h
  exact⟨this.1.symm,by show(k:Int)<sp.1.2;omega⟩
theorem Qbp {g:List Nd}(d:List Int): ∀(i:Nat) (l:List Nd),(∀n∈l,n.2.2.1.length≤2)→∀sp∈spotsF g d i l,∃n∈l,sp.1.1=n.1∧0≤sp.1.2∧sp.1.2≤2
 |_,[],_,sp,h=>by cases h
 |i,n::r,H,sp,h=>by
  have hn:=H n (Qg ..)
  unfold spotsF at h
  rcases Qn.1 h with h|h
  ·have:=Qcd g d n.1 0 n.2.2.1 sp h
   exact⟨n,Qg ..,this.1,by omega,by omega⟩
  ·rcases Qn.1 h with h|h
   ·unfold outS at h
    split at h
    ·rw[Qj]at h
     subst h
     exact⟨n,Qg ..,rfl,by show(0:Int)≤2;omega,by show(2:Int)≤2;omega⟩
    ·cases h
   ·obtain⟨m,I,J⟩:=Qbp d (i+1) r (fun m O=>H m (Qe _ O)) sp h
    exact⟨m,Qe _ I,J⟩
theorem Qhg {g:List Nd}(d:List Int): ∀(i:Nat) (l:List Nd),Inc l→(∀n∈l,n.2.2.1.length≤2)→(spotsF g d i l).Pairwise fun a b=>ltP a.1 b.1
 |_,[],_,_=>List.Pairwise.nil
 |i,n::r,h,J=>by
  have h':=Wi.1 h
  have h2r:=fun m O=>J m (Qe n O)
  have hn:=J n (Qg ..)
  have later: ∀a:Sp,a.1.1=n.1→∀b∈spotsF g d (i+1) r,ltP a.1 b.1:=fun a I b H=>by
   obtain⟨m,h3,h4,_⟩:=Qbp d (i+1) r h2r b H
   exact .inl (by rw[I,h4];exact h'.1 m h3)
  have out: ∀b∈outS n (iget d (i:Int)),b.1=(n.1,2):=fun b H=>by
   unfold outS at H
   split at H
   ·rw[Qj]at H;subst H;rfl
   ·cases H
  unfold spotsF
  refine Y2.2 ⟨insS_od g d n.1 0 n.2.2.1,Y2.2 ⟨?_,Qhg d (i+1) r h'.2 h2r,fun a I b H=>later a (by rw[out a I]) b H⟩,fun a I b H=>?_⟩
  ·unfold outS
   split
   ·exact Yd ..
   ·exact List.Pairwise.nil
  ·have ha':=Qcd g d n.1 0 n.2.2.1 a I
   rcases Qn.1 H with H|H
   ·rw[out b H];exact .inr ⟨ha'.1,by show a.1.2<2;omega⟩
   ·exact later a ha'.1 b H
theorem CloneS (l:List Sm)(H:l.length≤1000000000):F.ad l=some l:=by
 unfold F.ad
 simp[A.gd]
 try omega
section
variable {g:List Nd}{l d:List Int}{dm:List (Int×Int)}(W:Whole g l d dm)
def Qet:Nat:=66^4
include W
theorem row_len {T:Pl→Pl→List Sm}(I:Pth.Inv (EN g d) (i0N g d) ctr ltS (GN g d) T){p q:Pl}{y:Int}(hq:(q,y)∈spots g d):(T p q).length≤Qet:=by
 have H:=I.len (netN W) (syN W) p q
 have h2:=lps32 W
 have J:=dp4 W hq
 have O:dpN g d q≤4:=by unfold dpN;rw[J.1];omega
 have h5:2*((lpsN g).length+1)≤66:=by omega
 exact Wh H (Wh (Nat.pow_le_pow_left h5 _) (Nat.pow_le_pow_right (show 0<66 by decide) O))
theorem then_eq {e:Ed}(he:e∈edges g d){p:Pl}(l:List Sm)(hl:l.length≤1000000000)(hG: ∀s∈l,GN g d p e.1 s):F.dU l e.2.2=some (l.filterMap (thnN g d (eNt e))):=by
 have:=A.lp l (fun f (xs:List Sm) z=>F.bz l e.2.2 f xs z) (fun k t xs=>some (xs++t.filterMap (thnN g d (eNt e)))) (fun k xs=>xs.length≤k)
  (fun f xs H=>by rw[F.bz,if_neg (by omega),List.filterMap_nil,Wk])
  (fun f xs k s O hk H ih=>by
   rw[F.bz,if_pos (by omega),A.ixn O,Qa,List.filterMap_cons]
   unfold F.dk
   rcases Qif W he (hG s (Qf O))with⟨m,I,J,_⟩|⟨I,z,J,_⟩
   ·rw[show F.bG (_,_,_,_,(_,_,_,_)) (_,_,_,_,(_,_,_,_))=_ from J,Qa,if_pos rfl,A.gd1 (by rw[W8];omega),A.gd1 (A.r64n (by omega)),I,ih _ (by rw[Ql,W8];omega),Wd]
    rfl
   ·rw[show F.bG (_,_,_,_,(_,_,_,_)) (_,_,_,_,(_,_,_,_))=_ from J,Qa,if_neg (show(12:Int)≠0 by decide),A.gd1 (A.r64n (by omega)),I,ih _ (by omega)])
  (by have:=Qab;omega) [] (by simp)
 exact this
end
def tbl (m:Tab0):Pl→Pl→List Sm:=fun p q=>Z.mget [] m (p,q)
theorem Qci (m:Tab0)(p q:Pl)(r:List Sm):tbl (Z.mins m (p,q) r)=Pth.put (tbl m) p q r:=by
 funext p' q'
 unfold tbl Pth.put
 rw[Uw]
 by_cases h:p'=p∧q'=q
 ·rw[if_pos h,if_pos (by rw[h.1,h.2])]
 ·rw[if_neg h,if_neg (fun e=>h ⟨congrArg Prod.fst e,congrArg Prod.snd e⟩)]
theorem add_eq {x y:Int}(m:Tab0)(p q:Pl)(more:List Sm)(hl:(tbl m p q).length≤100000000)(I:more.length≤100000000)(J: ∀s∈tbl m p q++more,GS x y s): ∃r,Pth.IsLst ctr ltS (tbl m p q++more) r∧
  F.ap m (p,q) more=some (if tbl m p q=r then(false,m)else(true,Z.mins m (p,q) r)):=by
 obtain⟨r,O,h2⟩:=Least_P (tbl m p q++more) (by rw[Ql];omega) J
 refine⟨r,h2,?_⟩
 unfold F.ap
 show((F.ad (tbl m p q)).bind fun H=>(A.gd ((List.length (α:=Sm) H+List.length (α:=Sm) more)*64≤140737488355328) ((F.dT (H++more)).bind fun r14=>(if r14.2≠0 then(F.bd m (p,q) r14 true)else((F.aH (tbl m p q) r14.1).bind fun r20=>(F.bd m (p,q) r14 r20))))))=_
 rw[CloneS _ (by omega),Qa,A.gd1 (by omega),O,Qa,if_neg (fun h=>h rfl),EqualS _ _ (by omega),Qa]
 unfold F.bd
 by_cases h:tbl m p q=r
 ·rw[decide_eq_true h,if_pos rfl,if_pos h]
 ·rw[decide_eq_false h,if_neg (by decide),if_neg h]
def Cl (g:List Nd)(d:List Int)(T:Pl→Pl→List Sm)(p:Pl)(e:Ed):Prop:=∀u∈T p e.1,∀v,thnN g d (eNt e) u=some v→∃w∈T p e.2.1,Pth.le (ctr w) (ctr v)
structure MI (g:List Nd) (d:List Int) (m:Tab0):Prop where
 inv:Pth.Inv (EN g d) (i0N g d) ctr ltS (GN g d) (tbl m)
 nd:(m.map Prod.fst).Nodup
 ne: ∀x∈m,x.2≠[]
 ks: ∀x∈m,(∃a,(x.1.1,a)∈spots g d)∧∃b,(x.1.2,b)∈spots g d
def prs (g:List Nd)(d:List Int):List (Pl×Pl):=(spots g d).flatMap fun s=>(spots g d).map fun t=>(s.1,t.1)
theorem prs_mem {g:List Nd}{d:List Int}{p q:Pl}{a b:Int}(hp:(p,a)∈spots g d)(hq:(q,b)∈spots g d):(p,q)∈prs g d:=Xi.2 ⟨_,hp,Qv.2 ⟨_,hq,rfl⟩⟩
abbrev muN (g:List Nd) (d:List Int) (P:List (Pl×Pl)) (T:Pl→Pl→List Sm):Nat:=Pth.mu (dpN g d) ctr (lpsN g).length P T
section
variable {g:List Nd}{l d:List Int}{dm:List (Int×Int)}(W:Whole g l d dm)
theorem tbl_mem {m:Tab0}{p q:Pl}(h:tbl m p q≠[]):((p,q),tbl m p q)∈m:=by
 refine Z.mget_mem ?_
 cases H:Z.mhas m (p,q)with
 |true=>rfl
 |false=>exact absurd (Z.mget_none H) h
theorem MI.ins {m:Tab0}(M:MI g d m){p q:Pl}{a b:Int}(hp:(p,a)∈spots g d)(hq:(q,b)∈spots g d){r:List Sm}(hr:r≠[])(hI:Pth.Inv (EN g d) (i0N g d) ctr ltS (GN g d) (Pth.put (tbl m) p q r)):MI g d (Z.mins m (p,q) r):=by
 refine⟨by rw[Qci];exact hI,Z.mins_nodup M.nd _ _,fun z J=>?_,fun z J=>?_⟩
 all_goals have H:z.1∈(Z.mins m (p,q) r).map Prod.fst:=Qv.2 ⟨z,J,rfl⟩
 all_goals rw[Z.mins_keys]at H
 ·obtain⟨i,hi⟩:=Xl J
  have I:=(Z.mget_get (z:=[]) (Z.mins_nodup M.nd (p,q) r) hi).1
  rw[Uw]at I
  split at I
  ·rw[←I];exact hr
  ·rename_i hk
   have O:z.1∈m.map Prod.fst:=by
    split at H
    ·exact H
    ·rcases Qn.1 H with H|H
     ·exact H
     ·exact absurd (Qj.1 H) hk
   rw[←I]
   have h6:=Z.mget_mem (z:=[]) ((Z.mhas_iff m z.1).2 O)
   exact M.ne _ h6
 ·have old:z.1∈m.map Prod.fst→(∃a,(z.1.1,a)∈spots g d)∧∃b,(z.1.2,b)∈spots g d:=fun O=>by
   obtain⟨z',hz',h6⟩:=Qv.1 O
   have:=M.ks z' hz'
   rw[h6]at this;exact this
  split at H
  ·exact old H
  ·rcases Qn.1 H with H|H
   ·exact old H
   ·rw[Qj.1 H];exact⟨⟨a,hp⟩,⟨b,hq⟩⟩
include W
theorem step_eq {m:Tab0}(M:MI g d m){p:Pl}{a:Int}(hp:(p,a)∈spots g d){e:Ed}(he:e∈edges g d)(h0:tbl m p e.1≠[]):
  ∃b m',((F.dU (tbl m p e.1) e.2.2).bind fun r70=>F.ap m (p,e.2.1) r70)=some (b,m')∧((b=false∧m'=m∧Cl g d (tbl m) p e)∨(b=true∧MI g d m'∧Pth.Cv ctr (tbl m) (tbl m')∧muN g d (prs g d) (tbl m')<muN g d (prs g d) (tbl m))):=by
 have F':=Qao W he
 obtain⟨⟨x,hx⟩,⟨y,hy⟩⟩:=F'.ends
 have l1:=row_len W M.inv (p:=p) hx
 have l2:=row_len W M.inv (p:=p) hy
 unfold Qet at l1 l2
 have gd:=fun s (H:s∈tbl m p e.1)=>M.inv.good p e.1 s H
 have hm: ∀v∈(tbl m p e.1).filterMap (thnN g d (eNt e)),∃s,Pth.Good (EN g d) (i0N g d) ctr (GN g d) (tbl m) p e.1 s∧thnN g d (eNt e) s=some v:=fun v I=>by
  obtain⟨s,H,O⟩:=Yx.1 I
  exact⟨s,gd s H,O⟩
 have hE:eNt e∈EN g d:=Qv.2 ⟨e,he,rfl⟩
 obtain⟨r,O,h2⟩:=add_eq m p e.2.1 ((tbl m p e.1).filterMap (thnN g d (eNt e))) (by omega) (Wh (List.length_filterMap_le _ _) (by omega)) fun s H=>by
  rcases Qn.1 H with H|H
  ·exact(M.inv.good p e.2.1 s H).1
  ·obtain⟨u,hu,h3⟩:=hm s H
   exact((syN W).some hE hu.1 h3).1
 have A':=M.inv.add (netN W) (syN W) (p:=p) hE hm O
 rw[then_eq W he (tbl m p e.1) (by omega) fun s H=>(gd s H).1,Qa,h2]
 by_cases hr:tbl m p e.2.1=r
 ·rw[if_pos hr]
  refine⟨_,_,rfl,.inl ⟨rfl,rfl,fun u hu v I=>?_⟩⟩
  have:=A'.2.2.1 v (Yx.2 ⟨u,hu,I⟩)
  rw[←hr]at this;exact this
 ·rw[if_neg hr]
  have J:r≠tbl m p e.2.1:=fun h=>hr h.symm
  have hrne:r≠[]:=fun h=>by
   obtain⟨v,I,_⟩:=A'.2.2.2 J
   obtain⟨w,hw,_⟩:=A'.2.2.1 v I
   rw[h]at hw;cases hw
  refine⟨_,_,rfl,.inr ⟨rfl,M.ins hp hy hrne A'.1,?_,?_⟩⟩
  ·rw[Qci];exact A'.2.1
  ·rw[Qci];exact M.inv.add_lt (netN W) (syN W) hE hm O (prs_mem hp hy) J
theorem table_l2 (k60:Tab0→Option (List Pth×Int))(k65:Tab0→Int→Option (List Pth×Int))(e0:Int)(y:Nat)(hy:y≤1000000){s:Sp}(hs:s∈spots g d){m:Tab0}(M:MI g d m)(hE:(edges g d).length≤1000000): ∀(n k f:Nat),k+n=(edges g d).length→n<f→
  (∃m',MI g d m'∧Pth.Cv ctr (tbl m) (tbl m')∧muN g d (prs g d) (tbl m')<muN g d (prs g d) (tbl m)∧F.ai k60 k65 (edges g d,e0) (y:Int) s f m (k:Int)=k60 m')∨((∀e∈(edges g d).drop k,Cl g d (tbl m) s.1 e)∧F.ai k60 k65 (edges g d,e0) (y:Int) s f m (k:Int)=k65 m ((y:Int)+1)):=by
 intro n
 induction n with
 |zero=>
  intro k f hk hf
  obtain⟨f,rfl⟩: ∃f',f=f'+1:=⟨f-1,by omega⟩
  refine .inr ⟨fun e H=>(by rw[Q2 (by omega)]at H;cases H),?_⟩
  rw[F.ai,if_neg (by show ¬(k:Int)<((edges g d).length:Int);omega),A.gd1 (A.r64n (by omega))]
 |succ n ih=>
  intro k f hk hf
  obtain⟨f,rfl⟩: ∃f',f=f'+1:=⟨f-1,by omega⟩
  obtain⟨x,J⟩: ∃x,(edges g d)[k]?=some x:=⟨_,Qd (by omega)⟩
  have O:=Qf J
  have next:Cl g d (tbl m) s.1 x→(∃m',MI g d m'∧Pth.Cv ctr (tbl m) (tbl m')∧muN g d (prs g d) (tbl m')<muN g d (prs g d) (tbl m)∧F.ai k60 k65 (edges g d,e0) (y:Int) s f m ((k:Int)+1)=k60 m')∨((∀e∈(edges g d).drop k,Cl g d (tbl m) s.1 e)∧F.ai k60 k65 (edges g d,e0) (y:Int) s f m ((k:Int)+1)=k65 m ((y:Int)+1)):=fun hc=>by
   rcases ih (k+1) f (by omega) (by omega)with h|⟨h1,h2⟩
   ·exact .inl h
   ·refine .inr ⟨fun e H=>?_,h2⟩
    rw[A.dropx J]at H
    rcases Qk.1 H with rfl|H
    ·exact hc
    ·exact h1 e H
  have e:F.ai k60 k65 (edges g d,e0) (y:Int) s (f+1) m (k:Int)=(if(0:Int)<((tbl m s.1 x.1).length:Int)then(((F.dU (tbl m s.1 x.1) x.2.2).bind fun r70=>F.ap m (s.1,x.2.1) r70).bind fun r74=>F.bH k60 (F.ai k60 k65 (edges g d,e0) (y:Int) s f) (k:Int) r74.2 r74.1)else F.bH k60 (F.ai k60 k65 (edges g d,e0) (y:Int) s f) (k:Int) m false):=by
   rw[F.ai,if_pos (by show(k:Int)<((edges g d).length:Int);omega),show A.ix ((edges g d,e0):List Ed×Int).1 (k:Int)=some x from A.ixn J,Qa,Option.bind_assoc];rfl
  rw[e]
  by_cases I:tbl m s.1 x.1=[]
  ·rw[I,if_neg (by simp)]
   unfold F.bH
   rw[if_neg (by decide),A.gd1 (A.r64n (by omega))]
   exact next fun u hu=>by rw[I]at hu;cases hu
  ·rw[if_pos (by have:=List.length_pos_iff.2 I;omega)]
   obtain⟨b,m',h1,h2⟩:=step_eq W M (p:=s.1) (a:=s.2) hs O I
   rw[h1,Qa]
   unfold F.bH
   rcases h2 with⟨rfl,rfl,hc⟩|⟨rfl,M',hcv,hmu⟩
   ·rw[if_neg (show ¬(false:Bool)=true by decide),A.gd1 (A.r64n (by omega))];exact next hc
   ·rw[if_pos rfl];exact .inl ⟨m',M',hcv,hmu,rfl⟩
theorem table_l4 (k60:Tab0→Option (List Pth×Int))(e0 e1:Int){m:Tab0}(M:MI g d m)(hE:(edges g d).length≤1000000)(hS:(spots g d).length≤1000000): ∀(n k f:Nat),k+n=(spots g d).length→n<f→
  (∃m',MI g d m'∧Pth.Cv ctr (tbl m) (tbl m')∧muN g d (prs g d) (tbl m')<muN g d (prs g d) (tbl m)∧F.j k60 (spots g d,e1) (edges g d,e0) f m (k:Int)=k60 m')∨((∀s∈(spots g d).drop k,∀e∈edges g d,Cl g d (tbl m) s.1 e)∧F.j k60 (spots g d,e1) (edges g d,e0) f m (k:Int)=F.aD m A.FU [] []):=by
 intro n
 induction n with
 |zero=>
  intro k f hk hf
  obtain⟨f,rfl⟩: ∃f',f=f'+1:=⟨f-1,by omega⟩
  refine .inr ⟨fun e he=>(by rw[Q2 (by omega)]at he;cases he),?_⟩
  rw[F.j,if_neg (by show ¬(k:Int)<((spots g d).length:Int);omega)]
 |succ n ih=>
  intro k f hk hf
  obtain⟨f,rfl⟩: ∃f',f=f'+1:=⟨f-1,by omega⟩
  obtain⟨s,J⟩: ∃s,(spots g d)[k]?=some s:=⟨_,Qd (by omega)⟩
  rw[F.j,if_pos (by show(k:Int)<((spots g d).length:Int);omega),show A.ix ((spots g d,e1):List Sp×Int).1 (k:Int)=some s from A.ixn J,Qa]
  rcases table_l2 W k60 (F.j k60 (spots g d,e1) (edges g d,e0) f) e0 k (by omega) (Qf J) M hE (edges g d).length 0 A.FU (by omega) (by have:=Qab;omega)with⟨m',H,O,h3,h4⟩|⟨H,O⟩
  ·exact .inl ⟨m',H,O,h3,h4⟩
  ·rw[Wa]at H
   rw[show F.ai k60 (F.j k60 (spots g d,e1) (edges g d,e0) f) (edges g d,e0) (k:Int) s A.FU m 0=_ from O]
   rcases ih (k+1) f (by omega) (by omega)with h|⟨h3,h4⟩
   ·exact .inl h
   ·refine .inr ⟨fun t I=>?_,h4⟩
    rw[A.dropx J]at I
    rcases Qk.1 I with rfl|I
    ·exact H
    ·exact h3 t I
theorem table_l5 (e0 e1:Int)(hE:(edges g d).length≤1000000)(hS:(spots g d).length≤1000000): ∀(n f:Nat) (m:Tab0),MI g d m→muN g d (prs g d) (tbl m)≤n→n<f→
  ∃m',MI g d m'∧Pth.Cv ctr (tbl m) (tbl m')∧(∀s∈spots g d,∀e∈edges g d,Cl g d (tbl m') s.1 e)∧F.t (spots g d,e1) (edges g d,e0) f m=F.aD m' A.FU [] []:=by
 intro n
 induction n with
 |zero=>
  intro f m M J hf
  obtain⟨f,rfl⟩: ∃f',f=f'+1:=⟨f-1,by omega⟩
  rw[F.t]
  rcases table_l4 W (F.t (spots g d,e1) (edges g d,e0) f) e0 e1 M hE hS (spots g d).length 0 A.FU (by omega) (by have:=Qab;omega)with⟨m',H,I,h3,h4⟩|⟨H,I⟩
  ·omega
  ·exact⟨m,M,Pth.Cv.refl _,by rw[Wa]at H;exact H,I⟩
 |succ n ih=>
  intro f m M J hf
  obtain⟨f,rfl⟩: ∃f',f=f'+1:=⟨f-1,by omega⟩
  rw[F.t]
  rcases table_l4 W (F.t (spots g d,e1) (edges g d,e0) f) e0 e1 M hE hS (spots g d).length 0 A.FU (by omega) (by have:=Qab;omega)with⟨m',H,I,h3,h4⟩|⟨H,I⟩
  ·obtain⟨m2,h5,h6,h7,h8⟩:=ih f m' H (by omega) (by omega)
   exact⟨m2,h5,I.trans (netN W) (syN W) (fun p q s O=>(syN W).ok (M.inv.good p q s O).1) (fun p q s O=>(syN W).ok (h5.inv.good p q s O).1) h6,h7,h4.trans h8⟩
  ·exact⟨m,M,Pth.Cv.refl _,by rw[Wa]at H;exact H,I⟩
end
theorem orF2 (a b:Int):orF [a,b]=if a≠0 then a else b:=by
 unfold orF
 by_cases h:a≠0
 ·rw[if_pos h,if_pos h]
 ·rw[if_neg h,if_neg h]
  unfold orF
  by_cases H:b≠0
  ·rw[if_pos H]
  ·rw[if_neg H];unfold orF;omega
theorem cmpI_iff (a b:Int):(cmpI a b<0↔a<b)∧(cmpI a b=0↔a=b):=by
 unfold cmpI
 split
 ·exact⟨⟨fun _=>by assumption,fun _=>by decide⟩,⟨fun h=>absurd h (by decide),fun h=>by omega⟩⟩
 ·(split)
  ·exact⟨⟨fun h=>absurd h (by decide),fun h=>by omega⟩,⟨fun h=>absurd h (by decide),fun h=>by omega⟩⟩
  ·exact⟨⟨fun h=>absurd h (by decide),fun h=>by omega⟩,⟨fun _=>by omega,fun _=>rfl⟩⟩
theorem cmpP_iff (p q:Pl):(cmpP p q<0↔ltP p q)∧(cmpP p q=0↔p=q):=by
 have J:=cmpI_iff p.1 q.1
 have O:=cmpI_iff p.2 q.2
 have e:p=q↔p.1=q.1∧p.2=q.2:=⟨fun h=>by rw[h];exact⟨rfl,rfl⟩,fun h=>Ju h.1 h.2⟩
 unfold cmpP ltP
 rw[orF2,e]
 by_cases h:cmpI p.1 q.1≠0
 ·rw[if_pos h]
  have I: ¬p.1=q.1:=fun H=>h (J.2.2 H)
  exact⟨⟨fun H=>.inl (J.1.1 H),fun H=>J.1.2 (H.resolve_right fun h5=>I h5.1)⟩,⟨fun H=>absurd H h,fun H=>absurd H.1 I⟩⟩
 ·rw[if_neg h]
  have I:p.1=q.1:=J.2.1 (Classical.not_not.1 h)
  exact⟨⟨fun H=>.inr ⟨I,O.1.1 H⟩,fun H=>O.1.2 (H.resolve_left (by omega)).2⟩,⟨fun H=>⟨I,O.2.1 H⟩,fun H=>O.2.2 H.2⟩⟩
def cK (x y:Pth):Int:=orF [cmpP x.1 y.1,cmpP x.2.1 y.2.1]
def ltK (x y:Pth):Prop:=ltP x.1 y.1∨x.1=y.1∧ltP x.2.1 y.2.1
theorem cK_iff (x y:Pth):(cK x y<0↔ltK x y)∧(cK x y=0↔x.1=y.1∧x.2.1=y.2.1):=by
 have J:=cmpP_iff x.1 y.1
 have O:=cmpP_iff x.2.1 y.2.1
 have irr: ∀p:Pl,¬ltP p p:=fun p h=>by rcases h with h|h<;>omega
 unfold cK ltK
 rw[orF2]
 by_cases h:cmpP x.1 y.1≠0
 ·rw[if_pos h]
  have I: ¬x.1=y.1:=fun H=>h (J.2.2 H)
  exact⟨⟨fun H=>.inl (J.1.1 H),fun H=>J.1.2 (H.resolve_right fun h5=>I h5.1)⟩,⟨fun H=>absurd H h,fun H=>absurd H.1 I⟩⟩
 ·rw[if_neg h]
  have I:x.1=y.1:=J.2.1 (Classical.not_not.1 h)
  exact⟨⟨fun H=>.inr ⟨I,O.1.1 H⟩,fun H=>O.1.2 (H.resolve_left (by rw[I];exact irr _)).2⟩,⟨fun H=>⟨I,O.2.1 H⟩,fun H=>O.2.2 H.2⟩⟩
theorem Qhl (p q:Pl):F.ds p q=some (cmpP p q):=by
 unfold F.ds
 rw[Qds,Qa,Qds,Qa,Or_eq _ (by simp),Qa];rfl
theorem Qht (x y:Pth):F.aI x y=some (cK x y):=by
 unfold F.aI
 rw[Qhl,Qa,Qhl,Qa,Or_eq _ (by simp),Qa];rfl
theorem ltP_tr {p q r:Pl}(H:ltP p q)(I:ltP q r):ltP p r:=by
 rcases H with H|⟨H,J⟩<;>rcases I with I|⟨I,O⟩
 ·exact .inl (by omega)
 ·exact .inl (by omega)
 ·exact .inl (by omega)
 ·exact .inr ⟨by omega,by omega⟩
theorem ltP_no {p:Pl}: ¬ltP p p:=fun h=>by rcases h with h|h<;>omega
theorem ltP_tri {p q:Pl}(h:p≠q):ltP p q∨ltP q p:=by
 have I: ¬(p.1=q.1∧p.2=q.2):=fun H=>h (Ju H.1 H.2)
 unfold ltP;omega
theorem ltK_tr {x y z:Pth}(H:ltK x y)(I:ltK y z):ltK x z:=by
 rcases H with H|⟨H,J⟩<;>rcases I with I|⟨I,O⟩
 ·exact .inl (ltP_tr H I)
 ·exact .inl (by rw[←I];exact H)
 ·exact .inl (by rw[H];exact I)
 ·exact .inr ⟨by rw[H,I],ltP_tr J O⟩
theorem ltK_no {x:Pth}: ¬ltK x x:=fun h=>by
 rcases h with h|⟨_,h⟩
 ·exact ltP_no h
 ·exact ltP_no h
theorem ltK_tri {x y:Pth}(h: ¬(x.1=y.1∧x.2.1=y.2.1)):ltK x y∨ltK y x:=by
 by_cases I:x.1=y.1
 ·rcases ltP_tri (fun J=>h ⟨I,J⟩)with H|H
  ·exact .inl (.inr ⟨I,H⟩)
  ·exact .inr (.inr ⟨I.symm,H⟩)
 ·rcases ltP_tri I with H|H
  ·exact .inl (.inl H)
  ·exact .inr (.inl H)
abbrev rlK (a b:Pth):Bool:=decide (cK a b<0)
theorem Qbg (a b:Pth):rlK a b=true↔ltK a b:=(decide_eq_true_iff).trans (cK_iff a b).1
theorem ordK (xs:List Pth)(hk: ∀x∈xs,∀y∈xs,x.1=y.1→x.2.1=y.2.1→x=y):A.ordB (fun x y=>F.aI x y) xs=true∧A.cl0 (fun x y=>F.aI x y)=rlK∧A.OrdOn rlK xs:=by
 have e:A.cl0 (fun x y=>F.aI x y)=rlK:=by
  funext a b
  show(match F.aI a b with|some c=>decide (c<0)|none=>false)=_
  rw[Qht]
 have asy: ∀a b,rlK a b=true→rlK b a=false:=fun a b h=>by
  rw[Ym]
  exact fun H=>ltK_no (ltK_tr ((Qbg a b).1 h) ((Qbg b a).1 H))
 have tri: ∀a∈xs,∀b∈xs,rlK a b=false→rlK b a=false→a=b:=fun a ha b hb I H=>Wb fun h=>by
  rcases ltK_tri (x:=a) (y:=b) (fun h3=>h (hk a ha b hb h3.1 h3.2))with J|J
  ·rw[(Qbg a b).2 J]at I;cases I
  ·rw[(Qbg b a).2 J]at H;cases H
 have tr: ∀a b c,rlK a b=true→rlK b c=true→rlK a c=true:=fun a b c I H=>(Qbg a c).2 (ltK_tr ((Qbg a b).1 I) ((Qbg b c).1 H))
 refine⟨?_,e,fun x _ y _ h=>asy x y h,fun x O y hy I H=>tri x O y hy I H,fun x _ y _ z _ I H=>tr x y z I H⟩
 unfold A.ordB
 rw[Qz]
 intro x O
 rw[Qz]
 intro y hy
 rw[e,Qm,Qm]
 refine⟨⟨by show(F.aI x y).isSome=true;rw[Qht];rfl,?_⟩,?_⟩
 ·cases I:rlK x y with
  |true=>rw[asy x y I];rfl
  |false=>
   cases H:rlK y x with
   |true=>rfl
   |false=>rw[decide_eq_true (tri x O y hy I H)];rfl
 ·rw[Qz]
  intro z hz
  cases I:rlK x y with
  |false=>rfl
  |true=>
   cases H:rlK y z with
   |false=>rfl
   |true=>rw[tr x y z I H];rfl
structure TT (g:List Nd) (d:List Int) (T:Pl→Pl→List Sm):Prop where
 inv:Pth.Inv (EN g d) (i0N g d) ctr ltS (GN g d) T
 tab:Pth.Tab (E:=EN g d) (i0:=i0N g d) fun p q=>(T p q).map ctr
 ini: ∀s∈spots g d,T s.1 s.1≠[]
 sp: ∀p q,T p q≠[]→(∃a,(p,a)∈spots g d)∧∃b,(q,b)∈spots g d
def tabL (g:List Nd)(d:List Int)(T:Pl→Pl→List Sm):List Pth:=(spots g d).flatMap fun s=>(spots g d).filterMap fun t=>if T s.1 t.1=[]then none else some (s.1,t.1,T s.1 t.1)
section
variable {g:List Nd}{l d:List Int}{dm:List (Int×Int)}(W:Whole g l d dm)
theorem Qaz {T:Pl→Pl→List Sm}{x:Pth}:x∈tabL g d T↔(∃a,(x.1,a)∈spots g d)∧(∃b,(x.2.1,b)∈spots g d)∧T x.1 x.2.1≠[]∧x.2.2=T x.1 x.2.1:=by
 unfold tabL
 rw[Xi]
 constructor
 ·rintro⟨s,I,h⟩
  obtain⟨t,J,h⟩:=Yx.1 h
  split at h
  ·cases h
  ·rename_i H
   obtain rfl:=Qp h
   exact⟨⟨s.2,I⟩,⟨t.2,J⟩,H,rfl⟩
 ·rintro⟨⟨a,O⟩,⟨b,hb⟩,H,h2⟩
  refine⟨_,O,Yx.2 ⟨_,hb,?_⟩⟩
  rw[if_neg H,←h2]
include W
theorem spots_pw:(spots g d).Pairwise fun a b=>ltP a.1 b.1:=Qhg d 0 g W.inc fun n H=>in2 W.own H
theorem tabL_pw (T:Pl→Pl→List Sm):(tabL g d T).Pairwise ltK:=by
 have O:=spots_pw W
 unfold tabL
 rw[List.flatMap,List.pairwise_flatten]
 refine⟨fun r hr=>?_,Jb.2 (O.imp fun {a b} J x H y I=>?_)⟩
 ·obtain⟨s,_,rfl⟩:=Qv.1 hr
  refine List.Pairwise.filterMap _ (fun a b J x H y I=>?_) O
  split at H
  ·cases H
  ·split at I
   ·cases I
   ·obtain rfl:=Qp H
    obtain rfl:=Qp I
    exact .inr ⟨rfl,J⟩
 ·obtain⟨t,_,H⟩:=Yx.1 H
  obtain⟨u,_,I⟩:=Yx.1 I
  split at H
  ·cases H
  ·split at I
   ·cases I
   ·obtain rfl:=Qp H
    obtain rfl:=Qp I
    exact .inl J
theorem Qgh:(spots g d).length≤96:=by
 have H:=Qch W.own d g.length 0 (by omega)
 rw[Wa]at H
 have:=W.l32
 unfold spots;omega
theorem tabL_len {T:Pl→Pl→List Sm}:(tabL g d T).length≤10000:=by
 have H:=Qgh W
 have I: ∀(r:List Sp),((r.flatMap fun s=>(spots g d).filterMap fun t=>if T s.1 t.1=[]then none else some (s.1,t.1,T s.1 t.1)):List Pth).length≤r.length*96:=by
  intro r
  induction r with
  |nil=>simp
  |cons s r J=>
   rw[List.flatMap_cons,Ql,Qi]
   have:=List.length_filterMap_le (fun t:Sp=>if T s.1 t.1=[]then none else some ((s.1,t.1,T s.1 t.1):Pth)) (spots g d)
   omega
 have:=I (spots g d)
 unfold tabL
 omega
theorem prs_len:(prs g d).length≤9216:=by
 have H:=Qgh W
 unfold prs
 rw[Pth.flat_len (k:=(spots g d).length) fun x _=>by rw[Qw]]
 exact Nat.mul_le_mul H H
theorem mu_fu (T:Pl→Pl→List Sm):muN g d (prs g d) T≤9216*66^4:=by
 have H:=Pth.mu_max (netN W) (syN W) (T:=T) (prs g d) fun x I=>by
  obtain⟨s,hs,h⟩:=Xi.1 I
  obtain⟨t,J,rfl⟩:=Qv.1 h
  have:=dp4 W (p:=t.1) (a:=t.2) J
  unfold dpN;rw[this.1];show t.2.toNat≤4;omega
 have O:=prs_len W
 have h3:=lps32 W
 have h4:2*((lpsN g).length+1)≤66:=by omega
 exact Wh H (Nat.mul_le_mul O (Nat.pow_le_pow_left h4 4))
omit W in
theorem isLst1 (s:Sm):Pth.IsLst ctr ltS [s] [s]:=by
 refine⟨Yd ..,fun u=>⟨fun h=>⟨h,fun x H I=>?_⟩,fun h=>h.1⟩⟩
 rw[Qj]at h H
 subst h;subst H
 exact Pth.less_irr linS _ I
theorem table_l6 (e0 e1:Int): ∀(n k f:Nat) (m:Tab0),k+n=(spots g d).length→n<f→MI g d m→(∀s∈(spots g d).take k,∃u∈tbl m s.1 s.1,Pth.le (ctr u) (i0N g d s.1))→(∀p q,tbl m p q≠[]→∃s∈(spots g d).take k,s.1=p)→
  ∃m',MI g d m'∧(∀s∈spots g d,∃u∈tbl m' s.1 s.1,Pth.le (ctr u) (i0N g d s.1))∧F.aE (spots g d,e1) (edges g d,e0) f m (k:Int)=F.t (spots g d,e1) (edges g d,e0) A.FU m':=by
 have h96:=Qgh W
 intro n
 induction n with
 |zero=>
  intro k f m hk hf M h1 h2
  obtain⟨f,rfl⟩: ∃f',f=f'+1:=⟨f-1,by omega⟩
  rw[W7 (by omega)]at h1
  refine⟨m,M,h1,?_⟩
  rw[F.aE,if_neg (by show ¬(k:Int)<((spots g d).length:Int);omega)]
 |succ n ih=>
  intro k f m hk hf M h1 h2
  obtain⟨f,rfl⟩: ∃f',f=f'+1:=⟨f-1,by omega⟩
  obtain⟨x,hx⟩: ∃x,(spots g d)[k]?=some x:=⟨_,Qd (by omega)⟩
  have J:=Qf hx
  obtain⟨i1,_,_,i4,i5⟩:=o_b3 W (p:=x.1) (x:=x.2) J
  have I: ∀q,tbl m x.1 q=[]:=fun q=>Wb fun h=>by
   obtain⟨s,H,h3⟩:=h2 x.1 q h
   obtain⟨j,hj⟩:=Xl H
   rw[Xe]at hj
   split at hj
   ·rename_i hjk
    have h4:=Xz.1 (spots_pw W) j k (by omega) (by omega) hjk
    obtain⟨_,e1⟩:=Qc.1 hj
    obtain⟨_,e2⟩:=Qc.1 hx
    rw[e1,e2,h3]at h4
    exact ltP_no h4
   ·cases hj
  have hG: ∀s∈tbl m x.1 x.1++[(idP x.2).1],GN g d x.1 x.1 s:=fun s H=>by
   rw[I,Xa,Qj]at H
   rw[H];exact i4
  obtain⟨r,h3,h4⟩:=add_eq m x.1 x.1 [(idP x.2).1] (by rw[I];simp) (by simp) hG
  rw[I,Xa]at h3
  obtain rfl:=h3.uniq linS (isLst1 _)
  rw[I,if_neg (fun h=>by cases h)]at h4
  have M':MI g d (Z.mins m (x.1,x.1) [(idP x.2).1]):=M.ins J J (fun h=>by cases h) (M.inv.first (netN W) (syN W) I i4 i5)
  have hself:tbl (Z.mins m (x.1,x.1) [(idP x.2).1]) x.1 x.1=[(idP x.2).1]:=by rw[Qci,Pth.put_self]
  obtain⟨m',h5,h6,h7⟩:=ih (k+1) f _ (by omega) (by omega) M' (fun s H=>by
   rw[Yk,hx]at H
   by_cases O:s.1=x.1
   ·rw[O,hself]
    exact⟨_,Ye _,by rw[i5];exact Pth.le_refl _⟩
   ·rcases Qn.1 H with H|H
    ·obtain⟨u,hu,h⟩:=h1 s H
     refine⟨u,?_,h⟩
     rw[Qci];unfold Pth.put;rw[if_neg (fun h=>O h.1)];exact hu
    ·rw[Option.toList_some,Qj]at H
     exact absurd (by rw[H]) O) (fun p q h=>by
   rw[Yk,hx]
   rw[Qci]at h
   unfold Pth.put at h
   split at h
   ·rename_i hpq
    exact⟨x,Q8 _ (by rw[Option.toList_some];exact Ye _),hpq.1.symm⟩
   ·obtain⟨s,H,h3⟩:=h2 p q h
    exact⟨s,Q6 _ H,h3⟩)
  refine⟨m',h5,h6,?_⟩
  rw[F.aE,if_pos (by show(k:Int)<((spots g d).length:Int);omega),show A.ix ((spots g d,e1):List Sp×Int).1 (k:Int)=some x from A.ixn hx,Qa,i1,Qa,
   show F.ap m (x.1,x.1) _=_ from h4,Qa,A.gd1 (A.r64n (by omega))]
  exact h7
theorem table_P (hid: ∀n∈g,A.h6 n.1)(hE:(edges g d).length≤1000000)(h1:F.b9 g=some (spots g d,0))(h2:F.ct g=some (edges g d,0)): ∃T,TT g d T∧F.aZ g=some (tabL g d T,0):=by
 have h96:=Qgh W
 have M0:MI g d []:=⟨⟨fun p q s I=>(by cases I),fun p q=>List.Pairwise.nil,fun p q s I=>(by cases I)⟩,X6,fun x O=>(by cases O),fun x O=>(by cases O)⟩
 obtain⟨m1,M1,i1,e1⟩:=table_l6 W 0 0 (spots g d).length 0 A.FU [] (by omega) (by have:=Qab;omega) M0 (fun s I=>by rw[List.take_zero]at I;cases I) (fun p q h=>absurd rfl h)
 obtain⟨m,M,hc,cl,e2⟩:=table_l5 W 0 0 hE (by omega) _ A.FU m1 M1 (Q1 _) (Nat.lt_of_le_of_lt (mu_fu W _) (by decide))
 have ini: ∀s∈spots g d,∃u∈tbl m s.1 s.1,Pth.le (ctr u) (i0N g d s.1):=fun s I=>by
  obtain⟨u,hu,J⟩:=i1 s I
  obtain⟨v,hv,h4⟩:=hc s.1 s.1 u hu
  exact⟨v,hv,Pth.le_trans ((syN W).ok (M.inv.good _ _ v hv).1) ((netN W).iok _) h4 J⟩
 have sp: ∀p q,tbl m p q≠[]→(∃a,(p,a)∈spots g d)∧∃b,(q,b)∈spots g d:=fun p q h=>M.ks _ (tbl_mem h)
 have hT:TT g d (tbl m):=by
  refine⟨M.inv,M.inv.tab (netN W) (syN W) (fun p h=>?_) (fun p e he s I v hv=>?_),fun s I h=>?_,sp⟩
  ·obtain⟨q,hq⟩:=h
   obtain⟨a,H⟩:=(sp p q hq).1
   exact ini _ H
  ·obtain⟨e,hE2,rfl⟩:=Qv.1 he
   obtain⟨a,H⟩:=(sp p _ (List.ne_nil_of_mem I)).1
   exact cl _ H e hE2 s I v hv
  ·obtain⟨u,hu,_⟩:=ini s I
   rw[h]at hu;cases hu
 refine⟨tbl m,hT,?_⟩
 have hk: ∀x∈m,∀y∈m,x.1=y.1→x=y:=fun x O y hy h=>by
  obtain⟨i,hi⟩:=Xl O
  obtain⟨j,hj⟩:=Xl hy
  have a1:=(Z.mget_get (z:=[]) M.nd hi).1
  have a2:=(Z.mget_get (z:=[]) M.nd hj).1
  rw[h,a2]at a1
  exact Ju h a1.symm
 obtain⟨o1,o2,o3⟩:=ordK (m.map Qcu) fun x O y hy J h4=>by
  obtain⟨a,H,rfl⟩:=Qv.1 O
  obtain⟨b,hb,rfl⟩:=Qv.1 hy
  rw[hk a H b hb (Ju J h4)]
 have hperm:(tabL g d (tbl m)).Perm (m.map Qcu):=by
  have hn1:(tabL g d (tbl m)).Nodup:=List.Pairwise.imp (S:=fun a b=>a≠b) (fun {a b} h e=>ltK_no (x:=b) (by rw[e]at h;exact h)) (tabL_pw W (tbl m))
  refine(List.perm_ext_iff_of_nodup hn1 ?_).2 fun x=>?_
  ·refine Jb.2 (List.Pairwise.imp_of_mem (S:=fun a b=>Qcu a≠Qcu b) (fun {a b} H hb h e=>h ?_) (Jb.1 M.nd))
   have h5:a.1=b.1:=Ju (congrArg (fun z:Pth=>z.1) e) (congrArg (fun z:Pth=>z.2.1) e)
   exact h5
  ·rw[Qaz,Qv]
   constructor
   ·rintro⟨_,_,J,h4⟩
    refine⟨_,tbl_mem J,?_⟩
    show(x.1,x.2.1,tbl m x.1 x.2.1)=x
    rw[←h4]
   ·rintro⟨a,H,rfl⟩
    obtain⟨i,hi⟩:=Xl H
    have a1:tbl m a.1.1 a.1.2=a.2:=(Z.mget_get (z:=[]) M.nd hi).1
    refine⟨(M.ks a H).1,(M.ks a H).2,?_,a1.symm⟩
    show tbl m a.1.1 a.1.2≠[]
    rw[a1];exact M.ne a H
 have hhas: ∀(p:Pl) (a:Int),(p,a)∈spots g d→A.h6 p.1∧A.h6 p.2:=fun p a h=>by
  obtain⟨n,hn,J,h4,h5⟩:=Qbp d 0 g (fun n hn=>in2 W.own hn) (p,a) h
  have J:p.1=n.1:=J
  have h4:0≤p.2:=h4
  have h5:p.2≤2:=h5
  refine⟨by rw[J];exact hid n hn,?_⟩
  exact⟨by show-9223372036854775808≤p.2;omega,by show p.2≤9223372036854775807;omega⟩
 have hend:=Qhf m (fun x O=>by
   obtain⟨⟨a,H⟩,⟨b,hb⟩⟩:=M.ks x O
   exact⟨(hhas _ _ H).1,(hhas _ _ H).2,(hhas _ _ hb).1,(hhas _ _ hb).2⟩) M.ne (by
   have J:=hperm.length_eq
   rw[Qw]at J
   have:=tabL_len W (T:=tbl m)
   omega) o1
 rw[o2,←A.srt_uniq o3 hperm ((tabL_pw W (tbl m)).imp fun {a b} h=>by
  rw[Ym]
  exact fun h2=>ltK_no (ltK_tr h ((Qbg b a).1 h2)))]at hend
 unfold F.aZ
 rw[h1,Qa,if_neg (fun h=>h rfl),h2,Qa,if_neg (fun h=>h rfl)]
 exact e1.trans (e2.trans hend)
end
abbrev Kn:=List Pl×List (List Sm)
def zt (st:Kn)(p:Pl):Pl→Pl→List Sm:=fun p' q=>if p'=p then Z.mget [] (st.1.zip st.2) q else []
structure KI (g:List Nd) (d:List Int) (p:Pl) (st:Kn):Prop where
 inv:Pth.Inv (EN g d) (i0N g d) ctr ltS (GN g d) (zt st p)
 len:st.1.length=st.2.length
 nd:st.1.Nodup
 ne: ∀r∈st.2,r≠[]
 ks: ∀q∈st.1,∃b,(q,b)∈spots g d
section
variable {g:List Nd}{l d:List Int}{dm:List (Int×Int)}(W:Whole g l d dm)
include W
end
def fewF (s:Int):List Nd→Int
 | []=>s
 |x::r=>fewF (min (s+min (x.2.2.1.length:Int) 1048576+min (x.2.2.2.2.1.size:Int) 1048576+min (x.2.2.2.1.2.2.size:Int) 1048576) 1048576) r
theorem Qhx: ∀(l:List Nd) (s:Int),0≤s→s≤1048576→s≤fewF s l
 | [],s,_,_=>Xm s
 |x::r,s,h,H=>by
  unfold fewF
  have:=Qhx r (min (s+min (x.2.2.1.length:Int) 1048576+min (x.2.2.2.2.1.size:Int) 1048576+min (x.2.2.2.1.2.2.size:Int) 1048576) 1048576) (by omega) (by omega)
  omega
theorem fewF_le: ∀(l:List Nd) (s:Int),0≤s→s≤1048576→fewF s l≤5000→∀x∈l,x.2.2.1.length≤5000∧x.2.2.2.2.1.size≤5000∧x.2.2.2.1.2.2.size≤5000
 | [],_,_,_,_,x,H=>by cases H
 |y::r,s,h,J,I,x,H=>by
  unfold fewF at I
  have O:=Qhx r (min (s+min (y.2.2.1.length:Int) 1048576+min (y.2.2.2.2.1.size:Int) 1048576+min (y.2.2.2.1.2.2.size:Int) 1048576) 1048576) (by omega) (by omega)
  rcases Qk.1 H with rfl|H
  ·omega
  ·exact fewF_le r _ (by omega) (by omega) I x H
theorem few10_eq (g:List Nd): ∃b,F.eX g=some b∧(b=true→Few g∧g.length≤18):=by
 unfold F.eX
 rw[A.gd1 (by omega)]
 have hlen:(List.take (min (g.length:Int) 99).toNat g).length≤99:=by rw[Qu];omega
 have:=A.lp (List.take (min (g.length:Int) 99).toNat g) (fun f s y=>F.de g f s y) (fun _ l s=>some (bif decide ((g.length:Int)≤18)then decide (fewF s l≤2000)else false)) (fun _ s=>0≤s∧s≤1048576)
  (fun f s _=>by rw[F.de,if_neg (by omega)];rfl)
  (fun f s k x J hk hp O=>by
   rw[F.de,if_pos (by omega),A.ixn J,Qa,A.gd1 ⟨⟨by omega,by omega⟩,⟨by omega,by omega⟩,⟨by omega,by omega⟩⟩,A.gd1 (A.r64n (by omega)),O _ (by omega)]
   rfl)
  (by have:=Qab;omega) 0 (by omega)
 rw[this]
 refine⟨_,rfl,fun H=>?_⟩
 by_cases I:(g.length:Int)≤18
 ·simp only[I,decide_true,cond_true,decide_eq_true_eq]at H
  have e:List.take (min (g.length:Int) 99).toNat g=g:=W7 (by omega)
  rw[e]at H
  exact⟨⟨by omega,fewF_le g 0 (by omega) (by omega) (by omega)⟩,by omega⟩
 ·simp[I]at H
theorem graph_tell (g:List Nd)(H:Few g):(∃e,e≠0∧F.b9 g=some ([],e)∧F.dP g=some ([],e)∧F.ct g=some ([],e)∧F.dQ g=some ([],e))∨
  ∃l d dm,Whole g l d dm∧F.b9 g=some (spots g d,0)∧F.dP g=some (spots g d,0)∧F.ct g=some (edges g d,0)∧F.dQ g=some (edges g d,0)∧(edges g d).length≤1000000:=by
 have hlen:=H.1
 unfold F.dQ F.b9 F.dP F.ct
 rcases whole_same g H with⟨e,h0,I,J⟩|⟨l,d,dm,I,J,W⟩
 ·rw[I,J]
  simp only[Qa,A.om,if_pos h0]
  exact .inl ⟨e,h0,rfl,rfl,rfl,rfl⟩
 ·right
  have O: ∀n∈g,n.2.2.1.length≤2:=fun n hn=>in2 W.own hn
  have he:(edges g d).length≤1000000:=Wh (Qer g d 0 g (by omega) O O) (by omega)
  have hod:Od (edges g d):=Qhu g d W.inc 0 g W.inc O
  rw[I,J]
  simp only[Qa,A.om,ne_eq,not_true_eq_false,if_false]
  rw[Qhj g d H W.fed W.own W.dlen,Qhq g d _ H W.fed W.own W.rel,Qib g d _ H W.fed W.own W.inb W.rel]
  simp only[Qa,ne_eq,not_true_eq_false,if_false]
  rw[Qhv g d H W.inc W.own W.inb,sorted_eq hod he]
  exact⟨l,d,dm,W,rfl,rfl,rfl,rfl,he⟩
theorem tabL_tbl {g:List Nd}{l d:List Int}{dm:List (Int×Int)}(W:Whole g l d dm){T:Pl→Pl→List Sm}(hT:TT g d T):Tbl (tabL g d T):=by
 refine⟨Wh (tabL_len W) (by decide),fun x H=>?_⟩
 obtain⟨_,⟨b,I⟩,_,J⟩:=Qaz.1 H
 have:=row_len W hT.inv (p:=x.1) I
 unfold Qet at this
 rw[J];omega
theorem Qew {p q:Pl}{r:List Sm}: ∀{l:List Pth},(∀x∈l,x.1=p→x.2.1=q→x.2.2=r)→(∃x∈l,x.1=p∧x.2.1=q)→Qfy p q l=r
 | [],_,h=>by obtain⟨x,H,_⟩:=h;cases H
 |y::l,h,O=>by
  unfold Qfy
  by_cases I:y.1=p∧y.2.1=q
  ·rw[if_pos I];exact h y (Qg ..) I.1 I.2
  ·rw[if_neg I]
   refine Qew (fun x H=>h x (Qe _ H)) ?_
   obtain⟨x,H,J⟩:=O
   rcases Qk.1 H with rfl|H
   ·exact absurd J I
   ·exact⟨x,H,J⟩
theorem Qej {p q:Pl}: ∀{l:List Pth},(∀x∈l,¬(x.1=p∧x.2.1=q))→Qfy p q l=[]
 | [],_=>rfl
 |y::l,h=>by
  unfold Qfy
  rw[if_neg (h y (Qg ..))]
  exact Qej fun x H=>h x (Qe _ H)
theorem sums_tab {g:List Nd}{d:List Int}{T:Pl→Pl→List Sm}(hT:TT g d T)(p q:Pl):Qfy p q (tabL g d T)=T p q:=by
 by_cases h:T p q=[]
 ·rw[h]
  refine Qej fun x I H=>?_
  obtain⟨_,_,J,_⟩:=Qaz.1 I
  rw[H.1,H.2]at J
  exact J h
 ·refine Qew (fun x I O H=>?_) ⟨(p,q,T p q),Qaz.2 ⟨(hT.sp p q h).1,(hT.sp p q h).2,h,rfl⟩,rfl,rfl⟩
  rw[(Qaz.1 I).2.2.2,O,H]
theorem table_any (g:List Nd)(hg:(Z.Ty.slice T83).ok g):(∃e,e≠0∧F.aZ g=some ([],e))∨
  ∃l d dm T,Whole g l d dm∧TT g d T∧F.dP g=some (spots g d,0)∧F.dQ g=some (edges g d,0)∧(edges g d).length≤1000000∧F.aZ g=some (tabL g d T,0):=by
 have I: ∀n∈g,A.h6 n.1:=fun n hn=>by
  obtain⟨h,_⟩:=hg.2 n hn
  exact h
 have J: ∀x∈g,x.2.2.2.2.1.size≤9223372036854775807∧x.2.2.2.1.2.2.size≤9223372036854775807:=fun x hx=>by
  obtain⟨_,_,_,⟨_,_,hS⟩,hN,_,_⟩:=hg.2 x hx
  exact⟨hN,hS⟩
 rcases whole_all g J with hF|⟨e,H,hw⟩
 ·rcases graph_tell g hF with⟨e,H,O,_,_,_⟩|⟨l,d,dm,W,O,h2,h3,h4,hE⟩
  ·refine .inl ⟨e,H,?_⟩
   unfold F.aZ;rw[O,Qa,if_pos H]
  ·obtain⟨T,hT,h5⟩:=table_P W I hE O h3
   exact .inr ⟨l,d,dm,T,W,hT,h2,h4,hE,h5⟩
 ·refine .inl ⟨e,H,?_⟩
  unfold F.aZ F.b9
  rw[hw]
  simp only[Qa,A.om,if_pos H]
section
variable {g:List Nd}{l d:List Int}{dm:List (Int×Int)}(W:Whole g l d dm)
include W
end
section
variable {g:List Nd}{l d:List Int}{dm:List (Int×Int)}(W:Whole g l d dm)
def hit (g:List Nd)(d:List Int)(s:Sm)(e:Ed)(u:Sm):Bool:=decide (thnN g d (eNt e) u=some s)
include W
theorem steps_l3 {T:Pl→Pl→List Sm}(hT:TT g d T)(K:Bool→Int→Option Bool)(s:Sm)(y:Nat)(hy:y≤1000000){e:Ed}(he:e∈edges g d)(p:Pl)(hl:(T p e.1).length≤1000000000)(b:Bool):
  F.aA K s (y:Int) e (T p e.1) A.FU b 0=K (b||(T p e.1).any (hit g d s e)) ((y:Int)+1):=
 A.lp (T p e.1) (fun f (b:Bool) z=>F.aA K s (y:Int) e (T p e.1) f b z) (fun _ t b=>K (b||t.any (hit g d s e)) ((y:Int)+1)) (fun _ _=>True)
  (fun f b _=>by
   rw[F.aA,if_neg (by omega)]
   unfold F.bi
   rw[A.gd1 (A.r64n (by omega)),Js,Jh])
  (fun f b k u hu hk _ ih=>by
   have gu:=(hT.inv.good p e.1 u (Qf hu)).1
   have H: ∀b2:Bool,F.bj (F.aA K s (y:Int) e (T p e.1) f) (k:Int) b2=K (b2||((T p e.1).drop (k+1)).any (hit g d s e)) ((y:Int)+1):=fun b2=>by
    unfold F.bj
    rw[A.gd1 (A.r64n (by omega)),ih _ trivial]
   rw[F.aA,if_pos (by omega),A.ixn hu,Qa,Xo]
   rcases Qif W he gu with⟨v,I,_,J⟩|⟨I,z,_,J⟩
   ·rw[show F.b7 (_,_,_,_,(_,_,_,_)) (_,_,_,_,(_,_,_,_))=_ from J,Qa]
    have O:hit g d s e u=decide (v=s):=by
     unfold hit
     rw[I,decide_eq_decide]
     exact⟨fun h=>Qp h,fun h=>by rw[h]⟩
    cases b with
    |true=>rw[if_pos rfl,H,Yu,Yu]
    |false=>
     rw[if_neg (by decide),if_pos rfl,H,O,W6]
   ·rw[show F.b7 (_,_,_,_,(_,_,_,_)) (_,_,_,_,(_,_,_,_))=_ from J,Qa]
    have O:hit g d s e u=false:=by
     unfold hit
     rw[I];rfl
    cases b with
    |true=>rw[if_pos rfl,H,Yu,Yu]
    |false=>rw[if_neg (by decide),if_neg (show ¬(12:Int)=0 by decide),H,O,W6,W6])
  (by have:=Qab;omega) b trivial
theorem steps_l4 {T:Pl→Pl→List Sm}(hT:TT g d T)(hE:(edges g d).length≤1000000)(K:Int→Option Bool)(x18:Pth)(y:Nat)(hy:y≤1000000000)(s:Sm)(b:Bool)
  (hb:(b||(edges g d).any fun e=>decide (e.2.1=x18.2.1)&&(T x18.1 e.1).any (hit g d s e))=true):F.aq K (tabL g d T,0) (edges g d,0) x18 (y:Int) s A.FU b 0=K ((y:Int)+1):=by
 have:=A.lp (edges g d) (fun f (b:Bool) z=>F.aq K (tabL g d T,0) (edges g d,0) x18 (y:Int) s f b z) (fun _ t b=>if(b||t.any fun e=>decide (e.2.1=x18.2.1)&&(T x18.1 e.1).any (hit g d s e))=true then K ((y:Int)+1)else some false) (fun _ _=>True)
  (fun f b _=>by
   rw[F.aq,if_neg (show ¬((edges g d).length:Int)<((edges g d).length:Int) by omega),Js,Jh,A.gd1 (A.r64n (by omega))]
   cases b<;>rfl)
  (fun f b k e he hk _ I=>by
   have heE:=Qf he
   obtain⟨⟨a,ha⟩,_⟩:=(Qao W heE).ends
   have J:=row_len W hT.inv (p:=x18.1) ha
   unfold Qet at J
   rw[F.aq,if_pos (show(k:Int)<((edges g d).length:Int) by omega),show A.ix ((edges g d,0):List Ed×Int).1 (k:Int)=some e from A.ixn he,Qa,Xo]
   cases b with
   |true=>
    rw[if_pos (by simp)]
    unfold F.bi
    rw[A.gd1 (A.r64n (by omega)),I _ trivial,Yu,Yu]
   |false=>
    by_cases H:e.2.1=x18.2.1
    ·rw[if_neg (by
      have O:e.2.1=x18.2.1:=H
      simp[O]),show F.dd ((tabL g d T,0):List Pth×Int).1 x18.1 e.1=_ from Sums_P _ x18.1 e.1 (tabL_tbl W hT),Qa,sums_tab hT,steps_l3 W hT _ s k (by omega) heE x18.1 (by omega),I _ trivial,decide_eq_true H,Xf,W6,W6]
    ·rw[if_pos (by
      have O: ¬e.2.1=x18.2.1:=H
      simp[O])]
     unfold F.bi
     rw[A.gd1 (A.r64n (by omega)),I _ trivial,decide_eq_false H,Yv,W6,W6])
  (by have:=Qab;omega) b trivial
 rw[this,if_pos hb]
theorem steps_l6 {T:Pl→Pl→List Sm}(hT:TT g d T)(hE:(edges g d).length≤1000000)(K:Int→Option Bool)(y:Nat)(hy:y≤1000000){x18:Pth}(hx:x18∈tabL g d T):F.ab K (tabL g d T,0) (edges g d,0) (y:Int) x18 A.FU 0=K ((y:Int)+1):=by
 obtain⟨⟨a,ha⟩,⟨b,hb⟩,h1,h2⟩:=Qaz.1 hx
 have O:=row_len W hT.inv (p:=x18.1) hb
 unfold Qet at O
 rw[←h2]at O
 exact A.lp0 x18.2.2 (fun f z=>F.ab K (tabL g d T,0) (edges g d,0) (y:Int) x18 f z) (fun _ _=>K ((y:Int)+1))
  (fun f=>by rw[F.ab,if_neg (by omega),A.gd1 (A.r64n (by omega))])
  (fun f k s hs hk ih=>by
   have hsT:s∈T x18.1 x18.2.1:=by rw[←h2];exact Qf hs
   have gs:=hT.inv.good _ _ s hsT
   obtain⟨i1,i2,i3,i4,i5⟩:=o_b3 W (p:=x18.1) (x:=a) ha
   have hd:=dp4 W ha
   have ea:s.1=a:=by
    have:=gs.1.2.1
    unfold dpN at this
    rw[hd.1]at this
    omega
   have key:(x18.1=x18.2.1∧s=(idP a).1)∨((edges g d).any fun e=>decide (e.2.1=x18.2.1)&&(T x18.1 e.1).any (hit g d s e))=true:=by
    rcases hT.tab.step (netN W) (p:=x18.1) (q:=x18.2.1) (s:=ctr s) (Qv.2 ⟨s,hsT,rfl⟩)with⟨H,J⟩|⟨e,he,H,u,hu,J⟩
    ·refine .inl ⟨H,?_⟩
     refine(syN W).inj (p:=x18.1) (q:=x18.1) ?_ i4 (J.trans i5.symm)
     have:=gs.1
     rw[←H]at this;exact this
    ·obtain⟨e,hE2,rfl⟩:=Qv.1 he
     obtain⟨w,hw,rfl⟩:=Qv.1 hu
     have gw:=(hT.inv.good _ _ w hw).1
     right
     rw[Ya]
     refine⟨e,hE2,?_⟩
     rw[show e.2.1=x18.2.1 from H,decide_eq_true rfl,Xf,Ya]
     refine⟨w,hw,?_⟩
     unfold hit
     rw[decide_eq_true_iff]
     cases hv:thnN g d (eNt e) w with
     |none=>rw[(syN W).none he gw hv]at J;cases J
     |some v=>
      obtain⟨h5,h6⟩:=(syN W).some he gw hv
      rw[h6]at J
      have h7:GN g d x18.1 (eNt e).tgt s:=by rw[H];exact gs.1
      rw[(syN W).inj h5 h7 (Qp J)]
   rw[F.ab,if_pos (by omega),A.ixn hs,Qa,ea,i2,Qa,←ea]
   unfold F.cq
   have go: ∀c:Bool,(c=true∨((edges g d).any fun e=>decide (e.2.1=x18.2.1)&&(T x18.1 e.1).any (hit g d s e))=true)→F.aq (F.ab K (tabL g d T,0) (edges g d,0) (y:Int) x18 f) (tabL g d T,0) (edges g d,0) x18 (k:Int) s A.FU c 0=K ((y:Int)+1):=fun c hc=>by
    rw[steps_l4 W hT hE _ x18 k (by omega) s c (by rw[Yy];exact hc)]
    exact ih
   by_cases I:x18.1=x18.2.1
   ·rw[if_pos I]
    refine go _ (key.imp (fun h=>decide_eq_true ?_) id)
    have H:=h.2
    rw[←ea]at H
    exact H
   ·rw[if_neg I]
    exact go _ (.inr (key.resolve_left fun h=>I h.1)))
  (by have:=Qab;omega)
theorem steps_l8 {T:Pl→Pl→List Sm}(hT:TT g d T)(hE:(edges g d).length≤1000000):F.y (tabL g d T,0) (edges g d,0) A.FU 0=some true:=by
 have htl:=tabL_len W (T:=T)
 exact A.lp0 (tabL g d T) (fun f z=>F.y (tabL g d T,0) (edges g d,0) f z) (fun _ _=>some true)
  (fun f=>by rw[F.y,if_neg (show ¬((tabL g d T).length:Int)<((tabL g d T).length:Int) by omega)])
  (fun f k x hx hk ih=>by
   have H:=Qf hx
   obtain⟨⟨a,ha⟩,⟨b,hb⟩,h1,O⟩:=Qaz.1 H
   have I:=row_len W hT.inv (p:=x.1) hb
   unfold Qet at I
   rw[←O]at I
   obtain⟨r,h3,h4⟩:=Least_R (x:=dpN g d x.1) (y:=dpN g d x.2.1) x.2.2 (by omega) fun s J=>by
    rw[O]at J;exact(hT.inv.good _ _ s J).1
   have h5:Pth.IsLst ctr ltS x.2.2 x.2.2:=by
    rw[O]
    exact⟨hT.inv.sort _ _,fun s=>⟨fun J=>⟨J,fun u hu=>hT.inv.min _ _ u hu s J⟩,fun h=>h.1⟩⟩
   obtain rfl:=h4.uniq linS h5
   have hne: ¬((x.2.2.length:Int)=0):=by
    rw[O]
    have:=List.length_pos_iff.2 h1
    omega
   rw[F.y,if_pos (show(k:Int)<((tabL g d T).length:Int) by omega),show A.ix ((tabL g d T,0):List Pth×Int).1 (k:Int)=some x from A.ixn hx,Qa,h3,Qa,if_neg (fun h=>h rfl),SameS _ _ (show x.2.2.length≤1000000000 by omega),Qa,decide_eq_true rfl]
   unfold F.cr
   rw[show(bif !true then true else decide ((x.2.2.length:Int)=0))=false from decide_eq_false hne,if_neg (by decide),steps_l6 W hT hE _ k (by omega) H]
   exact ih)
  (by have:=Qab;omega)
end
theorem pathsSteps_plain (g:List Nd)(J:(Z.Ty.slice T83).ok g):F.db g=some true:=by
 obtain⟨b,I,hb⟩:=few10_eq g
 have out: ∀r:List Pth×Int,F.bk g r true=some true:=fun r=>by
  unfold F.bk;rw[if_pos rfl,begunP];rfl
 unfold F.db
 rcases table_any g J with⟨e,O,H⟩|⟨l,d,dm,T,W,hT,h2,h3,hE,H⟩
 ·rw[H,Qa,begunP,Qa,if_neg (by decide),I,Qa]
  simp only[decide_eq_true O]
  cases b<;>exact out _
 ·rw[H,Qa,begunP,Qa,if_neg (by decide),I,Qa]
  cases b with
  |false=>exact out _
  |true=>
   simp only[Xp,cond_false,ne_eq,not_true_eq_false,decide_false]
   unfold F.bk
   rw[if_neg (by decide),h3,Qa]
   exact steps_l8 W hT hE
end Go.Proofs.YtlbnpmfggfbdoaaGreatDoor
end
section
namespace Go.Z
open Go.RowKit
def OpenT (P:Program)(T:TypeId)(t:Ty):Prop:=
 P.cellsOf T=t.size∧∀(H:Type) (enc:TypeId×Value→H) (w:World) (base:Nat) (spare:Nat→Bool) (held:Bool) (fuel:Nat) (cs:List Value) (x:DataW H×List MemPlace),
  DataW.trod enc P w base spare held fuel T cs=some x→∃y:t.den,t.rep w (nt []) cs y
section
variable {P:Program}{T e:TypeId}
theorem ot_int {k:IntKind}(J:P.cellsOf T=1)(O:P.underlying T=some (.int k)):OpenT P T (.int k):=⟨J,fun H enc w base spare held fuel cs x h=>by
 obtain⟨n,rfl,_,I⟩:=DataW.trod_int O h
 refine⟨n,rfl,?_⟩
 simp only[Lit.wf,Qm,decide_eq_true_eq]at I
 exact I⟩
theorem ot_str (I:P.cellsOf T=1)(J:P.underlying T=some .string):OpenT P T .str:=⟨I,fun H enc w base spare held fuel cs x h=>by
 obtain⟨s,rfl,_,O⟩:=DataW.trod_string J h
 exact⟨s,rfl,O⟩⟩
def OpenPs (P:Program):List (TypeId×Nat)→Nat→Ty→Prop
 | [],_,_=>False
 | [(T,o')],o,t=>o'=o∧OpenT P T t
 |(T,o')::p::ps,o,.pair a b=>o'=o∧OpenT P T a∧OpenPs P (p::ps) (o+a.size) b
 |_::_::_,_,_=>False
theorem open_ps {H:Type}{enc:TypeId×Value→H}{w:World}{base:Nat}{spare:Nat→Bool}{held:Bool}{fuel:Nat}{cs:List Value}:
  ∀(ps:List (TypeId×Nat)) (o:Nat) (t:Ty),OpenPs P ps o t→(∀p∈ps,∃x,DataW.trod enc P w base spare held fuel p.1 ((cs.drop p.2).take (P.cellsOf p.1))=some x)→∃y:t.den,t.rep w (nt []) ((cs.drop o).take t.size) y
 | [],_,_,h,_=>h.elim
 | [(T,o')],o,t,h,I=>by
  obtain⟨rfl,⟨J,O⟩⟩:=h
  obtain⟨x,I⟩:=I (T,o') (Qj.2 rfl)
  rw[←J];exact O _ _ _ _ _ _ _ _ _ I
 |(T,o')::p::ps,o,.pair a b,h,I=>by
  obtain⟨rfl,⟨J,O⟩,hr⟩:=h
  obtain⟨x,h1⟩:=I (T,o') (Qg ..)
  obtain⟨ya,hya⟩:=O _ _ _ _ _ _ _ _ _ h1
  obtain⟨yb,hyb⟩:=open_ps (p::ps) _ b hr fun q hq=>I q (Qe _ hq)
  refine⟨(ya,yb),_,_,?_,hya,hyb⟩
  show(cs.drop o').take (a.size+b.size)=_
  rw[J,List.take_add,X5]
 |_::_::_,_,.int _,h,_=>h.elim
 |_::_::_,_,.byte,h,_=>h.elim
 |_::_::_,_,.bool,h,_=>h.elim
 |_::_::_,_,.str,h,_=>h.elim
 |_::_::_,_,.slice _,h,_=>h.elim
theorem ot_struct {fs:List Field}{t:Ty}(hc:P.cellsOf T=t.size)(ht:P.underlying T=some (.struct fs.toArray))(h:OpenPs P (fs.map fun f=>(f.type,f.offset)) 0 t):OpenT P T t:=⟨hc,fun H enc w base spare held fuel cs x hx=>by
 obtain⟨xs,n,_,_,hl,hs,hf⟩:=DataW.trod_struct ht hx
 have I:cs=(cs.drop 0).take t.size:=by rw[Wa,W7 (by omega)]
 rw[I]
 refine open_ps (fuel:=n) (enc:=enc) (base:=base) (spare:=spare) (held:=held) _ 0 t h fun p hp=>?_
 obtain⟨f,J,rfl⟩:=Qv.1 hp
 obtain⟨i,O,he⟩:=Xh J
 have h1:=hf i f (by rw[Ws,Qd O,he])
 rw[h1,Qd (by rw[hs];simpa using O)]
 exact⟨_,rfl⟩⟩
theorem rows_of {t:Ty}{w:World}{g:Addr}: ∀(n:Nat),(∀i,i<n→∃(cs:List Value) (y:t.den),cs.length=t.size∧(∀j u,cs[j]?=some u→w.cell? (g.add (i*t.size+j))=some u)∧t.rep w (nt []) cs y)→
  ∃(cells:List Value) (ys:List t.den),ys.length=n∧cells.length=n*t.size∧(∀j u,cells[j]?=some u→w.cell? (g.add j)=some u)∧∀(i:Nat) (y:t.den),ys[i]?=some y→t.rep w (nt []) ((cells.drop (i*t.size)).take t.size) y
 |0,_=>⟨[],[],rfl,by simp,by simp,by simp⟩
 |n+1,h=>by
  obtain⟨cells,ys,h1,J,h3,h4⟩:=rows_of n fun i H=>h i (by omega)
  obtain⟨cs,y,c1,c2,c3⟩:=h n (by omega)
  refine⟨cells++cs,ys++[y],by simp[h1],by rw[Ql,J,c1,Nat.succ_mul],fun j u I=>?_,?_⟩
  ·by_cases O:j<cells.length
   ·rw[Q7 O]at I;exact h3 j u I
   ·rw[We (by omega)]at I
    have:=c2 _ u I
    rwa[J,show n*t.size+(j-n*t.size)=j by omega]at this
  ·refine Qek (xs:=ys) (ys:=[y]) (by rw[J,h1]) h4 fun i y' H=>?_
   have:i=0:=by have:=(Qc.1 H).1;simp at this;omega
   subst this
   simp at H;subst H
   rw[Nat.zero_mul,Wa,W7 (by omega)];exact c3
theorem ot_slice {t:Ty}(hc:P.cellsOf T=1)(ht:P.underlying T=some (.slice e))(h:OpenT P e t):OpenT P T (.slice t):=⟨hc,fun H enc w base spare held fuel cs x hx=>by
 rcases DataW.trod_slice ht hx with⟨rfl,_⟩|⟨ad,len,cap,elems,rest,n,_,rfl,_,hb,hl,hm,hlen,hel,_,_⟩
 ·exact⟨[],Qdg _⟩
 ·have each: ∀i,i<len→∃(cs:List Value) (y:t.den),cs.length=t.size∧(∀j u,cs[j]?=some u→w.cell? (ad.add (i*t.size+j))=some u)∧t.rep w (nt []) cs y:=fun i hi=>by
   have I:=hel i hi
   rw[Qd (by omega),Jl]at I
   obtain⟨cs',O,h3⟩:=I
   obtain⟨_,h4,h5⟩:=World.cells?_some O
   obtain⟨y,hy⟩:=h.2 _ _ _ _ _ _ _ _ _ h3
   rw[h.1]at h4 h5
   refine⟨cs',y,h4,fun j u hj=>?_,hy⟩
   have J:=(Qc.1 hj).1
   have:=h5 j (by omega)
   rw[add_add]at this
   rw[this,hj]
  obtain⟨cells,ys,I,O,h3,h4⟩:=rows_of len each
  by_cases hz:len=0
  ·subst hz
   have:ys=[]:=Wo I
   subst this
   exact⟨[],some ad,cap,[],rfl,by simp,hm,by simp,.inl rfl,by simp⟩
  ·have hp:=Qal t
   have J:0<cells.length:=by rw[O];exact Nat.mul_pos (by omega) hp
   have h0:=h3 0 _ (Qd J)
   have hspot:=World.cell?_spot h0
   obtain⟨b,off,spot⟩:=ad
   simp only[Addr.add]at hspot
   subst hspot
   refine⟨ys,some ⟨b,off,none⟩,cap,cells,by rw[I],by omega,hm,by rw[I];exact O,.inr ⟨b,off,rfl,by simp[nt],fun j u hj=>?_⟩,h4⟩
   have:=h3 j u hj
   rwa[Addr.add_lit]at this⟩
end
end Go.Z
end
section
namespace Go.Proofs.YtlbnpmfggfbdoaaGreatDoor.pathsStepsDone
open Go.ChangeShapes Go.WideShapes Go.ChangeAt Go.RowKit
theorem own:ownKnob Tryz.prog.godebug=none:=by kernel_rfl
theorem laidOut:laidOutB Tryz.prog=true:=by kernel_rfl
theorem ot3:Z.OpenT Tryz.prog 3 A.ti:=Z.ot_int (by kernel_rfl) Tryz.underlying3
theorem ot80:Z.OpenT Tryz.prog 80 A.TI:=Z.ot_slice (by kernel_rfl) Tryz.underlying80 ot3
theorem ot2:Z.OpenT Tryz.prog 2 A.ti:=Z.ot_int (by kernel_rfl) Tryz.underlying2
theorem ot9:Z.OpenT Tryz.prog 9 Z.Ty.str:=Z.ot_str (by kernel_rfl) Tryz.underlying9
theorem ot82:Z.OpenT Tryz.prog 82 T81:=Z.ot_struct (by kernel_rfl) Tryz.underlying82 ⟨rfl,ot3,rfl,ot2,rfl,ot9⟩
theorem ot84:Z.OpenT Tryz.prog 84 T83:=Z.ot_struct (by kernel_rfl) Tryz.underlying84 ⟨rfl,ot3,rfl,ot3,rfl,ot80,rfl,ot82,rfl,ot9,rfl,ot2,rfl,ot3⟩
theorem ot22:Z.OpenT Tryz.prog 22 (Z.Ty.slice T83):=Z.ot_slice (by kernel_rfl) Tryz.underlying22 ot84
theorem ot24:Z.OpenT Tryz.prog 24 T23:=Z.ot_struct (by kernel_rfl) Tryz.underlying24 ⟨rfl,ot22⟩
set_option maxRecDepth 100000 in
theorem laid_met (os:Os)(args:Array Value):laidMetH Tryz.prog Rows.pathsStepsRow.laid (({World.holding Tryz.prog os ⟨#[],#[],[]⟩with heap:=((World.holding Tryz.prog os ⟨#[],#[],[]⟩).heap.modify 0 (A.putCells A.tabF)).modify 1 (A.putCells A.tabA)}:World).forCall (fun _ _=>0) ⟨#[],args,[]⟩).memory:=by
 rw[MakeChecks.laidMetH_plain _ _ _ (by kernel_rfl)]
 exact(LaidIn.of_run (l:=Rows.pathsStepsRow.laid) [1,0] 8 (by kernel_rfl) (by kernel_rfl) (by kernel_rfl) (by kernel_rfl)).met
theorem of_laid {W:World}(h:laidMetH Tryz.prog Rows.pathsStepsRow.laid W):Lib.Utf8Tabs 0 1 W:=by
 rw[MakeChecks.laidMetH_plain _ _ _ (by kernel_rfl)]at h
 have H:=Lib.laidMet.reads h (.tail _ (.head _))
 rw[show Rows.laid_unicode_utf8_first=Lib.firstData from Pinned.utf8First_eq]at H
 have I:=Lib.laidMet.reads h (.head _)
 rw[show(Rows.laid_unicode_utf8_acceptRanges:DataW Unit)=Lib.acceptData by kernel_rfl]at I
 exact utf8Tabs_of_readsT (U8Types.of196 Tryz.laysValid) ⟨by kernel_rfl,by kernel_rfl,by kernel_rfl,by kernel_rfl,by kernel_rfl,by kernel_rfl,by kernel_rfl⟩ H I
set_option maxHeartbeats 1000000 in
set_option maxRecDepth 100000 in
theorem lifted (os:Os)(started:os.Started)(H:Type)(enc:TypeId×Value→H):
  ReturnsInHanded {} Tryz.checked os 5 .any (fun w args=>(Rows.pathsStepsSpec.pre enc Tryz.prog Tryz.f5 [] false w args∧laidMetH Tryz.prog Rows.pathsStepsRow.laid w)∧sizedMet enc Tryz.prog Tryz.f5 (OpenSpec.ofChange Rows.pathsStepsSpec) false w args) (Rows.pathsStepsSpec.post enc Tryz.prog Tryz.f5 false true false false):=by
 refine returnsInHanded_of_change_and (C:=Tryz.checked) (X:=fun w _=>laidMetH Tryz.prog Rows.pathsStepsRow.laid w) (fun _ _ _ hh h=>h.of_heap hh) own started (by kernel_rfl) Tryz.func5
  (ChangeSpec.witness_shaped (enc:=enc) (C:=Tryz.checked) (os:=os) (X:=fun w _=>laidMetH Tryz.prog Rows.pathsStepsRow.laid w) false ({World.holding Tryz.prog os ⟨#[],#[],[]⟩with heap:=((World.holding Tryz.prog os ⟨#[],#[],[]⟩).heap.modify 0 (A.putCells A.tabF)).modify 1 (A.putCells A.tabA)}) #[.agg #[.slice none 0 0]] 16 rfl (World.shaped_of_RefB (by kernel_rfl) (by kernel_rfl)) (by kernel_rfl) (by kernel_rfl) (by kernel_rfl) (laid_met os _)) ?_
 intro W base args ds gs before hval0 hW hcnd hsz0 hL _
 have hval: ∀(j:Nat) t v,Tryz.f5.params[j]?=some t→args[j]?=some v→Value.okWide Tryz.prog W .any base t v:=hval0
 have hW':=hW
 obtain⟨p,q,O,hV,rfl,hfz,hnd⟩:=hW
 have hA:DataW.TrodAll enc Tryz.prog W 0 (fun _=>true) true Tryz.f5.params.toList args.toList ds p:=O
 rw[Tryz.params5]at hA hval
 obtain⟨v0,vs0,d0,ds0,p0,q0,hargs,rfl,rfl,h0,r0⟩:=trodAll_cons hA
 obtain⟨rfl,rfl,rfl⟩:=trodAll_nil r0
 obtain rfl:args=#[v0]:=by cases args;simp_all
 obtain⟨rfl,rfl⟩:=trodVars_none hV
 have k0:=h0
 have lt0: ∀x∈p0,x.block<W.heap.size:=by obtain⟨m,hm⟩:=k0;exact DataW.trod_lt m _ _ _ hm
 obtain⟨fu0,hf0⟩:=h0
 obtain⟨J,I⟩:=ot24.2 _ _ _ _ _ _ _ _ _ hf0
 obtain⟨cs0,rfl,_⟩:=okWide_struct Tryz.underlying24 (hval 0 24 v0 rfl rfl)
 replace I:T23.rep W (Z.nt []) cs0.toList J:=I
 have hok0:=Z.rep_ok _ I
 obtain⟨a0,c0,hc0⟩: ∃a c,cs0.toList=[.slice a J.length c]:=by obtain⟨a,c,_,h,_⟩:=I;exact⟨a,c,h⟩
 obtain rfl:cs0=#[.slice a0 J.length c0]:=by rw[←W9 (xs:=cs0),hc0]
 clear O hval0
 have htab:=of_laid hL
 have hF:F.db J=some true:=pathsSteps_plain J hok0
 have hct:=o_aQ a0 c0 J true hF
 refine(hct W (fun _=>True) (A.Hp.start ⟨A.Hall.sh I,A.Hall.tabs htab⟩)).mono ?_
 rintro e W' ⟨v,H',rfl,⟨rfl,rfl⟩,hh⟩
 have bel:=hh.ch.below
 exact⟨_,rfl,_,_,_,[],_,[],hW',trodAll_mk1 (shut_bool Tryz.underlying4 _),(trodAll_cons_mk (Below.trod laidOut (by kernel_rfl) (of_decide_eq_true (by kernel_rfl)) k0 bel lt0) trodAll_mk0),rfl,bel.frame _,fun h=>by cases h⟩
theorem over:Rows.pathsStepsRow.holds Tryz.pinned (OpenSpec.ofChange Rows.pathsStepsSpec):=
 OpenClaim.holds_of_wide 5 Tryz.f5 rfl rfl rfl rfl rfl rfl rfl ⟨rfl,rfl,rfl,rfl,rfl⟩ rfl rfl rfl rfl rfl (by kernel_rfl) Tryz.func5 (by kernel_rfl)
  (of_decide_eq_true (by kernel_rfl)) (by unfold Func.isWrapper;first|(rw[if_pos (by decide+kernel)];kernel_rfl)|(rw[if_neg (by decide+kernel)];exact⟨rfl,rfl⟩))
  (fun os started H enc _=>lifted os started H enc)
theorem proved:Rows.PathsStepsCardSaid:=
 Claim7.holds_tied_plain_at .later [] [.data,.pinned] true (true,"0af9d568bb84d7a8a7896f1e0d35c96323cc734ed9264ae90a39a3d574a26123") false
  over (fun _ h=>by cases h) (by kernel_rfl) (fun _ h=>by cases h) pathsSteps_row_tie rfl ⟨rfl,rfl⟩ (by kernel_rfl) rfl
  (fun f fn J H=>by
   obtain rfl:f=5:=Qp ((show Tryz.prog.funcNamed Rows.pathsStepsRow.func=some 5 by kernel_rfl).symm.trans J) |>.symm
   obtain rfl:fn=Tryz.f5:=(Qp (Tryz.func5.symm.trans H)).symm
   exact⟨by kernel_rfl,fun j t I=>by
    rw[Tryz.params5]at I
    have O:t∈[24]:=by simpa using Array.mem_of_getElem? I
    have hall:([24].all fun u=> !Tryz.prog.wantsStandIn u)=true:=by kernel_rfl
    exact(show Tryz.prog.wantsStandIn t=false by simpa using Qz.1 hall t O)⟩)
  (by kernel_rfl)
#print axioms proved
end Go.Proofs.YtlbnpmfggfbdoaaGreatDoor.pathsStepsDone
end
