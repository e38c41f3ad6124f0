/- Functions on data, what they tell, and that the code computes them. -/
import Derived.Test.YtlbnpmfggfbdoaaGreatDoorL6
import Derived.Test.YtlbnpmfggfbdoaaGreatDoorL2
set_option linter.unusedVariables false
set_option linter.unusedSimpArgs false
set_option synthInstance.maxSize 1000000
set_option synthInstance.maxHeartbeats 400000
set_option linter.unusedSectionVars false
section
namespace Go.Proofs.YtlbnpmfggfbdoaaGreatDoor
open Go.RowKit Go.Graph
inductive Rch {α:Type} (R:α→α→Prop) (a:α):α→Prop
 |one {b:α} (h:R a b):Rch R a b
 |step {b c:α} (h:Rch R a b) (h2:R b c):Rch R a c
theorem Qea (g:List Nd)(d:List Int)(id:Int): ∀(k:Nat) (l:List Int) (p:Pl) (v:Int),(p,v)∈insS g d id k l→p.1=id∧(k:Int)≤p.2∧p.2<(k:Int)+l.length
 |_,[],_,_,h=>by cases h
 |k,z::r,p,v,h=>by
  unfold insS at h
  rw[Qh]
  rcases Qk.1 h with h|h
  ·injection h with H I;subst H;refine⟨rfl,Xa _,?_⟩;simp only[];omega
  ·have:=Qea g d id (k+1) r p v h;omega
theorem Qex (g:List Nd)(d:List Int)(id:Int): ∀(k:Nat) (l:List Int),((insS g d id k l).map (·.1)).Nodup
 |_,[]=>X7
 |k,z::r=>by
  unfold insS
  rw[Q3,Wp]
  refine⟨fun h=>?_,Qex g d id (k+1) r⟩
  obtain⟨⟨p,v⟩,I,H⟩:=Qv.1 h
  have:=Qea g d id (k+1) r p v I
  simp only[]at H
  rw[H]at this;simp only[]at this;omega
theorem Qfj {g:List Nd}(d:List Int): ∀(k:Nat) (l:List Nd) (sp:Sp),sp∈spotsF g d k l→∃n∈l,n.1=sp.1.1
 |_,[],_,h=>by cases h
 |k,n::r,sp,h=>by
  unfold spotsF at h
  rcases Qn.1 h with h|h
  ·exact⟨n,Qf ..,(Qea g d n.1 0 _ sp.1 sp.2 h).1.symm⟩
  ·rcases Qn.1 h with h|h
   ·unfold outS at h
    split at h
    ·rw[Qj]at h;subst h;exact⟨n,Qf ..,rfl⟩
    ·cases h
   ·obtain⟨m,H,I⟩:=Qfj d (k+1) r sp h
    exact⟨m,Qe _ H,I⟩
theorem Qdc {g:List Nd}(d:List Int): ∀(k:Nat) (l:List Nd),l.Pairwise (fun a b=>a.1<b.1)→(∀n∈l,n.2.2.1.length≤2)→((spotsF g d k l).map (·.1)).Nodup
 |_,[],_,_=>X7
 |k,n::r,hp,hl=>by
  rw[W5]at hp
  have h2:=hl n (Qf ..)
  unfold spotsF
  rw[Yg,W9,Yg,W9]
  have hrest: ∀p∈(spotsF g d (k+1) r).map (·.1),p.1≠n.1:=fun p H e=>by
   obtain⟨sp,O,rfl⟩:=Qv.1 H
   obtain⟨m,I,h4⟩:=Qfj d (k+1) r sp O
   have:=hp.1 m I;omega
  have hout: ∀p∈(outS n (iget d (k:Int))).map (·.1),p=(n.1,2):=fun p H=>by
   unfold outS at H
   split at H
   ·simpa using H
   ·cases H
  have W: ∀p∈(insS g d n.1 0 n.2.2.1).map (·.1),p.1=n.1∧p.2<2:=fun p H=>by
   obtain⟨⟨q,v⟩,O,rfl⟩:=Qv.1 H
   have:=Qea g d n.1 0 _ q v O
   simp only[];omega
  refine⟨Qex g d n.1 0 _,⟨?_,Qdc d (k+1) r hp.2 (fun x hx=>hl x (Qe _ hx)),?_⟩,?_⟩
  ·unfold outS;split<;>simp
  ·intro a ha b J e
   have I:=hout a ha
   subst e
   exact hrest a J (by rw[I])
  ·intro a ha b J e
   subst e
   have I:=W a ha
   rcases Qn.1 J with J|J
   ·have:=hout a J;rw[this]at I;simp only[]at I;omega
   ·exact hrest a J I.1
theorem useN_mem (id nd:Int): ∀(k:Nat) (l:List Int) (u:Pl),u∈useN id nd k l→u.1=nd∧∃j:Nat,u.2=(k:Int)+j∧j<l.length
 |_,[],u,h=>by cases h
 |k,z::r,u,h=>by
  unfold useN at h
  have hrec:u∈useN id nd (k+1) r→u.1=nd∧∃j:Nat,u.2=(k:Int)+j∧j<(z::r).length:=fun h=>by
   obtain⟨H,j,I,J⟩:=useN_mem id nd (k+1) r u h
   exact⟨H,j+1,by omega,by rw[Qh];omega⟩
  split at h
  ·rcases Qk.1 h with rfl|h
   ·exact⟨rfl,0,by simp,by rw[Qh];omega⟩
   ·exact hrec h
  ·exact hrec h
theorem insS_get (g:List Nd)(d:List Int)(id:Int): ∀(k:Nat) (l:List Int) (j:Nat),j<l.length→∃v,((id,(k:Int)+j),v)∈insS g d id k l
 |_,[],j,h=>by simp at h
 |k,z::r,j,h=>by
  unfold insS
  cases j with
  |zero=>exact⟨iget d (idx g z),by simp⟩
  |succ j=>
   rw[Qh]at h
   obtain⟨v,H⟩:=insS_get g d id (k+1) r j (by omega)
   refine⟨v,Qe _ ?_⟩
   have e:(k:Int)+((j+1:Nat):Int)=((k+1:Nat):Int)+(j:Int):=by omega
   rw[e];exact H
theorem Qbb {g:List Nd}(d:List Int): ∀(k:Nat) (l:List Nd) (n:Nd),n∈l→∀sp∈insS g d n.1 0 n.2.2.1,sp∈spotsF g d k l
 |_,[],_,h,_,_=>by cases h
 |k,m::r,n,h,sp,H=>by
  unfold spotsF
  rcases Qk.1 h with rfl|h
  ·exact Q6 _ H
  ·exact Q9 _ (Q9 _ (Qbb d (k+1) r n h sp H))
theorem Qev {g:List Nd}(d:List Int): ∀(k:Nat) (l:List Nd) (n:Nd),n∈l→n.2.1≠15→∃v,((n.1,2),v)∈spotsF g d k l
 |_,[],_,h,_=>by cases h
 |k,m::r,n,h,H=>by
  unfold spotsF
  rcases Qk.1 h with rfl|h
  ·exact⟨iget d (k:Int),Q9 _ (Q6 _ (by unfold outS;rw[if_pos H];simp))⟩
  ·obtain⟨v,I⟩:=Qev d (k+1) r n h H
   exact⟨v,Q9 _ (Q9 _ I)⟩
theorem Qid (id:Int): ∀(l:List Nd) (u:Pl),u∈Qat id l→∃n∈l,u.1=n.1∧∃j:Nat,u.2=(j:Int)∧j<n.2.2.1.length
 | [],u,h=>by cases h
 |n::r,u,h=>by
  unfold Qat at h
  rcases Qn.1 h with h|h
  ·obtain⟨H,j,I,J⟩:=useN_mem id n.1 0 _ u h
   exact⟨n,Qf ..,H,j,by omega,J⟩
  ·obtain⟨m,H,I⟩:=Qid id r u h
   exact⟨m,Qe _ H,I⟩
theorem inE_mem (g:List Nd)(d:List Int)(n:Nd): ∀(k:Nat) (l:List Int) (e:Ed),e∈inE g d n k l→e.1.1=n.1∧(k:Int)≤e.1.2∧e.1.2<(k:Int)+l.length∧e.2.1=(n.1,2)
 |_,[],_,h=>by cases h
 |k,z::r,e,h=>by
  unfold inE at h
  rw[Qh]
  rcases Qk.1 h with rfl|h
  ·refine⟨rfl,Xa _,?_,rfl⟩;simp only[];omega
  ·have:=inE_mem g d n (k+1) r e h
   refine⟨this.1,by omega,by omega,this.2.2.2⟩
theorem Qbm {g:List Nd}(d:List Int): ∀(k:Nat) (l:List Nd) (e:Ed),e∈edgesF g d k l→∃n∈l,e.1.1=n.1∧((n.2.1≠15∧e.2.1=(n.1,2)∧0≤e.1.2∧e.1.2<n.2.2.1.length)∨(e.1.2=2∧∃m∈g,e.2.1.1=m.1∧∃j:Nat,e.2.1.2=(j:Int)∧j<m.2.2.1.length))
 |_,[],_,h=>by cases h
 |k,n::r,e,h=>by
  unfold edgesF at h
  have hrec:e∈edgesF g d (k+1) r→∃m∈n::r,e.1.1=m.1∧((m.2.1≠15∧e.2.1=(m.1,2)∧0≤e.1.2∧e.1.2<m.2.2.1.length)∨(e.1.2=2∧∃q∈g,e.2.1.1=q.1∧∃j:Nat,e.2.1.2=(j:Int)∧j<q.2.2.1.length)):=fun h=>by
   obtain⟨m,H,I⟩:=Qbm d (k+1) r e h
   exact⟨m,Qe _ H,I⟩
  split at h
  ·exact hrec h
  ·rename_i J
   rcases Qn.1 h with h|h
   ·obtain⟨H,I,h3,O⟩:=inE_mem g d n 0 _ e h
    exact⟨n,Qf ..,H,.inl ⟨J,O,by omega,by omega⟩⟩
   ·rcases Qn.1 h with h|h
    ·unfold outE at h
     obtain⟨u,W,rfl⟩:=Qv.1 h
     obtain⟨m,H,I⟩:=Qid n.1 g u W
     exact⟨n,Qf ..,rfl,.inr ⟨rfl,m,H,I⟩⟩
    ·exact hrec h
theorem edge_to {g:List Nd}(d:List Int){e:Ed}(I:e∈edges g d): ∃v,(e.2.1,v)∈spots g d:=by
 obtain⟨n,J,h1,h|h⟩:=Qbm d 0 g e I
 ·obtain⟨v,H⟩:=Qev d 0 g n J h.1
  exact⟨v,by rw[h.2.1];exact H⟩
 ·obtain⟨_,m,O,W,j,h3,h4⟩:=h
  obtain⟨v,H⟩:=insS_get g d m.1 0 m.2.2.1 j h4
  refine⟨v,Qbb d 0 g m O _ ?_⟩
  have e1:e.2.1=(m.1,((0:Nat):Int)+(j:Int)):=Jv W (by rw[h3];simp)
  rw[e1];exact H
theorem Qcg {g:List Nd}(d:List Int){e:Ed}(H:e∈edges g d): ∃n∈g,e.1.1=n.1:=by
 obtain⟨n,I,J,_⟩:=Qbm d 0 g e H
 exact⟨n,I,J⟩
theorem edge_out {g:List Nd}(d:List Int)(H:Own g){e:Ed}(I:e∈edges g d)(h2:e.2.1.2=2):e.1.1=e.2.1.1∧e.1.2≠2:=by
 obtain⟨n,J,O,h|h⟩:=Qbm d 0 g e I
 ·have:=in2 H J
  exact⟨by rw[O,h.2.1],by omega⟩
 ·obtain⟨_,m,W,_,j,h3,h4⟩:=h
  have:=in2 H W
  omega
theorem atS_mem {p:Pl}: ∀{l:List Sp} {v:Int},(l.map (·.1)).Nodup→(p,v)∈l→atS p l=v
 | [],_,_,h=>by cases h
 |x::r,v,H,h=>by
  rw[Q3,Wp]at H
  unfold atS
  rcases Qk.1 h with rfl|h
  ·rw[if_pos rfl]
  ·rw[if_neg (fun e=>H.1 (by rw[e];exact List.mem_map_of_mem (f:=(·.1)) h))]
   exact atS_mem H.2 h
theorem R_at_eq (l:List Sp)(p:Pl)(J:l.length≤100000):F.eU l p=some (atS p l):=
 A.lp0 l (fun f y=>F.dW l p f y) (fun _ t=>some (atS p t))
  (fun f=>by rw[F.dW,if_neg (by omega)];rfl)
  (fun f k x H hk I=>by
   rw[F.dW,if_pos (by omega),A.ixn H,Qb,Qb,atS]
   by_cases h:x.1=p
   ·rw[if_pos (show x.1=p from h),if_pos h]
   ·rw[if_neg (show ¬x.1=p from h),if_neg h,A.gd1 (A.r64n (by omega)),I])
  (by have:=Qab;omega)
theorem R_on_eq (l:List Pl)(p:Pl)(O:l.length≤100000):F.eM l p=some (decide (p∈l)):=
 A.lp0 l (fun f y=>F.dV l p f y) (fun _ t=>some (decide (p∈t)))
  (fun f=>by rw[F.dV,if_neg (by omega)];simp)
  (fun f k x I hk J=>by
   rw[F.dV,if_pos (by omega),A.ixn I,Qb]
   by_cases h:x=p
   ·rw[if_pos (show x=p from h)];simp[h]
   ·rw[if_neg (show ¬x=p from h),A.gd1 (A.r64n (by omega)),J]
    congr 1
    exact decide_eq_decide.2 ⟨fun H=>Qe _ H,fun H=>(Qk.1 H).resolve_left fun e=>h e.symm⟩)
  (by have:=Qab;omega)
def Qbp (g:List Nd)(S:List Sp)(dd:Int)(e:Ed):Bool:=decide (dd≤atS e.2.1 S)&&(decide ((find g e.1.1).1.2.1≠14)||decide ((find g e.1.1).1.2.2.2.2.2.2≠dd)||decide (e.1.2=2))
theorem R_open_eq (g:List Nd)(S:List Sp)(e:Ed)(dd:Int)(J:Few g)(H:Inc g)(O:S.length≤100000)(W: ∃n∈g,e.1.1=n.1):F.ew g S e dd=some (Qbp g S dd e):=by
 obtain⟨n,hn,h1⟩:=W
 obtain⟨j,I⟩:=Wr.1 hn
 unfold F.ew Qbp
 rw[h1,Find_eq g J H I,Qb,show F.eU S e.2.1=_ from R_at_eq S e.2.1 O,Qb,Qds H I]
 by_cases h:dd≤atS e.2.1 S
 ·rw[if_pos h,decide_eq_true h,Xi]
  congr 1
 ·rw[if_neg h,decide_eq_false h,X0]
def addR (g:List Nd)(S:List Sp)(dd:Int)(cur:Pl):List Ed→List Pl→List Pl
 | [],r=>r
 |e::t,r=>addR g S dd cur t (if e.1=cur∧Qbp g S dd e=true∧e.2.1∉r then r++[e.2.1]else r)
theorem round_l3 (g:List Nd)(S:List Sp)(E:List Ed)(from_:Sp)(H:List Pl→List Pl→Int→Option Bool)(y:Nat)(cur:Pl)(r:List Pl)(hb:Few g)(hi:Inc g)(hS:S.length≤100000)(hE:E.length≤5000)(hf: ∀e∈E,∃n∈g,e.1.1=n.1)(hc:(from_.1::r)[y]?=some cur)(hy:y≤10000)(hr:r.length≤9000)(hall: ∀k,(addR g S from_.2 cur (E.take k) r).length≤9000):
  F.a7 H g S E from_ (y:Int) A.FU r (from_.1::r) 0=H (addR g S from_.2 cur E r) (from_.1::addR g S from_.2 cur E r) ((y:Int)+1):=
 A.lp E (fun f (s:List Pl×List Pl) i=>F.a7 H g S E from_ (y:Int) f s.1 s.2 i) (fun k t s=>H (addR g S from_.2 cur t s.1) (from_.1::addR g S from_.2 cur t s.1) ((y:Int)+1)) (fun k s=>s.2=from_.1::s.1∧s.2[y]?=some cur∧s.1=addR g S from_.2 cur (E.take k) r)
  (fun f s hs=>by
   rw[F.a7,if_neg (by omega),A.gd1 (A.r64n (by omega)),hs.1];rfl)
  (fun f s k e O hk hs ih=>by
   obtain⟨q,r'⟩:=s
   obtain⟨W,I,h3⟩:=hs
   simp only[]at W I h3
   have hlen:q.length≤9000:=by rw[h3];exact hall _
   have hsnoc: ∀(t:List Ed) (e:Ed) (r:List Pl),addR g S from_.2 cur (t++[e]) r=(if e.1=cur∧Qbp g S from_.2 e=true∧e.2.1∉addR g S from_.2 cur t r then addR g S from_.2 cur t r++[e.2.1]else addR g S from_.2 cur t r):=by
    intro t
    induction t with
    |nil=>intro e r;rfl
    |cons x t iht=>intro e r;rw[Xb,addR,addR];exact iht e _
   have hnext:addR g S from_.2 cur (E.take (k+1)) r=if e.1=cur∧Qbp g S from_.2 e=true∧e.2.1∉q then q++[e.2.1]else q:=by
    rw[Qcv O,hsnoc,←h3]
   have hopen:=R_open_eq g S e from_.2 hb hi hS (hf e (Qg O))
   rw[F.a7,if_pos (by omega),A.ixn O,Qb,A.ixn I,Qb,addR]
   simp only[F.dk,F.dX,A.ixn O,Qb,A.gd1 (A.r64n (n:=k) (by omega)),Qz,if_false]
   have stay: ¬(e.1=cur∧Qbp g S from_.2 e=true∧e.2.1∉q)→F.a7 H g S E from_ (y:Int) f q r' ((k:Int)+1)=H (addR g S from_.2 cur (E.drop (k+1)) (if e.1=cur∧Qbp g S from_.2 e=true∧e.2.1∉q then q++[e.2.1]else q)) (from_.1::addR g S from_.2 cur (E.drop (k+1)) (if e.1=cur∧Qbp g S from_.2 e=true∧e.2.1∉q then q++[e.2.1]else q)) ((y:Int)+1):=fun hn=>by
    rw[if_neg hn]at hnext ⊢
    exact ih (q,r') ⟨W,I,hnext.symm⟩
   by_cases hcur:e.1=cur
   ·rw[if_pos (show e.1=cur from hcur),show F.ew g S e from_.2=_ from hopen,Qb]
    by_cases ho:Qbp g S from_.2 e=true
    ·rw[if_pos ho,show F.eM q e.2.1=_ from R_on_eq q e.2.1 (by omega),Qb]
     by_cases hm:e.2.1∈q
     ·rw[decide_eq_true hm,Xh,if_neg Wd]
      exact stay fun h=>h.2.2 hm
     ·have J:e.1=cur∧Qbp g S from_.2 e=true∧e.2.1∉q:=⟨hcur,ho,hm⟩
      rw[decide_eq_false hm,Yk,if_pos rfl,A.gd1 (by simp only[Qh,Qx];omega),A.gd1 (by rw[W];simp only[Qh,Qx];omega),if_pos J]
      rw[if_pos J]at hnext
      refine ih (q++[e.2.1],r'++[e.2.1]) ⟨?_,?_,hnext.symm⟩
      ·simp only[W,Xb]
      ·simp only[]
       rw[Q8 (Qc.1 I).1];exact I
    ·rw[if_neg ho]
     exact stay fun h=>ho h.2.1
   ·rw[if_neg (show ¬e.1=cur from hcur)]
    exact stay fun h=>hcur h.1)
  (by have:=Qab;omega) (r,from_.1::r) ⟨rfl,hc,rfl⟩
def okE (g:List Nd)(S:List Sp)(E:List Ed)(dd:Int)(p q:Pl):Prop:=∃e∈E,e.1=p∧e.2.1=q∧Qbp g S dd e=true
theorem Qbz (g:List Nd)(S:List Sp)(dd:Int)(cur:Pl): ∀(t:List Ed) (r:List Pl),∃x,addR g S dd cur t r=r++x∧(∀p∈x,∃e∈t,e.1=cur∧e.2.1=p∧Qbp g S dd e=true)∧(r.Nodup→(r++x).Nodup)∧(∀e∈t,e.1=cur→Qbp g S dd e=true→e.2.1∈r++x)
 | [],r=>⟨[],by rw[addR,Wm],by simp,by simp,by simp⟩
 |e::t,r=>by
  rw[addR]
  by_cases h:e.1=cur∧Qbp g S dd e=true∧e.2.1∉r
  ·rw[if_pos h]
   obtain⟨x,J,O,W,h4⟩:=Qbz g S dd cur t (r++[e.2.1])
   refine⟨e.2.1::x,by rw[J];simp,fun p hp=>?_,fun hn=>?_,fun I H a b=>?_⟩
   ·rcases Qk.1 hp with rfl|hp
    ·exact⟨e,Qf ..,h.1,rfl,h.2.1⟩
    ·obtain⟨I,a,b⟩:=O p hp;exact⟨I,Qe _ a,b⟩
   ·have:=W (W9.2 ⟨hn,by simp,fun a ha b hb=>by rw[Qj]at hb;subst hb;intro I;subst I;exact h.2.2 ha⟩)
    simpa using this
   ·rcases Qk.1 H with rfl|H
    ·simp
    ·have:=h4 I H a b;simpa using this
  ·rw[if_neg h]
   obtain⟨x,J,O,W,h4⟩:=Qbz g S dd cur t r
   refine⟨x,J,fun p hp=>?_,W,fun I H a b=>?_⟩
   ·obtain⟨I,a,b⟩:=O p hp;exact⟨I,Qe _ a,b⟩
   ·rcases Qk.1 H with rfl|H
    ·refine Q6 _ ?_
     by_cases hm:I.2.1∈r
     ·exact hm
     ·exact absurd ⟨a,b,hm⟩ h
    ·exact h4 I H a b
theorem nodup_len {α:Type}[DecidableEq α]: ∀{l m:List α},l.Nodup→(∀x∈l,x∈m)→l.length≤m.length
 | [],m,_,_=>Xn _
 |a::l,m,H,h=>by
  rw[Wp]at H
  have I:=h a (Qf ..)
  have:=nodup_len (l:=l) (m:=m.erase a) H.2 fun x J=>(List.mem_erase_of_ne (fun e=>by subst e;exact H.1 J)).2 (h x (Qe _ J))
  rw[Y4 I]at this
  have hpos:0<m.length:=Y6 I
  rw[Qh];omega
theorem round_eq (g:List Nd)(S:List Sp)(E:List Ed)(from_:Sp)(hb:Few g)(hi:Inc g)(hS:S.length≤100000)(hE:E.length≤4000)(hf: ∀e∈E,∃n∈g,e.1.1=n.1):
  ∃b,F.em g S E from_=some b∧(b=true↔Rch (okE g S E from_.2) from_.1 from_.1):=by
 have sub: ∀(r:List Pl),r.Nodup→(∀p∈r,∃e∈E,e.2.1=p)→r.length≤4000:=fun r I h=>by
  have:=nodup_len (m:=E.map fun e=>e.2.1) I fun p hp=>by obtain⟨e,h1,W⟩:=h p hp;exact Qv.2 ⟨e,h1,W⟩
  rw[Qw]at this;omega
 have main: ∀(n f y:Nat) (r:List Pl),y+n=4002→n<f→r.Nodup→y≤1+r.length→(∀p∈r,∃e∈E,e.2.1=p)→(∀p∈r,Rch (okE g S E from_.2) from_.1 p)→(∀i p q,i<y→(from_.1::r)[i]?=some p→okE g S E from_.2 p q→q∈r)→
   ∃b,F.b8 g S E from_ f r (from_.1::r) (y:Int)=some b∧(b=true↔Rch (okE g S E from_.2) from_.1 from_.1):=by
  intro n
  induction n with
  |zero=>
   intro f y r hy hf' I hyl hsub _ _
   have:=sub r I hsub
   omega
  |succ n ih=>
   intro f y r hy hf' I hyl hsub hreach hclosed
   obtain⟨f,rfl⟩: ∃f',f=f'+1:=⟨f-1,by omega⟩
   have hl:=sub r I hsub
   rw[F.b8]
   by_cases h:y<1+r.length
   ·obtain⟨cur,hcur⟩: ∃c,(from_.1::r)[y]?=some c:=⟨_,Qd (by rw[Qh];omega)⟩
    obtain⟨x,h1,W,h3,h4⟩:=Qbz g S from_.2 cur E r
    have hsub2: ∀p∈r++x,∃e∈E,e.2.1=p:=fun p hp=>by
     rcases Qn.1 hp with hp|hp
     ·exact hsub p hp
     ·obtain⟨e,a,_,b,_⟩:=W p hp;exact⟨e,a,b⟩
    have hall: ∀k,(addR g S from_.2 cur (E.take k) r).length≤9000:=fun k=>by
     obtain⟨x',a,b,c,_⟩:=Qbz g S from_.2 cur (E.take k) r
     have:=sub (r++x') (c I) fun p hp=>by
      rcases Qn.1 hp with hp|hp
      ·exact hsub p hp
      ·obtain⟨e,a2,_,b2,_⟩:=b p hp;exact⟨e,Yc a2,b2⟩
     rw[a];omega
    rw[if_pos (by rw[Qh];omega),round_l3 g S E from_ _ y cur r hb hi hS (by omega) hf hcur (by omega) (by omega) hall,h1]
    have e1:(y:Int)+1=((y+1:Nat):Int):=by omega
    rw[e1]
    have H:cur=from_.1∨Rch (okE g S E from_.2) from_.1 cur:=by
     cases y with
     |zero=>injection hcur with hcur;exact .inl hcur.symm
     |succ y=>exact .inr (hreach cur (Qg (by simpa using hcur)))
    refine ih f (y+1) (r++x) (by omega) (by omega) (h3 I) (by rw[Qm];omega) hsub2 (fun p hp=>?_) fun i p q hi2 hp J=>?_
    ·rcases Qn.1 hp with hp|hp
     ·exact hreach p hp
     ·obtain⟨e,a,b,c,d2⟩:=W p hp
      rcases H with H|H
      ·exact .one ⟨e,a,b.trans H,c,d2⟩
      ·exact .step H ⟨e,a,b,c,d2⟩
    ·rw[←Xb,Q8 (by rw[Qh];omega)]at hp
     rcases Y5 i y with h5|h5
     ·exact Q6 _ (hclosed i p q h5 hp J)
     ·obtain rfl:i=y:=by omega
      rw[hcur]at hp;injection hp with hp;subst hp
      obtain⟨e,a,b,c,d2⟩:=J
      rw[←c];exact h4 e a b d2
   ·rw[if_neg (by rw[Qh];omega),show F.eM r from_.1=_ from R_on_eq r from_.1 (by omega),Qb]
    refine⟨_,rfl,?_⟩
    rw[decide_eq_true_eq]
    refine⟨hreach _,fun hr=>?_⟩
    have hin: ∀q,Rch (okE g S E from_.2) from_.1 q→q∈r:=fun q hq=>by
     induction hq with
     |one h6=>exact hclosed 0 _ _ (by omega) rfl h6
     |step h6 h7 ih2=>
      obtain⟨i,O⟩:=Wr.1 ih2
      have:=(Qc.1 O).1
      exact hclosed (i+1) _ _ (by omega) (by simpa using O) h7
    exact hin _ hr
 exact main 4002 A.FU 0 [] (by omega) (by have:=Qab;omega) X7 (by simp) (by simp) (by simp) (fun i p q h=>by omega)
abbrev Seen:=List (Pl×Bool)
def seen (m:Seen)(v:Pl):Prop:=Z.mget false m v=true
def addP (deep:List Sp)(from_:Pl)(dd:Int):List Pl→Seen→List Pl→Option (Seen×List Pl)
 | [],m,xs=>some (m,xs)
 |t::r,m,xs=>if t=from_ then none else if dd≤Z.mget 0 deep t∧Z.mget false m t=false then addP deep from_ dd r (Z.mins m t true) (xs++[t])else addP deep from_ dd r m xs
theorem reaches_l3 (deep:List Sp)(from_:Pl)(dd:Int)(I:Seen→List Pl→Option Bool)(tos:List Pl)(m:Seen)(xs:List Pl)(hl:tos.length≤4000)(hx:xs.length≤10000):
  F.ap I deep from_ dd tos A.FU m xs 0=match addP deep from_ dd tos m xs with
   |none=>some true
   |some s=>I s.1 s.2:=
 A.lp tos (fun f (s:Seen×List Pl) i=>F.ap I deep from_ dd tos f s.1 s.2 i) (fun _ t s=>match addP deep from_ dd t s.1 s.2 with
   |none=>some true
   |some s=>I s.1 s.2) (fun k s=>s.2.length≤10000+k)
  (fun f s hs=>by rw[F.ap,if_neg (by omega),addP])
  (fun f s k t ht hk hs W=>by
   rw[F.ap,if_pos (by omega),A.ixn ht,Qb,addP,A.lt]
   simp only[F.bR,F.bQ,A.lt,A.gd1 (A.r64n (n:=k) (by omega)),Qz,if_false]
   by_cases h:t=from_
   ·rw[if_pos (show t=from_ from h),if_pos h]
   ·rw[if_neg (show ¬t=from_ from h),if_neg h]
    by_cases J:dd≤Z.mget 0 deep t
    ·rw[if_pos (show dd≤Z.mget 0 deep t from J)]
     by_cases O:Z.mget false s.1 t=false
     ·have hc:dd≤Z.mget 0 deep t∧Z.mget false s.1 t=false:=⟨J,O⟩
      rw[if_pos hc,show Z.mget false s.1 t=false from O,Yk,if_pos rfl,A.gd1 (by simp only[Qh,Qx];omega)]
      exact W (Z.mins s.1 t true,s.2++[t]) (by simp only[Qm,Qh,Qx];omega)
     ·have hm2:Z.mget false s.1 t=true:=by cases H:Z.mget false s.1 t with
       |true=>rfl
       |false=>exact absurd H O
      have hc: ¬(dd≤Z.mget 0 deep t∧Z.mget false s.1 t=false):=fun H=>O H.2
      rw[if_neg hc,show Z.mget false s.1 t=true from hm2,Xh,if_neg Wd]
      exact W s (by omega)
    ·rw[if_neg (show ¬dd≤Z.mget 0 deep t from J),if_neg (fun H=>J H.1)]
     exact W s (by omega))
  (by have:=Qab;omega) (m,xs) (by simp only[];omega)
def un (T:List Pl)(m:Seen):Nat:=(T.filter fun t=> !(Z.mget false m t)).length
theorem un_ins {T:List Pl}{m:Seen}{t:Pl}(H:t∈T)(I:Z.mget false m t=false):un T (Z.mins m t true)+1≤un T m:=by
 unfold un
 have mono: ∀(l:List Pl),(l.filter fun t'=> !(Z.mget false (Z.mins m t true) t')).length≤(l.filter fun t'=> !(Z.mget false m t')).length:=by
  intro l
  induction l with
  |nil=>exact Q0 _
  |cons a l J=>
   rw[Xl,Xl,Ut]
   by_cases e:a=t
   ·rw[if_pos e,e,I];simp only[Xh,Qz,if_false,Yk,if_true,Qh];omega
   ·rw[if_neg e];split<;>(try simp only[Qh])<;>omega
 induction T with
 |nil=>cases H
 |cons a l J=>
  rw[Xl,Xl,Ut]
  have:=mono l
  by_cases e:a=t
  ·rw[if_pos e,e,I];simp only[Xh,Qz,if_false,Yk,if_true,Qh];omega
  ·have:=J ((Qk.1 H).resolve_left fun h=>e h.symm)
   rw[if_neg e];split<;>(try simp only[Qh])<;>omega
theorem Qej {deep:List Sp}{from_:Pl}{dd:Int}: ∀{tos:List Pl} {m:Seen} {xs:List Pl},addP deep from_ dd tos m xs=none→from_∈tos
 | [],_,_,h=>by cases h
 |t::r,m,xs,h=>by
  rw[addP]at h
  by_cases e:t=from_
  ·rw[e];exact Qf ..
  ·rw[if_neg e]at h
   split at h
   ·exact Qe _ (Qej h)
   ·exact Qe _ (Qej h)
theorem Qcd {m:Seen}{t v:Pl}:seen (Z.mins m t true) v↔v=t∨seen m v:=by
 unfold seen
 rw[Ut]
 by_cases e:v=t
 ·rw[if_pos e];simp[e]
 ·rw[if_neg e];simp[e]
theorem addP_some {deep:List Sp}{from_:Pl}{dd:Int}{T:List Pl}: ∀{tos:List Pl} {m m':Seen} {xs xs':List Pl},(∀t∈tos,t∈T)→addP deep from_ dd tos m xs=some (m',xs')→
  from_∉tos∧(∀v,seen m v→seen m' v)∧(∀v,seen m' v→seen m v∨(v∈tos∧dd≤Z.mget 0 deep v))∧(∀t∈tos,dd≤Z.mget 0 deep t→seen m' t)∧(∀v∈xs,v∈xs')∧(∀v∈xs',v∈xs∨seen m' v)∧(∀v,seen m' v→seen m v∨v∈xs')∧xs'.length+un T m'≤xs.length+un T m
 | [],m,m',xs,xs',_,h=>by
  injection h with h;injection h with h1 H;subst h1;subst H
  exact⟨by simp,fun v h=>h,fun v h=>.inl h,by simp,fun v h=>h,fun v h=>.inl h,fun v h=>.inl h,Q0 _⟩
 |t::r,m,m',xs,xs',hT,h=>by
  rw[addP]at h
  by_cases e:t=from_
  ·rw[if_pos e]at h;cases h
  ·rw[if_neg e]at h
   by_cases hc:dd≤Z.mget 0 deep t∧Z.mget false m t=false
   ·rw[if_pos hc]at h
    obtain⟨a1,a2,a3,a4,a5,a6,a7,a8⟩:=addP_some (fun x I=>hT x (Qe _ I)) h
    have hun:=un_ins (hT t (Qf ..)) hc.2
    refine⟨fun H=>(Qk.1 H).elim (fun W=>e W.symm) a1,fun v J=>a2 v (Qcd.2 (.inr J)),fun v J=>?_,fun x I O=>?_,fun v J=>a5 v (Q6 _ J),fun v J=>?_,fun v J=>?_,by rw[Qm]at a8;simp only[Qh,Qx]at a8;omega⟩
    ·rcases a3 v J with H|H
     ·rcases Qcd.1 H with rfl|W
      ·exact .inr ⟨Qf ..,hc.1⟩
      ·exact .inl W
     ·exact .inr ⟨Qe _ H.1,H.2⟩
    ·rcases Qk.1 I with rfl|I
     ·exact a2 _ (Qcd.2 (.inl rfl))
     ·exact a4 x I O
    ·rcases a6 v J with H|H
     ·rcases Qn.1 H with H|H
      ·exact .inl H
      ·rw[Qj]at H;subst H;exact .inr (a2 _ (Qcd.2 (.inl rfl)))
     ·exact .inr H
    ·rcases a7 v J with H|H
     ·rcases Qcd.1 H with rfl|W
      ·exact .inr (a5 _ (Q9 _ (Qj.2 rfl)))
      ·exact .inl W
     ·exact .inr H
   ·rw[if_neg hc]at h
    obtain⟨a1,a2,a3,a4,a5,a6,a7,a8⟩:=addP_some (fun x I=>hT x (Qe _ I)) h
    refine⟨fun H=>(Qk.1 H).elim (fun W=>e W.symm) a1,a2,fun v J=>?_,fun x I O=>?_,a5,a6,a7,a8⟩
    ·rcases a3 v J with H|H
     ·exact .inl H
     ·exact .inr ⟨Qe _ H.1,H.2⟩
    ·rcases Qk.1 I with rfl|I
     ·refine a2 _ ?_
      unfold seen
      cases H:Z.mget false m x with
      |true=>rfl
      |false=>exact absurd ⟨O,H⟩ hc
     ·exact a4 x I O
def blk (g:List Nd)(dd:Int)(p:Pl):Prop:=(Z.mget ((0,0,[],(0,0,(ByteArray.mk #[])),(ByteArray.mk #[]),0,0):Nd) (Qae g) p.1).2.1=14∧(Z.mget ((0,0,[],(0,0,(ByteArray.mk #[])),(ByteArray.mk #[]),0,0):Nd) (Qae g) p.1).2.2.2.2.2.2=dd
def okP (g:List Nd)(steps:List (Pl×List Pl))(deep:List Sp)(dd:Int)(p q:Pl):Prop:=q∈Z.mget [] steps p∧¬blk g dd p∧dd≤Z.mget 0 deep q
theorem reaches_eq (g:List Nd)(a0:(List (Int×Nd))×(List Int)×(List (Int×Int)))(h0:a0.1=Qae g)(steps:List (Pl×List Pl))(deep:List Sp)(from_:Pl)(dd:Int)(T:List Pl)(hT:T.length≤4000)(hst: ∀p q,q∈Z.mget [] steps p→q∈T)(hsl: ∀p,(Z.mget [] steps p).length≤4000)(hfd:dd≤Z.mget 0 deep from_):
  ∃b,F.bn a0 steps deep from_ dd=some b∧(b=true↔Rch (okP g steps deep dd) from_ from_):=by
 have main: ∀(n f:Nat) (m:Seen) (xs:List Pl),xs.length+un T m≤n→n<f→xs.length≤9000→xs.length+un T m≤9000→(∀v,seen m v→Rch (okP g steps deep dd) from_ v)→(∀t∈xs,t=from_∨seen m t)→(∀v,v=from_∨seen m v→v∉xs→∀w,okP g steps deep dd v w→w≠from_∧seen m w)→
   ∃b,F.aq a0 steps deep from_ dd f m xs=some b∧(b=true↔Rch (okP g steps deep dd) from_ from_):=by
  intro n
  induction n with
  |zero=>
   intro f m xs hn hf hx900 _ i1 i2 W
   obtain⟨f,rfl⟩: ∃f',f=f'+1:=⟨f-1,by omega⟩
   have hx:xs=[]:=Wq (by omega)
   subst hx
   rw[F.aq,if_neg (by simp)]
   refine⟨false,rfl,fun h=>(by cases h),fun h=>?_⟩
   have hin: ∀q,Rch (okP g steps deep dd) from_ q→q≠from_∧seen m q:=fun q hq=>by
    induction hq with
    |one h6=>exact W from_ (.inl rfl) (by simp) _ h6
    |step h6 h7 ih2=>exact W _ (.inr ih2.2) (by simp) _ h7
   exact absurd rfl (hin _ h).1
  |succ n ih=>
   intro f m xs hn hf hx900 hu900 i1 i2 W
   obtain⟨f,rfl⟩: ∃f',f=f'+1:=⟨f-1,by omega⟩
   rw[F.aq]
   by_cases hne:xs=[]
   ·subst hne
    rw[if_neg (by simp)]
    refine⟨false,rfl,fun h=>(by cases h),fun h=>?_⟩
    have hin: ∀q,Rch (okP g steps deep dd) from_ q→q≠from_∧seen m q:=fun q hq=>by
     induction hq with
     |one h6=>exact W from_ (.inl rfl) (by simp) _ h6
     |step h6 h7 ih2=>exact W _ (.inr ih2.2) (by simp) _ h7
    exact absurd rfl (hin _ h).1
   ·obtain⟨ys,at_,rfl⟩: ∃ys a,xs=ys++[a]:=⟨xs.dropLast,xs.getLast hne,(List.dropLast_concat_getLast hne).symm⟩
    have hl:(ys++[at_]).length=ys.length+1:=by simp
    have e1:(((ys++[at_]).length:Int)-1)=(ys.length:Int):=by rw[hl];omega
    have hat:(ys++[at_])[ys.length]?=some at_:=by simp
    rw[if_pos (by omega),A.gd1 ⟨by omega,by omega⟩,e1,A.ixn hat,Qb,A.gd1 ⟨by omega,by omega⟩,A.gd1 ⟨by omega,by rw[Qq];omega⟩,A.lt,F.cy,e1,Qq,A.ba,h0]
    have htake:List.take ys.length (ys++[at_])=ys:=by simp
    rw[htake]
    have hatr:at_=from_∨seen m at_:=i2 at_ (by simp)
    by_cases hb:blk g dd at_
    ·rw[if_pos (show decide ((Z.mget ((0,0,[],(0,0,(ByteArray.mk #[])),(ByteArray.mk #[]),0,0):Nd) (Qae g) at_.1).2.1=14∧(Z.mget ((0,0,[],(0,0,(ByteArray.mk #[])),(ByteArray.mk #[]),0,0):Nd) (Qae g) at_.1).2.2.2.2.2.2=dd)=true from decide_eq_true hb)]
     refine ih f m ys (by omega) (by omega) (by omega) (by omega) i1 (fun t ht=>i2 t (Q6 _ ht)) fun v hv J w O=>?_
     by_cases e:v=at_
     ·subst e;exact absurd hb O.2.1
     ·exact W v hv (fun h=>by
       rcases Qn.1 h with h|h
       ·exact J h
       ·exact e (Qj.1 h)) w O
    ·rw[if_neg (show ¬decide ((Z.mget ((0,0,[],(0,0,(ByteArray.mk #[])),(ByteArray.mk #[]),0,0):Nd) (Qae g) at_.1).2.1=14∧(Z.mget ((0,0,[],(0,0,(ByteArray.mk #[])),(ByteArray.mk #[]),0,0):Nd) (Qae g) at_.1).2.2.2.2.2.2=dd)=true from fun h=>hb (by have h9:=of_decide_eq_true h;exact h9)),A.lt,show Z.mget [] steps at_=Z.mget [] steps at_ from rfl,reaches_l3 deep from_ dd _ _ m ys (hsl at_) (by omega)]
     cases hadd:addP deep from_ dd (Z.mget [] steps at_) m ys with
     |none=>
      have hfrom:=Qej hadd
      have H:okP g steps deep dd at_ from_:=⟨hfrom,hb,hfd⟩
      refine⟨true,rfl,fun _=>?_,fun _=>rfl⟩
      rcases hatr with h|h
      ·rw[h]at H;exact .one H
      ·exact .step (i1 at_ h) H
     |some s=>
      obtain⟨m',xs'⟩:=s
      obtain⟨a1,a2,a3,a4,a5,a6,a7,a8⟩:=addP_some (T:=T) (hst at_) hadd
      simp only[]
      refine ih f m' xs' (by omega) (by omega) (by omega) (by omega) (fun v hv=>?_) (fun t ht=>?_) fun v hv J w O=>?_
      ·rcases a3 v hv with h|h
       ·exact i1 v h
       ·have H:okP g steps deep dd at_ v:=⟨h.1,hb,h.2⟩
        rcases hatr with I|I
        ·rw[I]at H;exact .one H
        ·exact .step (i1 at_ I) H
      ·rcases a6 t ht with h|h
       ·rcases i2 t (Q6 _ h)with I|I
        ·exact .inl I
        ·exact .inr (a2 t I)
       ·exact .inr h
      ·have hv2:v=from_∨seen m v:=by
        rcases hv with h|h
        ·exact .inl h
        ·rcases a7 v h with I|I
         ·exact .inr I
         ·exact absurd I J
       by_cases e:v=at_
       ·subst e
        exact⟨fun h=>a1 (h▸O.1),a4 w O.1 O.2.2⟩
       ·obtain⟨h1,I⟩:=W v hv2 (fun h=>by
         rcases Qn.1 h with h|h
         ·exact J (a5 v h)
         ·exact e (Qj.1 h)) w O
        exact⟨h1,a2 w I⟩
 have hu:un T []≤T.length:=Xs _ _
 exact main (1+T.length) A.FU [] [from_] (by simp;omega) (by have:=Qab;omega) (by simp) (by simp;omega) (fun v h=>by cases h) (fun t ht=>.inl (Qj.1 ht)) (fun v hv hx w O=>by
  rcases hv with h|h
  ·exact absurd (Qj.2 h) hx
  ·cases h)
theorem mget_mem {p:Pl}: ∀{l:List Sp} {v:Int},(l.map (·.1)).Nodup→(p,v)∈l→Z.mget 0 l p=v
 | [],_,_,h=>by cases h
 |(a,w)::r,v,H,h=>by
  rw[Q3,Wp]at H
  unfold Z.mget
  rcases Qk.1 h with h|h
  ·injection h with I J;rw[if_pos I,J]
  ·rw[if_neg (fun e=>H.1 (by rw[←e];exact List.mem_map_of_mem (f:=(·.1)) h))]
   exact mget_mem H.2 h
theorem mhas_app {l:List Sp}{p:Pl}(h:p∉l.map (·.1)):Z.mhas l p=false:=by
 induction l with
 |nil=>rfl
 |cons a r H=>
  rw[Q3,Qk,not_or]at h
  obtain⟨q,v⟩:=a
  unfold Z.mhas
  rw[if_neg h.1];exact H h.2
def toOf (E:List Ed)(p:Pl):List Pl:=(E.filter fun e=>decide (e.1=p)).map fun e=>e.2.1
theorem turns_l2 (a0:(List (Int×Nd))×(List Int)×(List (Int×Int)))(S:List Sp)(E:List Ed)(W:E.length≤4000): ∃st,(∀p,Z.mget [] st p=toOf E p)∧F.aQ a0 S E A.FU [] 0=A.mrg (F.bk a0 S st) (some false) S:=by
 have main: ∀(n k f:Nat) (m:List (Pl×List Pl)),k+n=E.length→n<f→(∀p,Z.mget [] m p=toOf (E.take k) p)→∃st,(∀p,Z.mget [] st p=toOf E p)∧F.aQ a0 S E f m (k:Int)=A.mrg (F.bk a0 S st) (some false) S:=by
  intro n
  induction n with
  |zero=>
   intro k f m hk J H
   obtain⟨f,rfl⟩: ∃f',f=f'+1:=⟨f-1,by omega⟩
   rw[Ws (by omega)]at H
   exact⟨m,H,by rw[F.aQ,if_neg (by omega)]⟩
  |succ n O=>
   intro k f m hk J H
   obtain⟨f,rfl⟩: ∃f',f=f'+1:=⟨f-1,by omega⟩
   have I:E[k]?=some E[k]:=Qd (by omega)
   generalize E[k]=x at I
   have hlen:(Z.mget [] m x.1).length≤4000:=by
    rw[H];unfold toOf
    rw[Qw]
    have:=Xs (fun e:Ed=>decide (e.1=x.1)) (E.take k)
    rw[Qs]at this;omega
   rw[F.aQ,if_pos (by omega),A.ixn I,Qb,A.gd1 (by rw[show Z.mget [] m x.1=Z.mget [] m x.1 from rfl];simp only[Qh,Qx];omega),A.gd1 (A.r64n (by omega))]
   refine O (k+1) f _ (by omega) (by omega) fun p=>?_
   rw[show Z.mins m x.1 (Z.mget [] m x.1++[x.2.1])=Z.mins m x.1 (Z.mget [] m x.1++[x.2.1])from rfl,Ut,Qcv I]
   unfold toOf
   rw[List.filter_append,Yg,Xl,List.filter_nil]
   by_cases e:p=x.1
   ·subst e
    rw[if_pos rfl,H,if_pos (decide_eq_true rfl)];rfl
   ·rw[if_neg e,H,if_neg (by simp only[decide_eq_true_eq];exact fun h=>e h.symm),Xv,Wm];rfl
 exact main E.length 0 A.FU [] (by omega) (by have:=Qab;omega) (fun p=>rfl)
theorem turns_l3 (g:List Nd)(a0:(List (Int×Nd))×(List Int)×(List (Int×Int)))(S:List Sp)(E:List Ed)(hS:S.length≤4000)(O:(S.map (·.1)).Nodup)(W:F.bm a0 g=some E):F.a2 a0 g S A.FU [] 0=F.aQ a0 S E A.FU [] 0:=
 A.lp S (fun f (m:List Sp) i=>F.a2 a0 g S f m i) (fun _ _ _=>F.aQ a0 S E A.FU [] 0) (fun k m=>m=S.take k)
  (fun f m H=>by
   rw[Ws (Q0 _)]at H
   rw[F.a2,if_neg (by omega),show F.bm a0 g=some E from W,Qb,H])
  (fun f m k x I hk H ih=>by
   rw[F.a2,if_pos (by omega),A.ixn I,Qb,A.gd1 (A.r64n (by omega))]
   refine ih _ ?_
   rw[show Z.mins m x.1 x.2=Z.mins m x.1 x.2 from rfl,Qfz (mhas_app ?_),H,Qcv I]
   rw[H]
   intro h
   rw[List.map_take]at h
   have J:=O
   rw[←Xj k (S.map (·.1)),W9]at J
   refine J.2.2 _ h _ ?_ rfl
   rw[←List.map_drop,A.dropx I,Q3];exact Qf ..)
  (by have:=Qab;omega) [] (by simp)
theorem Qhb {g:List Nd}(H:Inc g){n:Nd}(J:n∈g)(z:Nd):Z.mget z (Qae g) n.1=n∧find g n.1=(n,true):=by
 obtain⟨j,I⟩:=Wr.1 J
 exact⟨H.mget I,Qds H I⟩
theorem mem_st {g:List Nd}{d:List Int}{st:List (Pl×List Pl)}(H: ∀p,Z.mget [] st p=toOf (edges g d) p){p q:Pl}:q∈Z.mget [] st p↔∃e∈edges g d,e.1=p∧e.2.1=q:=by
 rw[H];unfold toOf
 constructor
 ·intro h
  obtain⟨e,I,J⟩:=Qv.1 h
  obtain⟨O,W⟩:=Yh.1 I
  exact⟨e,O,of_decide_eq_true W,J⟩
 ·rintro⟨e,I,J,O⟩
  exact Qv.2 ⟨e,Yh.2 ⟨I,decide_eq_true J⟩,O⟩
theorem nodup_S {g:List Nd}{d:List Int}(H:Inc g)(I:Own g):((spots g d).map (·.1)).Nodup:=Qdc d 0 g H fun n J=>in2 I J
theorem Qgt {g:List Nd}{d:List Int}(W:Inc g)(ho:Own g){dd:Int}{p q:Pl}:okE g (spots g d) (edges g d) dd p q↔(∃e∈edges g d,e.1=p∧e.2.1=q)∧dd≤Z.mget 0 (spots g d) q∧(¬blk g dd p∨p.2=2):=by
 have hN:=nodup_S (d:=d) W ho
 have key: ∀e∈edges g d,(Qbp g (spots g d) dd e=true↔dd≤Z.mget 0 (spots g d) e.2.1∧(¬blk g dd e.1∨e.1.2=2)):=fun e he=>by
  obtain⟨v,hv⟩:=edge_to d he
  obtain⟨n,hn,H⟩:=Qcg d he
  obtain⟨I,J⟩:=Qhb W hn ((0,0,[],(0,0,(ByteArray.mk #[])),(ByteArray.mk #[]),0,0):Nd)
  unfold Qbp blk
  rw[mget_mem hN hv,atS_mem hN hv,H,J,I,Ql,decide_eq_true_eq,Y8,Y8,decide_eq_true_eq,decide_eq_true_eq,decide_eq_true_eq]
  constructor
  ·rintro⟨a,(b|b)|b⟩
   ·exact⟨a,.inl fun h=>b h.1⟩
   ·exact⟨a,.inl fun h=>b h.2⟩
   ·exact⟨a,.inr b⟩
  ·rintro⟨a,b|b⟩
   ·by_cases c:n.2.1=14
    ·exact⟨a,.inl (.inr fun h=>b ⟨c,h⟩)⟩
    ·exact⟨a,.inl (.inl c)⟩
   ·exact⟨a,.inr b⟩
 constructor
 ·rintro⟨e,H,I,J,O⟩
  have:=(key e H).1 O
  rw[I,J]at this
  exact⟨⟨e,H,I,J⟩,this⟩
 ·rintro⟨⟨e,H,I,J⟩,O⟩
  refine⟨e,H,I,J,(key e H).2 ?_⟩
  rw[I,J];exact O
theorem rch_iff {g:List Nd}{d:List Int}{st:List (Pl×List Pl)}(hi:Inc g)(ho:Own g)(O: ∀p,Z.mget [] st p=toOf (edges g d) p){dd:Int}{a:Pl}:Rch (okP g st (spots g d) dd) a a↔Rch (okE g (spots g d) (edges g d) dd) a a:=by
 have up: ∀{p q},okP g st (spots g d) dd p q→okE g (spots g d) (edges g d) dd p q:=fun {p q} h=>
  (Qgt hi ho).2 ⟨(mem_st O).1 h.1,h.2.2,.inl h.2.1⟩
 have down: ∀{p q},okE g (spots g d) (edges g d) dd p q→(p.2≠2∨¬blk g dd p)→okP g st (spots g d) dd p q:=fun {p q} h H=>by
  obtain⟨I,h4,h5⟩:=(Qgt hi ho).1 h
  refine⟨(mem_st O).2 I,?_,h4⟩
  rcases H with H|H
  ·exact h5.resolve_right H
  ·exact H
 have blk_same: ∀{p q:Pl},p.1=q.1→(blk g dd p↔blk g dd q):=fun {p q} e=>by unfold blk;rw[e]
 constructor
 ·intro h
  have: ∀b,Rch (okP g st (spots g d) dd) a b→Rch (okE g (spots g d) (edges g d) dd) a b:=fun b h=>by
   induction h with
   |one h=>exact .one (up h)
   |step _ H J=>exact .step J (up H)
  exact this a h
 ·intro h
  have key: ∀b,Rch (okE g (spots g d) (edges g d) dd) a b→Rch (okP g st (spots g d) dd) a b∨(a.2=2∧blk g dd a):=fun b h=>by
   induction h with
   |one h=>
    by_cases H:a.2=2∧blk g dd a
    ·exact .inr H
    ·exact .inl (.one (down h (by
      by_cases I:a.2=2
      ·exact .inr fun h4=>H ⟨I,h4⟩
      ·exact .inl I)))
   | @step b c _ H J=>
    rcases J with J|J
    ·refine .inl (.step J (down H ?_))
     by_cases I:b.2=2
     ·refine .inr fun h4=>?_
      have hlast: ∃p,okP g st (spots g d) dd p b:=by cases J with
       |one h=>exact⟨_,h⟩
       |step _ h=>exact⟨_,h⟩
      obtain⟨p,hp⟩:=hlast
      obtain⟨e,h5,h6,h7⟩:=(mem_st O).1 hp.1
      have W:=edge_out d ho h5 (by rw[h7];exact I)
      rw[h6,h7]at W
      exact hp.2.1 ((blk_same W.1).2 h4)
     ·exact .inl I
    ·exact .inr J
  rcases key a h with H|⟨H,I⟩
  ·exact H
  ·have hlast: ∃p,okE g (spots g d) (edges g d) dd p a:=by cases h with
    |one h=>exact⟨_,h⟩
    |step _ h=>exact⟨_,h⟩
   obtain⟨p,hp⟩:=hlast
   obtain⟨⟨e,h5,h6,h7⟩,_,h9⟩:=(Qgt hi ho).1 hp
   have W:=edge_out d ho h5 (by rw[h7];exact H)
   rw[h6,h7]at W
   rcases h9 with h9|h9
   ·exact absurd ((blk_same W.1).2 I) h9
   ·exact absurd h9 W.2
theorem Qhr {g:List Nd}(I:Own g)(J:g.length≤40)(d:List Int): ∀(m k:Nat),k+m=g.length→(edgesF g d k (g.drop k)).length≤83*m
 |0,k,h=>by rw[Q2 (by omega)];exact Q0 0
 |m+1,k,h=>by
  have H:g[k]?=some g[k]:=Qd (by omega)
  generalize g[k]=x at H
  have O:=in2 I (Qg H)
  have W:=Qay x.1 g fun x H=>in2 I H
  have h4:=Qhr I J d m (k+1) (by omega)
  rw[A.dropx H,edgesF]
  split
  ·omega
  ·rw[Qm,Qm,Qft,outE,Qw];omega
theorem Qeo {g:List Nd}(H:Own g)(d:List Int): ∀(k:Nat) (l:List Nd),(∀n∈l,n∈g)→∀sp∈spotsF g d k l,0≤sp.1.2∧sp.1.2≤2
 |_,[],_,_,h=>by cases h
 |k,n::r,I,sp,h=>by
  have O:=in2 H (I n (Qf ..))
  unfold spotsF at h
  rcases Qn.1 h with h|h
  ·have:=Qea g d n.1 0 _ sp.1 sp.2 h;omega
  ·rcases Qn.1 h with h|h
   ·unfold outS at h
    split at h
    ·rw[Qj]at h;subst h;simp
    ·cases h
   ·exact Qeo H d (k+1) r (fun x J=>I x (Qe _ J)) sp h
theorem turns_same (g:List Nd)(d:List Int)(a0:(List (Int×Nd))×(List Int)×(List (Int×Int)))(h0:a0.1=Qae g)(hb:Few g)(hi:Inc g)(hfed:Fed g)(J:Own g)(hib:InB d)(hr:RelD g d a0.2.2)(hd:d.length=g.length):
  ∃b,F.ci a0 g=some b∧(∀r5 r9,F.cw g r5 r9 (spots g d) (edges g d) A.FU 0=some (if b=true then([],[],81)else(r5.1,r9.1,0)))∧(b=true↔∃sp∈spots g d,Rch (okE g (spots g d) (edges g d) sp.2) sp.1 sp.1):=by
 have hlen:=hb.1
 have hS:(spots g d).length≤120:=by
  have:=Qcf J d g.length 0 (by omega);rw[Wc]at this;unfold spots;omega
 have hE:(edges g d).length≤4000:=by
  have:=Qhr J hlen d g.length 0 (by omega);rw[Wc]at this;unfold edges;omega
 have hN:=nodup_S (d:=d) hi J
 have hok: ∀sp∈spots g d,SpOk g sp:=by
  have:=o_a1 (d:=d) (g:=g) hib g.length 0 (by omega);rw[Wc]at this;exact this
 obtain⟨st,O,hl2⟩:=turns_l2 a0 (spots g d) (edges g d) hE
 have hto: ∀p q,q∈Z.mget [] st p→q∈(edges g d).map fun e=>e.2.1:=fun p q h=>by
  obtain⟨e,H,_,h3⟩:=(mem_st O).1 h
  exact Qv.2 ⟨e,H,h3⟩
 have htl: ∀p,(Z.mget [] st p).length≤4000:=fun p=>by
  rw[O];unfold toOf;rw[Qw]
  exact Wk (Xs _ _) hE
 have hval: ∀sp∈spots g d,∃b,F.bn a0 st (spots g d) sp.1 sp.2=some b∧F.em g (spots g d) (edges g d) sp=some b∧(b=true↔Rch (okE g (spots g d) (edges g d) sp.2) sp.1 sp.1):=fun sp I=>by
  obtain⟨b,H,W⟩:=reaches_eq g a0 h0 st (spots g d) sp.1 sp.2 ((edges g d).map fun e=>e.2.1) (by rw[Qw];exact hE) hto htl (by rw[mget_mem hN (p:=sp.1) (v:=sp.2) I];exact Xa _)
  obtain⟨b',h3,h4⟩:=round_eq g (spots g d) (edges g d) sp hb hi (by omega) hE (fun e he=>Qcg d he)
  refine⟨b,H,?_,W.trans (rch_iff hi J O)⟩
  rw[h3];congr 1
  rw[Y7,h4,W]
  exact(rch_iff hi J O).symm
 let p:Sp→Bool:=fun sp=>(F.bn a0 st (spots g d) sp.1 sp.2).getD false
 have hp: ∀sp∈spots g d,(p sp=true↔Rch (okE g (spots g d) (edges g d) sp.2) sp.1 sp.1):=fun sp I=>by
  obtain⟨b,H,_,h3⟩:=hval sp I
  rw[show p sp=b from congrArg (fun o=>Option.getD o false) H];exact h3
 refine⟨(spots g d).any p,?_,fun r5 r9=>?_,?_⟩
 ·unfold F.ci
  rw[show F.bM a0 g=_ from Qie g d a0 hb hfed J hr,Qb,turns_l3 g a0 (spots g d) (edges g d) (by omega) hN (Qic g d a0 hb hfed J hib hr),hl2]
  have:=A.mrg_any (body:=F.bk a0 (spots g d) st) (rest:=some false) (y:=true) (p:=p) (l:=spots g d) fun sp I=>by
   obtain⟨b,H,_,_⟩:=hval sp I
   obtain⟨⟨j,n,hn,hid⟩,hdd⟩:=hok sp I
   have hng:=Qg hn
   have hids:=own_id (J n hng)
   have hport:0≤sp.1.2∧sp.1.2≤2:=Qeo J d 0 g (fun n hn=>hn) sp I
   unfold F.bk
   have hh:decide (A.h6 sp.1.1)=true∧decide (A.h6 sp.1.2)=true:=⟨decide_eq_true (J4 ⟨by omega,by omega⟩),decide_eq_true (J4 ⟨by omega,by omega⟩)⟩
   rw[A.gd1 hh,show F.bn a0 st (spots g d) sp.1 sp.2=_ from H,Qb,show p sp=b from congrArg (fun o=>Option.getD o false) H]
  rw[this]
  cases (spots g d).any p<;>rfl
 ·have loop:=A.lp0 (spots g d) (fun f y=>F.cw g r5 r9 (spots g d) (edges g d) f y) (fun _ t=>some (if t.any p=true then([],[],81)else(r5.1,r9.1,0)))
   (fun f=>by rw[F.cw,if_neg (by omega)];rfl)
   (fun f k x hx hk ih=>by
    obtain⟨b,H,W,_⟩:=hval x (Qg hx)
    rw[F.cw,if_pos (by omega),A.ixn hx,Qb,show F.em g (spots g d) (edges g d) x=_ from W,Qb,Ye,show p x=b from congrArg (fun o=>Option.getD o false) H]
    cases b with
    |true=>rfl
    |false=>rw[if_neg Wd,A.gd1 (A.r64n (by omega)),ih,X4])
   (by have:=Qab;omega)
  exact loop
 ·rw[Xq]
  exact⟨fun⟨sp,H,W⟩=>⟨sp,H,(hp sp H).1 W⟩,fun⟨sp,H,W⟩=>⟨sp,H,(hp sp H).2 W⟩⟩
theorem own_of {g:List Nd}(h:okL g 0 0 g=true):Own g:=fun n I=>by
 obtain⟨j,J⟩:=Wr.1 I
 have H:=Qjc g g.length 0 (by omega)
 rw[Wc,show lastOf g 0=0 from rfl]at H
 have:=H.1 h j n (by omega) J
 cases hq:ownQ n with
 |true=>rfl
 |false=>exact absurd (.inr (.inl hq)) this
theorem Qew (g:List Nd): ∀(r:Nat) (done:List Bool) (l l':List Int),Qar g r done l=some l'→Plc g l→Plc g l'
 |0,done,l,l',h,hp=>by injection h with h;subst h;exact hp
 |r+1,done,l,l',h,hp=>by
  rw[Qar]at h
  by_cases I:Qaf g done 0 g (-1)<0
  ·rw[if_pos I]at h;cases h
  ·rw[if_neg I]at h
   by_cases J:g.length=0
   ·have:=Qdy g done 0 g (-1) (by omega)
    have e:g=[]:=Wq J
    subst e
    simp[Qaf]at I
   ·have O:=Qdy g done 0 g (-1) (by omega) (by omega)
    refine Qew g r _ _ l' h fun i p H=>?_
    rw[List.getElem?_append]at H
    split at H
    ·exact hp i p H
    ·rename_i W
     have:i-l.length=0:=by
      have:=(Qc.1 H).1
      simp only[Qh,Qx]at this;omega
     rw[this]at H
     injection H with H
     subst H
     exact⟨(Qaf g done 0 g (-1)).toNat,g[(Qaf g done 0 g (-1)).toNat]'(by omega),by omega,Qd (by omega)⟩
structure Whole (g:List Nd) (l d:List Int) (dm:List (Int×Int)):Prop where
 inc:Inc g
 fed:Fed g
 own:Own g
 rel:RelD g d dm
 inb:InB d
 dlen:d.length=g.length
 key:KeyD g l dm
 plc:Plc g l
 llen:l.length=g.length
 ord:Qar g g.length (List.replicate g.length false) []=some l
 dep:Qam g l (List.replicate g.length 0)=some d
 lps:Qbk g d g=true
 nort: ∀sp∈spots g d,¬Rch (okE g (spots g d) (edges g d) sp.2) sp.1 sp.1
 kin:g.all (fun n=>n.2.2.1.all (inOk g))=true
 okr:okR g 0 g=true
 chk:g.all (fun n=>decide (chk n.2.1 n.2.2.2.1=0))=true
 l32:g.length≤32
theorem whole_same (g:List Nd)(W:Few g):
  (∃e,e≠0∧F.bW g=some (none,e)∧F.en g=some ([],[],e))∨
  (∃l d dm,F.bW g=some (some (Qae g,l.map (idAt g),dm),0)∧F.en g=some (l,d,0)∧Whole g l d dm):=by
 rw[whole_P g W]
 unfold F.en
 rw[parts_eq g W,ok_eq]
 by_cases O:(32:Int)<(g.length:Int)
 ·rw[if_pos O,if_pos O]
  exact .inl ⟨80,by decide,rfl,rfl⟩
 rw[if_neg O,if_neg O]
 by_cases H:okR g 0 g=true
 case neg=>rw[if_neg H,if_neg H];exact .inl ⟨80,by decide,rfl,rfl⟩
 rw[if_pos H,if_pos H]
 by_cases J:g.all (fun n=>decide (chk n.2.1 n.2.2.2.1=0))=true
 case neg=>rw[if_neg J,if_neg J];exact .inl ⟨60,by decide,rfl,rfl⟩
 rw[if_pos J,if_pos J]
 by_cases I:g.all (fun n=>n.2.2.1.all (inOk g))=true
 case neg=>rw[if_neg I,if_neg I];exact .inl ⟨80,by decide,rfl,rfl⟩
 rw[if_pos I,if_pos I,Qb,if_neg (by decide)]
 have hi:=ok_inc H
 have hfed:=fed_of I
 have ho:=own_of (by rw[ok_eq];exact H)
 have hlen:=W.1
 unfold sortP
 rcases order_sort W hi hfed (Qae g)with⟨l,h1,h2,h3,h4⟩|⟨h1,p,h2⟩
 case inr=>rw[h1,h2];exact .inl ⟨81,by decide,rfl,rfl⟩
 rw[h1,h2]
 simp only[Qb,Xh,Qz,if_false]
 have hplc:Plc g l:=Qew g g.length _ [] l h4 fun i p h=>by cases h
 rcases Qji g l W hi hfed ho (by omega) hplc with⟨d,dm,d1,d2,d3,d4,d5,d6,d7,d8⟩|⟨d1,p,d2⟩
 case inr=>rw[d1,d2];exact .inl ⟨80,by decide,rfl,rfl⟩
 rw[d1,d2]
 simp only[Qb,Xh,Qz,if_false]
 obtain⟨b,t1,t2,t3⟩:=turns_same g d (Qae g,l.map (idAt g),dm) rfl W hi hfed ho d4 d3 d5
 rw[t1,Qgy g d W hfed ho d5]
 simp only[Qb]
 rw[Qhd g d W hi ho d4]
 simp only[Qb,t2]
 cases b with
 |true=>exact .inl ⟨81,by decide,rfl,rfl⟩
 |false=>exact .inr ⟨l,d,dm,rfl,rfl,hi,hfed,ho,d3,d4,d5,d6,hplc,h3,h4,d8,d7,fun sp h1 h2=>Bool.noConfusion (t3.2 ⟨sp,h1,h2⟩),I,H,J,by omega⟩
theorem Qdq (a b:Int):F.aX a b=some (if a<b then-1 else if b<a then 1 else 0):=by
 unfold F.aX F.ds
 simp only[Qb,ne_eq,not_true_eq_false,decide_false,Qz,if_false]
 split
 ·rfl
 ·split<;>rfl
def orF:List Int→Int
 | []=>0
 |x::r=>if x≠0 then x else orF r
theorem Or_eq (l:List Int)(J:l.length≤100):F.cY l=some (orF l):=by
 have loop:=A.lp0 l (fun f y=>F.cA l f y) (fun _ t=>some (orF t)) (fun f=>by rw[F.cA,if_neg (by omega)];rfl)
  (fun f k x H hk I=>by
   rw[F.cA,if_pos (by omega),A.ixn H,Qb,orF]
   by_cases h:x≠0
   ·rw[if_pos h,if_pos h]
   ·rw[if_neg h,if_neg h,A.gd1 (A.r64n (by omega)),I])
  (by have:=Qab;omega)
 exact loop
def cmpI (a b:Int):Int:=if a<b then-1 else if b<a then 1 else 0
def cmpP (p q:Pl):Int:=orF [cmpI p.1 q.1,cmpI p.2 q.2]
def cmpE (x y:Ed):Int:=orF [cmpP x.1 y.1,cmpP x.2.1 y.2.1]
theorem place_eq (p q:Pl):F.dA p q=some (cmpP p q):=by
 unfold F.dA
 rw[Qdq,Qb,Qdq,Qb,Or_eq _ (by simp),Qb];rfl
theorem Edges1_eq (x y:Ed):F.bH x y=some (cmpE x y):=by
 unfold F.bH
 rw[place_eq,Qb,place_eq,Qb,Or_eq _ (by simp),Qb];rfl
def ltP (p q:Pl):Prop:=p.1<q.1∨p.1=q.1∧p.2<q.2
def ltE (x y:Ed):Prop:=ltP x.1 y.1∨x.1=y.1∧ltP x.2.1 y.2.1
theorem Qis {a b:Int}(h:a<b):cmpI b a=1:=by unfold cmpI;rw[if_neg (by omega),if_pos h]
theorem Qca (a:Int):cmpI a a=0:=by unfold cmpI;rw[if_neg (by omega),if_neg (by omega)]
theorem cmpP_lt {p q:Pl}(h:ltP p q):cmpP q p=1:=by
 unfold cmpP
 rcases h with h|⟨H,I⟩
 ·rw[Qis h];rfl
 ·rw[H,Qca,Qis I];rfl
theorem cmpP_self (p:Pl):cmpP p p=0:=by
 unfold cmpP;rw[Qca,Qca];rfl
theorem cmpE_lt {x y:Ed}(h:ltE x y):cmpE y x=1:=by
 unfold cmpE
 rcases h with h|⟨H,I⟩
 ·rw[cmpP_lt h];rfl
 ·rw[H,cmpP_self,cmpP_lt I];rfl
def Od (l:List Ed):Prop:=l.Pairwise ltE
theorem Od.cmp {l:List Ed}(h:Od l){i j:Nat}(H:i<j)(I:j<l.length): ∃x y,l[i]?=some x∧l[j]?=some y∧cmpE y x=1:=by
 refine⟨l[i],l[j],Qd (by omega),Qd I,cmpE_lt ?_⟩
 exact X2.1 h i j (by omega) I H
theorem Od.less {l:List Ed}(h:Od l){i j:Nat}(H:i<j)(I:j<l.length){β:Type}(K:Int→Option β):
  ((A.ix l (j:Int)).bind fun y=>(A.ix l (i:Int)).bind fun x=>(F.bH y x).bind K)=K 1:=by
 obtain⟨x,y,J,O,W⟩:=h.cmp H I
 rw[A.ixn O,Qb,A.ixn J,Qb,Edges1_eq,Qb,W]
theorem ins_l2 {l:List Ed}(h:Od l)(O:l.length≤1000000)(H:Int→Option Unit)(a j:Nat)(J:j<l.length)(f:Nat):
  F.aa H l (a:Int) (j:Int) (f+1)=H ((j:Int)+1):=by
 have e:F.p H l (j:Int) false=H ((j:Int)+1):=by
  unfold F.p
  rw[if_neg (by simp),A.gd1 (A.r64n (by omega))]
 rw[F.aa]
 by_cases I:(a:Int)<(j:Int)
 ·rw[if_pos I,A.gd1 ⟨by omega,by omega⟩]
  obtain⟨i,rfl⟩: ∃i:Nat,j=i+1:=⟨j-1,by omega⟩
  rw[show(((i+1:Nat):Int)-1)=(i:Int) by omega]
  exact(h.less (i:=i) (j:=i+1) (by omega) J _).trans e
 ·rw[if_neg I];exact e
theorem ins_l3 {l:List Ed}(h:Od l)(H:l.length≤1000000)(a b:Nat)(O:b≤l.length): ∀(n j f:Nat),b≤j+n→n<f→
  F.g l (a:Int) (b:Int) f (j:Int)=some ()
 |n,j,0,W,I=>absurd I (by omega)
 |n,j,f+1,W,I=>by
  rw[F.g]
  by_cases J:(j:Int)<(b:Int)
  ·rw[if_pos J]
   obtain⟨m,hm⟩: ∃m,A.FU=m+1:=⟨A.FU-1,by have:=Qab;omega⟩
   rw[hm,ins_l2 h H _ a j (by omega) m]
   exact ins_l3 h H a b O (n-1) (j+1) f (by omega) (by omega)
  ·rw[if_neg J]
theorem ins_eq {l:List Ed}(h:Od l)(H:l.length≤1000000)(a b:Nat)(J:a≤l.length)(I:b≤l.length):F.r l (a:Int) (b:Int)=some ():=by
 unfold F.r
 rw[A.gd1 (A.r64n (by omega))]
 exact ins_l3 h H a b I b (a+1) A.FU (by omega) (by have:=Qab;omega)
theorem half (a b:Nat)(h:a+b≤100000000):IntKind.u64.wrap ((a:Int)+(b:Int)) / 2^((1:Int)).toNat=(((a+b) / 2:Nat):Int):=by
 rw[Z.u64_in _ (by omega)]
 show((a:Int)+(b:Int)) / 2=_
 omega
theorem r64h (a b:Nat)(h:a+b≤100000000):Z.R64 ((a:Int)+(b:Int))∧(0≤(1:Int)∧(1:Int)≤64)∧Z.R64 ((((a+b) / 2:Nat):Int)):=⟨⟨by omega,by omega⟩,⟨by omega,by omega⟩,⟨by omega,by omega⟩⟩
theorem r64i {x:Int}(h:0≤x∧x≤1000000000):Z.R64 x:=⟨by omega,by omega⟩
theorem sym_l1 (l:List Ed)(a m f:Nat)(H:a+1=m)(I:m≤1000000):F.ai l (a:Int) (m:Int) (f+1)=some ():=by
 rw[F.ai,A.gd1 (r64i (by omega)),if_neg (by omega)]
theorem sym_l2 {l:List Ed}(h:Od l)(O:l.length≤1000000)(a m:Nat)(H:a+1=m): ∀(n j f:Nat),m≤j→j≤l.length→j≤m+n→n<f→
  F.l l (a:Int) f (m:Int) (j:Int)=some ()
 |n,j,0,W,hj,hn,I=>absurd I (by omega)
 |n,j,f+1,W,hj,hn,I=>by
  rw[F.l]
  by_cases J:(m:Int)<(j:Int)
  ·rw[if_pos J,half m j (by omega),A.gd1 (r64h m j (by omega))]
   refine(h.less (i:=a) (j:=(m+j) / 2) (by omega) (by omega) _).trans ?_
   show(if(1:Int)<0 then _ else _)=_
   rw[if_neg (by decide)]
   exact sym_l2 h O a m H (n-1) ((m+j) / 2) f (by omega) (by omega) (by omega) (by omega)
  ·obtain⟨q,hq⟩: ∃q,A.FU=q+1:=⟨A.FU-1,by have:=Qab;omega⟩
   rw[if_neg J,hq,sym_l1 l a m q H (by omega)]
theorem sym_l4 {l:List Ed}(h:Od l)(O:l.length≤1000000)(m:Nat)(H:m<l.length): ∀(n i f:Nat),i≤m→m≤i+n→n<f→
  F.m l (m:Int) f (i:Int) (m:Int)=some ()
 |n,i,0,W,hn,I=>absurd I (by omega)
 |n,i,f+1,W,hn,I=>by
  rw[F.m]
  by_cases J:(i:Int)<(m:Int)
  ·rw[if_pos J,half i m (by omega),A.gd1 (r64h i m (by omega))]
   refine(h.less (i:=(i+m) / 2) (j:=m) (by omega) H _).trans ?_
   show(if(!decide ((1:Int)<0))=true then _ else _)=_
   rw[if_pos (by decide),A.gd1 (A.r64n (by omega))]
   exact sym_l4 h O m H (n-1) ((i+m) / 2+1) f (by omega) (by omega) (by omega)
  ·obtain⟨q,hq⟩: ∃q,A.FU=q+1:=⟨A.FU-1,by have:=Qab;omega⟩
   obtain rfl:i=m:=by omega
   rw[if_neg J,hq,F.aA,if_neg (by omega)]
theorem sym_l6 {l:List Ed}(h:Od l)(J:l.length≤1000000)(rc:List Ed→Int→Int→Int→Option Unit)(a m b mid r s:Nat)(hmid:(a+b) / 2=mid)(O:a≤1000000)(W:b≤1000000)(hr:r≤1000000)(hm:m≤1000000)
  (hp: ∀c,s≤c→c<r→c<mid+m-1-c∧mid+m-1-c<l.length) (H:F.b l (a:Int) (m:Int) (b:Int) rc 1 (r:Int) (r:Int)=some ()): ∀(n c f:Nat),s≤c→c≤r→r≤c+n→n<f→
  F.b l (a:Int) (m:Int) (b:Int) rc f (c:Int) (r:Int)=some ()
 |n,c,0,hs,hi,hn,I=>absurd I (by omega)
 |n,c,f+1,hs,hi,hn,I=>by
  by_cases hc:c<r
  ·obtain⟨p1,p2⟩:=hp ((c+r) / 2) (by omega) (by omega)
   rw[F.b,if_pos (by omega),half c r (by omega),half a b (by omega),hmid,A.gd1 (r64h c r (by omega)),show((((mid:Nat):Int)+(m:Int))-1)-(((c+r) / 2:Nat):Int)=((mid+m-1-(c+r) / 2:Nat):Int) by omega,A.gd1 (r64i (by omega))]
   refine(h.less (i:=(c+r) / 2) (j:=mid+m-1-(c+r) / 2) p1 p2 _).trans ?_
   show(if(!decide ((1:Int)<0))=true then _ else _)=_
   rw[if_pos (by decide),A.gd1 (A.r64n (by omega))]
   exact sym_l6 h J rc a m b mid r s hmid O W hr hm hp H (n-1) ((c+r) / 2+1) f (by omega) (by omega) (by omega) (by omega)
  ·obtain rfl:c=r:=by omega
   rw[F.b,if_neg (by omega)]at H ⊢
   exact H
theorem sym_eq {l:List Ed}(h:Od l)(H:l.length≤1000000): ∀(n f a m b:Nat),a<m→m<b→b≤l.length→b≤a+n→n<f→
  F.c f l (a:Int) (m:Int) (b:Int)=some ()
 |n,0,a,m,b,J,O,I,hn,W=>absurd W (by omega)
 |n,f+1,a,m,b,J,O,I,hn,W=>by
  have hFU:=Qab
  rw[F.c,F.aK,A.gd1 (r64i (by omega))]
  by_cases c1:(m:Int)-(a:Int)=1
  ·rw[if_pos c1]
   exact sym_l2 h H a m (by omega) b b A.FU (by omega) I (by omega) (by omega)
  rw[if_neg c1,A.gd1 (r64i (by omega))]
  by_cases c2:(b:Int)-(m:Int)=1
  ·rw[if_pos c2]
   exact sym_l4 h H m (by omega) m a A.FU (by omega) (by omega) (by omega)
  rw[if_neg c2,half a b (by omega),A.gd1 (r64h a b (by omega)),A.gd1 (r64i (by omega))]
  generalize hmid:(a+b) / 2=mid
  by_cases c3:(mid:Int)<(m:Int)
  ·rw[if_pos c3,A.gd1 (r64i (by omega)),F.t,half a b (by omega),hmid,A.gd1 (r64i (by omega)),show(mid:Int)+(m:Int)-(b:Int)=((mid+m-b:Nat):Int) by omega]
   refine sym_l6 h H (F.c f) a m b mid mid (mid+m-b) hmid (by omega) (by omega) (by omega) (by omega) (fun c g1 g2=>⟨by omega,by omega⟩) ?_ mid (mid+m-b) A.FU (by omega) (by omega) (by omega) (by omega)
   rw[F.b,if_neg (by omega),half a b (by omega),hmid,A.gd1 (r64i (by omega)),show(mid:Int)+(m:Int)-(mid:Int)=(m:Int) by omega,A.ba,A.ba,if_neg (by rw[decide_eq_true_iff];omega),if_neg (by rw[decide_eq_true_iff];omega),F.n,half a b (by omega),hmid,show(mid:Int)+(m:Int)-(mid:Int)=(m:Int) by omega,A.ba,if_pos (by rw[decide_eq_true_iff];omega),sym_eq h H (n-1) f mid m b (by omega) O I (by omega) (by omega),Qb]
  ·rw[if_neg c3,F.t,half a b (by omega),hmid,A.gd1 (r64i (by omega))]
   refine sym_l6 h H (F.c f) a m b mid m a hmid (by omega) (by omega) (by omega) (by omega) (fun c g1 g2=>⟨by omega,by omega⟩) ?_ m a A.FU (by omega) (by omega) (by omega) (by omega)
   have e5:F.n l (a:Int) (m:Int) (b:Int) (F.c f) (m:Int)=some ():=by
    rw[F.n,half a b (by omega),hmid,A.ba,if_neg (by rw[decide_eq_true_iff];omega)]
   rw[F.b,if_neg (by omega),half a b (by omega),hmid,A.gd1 (r64i (by omega)),A.ba,A.ba,if_neg (by rw[decide_eq_true_iff];omega),e5]
   by_cases c4:(m:Int)<(mid:Int)
   ·rw[if_pos (by rw[decide_eq_true_iff];omega),sym_eq h H (n-1) f a m mid J (by omega) (by omega) (by omega) (by omega),Qb]
   ·rw[if_neg (by rw[decide_eq_true_iff];omega)]
theorem stb_l2 {l:List Ed}(h:Od l)(H:l.length≤1000000)(k12:Int→Option Unit)(s:Nat)(hs:0<s)(I:s<l.length)(hk:k12 ((s*2:Nat):Int)=some ()): ∀(n a f:Nat),l.length≤a+n→n<f→a≤l.length→
  F.x k12 l (l.length:Int) (s:Int) f (a:Int) ((a+2*s:Nat):Int)=some ()
 |n,a,0,hn,J,ha=>absurd J (by omega)
 |n,a,f+1,hn,J,ha=>by
  have hFU:=Qab
  have O:F.w k12 (s:Int)=some ():=by
   rw[F.w,A.gd1 (r64i (by omega)),show(s:Int)*2=((s*2:Nat):Int) by omega,hk]
  rw[F.x]
  by_cases W:((a+2*s:Nat):Int)≤(l.length:Int)
  ·rw[if_pos W,A.gd1 (r64i (by omega)),show(a:Int)+(s:Int)=((a+s:Nat):Int) by omega,sym_eq h H l.length A.FU a (a+s) (a+2*s) (by omega) (by omega) (by omega) (by omega) (by omega),Qb,A.gd1 ⟨r64i (by omega),r64i (by omega)⟩,show((a+2*s:Nat):Int)+2*(s:Int)=((a+2*s+2*s:Nat):Int) by omega]
   exact stb_l2 h H k12 s hs I hk (n-1) (a+2*s) f (by omega) (by omega) (by omega)
  ·rw[if_neg W,A.gd1 (r64i (by omega)),show(a:Int)+(s:Int)=((a+s:Nat):Int) by omega]
   by_cases h2:((a+s:Nat):Int)<(l.length:Int)
   ·rw[if_pos h2,sym_eq h H l.length A.FU a (a+s) l.length (by omega) (by omega) (by omega) (by omega) (by omega),Qb,O]
   ·rw[if_neg h2,O]
theorem stb_l3 {l:List Ed}(h:Od l)(H:l.length≤1000000): ∀(n s f:Nat),0<s→l.length≤s+n→n<f→
  F.i l (l.length:Int) f (s:Int)=some ()
 |n,s,0,I,W,J=>absurd J (by omega)
 |n,s,f+1,I,W,J=>by
  have hFU:=Qab
  rw[F.i]
  by_cases O:(s:Int)<(l.length:Int)
  ·rw[if_pos O,A.gd1 (r64i (by omega)),show 2*(s:Int)=((0+2*s:Nat):Int) by omega]
   exact stb_l2 h H _ s I (by omega) (stb_l3 h H (n-1) (s*2) f (by omega) (by omega) (by omega)) l.length 0 A.FU (by omega) (by omega) (by omega)
  ·rw[if_neg O]
theorem stb_l4 {l:List Ed}(h:Od l)(H:l.length≤1000000): ∀(n a f:Nat),l.length≤a+n→n<f→a≤l.length→
  F.y l (l.length:Int) f (a:Int) ((a+20:Nat):Int)=some ()
 |n,a,0,O,I,W=>absurd I (by omega)
 |n,a,f+1,O,I,W=>by
  have hFU:=Qab
  rw[F.y]
  by_cases J:((a+20:Nat):Int)≤(l.length:Int)
  ·rw[if_pos J,ins_eq h H a (a+20) (by omega) (by omega),Qb,A.gd1 (r64i (by omega)),show((a+20:Nat):Int)+20=((a+20+20:Nat):Int) by omega]
   exact stb_l4 h H (n-1) (a+20) f (by omega) (by omega) (by omega)
  ·rw[if_neg J,ins_eq h H a l.length (by omega) (by omega),Qb]
   exact stb_l3 h H l.length 20 A.FU (by omega) (by omega) (by omega)
theorem sorted_eq {l:List Ed}(h:Od l)(H:l.length≤1000000):F.ab l=some ():=by
 unfold F.ab F.aM
 have hFU:=Qab
 have e:=stb_l4 h H l.length 0 A.FU (by omega) (by omega) (by omega)
 rw[show(20:Int)=((0+20:Nat):Int) by rfl,show(0:Int)=((0:Nat):Int) by rfl,e];rfl
theorem useN_memO (id nd:Int): ∀(k:Nat) (l:List Int) (u:Pl),u∈useN id nd k l→u.1=nd∧(k:Int)≤u.2
 |_,[],u,h=>by cases h
 |k,z::r,u,h=>by
  unfold useN at h
  split at h
  ·rcases Qk.1 h with rfl|h
   ·exact⟨rfl,Xa _⟩
   ·have:=useN_memO id nd (k+1) r u h;exact⟨this.1,by have:=this.2;omega⟩
  ·have:=useN_memO id nd (k+1) r u h;exact⟨this.1,by have:=this.2;omega⟩
theorem Qir (id nd:Int): ∀(k:Nat) (l:List Int),(useN id nd k l).Pairwise ltP
 |_,[]=>List.Pairwise.nil
 |k,z::r=>by
  unfold useN
  split
  ·refine W5.2 ⟨fun u h=>?_,Qir id nd (k+1) r⟩
   have:=useN_memO id nd (k+1) r u h
   exact .inr ⟨this.1.symm,by have:=this.2;show(k:Int)<u.2;omega⟩
  ·exact Qir id nd (k+1) r
theorem Qfk (id:Int): ∀(l:List Nd) (u:Pl),u∈Qat id l→∃n∈l,u.1=n.1
 | [],u,h=>by cases h
 |n::r,u,h=>by
  unfold Qat at h
  rcases Qn.1 h with h|h
  ·exact⟨n,Qf ..,(useN_memO id n.1 0 n.2.2.1 u h).1⟩
  ·obtain⟨m,H,I⟩:=Qfk id r u h;exact⟨m,Qe _ H,I⟩
theorem usesF_od (id:Int): ∀(l:List Nd),Inc l→(Qat id l).Pairwise ltP
 | [],_=>List.Pairwise.nil
 |n::r,h=>by
  have h':=W5.1 h
  unfold Qat
  refine Y2.2 ⟨Qir id n.1 0 n.2.2.1,usesF_od id r h'.2,fun a H b I=>.inl ?_⟩
  obtain⟨m,J,O⟩:=Qfk id r b I
  rw[(useN_memO id n.1 0 n.2.2.1 a H).1,O];exact h'.1 m J
theorem Qdj (g:List Nd)(d:List Int)(n:Nd): ∀(k:Nat) (l:List Int) (e:Ed),e∈inE g d n k l→e.1.1=n.1∧(k:Int)≤e.1.2∧e.1.2<(k:Int)+l.length
 |_,[],e,h=>by cases h
 |k,z::r,e,h=>by
  unfold inE at h
  rcases Qk.1 h with rfl|h
  ·refine⟨rfl,Xa _,?_⟩
   rw[Qh];show(k:Int)<_;omega
  ·have:=Qdj g d n (k+1) r e h
   rw[Qh]
   exact⟨this.1,by omega,by omega⟩
theorem inE_od (g:List Nd)(d:List Int)(n:Nd): ∀(k:Nat) (l:List Int),(inE g d n k l).Pairwise ltE
 |_,[]=>List.Pairwise.nil
 |k,z::r=>by
  unfold inE
  refine W5.2 ⟨fun e h=>.inl (.inr ?_),inE_od g d n (k+1) r⟩
  have:=Qdj g d n (k+1) r e h
  exact⟨this.1.symm,by show(k:Int)<e.1.2;omega⟩
theorem Qbu (g:List Nd)(d:List Int): ∀(i:Nat) (l:List Nd) (e:Ed),e∈edgesF g d i l→∃n∈l,e.1.1=n.1
 |_,[],e,h=>by cases h
 |i,n::r,e,h=>by
  unfold edgesF at h
  split at h
  ·obtain⟨m,H,I⟩:=Qbu g d (i+1) r e h;exact⟨m,Qe _ H,I⟩
  ·rcases Qn.1 h with h|h
   ·exact⟨n,Qf ..,(Qdj g d n 0 n.2.2.1 e h).1⟩
   ·rcases Qn.1 h with h|h
    ·unfold outE at h
     obtain⟨u,_,rfl⟩:=Qv.1 h
     exact⟨n,Qf ..,rfl⟩
    ·obtain⟨m,H,I⟩:=Qbu g d (i+1) r e h;exact⟨m,Qe _ H,I⟩
theorem Qhn (g:List Nd)(d:List Int)(O:Inc g): ∀(i:Nat) (l:List Nd),Inc l→(∀n∈l,n.2.2.1.length≤2)→Od (edgesF g d i l)
 |_,[],_,_=>List.Pairwise.nil
 |i,n::r,h,W=>by
  have h':=W5.1 h
  have ih:=Qhn g d O (i+1) r h'.2 fun m hm=>W m (Qe _ hm)
  have hn2:=W n (Qf ..)
  unfold edgesF
  split
  ·exact ih
  ·have later: ∀(a:Ed),a.1.1=n.1→∀b,b∈edgesF g d (i+1) r→ltE a b:=fun a I b H=>by
    obtain⟨m,h3,h4⟩:=Qbu g d (i+1) r b H
    exact .inl (.inl (by rw[I,h4];exact h'.1 m h3))
   have out: ∀b,b∈outE g n (iget d (i:Int))→b.1=(n.1,2):=fun b H=>by
    unfold outE at H;obtain⟨u,_,rfl⟩:=Qv.1 H;rfl
   refine Y2.2 ⟨inE_od g d n 0 n.2.2.1,Y2.2 ⟨?_,ih,fun a I b H=>later a (by rw[out a I]) b H⟩,fun a I b H=>?_⟩
   ·unfold outE
    exact Jb.2 ((usesF_od n.1 g O).imp fun {a b} J=>.inr ⟨rfl,J⟩)
   ·have ha':=Qdj g d n 0 n.2.2.1 a I
    rcases Qn.1 H with H|H
    ·rw[ltE,out b H]
     exact .inl (.inr ⟨ha'.1,by show a.1.2<2;omega⟩)
    ·exact later a ha'.1 b H
theorem Qep (g:List Nd)(d:List Int): ∀(i:Nat) (l:List Nd),g.length≤100→(∀n∈g,n.2.2.1.length≤2)→(∀n∈l,n.2.2.1.length≤2)→(edgesF g d i l).length≤300*l.length
 |_,[],_,_,_=>Xn _
 |i,n::r,J,H,I=>by
  have W:=Qep g d (i+1) r J H fun m O=>I m (Qe _ O)
  have hn:=I n (Qf ..)
  have hu:=Qay n.1 g H
  unfold edgesF
  rw[Qh]
  split
  ·omega
  ·rw[Qm,Qm,Qft,outE,Qw];omega
theorem Qfb (g:List Nd)(done:List Bool): ∀(r:List Nd) (i:Nat) (a:Int),0≤Qaf g done i r a→(0≤a∧Qaf g done i r a=a)∨(∃j:Nat,Qaf g done i r a=(j:Int)∧j<i+r.length∧bget done (j:Int)=false)
 | [],i,a,h=>.inl ⟨h,rfl⟩
 |x::r,i,a,h=>by
  unfold Qaf at h ⊢
  rcases Qfb g done r (i+1) _ h with⟨I,H⟩|⟨j,I,H,O⟩
  ·by_cases J:(a<0∧bget done i=false)∧ready g done x=true
   ·rw[if_pos J]at H ⊢
    exact .inr ⟨i,H,by simp only[Qh];omega,J.1.2⟩
   ·rw[if_neg J]at I H ⊢
    exact .inl ⟨I,H⟩
  ·exact .inr ⟨j,I,by simp only[Qh];omega,O⟩
theorem Qfn (l:List Bool)(j k:Nat)(H:j<l.length):bget (l.set j true) (k:Int)=if j=k then true else bget l (k:Int):=by
 unfold bget
 rw[Qq,Y0]
 by_cases h:j=k
 ·subst h;simp[H]
 ·rw[if_neg h,if_neg h]
theorem Qdr (g:List Nd): ∀(r:Nat) (done:List Bool) (acc l:List Int),Qar g r done acc=some l→done.length=g.length→acc.Nodup→(∀p∈acc,∃j:Nat,p=(j:Int)∧bget done (j:Int)=true)→l.Nodup
 |0,done,acc,l,h,_,H,_=>by unfold Qar at h;injection h with h;subst h;exact H
 |r+1,done,acc,l,h,hd,H,J=>by
  unfold Qar at h
  split at h
  ·cases h
  ·rename_i h0
   rcases Qfb g done g 0 (-1) (by omega)with⟨O,_⟩|⟨j,O,h2,W⟩
   ·omega
   ·rw[O,Qq]at h
    refine Qdr g r _ _ l h (by rw[Wx];exact hd) ?_ fun p hp=>?_
    ·rw[W9]
     refine⟨H,by simp,fun a ha' b hb=>?_⟩
     rw[Qj]at hb
     obtain⟨i,e,I⟩:=J a ha'
     intro e2
     rw[e,hb]at e2
     have:i=j:=by omega
     subst this
     rw[I]at W;cases W
    ·rcases Qn.1 hp with hp|hp
     ·obtain⟨i,e,I⟩:=J p hp
      exact⟨i,e,by rw[Qfn _ _ _ (by omega)];split<;>first|rfl|exact I⟩
     ·rw[Qj]at hp
      exact⟨j,hp,by rw[Qfn _ _ _ (by omega),if_pos rfl]⟩
theorem Whole.all {g:List Nd}{l d:List Int}{dm:List (Int×Int)}(W:Whole g l d dm){j:Nat}(I:j<g.length):(j:Int)∈l:=by
 have J:=Qdr g _ _ [] l W.ord (by simp) (by simp) (by simp)
 by_cases h:(j:Int)∈l
 ·exact h
 ·exfalso
  have O:=nodup_len (l:=(j:Int)::l) (m:=(List.range g.length).map Int.ofNat) (Wp.2 ⟨h,J⟩) fun x H=>by
   rcases Qk.1 H with rfl|H
   ·exact Qv.2 ⟨j,Xf.2 I,rfl⟩
   ·obtain⟨i,hi,e⟩:=Xe H
    obtain⟨k,n,e2,hk⟩:=W.plc i x (by rw[Qd hi,e])
    exact Qv.2 ⟨k,Xf.2 (Qc.1 hk).1,e2.symm⟩
  rw[Qh,Qw,Y1,W.llen]at O
  omega
theorem o_bf (g:List Nd)(done:List Bool): ∀(r k:Nat) (a:Int),k+r=g.length→0≤Qaf g done k (g.drop k) a→(0≤a∧Qaf g done k (g.drop k) a=a)∨∃(j:Nat) (n:Nd),Qaf g done k (g.drop k) a=(j:Int)∧g[j]?=some n∧bget done (j:Int)=false∧ready g done n=true
 |0,k,a,hk,h=>by rw[Q2 (by omega)]at h ⊢;exact .inl ⟨h,rfl⟩
 |r+1,k,a,hk,h=>by
  have O:g[k]?=some g[k]:=Qd (by omega)
  rw[firstF_x O]at h ⊢
  rcases o_bf g done r (k+1) _ (by omega) h with⟨H,I⟩|H
  ·by_cases J:(a<0∧bget done k=false)∧ready g done g[k]=true
   ·rw[if_pos J]at I ⊢;exact .inr ⟨k,g[k],I,O,J.1.2,J.2⟩
   ·rw[if_neg J]at H I ⊢;exact .inl ⟨H,I⟩
  ·exact .inr H
theorem Qer (g:List Nd)(done:List Bool)(kd:Int): ∀l:List Int,Qeh g done kd l=true↔(kd≠14→∀k∈l,bget done (idx g k)=true)
 | []=>⟨fun _ _ k hk=>(by cases hk),fun _=>rfl⟩
 |k::r=>by
  unfold Qeh
  by_cases h:kd≠14∧bget done (idx g k)=false
  ·rw[if_pos h]
   refine⟨fun h=>(by cases h),fun H=>?_⟩
   have:=H h.1 k (Qf ..)
   rw[h.2]at this;cases this
  ·rw[if_neg h,Qer g done kd r]
   refine⟨fun H J x I=>?_,fun H J x I=>H J x (Qe _ I)⟩
   rcases Qk.1 I with rfl|I
   ·cases O:bget done (idx g x)with
    |true=>rfl
    |false=>exact absurd ⟨J,O⟩ h
   ·exact H J x I
def OrdOk (g:List Nd)(l:List Int):Prop:=∀(i:Nat) (p:Int),l[i]?=some p→∃(j:Nat) (n:Nd),p=(j:Int)∧g[j]?=some n∧(n.2.1≠14→∀k∈n.2.2.1,idx g k∈l.take i)
structure Syn (g:List Nd) (done:List Bool) (l:List Int):Prop where
 len:done.length=g.length
 nod:l.Nodup
 syn: ∀j:Nat,j<g.length→(bget done (j:Int)=true↔(j:Int)∈l)
 ord:OrdOk g l
theorem Syn.zero (g:List Nd):Syn g (List.replicate g.length false) []:=by
 refine⟨by simp,X7,fun j H=>?_,fun i p h=>by cases h⟩
 unfold bget
 rw[Qq,Xc,if_pos H];simp
theorem Syn.step {g:List Nd}{done:List Bool}{l:List Int}(h:Syn g done l)(hf:Fed g){j:Nat}{n:Nd}(W:g[j]?=some n)(hb:bget done (j:Int)=false)(hr:ready g done n=true):Syn g (done.set j true) (l++[(j:Int)]):=by
 have hj:=(Qc.1 W).1
 have hnl:(j:Int)∉l:=fun hm=>by rw[(h.syn j hj).2 hm]at hb;cases hb
 refine⟨by rw[Wx];exact h.len,?_,fun i hi=>?_,fun i p hp=>?_⟩
 ·rw[W9]
  refine⟨h.nod,by simp,fun a ha b J=>?_⟩
  rw[Qj]at J
  intro e;rw[e,J]at ha;exact hnl ha
 ·rw[Qfn _ _ _ (by rw[h.len];exact hj),Qn,Qj]
  by_cases e:j=i
  ·subst e;simp
  ·rw[if_neg e,h.syn i hi]
   exact⟨.inl,fun h2=>h2.elim (fun I=>I) (fun I=>absurd I (by omega))⟩
 ·by_cases hil:i<l.length
  ·rw[Q8 hil]at hp
   obtain⟨k,m,e1,e2,e3⟩:=h.ord i p hp
   refine⟨k,m,e1,e2,fun H x O=>?_⟩
   rw[Xm (by omega)];exact e3 H x O
  ·have hi2:i=l.length:=by
    have:=(Qc.1 hp).1
    simp only[Qm,Qh,Qx]at this;omega
   subst hi2
   rw[Wg (Q0 _),Nat.sub_self]at hp
   injection hp with hp
   refine⟨j,n,hp.symm,W,fun H x O=>?_⟩
   rw[List.take_left]
   have h0:=hf n (Qg W) x O
   obtain⟨m,e1,_,_⟩:=idx_get h0
   have h2:=(Qer g done n.2.1 n.2.2.1).1 hr H x O
   have I:=(h.syn _ (Qc.1 e1).1)
   rw[Wb h0]at I
   exact I.1 h2
theorem Qhq (g:List Nd)(H:Fed g): ∀(r:Nat) (done:List Bool) (l l':List Int),Syn g done l→Qar g r done l=some l'→∃done',Syn g done' l'
 |0,done,l,l',h,e=>by unfold Qar at e;injection e with e;subst e;exact⟨done,h⟩
 |r+1,done,l,l',h,e=>by
  unfold Qar at e
  split at e
  ·cases e
  ·rename_i h0
   have hk:=o_bf g done g.length 0 (-1) (by omega) (by rw[Wc];omega)
   rw[Wc]at hk
   rcases hk with⟨I,_⟩|⟨j,n,I,J,O,W⟩
   ·omega
   ·rw[I,Qq]at e
    exact Qhq g H r _ _ l' (h.step H J O W) e
theorem Whole.syn {g:List Nd}{l d:List Int}{dm:List (Int×Int)}(W:Whole g l d dm): ∃done,Syn g done l:=Qhq g W.fed _ _ _ l (Syn.zero g) W.ord
def dOf (g:List Nd)(d:List Int)(k:Int):Int:=iget d (idx g k)
theorem depthOf_14 {n:Nd}(h:n.2.1=14)(a b:List Int):depthOf n a=depthOf n b:=by unfold depthOf Qcw;rw[if_pos h,if_pos h]
theorem inc_idx {g:List Nd}(H:Inc g){j:Nat}{n:Nd}(I:g[j]?=some n):idx g n.1=(j:Int):=H.idx I
theorem Qfu (d:List Int)(j k:Nat)(v:Int)(H:j<d.length):iget (d.set j v) (k:Int)=if j=k then v else iget d (k:Int):=by
 unfold iget
 rw[Qq,Y0]
 by_cases h:j=k
 ·subst h;simp[H]
 ·rw[if_neg h,if_neg h]
theorem at_nat {g:List Nd}{j:Nat}{n:Nd}(H:g[j]?=some n):at_ g (j:Int)=n:=Qax rfl H
theorem Qfi {g:List Nd}{l:List Int}(hf:Fed g)(ho:OrdOk g l)(O:l.Nodup): ∀(r k:Nat) (d d':List Int),k+r=l.length→d.length=g.length→Qam g (l.drop k) d=some d'→d'.length=g.length∧(∀j:Nat,(j:Int)∈l.take k→iget d' (j:Int)=iget d (j:Int))∧∀(i:Nat) (j:Nat) (n:Nd),k≤i→l[i]?=some (j:Int)→g[j]?=some n→iget d' (j:Int)=depthOf n (n.2.2.1.map (dOf g d'))∧0≤iget d' (j:Int)
 |0,k,d,d',hk,hd,h=>by
  rw[Q2 (by omega)]at h
  injection h with h;subst h
  exact⟨hd,fun j _=>rfl,fun i j n hi I _=>by have:=(Qc.1 I).1;omega⟩
 |r+1,k,d,d',hk,hd,h=>by
  have J:l[k]?=some l[k]:=Qd (by omega)
  obtain⟨j,n,W,hn,hin⟩:=ho k _ J
  have hj:=(Qc.1 hn).1
  rw[depthsF_x (n:=n) J (by rw[W];exact at_nat hn)]at h
  split at h
  ·cases h
  rename_i h0
  rw[W,Qq]at h
  obtain⟨a1,a2,a3⟩:=Qfi hf ho O r (k+1) _ d' (by omega) (by rw[Wx];exact hd) h
  have hjt:(j:Int)∈l.take (k+1):=by rw[Qcv J,W];simp
  have hjk:(j:Int)∉l.take k:=fun hm=>by
   have h3:=O
   rw[←Xj k l,W9]at h3
   refine h3.2.2 _ hm (j:Int) ?_ rfl
   rw[A.dropx J,W];simp
  have keep: ∀i:Nat,(i:Int)∈l.take k→iget d' (i:Int)=iget d (i:Int):=fun i hi=>by
   rw[a2 i (by rw[Qcv J];exact Q6 _ hi),Qfu _ _ _ _ (by omega),if_neg (fun e=>hjk (by rw[e];exact hi))]
  have hjv:iget d' (j:Int)=depthOf n (n.2.2.1.map (dOf g d')):=by
   rw[a2 j hjt,Qfu _ _ _ _ (by omega),if_pos rfl]
   by_cases h14:n.2.1=14
   ·exact depthOf_14 h14 _ _
   ·congr 1
    refine List.map_congr_left fun x hx2=>?_
    have h4:=hin h14 x hx2
    have h5:=hf n (Qg hn) x hx2
    unfold dOf
    have h6:=keep (idx g x).toNat
    rw[Wb h5]at h6
    exact(h6 h4).symm
  have hj0:0≤iget d' (j:Int):=by
   rw[a2 j hjt,Qfu _ _ _ _ (by omega),if_pos rfl];omega
  refine⟨a1,keep,fun i j2 n2 hi I H=>?_⟩
  by_cases hik:i=k
  ·subst hik
   rw[J,W]at I;injection I with I
   have:j=j2:=by omega
   subst this
   rw[hn]at H;injection H with H;subst H
   exact⟨hjv,hj0⟩
  ·exact a3 i j2 n2 (by omega) I H
theorem Whole.fix {g:List Nd}{l d:List Int}{dm:List (Int×Int)}(W:Whole g l d dm){n:Nd}(J:n∈g):dOf g d n.1=depthOf n (n.2.2.1.map (dOf g d))∧0≤dOf g d n.1:=by
 obtain⟨done,S⟩:=W.syn
 obtain⟨j,H,e⟩:=Xe J
 have I:g[j]?=some n:=by rw[Qd H,e]
 obtain⟨i,O,e2⟩:=Xe (W.all H)
 have h:=Qfi W.fed S.ord S.nod l.length 0 (List.replicate g.length 0) d (by omega) (by simp) (by rw[Wc];exact W.dep)
 have:=h.2.2 i j n (Xn _) (by rw[Qd O,e2]) I
 unfold dOf
 rw[inc_idx W.inc I];exact this
def F.cl (a:Int×Int×Int×Int×(Int×Int×Int×Int)):Option Int:=(F.ad a).bind fun r=>if r≠0 then some 0 else some (a.2.1+a.2.2.2.1)
theorem Qfs (g:List Nd)(d:List Int)(id:Int): ∀(k:Nat) (l:List Int) (j:Nat) (z:Int),l[j]?=some z→((id,((k+j:Nat):Int)),iget d (idx g z))∈insS g d id k l
 |_,[],j,z,h=>by simp at h
 |k,y::r,j,z,h=>by
  unfold insS
  cases j with
  |zero=>simp at h;subst h;exact Qf ..
  |succ j=>
   have:=Qfs g d id (k+1) r j z (by simpa using h)
   rw[show k+1+j=k+(j+1) by omega]at this
   exact Qe _ this
theorem spotsF_outP {g:List Nd}(d:List Int): ∀(i:Nat) (l:List Nd) (j:Nat) (n:Nd),l[j]?=some n→n.2.1≠15→((n.1,2),iget d ((i+j:Nat):Int))∈spotsF g d i l
 |_,[],j,n,h,_=>by simp at h
 |i,m::r,j,n,h,H=>by
  unfold spotsF
  cases j with
  |zero=>
   simp at h;subst h
   exact Q9 _ (Q6 _ (by unfold outS;rw[if_pos H];exact Yd _))
  |succ j=>
   have:=spotsF_outP (g:=g) d (i+1) r j n (by simpa using h) H
   rw[show i+1+j=i+(j+1) by omega]at this
   exact Q9 _ (Q9 _ this)
theorem useN_inv (id nd:Int): ∀(k:Nat) (l:List Int) (u:Pl),u∈useN id nd k l→∃j:Nat,u=(nd,((k+j:Nat):Int))∧l[j]?=some id
 |_,[],u,h=>by cases h
 |k,z::r,u,h=>by
  have go:u∈useN id nd (k+1) r→∃j:Nat,u=(nd,((k+j:Nat):Int))∧(z::r)[j]?=some id:=fun h=>by
   obtain⟨j,H,I⟩:=useN_inv id nd (k+1) r u h
   exact⟨j+1,by rw[H,show k+1+j=k+(j+1) by omega],by simpa using I⟩
  unfold useN at h
  split at h
  ·rename_i J
   rcases Qk.1 h with rfl|h
   ·exact⟨0,rfl,by rw[←J];rfl⟩
   ·exact go h
  ·exact go h
theorem Qih (id:Int): ∀(l:List Nd) (u:Pl),u∈Qat id l→∃n∈l,∃j:Nat,u=(n.1,(j:Int))∧n.2.2.1[j]?=some id
 | [],u,h=>by cases h
 |n::r,u,h=>by
  unfold Qat at h
  rcases Qn.1 h with h|h
  ·obtain⟨j,H,I⟩:=useN_inv id n.1 0 n.2.2.1 u h
   rw[Wh]at H
   exact⟨n,Qf ..,j,H,I⟩
  ·obtain⟨m,H,I⟩:=Qih id r u h
   exact⟨m,Qe _ H,I⟩
theorem Qjg (g:List Nd)(d:List Int)(n:Nd): ∀(k:Nat) (l:List Int) (e:Ed),e∈inE g d n k l→∃(j:Nat) (z:Int),l[j]?=some z∧e=((n.1,((k+j:Nat):Int)),(n.1,2),Qak n (iget d (idx g z)))
 |_,[],e,h=>by cases h
 |k,z::r,e,h=>by
  unfold inE at h
  rcases Qk.1 h with rfl|h
  ·exact⟨0,z,rfl,rfl⟩
  ·obtain⟨j,y,H,I⟩:=Qjg g d n (k+1) r e h
   exact⟨j+1,y,by simpa using H,by rw[I,show k+1+j=k+(j+1) by omega]⟩
theorem Qco {g:List Nd}(d:List Int): ∀(i:Nat) (l:List Nd) (e:Ed),e∈edgesF g d i l→∃(j:Nat) (n:Nd),l[j]?=some n∧n.2.1≠15∧(e∈inE g d n 0 n.2.2.1∨e∈outE g n (iget d ((i+j:Nat):Int)))
 |_,[],e,h=>by cases h
 |i,n::r,e,h=>by
  have go:e∈edgesF g d (i+1) r→∃(j:Nat) (m:Nd),(n::r)[j]?=some m∧m.2.1≠15∧(e∈inE g d m 0 m.2.2.1∨e∈outE g m (iget d ((i+j:Nat):Int))):=fun h=>by
   obtain⟨j,m,J,O,I⟩:=Qco d (i+1) r e h
   rw[show i+1+j=i+(j+1) by omega]at I
   exact⟨j+1,m,by simpa using J,O,I⟩
  unfold edgesF at h
  split at h
  ·exact go h
  ·rename_i H
   rcases Qn.1 h with h|h
   ·exact⟨0,n,rfl,H,.inl h⟩
   ·rcases Qn.1 h with h|h
    ·exact⟨0,n,rfl,H,.inr h⟩
    ·exact go h
theorem EndsId (d:Int)(H:0≤d∧d≤4):(idP d).1.1=d∧F.cl (idP d).1=some d:=five (P:=fun d=>(idP d).1.1=d∧F.cl (idP d).1=some d) ⟨rfl,by kernel_rfl⟩ ⟨rfl,by kernel_rfl⟩ ⟨rfl,by kernel_rfl⟩ ⟨rfl,by kernel_rfl⟩ ⟨rfl,by kernel_rfl⟩ d H
theorem Qig (d:Int)(H:0≤d∧d≤4):d≤3→(Qas d).1.1=d∧F.cl (Qas d).1=some (d+1):=five (P:=fun d=>d≤3→(Qas d).1.1=d∧F.cl (Qas d).1=some (d+1)) (fun _=>⟨rfl,by kernel_rfl⟩) (fun _=>⟨rfl,by kernel_rfl⟩) (fun _=>⟨rfl,by kernel_rfl⟩) (fun _=>⟨rfl,by kernel_rfl⟩) (fun h=>absurd h (by decide)) d H
theorem Qhj (d:Int)(H:0≤d∧d≤4):1≤d→(Qau d).1.1=d∧F.cl (Qau d).1=some (d-1):=five (P:=fun d=>1≤d→(Qau d).1.1=d∧F.cl (Qau d).1=some (d-1)) (fun h=>absurd h (by decide)) (fun _=>⟨rfl,by kernel_rfl⟩) (fun _=>⟨rfl,by kernel_rfl⟩) (fun _=>⟨rfl,by kernel_rfl⟩) (fun _=>⟨rfl,by kernel_rfl⟩) d H
theorem EndsNext (d:Int)(H:0≤d∧d≤4):1≤d→(Qct d).1.1=d∧F.cl (Qct d).1=some d:=five (P:=fun d=>1≤d→(Qct d).1.1=d∧F.cl (Qct d).1=some d) (fun h=>absurd h (by decide)) (fun _=>⟨rfl,by kernel_rfl⟩) (fun _=>⟨rfl,by kernel_rfl⟩) (fun _=>⟨rfl,by kernel_rfl⟩) (fun _=>⟨rfl,by kernel_rfl⟩) d H
theorem within_ends {n:Nd}{L:List Int}{x:Int}{j:Nat}(O:L[j]?=some x)(hq:ownQ n=true)(hlen:L.length=n.2.2.1.length)(h15:n.2.1≠15)(H:0≤depthOf n L)(hx:0≤x∧x≤4)(h14:n.2.1=14→x=n.2.2.2.2.2.2∧1≤x):
  (Qak n x).1=x∧F.cl (Qak n x)=some (depthOf n L):=by
 have hj:=(Qc.1 O).1
 have hin:=own_ins hq
 have hl:=own_len hq
 unfold depthOf capd Qcw at H ⊢
 unfold Qak
 have one:n.2.1≠5→n.2.1≠9→d0 L=x:=fun a b=>by
  have J:L.length=1:=by rcases hl with h|h|h<;>omega
  obtain⟨y,rfl⟩: ∃y,L=[y]:=by
   cases L with
   |nil=>simp at J
   |cons y r=>cases r with
    |nil=>exact⟨y,rfl⟩
    |cons _ _=>simp at J
  obtain rfl:j=0:=by simp at hj;exact hj
  simp at O;subst O;rfl
 by_cases c14:n.2.1=14
 ·obtain⟨e1,e2⟩:=h14 c14
  rw[if_neg (by omega),if_neg (by omega),if_pos c14,if_pos c14,←e1,if_neg (by omega)]
  exact EndsNext x hx e2
 rw[if_neg c14]at H
 rw[if_neg c14,if_neg c14]
 by_cases c12:n.2.1=12
 ·rw[if_pos c12,one (by omega) (by omega)]at H ⊢
  rw[if_pos c12]
  have h3:x≤3:=by split at H<;>omega
  rw[if_neg (by omega)]
  exact Qig x hx h3
 rw[if_neg c12]at H ⊢
 rw[if_neg c12]
 by_cases c13:n.2.1=13
 ·rw[if_pos c13,one (by omega) (by omega)]at H ⊢
  rw[if_pos c13]
  have h3:1≤x:=by split at H<;>omega
  rw[if_neg (by omega)]
  exact Qhj x hx h3
 rw[if_neg c13]at H ⊢
 rw[if_neg c13]
 suffices h:(if 4<(if n.2.1=5∨n.2.1=9 then(if iget L 0≠iget L 1 then-1 else d0 L)else if n.2.1=11∨n.2.1=16∨n.2.1=15 then(if d0 L≠0 then-1 else d0 L)else d0 L)then-1 else(if n.2.1=5∨n.2.1=9 then(if iget L 0≠iget L 1 then-1 else d0 L)else if n.2.1=11∨n.2.1=16∨n.2.1=15 then(if d0 L≠0 then-1 else d0 L)else d0 L))=x by
  rw[h];exact EndsId x hx
 by_cases c59:n.2.1=5∨n.2.1=9
 ·rw[if_pos c59]at H ⊢
  have J:L.length=2:=by rcases hl with h|h|h<;>omega
  obtain⟨y,z,rfl⟩: ∃y z,L=[y,z]:=by
   cases L with
   |nil=>simp at J
   |cons y r=>cases r with
    |nil=>simp at J
    |cons z r=>cases r with
     |nil=>exact⟨y,z,rfl⟩
     |cons _ _=>simp at J
  have e0:iget [y,z] 0=y:=rfl
  have e1:iget [y,z] 1=z:=rfl
  have e2:d0 [y,z]=y:=rfl
  rw[e0,e1,e2]at H ⊢
  by_cases I:y≠z
  ·rw[if_pos I]at H;rw[if_neg (by omega)]at H;omega
  ·rw[if_neg I]at H ⊢
   have I:y=z:=Q4 I
   subst I
   have hxy:y=x:=by
    rcases Y5 j 1 with hj1|hj1
    ·obtain rfl:j=0:=by omega
     simpa using O
    ·obtain rfl:j=1:=by simp at hj;omega
     simpa using O
   subst hxy
   rw[if_neg (by omega)]
 ·rw[if_neg c59,one (by omega) (by omega)]at H ⊢
  by_cases c:n.2.1=11∨n.2.1=16∨n.2.1=15
  ·rw[if_pos c]at H ⊢
   by_cases W:x≠0
   ·rw[if_pos W]at H;rw[if_neg (by omega)]at H;omega
   ·rw[if_neg W,if_neg (by omega)]
  ·rw[if_neg c,if_neg (by omega)]
theorem own_c {n:Nd}(h:ownQ n=true): ¬ownC n:=fun H=>by
 unfold ownQ at h
 split at h
 ·cases h
 ·first|cases h|(rw[if_pos H]at h;cases h)
theorem named_16 {s:ByteArray}(h:named s=true):s.size≤16:=by
 unfold named at h
 simp only[Ql,decide_eq_true_eq]at h
 omega
theorem own_16 {n:Nd}(h:ownQ n=true):n.2.2.2.2.1.size≤16:=by
 unfold ownQ at h
 split at h
 ·cases h
 ·split at h
  ·cases h
  ·split at h
   ·exact named_16 h
   ·rw[decide_eq_true_iff]at h;rw[h];decide
theorem dec_4 (s:ByteArray)(p:Nat):(Utf8.decode s p).2≤4:=by
 have h:=wid_4 s p
 unfold wid at h
 split at h
 ·rename_i e;rw[e];decide
 ·exact h
theorem cnt_4 {s:ByteArray}(h:cnt s s.size 0=1):s.size≤4:=by
 cases H:s.size with
 |zero=>omega
 |succ n=>
  rw[H,cnt,if_pos (by omega)]at h
  have I:=dec_4 s 0
  cases n with
  |zero=>omega
  |succ n=>
   rw[cnt]at h
   split at h
   ·omega
   ·omega
theorem text_16 {f:Fun}(h:Qgj f=true):f.2.2.size≤16:=by
 unfold Qgj at h
 split at h
 ·simp only[Ql,decide_eq_true_eq]at h;omega
 ·split at h
  ·simp only[Ql,decide_eq_true_eq]at h
   have:=cnt_4 h.1;omega
  ·rw[decide_eq_true_iff]at h;rw[h];decide
theorem chk_16 {k:Int}{f:Fun}(h:chk k f=0):f.2.2.size≤16:=by
 unfold chk at h
 split at h
 ·split at h
  ·rename_i I;rw[I];decide
  ·cases h
 ·unfold anyF at h
  split at h
  ·rename_i J
   obtain⟨y,_,H⟩:=Xq.1 J
   simp only[Ql]at H
   exact text_16 H.2.2
  ·cases h
theorem small_of {g:List Nd}(O:g.length≤32)(H:okL g 0 0 g=true)(W:g.all (fun n=>decide (chk n.2.1 n.2.2.2.1=0))=true):Few g:=by
 have J:=own_of H
 refine⟨by omega,fun x I=>⟨by have:=in2 J I;omega,by have:=own_16 (J x I);omega,?_⟩⟩
 have:=chk_16 (of_decide_eq_true (Qy.1 W x I))
 omega
theorem whole_all (g:List Nd)(h: ∀x∈g,x.2.2.2.2.1.size≤9223372036854775807∧x.2.2.2.1.2.2.size≤9223372036854775807):Few g∨∃e,e≠0∧F.bW g=some (none,e):=by
 unfold F.bW
 by_cases I:(32:Int)<(g.length:Int)
 ·rw[if_pos I];exact .inr ⟨80,by decide,rfl⟩
 rw[if_neg I,whole_l6 g (by omega) (fun x J=>(h x J).1)]
 by_cases H:okL g 0 0 g=true
 case neg=>rw[if_neg H];exact .inr ⟨80,by decide,rfl⟩
 rw[if_pos H,whole_l5 g _ (by omega) (fun x J=>(h x J).2)]
 by_cases O:g.all (fun n=>decide (chk n.2.1 n.2.2.2.1=0))=true
 case neg=>rw[if_neg O];exact .inr ⟨60,by decide,rfl⟩
 exact .inl (small_of (by omega) H O)
def RT {α:Type}(R:α→α→Prop)(a b:α):Prop:=a=b∨Rch R a b
theorem Rch.mono {α:Type}{R S:α→α→Prop}(h: ∀a b,R a b→S a b){a b:α}(I:Rch R a b):Rch S a b:=by
 induction I with
 |one H=>exact .one (h _ _ H)
 |step _ H J=>exact .step J (h _ _ H)
theorem RT.mono {α:Type}{R S:α→α→Prop}(h: ∀a b,R a b→S a b){a b:α}(H:RT R a b):RT S a b:=H.imp id fun I=>I.mono h
theorem Rch.app {α:Type}{R:α→α→Prop}{a b c:α}(H:Rch R a b)(I:Rch R b c):Rch R a c:=by
 induction I with
 |one h=>exact .step H h
 |step _ h J=>exact .step J h
theorem RT.app {α:Type}{R:α→α→Prop}{a b c:α}(H:RT R a b)(I:Rch R b c):Rch R a c:=by
 rcases H with rfl|H
 ·exact I
 ·exact H.app I
theorem RT.app2 {α:Type}{R:α→α→Prop}{a b c:α}(I:Rch R a b)(H:RT R b c):Rch R a c:=by
 rcases H with rfl|H
 ·exact I
 ·exact I.app H
theorem RT.snoc {α:Type}{R:α→α→Prop}{a b c:α}(H:RT R a b)(I:R b c):Rch R a c:=RT.app H (.one I)
structure Kd (s:Sm) (a b:Int) (up:Prop):Prop where
 from_:s.1=a
 ends:s.2.1+s.2.2.2.1=b
 kept:(s.2.1=a∧a≤b)∨(s.2.1=b∧b=a-1∧s.2.2.1=0)
 add0:0≤s.2.2.1
 addU:up→s.2.1=a∧s.2.2.1=1
theorem kd_id {x b:Int}(H:0≤x∧x≤4)(h:F.cl (idP x).1=some b){up:Prop}(I: ¬up):Kd (idP x).1 x b up:=by
 have J:=EndsId x H
 rw[J.2]at h
 obtain rfl:=Qo h
 have e:idP x=((x,x,0,0,(0,0,0,0)),0):=by unfold idP Qbo;rw[if_neg (by omega)]
 rw[e]
 exact⟨rfl,by show x+0=x;omega,.inl ⟨rfl,Xa _⟩,Xa _,fun h=>absurd h I⟩
theorem kd_enter {x b:Int}(I:0≤x∧x≤4)(H:(Qas x).1.1=x)(h:F.cl (Qas x).1=some b){up:Prop}(J: ¬up):Kd (Qas x).1 x b up:=by
 have O:x≤3:=by
  by_cases W:x≤3
  ·exact W
  ·have e:Qas x=(z8,11):=by unfold Qas Qbo;rw[if_pos (.inr (by omega))]
   rw[e]at H
   have:(0:Int)=x:=H
   omega
 have h2:=Qig x I O
 rw[h2.2]at h
 obtain rfl:=Qo h
 have e:Qas x=((x,x,0,1,(0,0,0,0)),0):=by unfold Qas Qbo;rw[if_neg (by omega)]
 rw[e]
 exact⟨rfl,rfl,.inl ⟨rfl,by omega⟩,Xa _,fun h=>absurd h J⟩
theorem kd_leave {x b:Int}(I:0≤x∧x≤4)(H:1≤x)(h:F.cl (Qau x).1=some b){up:Prop}(J: ¬up):Kd (Qau x).1 x b up:=by
 have O:=Qhj x I H
 rw[O.2]at h
 obtain rfl:=Qo h
 have e:Qau x=((x,x-1,0,0,(0,0,0,0)),0):=by unfold Qau Qbo;rw[if_neg (by omega)]
 rw[e]
 exact⟨rfl,by show x-1+0=x-1;omega,.inr ⟨rfl,rfl,rfl⟩,Xa _,fun h=>absurd h J⟩
theorem kd_next {x b:Int}(I:0≤x∧x≤4)(H:1≤x)(h:F.cl (Qct x).1=some b){up:Prop}:Kd (Qct x).1 x b up:=by
 have J:=EndsNext x I H
 rw[J.2]at h
 obtain rfl:=Qo h
 have e:Qct x=((x,x,1,0,(0,0,0,0)),0):=by unfold Qct Qbo;rw[if_neg (by omega)]
 rw[e]
 exact⟨rfl,by show x+0=x;omega,.inl ⟨rfl,Xa _⟩,by show(0:Int)≤1;omega,fun _=>⟨rfl,rfl⟩⟩
theorem node_one {g:List Nd}(I:Inc g){n m:Nd}(J:n∈g)(O:m∈g)(h:m.1=n.1):m=n:=by
 have W:=(Qhb I J ((0,0,[],(0,0,(ByteArray.mk #[])),(ByteArray.mk #[]),0,0):Nd)).2
 have H:=(Qhb I O ((0,0,[],(0,0,(ByteArray.mk #[])),(ByteArray.mk #[]),0,0):Nd)).2
 rw[h,W]at H
 injection H with H
 exact H.symm
theorem Qiu {g:List Nd}{l d:List Int}{dm:List (Int×Int)}(W:Whole g l d dm){e:Ed}(he:e∈edges g d):
  ∃a b,(e.1,a)∈spots g d∧(e.2.1,b)∈spots g d∧Kd e.2.2 a b ((∃n∈g,n.1=e.1.1∧n.2.1=14)∧e.1.2≠2)∧∀n∈g,n.1=e.1.1→n.2.1=14→e.1.2≠2→a=n.2.2.2.2.2.2:=by
 obtain⟨j,n,hn,h15,h|h⟩:=Qco d 0 g e he
 ·obtain⟨k,z,hz,rfl⟩:=Qjg g d n 0 n.2.2.1 e h
  have hng:=Qg hn
  have hfix:=W.fix hng
  have hidx:=W.inc.idx hn
  have h14x:n.2.1=14→iget d (idx g z)=n.2.2.2.2.2.2∧1≤iget d (idx g z):=fun I=>by
   have hl:=W.lps
   rw[Qbn,Xt]at hl
   have O:=Xu.1 hl n hng
   rw[decide_eq_true_iff,not_and]at O
   have h2:=Jp.1 (O I)
   have hlen:=own_len (W.own n hng)
   have hk:=(Qc.1 hz).1
   obtain rfl:k=0:=by omega
   have hz0:iget n.2.2.1 0=z:=by unfold iget;show(n.2.2.1[0]?).getD 0=z;rw[hz];rfl
   rw[hz0]at h2
   refine⟨h2,?_⟩
   have hc:=own_c (W.own n hng)
   unfold ownC at hc
   rw[h2];omega
  have hw:=within_ends (n:=n) (L:=n.2.2.1.map (dOf g d)) (x:=iget d (idx g z)) (j:=k) (by rw[Qu,hz];rfl) (W.own n hng) (by rw[Qw]) h15 (by rw[←hfix.1];exact hfix.2) (W.inb _) h14x
  obtain⟨J,H⟩:=hw
  rw[←hfix.1,dOf,hidx]at H
  refine⟨iget d (idx g z),iget d ((0+j:Nat):Int),Qbb d 0 g n hng _ (Qfs g d n.1 0 n.2.2.1 k z hz),spotsF_outP d 0 g j n hn h15,?_,fun m hm hmn I _=>?_⟩
  ·rw[Wh j]
   show Kd (Qak n (iget d (idx g z))) _ _ _
   have up14:((∃m∈g,m.1=n.1∧m.2.1=14)∧((0+k:Nat):Int)≠2)→n.2.1=14:=fun⟨⟨m,hm,O,h2⟩,_⟩=>by rw[←node_one W.inc hng hm O];exact h2
   unfold Qak at J H ⊢
   by_cases h12:n.2.1=12
   ·rw[if_pos h12]at J H ⊢
    exact kd_enter (W.inb _) J H fun hu=>by have:=up14 hu;omega
   rw[if_neg h12]at J H ⊢
   by_cases h13:n.2.1=13
   ·rw[if_pos h13]at J H ⊢
    have hx1:1≤iget d (idx g z):=by
     by_cases O:1≤iget d (idx g z)
     ·exact O
     ·have e:Qau (iget d (idx g z))=(z8,11):=by unfold Qau Qbo;rw[if_pos (.inl (by omega))]
      have h0:=hfix.2
      have hlen:=own_len (W.own n hng)
      have hk:=(Qc.1 hz).1
      obtain rfl:k=0:=by omega
      have hd0:d0 (n.2.2.1.map (dOf g d))=iget d (idx g z):=by
       rw[←Qix];unfold iget;show((n.2.2.1.map (dOf g d))[0]?).getD 0=_;rw[Qu,hz];rfl
      have hx:=W.inb (idx g z)
      rw[hfix.1]at h0
      unfold depthOf Qcw capd at h0
      rw[if_neg (by omega),if_neg h12,if_pos h13,hd0]at h0
      split at h0<;>omega
    exact kd_leave (W.inb _) hx1 H fun hu=>by have:=up14 hu;omega
   rw[if_neg h13]at J H ⊢
   by_cases I:n.2.1=14
   ·rw[if_pos I]at J H ⊢
    exact kd_next (W.inb _) (h14x I).2 H
   ·rw[if_neg I]at J H ⊢
    exact kd_id (W.inb _) H fun hu=>I (up14 hu)
  ·obtain rfl:=node_one W.inc hng hm hmn
   exact(h14x I).1
 ·unfold outE at h
  obtain⟨u,hu,rfl⟩:=Qv.1 h
  obtain⟨m,hm,k,rfl,hk⟩:=Qih n.1 g u hu
  have hidx:=W.inc.idx hn
  have O:=Qfs g d m.1 0 m.2.2.1 k n.1 hk
  rw[hidx,Wh]at O
  have h2:=spotsF_outP (g:=g) d 0 g j n hn h15
  rw[Wh]at h2 ⊢
  have h3:=EndsId (iget d (j:Int)) (W.inb _)
  exact⟨iget d (j:Int),iget d (j:Int),h2,Qbb d 0 g m hm _ O,kd_id (W.inb _) h3.2 fun hu=>hu.2 rfl,fun _ _ _ _ h=>absurd rfl h⟩
abbrev Dp (g:List Nd) (d:List Int) (p:Pl):Int:=Z.mget 0 (spots g d) p
def okW (g:List Nd)(d:List Int)(m:Int)(p q:Pl):Prop:=∃e∈edges g d,e.1=p∧e.2.1=q∧m≤Dp g d p∧m≤Dp g d q
structure Wy0 (g:List Nd) (d:List Int) (p0 pk:Pl) (s:Sm):Prop where
 from_:s.1=Dp g d p0
 ends:s.2.1+s.2.2.2.1=Dp g d pk
 low:s.2.1≤Dp g d p0∧s.2.1≤Dp g d pk
 add0:0≤s.2.2.1
 way:RT (okW g d s.2.1) p0 pk
 turn:1≤s.2.2.1∨∃q,(q,s.2.1)∈spots g d∧RT (okE g (spots g d) (edges g d) s.2.1) p0 q∧RT (okE g (spots g d) (edges g d) s.2.1) q pk
structure Wy (g:List Nd) (d:List Int) (p0 pk:Pl) (s:Sm):Prop where
 weak:Wy0 g d p0 pk s
 turn:1≤s.2.2.1∨∃q,(q,s.2.1)∈spots g d∧RT (okE g (spots g d) (edges g d) s.2.1) p0 q∧RT (okE g (spots g d) (edges g d) s.2.1) q pk∧(Rch (okE g (spots g d) (edges g d) s.2.1) p0 q∨Rch (okE g (spots g d) (edges g d) s.2.1) q pk)
theorem Wy.mk' {g:List Nd}{d:List Int}{H pk:Pl}{s:Sm}(I:s.1=Dp g d H)(J:s.2.1+s.2.2.2.1=Dp g d pk)(O:s.2.1≤Dp g d H∧s.2.1≤Dp g d pk)(W:0≤s.2.2.1)(h5:RT (okW g d s.2.1) H pk)
  (h6:1≤s.2.2.1∨∃q,(q,s.2.1)∈spots g d∧RT (okE g (spots g d) (edges g d) s.2.1) H q∧RT (okE g (spots g d) (edges g d) s.2.1) q pk∧(Rch (okE g (spots g d) (edges g d) s.2.1) H q∨Rch (okE g (spots g d) (edges g d) s.2.1) q pk)):Wy g d H pk s:=
 ⟨⟨I,J,O,W,h5,h6.imp id fun⟨q,a,b,c,_⟩=>⟨q,a,b,c⟩⟩,h6⟩
theorem okW_E {g:List Nd}{l d:List Int}{dm:List (Int×Int)}(W:Whole g l d dm){m m2:Int}(hm:m<m2){p q:Pl}(h:okW g d m2 p q):okE g (spots g d) (edges g d) m p q:=by
 obtain⟨e,O,J,h2,h3,h4⟩:=h
 rw[Qgt W.inc W.own]
 refine⟨⟨e,O,J,h2⟩,by show m≤Dp g d q;omega,?_⟩
 by_cases h5:p.2=2
 ·exact .inr h5
 ·left
  intro hb
  obtain⟨n,hn,H⟩:=Qcg d O
  obtain⟨a,b,ha,_,_,hD⟩:=Qiu W O
  have hN:=nodup_S (d:=d) W.inc W.own
  have hpa:Dp g d p=a:=by rw[←J];exact mget_mem hN ha
  obtain⟨I,hb2⟩:=hb
  rw[←J,H,(Qhb W.inc hn _).1]at I hb2
  have:=hD n hn H.symm I (by rw[J];exact h5)
  omega
theorem way_step {g:List Nd}{l d:List Int}{dm:List (Int×Int)}(W:Whole g l d dm){p0 pk:Pl}{s s':Sm}(h:Wy0 g d p0 pk s){e:Ed}(he:e∈edges g d)(H:e.1=pk)(ht:Th s e.2.2 s'):Wy g d p0 e.2.1 s':=by
 obtain⟨a,b,ha,hb,K,hD⟩:=Qiu W he
 have hN:=nodup_S (d:=d) W.inc W.own
 have ea:Dp g d pk=a:=by rw[←H];exact mget_mem hN ha
 have eb:Dp g d e.2.1=b:=mget_mem hN hb
 obtain⟨f1,f2,⟨f3,f4⟩,f5,f6,f7⟩:=h
 obtain⟨t1,t2,t3,t4⟩:=ht
 obtain⟨k1,k2,k3,k4,k5⟩:=K
 obtain⟨n,hn,hne⟩:=Qcg d he
 have hblk: ∀m:Int,blk g m pk→pk.2≠2→e.2.2.2.1=a∧e.2.2.2.2.1=1∧a=m:=fun m hb I=>by
  obtain⟨hb1,J⟩:=hb
  rw[←H,hne,(Qhb W.inc hn _).1]at hb1 J
  have h2':e.1.2≠2:=by rw[H];exact I
  obtain⟨h3,h4⟩:=k5 ⟨⟨n,hn,hne.symm,hb1⟩,h2'⟩
  exact⟨h3,h4,(hD n hn hne.symm hb1 h2').trans J⟩
 have hok: ∀m:Int,m≤b→(blk g m pk→pk.2≠2→False)→okE g (spots g d) (edges g d) m pk e.2.1:=fun m hm hno=>by
  rw[Qgt W.inc W.own]
  refine⟨⟨e,he,H,rfl⟩,by show m≤Dp g d e.2.1;omega,?_⟩
  by_cases I:pk.2=2
  ·exact .inr I
  ·exact .inl fun hb=>hno hb I
 by_cases hk:s.2.1≤e.2.2.2.1
 ·have e2:s'.2.1=s.2.1:=by rw[t2];omega
  have J:s.2.1≤b:=by rcases k3 with⟨h1,I⟩|⟨h1,_⟩<;>omega
  rw[if_pos hk]at t3
  have add1:s'.2.2.1=s.2.2.1+(if e.2.2.2.1≤s.2.1 then e.2.2.2.2.1 else 0):=t3
  have add2:s.2.2.1≤s'.2.2.1:=by rw[add1];split<;>omega
  refine .mk' (by rw[t1,f1]) (by rw[t4,k2,eb]) (by rw[e2,eb];exact⟨f3,J⟩) (by omega) ?_ ?_
  ·rw[e2];exact .inr (RT.snoc f6 ⟨e,he,H,rfl,by omega,by omega⟩)
  ·by_cases h1:1≤s'.2.2.1
   ·exact .inl h1
   ·obtain⟨q,q1,q2,q3⟩:=f7.resolve_left (by omega)
    have O:=hok s.2.1 J fun hb I=>by
     obtain⟨u1,u2,u3⟩:=hblk _ hb I
     rw[if_pos (by omega)]at add1;omega
    rw[e2]
    exact .inr ⟨q,q1,q2,.inr (RT.snoc q3 O),.inr (RT.snoc q3 O)⟩
 ·have hlt:e.2.2.2.1<s.2.1:=by omega
  obtain⟨u1,u2,u3⟩:=k3.resolve_left fun h=>by omega
  have e2:s'.2.1=b:=by rw[t2];omega
  rw[if_neg hk]at t3
  have add1:s'.2.2.1=0:=by rw[t3,if_pos (by omega)];show 0+e.2.2.2.2.1=0;omega
  have O:=hok b (Xa _) fun hb I=>by have:=(hblk _ hb I).2.2;omega
  have hway:RT (okE g (spots g d) (edges g d) b) p0 pk:=f6.mono fun x y h=>okW_E W (by omega) h
  refine .mk' (by rw[t1,f1]) (by rw[t4,k2,eb]) (by rw[e2,eb];exact⟨by omega,Xa _⟩) (by omega) ?_ (.inr ⟨e.2.1,by rw[e2];exact hb,?_,.inl rfl,.inl ?_⟩)
  ·rw[e2]
   exact .inr (RT.snoc (f6.mono fun x y ⟨e3,h1,I,h3,h4,h5⟩=>⟨e3,h1,I,h3,by omega,by omega⟩) ⟨e,he,H,rfl,by omega,by omega⟩)
  ·rw[e2];exact .inr (RT.snoc hway O)
  ·rw[e2];exact RT.snoc hway O
theorem way_turn {g:List Nd}{l d:List Int}{dm:List (Int×Int)}(W:Whole g l d dm){J:Pl}{s:Sm}(h:Wy g d J J s):1≤s.2.2.1:=by
 rcases h.turn with I|⟨q,I,O,h3,H⟩
 ·exact I
 ·refine absurd ?_ (W.nort (q,s.2.1) I)
  rcases H with H|H
  ·exact RT.app h3 H
  ·exact RT.app2 H O
end Go.Proofs.YtlbnpmfggfbdoaaGreatDoor
end
section
namespace Go.Pth
abbrev Ctr:=Bool×Int
abbrev D:=List Ctr
def leC (x y:Ctr):Prop:=if x.1=true∧y.1=false then y.2=1048576 else x.2≤y.2
instance (x y:Ctr):Decidable (leC x y):=by unfold leC;exact inferInstance
def okC (x:Ctr):Prop:=0≤x.2∧x.2≤1048576
def le:D→D→Prop
 | [],[]=>True
 |x::a,y::b=>leC x y∧le a b
 |_,_=>False
instance decLe: ∀a b:D,Decidable (le a b)
 | [],[]=>.isTrue trivial
 |x::a,y::b=>match(inferInstance:Decidable (leC x y)),decLe a b with
  | .isTrue h1,.isTrue h2=>.isTrue ⟨h1,h2⟩
  | .isFalse h1,_=>.isFalse fun h=>h1 h.1
  |_,.isFalse h2=>.isFalse fun h=>h2 h.2
 | [],_::_=>.isFalse fun h=>h
 |_::_,[]=>.isFalse fun h=>h
def ok (a:D):Prop:=∀x∈a,okC x
theorem leC_refl (x:Ctr):leC x x:=by
 unfold leC
 rw[if_neg (fun h=>by rw[h.1]at h;exact absurd h.2 (by decide))]
 exact Xa _
theorem le_refl: ∀a:D,le a a
 | []=>trivial
 |x::a=>⟨leC_refl x,le_refl a⟩
theorem leC_trans {x y z:Ctr}(H:okC x)(I:okC z)(J:leC x y)(O:leC y z):leC x z:=by
 obtain⟨bx,nx⟩:=x
 obtain⟨by',ny⟩:=y
 obtain⟨bz,nz⟩:=z
 unfold leC at*
 unfold okC at*
 simp only at*
 cases bx<;>cases by'<;>cases bz<;>simp at* <;>omega
theorem le_trans: ∀{a b c:D},ok a→ok c→le a b→le b c→le a c
 | [],[],[],_,_,_,_=>trivial
 |x::a,y::b,z::c,I,J,O,W=>⟨leC_trans (I x (Qf ..)) (J z (Qf ..)) O.1 W.1,le_trans (fun u H=>I u (Qe _ H)) (fun u H=>J u (Qe _ H)) O.2 W.2⟩
 | [],_::_,_,_,_,h,_=>h.elim
 |_::_,[],_,_,_,h,_=>h.elim
 | [],[],_::_,_,_,_,h=>h.elim
 |_::_,_::_,[],_,_,_,h=>h.elim
def small (a:D):Prop:=∀x∈a,x.2<1048576
theorem le_anti: ∀{a b:D},small a→small b→le a b→le b a→a=b
 | [],[],_,_,_,_=>rfl
 |x::a,y::b,I,J,O,W=>by
  have hx:=I x (Qf ..)
  have hy:=J y (Qf ..)
  have e:=le_anti (fun u H=>I u (Qe _ H)) (fun u H=>J u (Qe _ H)) O.2 W.2
  have h3:=O.1
  have h4:=W.1
  obtain⟨bx,nx⟩:=x
  obtain⟨by',ny⟩:=y
  unfold leC at h3 h4
  simp only at*
  have:bx=by'∧nx=ny:=by cases bx<;>cases by'<;>simp at* <;>omega
  rw[this.1,this.2,e]
 | [],_::_,_,_,h,_=>h.elim
 |_::_,[],_,_,h,_=>h.elim
def bump (n:Int):D→Option D
 | []=>some []
 | [x]=>if x.2+n≤1048576 then some [(x.1,x.2+n)]else none
 |x::y::r=>(bump n (y::r)).map (x:: ·)
structure Op where
 keep:Nat
 add:Int
 zeros:Nat
def Op.app (o:Op)(d:D):Option D:=(bump o.add (d.take o.keep)).map (· ++List.replicate o.zeros (false,0))
theorem bump_mono {n:Int}(J:0≤n): ∀{a b v:D},ok a→le a b→bump n b=some v→∃u,bump n a=some u∧le u v
 | [],[],v,_,_,h=>⟨[],rfl,by rw[bump]at h;obtain rfl:=Qo h;trivial⟩
 | [x],[y],v,I,H,h=>by
  have hx:=I x (Qf ..)
  have H:=H.1
  unfold bump at h
  split at h
  ·rename_i hy
   obtain rfl:=Qo h
   have key:x.2+n≤1048576∧leC (x.1,x.2+n) (y.1,y.2+n):=by
    obtain⟨bx,nx⟩:=x
    obtain⟨by',ny⟩:=y
    unfold leC okC at*
    simp only at*
    cases bx<;>cases by'<;>simp at* <;>omega
   refine⟨[(x.1,x.2+n)],by unfold bump;rw[if_pos key.1],?_⟩
   exact And.intro key.2 trivial
  ·cases h
 |x::O::a,y::y2::b,v,I,H,h=>by
  rw[bump]at h
  obtain⟨v',W,rfl⟩:=Wn.1 h
  obtain⟨u,h2,h3⟩:=bump_mono J (a:=O::a) (fun z hz=>I z (Qe _ hz)) H.2 W
  exact⟨x::u,by rw[bump,h2];rfl,H.1,h3⟩
 | [],_::_,_,_,h,_=>h.elim
 |_::_,[],_,_,h,_=>h.elim
 | [_],_::_::_,_,_,h,_=>h.2.elim
 |_::_::_,[_],_,_,h,_=>h.2.elim
theorem le_take: ∀{a b:D} (k:Nat),le a b→le (a.take k) (b.take k)
 |_,_,0,_=>by rw[List.take_zero,List.take_zero];trivial
 | [],[],k+1,_=>trivial
 |x::a,y::b,k+1,h=>⟨h.1,le_take k h.2⟩
 | [],_::_,_+1,h=>h.elim
 |_::_,[],_+1,h=>h.elim
theorem le_app: ∀{a b:D} (c:D),le a b→le (a++c) (b++c)
 | [],[],c,_=>le_refl c
 |x::a,y::b,c,h=>⟨h.1,le_app c h.2⟩
 | [],_::_,_,h=>h.elim
 |_::_,[],_,h=>h.elim
theorem Op.mono {o:Op}(H:0≤o.add){a b v:D}(I:ok a)(J:le a b)(h:o.app b=some v): ∃u,o.app a=some u∧le u v:=by
 unfold Op.app at h ⊢
 obtain⟨v',O,rfl⟩:=Wn.1 h
 obtain⟨u,W,h3⟩:=bump_mono H (fun x hx=>I x (Yc hx)) (le_take o.keep J) O
 exact⟨_,by rw[W];rfl,le_app _ h3⟩
theorem o_bV {n:Int}(J:0≤n): ∀{a v:D},ok a→bump n a=some v→ok v
 | [],v,_,h=>by rw[bump]at h;obtain rfl:=Qo h;intro x O;cases O
 | [x],v,I,h=>by
  unfold bump at h
  split at h
  ·rename_i W
   obtain rfl:=Qo h
   intro z H;rw[Qj]at H
   subst H
   have:=I x (Qf ..)
   unfold okC at this ⊢
   exact⟨by show 0≤x.2+n;omega,W⟩
  ·cases h
 |x::x2::a,v,I,h=>by
  rw[bump]at h
  obtain⟨v',h1,rfl⟩:=Wn.1 h
  intro z H;rcases Qk.1 H with rfl|H
  ·exact I _ (Qf ..)
  ·exact o_bV J (a:=x2::a) (fun z H=>I z (Qe _ H)) h1 z H
theorem Op.ok {o:Op}(I:0≤o.add){a v:D}(J:ok a)(h:o.app a=some v):Pth.ok v:=by
 unfold Op.app at h
 obtain⟨v',O,rfl⟩:=Wn.1 h
 intro x H
 rcases Qn.1 H with H|H
 ·exact o_bV I (fun z W=>J z (Yc W)) O x H
 ·rw[(List.mem_replicate.1 H).2];unfold okC;decide
theorem bump_len {n:Int}: ∀{a v:D},bump n a=some v→v.length=a.length
 | [],v,h=>by rw[bump]at h;obtain rfl:=Qo h;rfl
 | [x],v,h=>by
  unfold bump at h
  split at h
  ·obtain rfl:=Qo h;rfl
  ·cases h
 |x::H::a,v,h=>by
  rw[bump]at h
  obtain⟨v',I,rfl⟩:=Wn.1 h
  rw[Qh,bump_len (a:=H::a) I];rfl
theorem bump_get {n:Int}: ∀{a v:D} (i:Nat),bump n a=some v→v[i]?=if i+1=a.length then(a[i]?).map (fun x=>(x.1,x.2+n))else a[i]?
 | [],v,i,h=>by rw[bump]at h;obtain rfl:=Qo h;simp
 | [x],v,i,h=>by
  unfold bump at h
  split at h
  ·obtain rfl:=Qo h
   cases i<;>simp
  ·cases h
 |x::I::a,v,i,h=>by
  rw[bump]at h
  obtain⟨v',J,rfl⟩:=Wn.1 h
  cases i with
  |zero=>simp
  |succ i=>
   have:=bump_get (a:=I::a) i J
   rw[Wj,Wj,this]
   simp only[Qh]
   by_cases H:i+1=a.length+1
   ·rw[if_pos H,if_pos (by omega)]
   ·rw[if_neg H,if_neg (by omega)]
section
variable {V:Type}[DecidableEq V]
structure Ed where
 src:V
 tgt:V
 op:Op
variable (E:List (Ed (V:=V)))(i0:V→D)
inductive Way (p:V):V→D→Prop
 |nil:Way p p (i0 p)
 |step {q:V} {s s':D} {e:Ed (V:=V)} (h:Way p q s) (he:e∈E) (hq:e.src=q) (hs:e.op.app s=some s'):Way p e.tgt s'
inductive NW (p:V):V→D→List (V×D)→Prop
 |nil:NW p p (i0 p) [(p,i0 p)]
 |step {q:V} {s s':D} {vis:List (V×D)} {e:Ed (V:=V)} (h:NW p q s vis) (he:e∈E) (hq:e.src=q) (hs:e.op.app s=some s') (hn: ∀x∈vis,x.1=e.tgt→¬le x.2 s'):NW p e.tgt s' ((e.tgt,s')::vis)
variable {E i0}
theorem Way.ok (H: ∀e∈E,0≤e.op.add)(I: ∀p,Pth.ok (i0 p)){p q:V}{s:D}(h:Way E i0 p q s):Pth.ok s:=by
 induction h with
 |nil=>exact I p
 |step _ J _ O W=>exact Op.ok (H _ J) W O
theorem NW.way {p q:V}{s:D}{vis:List (V×D)}(h:NW E i0 p q s vis):Way E i0 p q s:=by
 induction h with
 |nil=>exact .nil
 |step _ H hq I _ J=>exact .step J H hq I
theorem NW.pre {p q:V}{s:D}{vis:List (V×D)}(h:NW E i0 p q s vis): ∀x∈vis,∃vis',NW E i0 p x.1 x.2 vis':=by
 induction h with
 |nil=>intro x H;rw[Qj]at H;subst H;exact⟨_,.nil⟩
 |step h I hq J O W=>
  intro x H
  rcases Qk.1 H with rfl|H
  ·exact⟨_,.step h I hq J O⟩
  ·exact W x H
end
section
variable {V:Type}[DecidableEq V]
structure Net (E:List (Ed (V:=V))) (i0:V→D) (dep:V→Nat) (loops:List V):Prop where
 i0e: ∀p,i0 p=List.replicate (dep p) (true,0)
 keep: ∀e∈E,e.op.keep≤dep e.src
 ends: ∀e∈E,e.op.keep+e.op.zeros=dep e.tgt
 add: ∀e∈E,e.op.add=0∨(e.op.add=1∧e.op.keep=dep e.src∧e.op.zeros=0∧e.tgt∈loops)
 few:loops.length<1048576
variable {E:List (Ed (V:=V))}{i0:V→D}{dep:V→Nat}{loops:List V}(N:Net E i0 dep loops)
include N
theorem Net.add0: ∀e∈E,0≤e.op.add:=fun e H=>by rcases N.add e H with h|h<;>omega
theorem Net.iok (p:V):Pth.ok (i0 p):=by
 rw[N.i0e]
 intro x H
 rw[(List.mem_replicate.1 H).2];unfold okC;decide
theorem Way.len {p q:V}{s:D}(h:Way E i0 p q s):s.length=dep q:=by
 induction h with
 |nil=>rw[N.i0e,W8]
 | @step q s s' e h H hq I J=>
  unfold Op.app at I
  obtain⟨v,O,rfl⟩:=Wn.1 I
  rw[Qm,W8,bump_len O,Qs,J,←hq,←N.ends e H]
  have:=N.keep e H
  omega
theorem le_last: ∀(a:D) {x y:Ctr},leC x y→le (a++[x]) (a++[y])
 | [],_,_,h=>⟨h,trivial⟩
 |z::a,_,_,h=>⟨leC_refl z,le_last a h⟩
theorem NW.bound {p q:V}{s:D}{vis:List (V×D)}(h:NW E i0 p q s vis): ∀(i:Nat) (c:Ctr),s[i]?=some c→∃R:List V,R.Nodup∧(R.length:Int)=c.2∧
  ∀r∈R,r∈loops∧∃d c',(r,d)∈vis∧d.length=i+1∧d.take i=s.take i∧d[i]?=some c'∧c'.1=c.1∧c'.2≤c.2:=by
 induction h with
 |nil=>
  intro i c H
  rw[N.i0e,Xc]at H
  split at H
  ·obtain rfl:=Qo H;exact⟨[],X7,rfl,fun r I=>by cases I⟩
  ·cases H
 | @step q s s' vis e h he hq hs hn ih=>
  intro i c H
  have hlen:=h.way.len N
  have hk:=N.keep e he
  rw[hq,←hlen]at hk
  have hs0:=hs
  unfold Op.app at hs
  obtain⟨v,h1,rfl⟩:=Wn.1 hs
  have hvl:v.length=e.op.keep:=by rw[bump_len h1,Qs];omega
  have J:=fun i=>bump_get i h1
  rw[Qs,X8 hk]at J
  by_cases hi:i<e.op.keep
  ·rw[Q8 (by omega)]at H
   have W: ∀j≤i,(v++List.replicate e.op.zeros (false,0)).take j=s.take j:=fun j hj=>by
    rw[Xm (by omega)]
    refine Wz fun m=>?_
    by_cases hm:m<j
    ·rw[Qr hm,Qr hm,J,if_neg (by omega),Qr (by omega)]
    ·rw[Q7 (by rw[Qs];omega),Q7 (by rw[Qs];omega)]
   rw[J,Qr hi]at H
   have keepR: ∀(c:Ctr),s[i]?=some c→∀c2:Ctr,c2.1=c.1→c.2≤c2.2→∀R:List V,(∀r∈R,r∈loops∧∃d c',(r,d)∈vis∧d.length=i+1∧d.take i=s.take i∧d[i]?=some c'∧c'.1=c.1∧c'.2≤c.2)→
     ∀r∈R,r∈loops∧∃d c',(r,d)∈(e.tgt,v++List.replicate e.op.zeros (false,0))::vis∧d.length=i+1∧d.take i=(v++List.replicate e.op.zeros (false,0)).take i∧d[i]?=some c'∧c'.1=c2.1∧c'.2≤c2.2:=fun c H c2 e1 e2 R hR r I=>by
    obtain⟨a1,d,c',a2,a3,a4,a5,a6,a7⟩:=hR r I
    exact⟨a1,d,c',Qe _ a2,a3,by rw[a4,W i (Q0 _)],a5,by rw[a6,e1],by omega⟩
   by_cases hl:i+1=e.op.keep
   ·rw[if_pos hl]at H
    obtain⟨c0,O,rfl⟩:=Wn.1 H
    obtain⟨R,r1,r2,r3⟩:=ih i c0 O
    rcases N.add e he with ha|⟨ha,hkd,hz,hlp⟩
    ·rw[ha]
     exact⟨R,r1,by show(R.length:Int)=c0.2+0;omega,keepR c0 O (c0.1,c0.2+0) rfl (by show c0.2≤c0.2+0;omega) R r3⟩
    ·rw[ha]
     have hfull:v++List.replicate e.op.zeros (false,0)=s.take i++[(c0.1,c0.2+1)]:=by
      have h5:=W i (Q0 _)
      have h6:(v++List.replicate e.op.zeros (false,0)).drop i=[(c0.1,c0.2+1)]:=by
       rw[hz,List.replicate_zero,Wm,X1 (by omega),Q2 (by omega)]
       have h7:=J i
       rw[if_pos hl,Qr hi,O,Wl,ha,Qd (by omega)]at h7
       rw[Qo h7]
      rw[←Xj i (v++List.replicate e.op.zeros (false,0)),h5,h6]
     have hnot:e.tgt∉R:=fun I=>by
      obtain⟨_,d,c',a2,a3,a4,a5,a6,a7⟩:=r3 e.tgt I
      refine hn _ a2 rfl ?_
      have hd:d=s.take i++[c']:=by
       rw[←Xj i d,a4,X1 (by omega),Q2 (by omega)]
       rw[Qd (by omega)]at a5
       rw[Qo a5]
      show le d _
      rw[hfull,hd]
      refine le_last N _ ?_
      unfold leC
      split
      ·rename_i hh;simp only at hh;rw[a6]at hh;rw[hh.1]at hh;exact absurd hh.2 (by decide)
      ·show c'.2≤c0.2+1;omega
     refine⟨e.tgt::R,Wp.2 ⟨hnot,r1⟩,by rw[Qh];show((R.length+1:Nat):Int)=c0.2+1;omega,fun r I=>?_⟩
     rcases Qk.1 I with rfl|I
     ·refine⟨hlp,_,(c0.1,c0.2+1),Qf ..,?_,rfl,?_,rfl,Xa _⟩
      ·rw[Qm,W8];omega
      ·rw[hfull,Wg (by rw[Qs];omega),Qs,X8 (by omega),Nat.sub_self];rfl
     ·exact keepR c0 O (c0.1,c0.2+1) rfl (by show c0.2≤c0.2+1;omega) R r3 r I
   ·rw[if_neg hl]at H
    obtain⟨R,r1,r2,r3⟩:=ih i c H
    exact⟨R,r1,r2,keepR c H c rfl (Xa _) R r3⟩
  ·rw[Wg (by omega),Xc]at H
   split at H
   ·obtain rfl:=Qo H;exact⟨[],X7,rfl,fun r I=>by cases I⟩
   ·cases H
theorem nodup_sub {R L:List V}(h:R.Nodup)(H: ∀r∈R,r∈L):R.length≤L.length:=by
 induction R generalizing L with
 |nil=>exact Xn _
 |cons r R O=>
  rw[Wp]at h
  have I:=H r (Qf ..)
  have:=O (L:=L.erase r) h.2 fun x J=>(List.mem_erase_of_ne (fun e=>h.1 (by rw[←e];exact J))).2 (H x (Qe _ J))
  rw[Y4 I]at this
  have W:0<L.length:=Y6 I
  rw[Qh];omega
theorem NW.le_loops {p q:V}{s:D}{vis:List (V×D)}(h:NW E i0 p q s vis): ∀c∈s,c.2≤loops.length:=fun c H=>by
 obtain⟨i,I⟩:=Xo H
 obtain⟨R,J,r2,O⟩:=h.bound N i c I
 have:=nodup_sub N J fun r W=>(O r W).1
 omega
theorem NW.small {p q:V}{s:D}{vis:List (V×D)}(h:NW E i0 p q s vis):Pth.small s:=fun c H=>by
 have:=h.le_loops N c H
 have:=N.few
 omega
theorem small_le: ∀{a b:D},Pth.small b→le a b→Pth.small a
 | [],_,_,_=>fun x O=>by cases O
 |x::a,y::b,I,h=>fun z H=>by
  have hy:=I y (Qf ..)
  rcases Qk.1 H with rfl|H
  ·have J:=h.1
   unfold leC at J
   split at J<;>omega
  ·exact small_le (fun u W=>I u (Qe _ W)) h.2 z H
 |_::_,[],_,h=>h.elim
structure Tab (T:V→V→List D):Prop where
 sound: ∀p q s,s∈T p q→Way E i0 p q s
 start: ∀p,(∃q,T p q≠[])→∃u∈T p p,le u (i0 p)
 fix: ∀p,∀e∈E,∀s∈T p e.src,∀s',e.op.app s=some s'→∃u∈T p e.tgt,le u s'
 min: ∀p q,∀u∈T p q,∀s∈T p q,le u s→le s u
end
section
variable {V:Type}[DecidableEq V]{E:List (Ed (V:=V))}{i0:V→D}{dep:V→Nat}{loops:List V}(N:Net E i0 dep loops){T:V→V→List D}(hT:Tab (E:=E) (i0:=i0) T)
include N hT
theorem Tab.all {p q:V}{s:D}(hp: ∃q,T p q≠[])(h:Way E i0 p q s): ∃u∈T p q,le u s:=by
 induction h with
 |nil=>exact hT.start p hp
 | @step q s s' e h H hq J W=>
  obtain⟨u,I,h2⟩:=W
  obtain⟨w,h3,h4⟩:=Op.mono (N.add0 e H) ((hT.sound _ _ _ I).ok N.add0 N.iok) h2 J
  rw[←hq]at I
  obtain⟨x,O,h6⟩:=hT.fix p e H u I w h3
  exact⟨x,O,le_trans ((hT.sound _ _ _ O).ok N.add0 N.iok) (Op.ok (N.add0 e H) (h.ok N.add0 N.iok) J) h6 h4⟩
end
end Go.Pth
end
section
namespace Go.Proofs.YtlbnpmfggfbdoaaGreatDoor
open Go.RowKit Go.Graph
inductive Form (x y:Int) (s:Sm):Prop where
 |id (h:s=(x,x,0,0,(0,0,0,0))) (hy:y=x)
 |enter (h:s=(x,x,0,1,(0,0,0,0))) (hx:x≤3) (hy:y=x+1)
 |leave (h:s=(x,x-1,0,0,(0,0,0,0))) (hx:1≤x) (hy:y=x-1)
 |next (h:s=(x,x,1,0,(0,0,0,0))) (hx:1≤x) (hy:y=x)
theorem form_of {x a b:Int}{up:Prop}(hx:0≤x∧x≤4){n:Nd}{s:Sm}(hs:s=Qak n x∨s=(idP x).1)(K:Kd s a b up)(ha:a=x):Form x b s:=by
 have O:s=z8→Form x b s:=fun e=>by
  have I:=K.from_
  have H:=K.ends
  rw[e]at I H
  have I:(0:Int)=a:=I
  have H:(0:Int)+0=b:=H
  exact .id (by rw[e,←ha,←I];rfl) (by omega)
 have st: ∀(lo W:Int) (t:Sm),s=(Qbo x lo W t).1→s=z8∨(¬(x<lo∨W<x)∧s=(x,t.2)):=fun lo W t h=>by
  unfold Qbo at h
  split at h
  ·exact .inl h
  ·rename_i I;exact .inr ⟨I,h⟩
 have J:s=(idP x).1→Form x b s:=fun h=>by
  rcases st 0 4 _ h with h|⟨I,h⟩
  ·exact O h
  ·have H:=K.ends
   rw[h]at H
   have H:x+0=b:=H
   exact .id h (by omega)
 rcases hs with h|h
 ·unfold Qak at h
  split at h
  ·rcases st 0 3 _ h with h|⟨I,h⟩
   ·exact O h
   ·have H:=K.ends
    rw[h]at H
    have H:x+1=b:=H
    exact .enter h (by omega) (by omega)
  ·split at h
   ·rcases st 1 4 _ h with h|⟨I,h⟩
    ·exact O h
    ·have H:=K.ends
     rw[h]at H
     have H:x-1+0=b:=H
     exact .leave h (by omega) (by omega)
   ·split at h
    ·rcases st 1 4 _ h with h|⟨I,h⟩
     ·exact O h
     ·have H:=K.ends
      rw[h]at H
      have H:x+0=b:=H
      exact .next h (by omega) (by omega)
    ·exact J h
 ·exact J h
end Go.Proofs.YtlbnpmfggfbdoaaGreatDoor
end
section
namespace Go.Pth
theorem filter_le {α:Type}{P Q:α→Bool}: ∀{l:List α},(∀x∈l,P x=true→Q x=true)→(l.filter P).length≤(l.filter Q).length
 | [],_=>Q0 _
 |x::l,h=>by
  have H:=filter_le (l:=l) fun y I=>h y (Qe _ I)
  have J:=h x (Qf ..)
  rw[Xl,Xl]
  by_cases hp:P x=true
  ·rw[if_pos hp,if_pos (J hp),Qh,Qh];omega
  ·rw[if_neg hp];split
   ·rw[Qh];omega
   ·exact H
theorem filter_lt {α:Type}{P Q:α→Bool}: ∀{l:List α},(∀x∈l,P x=true→Q x=true)→(∃x∈l,Q x=true∧P x=false)→(l.filter P).length <(l.filter Q).length
 | [],_,h=>by obtain⟨x,I,_⟩:=h;cases I
 |x::l,h,he=>by
  have O:=fun y H=>h y (Qe x H)
  have ih:=filter_le O
  have I:=h x (Qf ..)
  obtain⟨y,H,W,h3⟩:=he
  rw[Xl,Xl]
  rcases Qk.1 H with rfl|H
  ·rw[if_neg (by rw[h3];decide),if_pos W,Qh];omega
  ·have J:=filter_lt O ⟨y,H,W,h3⟩
   by_cases hp:P x=true
   ·rw[if_pos hp,if_pos (I hp),Qh,Qh];omega
   ·rw[if_neg hp];split
    ·rw[Qh];omega
    ·exact J
theorem nodup_le {α:Type}[DecidableEq α]: ∀{R L:List α},R.Nodup→(∀r∈R,r∈L)→R.length≤L.length
 | [],_,_,_=>Xn _
 |r::R,L,h,H=>by
  rw[Wp]at h
  have I:=H r (Qf ..)
  have:=nodup_le (L:=L.erase r) h.2 fun x J=>(List.mem_erase_of_ne (fun e=>h.1 (by rw[←e];exact J))).2 (H x (Qe _ J))
  rw[Y4 I]at this
  have O:0<L.length:=Y6 I
  rw[Qh];omega
section
variable {S:Type}[DecidableEq S]{ctr:S→D}{lt:S→S→Prop}
structure Lin (lt:S→S→Prop):Prop where
 irr: ∀a,¬lt a a
 tr: ∀a b c,lt a b→lt b c→lt a c
 tri: ∀a b,a≠b→lt a b∨lt b a
def less (ctr:S→D)(lt:S→S→Prop)(a b:S):Prop:=le (ctr a) (ctr b)∧(¬le (ctr b) (ctr a)∨lt a b)
def IsLst (ctr:S→D)(lt:S→S→Prop)(l r:List S):Prop:=r.Pairwise lt∧∀s,s∈r↔s∈l∧∀x∈l,¬less ctr lt x s
theorem pw_ext (L:Lin lt): ∀{a b:List S},a.Pairwise lt→b.Pairwise lt→(∀s,s∈a↔s∈b)→a=b
 | [],[],_,_,_=>rfl
 | [],y::b,_,_,h=>by have:=(h y).2 (Qf ..);cases this
 |x::a,[],_,_,h=>by have:=(h x).1 (Qf ..);cases this
 |x::a,y::b,J,O,h=>by
  rw[W5]at J O
  have e:x=y:=by
   rcases Qk.1 ((h x).1 (Qf ..))with H|H
   ·exact H
   rcases Qk.1 ((h y).2 (Qf ..))with W|W
   ·exact W.symm
   ·exact absurd (L.tr _ _ _ (O.1 x H) (J.1 y W)) (L.irr _)
  subst e
  rw[pw_ext L J.2 O.2 fun s=>⟨fun I=>?_,fun I=>?_⟩]
  ·rcases Qk.1 ((h s).1 (Qe _ I))with rfl|H
   ·exact absurd (J.1 _ I) (L.irr _)
   ·exact H
  ·rcases Qk.1 ((h s).2 (Qe _ I))with rfl|H
   ·exact absurd (O.1 _ I) (L.irr _)
   ·exact H
theorem IsLst.uniq (L:Lin lt){l r r':List S}(h:IsLst ctr lt l r)(h':IsLst ctr lt l r'):r=r':=pw_ext L h.1 h'.1 fun s=>(h.2 s).trans (h'.2 s).symm
theorem less_irr (L:Lin lt)(a:S): ¬less ctr lt a a:=fun h=>h.2.elim (fun h=>h (le_refl _)) (L.irr a)
theorem less_tr (L:Lin lt){a b c:S}(O:ok (ctr a))(W:ok (ctr b))(hc:ok (ctr c))(H:less ctr lt a b)(I:less ctr lt b c):less ctr lt a c:=by
 refine⟨le_trans O hc H.1 I.1,?_⟩
 by_cases h:le (ctr c) (ctr a)
 ·right
  have h3:lt b c:=I.2.resolve_left fun J=>J (le_trans hc W h H.1)
  have h5:lt a b:=H.2.resolve_left fun J=>J (le_trans W O I.1 h)
  exact L.tr _ _ _ h5 h3
 ·exact .inl h
open Classical in
theorem IsLst.cov (L:Lin lt){l r:List S}(h:IsLst ctr lt l r)(O: ∀s∈l,ok (ctr s)): ∀s∈l,∃u∈r,le (ctr u) (ctr s):=by
 have main: ∀n s,s∈l→(l.filter fun x=>decide (less ctr lt x s)).length≤n→∃u∈r,le (ctr u) (ctr s):=by
  intro n
  induction n with
  |zero=>
   intro s I hn
   refine⟨s,(h.2 s).2 ⟨I,fun x H J=>?_⟩,le_refl _⟩
   have:=Y6 ((Yh (p:=fun x=>decide (less ctr lt x s))).2 ⟨H,decide_eq_true J⟩)
   omega
  |succ n ih=>
   intro s I hn
   by_cases H: ∃x∈l,less ctr lt x s
   ·obtain⟨x,H,J⟩:=H
    have hlt:(l.filter fun y=>decide (less ctr lt y x)).length <(l.filter fun y=>decide (less ctr lt y s)).length:=
     filter_lt (fun y hy W=>decide_eq_true (less_tr L (O y hy) (O x H) (O s I) (of_decide_eq_true W) J)) ⟨x,H,decide_eq_true J,decide_eq_false (less_irr L x)⟩
    obtain⟨u,W,h2⟩:=ih x H (by omega)
    exact⟨u,W,le_trans (O u ((h.2 u).1 W).1) (O s I) h2 J.1⟩
   ·exact⟨s,(h.2 s).2 ⟨I,fun x hx2 J=>H ⟨x,hx2,J⟩⟩,le_refl _⟩
 exact fun s I=>main _ s I (Q0 _)
end
def Uv (B:Nat):Nat→List D
 |0=>[[]]
 |n+1=>(List.range (B+1)).flatMap fun(c:Nat)=>(Uv B n).flatMap fun d=>[(true,(c:Int))::d,(false,(c:Int))::d]
theorem flat_len {α β:Type}{f:α→List β}{k:Nat}: ∀{l:List α},(∀x∈l,(f x).length=k)→(l.flatMap f).length=l.length*k
 | [],_=>by simp
 |x::l,h=>by
  rw[List.flatMap_cons,Qm,h x (Qf ..),flat_len fun y H=>h y (Qe _ H),Qh,Xz,X9,Yr]
theorem Uv_len (B:Nat): ∀n,(Uv B n).length=(2*(B+1))^n
 |0=>rfl
 |n+1=>by
  unfold Uv
  rw[flat_len (k:=(Uv B n).length*2) fun x _=>flat_len fun _ _=>rfl,Y1,Uv_len B n,Nat.pow_succ]
  ac_rfl
theorem Uv_mem {B:Nat}: ∀{d:D},ok d→(∀c∈d,c.2≤B)→d∈Uv B d.length
 | [],_,_=>Yd _
 |x::d,h,I=>by
  have J:=h x (Qf ..)
  have O:=I x (Qf ..)
  unfold okC at J
  rw[Qh,Uv,Xk]
  refine⟨x.2.toNat,Xf.2 (by omega),Xk.2 ⟨d,Uv_mem (fun y H=>h y (Qe _ H)) (fun y H=>I y (Qe _ H)),?_⟩⟩
  have e:((x.2.toNat:Nat):Int)=x.2:=by omega
  rw[e]
  obtain⟨b,n⟩:=x
  cases b
  ·exact Qe _ (Yd _)
  ·exact Qf ..
theorem o_cc {B:Nat}(J:B≤1048576): ∀{n:Nat} {d:D},d∈Uv B n→ok d
 |0,d,h=>by rw[Uv,Qj]at h;subst h;intro x H;cases H
 |n+1,d,h=>by
  rw[Uv]at h
  obtain⟨c,I,h⟩:=Xk.1 h
  obtain⟨d',O,h⟩:=Xk.1 h
  have I:=Xf.1 I
  have key: ∀b:Bool,ok ((b,(c:Int))::d'):=fun b x H=>by
   rcases Qk.1 H with rfl|H
   ·unfold okC;exact⟨by show(0:Int)≤c;omega,by show(c:Int)≤1048576;omega⟩
   ·exact o_cc J O x H
  rcases Qk.1 h with rfl|h
  ·exact key true
  ·rw[Qj]at h;subst h;exact key false
section
variable {V S:Type}[DecidableEq V][DecidableEq S]
structure Sy (E:List (Ed (V:=V))) (ctr:S→D) (lt:S→S→Prop) (G:V→V→S→Prop) (thn:Ed (V:=V)→S→Option S):Prop where
 lin:Lin lt
 inj: ∀{p q a b},G p q a→G p q b→ctr a=ctr b→a=b
 ok: ∀{p q a},G p q a→ok (ctr a)
 some: ∀{e p s s'},e∈E→G p e.src s→thn e s=some s'→G p e.tgt s'∧e.op.app (ctr s)=some (ctr s')
 none: ∀{e p s},e∈E→G p e.src s→thn e s=none→e.op.app (ctr s)=none
variable {E:List (Ed (V:=V))}{i0:V→D}{dep:V→Nat}{loops:List V}(N:Net E i0 dep loops)
variable {ctr:S→D}{lt:S→S→Prop}{G:V→V→S→Prop}{thn:Ed (V:=V)→S→Option S}(Y:Sy E ctr lt G thn)
def Good (E:List (Ed (V:=V)))(i0:V→D)(ctr:S→D)(G:V→V→S→Prop)(T:V→V→List S)(p q:V)(s:S):Prop:=
 G p q s∧∃vis,NW E i0 p q (ctr s) vis∧∀x∈vis,∃u∈T p x.1,le (ctr u) x.2
structure Inv (E:List (Ed (V:=V))) (i0:V→D) (ctr:S→D) (lt:S→S→Prop) (G:V→V→S→Prop) (T:V→V→List S):Prop where
 good: ∀p q,∀s∈T p q,Good E i0 ctr G T p q s
 sort: ∀p q,(T p q).Pairwise lt
 min: ∀p q,∀u∈T p q,∀s∈T p q,¬less ctr lt u s
def Cv (ctr:S→D)(T T':V→V→List S):Prop:=∀p q,∀s∈T p q,∃u∈T' p q,le (ctr u) (ctr s)
def put (T:V→V→List S)(p q:V)(r:List S):V→V→List S:=fun p' q'=>if p'=p∧q'=q then r else T p' q'
theorem put_self (T:V→V→List S)(p q:V)(r:List S):put T p q r p q=r:=if_pos ⟨rfl,rfl⟩
theorem Cv.refl (T:V→V→List S):Cv ctr T T:=fun p q s H=>⟨s,H,le_refl _⟩
include N Y
theorem Good.small {T:V→V→List S}{p q:V}{s:S}(h:Good E i0 ctr G T p q s):Pth.small (ctr s):=by
 obtain⟨_,vis,h,_⟩:=h;exact h.small N
theorem Cv.trans {T T' T'':V→V→List S}(hT: ∀p q,∀s∈T p q,Pth.ok (ctr s))(hT'': ∀p q,∀s∈T'' p q,Pth.ok (ctr s))(J:Cv ctr T T')(O:Cv ctr T' T''):Cv ctr T T'':=fun p q s H=>by
 obtain⟨u,W,h3⟩:=J p q s H
 obtain⟨v,I,h4⟩:=O p q u W
 exact⟨v,I,le_trans (hT'' p q v I) (hT p q s H) h4 h3⟩
theorem Good.cv {T T':V→V→List S}(hT': ∀p q,∀s∈T' p q,Pth.ok (ctr s))(O:Cv ctr T T'){p q:V}{s:S}(h:Good E i0 ctr G T p q s):Good E i0 ctr G T' p q s:=by
 obtain⟨W,vis,H,h3⟩:=h
 refine⟨W,vis,H,fun x I=>?_⟩
 obtain⟨u,hu,h4⟩:=h3 x I
 obtain⟨v,J,h5⟩:=O p x.1 u hu
 obtain⟨vis',h6⟩:=H.pre x I
 exact⟨v,J,le_trans (hT' _ _ v J) (h6.way.ok N.add0 N.iok) h5 h4⟩
theorem Inv.anti {T:V→V→List S}(I:Inv E i0 ctr lt G T){p q:V}{u s:S}(O:u∈T p q)(W:G p q s)(h1:le (ctr u) (ctr s))(J:le (ctr s) (ctr u)):u=s:=by
 have gu:=I.good p q u O
 have H:=gu.small N Y
 exact Y.inj gu.1 W (le_anti H (small_le N H J) h1 J)
theorem Inv.leq {T:V→V→List S}(I:Inv E i0 ctr lt G T){p q:V}{u s:S}(H:u∈T p q)(J:s∈T p q)(O:le (ctr u) (ctr s)):u=s:=by
 have W:=I.min p q u H s J
 have h3:le (ctr s) (ctr u):=Q4 fun h=>W ⟨O,.inl h⟩
 exact I.anti N Y H (I.good p q s J).1 O h3
theorem Inv.add {T:V→V→List S}(I:Inv E i0 ctr lt G T){p:V}{e:Ed (V:=V)}(he:e∈E){more r:List S}(hm: ∀m∈more,∃s,Good E i0 ctr G T p e.src s∧thn e s=some m)(hr:IsLst ctr lt (T p e.tgt++more) r):
  Inv E i0 ctr lt G (put T p e.tgt r)∧Cv ctr T (put T p e.tgt r)∧(∀m∈more,∃u∈r,le (ctr u) (ctr m))∧
   (r≠T p e.tgt→∃m∈more,ctr m∈Uv loops.length (dep e.tgt)∧∀u∈T p e.tgt,¬le (ctr u) (ctr m)):=by
 have gm: ∀m∈more,G p e.tgt m:=fun m h=>by obtain⟨s,h1,h2⟩:=hm m h;exact(Y.some he h1.1 h2).1
 have gl: ∀m∈T p e.tgt++more,G p e.tgt m:=fun m h=>(Qn.1 h).elim (fun h=>(I.good _ _ m h).1) (gm m)
 have hcov:=hr.cov Y.lin fun s H=>Y.ok (gl s H)
 have hcv:Cv ctr T (put T p e.tgt r):=fun p' q' s H=>by
  unfold put
  split
  ·rename_i h;rw[h.1,h.2]at H;exact hcov s (Q6 _ H)
  ·exact⟨s,H,le_refl _⟩
 have gr: ∀s∈r,G p e.tgt s:=fun s H=>gl s ((hr.2 s).1 H).1
 have okT': ∀p' q',∀s∈put T p e.tgt r p' q',Pth.ok (ctr s):=fun p' q' s H=>by
  unfold put at H
  split at H
  ·exact Y.ok (gr s H)
  ·exact Y.ok (I.good _ _ s H).1
 have nwm: ∀m∈more,(∀u∈T p e.tgt,¬le (ctr u) (ctr m))→∃s vis,NW E i0 p e.src (ctr s) vis∧(∀x∈vis,∃u∈T p x.1,le (ctr u) x.2)∧NW E i0 p e.tgt (ctr m) ((e.tgt,ctr m)::vis):=fun m h O=>by
  obtain⟨s,⟨h1,vis,h2,h3⟩,h4⟩:=hm m h
  refine⟨s,vis,h2,h3,.step h2 he rfl (Y.some he h1 h4).2 fun x W hxe hle=>?_⟩
  obtain⟨u,J,h5⟩:=h3 x W
  rw[hxe]at J
  exact O u J (le_trans (Y.ok (I.good _ _ u J).1) (Y.ok (gm m h)) h5 hle)
 refine⟨⟨fun p' q' s H=>?_,fun p' q'=>?_,fun p' q' u J s H=>?_⟩,hcv,fun m h=>hcov m (Q9 _ h),fun hne=>?_⟩
 ·unfold put at H
  split at H
  ·rename_i hpq
   obtain⟨rfl,rfl⟩:=hpq
   obtain⟨h1,h2⟩:=(hr.2 s).1 H
   by_cases hin:s∈T p' e.tgt
   ·exact(I.good _ _ s hin).cv N Y okT' hcv
   have hmo:s∈more:=(Qn.1 h1).resolve_left hin
   obtain⟨s0,vis,h3,h4,h5⟩:=nwm s hmo fun u J hle=>by
    have h6:le (ctr s) (ctr u):=Q4 fun h=>h2 u (Q6 _ J) ⟨hle,.inl h⟩
    have:=I.anti N Y J (gm s hmo) hle h6
    rw[this]at J;exact hin J
   refine⟨gm s hmo,_,h5,fun x W=>?_⟩
   rcases Qk.1 W with rfl|W
   ·exact⟨s,by rw[put_self];exact H,le_refl _⟩
   ·obtain⟨u,J,h6⟩:=h4 x W
    obtain⟨v,hv,h7⟩:=hcv p' x.1 u J
    obtain⟨vis',h8⟩:=h3.pre x W
    exact⟨v,hv,le_trans (okT' _ _ v hv) (h8.way.ok N.add0 N.iok) h7 h6⟩
  ·exact(I.good _ _ s H).cv N Y okT' hcv
 ·unfold put
  split
  ·exact hr.1
  ·exact I.sort _ _
 ·unfold put at J H
  split at J
  ·rename_i h
   rw[if_pos h]at H
   exact((hr.2 s).1 H).2 u ((hr.2 u).1 J).1
  ·rename_i h
   rw[if_neg h]at H
   exact I.min _ _ u J s H
 ·refine Q4 fun hall=>hne (hr.uniq Y.lin ⟨I.sort _ _,fun s=>⟨fun H=>⟨Q6 _ H,fun x W hl=>?_⟩,fun⟨H,hmin⟩=>?_⟩⟩)
  all_goals
   have hall: ∀m∈more,∃u∈T p e.tgt,le (ctr u) (ctr m):=fun m h=>Q4 fun O=>by
    have O: ∀u∈T p e.tgt,¬le (ctr u) (ctr m):=fun u J hle=>O ⟨u,J,hle⟩
    obtain⟨s0,vis,_,_,h5⟩:=nwm m h O
    have h6:=Uv_mem (Y.ok (gm m h)) (h5.le_loops N)
    rw[h5.way.len N]at h6
    exact hall ⟨m,h,h6,O⟩
  ·rcases Qn.1 W with W|W
   ·exact I.min _ _ x W s H hl
   ·obtain⟨u,J,h1⟩:=hall x W
    have gu:=I.good _ _ u J
    have gs:=I.good _ _ s H
    obtain rfl:=I.leq N Y J H (le_trans (Y.ok gu.1) (Y.ok gs.1) h1 hl.1)
    obtain rfl:=I.anti N Y J (gm x W) h1 hl.1
    exact less_irr Y.lin _ hl
  ·rcases Qn.1 H with H|H
   ·exact H
   ·obtain⟨u,J,h1⟩:=hall s H
    have h6:le (ctr s) (ctr u):=Q4 fun h=>hmin u (Q6 _ J) ⟨h1,.inl h⟩
    rw[←I.anti N Y J (gm s H) h1 h6];exact J
theorem Inv.first {T:V→V→List S}(I:Inv E i0 ctr lt G T){p:V}{s:S}(hp: ∀q,T p q=[])(hs:G p p s)(W:ctr s=i0 p):Inv E i0 ctr lt G (put T p p [s]):=by
 refine⟨fun p' q' x H=>?_,fun p' q'=>?_,fun p' q' u J x H=>?_⟩
 ·unfold put at H
  split at H
  ·rename_i h
   obtain⟨rfl,rfl⟩:=h
   rw[Qj]at H
   subst H
   refine⟨hs,_,by rw[W];exact .nil,fun y O=>?_⟩
   rw[Qj]at O
   subst O
   exact⟨x,by rw[put_self];exact Yd _,by rw[W];exact le_refl _⟩
  ·obtain⟨h1,vis,h2,h3⟩:=I.good _ _ x H
   refine⟨h1,vis,h2,fun y O=>?_⟩
   obtain⟨u,J,h4⟩:=h3 y O
   refine⟨u,?_,h4⟩
   unfold put
   rw[if_neg]
   ·exact J
   ·intro h
    rw[h.1,hp]at J;cases J
 ·unfold put
  split
  ·exact Ym _ _
  ·exact I.sort _ _
 ·unfold put at J H
  split at J
  ·rename_i h
   rw[if_pos h]at H
   rw[Qj]at J H
   rw[J,H];exact less_irr Y.lin _
  ·rename_i h
   rw[if_neg h]at H
   exact I.min _ _ u J x H
theorem Inv.len {T:V→V→List S}(I:Inv E i0 ctr lt G T)(p q:V):(T p q).length≤(2*(loops.length+1))^dep q:=by
 have O:((T p q).map ctr).Nodup:=by
  refine Jb.2 ((I.sort p q).imp_of_mem fun {a b} W hb h e=>?_)
  obtain rfl:=Y.inj (I.good _ _ a W).1 (I.good _ _ b hb).1 e
  exact Y.lin.irr _ h
 have H:=nodup_le O (L:=Uv loops.length (dep q)) fun d hd=>by
  obtain⟨s,hs,rfl⟩:=Qv.1 hd
  obtain⟨h3,vis,J,_⟩:=I.good _ _ s hs
  have h6:=Uv_mem (Y.ok h3) (J.le_loops N)
  rw[J.way.len N]at h6;exact h6
 rw[Qw,Uv_len]at H;exact H
def mu (dep:V→Nat)(ctr:S→D)(B:Nat)(P:List (V×V))(T:V→V→List S):Nat:=
 ((P.flatMap fun x=>(Uv B (dep x.2)).map fun d=>(x,d)).filter fun y=> !((T y.1.1 y.1.2).any fun u=>decide (le (ctr u) y.2))).length
theorem mu_imp {T T':V→V→List S}(I:Inv E i0 ctr lt G T)(I':Inv E i0 ctr lt G T')(O:Cv ctr T T')(P:List (V×V)): ∀y∈(P.flatMap fun x=>(Uv loops.length (dep x.2)).map fun d=>(x,d)),(!((T' y.1.1 y.1.2).any fun u=>decide (le (ctr u) y.2)))=true→(!((T y.1.1 y.1.2).any fun u=>decide (le (ctr u) y.2)))=true:=by
 intro y W h
 rw[Xt,Xu]at h ⊢
 intro s hs H
 obtain⟨u,J,h1⟩:=O _ _ s hs
 refine h u J (decide_eq_true ?_)
 obtain⟨x,_,hx⟩:=Xk.1 W
 obtain⟨d,hd,rfl⟩:=Qv.1 hx
 have hfew:=N.few
 exact le_trans (Y.ok (I'.good _ _ u J).1) (o_cc (by omega) hd) h1 (of_decide_eq_true H)
theorem mu_lt {T T':V→V→List S}(I:Inv E i0 ctr lt G T)(I':Inv E i0 ctr lt G T')(J:Cv ctr T T'){P:List (V×V)}{p q:V}(hp:(p,q)∈P){d:D}(O:d∈Uv loops.length (dep q))(W: ∀u∈T p q,¬le (ctr u) d)(h1: ∃u∈T' p q,le (ctr u) d):
  mu dep ctr loops.length P T'<mu dep ctr loops.length P T:=by
 refine filter_lt (mu_imp N Y I I' J P) ⟨((p,q),d),Xk.2 ⟨(p,q),hp,Qv.2 ⟨d,O,rfl⟩⟩,?_,?_⟩
 ·rw[Xt,Xu]
  exact fun u H h=>W u H (of_decide_eq_true h)
 ·obtain⟨u,H,h⟩:=h1
  rw[Bool.not_eq_false',Xq]
  exact⟨u,H,decide_eq_true h⟩
theorem mu_max {T:V→V→List S}(P:List (V×V))(H: ∀x∈P,dep x.2≤4):mu dep ctr loops.length P T≤P.length*(2*(loops.length+1))^4:=by
 unfold mu
 refine Wk (Xs _ _) ?_
 clear N Y
 induction P with
 |nil=>simp
 |cons x P I=>
  rw[List.flatMap_cons,Qm,Qw,Uv_len,Qh,Xz,X9,Yr]
  exact Nat.add_le_add (I fun y J=>H y (Qe _ J)) (Nat.pow_le_pow_right (by omega) (H x (Qf ..)))
theorem Inv.add_lt {T:V→V→List S}(I:Inv E i0 ctr lt G T){p:V}{e:Ed (V:=V)}(J:e∈E){more r:List S}(O: ∀m∈more,∃s,Good E i0 ctr G T p e.src s∧thn e s=some m)(W:IsLst ctr lt (T p e.tgt++more) r){P:List (V×V)}(hp:(p,e.tgt)∈P)(H:r≠T p e.tgt):
  mu dep ctr loops.length P (put T p e.tgt r)<mu dep ctr loops.length P T:=by
 obtain⟨h1,h2,h3,h4⟩:=I.add N Y J O W
 obtain⟨m,h5,h6,h7⟩:=h4 H
 obtain⟨u,h8,h9⟩:=h3 m h5
 exact mu_lt N Y I h1 h2 hp h6 h7 ⟨u,by rw[put_self];exact h8,h9⟩
theorem Inv.tab {T:V→V→List S}(I:Inv E i0 ctr lt G T)(h0: ∀p,(∃q,T p q≠[])→∃u∈T p p,le (ctr u) (i0 p))(hf: ∀p,∀e∈E,∀s∈T p e.src,∀m,thn e s=some m→∃u∈T p e.tgt,le (ctr u) (ctr m)):
  Tab (E:=E) (i0:=i0) fun p q=>(T p q).map ctr where
 sound p q d hd:=by
  obtain⟨s,hs,rfl⟩:=Qv.1 hd
  obtain⟨_,vis,h,_⟩:=I.good _ _ s hs
  exact h.way
 start p h:=by
  obtain⟨q,hq⟩:=h
  obtain⟨u,hu,h1⟩:=h0 p ⟨q,fun e=>hq (by rw[e];rfl)⟩
  exact⟨_,Qv.2 ⟨u,hu,rfl⟩,h1⟩
 fix p e he d hd d' h:=by
  obtain⟨s,hs,rfl⟩:=Qv.1 hd
  have gs:=(I.good _ _ s hs).1
  cases hm:thn e s with
  |none=>rw[Y.none he gs hm]at h;cases h
  |some m=>
   rw[(Y.some he gs hm).2]at h
   obtain rfl:=Qo h
   obtain⟨u,hu,h1⟩:=hf p e he s hs m hm
   exact⟨_,Qv.2 ⟨u,hu,rfl⟩,h1⟩
 min p q d hd d' hd' h:=by
  obtain⟨u,hu,rfl⟩:=Qv.1 hd
  obtain⟨s,hs,rfl⟩:=Qv.1 hd'
  rw[I.leq N Y hu hs h];exact le_refl _
end
def ltL:List Int→List Int→Prop
 |x::a,y::b=>x<y∨(x=y∧ltL a b)
 |_,_=>False
instance decLtL: ∀a b:List Int,Decidable (ltL a b)
 | [],[]=>.isFalse fun h=>h
 | [],_::_=>.isFalse fun h=>h
 |_::_,[]=>.isFalse fun h=>h
 |x::a,y::b=>match(inferInstance:Decidable (x<y)),(inferInstance:Decidable (x=y)),decLtL a b with
  | .isTrue h,_,_=>.isTrue (.inl h)
  | .isFalse _,.isTrue h1,.isTrue h2=>.isTrue (.inr ⟨h1,h2⟩)
  | .isFalse h,.isFalse h1,_=>.isFalse fun h2=>h2.elim h fun h3=>h1 h3.1
  | .isFalse h,_,.isFalse h1=>.isFalse fun h2=>h2.elim h fun h3=>h1 h3.2
theorem ltL_irr: ∀a,¬ltL a a
 | [],h=>h
 |x::a,h=>h.elim (Int.lt_irrefl x) fun h=>ltL_irr a h.2
theorem ltL_tr: ∀{a b c},ltL a b→ltL b c→ltL a c
 |x::a,y::b,z::c,I,H=>by
  rcases I with I|⟨rfl,I⟩
  ·rcases H with H|⟨rfl,H⟩
   ·exact .inl (by omega)
   ·exact .inl I
  ·rcases H with H|⟨rfl,H⟩
   ·exact .inl H
   ·exact .inr ⟨rfl,ltL_tr I H⟩
 | [],_,_,h,_=>by cases ‹List Int› <;>exact h.elim
 |_::_,[],_,h,_=>h.elim
 |_::_,_::_,[],_,h=>h.elim
theorem ltL_tri: ∀{a b:List Int},a.length=b.length→a≠b→ltL a b∨ltL b a
 | [],[],_,h=>absurd rfl h
 |x::a,y::b,H,h=>by
  by_cases J:x<y
  ·exact .inl (.inl J)
  by_cases O:y<x
  ·exact .inr (.inl O)
  obtain rfl:x=y:=by omega
  rcases ltL_tri (a:=a) (b:=b) (by simpa using H) (fun e=>h (by rw[e]))with I|I
  ·exact .inl (.inr ⟨rfl,I⟩)
  ·exact .inr (.inr ⟨rfl,I⟩)
 | [],_::_,H,_=>by simp at H
 |_::_,[],H,_=>by simp at H
theorem le_map {α:Type}(f g:α→Ctr): ∀(l:List α),le (l.map f) (l.map g)↔∀i∈l,leC (f i) (g i)
 | []=>by simp[le]
 |x::l=>by
  rw[Q3,Q3,le,le_map f g l]
  constructor
  ·intro h i H
   rcases Qk.1 H with rfl|H
   ·exact h.1
   ·exact h.2 i H
  ·exact fun h=>⟨h x (Qf ..),fun i H=>h i (Qe _ H)⟩
end Go.Pth
namespace Go.Proofs.YtlbnpmfggfbdoaaGreatDoor
open Go.RowKit Go.Graph
def ints (s:Sm):List Int:=[s.1,s.2.1,s.2.2.1,s.2.2.2.1,s.2.2.2.2.1,s.2.2.2.2.2.1,s.2.2.2.2.2.2.1,s.2.2.2.2.2.2.2]
theorem ints_inj {a b:Sm}(h:ints a=ints b):a=b:=by
 obtain⟨a1,a2,a3,a4,a5,a6,a7,a8⟩:=a
 obtain⟨b1,b2,b3,b4,b5,b6,b7,b8⟩:=b
 unfold ints at h
 simp at h
 obtain⟨rfl,rfl,rfl,rfl,rfl,rfl,rfl,rfl⟩:=h
 rfl
def ltS (a b:Sm):Prop:=Pth.ltL (ints a) (ints b)
instance:DecidableRel ltS:=fun a b=>inferInstanceAs (Decidable (Pth.ltL (ints a) (ints b)))
theorem linS:Pth.Lin ltS:=⟨fun a=>Pth.ltL_irr _,fun a b c=>Pth.ltL_tr,fun a b h=>Pth.ltL_tri rfl fun e=>h (ints_inj e)⟩
def cg (s:Sm)(i:Nat):Pth.Ctr:=if(i:Int)<s.2.1 then(true,if(i:Int)+1=s.2.1 then s.2.2.1 else 0)else(false,(pus s).getD (i-s.2.1.toNat) 0)
def ctr (s:Sm):Pth.D:=(List.range (s.2.1+s.2.2.2.1).toNat).map (cg s)
def GS (x y:Int)(s:Sm):Prop:=OkS s∧s.1=x∧s.2.1+s.2.2.2.1=y
theorem o_cd {s:Sm}(h:OkS s)(i:Nat):Pth.okC (cg s i):=by
 have I:=h.a
 unfold cg Pth.okC
 split
 ·simp only
  split<;>omega
 ·simp only
  rw[Yu]
  cases H:(pus s)[i-s.2.1.toNat]? with
  |none=>simp
  |some x=>
   have:=h.p _ _ H
   simp only[Jc]
   omega
theorem o_cj {s:Sm}(h:OkS s):Pth.ok (ctr s):=fun c H=>by
 unfold ctr at H
 obtain⟨i,_,rfl⟩:=Qv.1 H
 exact o_cd h i
theorem ctr_inj {x y:Int}{a b:Sm}(ha:GS x y a)(hb:GS x y b)(h:ctr a=ctr b):a=b:=by
 obtain⟨oa,fa,ea⟩:=ha
 obtain⟨ob,fb,eb⟩:=hb
 have I: ∀i:Nat,(i:Int)<y→cg a i=cg b i:=fun i hi=>by
  have J:=congrArg (fun l=>l[i]?) h
  unfold ctr at J
  simp only[Qu]at J
  rw[Yo (by omega),Yo (by omega)]at J
  exact Qo J
 have ak:=oa.k
 have bk:=ob.k
 have an:=oa.n
 have bn:=ob.n
 have akn:=oa.kn
 have nolt: ∀{a b:Sm},OkS a→OkS b→(∀i:Nat,(i:Int)<y→cg a i=cg b i)→b.2.1+b.2.2.2.1=y→¬a.2.1<b.2.1:=fun {a b} oa ob I eb hlt=>by
  have ak:=oa.k
  have bn:=ob.n
  have H:=I a.2.1.toNat (by omega)
  unfold cg at H
  rw[if_neg (by omega),if_pos (by omega)]at H
  exact absurd (show false=true from congrArg Prod.fst H) (by decide)
 have hk:a.2.1=b.2.1:=by
  have h1:=nolt oa ob I eb
  have J:=nolt ob oa (fun i hi=>(I i hi).symm) ea
  omega
 have hn:a.2.2.2.1=b.2.2.2.1:=by omega
 have hadd:a.2.2.1=b.2.2.1:=by
  by_cases h0:a.2.1=0
  ·rw[oa.k0 h0,ob.k0 (by omega)]
  ·have H:=I (a.2.1.toNat-1) (by omega)
   unfold cg at H
   rw[if_pos (by omega),if_pos (by omega),if_pos (by omega),if_pos (by omega)]at H
   exact congrArg Prod.snd H
 have hp: ∀j:Nat,j<4→(pus a).getD j 0=(pus b).getD j 0:=fun j hj=>by
  by_cases h4:(j:Int)<a.2.2.2.1
  ·have H:=I (a.2.1.toNat+j) (by omega)
   unfold cg at H
   rw[if_neg (by omega),if_neg (by omega)]at H
   have H:=congrArg Prod.snd H
   rw[show a.2.1.toNat+j-a.2.1.toNat=j by omega,show a.2.1.toNat+j-b.2.1.toNat=j by omega]at H
   exact H
  ·have z: ∀{s:Sm},OkS s→¬(j:Int)<s.2.2.2.1→(pus s).getD j 0=0:=fun {s} o h=>by
    rw[Yu]
    cases hx:(pus s)[j]? with
    |none=>rfl
    |some x=>exact(o.p _ _ hx).2.2 (by omega)
   rw[z oa h4,z ob (by omega)]
 obtain⟨a1,a2,a3,a4,a5,a6,a7,a8⟩:=a
 obtain⟨b1,b2,b3,b4,b5,b6,b7,b8⟩:=b
 have O:=hp 0 (by omega)
 have W:=hp 1 (by omega)
 have p2:=hp 2 (by omega)
 have p3:=hp 3 (by omega)
 have O:a5=b5:=O
 have W:a6=b6:=W
 have p2:a7=b7:=p2
 have p3:a8=b8:=p3
 simp only at fa fb hk hn hadd
 rw[fa,fb,hk,hn,hadd,O,W,p2,p3]
end Go.Proofs.YtlbnpmfggfbdoaaGreatDoor
end
section
namespace Go.Proofs.YtlbnpmfggfbdoaaGreatDoor
open Go.RowKit Go.Graph
theorem Qap {f K A N J O W p3:Int}:OkS (f,K,A,N,(J,O,W,p3))↔(0≤f∧f≤4∧0≤N∧N≤4∧0≤K∧K≤f∧K+N≤4∧0≤A∧A≤1048576∧(K=0→A=0)∧(0≤J∧J≤1048576∧(N≤0→J=0))∧(0≤O∧O≤1048576∧(N≤1→O=0))∧(0≤W∧W≤1048576∧(N≤2→W=0))∧(0≤p3∧p3≤1048576∧(N≤3→p3=0))):=by
 constructor
 ·intro h
  have h1:=h.f
  have h2:=h.n
  have h3:=h.k
  have h4:=h.kn
  have h5:=h.a
  have h6:=h.k0
  have h7:=h.p 0 J rfl
  have h8:=h.p 1 O rfl
  have h9:=h.p 2 W rfl
  have I:=h.p 3 p3 rfl
  simp only at h1 h2 h3 h4 h5 h6 h7 h8 h9 I
  exact⟨h1.1,h1.2,h2.1,h2.2,h3.1,h3.2,h4,h5.1,h5.2,h6,h7,h8,h9,I⟩
 ·intro ⟨h1,h2,h3,h4,h5,h6,h7,h8,h9,I,h11,h12,h13,h14⟩
  refine⟨⟨h1,h2⟩,⟨h3,h4⟩,⟨h5,h6⟩,h7,⟨h8,h9⟩,I,fun i x H=>?_⟩
  match i,H with
  |0,H=>obtain rfl:J=x:=Qo H;exact h11
  |1,H=>obtain rfl:O=x:=Qo H;exact h12
  |2,H=>obtain rfl:W=x:=Qo H;exact h13
  |3,H=>obtain rfl:p3=x:=Qo H;exact h14
  |i+4,H=>cases H
def opS (s:Sm):Pth.Op:=⟨s.2.1.toNat,s.2.2.1,s.2.2.2.1.toNat⟩
def thW (a e:Sm):Sm:=
 if e.2.2.2.1=1 then(a.1,a.2.1,a.2.2.1,a.2.2.2.1+1,a.2.2.2.2)
 else if e.2.2.1=1 then(if a.2.2.2.1=0 then(a.1,a.2.1,a.2.2.1+1,0,(0,0,0,0))else(a.1,a.2.1,a.2.2.1,a.2.2.2.1,(if a.2.2.2.1=1 then a.2.2.2.2.1+1 else a.2.2.2.2.1,if a.2.2.2.1=2 then a.2.2.2.2.2.1+1 else a.2.2.2.2.2.1,if a.2.2.2.1=3 then a.2.2.2.2.2.2.1+1 else a.2.2.2.2.2.2.1,if a.2.2.2.1=4 then a.2.2.2.2.2.2.2+1 else a.2.2.2.2.2.2.2)))
 else if e.2.1<e.1 then(if a.2.2.2.1=0 then(a.1,a.2.1-1,0,0,(0,0,0,0))else(a.1,a.2.1,a.2.2.1,a.2.2.2.1-1,(if a.2.2.2.1=1 then 0 else a.2.2.2.2.1,if a.2.2.2.1=2 then 0 else a.2.2.2.2.2.1,if a.2.2.2.1=3 then 0 else a.2.2.2.2.2.2.1,if a.2.2.2.1=4 then 0 else a.2.2.2.2.2.2.2)))
 else a
def thV (a e:Sm):Int:=
 if e.2.2.1=1 then(if a.2.2.2.1=0 then a.2.2.1+1 else if a.2.2.2.1=1 then a.2.2.2.2.1+1 else if a.2.2.2.1=2 then a.2.2.2.2.2.1+1 else if a.2.2.2.1=3 then a.2.2.2.2.2.2.1+1 else a.2.2.2.2.2.2.2+1)else 0
theorem o_az {x y:Int}{e:Sm}(J:Form x y e)(O:0≤x∧x≤4):OkS e:=by
 rcases J with⟨rfl,H⟩|⟨rfl,I,H⟩|⟨rfl,I,H⟩|⟨rfl,I,H⟩<;>exact Qap.2 (by omega)
structure ThOk (a e:Sm) (y:Int):Prop where
 prog:F.bS a e=if(1048576:Int)<thV a e then some ((0,0,0,0,(0,0,0,0)),12)else some (thW a e,0)
 ref:F.cQ a e=(F.ad (thW a e)).bind fun r=>if r≠0 then some ((0,0,0,0,(0,0,0,0)),12)else some (thW a e,0)
 ok:OkS (thW a e)↔¬(1048576:Int)<thV a e
 from_:(thW a e).1=a.1
 ends:(thW a e).2.1+(thW a e).2.2.2.1=y
 app:(opS e).app (ctr a)=if thV a e≤1048576 then some (ctr (thW a e))else none
theorem c00 {f B H I J O:Int}:ctr (f,0,B,0,(H,I,J,O))=[]:=rfl
theorem c01 {f B H I J O:Int}:ctr (f,0,B,1,(H,I,J,O))=[(false,H)]:=rfl
theorem c02 {f B H I J O:Int}:ctr (f,0,B,2,(H,I,J,O))=[(false,H),(false,I)]:=rfl
theorem c03 {f B H I J O:Int}:ctr (f,0,B,3,(H,I,J,O))=[(false,H),(false,I),(false,J)]:=rfl
theorem c04 {f B H I J O:Int}:ctr (f,0,B,4,(H,I,J,O))=[(false,H),(false,I),(false,J),(false,O)]:=rfl
theorem c10 {f B H I J O:Int}:ctr (f,1,B,0,(H,I,J,O))=[(true,B)]:=rfl
theorem c11 {f B H I J O:Int}:ctr (f,1,B,1,(H,I,J,O))=[(true,B),(false,H)]:=rfl
theorem c12 {f B H I J O:Int}:ctr (f,1,B,2,(H,I,J,O))=[(true,B),(false,H),(false,I)]:=rfl
theorem c13 {f B H I J O:Int}:ctr (f,1,B,3,(H,I,J,O))=[(true,B),(false,H),(false,I),(false,J)]:=rfl
theorem c20 {f B H I J O:Int}:ctr (f,2,B,0,(H,I,J,O))=[(true,0),(true,B)]:=rfl
theorem c21 {f B H I J O:Int}:ctr (f,2,B,1,(H,I,J,O))=[(true,0),(true,B),(false,H)]:=rfl
theorem c22 {f B H I J O:Int}:ctr (f,2,B,2,(H,I,J,O))=[(true,0),(true,B),(false,H),(false,I)]:=rfl
theorem c30 {f B H I J O:Int}:ctr (f,3,B,0,(H,I,J,O))=[(true,0),(true,0),(true,B)]:=rfl
theorem c31 {f B H I J O:Int}:ctr (f,3,B,1,(H,I,J,O))=[(true,0),(true,0),(true,B),(false,H)]:=rfl
theorem c40 {f B H I J O:Int}:ctr (f,4,B,0,(H,I,J,O))=[(true,0),(true,0),(true,0),(true,B)]:=rfl
theorem thN0 {f K B x y:Int}{e:Sm}(H:OkS (f,K,B,0,(0,0,0,0)))(W:K+0=x)(I:Form x y e):ThOk (f,K,B,0,(0,0,0,0)) e y:=by
 have hk:=Qap.1 H
 obtain⟨n,hn⟩: ∃n,A.FU=n+5:=⟨A.FU-5,by decide⟩
 have g00: -9223372036854775808≤B∧B≤9223372036854775807:=by omega
 have g01: -9223372036854775808≤B+1∧B+1≤9223372036854775807:=by omega
 have g02: -9223372036854775808≤1+B∧1+B≤9223372036854775807:=by omega
 have b0:B≤1048576:=by omega
 have cK:K=0∨K=1∨K=2∨K=3∨K=4:=by omega
 have J:=o_az I (by omega)
 subst W
 rcases cK with rfl|rfl|rfl|rfl|rfl<;>rcases I with⟨rfl,rfl⟩|⟨rfl,O,rfl⟩|⟨rfl,O,rfl⟩|⟨rfl,O,rfl⟩<;>first
  |(exfalso;omega)
  |exact⟨(by unfold F.bS;rw[show F.am (_,_,_,_,(_,_,_,_))=some true from o_c H,Qb,show F.am (_,_,_,_,(_,_,_,_))=some true from o_c J];simp[thW,thV,F.b2,F.bx,A.cp4,A.ix,A.gd,Z.R64,Ju 1 B,g00,g01,g02,b0,W6.2 b0]),(by unfold F.cQ;rw[show F.ad (_,_,_,_,(_,_,_,_))=some 0 from o_a H,Qb,show F.ad (_,_,_,_,(_,_,_,_))=some 0 from o_a J];simp[thW,F.cq,F.cp,F.co,F.bz,F.bY,F.cn,A.ix,A.gd,Z.R64,Int.min_def,hn,g00,g01,g02]),(by simp[thW,thV];rw[Qap];omega),(by simp[thW]),(by simp[thW]),(by simp[thW,thV,opS,Pth.Op.app,Pth.bump,c00,c01,c02,c03,c04,c10,c11,c12,c13,c20,c21,c22,c30,c31,c40,b0,W6.2 b0])⟩
theorem thN1 {f K B H x y:Int}{e:Sm}(I:OkS (f,K,B,1,(H,0,0,0)))(hx:K+1=x)(J:Form x y e):ThOk (f,K,B,1,(H,0,0,0)) e y:=by
 have hk:=Qap.1 I
 obtain⟨n,hn⟩: ∃n,A.FU=n+5:=⟨A.FU-5,by decide⟩
 have g00: -9223372036854775808≤B∧B≤9223372036854775807:=by omega
 have g01: -9223372036854775808≤B+1∧B+1≤9223372036854775807:=by omega
 have g02: -9223372036854775808≤1+B∧1+B≤9223372036854775807:=by omega
 have b0:B≤1048576:=by omega
 have g10: -9223372036854775808≤H∧H≤9223372036854775807:=by omega
 have g11: -9223372036854775808≤H+1∧H+1≤9223372036854775807:=by omega
 have g12: -9223372036854775808≤1+H∧1+H≤9223372036854775807:=by omega
 have b1:H≤1048576:=by omega
 have cK:K=0∨K=1∨K=2∨K=3:=by omega
 have O:=o_az J (by omega)
 subst hx
 rcases cK with rfl|rfl|rfl|rfl<;>rcases J with⟨rfl,rfl⟩|⟨rfl,W,rfl⟩|⟨rfl,W,rfl⟩|⟨rfl,W,rfl⟩<;>first
  |(exfalso;omega)
  |exact⟨(by unfold F.bS;rw[show F.am (_,_,_,_,(_,_,_,_))=some true from o_c I,Qb,show F.am (_,_,_,_,(_,_,_,_))=some true from o_c O];simp[thW,thV,F.b2,F.bx,A.cp4,A.ix,A.gd,Z.R64,Ju 1 B,g00,g01,g02,g10,g11,g12,b0,W6.2 b0,b1,W6.2 b1]),(by unfold F.cQ;rw[show F.ad (_,_,_,_,(_,_,_,_))=some 0 from o_a I,Qb,show F.ad (_,_,_,_,(_,_,_,_))=some 0 from o_a O];simp[thW,F.cq,F.cp,F.co,F.bz,F.bY,F.cn,A.ix,A.gd,Z.R64,Int.min_def,hn,g00,g01,g02,g10,g11,g12]),(by simp[thW,thV];rw[Qap];omega),(by simp[thW]),(by simp[thW]),(by simp[thW,thV,opS,Pth.Op.app,Pth.bump,c00,c01,c02,c03,c04,c10,c11,c12,c13,c20,c21,c22,c30,c31,c40,b0,W6.2 b0,b1,W6.2 b1])⟩
theorem thN2 {f K B H I x y:Int}{e:Sm}(J:OkS (f,K,B,2,(H,I,0,0)))(hx:K+2=x)(O:Form x y e):ThOk (f,K,B,2,(H,I,0,0)) e y:=by
 have hk:=Qap.1 J
 obtain⟨n,hn⟩: ∃n,A.FU=n+5:=⟨A.FU-5,by decide⟩
 have g00: -9223372036854775808≤B∧B≤9223372036854775807:=by omega
 have g01: -9223372036854775808≤B+1∧B+1≤9223372036854775807:=by omega
 have g02: -9223372036854775808≤1+B∧1+B≤9223372036854775807:=by omega
 have b0:B≤1048576:=by omega
 have g10: -9223372036854775808≤H∧H≤9223372036854775807:=by omega
 have g11: -9223372036854775808≤H+1∧H+1≤9223372036854775807:=by omega
 have g12: -9223372036854775808≤1+H∧1+H≤9223372036854775807:=by omega
 have b1:H≤1048576:=by omega
 have g20: -9223372036854775808≤I∧I≤9223372036854775807:=by omega
 have g21: -9223372036854775808≤I+1∧I+1≤9223372036854775807:=by omega
 have g22: -9223372036854775808≤1+I∧1+I≤9223372036854775807:=by omega
 have b2:I≤1048576:=by omega
 have cK:K=0∨K=1∨K=2:=by omega
 have W:=o_az O (by omega)
 subst hx
 rcases cK with rfl|rfl|rfl<;>rcases O with⟨rfl,rfl⟩|⟨rfl,h1,rfl⟩|⟨rfl,h1,rfl⟩|⟨rfl,h1,rfl⟩<;>first
  |(exfalso;omega)
  |exact⟨(by unfold F.bS;rw[show F.am (_,_,_,_,(_,_,_,_))=some true from o_c J,Qb,show F.am (_,_,_,_,(_,_,_,_))=some true from o_c W];simp[thW,thV,F.b2,F.bx,A.cp4,A.ix,A.gd,Z.R64,Ju 1 B,g00,g01,g02,g10,g11,g12,g20,g21,g22,b0,W6.2 b0,b1,W6.2 b1,b2,W6.2 b2]),(by unfold F.cQ;rw[show F.ad (_,_,_,_,(_,_,_,_))=some 0 from o_a J,Qb,show F.ad (_,_,_,_,(_,_,_,_))=some 0 from o_a W];simp[thW,F.cq,F.cp,F.co,F.bz,F.bY,F.cn,A.ix,A.gd,Z.R64,Int.min_def,hn,g00,g01,g02,g10,g11,g12,g20,g21,g22]),(by simp[thW,thV];rw[Qap];omega),(by simp[thW]),(by simp[thW]),(by simp[thW,thV,opS,Pth.Op.app,Pth.bump,c00,c01,c02,c03,c04,c10,c11,c12,c13,c20,c21,c22,c30,c31,c40,b0,W6.2 b0,b1,W6.2 b1,b2,W6.2 b2])⟩
theorem thN3 {f K B H I J x y:Int}{e:Sm}(O:OkS (f,K,B,3,(H,I,J,0)))(hx:K+3=x)(W:Form x y e):ThOk (f,K,B,3,(H,I,J,0)) e y:=by
 have hk:=Qap.1 O
 obtain⟨n,hn⟩: ∃n,A.FU=n+5:=⟨A.FU-5,by decide⟩
 have g00: -9223372036854775808≤B∧B≤9223372036854775807:=by omega
 have g01: -9223372036854775808≤B+1∧B+1≤9223372036854775807:=by omega
 have g02: -9223372036854775808≤1+B∧1+B≤9223372036854775807:=by omega
 have b0:B≤1048576:=by omega
 have g10: -9223372036854775808≤H∧H≤9223372036854775807:=by omega
 have g11: -9223372036854775808≤H+1∧H+1≤9223372036854775807:=by omega
 have g12: -9223372036854775808≤1+H∧1+H≤9223372036854775807:=by omega
 have b1:H≤1048576:=by omega
 have g20: -9223372036854775808≤I∧I≤9223372036854775807:=by omega
 have g21: -9223372036854775808≤I+1∧I+1≤9223372036854775807:=by omega
 have g22: -9223372036854775808≤1+I∧1+I≤9223372036854775807:=by omega
 have b2:I≤1048576:=by omega
 have g30: -9223372036854775808≤J∧J≤9223372036854775807:=by omega
 have g31: -9223372036854775808≤J+1∧J+1≤9223372036854775807:=by omega
 have g32: -9223372036854775808≤1+J∧1+J≤9223372036854775807:=by omega
 have b3:J≤1048576:=by omega
 have cK:K=0∨K=1:=by omega
 have he:=o_az W (by omega)
 subst hx
 rcases cK with rfl|rfl<;>rcases W with⟨rfl,rfl⟩|⟨rfl,h1,rfl⟩|⟨rfl,h1,rfl⟩|⟨rfl,h1,rfl⟩<;>first
  |(exfalso;omega)
  |exact⟨(by unfold F.bS;rw[show F.am (_,_,_,_,(_,_,_,_))=some true from o_c O,Qb,show F.am (_,_,_,_,(_,_,_,_))=some true from o_c he];simp[thW,thV,F.b2,F.bx,A.cp4,A.ix,A.gd,Z.R64,Ju 1 B,g00,g01,g02,g10,g11,g12,g20,g21,g22,g30,g31,g32,b0,W6.2 b0,b1,W6.2 b1,b2,W6.2 b2,b3,W6.2 b3]),(by unfold F.cQ;rw[show F.ad (_,_,_,_,(_,_,_,_))=some 0 from o_a O,Qb,show F.ad (_,_,_,_,(_,_,_,_))=some 0 from o_a he];simp[thW,F.cq,F.cp,F.co,F.bz,F.bY,F.cn,A.ix,A.gd,Z.R64,Int.min_def,hn,g00,g01,g02,g10,g11,g12,g20,g21,g22,g30,g31,g32]),(by simp[thW,thV];rw[Qap];omega),(by simp[thW]),(by simp[thW]),(by simp[thW,thV,opS,Pth.Op.app,Pth.bump,c00,c01,c02,c03,c04,c10,c11,c12,c13,c20,c21,c22,c30,c31,c40,b0,W6.2 b0,b1,W6.2 b1,b2,W6.2 b2,b3,W6.2 b3])⟩
theorem thN4 {f K B H I J O x y:Int}{e:Sm}(W:OkS (f,K,B,4,(H,I,J,O)))(hx:K+4=x)(hf:Form x y e):ThOk (f,K,B,4,(H,I,J,O)) e y:=by
 have hk:=Qap.1 W
 obtain⟨n,hn⟩: ∃n,A.FU=n+5:=⟨A.FU-5,by decide⟩
 have g00: -9223372036854775808≤B∧B≤9223372036854775807:=by omega
 have g01: -9223372036854775808≤B+1∧B+1≤9223372036854775807:=by omega
 have g02: -9223372036854775808≤1+B∧1+B≤9223372036854775807:=by omega
 have b0:B≤1048576:=by omega
 have g10: -9223372036854775808≤H∧H≤9223372036854775807:=by omega
 have g11: -9223372036854775808≤H+1∧H+1≤9223372036854775807:=by omega
 have g12: -9223372036854775808≤1+H∧1+H≤9223372036854775807:=by omega
 have b1:H≤1048576:=by omega
 have g20: -9223372036854775808≤I∧I≤9223372036854775807:=by omega
 have g21: -9223372036854775808≤I+1∧I+1≤9223372036854775807:=by omega
 have g22: -9223372036854775808≤1+I∧1+I≤9223372036854775807:=by omega
 have b2:I≤1048576:=by omega
 have g30: -9223372036854775808≤J∧J≤9223372036854775807:=by omega
 have g31: -9223372036854775808≤J+1∧J+1≤9223372036854775807:=by omega
 have g32: -9223372036854775808≤1+J∧1+J≤9223372036854775807:=by omega
 have b3:J≤1048576:=by omega
 have g40: -9223372036854775808≤O∧O≤9223372036854775807:=by omega
 have g41: -9223372036854775808≤O+1∧O+1≤9223372036854775807:=by omega
 have g42: -9223372036854775808≤1+O∧1+O≤9223372036854775807:=by omega
 have b4:O≤1048576:=by omega
 have cK:K=0:=by omega
 have he:=o_az hf (by omega)
 subst hx
 rcases cK with rfl<;>rcases hf with⟨rfl,rfl⟩|⟨rfl,h1,rfl⟩|⟨rfl,h1,rfl⟩|⟨rfl,h1,rfl⟩<;>first
  |(exfalso;omega)
  |exact⟨(by unfold F.bS;rw[show F.am (_,_,_,_,(_,_,_,_))=some true from o_c W,Qb,show F.am (_,_,_,_,(_,_,_,_))=some true from o_c he];simp[thW,thV,F.b2,F.bx,A.cp4,A.ix,A.gd,Z.R64,Ju 1 B,g00,g01,g02,g10,g11,g12,g20,g21,g22,g30,g31,g32,g40,g41,g42,b0,W6.2 b0,b1,W6.2 b1,b2,W6.2 b2,b3,W6.2 b3,b4,W6.2 b4]),(by unfold F.cQ;rw[show F.ad (_,_,_,_,(_,_,_,_))=some 0 from o_a W,Qb,show F.ad (_,_,_,_,(_,_,_,_))=some 0 from o_a he];simp[thW,F.cq,F.cp,F.co,F.bz,F.bY,F.cn,A.ix,A.gd,Z.R64,Int.min_def,hn,g00,g01,g02,g10,g11,g12,g20,g21,g22,g30,g31,g32,g40,g41,g42]),(by simp[thW,thV];rw[Qap];omega),(by simp[thW]),(by simp[thW]),(by simp[thW,thV,opS,Pth.Op.app,Pth.bump,c00,c01,c02,c03,c04,c10,c11,c12,c13,c20,c21,c22,c30,c31,c40,b0,W6.2 b0,b1,W6.2 b1,b2,W6.2 b2,b3,W6.2 b3,b4,W6.2 b4])⟩
theorem then_form {a e:Sm}{x y:Int}(I:OkS a)(H:a.2.1+a.2.2.2.1=x)(J:Form x y e):ThOk a e y:=by
 obtain⟨f,K,A,N,p0,p1,W,O⟩:=a
 have hk:=Qap.1 I
 have H:K+N=x:=H
 have cN:N=0∨N=1∨N=2∨N=3∨N=4:=by omega
 rcases cN with rfl|rfl|rfl|rfl|rfl
 ·obtain rfl:p0=0:=(by omega);obtain rfl:p1=0:=(by omega);obtain rfl:W=0:=(by omega);obtain rfl:O=0:=(by omega);exact thN0 I H J
 ·obtain rfl:p1=0:=(by omega);obtain rfl:W=0:=(by omega);obtain rfl:O=0:=(by omega);exact thN1 I H J
 ·obtain rfl:W=0:=(by omega);obtain rfl:O=0:=(by omega);exact thN2 I H J
 ·obtain rfl:O=0:=(by omega);exact thN3 I H J
 ·exact thN4 I H J
abbrev PE:=Pth.Ed (V:=Pl)
def eNt (e:Ed):PE:=⟨e.1,e.2.1,opS e.2.2⟩
def dpN (g:List Nd)(d:List Int)(p:Pl):Nat:=(Dp g d p).toNat
def i0N (g:List Nd)(d:List Int)(p:Pl):Pth.D:=List.replicate (dpN g d p) (true,0)
def lpsN (g:List Nd):List Pl:=(g.filter fun n=>decide (n.2.1=14)).map fun n=>(n.1,2)
def EN (g:List Nd)(d:List Int):List PE:=(edges g d).map eNt
theorem within_add {n:Nd}{x:Int}(h:n.2.1≠14):(Qak n x).2.2.1=0:=by
 have st: ∀(lo H:Int) (t:Sm),t.2.2.1=0→(Qbo x lo H t).1.2.2.1=0:=fun lo H t h=>by
  unfold Qbo
  split
  ·rfl
  ·exact h
 unfold Qak
 split
 ·exact st _ _ _ rfl
 ·(split)
  ·exact st _ _ _ rfl
  ·first|exact st _ _ _ rfl|(rw[if_neg h];exact st _ _ _ rfl)
theorem id_add {x:Int}:(idP x).1.2.2.1=0:=by
 unfold idP Qbo
 split<;>rfl
structure EF (g:List Nd) (d:List Int) (e:Ed):Prop where
 form:Form (Dp g d e.1) (Dp g d e.2.1) e.2.2
 src:0≤Dp g d e.1∧Dp g d e.1≤4
 tgt:0≤Dp g d e.2.1∧Dp g d e.2.1≤4
 lp:e.2.2.2.2.1≠0→e.2.1∈lpsN g
 ends:(∃a,(e.1,a)∈spots g d)∧∃b,(e.2.1,b)∈spots g d
theorem Qao {g:List Nd}{l d:List Int}{dm:List (Int×Int)}(W:Whole g l d dm){e:Ed}(he:e∈edges g d):EF g d e:=by
 obtain⟨a,b,ha,hb,K,_⟩:=Qiu W he
 have O:=nodup_S (d:=d) W.inc W.own
 have ea:Dp g d e.1=a:=mget_mem O ha
 have eb:Dp g d e.2.1=b:=mget_mem O hb
 have fin: ∀(n:Nd) (x:Int),Form a b e.2.2→(0≤a∧a≤4)→(e.2.2.2.2.1≠0→e.2.1∈lpsN g)→EF g d e:=fun n x R I hl=>by
  refine⟨by rw[ea,eb];exact R,by rw[ea];exact I,?_,hl,⟨a,ha⟩,⟨b,hb⟩⟩
  rw[eb]
  rcases R with⟨_,h⟩|⟨_,h1,h⟩|⟨_,h1,h⟩|⟨_,h1,h⟩<;>omega
 obtain⟨j,n,hn,h15,h|h⟩:=Qco d 0 g e he
 ·obtain⟨k,z,hz,rfl⟩:=Qjg g d n 0 n.2.2.1 e h
  have hng:=Qg hn
  have ex:Dp g d (n.1,((0+k:Nat):Int))=iget d (idx g z):=mget_mem O (Qbb d 0 g n hng _ (Qfs g d n.1 0 n.2.2.1 k z hz))
  have H:a=iget d (idx g z):=by rw[←ea];exact ex
  have I:=W.inb (idx g z)
  refine fin n (iget d (idx g z)) (by rw[H];exact form_of I (.inl rfl) K H) (by rw[H];exact I) fun h0=>?_
  by_cases J:n.2.1=14
  ·exact Qv.2 ⟨n,Yh.2 ⟨hng,decide_eq_true J⟩,rfl⟩
  ·exact absurd (within_add J) h0
 ·unfold outE at h
  obtain⟨u,hu,rfl⟩:=Qv.1 h
  have h2:=spotsF_outP (g:=g) d 0 g j n hn h15
  have ex:Dp g d (n.1,2)=iget d ((0+j:Nat):Int):=mget_mem O h2
  have H:a=iget d ((0+j:Nat):Int):=by rw[←ea];exact ex
  have I:=W.inb ((0+j:Nat):Int)
  exact fin n (iget d ((0+j:Nat):Int)) (by rw[H];exact form_of (n:=n) I (.inr rfl) K H) (by rw[H];exact I) fun h0=>absurd id_add h0
theorem netN {g:List Nd}{l d:List Int}{dm:List (Int×Int)}(W:Whole g l d dm):Pth.Net (EN g d) (i0N g d) (dpN g d) (lpsN g) where
 i0e p:=rfl
 keep e he:=by
  obtain⟨e,hE,rfl⟩:=Qv.1 he
  have h:=Qao W hE
  have h1:=h.src
  show e.2.2.2.1.toNat≤(Dp g d e.1).toNat
  rcases h.form with⟨h2,h3⟩|⟨h2,_,h3⟩|⟨h2,_,h3⟩|⟨h2,_,h3⟩<;>rw[h2]<;>simp only<;>omega
 ends e he:=by
  obtain⟨e,hE,rfl⟩:=Qv.1 he
  have h:=Qao W hE
  have h1:=h.src
  show e.2.2.2.1.toNat+e.2.2.2.2.2.1.toNat=(Dp g d e.2.1).toNat
  rcases h.form with⟨h2,h3⟩|⟨h2,_,h3⟩|⟨h2,_,h3⟩|⟨h2,_,h3⟩<;>rw[h2,h3]<;>simp only<;>omega
 add e he:=by
  obtain⟨e,hE,rfl⟩:=Qv.1 he
  have h:=Qao W hE
  have h1:=h.src
  show e.2.2.2.2.1=0∨(e.2.2.2.2.1=1∧e.2.2.2.1.toNat=(Dp g d e.1).toNat∧e.2.2.2.2.2.1.toNat=0∧e.2.1∈lpsN g)
  have hl:=h.lp
  rcases h.form with⟨h2,h3⟩|⟨h2,_,h3⟩|⟨h2,_,h3⟩|⟨h2,_,h3⟩<;>rw[h2]at hl ⊢
  ·exact .inl rfl
  ·exact .inl rfl
  ·exact .inl rfl
  ·exact .inr ⟨rfl,rfl,rfl,hl (show(1:Int)≠0 by decide)⟩
 few:=by
  have h1:=Xs (fun n:Nd=>decide (n.2.1=14)) g
  have h2:=W.l32
  unfold lpsN
  rw[Qw];omega
theorem lps32 {g:List Nd}{l d:List Int}{dm:List (Int×Int)}(W:Whole g l d dm):(lpsN g).length≤32:=by
 have H:=Xs (fun n:Nd=>decide (n.2.1=14)) g
 have I:=W.l32
 unfold lpsN
 rw[Qw];omega
theorem dp4 {g:List Nd}{l d:List Int}{dm:List (Int×Int)}(W:Whole g l d dm){p:Pl}{a:Int}(h:(p,a)∈spots g d):Dp g d p=a∧0≤a∧a≤4:=by
 have I:=nodup_S (d:=d) W.inc W.own
 refine⟨mget_mem I h,?_⟩
 have: ∀(i:Nat) (l:List Nd) (sp:Sp),sp∈spotsF g d i l→0≤sp.2∧sp.2≤4:=by
  intro i l
  induction l generalizing i with
  |nil=>intro sp h;cases h
  |cons n r J=>
   intro sp h
   unfold spotsF at h
   rcases Qn.1 h with h|h
   ·have: ∀(k:Nat) (l:List Int),sp∈insS g d n.1 k l→0≤sp.2∧sp.2≤4:=by
     intro k l
     induction l generalizing k with
     |nil=>intro h;cases h
     |cons y r H=>
      intro h
      unfold insS at h
      rcases Qk.1 h with rfl|h
      ·exact W.inb _
      ·exact H (k+1) h
    exact this _ _ h
   ·rcases Qn.1 h with h|h
    ·unfold outS at h
     split at h
     ·rw[Qj]at h;subst h;exact W.inb _
     ·cases h
    ·exact J (i+1) sp h
 exact this 0 g (p,a) h
def GN (g:List Nd)(d:List Int)(p q:Pl)(s:Sm):Prop:=GS (dpN g d p) (dpN g d q) s
def sumE (dep:Pl→Nat)(e:PE):Sm:=((dep e.src:Int),(e.op.keep:Int),e.op.add,(e.op.zeros:Int),(0,0,0,0))
def thnN (g:List Nd)(d:List Int)(e:PE)(s:Sm):Option Sm:=if thV s (sumE (dpN g d) e)≤1048576 then some (thW s (sumE (dpN g d) e))else none
theorem sum_eq {g:List Nd}{d:List Int}{e:Ed}(h:EF g d e):sumE (dpN g d) (eNt e)=e.2.2:=by
 have O:=h.src
 unfold sumE eNt dpN opS
 simp only
 have J:((Dp g d e.1).toNat:Int)=Dp g d e.1:=by omega
 rcases h.form with⟨H,I⟩|⟨H,_,I⟩|⟨H,_,I⟩|⟨H,_,I⟩<;>rw[H]<;>simp only[J]
 ·rfl
 ·rfl
 ·rw[show(((Dp g d e.1)-1).toNat:Int)=Dp g d e.1-1 by omega];rfl
 ·rfl
theorem Qja {g:List Nd}{d:List Int}{e:Ed}(h:EF g d e){p:Pl}{s:Sm}(I:GN g d p e.1 s):ThOk s e.2.2 (Dp g d e.2.1):=by
 have J:=h.src
 obtain⟨o,O,H⟩:=I
 unfold dpN at H
 exact then_form o (by rw[H];omega) h.form
theorem syN {g:List Nd}{l d:List Int}{dm:List (Int×Int)}(W:Whole g l d dm):Pth.Sy (EN g d) ctr ltS (GN g d) (thnN g d) where
 lin:=linS
 inj ha hb h:=ctr_inj ha hb h
 ok h:=o_cj h.1
 some he hs h:=by
  obtain⟨e,hE,rfl⟩:=Qv.1 he
  have R:=Qao W hE
  have T:=Qja R hs
  have h4:=R.tgt
  unfold thnN at h
  rw[sum_eq R]at h
  split at h
  ·rename_i hv
   obtain rfl:=Qo h
   refine⟨⟨T.ok.2 (by omega),by rw[T.from_];exact hs.2.1,?_⟩,?_⟩
   ·rw[T.ends]
    show Dp g d e.2.1=((Dp g d e.2.1).toNat:Int)
    omega
   ·show(opS e.2.2).app _=_
    rw[T.app,if_pos hv]
  ·cases h
 none he hs h:=by
  obtain⟨e,hE,rfl⟩:=Qv.1 he
  have R:=Qao W hE
  have T:=Qja R hs
  unfold thnN at h
  rw[sum_eq R]at h
  split at h
  ·cases h
  ·rename_i hv
   show(opS e.2.2).app _=_
   rw[T.app,if_neg hv]
theorem Qht {g:List Nd}{l d:List Int}{dm:List (Int×Int)}(W:Whole g l d dm){e:Ed}(I:e∈edges g d){p:Pl}{s:Sm}(J:GN g d p e.1 s):
  (∃m,thnN g d (eNt e) s=some m∧F.bS s e.2.2=some (m,0)∧F.cQ s e.2.2=some (m,0))∨(thnN g d (eNt e) s=none∧∃z,F.bS s e.2.2=some (z,12)∧F.cQ s e.2.2=some (z,12)):=by
 have R:=Qao W I
 have T:=Qja R J
 unfold thnN
 rw[sum_eq R,T.prog,T.ref]
 by_cases H:thV s e.2.2≤1048576
 ·rw[if_pos H,if_neg (by omega),o_a (T.ok.2 (by omega)),Qb,if_neg (by decide)]
  exact .inl ⟨_,rfl,rfl,rfl⟩
 ·rw[if_neg H,if_pos (by omega),Check_no (fun h=>T.ok.1 h (by omega)),Qb,if_pos (by decide)]
  exact .inr ⟨rfl,_,rfl,rfl⟩
theorem o_b1 {g:List Nd}{l d:List Int}{dm:List (Int×Int)}(W:Whole g l d dm){p:Pl}{x:Int}(h:(p,x)∈spots g d):F.dz x=some (idP x)∧F.eI x=some (idP x)∧idP x=((x,x,0,0,(0,0,0,0)),0)∧GN g d p p (idP x).1∧ctr (idP x).1=i0N g d p:=by
 obtain⟨H,I⟩:=dp4 W h
 have e:idP x=((x,x,0,0,(0,0,0,0)),0):=by unfold idP Qbo;rw[if_neg (by omega)]
 refine⟨Id_eqP x I,Id_eqR x I,e,⟨by rw[e];exact Qap.2 (by omega),?_,?_⟩,?_⟩
 ·rw[e];unfold dpN;rw[H];show x=_;omega
 ·rw[e];unfold dpN;rw[H];show x+0=_;omega
 ·rw[e]
  unfold i0N dpN
  rw[H]
  exact five (P:=fun x=>ctr (x,x,0,0,(0,0,0,0))=List.replicate x.toNat (true,0)) rfl rfl rfl rfl rfl x I
theorem leC_t {x y:Pth.Ctr}(h:x.1=true∧y.1=false):Pth.leC x y↔y.2=1048576:=by unfold Pth.leC;rw[if_pos h]
theorem leC_f {x y:Pth.Ctr}(h: ¬(x.1=true∧y.1=false)):Pth.leC x y↔x.2≤y.2:=by unfold Pth.leC;rw[if_neg h]
theorem all_le {α:Type}(f g:α→Pth.Ctr)(l:List α):(l.all fun i=>decide (Pth.leC (f i) (g i)))=decide (Pth.le (l.map f) (l.map g)):=by
 rw[Y7,Qy,decide_eq_true_iff,Pth.le_map]
 simp only[decide_eq_true_eq]
theorem cg_ix {s:Sm}(h:OkS s){i:Nat}(W:i<4):(s.2.1≤(i:Int)→∃x,A.ix [s.2.2.2.2.1,s.2.2.2.2.2.1,s.2.2.2.2.2.2.1,s.2.2.2.2.2.2.2] ((i:Int)-s.2.1)=some x∧cg s i=(false,x))∧((i:Int)<s.2.1→cg s i=(true,if(i:Int)=s.2.1-1 then s.2.2.1 else 0)):=by
 have hk:=h.k
 constructor
 ·intro I
  obtain⟨x,O,H⟩:=ix4 (a:=s.2.2.2.2.1) (b:=s.2.2.2.2.2.1) (c:=s.2.2.2.2.2.2.1) (d:=s.2.2.2.2.2.2.2) (i:=(i:Int)-s.2.1) (by omega)
  refine⟨x,O,?_⟩
  unfold cg
  rw[if_neg (by omega),Yu]
  have e:i-s.2.1.toNat=((i:Int)-s.2.1).toNat:=by omega
  rw[e]
  show(false,([s.2.2.2.2.1,s.2.2.2.2.2.1,s.2.2.2.2.2.2.1,s.2.2.2.2.2.2.2][((i:Int)-s.2.1).toNat]?).getD 0)=_
  rw[H];rfl
 ·intro I
  unfold cg
  rw[if_pos I]
  by_cases J:(i:Int)=s.2.1-1
  ·rw[if_pos J,if_pos (by omega)]
  ·rw[if_neg J,if_neg (by omega)]
theorem Qdz {b:Sm}(J:OkS b):F.ba b=some ((List.range (b.2.1+b.2.2.2.1).toNat).map fun(i:Nat)=>((i:Int),cg b i)):=by
 have bk:=J.k
 have bn:=J.n
 have bkn:=J.kn
 unfold F.ba
 rw[A.gd1 ⟨by omega,by omega⟩]
 exact A.lp0 (List.range (b.2.1+b.2.2.2.1).toNat) (fun f z=>F.ar b f z) (fun k l=>some (l.map fun(i:Nat)=>((i:Int),cg b i)))
  (fun f=>by rw[Y1,F.ar,if_neg (by omega)];rfl)
  (fun f k i W hk ih=>by
   rw[Y1]at hk
   rw[Yo hk]at W
   obtain rfl:k=i:=Qo W
   obtain⟨b1,b2⟩:=cg_ix J (i:=k) (by omega)
   have go: ∀v:Int,cg b k=(decide ((k:Int)<b.2.1),v)→F.a4 (F.ar b f) b (k:Int) v=some ((k::(List.range (b.2.1+b.2.2.2.1).toNat).drop (k+1)).map fun(i:Nat)=>((i:Int),cg b i)):=fun v hv=>by
    unfold F.a4
    rw[A.gd1 (A.r64n (by omega)),ih,Q3,hv];rfl
   rw[F.ar,if_pos (by omega),A.gd1 ⟨by omega,by omega⟩]
   by_cases O:(k:Int)<b.2.1
   ·have H:=b2 O
    by_cases I:(k:Int)=b.2.1-1
    ·rw[if_pos I]
     rw[if_pos I]at H
     exact go _ (by rw[H,decide_eq_true O])
    ·rw[if_neg I,if_neg (by omega)]
     rw[if_neg I]at H
     exact go _ (by rw[H,decide_eq_true O])
   ·obtain⟨z,H,I⟩:=b1 (by omega)
    rw[if_neg (by omega),if_pos (by omega),A.gd1 ⟨by omega,by omega⟩,H,Qb]
    exact go _ (by rw[I,decide_eq_false O]))
  (by rw[Y1];have:=Qab;omega)
theorem leqP_l2 {a b:Sm}{xs:List Pth.Ctr}(J:xs.length=4): ∀(l:List Nat),(∀i∈l,xs[i]?=some (cg b i))→F.bX xs (l.map fun(i:Nat)=>((i:Int),cg a i))=some (l.all fun i=>decide (Pth.leC (cg a i) (cg b i)))
 | [],_=>rfl
 |i::l,h=>by
  have ih:=leqP_l2 (a:=a) (b:=b) J l fun j O=>h j (Qe _ O)
  have hi:=A.ixn (h i (Qf ..))
  rw[Q3,F.bX,X6]
  have tail: ∀t:Bool,(some ((if t=true then false else true)&&l.all fun i=>decide (Pth.leC (cg a i) (cg b i))):Option Bool)=if t=true then some false else some (l.all fun i=>decide (Pth.leC (cg a i) (cg b i))):=fun t=>by cases t<;>rfl
  have O: ∀y:Bool,(y=true↔((cg a i).1=true∧(cg b i).1=false))→F.dC (F.bX xs (l.map fun(i:Nat)=>((i:Int),cg a i))) xs ((i:Int),cg a i) y=some (decide (Pth.leC (cg a i) (cg b i))&&l.all fun i=>decide (Pth.leC (cg a i) (cg b i))):=fun y W=>by
   unfold F.dC
   rw[A.gd1 J.symm,A.gd1 J.symm,hi,Qb,Qb,ih]
   by_cases H:y=true
   ·rw[if_pos H]
    by_cases I:(cg b i).2=1048576
    ·rw[if_neg (fun h=>h I),decide_eq_true ((leC_t (W.1 H)).2 I)];rfl
    ·rw[if_pos I,decide_eq_false (fun h=>I ((leC_t (W.1 H)).1 h))];rfl
   ·rw[if_neg H]
    have hn: ¬((cg a i).1=true∧(cg b i).1=false):=fun h=>H (W.2 h)
    by_cases I:(cg b i).2<(cg a i).2
    ·rw[if_pos I,decide_eq_false (fun h=>by have:=(leC_f hn).1 h;omega)];rfl
    ·rw[if_neg I,decide_eq_true ((leC_f hn).2 (by omega))];rfl
  by_cases H:(cg a i).1=true
  ·rw[if_pos H,A.gd1 J.symm,hi,Qb]
   exact O _ (by rw[H];simp)
  ·rw[if_neg H]
   exact O _ (by simp[H])
theorem leqP_l3 {a b:Sm}(O:OkS a)(m:Nat)(W:(a.2.1+a.2.2.2.1).toNat=m)(hm4:m≤4): ∀(n k:Nat) (xs:List Pth.Ctr),k+n=m→xs.length=4→(∀j,j<k→xs[j]?=some (cg b j))→
  F.cI a ((List.range' k n).map fun(i:Nat)=>((i:Int),cg b i)) xs=some (decide (Pth.le ((List.range m).map (cg a)) ((List.range m).map (cg b)))):=by
 intro n
 induction n with
 |zero=>
  intro k xs hk I h
  rw[List.range'_zero,Xv,F.cI,show F.cW (_,_,_,_,(_,_,_,_))=some a from rfl,Qb,show F.ba (_,_,_,_,(_,_,_,_))=_ from Qdz O,Qb,W]
  rw[leqP_l2 (b:=b) I _ fun i hi=>h i (by have:=Xf.1 hi;omega),all_le]
 |succ n ih=>
  intro k xs hk I h
  have J:xs[k]?=some xs[k]:=Qd (by omega)
  rw[List.range'_succ,Q3,F.cI,A.gd1 I.symm,A.ixn J,Qb]
  refine ih (k+1) _ (by omega) (by rw[Wx];exact I) fun j hj=>?_
  show(xs.set ((k:Int)).toNat (cg b k))[j]?=_
  rw[Qq,Y0]
  by_cases H:k=j
  ·subst H;rw[if_pos rfl,if_pos (by omega)]
  ·rw[if_neg H];exact h j (by omega)
theorem Leq_P {x y:Int}{a b:Sm}(H:GS x y a)(I:GS x y b):F.dK a b=some (decide (Pth.le (ctr a) (ctr b))):=by
 obtain⟨oa,fa,ea⟩:=H
 obtain⟨ob,fb,eb⟩:=I
 have ak:=oa.k
 have an:=oa.n
 have akn:=oa.kn
 have bk:=ob.k
 have bn:=ob.n
 unfold F.dK F.d7
 rw[show F.am (_,_,_,_,(_,_,_,_))=some true from o_c oa,Qb,if_neg (by decide),show F.am (_,_,_,_,(_,_,_,_))=some true from o_c ob,Qb,A.gd1 ⟨fun _=>⟨by omega,by omega⟩,fun _=>⟨by omega,by omega⟩⟩]
 rw[show(bif bif !true then true else decide (a.1≠b.1)then true else decide (a.2.1+a.2.2.2.1≠b.2.1+b.2.2.2.1))=false from by simp[fa,fb,ea,eb],if_neg (by decide),show F.cW (_,_,_,_,(_,_,_,_))=some b from rfl,Qb,show F.ba (_,_,_,_,(_,_,_,_))=_ from Qdz ob,Qb,eb,List.range_eq_range']
 refine(leqP_l3 oa y.toNat (by rw[ea]) (by omega) y.toNat 0 _ (by omega) rfl (fun j J=>absurd J (by omega))).trans ?_
 unfold ctr
 rw[ea,eb]
def lexC:List Int→List Int→Int
 |x::a,y::b=>if x<y then-1 else if y<x then 1 else lexC a b
 |_,_=>0
theorem lexC_lt: ∀(a b:List Int),lexC a b<0↔Pth.ltL a b
 |x::a,y::b=>by
  unfold lexC Pth.ltL
  by_cases H:x<y
  ·rw[if_pos H];exact⟨fun _=>.inl H,fun _=>by decide⟩
  rw[if_neg H]
  by_cases I:y<x
  ·rw[if_pos I];exact⟨fun h=>absurd h (by decide),fun h=>h.elim (fun h=>absurd h H) fun h=>by omega⟩
  rw[if_neg I,lexC_lt a b]
  exact⟨fun h=>.inr ⟨by omega,h⟩,fun h=>h.elim (fun h=>absurd h H) fun h=>h.2⟩
 | [],b=>by cases b<;>exact⟨fun h=>absurd h (by simp[lexC]),fun h=>h.elim⟩
 |x::a,[]=>⟨fun h=>absurd h (by simp[lexC]),fun h=>h.elim⟩
theorem Cmp64_eq (a b:Int):F.cc a b=some (cmpI a b):=by
 unfold F.cc F.cZ cmpI
 simp only[Qb,ne_eq,not_true_eq_false,decide_false,Qz,if_false]
 split
 ·rfl
 ·split<;>rfl
theorem CompareI (a b:List Int)(h:a.length=b.length)(hl:a.length≤100):F.bI a b=some (lexC a b):=by
 have:=A.lp0 a (fun f z=>F.aG a b f z) (fun k l=>some (lexC l (b.drop k)))
  (fun f=>by rw[F.aG,if_neg (by omega),if_neg (by omega)];rfl)
  (fun f k x O hk W=>by
   have J:b[k]?=some b[k]:=Qd (by omega)
   rw[F.aG,if_pos (by omega),A.ixn O,Qb,if_neg (by omega),A.ixn J,Qb,Cmp64_eq,Qb,A.gd1 (A.r64n (by omega)),W,A.dropx J,lexC]
   unfold cmpI
   by_cases H:x<b[k]
   ·rw[if_pos H,if_pos H,if_pos (by decide)]
   rw[if_neg H,if_neg H]
   by_cases I:b[k]<x
   ·rw[if_pos I,if_pos I,if_pos (by decide)]
   ·rw[if_neg I,if_neg I,if_neg (by decide)])
  (by have:=Qab;omega)
 rw[Wc]at this
 exact this
theorem Qdx (a b:Sm):F.a5 a b=some (lexC (ints a) (ints b)):=by
 have st: ∀(x y:Int) (r:List Int) (u v:List Int) (z:Option Int),(x=y→(if orF r≠0 then some (orF r)else z)=some (lexC u v))→(if orF (cmpI x y::r)≠0 then some (orF (cmpI x y::r))else z)=some (lexC (x::u) (y::v)):=fun x y r u v z h=>by
  have J:orF (cmpI x y::r)=if cmpI x y≠0 then cmpI x y else orF r:=rfl
  have O:lexC (x::u) (y::v)=if x<y then-1 else if y<x then 1 else lexC u v:=rfl
  rcases Int.lt_trichotomy x y with H|H|H
  ·have e:cmpI x y= -1:=by unfold cmpI;rw[if_pos H]
   have I:orF (cmpI x y::r)= -1:=by rw[J,e];rfl
   rw[I,O,if_pos H,if_pos (show(-1:Int)≠0 by decide)]
  ·have I:orF (cmpI x y::r)=orF r:=by rw[J,H,Qca];rfl
   rw[I,O,if_neg (show ¬x<y by omega),if_neg (show ¬y<x by omega)];exact h H
  ·have I:orF (cmpI x y::r)=1:=by rw[J,Qis H];rfl
   rw[I,O,if_neg (show ¬x<y by omega),if_pos H,if_pos (show(1:Int)≠0 by decide)]
 unfold F.a5
 rw[Qdq,Qb,Qdq,Qb,Cmp64_eq,Qb,Qdq,Qb,Or_eq _ (by simp),Qb,CompareI _ _ (by simp) (by simp),Qb]
 exact st _ _ _ _ _ _ fun _=>st _ _ _ _ _ _ fun _=>st _ _ _ _ _ _ fun _=>st _ _ _ _ _ _ fun _=>by rw[orF,if_neg (fun h=>h rfl)]
instance decLess: ∀a b:Sm,Decidable (Pth.less ctr ltS a b):=fun a b=>inferInstanceAs (Decidable (Pth.le (ctr a) (ctr b)∧(¬Pth.le (ctr b) (ctr a)∨ltS a b)))
theorem cmp_lt (a b:Sm):decide (lexC (ints a) (ints b)<0)=decide (ltS a b):=decide_eq_decide.2 (lexC_lt _ _)
theorem less_P {x y:Int}{a b:Sm}(O:GS x y a)(W:GS x y b):F.eg a b=some (decide (Pth.less ctr ltS a b)):=by
 unfold F.eg F.cO
 by_cases J:a=b
 ·rw[if_neg (fun h=>h J),decide_eq_false (by rw[J];exact Pth.less_irr linS _)]
 rw[if_pos J,show F.dK (_,_,_,_,(_,_,_,_)) (_,_,_,_,(_,_,_,_))=_ from Leq_P O W,Qb]
 by_cases H:Pth.le (ctr a) (ctr b)
 ·rw[if_pos (decide_eq_true H),show F.dK (_,_,_,_,(_,_,_,_)) (_,_,_,_,(_,_,_,_))=_ from Leq_P W O,Qb]
  by_cases I:Pth.le (ctr b) (ctr a)
  ·rw[if_neg (by rw[decide_eq_true I];decide),show F.a5 (_,_,_,_,(_,_,_,_)) (_,_,_,_,(_,_,_,_))=_ from Qdx a b,Qb,cmp_lt]
   congr 1;rw[decide_eq_decide]
   exact⟨fun h=>⟨H,.inr h⟩,fun h=>h.2.resolve_left fun h3=>h3 I⟩
  ·rw[if_pos (by rw[decide_eq_false I];rfl),decide_eq_true (p:=Pth.less ctr ltS a b) ⟨H,.inl I⟩]
 ·rw[if_neg (by rw[decide_eq_true_iff];exact H),decide_eq_false (fun h=>H h.1)]
abbrev rlS (a b:Sm):Bool:=decide (ltS a b)
def cpF:Sm→List Sm→List Sm
 |_,[]=>[]
 |p,x::l=>if x=p then cpF p l else x::cpF x l
def cpS:List Sm→List Sm
 | []=>[]
 |p::t=>p::cpF p t
theorem Qjd: ∀{l:List Sm} {p r:Sm},r∈p::cpF p l↔r∈p::l
 | [],p,r=>by simp[cpF]
 |x::l,p,r=>by
  unfold cpF
  by_cases h:x=p
  ·subst h
   rw[if_pos rfl,Qjd];simp
  ·rw[if_neg h,Qk,Qjd,Qk,Qk,Qk]
theorem cpF_pw: ∀{l:List Sm} {p:Sm},(p::l).Pairwise (fun a b=>rlS b a=false)→(p::cpF p l).Pairwise ltS
 | [],p,_=>Ym ..
 |x::l,p,h=>by
  obtain⟨W,J⟩:=W5.1 h
  unfold cpF
  by_cases e:x=p
  ·subst e
   rw[if_pos rfl]
   exact cpF_pw J
  ·rw[if_neg e]
   have O:=cpF_pw J
   have H:ltS p x:=(linS.tri p x fun h=>e h.symm).resolve_right (of_decide_eq_false (W x (Qf ..)))
   refine W5.2 ⟨fun b I=>?_,O⟩
   rcases Qk.1 I with rfl|I
   ·exact H
   ·exact linS.tr _ _ _ H ((W5.1 O).1 b I)
theorem o_ck {l:List Sm}(h:l.Pairwise (fun a b=>rlS b a=false)):(cpS l).Pairwise ltS∧∀s,s∈cpS l↔s∈l:=by
 cases l with
 |nil=>exact⟨List.Pairwise.nil,fun s=>Iff.rfl⟩
 |cons p t=>exact⟨cpF_pw h,fun s=>Qjd⟩
theorem CompactS (l:List Sm)(hl:l.length≤1000000000):F.aB l=some (cpS l):=by
 have hFU:=Qab
 rw[F.aB]
 by_cases h2:l.length<2
 ·rw[if_pos (by omega)]
  cases l with
  |nil=>rfl
  |cons p t=>
   have:t=[]:=by cases t with
    |nil=>rfl
    |cons a b=>simp only[Qh]at h2;omega
   subst this
   rfl
 ·rw[if_neg (by omega)]
  have second: ∀(k:Nat) (hk:k<l.length),1≤k→∀(q j f i:Nat) (xs:List Sm) (p:Sm),k+j+q=l.length→q<f→1≤j→k≤i→i≤k+j-1→xs.length=l.length→xs.drop (k+j-1)=l.drop (k+j-1)→l[k+j-1]?=some p→
    F.v l (k:Int) f xs (i:Int) (j:Int)=some (xs.take i++cpF p (l.drop (k+j))):=by
   intro k hk hk1 q
   induction q with
   |zero=>
    intro j f i xs p hq O hj hi W hx I hp
    obtain⟨f,rfl⟩: ∃f',f=f'+1:=⟨f-1,by omega⟩
    rw[F.v,if_neg (by omega),A.gd1 ⟨by omega,by omega⟩,A.gd1 ⟨by omega,by simp;omega⟩,Qq,Xm (by rw[Qs];omega),Jm,Nat.min_self,Q2 (by omega)]
    simp[cpF]
   |succ q J=>
    intro j f i xs p hq O hj hi W hx I hp
    obtain⟨f,rfl⟩: ∃f',f=f'+1:=⟨f-1,by omega⟩
    obtain⟨y,H⟩: ∃y,l[k+j]?=some y:=⟨_,Qd (by omega)⟩
    have gx: ∀t,k+j-1≤t→xs[t]?=l[t]?:=fun t ht=>by
     have:=congrArg (fun z=>z[t-(k+j-1)]?) I
     simp only[We]at this
     rw[show k+j-1+(t-(k+j-1))=t by omega]at this
     exact this
    have y1:(xs.drop k)[j]?=some y:=by rw[We,gx _ (by omega)];exact H
    have y2:(xs.drop k)[j-1]?=some p:=by rw[We,gx _ (by omega),show k+(j-1)=k+j-1 by omega];exact hp
    have hxi:xs[i]?=some xs[i]:=Qd (by omega)
    have ej:(j:Int)-1=((j-1:Nat):Int):=by omega
    have ej1:(j:Int)+1=((j+1:Nat):Int):=by omega
    have ei1:(i:Int)+1=((i+1:Nat):Int):=by omega
    rw[F.v,if_pos (by omega),A.gd1 ⟨by omega,by omega⟩,Qq,A.gd1 (by omega),A.ixn y1,Qb,A.gd1 (by omega),ej,A.ixn y2,Qb,A.dropx H]
    show(if y≠p then _ else _)=some (xs.take i++cpF p (y::l.drop (k+j+1)))
    unfold cpF
    by_cases e:y=p
    ·rw[if_neg (fun h=>h e),if_pos e,F.aH,A.gd1 ⟨by omega,by omega⟩,ej1]
     exact J (j+1) f i xs p (by omega) (by omega) (by omega) hi (by omega) hx (by
      have:=congrArg (List.drop 1) I
      rw[X5,X5]at this
      rw[show k+(j+1)-1=k+j-1+1 by omega];exact this) (by rw[show k+(j+1)-1=k+j by omega,H,e])
    ·rw[if_pos e,if_neg e,A.gd1 (by omega),Qb,A.ixn hxi,Qb,A.gd1 ⟨by omega,by omega⟩,F.aH,A.gd1 ⟨by omega,by omega⟩,ej1,ei1,Qq]
     rw[J (j+1) f (i+1) (xs.set i y) y (by omega) (by omega) (by omega) (by omega) (by omega) (by rw[Wx];exact hx) (by
      rw[List.drop_set_of_lt (by omega)]
      have:=congrArg (List.drop 1) I
      rw[X5,X5]at this
      rw[show k+(j+1)-1=k+j-1+1 by omega];exact this) (by rw[show k+(j+1)-1=k+j by omega,H])]
     have:(xs.set i y).take (i+1)=xs.take i++[y]:=by
      rw[Xw,Ys (by omega),List.take_set_of_le (by omega)];rfl
     rw[this,Wf];rfl
  have first: ∀(q k f:Nat) (p:Sm),k+q=l.length→q<f→1≤k→l[k-1]?=some p→F.ah l f (k:Int)=some (l.take k++cpF p (l.drop k)):=by
   intro q
   induction q with
   |zero=>
    intro k f p hk O h1 hp
    obtain⟨f,rfl⟩: ∃f',f=f'+1:=⟨f-1,by omega⟩
    rw[F.ah,if_neg (by omega),Q2 (by omega),Ws (by omega)];simp[cpF]
   |succ q J=>
    intro k f p hk O h1 hp
    obtain⟨f,rfl⟩: ∃f',f=f'+1:=⟨f-1,by omega⟩
    obtain⟨y,H⟩: ∃y,l[k]?=some y:=⟨_,Qd (by omega)⟩
    have ek:(k:Int)-1=((k-1:Nat):Int):=by omega
    rw[F.ah,if_pos (by omega),A.gd1 ⟨by omega,by omega⟩,A.ixn H,Qb,ek,A.ixn hp,Qb]
    show(if y=p then _ else _)=_
    by_cases e:y=p
    ·rw[if_pos e,A.gd1 ⟨by omega,by omega⟩]
     have:=second k (by omega) h1 (l.length-(k+1)) 1 A.FU k l y (by omega) (by omega) (by omega) (by omega) (by omega) rfl rfl (by rw[show k+1-1=k by omega];exact H)
     refine this.trans ?_
     rw[A.dropx H]
     conv=>rhs;rw[cpF]
     rw[if_pos e,e]
    ·rw[if_neg e,A.gd1 ⟨by omega,by omega⟩,show(k:Int)+1=((k+1:Nat):Int) by omega,J (k+1) f y (by omega) (by omega) (by omega) (by rw[show k+1-1=k by omega];exact H),A.dropx H,Xw,H]
     conv=>rhs;rw[cpF]
     rw[if_neg e];simp
  obtain⟨p,t,rfl⟩: ∃p t,l=p::t:=by
   cases l with
   |nil=>simp at h2
   |cons p t=>exact⟨p,t,rfl⟩
  have:=first ((p::t).length -1) 1 A.FU p (by omega) (by omega) (by omega) rfl
  refine(show F.ah (p::t) A.FU 1=_ from this).trans ?_
  rfl
theorem ordS (l:List Sm):A.ordB (fun x y=>F.a5 x y) l=true∧A.cl0 (fun x y=>F.a5 x y)=rlS∧A.OrdOn rlS l:=by
 have e:A.cl0 (fun x y=>F.a5 x y)=rlS:=by
  funext a b
  show(match F.a5 a b with|some c=>decide (c<0)|none=>false)=_
  rw[Qdx];exact cmp_lt a b
 have asy: ∀a b,rlS a b=true→rlS b a=false:=fun a b h=>decide_eq_false fun H=>linS.irr _ (linS.tr _ _ _ (of_decide_eq_true h) H)
 have tri: ∀a b,rlS a b=false→rlS b a=false→a=b:=fun a b I H=>Q4 fun h=>(linS.tri a b h).elim (of_decide_eq_false I) (of_decide_eq_false H)
 have tr: ∀a b c,rlS a b=true→rlS b c=true→rlS a c=true:=fun a b c I H=>decide_eq_true (linS.tr _ _ _ (of_decide_eq_true I) (of_decide_eq_true H))
 refine⟨?_,e,fun x _ y _ h=>asy x y h,fun x _ y _ I H=>tri x y I H,fun x _ y _ z _ I H=>tr x y z I H⟩
 unfold A.ordB
 rw[Qy]
 intro x J
 rw[Qy]
 intro y O
 rw[e,Ql,Ql]
 refine⟨⟨by show(F.a5 x y).isSome=true;rw[Qdx];rfl,?_⟩,?_⟩
 ·cases I:rlS x y with
  |true=>rw[asy x y I];rfl
  |false=>
   cases H:rlS y x with
   |true=>rfl
   |false=>rw[decide_eq_true (tri x y I H)];rfl
 ·rw[Qy]
  intro z W
  cases I:rlS x y with
  |false=>rfl
  |true=>
   cases H:rlS y z with
   |false=>rfl
   |true=>rw[tr x y z I H];rfl
theorem sortSm (l:List Sm)(H:l.length≤1000000000): ∃r,((F.ak l).bind fun r=>(F.aB r).bind fun r=>some (r,(0:Int)))=some (r,0)∧r.Pairwise ltS∧∀s,s∈r↔s∈l:=by
 obtain⟨I,J,O⟩:=ordS l
 have hp:=A.srtL_perm rlS l
 obtain⟨W,h5⟩:=o_ck (A.srtL_pw O l fun a h=>h)
 refine⟨cpS (A.srtL rlS l),?_,W,fun s=>(h5 s).trans hp.mem_iff⟩
 rw[F.ak,A.gd1 (by omega),A.srtF,if_pos I,Qb,J,CompactS _ (by rw[hp.length_eq];exact H)];rfl
theorem Qgh {x y:Int}(l:List Sm)(hl:l.length≤1000000000)(O: ∀s∈l,GS x y s){s:Sm}(W:GS x y s):F.u l s=some (l.any fun u=>decide (Pth.less ctr ltS u s)):=by
 have h:=A.fst l (fun u=>decide (Pth.less ctr ltS u s)) (fun f z=>F.f l s f z)
  (fun f=>by rw[F.f,if_neg (by omega)])
  (fun f k u H hk=>by
   rw[F.f,if_pos (by omega),A.ixn H,Qb,F.es]
   rw[show F.eg (_,_,_,_,(_,_,_,_)) (_,_,_,_,(_,_,_,_))=_ from less_P (O u (Qg H)) W,Qb,Qb,A.gd1 (A.r64n (by omega))])
  (by have:=Qab;omega)
 unfold F.u F.aL
 rcases h with⟨I,J⟩|⟨k,u,I,J,h3,_⟩
 ·rw[show F.f l (_,_,_,_,(_,_,_,_)) A.FU 0=_ from I,Qb,Xu.2 fun u H=>by rw[J u H];decide];rfl
 ·rw[show F.f l (_,_,_,_,(_,_,_,_)) A.FU 0=_ from J,Qb,Xq.2 ⟨u,Qg I,h3⟩,decide_eq_true (by omega)]
theorem Ends_P {x y:Int}{s:Sm}(h:GS x y s):F.dn s=some y:=by
 obtain⟨o,I,H⟩:=h
 have hk:=o.k
 have J:=o.n
 have O:=o.f
 unfold F.dn
 rw[show F.am (_,_,_,_,(_,_,_,_))=some true from o_c o,Qb,if_neg (by decide),A.gd1 ⟨by omega,by omega⟩,H]
theorem least_mem {x y:Int}{l r:List Sm}(H:r.Pairwise ltS)(I: ∀s,s∈r↔s∈l.filter fun s=> !(l.any fun u=>decide (Pth.less ctr ltS u s))):Pth.IsLst ctr ltS l r:=by
 refine⟨H,fun s=>(I s).trans ?_⟩
 rw[Yh,Xt,Xu]
 simp only[decide_eq_true_eq]
theorem Least_P {x y:Int}(l:List Sm)(hl:l.length≤1000000000)(J: ∀s∈l,GS x y s): ∃r,F.dY l=some (r,0)∧Pth.IsLst ctr ltS l r:=by
 have l3:=A.lp l (fun f (xs:List Sm) z=>F.bb l f xs z) (fun k t xs=>((F.ak (xs++t.filter fun s=> !(l.any fun u=>decide (Pth.less ctr ltS u s)))).bind fun r=>(F.aB r).bind fun r=>some (r,(0:Int)))) (fun k xs=>xs.length≤k)
  (fun f xs W=>by rw[F.bb,if_neg (by omega),List.filter_nil,Wm])
  (fun f xs k s H hk W O=>by
   obtain⟨z,I⟩: ∃z,l[0]?=some z:=⟨_,Qd (by omega)⟩
   have hsl:=Qg H
   have g1:=J s hsl
   have g0:=J _ (Qg I)
   rw[F.bb,if_pos (by omega),A.ixn H,Qb,show A.ix l 0=some z from A.ixn (k:=0) I,Qb,if_neg (by rw[g1.2.1,g0.2.1];exact fun h=>h rfl),Qb]
   rw[show F.dn (_,_,_,_,(_,_,_,_))=_ from Ends_P g1,Qb,show F.dn (_,_,_,_,(_,_,_,_))=_ from Ends_P g0,Qb,decide_eq_false (fun h=>h rfl)]
   unfold F.du F.dt
   rw[if_neg (by decide),show F.u l (_,_,_,_,(_,_,_,_))=_ from Qgh l hl J g1,Qb,A.gd1 (A.r64n (by omega)),A.gd1 (A.r64n (by omega)),Xl]
   cases hb:(l.any fun u=>decide (Pth.less ctr ltS u s))with
   |true=>rw[if_neg (by decide),if_neg (by decide)];exact O _ (by omega)
   |false=>
    rw[if_pos (show(!false)=true from rfl),if_pos (show(!false)=true from rfl),A.gd1 (by rw[Yw];omega),O _ (by rw[Qm,Yw];omega),Wf]
    rfl)
  (by have:=Qab;omega) [] (by simp)
 have l4:=A.lp0 l (fun f z=>F.cB l f z) (fun k t=>F.bb l A.FU [] 0)
  (fun f=>by rw[F.cB,if_neg (by omega)])
  (fun f k s H hk O=>by
   rw[F.cB,if_pos (by omega),A.ixn H,Qb,show F.am (_,_,_,_,(_,_,_,_))=some true from o_c (J s (Qg H)).1,Qb,if_neg (by decide),A.gd1 (A.r64n (by omega)),O])
  (by have:=Qab;omega)
 obtain⟨r,h1,h2,h3⟩:=sortSm (l.filter fun s=> !(l.any fun u=>decide (Pth.less ctr ltS u s))) (Wk (Xs _ _) hl)
 refine⟨r,?_,least_mem (x:=x) (y:=y) h2 h3⟩
 unfold F.dY
 rw[l4,l3,Wv,h1]
abbrev Pth:=Pl×Pl×List Sm
theorem EqualS (a b:List Sm)(h:a.length≤1000000000):F.aS a b=some (decide (a=b)):=by
 unfold F.aS
 by_cases H:a.length=b.length
 ·rw[if_neg (by omega)]
  exact A.eql a b (fun f y=>F.aw a b f y) H (fun f=>by rw[F.aw,if_neg (by omega)])
   (fun f k x z I J hk=>by
    rw[F.aw,if_pos (by omega),A.ixn I,Qb,A.ixn J,Qb,A.gd1 (A.r64n (by omega))]
    by_cases e:x=z
    ·rw[if_neg (fun h=>h e),if_pos e]
    ·rw[if_pos e,if_neg e])
   (by have:=Qab;omega)
 ·rw[if_pos (by omega),decide_eq_false (fun e=>H (by rw[e]))]
def Tbl (l:List Pth):Prop:=l.length≤100000∧∀x∈l,x.2.2.length≤1000000000
def Qbf (p q:Pl):List Pth→List Sm
 | []=>[]
 |x::l=>if x.1=p∧x.2.1=q then x.2.2 else Qbf p q l
theorem sumsF_len {p q:Pl}: ∀{l:List Pth},(∀x∈l,x.2.2.length≤1000000000)→(Qbf p q l).length≤1000000000
 | [],_=>Xn _
 |x::l,h=>by
  unfold Qbf
  split
  ·exact h x (Qf ..)
  ·exact sumsF_len fun y H=>h y (Qe _ H)
theorem Sums_P (l:List Pth)(p q:Pl)(h:Tbl l):F.cD l p q=some (Qbf p q l):=
 A.lp0 l (fun f y=>F.cz l p q f y) (fun _ l=>some (Qbf p q l))
  (fun f=>by rw[F.cz,if_neg (by omega)];rfl)
  (fun f k x I hk J=>by
   have W:=h.2 x (Qg I)
   have O:=h.1
   rw[F.cz,if_pos (by omega),A.ixn I,Qb,Qbf,A.gd1 (A.r64n (by omega)),J]
   unfold F.an
   rw[A.gd1 (by rw[Qx];omega),Qb,Wv]
   by_cases H:x.1=p∧x.2.1=q
   ·rw[if_pos H,if_pos (show(x.1,x.2.1)=(p,q)from Jv H.1 H.2)]
   ·rw[if_neg H,if_neg (fun e:(x.1,x.2.1)=(p,q)=>H ⟨congrArg Prod.fst e,congrArg Prod.snd e⟩)])
  (by have:=Qab;have:=h.1;omega)
def stayB (s:Sm):Bool:=decide (s.2.1=s.1∧s.2.2.1=0∧s.2.2.2.1=0)
theorem Rounds1 (s:Sm):F.bU s=some (stayB s):=by
 unfold F.bU stayB
 simp only[A.ba]
 congr 1;exact decide_eq_decide.2 and_assoc
theorem Rounds_P (l:List Pth)(p:Pl)(h:Tbl l):F.dl l p=some ((Qbf p p l).filter fun s=> !stayB s):=by
 unfold F.dl
 rw[show F.cD l p p=some (Qbf p p l)from Sums_P l p p h,Qb]
 have W:=sumsF_len (p:=p) (q:=p) h.2
 generalize Qbf p p l=a at W
 have key:F.aj a=some (a.filter fun s=> !stayB s):=by
  unfold F.aj F.aE
  rcases A.fst a stayB (fun f y=>F.k a f y) (fun f=>by rw[F.k,if_neg (by omega)])
   (fun f k x I hk=>by
    rw[F.k,if_pos (by omega),A.ixn I,Qb,show F.bU x=some (stayB x)from Rounds1 x,Qb,A.gd1 (A.r64n (by omega))])
   (by have:=Qab;omega)with⟨H,J⟩|⟨k,x,H,J,h3,h4⟩
  ·rw[H,Qb,if_pos rfl,List.filter_eq_self.2 (fun n hn=>by rw[J n hn];rfl)]
  ·have hk:=(Qc.1 H).1
   rw[J,Qb,if_neg (by omega),A.gd1 (A.r64n (by omega))]
   exact A.del a stayB (fun f xs i j=>F.d a f xs i j)
    (fun f xs i hlen O=>by
     rw[F.d,if_neg (by omega),A.gd1 ⟨by omega,by omega⟩,A.gd1 ⟨by omega,by simp only[Qm,Qs,W8];omega⟩,Qq]
     congr 1
     rw[Xm (by rw[Qs];omega),Jm,Nat.min_self])
    (fun f xs i j x I hij hj hlen=>by
     have O:xs[i]?=some xs[i]:=Qd (by omega)
     rw[F.d,if_pos (by omega),A.ixn I,Qb,show F.bU x=some (stayB x)from Rounds1 x,Qb]
     simp only[F.ae]
     cases stayB x with
     |true=>rw[Xh,if_neg Wd,if_pos rfl,A.gd1 (A.r64n (by omega))]
     |false=>rw[Yk,if_pos rfl,if_neg Wd,A.ixn O,Qb,A.gd1 (A.r64n (by omega)),A.gd1 (A.r64n (by omega)),Qq])
    H h3 h4 (by have:=Qab;omega)
 rw[key,Qb]
def Qba (t u:Tm)(s:Sm):Bool:=(F.cf s t u).getD false
theorem could1 (t u:Tm)(s:Sm):F.cf s t u=some (Qba t u s)∧∃v e,F.af s t=some (v,e)∧((e=0∧F.dm v u=some (Qba t u s))∨(e≠0∧Qba t u s=false)):=by
 obtain⟨v,e,I,J,h1,O,W,h4⟩:=Apply_both s t
 obtain⟨r,hr⟩:=o_ch v u
 have key:F.cf s t u=if e=0 then some r else some false:=by
  unfold F.cf F.cU
  rw[show F.av s t=_ from h1,Qb]
  rw[show F.d4 v u=some r from(tleq_eq v u).trans hr,Qb]
 unfold Qba
 by_cases H:e=0
 ·rw[key,if_pos H]
  exact⟨rfl,I,J,O,.inl ⟨W.1 H,by rw[←h4 H];exact hr⟩⟩
 ·rw[key,if_neg H]
  exact⟨rfl,I,J,O,.inr ⟨fun h=>H (W.2 h),rfl⟩⟩
theorem Could_P (l:List Pth)(p q:Pl)(t u:Tm)(h:Tbl l):F.cJ l p t q u=some ((Qbf p q l).any (Qba t u)):=by
 unfold F.cJ
 rw[show F.cD l p q=some (Qbf p q l)from Sums_P l p q h,Qb]
 have O:=sumsF_len (p:=p) (q:=q) h.2
 generalize Qbf p q l=a at O
 have key:F.s a t u=some (a.any (Qba t u)):=by
  unfold F.s F.aI
  rcases A.fst a (Qba t u) (fun f y=>F.e a t u f y) (fun f=>by rw[F.e,if_neg (by omega)])
   (fun f k x H hk=>by
    rw[F.e,if_pos (by omega),A.ixn H,Qb,show F.cf x t u=some (Qba t u x)from(could1 t u x).1,Qb,A.gd1 (A.r64n (by omega))])
   (by have:=Qab;omega)with⟨I,J⟩|⟨k,x,I,J,W,h4⟩
  ·rw[show F.e a t u A.FU 0=some (-1)from I,Qb,Xu.2 (fun x H=>by rw[J x H];decide)];rfl
  ·rw[show F.e a t u A.FU 0=some (k:Int)from J,Qb,Xq.2 ⟨x,Qg I,W⟩,decide_eq_true (by omega)]
 rw[show F.s a t u=_ from key,Qb]
end Go.Proofs.YtlbnpmfggfbdoaaGreatDoor
end
section
namespace Go.A
theorem srtF_perm {α:Type}[DecidableEq α]{cmp:α→α→Option Int}{xs ys:List α}(h:ys.Perm xs)(H:ordB cmp xs=true):srtF cmp ys=some (srtL (cl0 cmp) xs):=by
 have key:ordB cmp ys=true:=by
  unfold ordB at H ⊢
  rw[Qy]at H ⊢
  intro x W
  have J:=H x (h.mem_iff.1 W)
  rw[Qy]at J ⊢
  intro y hy
  have I:=J y (h.mem_iff.1 hy)
  rw[Ql,Qy]at I ⊢
  exact⟨I.1,fun z hz=>I.2 z (h.mem_iff.1 hz)⟩
 unfold srtF
 rw[if_pos key]
 obtain⟨O,_⟩:=Qin H
 have hm: ∀a∈ys,a∈xs:=fun a ha=>h.mem_iff.1 ha
 rw[srt_uniq O ((srtL_perm (cl0 cmp) ys).trans h) (srtL_pw O ys hm)]
theorem dem_allK {α β γ:Type}[DecidableEq γ](m:List α)(g:α→β)(L:Nat→List Nat→List β→Option γ)(E:List β→Option γ)(K:Nat→List Nat→List β→Nat→α→Option γ)(r:γ)
  (hL: ∀f sn xs,L (f+1) sn xs=dem m sn (E xs) (K f sn xs)) (hK: ∀f sn xs i p,m[i]?=some p→xs.length<m.length→K f sn xs i p=L f (i::sn) (xs++[g p]))
  (hE: ∀ys,ys.Perm (m.map g)→E ys=some r) (hm:m.length<FU):L FU [] []=some r:=by
 have main: ∀(f:Nat) (sn:List Nat) (xs:List β),sn.Nodup→(∀i,i∈sn→i<m.length)→m.length<f+sn.length→xs.length=sn.length→xs.Perm ((sn.filterMap fun i=>m[i]?).map g)→L f sn xs=some r:=by
  intro f
  induction f with
  |zero=>intro sn xs J H h3;have:=Qdn J H;omega
  |succ f ih=>
   intro sn xs J H h3 h4 h5
   have hsl:=Qdn J H
   rw[hL]
   have dof: ∀{e:Option γ} {k:Nat→α→Option γ},((∀i,i<m.length→i∈sn)→e=some r)→(∀i p,m[i]?=some p→i∉sn→k i p=some r)→dem m sn e k=some r:=by
    intro e k J H
    unfold dem
    have hmem: ∀i,i∈(List.range m.length).filter (fun i=> !(sn.contains i))↔i<m.length∧i∉sn:=fun i=>by
     rw[Yh,Xf];simp
    split
    ·rename_i hl
     rw[hl]at hmem
     exact J fun i O=>Q4 fun hn=>by have:=(hmem i).2 ⟨O,hn⟩;cases this
    ·rename_i i js hl
     rw[hl]at hmem
     have O:=(hmem i).1 (Qf ..)
     rw[Qd O.1,Qb,H i _ (Qd O.1) O.2,if_pos]
     rw[Qy]
     intro j I
     have I:=(hmem j).1 (Qe _ I)
     rw[Qd I.1,Qb,H j _ (Qd I.1) I.2]
     exact decide_eq_true rfl
   refine dof (fun hall=>hE xs (h5.trans ?_)) fun i p hp O=>?_
   ·refine List.Perm.map g ?_
    have hp:sn.Perm (List.range m.length):=by
     refine(List.perm_ext_iff_of_nodup J List.nodup_range).2 fun i=>?_
     rw[Xf];exact⟨H i,hall i⟩
    refine(hp.filterMap _).trans ?_
    have:(List.range m.length).filterMap (fun i=>m[i]?)=m:=by
     have e:(List.range m.length).filterMap (fun i=>m[i]?)=(List.range m.length).pmap (fun i h=>m[i]'h) (fun i h=>Xf.1 h):=by
      have: ∀(l:List Nat) (h: ∀i,i∈l→i<m.length),l.filterMap (fun i=>m[i]?)=l.pmap (fun i h=>m[i]'h) h:=by
       intro l
       induction l with
       |nil=>intro _;rfl
       |cons i l ih=>intro h;rw[List.filterMap_cons,Qd (h i (Qf ..)),List.pmap];simp only[];rw[ih fun j I=>h j (Qe _ I)]
      exact this _ _
     rw[e];exact List.ext_getElem (by simp) fun k J H=>by simp
    rw[this]
   ·have hlt:=(Qc.1 hp).1
    have W:(i::sn).Nodup:=Wp.2 ⟨O,J⟩
    have hsb: ∀j,j∈i::sn→j<m.length:=fun j I=>(Qk.1 I).elim (fun e=>e▸hlt) (H j)
    have hsl2:=Qdn W hsb
    rw[Qh]at hsl2
    rw[hK f sn xs i p hp (by omega)]
    refine ih _ _ W hsb (by rw[Qh];omega) (by rw[Qm,h4];rfl) ?_
    rw[List.filterMap_cons,hp]
    simp only[Q3]
    exact(List.perm_append_comm (l₁:=xs) (l₂:=[g p])).trans (h5.cons (g p))
 exact main FU [] [] X7 (by simp) (by simpa using hm) rfl (List.Perm.refl _)
end Go.A
namespace Go.Proofs.YtlbnpmfggfbdoaaGreatDoor
open Go.RowKit Go.Graph
abbrev Ends:=Pl×Pl
abbrev Tab0:=List (Ends×List Sm)
def Qda (p:Ends×List Sm):Pth:=(p.1.1,p.1.2,p.2)
theorem Qhx (m:Tab0)(hk: ∀p∈m,A.h6 p.1.1.1∧A.h6 p.1.1.2∧A.h6 p.1.2.1∧A.h6 p.1.2.2)(J: ∀p∈m,p.2≠[])(W:m.length≤1000000)(O:A.ordB (fun x y=>F.aT x y) (m.map Qda)=true):
  F.aO m A.FU [] []=some (A.srtL (A.cl0 fun x y=>F.aT x y) (m.map Qda),0):=
 A.dem_allK m Qda (fun f sn xs=>F.aO m f sn xs) (fun xs=>(F.aD xs).bind fun r=>some (r,0))
  (fun f sn xs i p=>A.gd (decide (A.h6 p.1.1.1)=true∧decide (A.h6 p.1.1.2)=true∧decide (A.h6 p.1.2.1)=true∧decide (A.h6 p.1.2.2)=true) (if(0:Int)<((p.2).length:Int)then(A.gd ((List.length (α:=Pth) xs+List.length (α:=Pth) [(p.1.1,p.1.2,p.2)])*56≤140737488355328) ((F.aO m f) (i::sn) (xs++[(p.1.1,p.1.2,p.2)])))else((F.aO m f) (i::sn) xs))) _
  (fun f sn xs=>by rw[F.aO])
  (fun f sn xs i p hp hx=>by
   have H:=Qg hp
   obtain⟨a,b,c,d⟩:=hk p H
   have h0:=List.length_pos_iff.2 (J p H)
   rw[A.gd1 ⟨decide_eq_true a,decide_eq_true b,decide_eq_true c,decide_eq_true d⟩,if_pos (by omega),A.gd1 (by rw[Yw];omega)]
   rfl)
  (fun ys I=>by
   have hlen:=I.length_eq
   rw[Qw]at hlen
   unfold F.aD
   rw[A.gd1 (by omega),A.srtF_perm I O];rfl)
  (by have:=Qab;omega)
def g0_:List Nd:=[(1,1,[],(0,0,ByteArray.mk #[]),ByteArray.mk #[97],0,0),(2,2,[1],(1,0,ByteArray.mk #[]),ByteArray.mk #[],0,0),(3,15,[2],(0,0,ByteArray.mk #[]),ByteArray.mk #[98],0,0)]
def zz:List Sm:=[(0,0,0,0,(0,0,0,0))]
def sp0:List Sp:=[((1,2),0),((2,0),0),((2,2),0),((3,0),0)]
def zS:Sm:=(0,0,0,0,(0,0,0,0))
def ed0:List (Pl×Pl×Sm):=[((1,2),(2,0),zS),((2,0),(2,2),zS),((2,2),(3,0),zS)]
theorem spots0:F.cm g0_=some (sp0,0):=by kernel_rfl
theorem edges0:F.cF g0_=some (ed0,0):=by kernel_rfl
def tb4:Tab0:=[(((1,2),(1,2)),zz),(((2,0),(2,0)),zz),(((2,2),(2,2)),zz),(((3,0),(3,0)),zz)]
def tb5:Tab0:=[(((1,2),(1,2)),zz),(((2,0),(2,0)),zz),(((2,2),(2,2)),zz),(((3,0),(3,0)),zz),(((1,2),(2,0)),zz)]
def tb6:Tab0:=[(((1,2),(1,2)),zz),(((2,0),(2,0)),zz),(((2,2),(2,2)),zz),(((3,0),(3,0)),zz),(((1,2),(2,0)),zz),(((1,2),(2,2)),zz)]
def tb7:Tab0:=[(((1,2),(1,2)),zz),(((2,0),(2,0)),zz),(((2,2),(2,2)),zz),(((3,0),(3,0)),zz),(((1,2),(2,0)),zz),(((1,2),(2,2)),zz),(((1,2),(3,0)),zz)]
def tb8:Tab0:=[(((1,2),(1,2)),zz),(((2,0),(2,0)),zz),(((2,2),(2,2)),zz),(((3,0),(3,0)),zz),(((1,2),(2,0)),zz),(((1,2),(2,2)),zz),(((1,2),(3,0)),zz),(((2,0),(2,2)),zz)]
def tb9:Tab0:=[(((1,2),(1,2)),zz),(((2,0),(2,0)),zz),(((2,2),(2,2)),zz),(((3,0),(3,0)),zz),(((1,2),(2,0)),zz),(((1,2),(2,2)),zz),(((1,2),(3,0)),zz),(((2,0),(2,2)),zz),(((2,0),(3,0)),zz)]
def tb10:Tab0:=[(((1,2),(1,2)),zz),(((2,0),(2,0)),zz),(((2,2),(2,2)),zz),(((3,0),(3,0)),zz),(((1,2),(2,0)),zz),(((1,2),(2,2)),zz),(((1,2),(3,0)),zz),(((2,0),(2,2)),zz),(((2,0),(3,0)),zz),(((2,2),(3,0)),zz)]
def ta0:Tab0:=[]
def ta1:Tab0:=[(((1,2),(1,2)),zz)]
def ta2:Tab0:=[(((1,2),(1,2)),zz),(((2,0),(2,0)),zz)]
def ta3:Tab0:=[(((1,2),(1,2)),zz),(((2,0),(2,0)),zz),(((2,2),(2,2)),zz)]
theorem id0:F.dz 0=some (zS,0):=by kernel_rfl
theorem init_step {f:Nat}{m m':Tab0}{y:Nat}{p:Pl}(hp:sp0[y]?=some (p,0))(H:F.aC m (p,p) [zS]=some (true,m')):F.aP (sp0,0) (ed0,0) (f+1) m (y:Int)=F.aP (sp0,0) (ed0,0) f m' ((y:Int)+1):=by
 have I:=(Qc.1 hp).1
 have J:sp0.length=4:=rfl
 rw[F.aP,if_pos (show(y:Int)<(sp0.length:Int) by omega),show A.ix ((sp0,0):List Sp×Int).1 (y:Int)=some (p,0)from A.ixn hp,Qb,show F.dz ((p,0):Sp).2=some (zS,0)from id0,Qb]
 rw[show F.aC m (((((p,0):Sp).1.1),(((p,0):Sp).1.2)),((((p,0):Sp).1.1),(((p,0):Sp).1.2))) [(((zS,0):Sm×Int).1.1,((zS,0):Sm×Int).1.2.1,((zS,0):Sm×Int).1.2.2.1,((zS,0):Sm×Int).1.2.2.2.1,(((zS,0):Sm×Int).1.2.2.2.2.1,((zS,0):Sm×Int).1.2.2.2.2.2.1,((zS,0):Sm×Int).1.2.2.2.2.2.2.1,((zS,0):Sm×Int).1.2.2.2.2.2.2.2))]=some (true,m')from H,Qb,A.gd1 (A.r64n (by omega))]
theorem ad0:F.aC ta0 ((1,2),(1,2)) [zS]=some (true,ta1):=by kernel_rfl
theorem ad1:F.aC ta1 ((2,0),(2,0)) [zS]=some (true,ta2):=by kernel_rfl
theorem ad2:F.aC ta2 ((2,2),(2,2)) [zS]=some (true,ta3):=by kernel_rfl
theorem ad3:F.aC ta3 ((3,0),(3,0)) [zS]=some (true,tb4):=by kernel_rfl
theorem init0:F.aP (sp0,0) (ed0,0) A.FU [] 0=F.z (sp0,0) (ed0,0) A.FU tb4:=by
 obtain⟨n,H⟩: ∃n,A.FU=n+5:=⟨A.FU-5,by decide⟩
 rw[show F.aP (sp0,0) (ed0,0) A.FU [] 0=F.aP (sp0,0) (ed0,0) (n+5) ta0 ((0:Nat):Int) by rw[←H];rfl]
 rw[init_step (y:=0) rfl ad0]
 refine(init_step (y:=1) rfl ad1).trans ?_
 refine(init_step (y:=2) rfl ad2).trans ?_
 refine(init_step (y:=3) rfl ad3).trans ?_
 rw[F.aP,if_neg (by decide)]
theorem round4 (k:Tab0→Option ((List Pth)×Int)):F.o k (sp0,0) (ed0,0) A.FU tb4 0=k tb5:=by kernel_rfl
theorem round5 (k:Tab0→Option ((List Pth)×Int)):F.o k (sp0,0) (ed0,0) A.FU tb5 0=k tb6:=by kernel_rfl
theorem round6 (k:Tab0→Option ((List Pth)×Int)):F.o k (sp0,0) (ed0,0) A.FU tb6 0=k tb7:=by kernel_rfl
theorem round7 (k:Tab0→Option ((List Pth)×Int)):F.o k (sp0,0) (ed0,0) A.FU tb7 0=k tb8:=by kernel_rfl
theorem round8 (k:Tab0→Option ((List Pth)×Int)):F.o k (sp0,0) (ed0,0) A.FU tb8 0=k tb9:=by kernel_rfl
theorem round9 (k:Tab0→Option ((List Pth)×Int)):F.o k (sp0,0) (ed0,0) A.FU tb9 0=k tb10:=by kernel_rfl
theorem scan {f:Nat}{k:Tab0→Option ((List Pth)×Int)}{y:Nat}{x:Sp}(H:sp0[y]?=some x)(I: ∀k65,F.au k k65 (ed0,0) (y:Int) x A.FU tb10 0=k65 tb10 ((y:Int)+1)):F.o k (sp0,0) (ed0,0) (f+1) tb10 (y:Int)=F.o k (sp0,0) (ed0,0) f tb10 ((y:Int)+1):=by
 have J:=(Qc.1 H).1
 have O:sp0.length=4:=rfl
 rw[F.o,if_pos (show(y:Int)<(sp0.length:Int) by omega),show A.ix ((sp0,0):List Sp×Int).1 (y:Int)=some x from A.ixn H,Qb,I]
theorem round10 (k:Tab0→Option ((List Pth)×Int)):F.o k (sp0,0) (ed0,0) A.FU tb10 0=F.aO tb10 A.FU [] []:=by
 obtain⟨n,H⟩: ∃n,A.FU=n+5:=⟨A.FU-5,by decide⟩
 have e:F.o k (sp0,0) (ed0,0) A.FU tb10 0=F.o k (sp0,0) (ed0,0) (n+5) tb10 ((0:Nat):Int):=by rw[←H];rfl
 rw[e,scan (y:=0) (x:=((1,2),0)) rfl (fun k65=>by kernel_rfl)]
 refine(scan (y:=1) (x:=((2,0),0)) rfl (fun k65=>by kernel_rfl)).trans ?_
 refine(scan (y:=2) (x:=((2,2),0)) rfl (fun k65=>by kernel_rfl)).trans ?_
 refine(scan (y:=3) (x:=((3,0),0)) rfl (fun k65=>by kernel_rfl)).trans ?_
 rw[F.o,if_neg (by decide)]
theorem table0:F.a9 g0_=F.aO tb10 A.FU [] []:=by
 obtain⟨n,H⟩: ∃n,A.FU=n+7:=⟨A.FU-7,by decide⟩
 have st: ∀f m,F.z (sp0,0) (ed0,0) (f+1) m=F.o (F.z (sp0,0) (ed0,0) f) (sp0,0) (ed0,0) A.FU m 0:=fun f m=>by rw[F.z]
 unfold F.a9
 rw[spots0,Qb,if_neg (fun h=>h rfl),edges0,Qb,if_neg (fun h=>h rfl),init0]
 have:F.z (sp0,0) (ed0,0) A.FU tb4=F.z (sp0,0) (ed0,0) (n+7) tb4:=by rw[←H]
 rw[this,st,round4,st,round5,st,round6,st,round7,st,round8,st,round9,st,round10]
theorem begunP:F.eh=some true:=by
 have h:F.a9 [(1,1,[],(0,0,ByteArray.mk #[]),ByteArray.mk #[97],0,0),(2,2,[1],(1,0,ByteArray.mk #[]),ByteArray.mk #[],0,0),(3,15,[2],(0,0,ByteArray.mk #[]),ByteArray.mk #[98],0,0)]=some (A.srtL (A.cl0 fun x y=>F.aT x y) (tb10.map Qda),0):=
  table0.trans (Qhx tb10 (by decide) (by decide) (by decide) (by kernel_rfl))
 have e:F.eh=((F.a9 [(1,1,[],(0,0,ByteArray.mk #[]),ByteArray.mk #[97],0,0),(2,2,[1],(1,0,ByteArray.mk #[]),ByteArray.mk #[],0,0),(3,15,[2],(0,0,ByteArray.mk #[]),ByteArray.mk #[98],0,0)]).bind fun H=>((F.cD H.1 (1,2) (3,0)).bind fun r10=>(if(bif bif decide (H.2=0)then decide (((H.1).length:Int)=10)else false then decide (((r10).length:Int)=1)else false)=true then((A.ix r10 0).bind fun x15=>(F.db (decide (x15=(0,0,0,0,(0,0,0,0))))))else(F.db false)))):=rfl
 rw[e,h,Qb]
 show _=some true
 kernel_rfl
end Go.Proofs.YtlbnpmfggfbdoaaGreatDoor
end
