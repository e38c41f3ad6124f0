/- Functions on data, what they tell, and that the code computes them. -/
import Derived.Test.YtlbnpmfggfbdoaaGreatDoorD5
set_option linter.unusedVariables false
set_option linter.unusedSimpArgs false
set_option synthInstance.maxSize 1000000
set_option synthInstance.maxHeartbeats 400000
set_option linter.unusedSectionVars false
section
namespace Go.Proofs.YtlbnpmfggfbdoaaGreatDoor
open Go.RowKit Go.Graph
def Qgh (f:Fun):Bool:=if f.1=5 then decide (f.2.2≠ByteArray.mk #[])&&decide ((f.2.2.size:Int)≤16)&&vld f.2.2 f.2.2.size 0 else if f.1=12∨f.1=22 then decide (cnt f.2.2 f.2.2.size 0=1)&&vld f.2.2 f.2.2.size 0 else decide (f.2.2=ByteArray.mk #[])
theorem Qhy (f:Fun):F.eh f=some (Qco f):=by
 unfold F.eh F.dk F.dj Qco
 simp only[A.ba,decide_eq_true_eq]
 by_cases J:f.1=3
 ·simp[J]
 ·by_cases H:f.1=13
  ·simp[H]
  ·by_cases h6:f.1=6
   ·simp[h6]
   ·by_cases I:f.1=11<;>simp[J,H,h6,I]
theorem Qgk (f:Fun):F.er f=some (Qco f):=Qhy f
theorem text_eq (f:Fun)(O:f.2.2.size≤9223372036854775807):F.eC f=some (Qgh f):=by
 unfold F.eC Qgh
 simp only[F.d4,F.d5,A.ba,single_eq _ O,F.bY,Qdj,Qa,decide_eq_true_eq]
 by_cases J:f.1=5
 ·simp only[J,if_true]
  by_cases W:f.2.2=ByteArray.mk #[]<;>by_cases Y:(f.2.2.size:Int)≤16<;>simp[W,Y]
 ·by_cases H:f.1=12
  ·simp[H]
  ·by_cases I:f.1=22<;>simp[J,H,I]
theorem one_le {s:ByteArray}:(1:Int)≤(s.size:Int)↔s≠ByteArray.mk #[]:=by
 constructor
 ·intro h e;subst e;exact absurd h (by decide)
 ·intro h;have:=Qfo h;omega
theorem Qiu (f:Fun)(J:f.2.2.size≤5000):F.ew f=some (Qgh f):=by
 have hj: ∀y,F.dg f y=some (if y=true then decide (cnt f.2.2 f.2.2.size 0=1)&&vld f.2.2 f.2.2.size 0 else decide (f.2.2=ByteArray.mk #[])):=by
  intro y
  unfold F.dg
  simp only[F.df,Valid_eq _ J,Qa]
  cases y with
  |false=>simp
  |true=>
   simp only[if_true]
   by_cases h4:(f.2.2.size:Int)≤4
   ·rw[if_pos h4]
    cases O:vld f.2.2 f.2.2.size 0 with
    |true=>
     obtain⟨l,H,W⟩:=Runes_eq f.2.2 J O
     rw[if_pos rfl,H,Qa,Y7]
     congr 2
     rw[W];exact propext ⟨fun h=>by omega,fun h=>by omega⟩
    |false=>simp
   ·rw[if_neg h4]
    congr 1
    cases O:vld f.2.2 f.2.2.size 0 with
    |false=>simp
    |true=>
     by_cases H:cnt f.2.2 f.2.2.size 0=1
     ·have:=one_small H O;omega
     ·simp[H]
 unfold F.ew Qgh
 simp only[F.dP,hj,A.ba,Valid_eq _ J,Qa,decide_eq_true_eq,one_le]
 by_cases h5:f.1=5
 ·simp only[h5,if_true]
  by_cases H:f.2.2=ByteArray.mk #[]<;>by_cases W:(f.2.2.size:Int)≤16<;>simp[H,W]
 ·by_cases I:f.1=12
  ·simp[I]
  ·by_cases Y:f.1=22<;>simp[h5,I,Y]
def anyF (f:Fun)(l:List Int):Int:=if l.any (fun y=>decide (y=f.1)&&(Qco f&&Qgh f))=true then 0 else 60
def kinds (k:Int):List Int:=if k=2 then [1,2,3,4,5,6,7,8]else if k=3 then [11,12,13]else if k=4 then [21,22]else if k=8 then [31,32,33,34]else if k=11 then [41,42]else []
def chk (k:Int)(f:Fun):Int:=if kinds k=[]then(if f=(0,0,ByteArray.mk #[])then 0 else 60)else anyF f (kinds k)
theorem chk_l (f:Fun)(H:f.2.2.size≤9223372036854775807): ∀l,F.bE f l=some (anyF f l)
 | []=>rfl
 |y::l=>by
  have I:=chk_l f H l
  unfold F.bE
  simp only[F.c8,Qhy,text_eq _ H,Qa,I,anyF,Yd]
  by_cases h:y=f.1
  ·subst h
   cases J:Qco f<;>cases O:Qgh f<;>simp
  ·simp[h]
theorem Qio (k:Int)(f:Fun)(H:f.2.2.size≤9223372036854775807):F.ec k f=some (chk k f):=by
 have u2:F.b9 1 8=some [1,2,3,4,5,6,7,8]:=by kernel_rfl
 have u3:F.b9 11 13=some [11,12,13]:=by kernel_rfl
 have u4:F.b9 21 22=some [21,22]:=by kernel_rfl
 have u8:F.b9 31 34=some [31,32,33,34]:=by kernel_rfl
 have u11:F.b9 41 42=some [41,42]:=by kernel_rfl
 unfold F.ec F.eJ F.eB chk kinds
 by_cases O:k=2
 ·simp[O,u2,chk_l f H]
 ·by_cases W:k=3
  ·simp[W,u3,chk_l f H]
  ·by_cases Y:k=4
   ·simp[Y,u4,chk_l f H]
   ·by_cases h8:k=8
    ·simp[h8,u8,chk_l f H]
    ·by_cases I:k=11
     ·simp[I,u11,chk_l f H]
     ·simp only[O,W,Y,h8,I,if_false,Qa]
      rw[if_pos (by decide),if_pos trivial]
      by_cases J:f=(0,0,ByteArray.mk #[])
      ·rw[if_neg (fun h=>h J),if_pos J]
      ·rw[if_pos J,if_neg J]
theorem R06_l (f:Fun)(H:f.2.2.size≤5000)(l:List Int)(O:l.length≤100):F.bd f l A.FU 0=some (anyF f l):=
 A.lp0 l (fun n y=>F.bd f l n y) (fun _ t=>some (anyF f t))
  (fun n=>by rw[F.bd,if_neg (by omega)];rfl)
  (fun n k x I hk J=>by
   rw[F.bd,if_pos (by omega),A.ixn I,Qa]
   simp only[F.cQ,Qgk,Qiu _ H,Qa,J,A.gd1 (A.r64n (n:=k) (by omega)),anyF,Yd]
   by_cases h:x=f.1
   ·subst h
    cases W:Qco f<;>cases Y:Qgh f<;>simp
   ·simp[h])
  (by have:=Qab;omega)
theorem Qhb (k:Int)(f:Fun)(I:f.2.2.size≤5000):F.d0 k f=some (chk k f):=by
 have u2:F.cE 2=some [1,2,3,4,5,6,7,8]:=by kernel_rfl
 have u3:F.cE 3=some [11,12,13]:=by kernel_rfl
 have u4:F.cE 4=some [21,22]:=by kernel_rfl
 have u8:F.cE 8=some [31,32,33,34]:=by kernel_rfl
 have u11:F.cE 11=some [41,42]:=by kernel_rfl
 have u0:F.b8 1 0=some []:=by kernel_rfl
 unfold F.d0 chk kinds
 by_cases O:k=2
 ·subst O;rw[u2,Qa,if_neg (by simp),F.bn,if_neg (by simp),R06_l f I _ (by simp)];simp
 ·by_cases W:k=3
  ·subst W;rw[u3,Qa,if_neg (by simp),F.bn,if_neg (by simp),R06_l f I _ (by simp)];simp
  ·by_cases Y:k=4
   ·subst Y;rw[u4,Qa,if_neg (by simp),F.bn,if_neg (by simp),R06_l f I _ (by simp)];simp
   ·by_cases h8:k=8
    ·subst h8;rw[u8,Qa,if_neg (by simp),F.bn,if_neg (by simp),R06_l f I _ (by simp)];simp
    ·by_cases H:k=11
     ·subst H;rw[u11,Qa,if_neg (by simp),F.bn,if_neg (by simp),R06_l f I _ (by simp)];simp
     ·have u:F.cE k=some []:=by unfold F.cE;simp only[O,W,Y,h8,H,if_false,u0]
      rw[u,Qa,if_pos (by simp),F.bn,R06_l f I _ (by simp)]
      simp only[O,W,Y,h8,H,if_false,if_true,decide_eq_true_eq,anyF,List.any_nil,Qz]
      by_cases J:f=(0,0,ByteArray.mk #[])
      ·rw[if_pos J,if_pos J]
      ·rw[if_neg J,if_neg J]
end Go.Proofs.YtlbnpmfggfbdoaaGreatDoor
end
section
end
section
namespace Go.Proofs.YtlbnpmfggfbdoaaGreatDoor
open Go.RowKit Go.Graph
def Qac (g:List Nd):List (Int×Nd):=g.map fun n=>(n.1,n)
def Inc (g:List Nd):Prop:=g.Pairwise fun a b=>a.1<b.1
theorem Qem (z:Nd)(id:Int): ∀(k:Nat) (l:List Nd),(idxF id k l= -1∧(∀n∈l,n.1≠id)∧Z.mget z (Qac l) id=z∧Z.mhas (Qac l) id=false)∨(∃j n,idxF id k l=((k+j:Nat):Int)∧l[j]?=some n∧n.1=id∧Z.mget z (Qac l) id=n∧Z.mhas (Qac l) id=true)
 |k,[]=>.inl ⟨rfl,by simp,rfl,rfl⟩
 |k,x::r=>by
  unfold idxF Qac
  simp only[Q3,Z.mget,Z.mhas]
  by_cases h:x.1=id
  ·rw[if_pos h,if_pos h.symm,if_pos h.symm]
   exact .inr ⟨0,x,rfl,rfl,h,rfl,rfl⟩
  ·rw[if_neg h,if_neg (fun e=>h e.symm),if_neg (fun e=>h e.symm)]
   rcases Qem z id (k+1) r with⟨H,I,J,O⟩|⟨j,n,H,I,J,O,Y⟩
   ·refine .inl ⟨H,fun n W=>?_,J,O⟩
    rcases Qk.1 W with rfl|W
    ·exact h
    ·exact I n W
   ·exact .inr ⟨j+1,n,by rw[H];congr 1;omega,I,J,O,Y⟩
theorem Qbe (z:Nd)(g:List Nd)(id:Int):(idx g id= -1∧(∀n∈g,n.1≠id)∧Z.mget z (Qac g) id=z∧Z.mhas (Qac g) id=false)∨(∃(j:Nat) (n:Nd),idx g id=(j:Int)∧g[j]?=some n∧n.1=id∧Z.mget z (Qac g) id=n∧Z.mhas (Qac g) id=true):=by
 have:=Qem z id 0 g
 simp only[Wc]at this
 exact this
theorem Inc.lt {g:List Nd}(h:Inc g){i j:Nat}{a b:Nd}(I:g[i]?=some a)(J:g[j]?=some b)(H:i<j):a.1<b.1:=by
 obtain⟨O,rfl⟩:=Qc.1 I
 obtain⟨W,rfl⟩:=Qc.1 J
 exact Xx.1 h i j O W H
theorem Inc.inj {g:List Nd}(h:Inc g){i j:Nat}{a b:Nd}(I:g[i]?=some a)(J:g[j]?=some b)(e:a.1=b.1):i=j:=by
 rcases Nat.lt_trichotomy i j with H|H|H
 ·have:=h.lt I J H;omega
 ·exact H
 ·have:=h.lt J I H;omega
theorem Inc.idx {g:List Nd}(h:Inc g){j:Nat}{n:Nd}(I:g[j]?=some n):Graph.idx g n.1=(j:Int):=by
 rcases Qbe z0 g n.1 with⟨_,H,_⟩|⟨i,m,J,H,O,_⟩
 ·exact absurd rfl (H n (Qg I))
 ·rw[J,h.inj H I O]
theorem Inc.mget {g:List Nd}(h:Inc g){j:Nat}{n z:Nd}(H:g[j]?=some n):Z.mget z (Qac g) n.1=n:=by
 rcases Qbe z g n.1 with⟨_,I,_⟩|⟨i,m,W,I,J,O,_⟩
 ·exact absurd rfl (I n (Qg H))
 ·have:=h.inj I H J
  subst this
  rw[I]at H;injection H with H;rw[O,H]
theorem Qbj (g:List Nd)(id:Int)(J:g.length≤100):F.cC g id=some (idx g id):=
 A.lp0 g (fun f y=>F.cu g id f y) (fun k l=>some (idxF id k l))
  (fun f=>by rw[F.cu,if_neg (by omega)];rfl)
  (fun f k x H hk I=>by
   rw[F.cu,if_pos (by omega),A.ixn H,Qa,idxF]
   by_cases h:x.1=id
   ·rw[if_pos h,if_pos h]
   ·rw[if_neg h,if_neg h,A.gd1 (A.r64n (by omega)),I])
  (by have:=Qab;omega)
def ownQ (n:Nd):Bool:=if n.1<1∨255<n.1∨insK n.2.1<0∨(n.2.2.1.length:Int)≠insK n.2.1 then false else if ownC n then false else if n.2.1=1∨n.2.1=15 then named n.2.2.2.2.1 else decide (n.2.2.2.2.1=ByteArray.mk #[])
theorem Qeo (k:Int):F.bq k=some (decide (k=1∨k=15)):=by
 unfold F.bq;rw[A.bo]
theorem gIns_eq (k:Int):F.dT k=some (insK k):=(Ins_eq k).trans (Qex k)
theorem own_eq (n:Nd)(hs:n.2.2.2.2.1.size≤9223372036854775807):F.dU n=some (ownQ n):=by
 have hj: ∀y,F.cH n y=some (if y=true then false else if ownC n then false else if n.2.1=1∨n.2.1=15 then named n.2.2.2.2.1 else decide (n.2.2.2.2.1=ByteArray.mk #[])):=by
  intro y
  unfold F.cH F.cG ownC
  cases y with
  |true=>simp
  |false=>
   simp only[Qz,if_false,A.bo,decide_eq_true_eq,Qeo,Qa,named_eq _ hs,A.bn]
   by_cases I:n.2.1=14
   ·simp only[I,if_true,true_and,not_true_eq_false,ne_eq,false_and,or_false,if_false]
    by_cases H:n.2.2.2.2.2.1<1∨8<n.2.2.2.2.2.1∨n.2.2.2.2.2.2<1∨4<n.2.2.2.2.2.2
    ·have hc':((n.2.2.2.2.2.1<1∨8<n.2.2.2.2.2.1)∨n.2.2.2.2.2.2<1)∨4<n.2.2.2.2.2.2:=by omega
     rw[if_pos hc',if_pos H]
    ·have hc': ¬(((n.2.2.2.2.2.1<1∨8<n.2.2.2.2.2.1)∨n.2.2.2.2.2.2<1)∨4<n.2.2.2.2.2.2):=by omega
     rw[if_neg hc',if_neg H]
     simp
   ·simp only[I,if_false,false_and,not_false_eq_true,ne_eq,true_and,false_or,if_true]
    by_cases H: ¬n.2.2.2.2.2.1=0∨¬n.2.2.2.2.2.2=0
    ·rw[if_pos H,if_pos H]
    ·rw[if_neg H,if_neg H]
     by_cases J:n.2.1=1∨n.2.1=15
     ·rw[if_pos J,if_pos J]
     ·rw[if_neg J,if_neg J]
 unfold F.dU ownQ
 simp only[gIns_eq,Qa,hj,A.bo,decide_eq_true_eq,F.cG]
 by_cases O:n.1<1∨255<n.1
 ·rw[if_pos O,if_pos (by omega)]
 ·rw[if_neg O]
  by_cases W:insK n.2.1<0
  ·rw[if_pos W,if_pos trivial,if_pos (by omega)]
  ·rw[if_neg W]
   by_cases Y:(n.2.2.1.length:Int)≠insK n.2.1
   ·rw[if_pos Y,if_pos (by omega)]
   ·have hb: ¬(n.1<1∨255<n.1∨insK n.2.1<0∨(n.2.2.1.length:Int)≠insK n.2.1):=by omega
    rw[if_neg Y,if_neg hb]
def twiceF (l:List Nd)(n:Nd):Bool:=l.any fun x=>decide (x.2.1=n.2.1)&&decide (x.2.2.2.2.1=n.2.2.2.2.1)
theorem twice_eq (l:List Nd)(n:Nd)(Y:l.length≤100):F.m l n=some (twiceF l n):=by
 have loop:F.a l n A.FU 0=some (if twiceF l n=true then(0:Int)else-1)∨∃i:Nat,F.a l n A.FU 0=some (i:Int)∧twiceF l n=true:=by
  have key: ∀(m k f:Nat),k+m=l.length→m<f→(twiceF (l.drop k) n=true∧∃i:Nat,F.a l n f (k:Int)=some (i:Int))∨(twiceF (l.drop k) n=false∧F.a l n f (k:Int)=some (-1)):=by
   intro m
   induction m with
   |zero=>
    intro k f hk O
    obtain⟨f,rfl⟩: ∃f',f=f'+1:=⟨f-1,by omega⟩
    rw[F.a,if_neg (by omega),Q2 (by omega)]
    exact .inr ⟨rfl,rfl⟩
   |succ m W=>
    intro k f hk O
    obtain⟨f,rfl⟩: ∃f',f=f'+1:=⟨f-1,by omega⟩
    have J:l[k]?=some l[k]:=Qd (by omega)
    generalize l[k]=x at J
    rw[F.a,if_pos (by omega),A.ixn J,Qa,F.dQ,Qa,A.ba,A.dropx J]
    by_cases h:x.2.1=n.2.1∧x.2.2.2.2.1=n.2.2.2.2.1
    ·left
     exact⟨by simp[twiceF,h.1,h.2],k,by rw[if_pos (by simpa using h)]⟩
    ·rw[if_neg (by simpa using h),A.gd1 (A.r64n (by omega))]
     have e:twiceF (x::l.drop (k+1)) n=twiceF (l.drop (k+1)) n:=by
      simp only[twiceF,Yd]
      rw[←Bool.decide_and,decide_eq_false h,X3]
     rw[e]
     exact W (k+1) f (by omega) (by omega)
  rcases key l.length 0 A.FU (by omega) (by have:=Qab;omega)with⟨H,i,I⟩|⟨H,I⟩
  ·rw[Wa]at H;exact .inr ⟨i,I,H⟩
  ·rw[Wa]at H;left;rw[H];exact I
 unfold F.m F.am
 rcases loop with h|⟨i,h,I⟩
 ·rw[show F.a l n A.FU 0=_ from h,Qa]
  cases twiceF l n<;>simp
 ·rw[show F.a l n A.FU 0=_ from h,Qa,I]
  simp
theorem Qgb {κ α:Type}[DecidableEq κ]: ∀{m:List (κ×α)} {k:κ} {x:α},Z.mhas m k=false→Z.mins m k x=m++[(k,x)]
 | [],_,_,_=>rfl
 |(a,y)::r,k,x,h=>by
  simp only[Z.mhas]at h
  by_cases hk:k=a
  ·rw[if_pos hk]at h;cases h
  ·rw[if_neg hk]at h
   unfold Z.mins
   rw[if_neg hk,Qgb h];rfl
theorem mhas_mapOf {l:List Nd}{k:Int}(h: ∀n∈l,n.1≠k):Z.mhas (Qac l) k=false:=by
 rcases Qbe z0 l k with⟨_,_,_,H⟩|⟨j,n,_,I,H,_⟩
 ·exact H
 ·exact absurd H (h n (Qg I))
theorem Qcs {α:Type}{l:List α}{k:Nat}{x:α}(h:l[k]?=some x):l.take (k+1)=l.take k++[x]:=by rw[Yk,h];rfl
def okL (g:List Nd):Nat→Int→List Nd→Bool
 |_,_,[]=>true
 |k,last,n::r=>if n.1≤last∨ownQ n=false∨((n.2.1=1∨n.2.1=15)∧twiceF (g.take k) n=true)then false else okL g (k+1) n.1 r
theorem whole_l6 (g:List Nd)(hg:g.length≤100)(hf: ∀x,x∈g→x.2.2.2.2.1.size≤9223372036854775807):F.aB g A.FU [] 0 0=if okL g 0 0 g=true then F.aS g (Qac g) A.FU 0 else some (none,80):=
 A.lp g (fun f (s:List (Int×Nd)×Int) y=>F.aB g f s.1 s.2 y) (fun k l s=>if okL g k s.2 l=true then F.aS g (Qac g) A.FU 0 else some (none,80)) (fun k s=>s.1=Qac (g.take k)∧∀n∈g.take k,n.1≤s.2)
  (fun f s hp=>by
   rw[F.aB,if_neg (by omega),okL,if_pos rfl,hp.1,W6 (Q1 _)])
  (fun f s k x W hk hp ih=>by
   obtain⟨hm,J⟩:=hp
   have hown:=own_eq x (hf x (Qg W))
   have hj: ∀y,F.cq (F.aB g f) s.1 s.2 (k:Int) x y=if x.1≤s.2∨ownQ x=false∨y=true then some (none,80)else F.aB g f (Z.mins s.1 x.1 x) x.1 ((k:Int)+1):=by
    intro y
    rw[F.cq]
    simp only[F.cL,if_true]
    by_cases O:x.1≤s.2
    ·rw[if_pos O,if_pos (.inl O)]
    ·rw[if_neg O,show F.dU x=_ from hown,Qa,A.gd1 (A.r64n (by omega))]
     cases ownQ x<;>cases y<;>simp[O]
   have hnew: ¬x.1≤s.2→F.aB g f (Z.mins s.1 x.1 x) x.1 ((k:Int)+1)=if okL g (k+1) x.1 (g.drop (k+1))=true then F.aS g (Qac g) A.FU 0 else some (none,80):=fun O=>by
    rw[hm,Qgb (mhas_mapOf fun n Y e=>by have:=J n Y;omega)]
    refine ih (Qac (g.take k)++[(x.1,x)],x.1) ⟨?_,fun n Y=>?_⟩
    ·rw[Qcs W];simp[Qac]
    ·rw[Qcs W]at Y
     rcases Qn.1 Y with h2|h2
     ·have:=J n h2;simp only[];omega
     ·rw[Qj]at h2;subst h2;exact Xi _
   rw[F.aB,if_pos (by omega),A.ixn W,Qa,Qeo,Qa,okL]
   by_cases ho:x.2.1=1∨x.2.1=15
   ·rw[if_pos (by simpa using ho),A.gd1 ⟨by omega,by omega⟩,show((k:Int)).toNat=k from Qs k,
     show F.m (List.take k g) x=_ from twice_eq (g.take k) x (by rw[Qt];omega),Qa,hj]
    by_cases H:x.1≤s.2∨ownQ x=false∨twiceF (g.take k) x=true
    ·have I:x.1≤s.2∨ownQ x=false∨((x.2.1=1∨x.2.1=15)∧twiceF (g.take k) x=true):=by rcases H with h|h|h;exact .inl h;exact .inr (.inl h);exact .inr (.inr ⟨ho,h⟩)
     rw[if_pos H,if_pos I,if_neg Wm]
    ·have I: ¬(x.1≤s.2∨ownQ x=false∨((x.2.1=1∨x.2.1=15)∧twiceF (g.take k) x=true)):=fun h=>H (by rcases h with h|h|h;exact .inl h;exact .inr (.inl h);exact .inr (.inr h.2))
     rw[if_neg H,if_neg I]
     exact hnew fun h=>H (.inl h)
   ·rw[if_neg (by simpa using ho),hj]
    by_cases H:x.1≤s.2∨ownQ x=false
    ·have I:x.1≤s.2∨ownQ x=false∨((x.2.1=1∨x.2.1=15)∧twiceF (g.take k) x=true):=by rcases H with h|h;exact .inl h;exact .inr (.inl h)
     rw[if_pos (by rcases H with h|h;exact .inl h;exact .inr (.inl h)),if_pos I,if_neg Wm]
    ·have I: ¬(x.1≤s.2∨ownQ x=false∨((x.2.1=1∨x.2.1=15)∧twiceF (g.take k) x=true)):=fun h=>H (by rcases h with h|h|h;exact .inl h;exact .inr h;exact absurd h.1 ho)
     rw[if_neg (fun h=>H (by rcases h with h|h|h;exact .inl h;exact .inr h;cases h)),if_neg I]
     exact hnew fun h=>H (.inl h))
  (by have:=Qab;omega) ([],0) ⟨rfl,by simp⟩
theorem whole_l5 (g:List Nd)(m:List (Int×Nd))(W:g.length≤100)(I: ∀x,x∈g→x.2.2.2.1.2.2.size≤9223372036854775807):F.aS g m A.FU 0=if g.all (fun n=>decide (chk n.2.1 n.2.2.2.1=0))=true then F.aF g m A.FU 0 else some (none,60):=
 A.lp0 g (fun f y=>F.aS g m f y) (fun _ l=>if l.all (fun n=>decide (chk n.2.1 n.2.2.2.1=0))=true then F.aF g m A.FU 0 else some (none,60))
  (fun f=>by rw[F.aS,if_neg (by omega)];rfl)
  (fun f k x H hk J=>by
   have h6:chk x.2.1 x.2.2.2.1≠0→chk x.2.1 x.2.2.2.1=60:=by
    intro h;unfold chk anyF at h ⊢;repeat' split
    all_goals first|rfl|(exfalso;simp_all;done)
   rw[F.aS,if_pos (by omega),A.ixn H,Qa,show F.ec x.2.1 x.2.2.2.1=_ from Qio x.2.1 x.2.2.2.1 (I x (Qg H)),Qa,Xu]
   by_cases h:chk x.2.1 x.2.2.2.1=0
   ·rw[if_neg (fun O=>O h),A.gd1 (A.r64n (by omega)),J,decide_eq_true h,Xm]
   ·rw[if_pos h,decide_eq_false h,Y1,if_neg (by simp),h6 h])
  (by have:=Qab;omega)
def inOk (g:List Nd)(k:Int):Bool:=if idx g k<0 then false else decide ((at_ g (idx g k)).2.1≠15)
def sortP (g:List Nd)(m:List (Int×Nd)):Option ((Option ((List (Int×Nd))×(List Int)×(List (Int×Int))))×Int):=
 (F.bh (m,[],[]) g).bind fun r73=>(if(!r73.1)=true then(some (none,81))else((F.bg r73.2).bind fun r79=>(if(!r79.1)=true then(some (none,80))else((F.bZ r79.2 g).bind fun r85=>(if r85=true then(some (none,81))else(some (some r79.2,0)))))))
theorem whole_l4 (g:List Nd)(hg:g.length≤100)(hf: ∀x,x∈g→x.2.2.1.length≤5000):F.aF g (Qac g) A.FU 0=if g.all (fun n=>n.2.2.1.all (inOk g))=true then sortP g (Qac g)else some (none,80):=
 A.lp0 g (fun f y=>F.aF g (Qac g) f y) (fun _ l=>if l.all (fun n=>n.2.2.1.all (inOk g))=true then sortP g (Qac g)else some (none,80))
  (fun f=>by rw[F.aF,if_neg (by omega)];rfl)
  (fun f k x W hk ih=>by
   rw[F.aF,if_pos (by omega),A.ixn W,Qa]
   have hlen:=hf x (Qg W)
   have loop:=A.lp0 x.2.2.1 (fun H y=>F.b0 (F.aF g (Qac g) f) (Qac g) (k:Int) x H y) (fun _ l=>if l.all (inOk g)=true then F.aF g (Qac g) f ((k:Int)+1)else some (none,80))
    (fun H=>by rw[F.b0,if_neg (by omega),A.gd1 (A.r64n (by omega))];rfl)
    (fun H j y hy hj2 I=>by
     rw[F.b0,if_pos (by omega),A.ixn hy,Qa,A.lt,Xu]
     rcases Qbe ((0,0,[],(0,0,(ByteArray.mk #[])),(ByteArray.mk #[]),0,0):Nd) g y with⟨Y,_,h3,J⟩|⟨i,n,Y,h2,h3,J,h5⟩
     ·rw[h3,J]
      have:inOk g y=false:=by unfold inOk;rw[if_pos (by omega)]
      rw[this];simp
     ·rw[J,h5]
      have e:inOk g y=decide (n.2.1≠15):=by unfold inOk;rw[if_neg (by omega),Qav Y h2]
      rw[e,A.gd1 (A.r64n (by omega)),I]
      by_cases O:n.2.1=15<;>simp[O])
    (by have:=Qab;omega)
   rw[loop,ih,Xu]
   cases x.2.2.1.all (inOk g)with
   |true=>rw[if_pos rfl,Xm]
   |false=>rw[if_neg Wm,Y1,if_neg Wm])
  (by have:=Qab;omega)
theorem whole_P (g:List Nd)(I:Few g):F.bF g=if(32:Int)<(g.length:Int)then some (none,80)else if okL g 0 0 g=true then(if g.all (fun n=>decide (chk n.2.1 n.2.2.2.1=0))=true then(if g.all (fun n=>n.2.2.1.all (inOk g))=true then sortP g (Qac g)else some (none,80))else some (none,60))else some (none,80):=by
 have J:=I.1
 unfold F.bF
 rw[whole_l6 g (by omega) (fun x H=>Wh (I.2 x H).2.1 (by decide)),whole_l5 g _ (by omega) (fun x H=>Wh (I.2 x H).2.2 (by decide)),whole_l4 g (by omega) (fun x H=>(I.2 x H).1)]
theorem Named_eq (g:List Nd)(kd:Int)(s:ByteArray)(W:g.length≤100):F.ey g kd s=some (Qcd kd s g):=
 A.lp0 g (fun f y=>F.bM g kd s f y) (fun _ l=>some (Qcd kd s l))
  (fun f=>by rw[F.bM,if_neg (by omega)];rfl)
  (fun f k x H hk J=>by
   rw[F.bM,if_pos (by omega),A.ixn H,Qa,Qcd]
   simp only[F.dr,A.ixn H,Qa,A.gd1 (A.r64n (n:=k) (by omega)),J,decide_eq_true_eq,kind,name]
   by_cases I:x.2.1=kd
   ·by_cases O:x.2.2.2.2.1=s<;>simp[I,O]
   ·simp[I])
  (by have:=Qab;omega)
theorem R_own_eq (g:List Nd)(i:Nat)(n:Nd)(hn:g[i]?=some n)(hg:g.length≤100)(hs:n.2.2.2.2.1.size≤5000):F.eE g (i:Int)=some (own g (i:Int) n):=by
 have hi:=(Qc.1 hn).1
 have Y:F.dM g n=some (ownT g n):=by
  unfold F.dM ownT
  simp only[A.ba,decide_eq_true_eq,Named_eq g _ _ hg,name_eq _ hs,Qa]
  by_cases h:n.2.1≠1∧n.2.1≠15
  ·rw[if_pos h,if_pos h]
  ·rw[if_neg h,if_neg h];cases named n.2.2.2.2.1<;>rfl
 have hj: ∀y,F.bu g n y=some (if y=true then false else if ownC n then false else ownT g n):=by
  intro y
  unfold F.bu ownC
  cases y with
  |true=>simp
  |false=>
   simp only[Qz,if_false,A.bo,decide_eq_true_eq,Y]
   by_cases W:n.2.1=14
   ·simp only[W,if_true,true_and,not_true_eq_false,ne_eq,false_and,or_false]
    by_cases H:n.2.2.2.2.2.1<1∨8<n.2.2.2.2.2.1∨n.2.2.2.2.2.2<1∨4<n.2.2.2.2.2.2
    ·rw[if_pos (by omega),if_pos H]
    ·rw[if_neg (by omega),if_neg H]
   ·simp only[W,if_false,false_and,not_false_eq_true,ne_eq,true_and,false_or]
    by_cases H: ¬n.2.2.2.2.2.1=0∨¬n.2.2.2.2.2.2=0
    ·rw[if_pos H,if_pos H]
    ·rw[if_neg H,if_neg H]
 have tail:(if insK n.2.1<0 then F.bu g n true else F.bu g n (decide ((n.2.2.1.length:Int)≠insK n.2.1)))=some (if insK n.2.1<0∨(n.2.2.1.length:Int)≠insK n.2.1 then false else if ownC n then false else ownT g n):=by
  simp only[hj,decide_eq_true_eq]
  by_cases I:insK n.2.1<0
  ·rw[if_pos I,if_pos trivial,if_pos (.inl I)]
  ·by_cases J:(n.2.2.1.length:Int)≠insK n.2.1
   ·rw[if_neg I,if_pos J,if_pos (.inr J)]
   ·have O: ¬(insK n.2.1<0∨(n.2.2.1.length:Int)≠insK n.2.1):=fun h=>h.elim I J
    rw[if_neg I,if_neg J,if_neg O]
 unfold F.eE own
 rw[A.ixn hn,Qa]
 simp only[Qex,Qa,A.bo,decide_eq_true_eq]
 by_cases I:n.1<1∨255<n.1
 ·rw[if_pos I,hj,if_pos rfl,if_pos (by omega)]
 ·rw[if_neg I]
  by_cases h0:(0:Int)<(i:Int)
  ·rw[if_pos h0,A.gd1 ⟨by omega,by omega⟩]
   have hp:g[i-1]?=some g[i-1]:=Qd (by omega)
   generalize g[i-1]=q at hp
   have e:(i:Int)-1=((i-1:Nat):Int):=by omega
   rw[e,A.ixn hp,Qa,Qav rfl hp]
   by_cases J:n.1≤q.1
   ·rw[if_pos J,hj,if_pos rfl,if_pos (by omega)]
   ·rw[if_neg J,tail]
    by_cases O:insK n.2.1<0∨(n.2.2.1.length:Int)≠insK n.2.1
    ·rw[if_pos O,if_pos (by omega)]
    ·have H: ¬(n.1<1∨255<n.1∨(0:Int)<(i:Int)∧n.1≤q.1∨insK n.2.1<0∨(n.2.2.1.length:Int)≠insK n.2.1):=by omega
     rw[if_neg O,if_neg H]
  ·rw[if_neg h0,tail]
   by_cases O:insK n.2.1<0∨(n.2.2.1.length:Int)≠insK n.2.1
   ·rw[if_pos O,if_pos (by omega)]
   ·have H: ¬(n.1<1∨255<n.1∨(0:Int)<(i:Int)∧n.1≤(at_ g ((i:Int)-1)).1∨insK n.2.1<0∨(n.2.2.1.length:Int)≠insK n.2.1):=by omega
    rw[if_neg O,if_neg H]
def okR (g:List Nd):Nat→List Nd→Bool
 |_,[]=>true
 |k,n::r=>own g (k:Int) n&&okR g (k+1) r
theorem parts_l5 (g:List Nd)(I:g.length≤100)(J: ∀x,x∈g→x.2.2.2.2.1.size≤5000):F.cc g A.FU 0=if okR g 0 g=true then F.bo g A.FU 0 else some 80:=
 A.lp0 g (fun f y=>F.cc g f y) (fun k l=>if okR g k l=true then F.bo g A.FU 0 else some 80)
  (fun f=>by rw[F.cc,if_neg (by omega)];rfl)
  (fun f k x H hk O=>by
   rw[F.cc,if_pos (by omega),R_own_eq g k x H I (J x (Qg H)),Qa,A.gd1 (A.r64n (by omega)),O,okR]
   cases own g (k:Int) x<;>simp)
  (by have:=Qab;omega)
theorem parts_l4 (g:List Nd)(W:g.length≤100)(I: ∀x,x∈g→x.2.2.2.1.2.2.size≤5000):F.bo g A.FU 0=if g.all (fun n=>decide (chk n.2.1 n.2.2.2.1=0))=true then F.aN g A.FU 0 else some 60:=
 A.lp0 g (fun f y=>F.bo g f y) (fun _ l=>if l.all (fun n=>decide (chk n.2.1 n.2.2.2.1=0))=true then F.aN g A.FU 0 else some 60)
  (fun f=>by rw[F.bo,if_neg (by omega)];rfl)
  (fun f k x H hk J=>by
   rw[F.bo,if_pos (by omega),A.ixn H,Qa,Qa,show F.d0 x.2.1 x.2.2.2.1=_ from Qhb x.2.1 x.2.2.2.1 (I x (Qg H)),Qa,Xu]
   by_cases h:chk x.2.1 x.2.2.2.1=0
   ·rw[if_neg (fun O=>O h),A.gd1 (A.r64n (by omega)),J,decide_eq_true h,Xm]
   ·rw[if_pos h,decide_eq_false h,Y1,if_neg (by simp)])
  (by have:=Qab;omega)
theorem idx_get {g:List Nd}{id:Int}(h:0≤idx g id): ∃n,g[(idx g id).toNat]?=some n∧at_ g (idx g id)=n∧n.1=id:=by
 rcases Qbe z0 g id with⟨H,_⟩|⟨i,n,H,I,J,_⟩
 ·omega
 ·exact⟨n,by rw[H];exact I,Qav H I,J⟩
theorem parts_l3 (g:List Nd)(Y:g.length≤100)(hf: ∀x,x∈g→x.2.2.1.length≤5000):F.aN g A.FU 0=if g.all (fun n=>n.2.2.1.all (inOk g))=true then some 0 else some 80:=
 A.lp0 g (fun f y=>F.aN g f y) (fun _ l=>if l.all (fun n=>n.2.2.1.all (inOk g))=true then some 0 else some 80)
  (fun f=>by rw[F.aN,if_neg (by omega)];rfl)
  (fun f k x I hk ih=>by
   rw[F.aN,if_pos (by omega)]
   have hlen:=hf x (Qg I)
   have loop:=A.lp0 x.2.2.1 (fun J y=>F.bO (F.aN g f) g (k:Int) J y) (fun _ l=>if l.all (inOk g)=true then F.aN g f ((k:Int)+1)else some 80)
    (fun J=>by rw[F.bO,A.ixn I,Qa,if_neg (by omega),A.gd1 (A.r64n (by omega))];rfl)
    (fun J j y hy hj2 O=>by
     rw[F.bO,A.ixn I,Qa,if_pos (by omega),Qa,A.ixn hy,Qa,Qbj g y Y,Qa,Xu]
     simp only[F.ds,if_true,decide_eq_true_eq,A.gd1 (A.r64n (n:=j) (by omega)),O]
     by_cases H:idx g y<0
     ·have:inOk g y=false:=by unfold inOk;rw[if_pos H]
      rw[if_pos H,this];simp
     ·obtain⟨n,h1,h2,_⟩:=idx_get (g:=g) (id:=y) (by omega)
      have e:inOk g y=decide (n.2.1≠15):=by unfold inOk;rw[if_neg H,h2]
      rw[if_neg H,A.ixg (by omega) h1,Qa,e]
      by_cases W:n.2.1=15<;>simp[W])
    (by have:=Qab;omega)
   rw[loop,ih,Xu]
   cases x.2.2.1.all (inOk g)with
   |true=>rw[if_pos rfl,Xm]
   |false=>rw[if_neg Wm,Y1,if_neg Wm])
  (by have:=Qab;omega)
def lastOf (g:List Nd)(k:Nat):Int:=if k=0 then 0 else(at_ g ((k:Int)-1)).1
def BadP (g:List Nd)(k:Nat)(n:Nd):Prop:=n.1≤lastOf g k∨ownQ n=false∨((n.2.1=1∨n.2.1=15)∧twiceF (g.take k) n=true)
theorem Qfi {g:List Nd}{k:Nat}{n:Nd}(h:g[k]?=some n):lastOf g (k+1)=n.1:=by
 unfold lastOf;rw[if_neg (by omega),Qav (k:=k) (by omega) h]
theorem Qir (g:List Nd): ∀(m k:Nat),k+m=g.length→(okL g k (lastOf g k) (g.drop k)=true↔∀i n,k≤i→g[i]?=some n→¬BadP g i n)
 |0,k,h=>by
  rw[Q2 (by omega),okL]
  exact⟨fun _ i n O H=>by have:=(Qc.1 H).1;omega,fun _=>rfl⟩
 |m+1,k,h=>by
  have I:g[k]?=some g[k]:=Qd (by omega)
  generalize g[k]=x at I
  have W:=Qir g m (k+1) (by omega)
  rw[Qfi I]at W
  rw[A.dropx I,okL]
  by_cases J:BadP g k x
  ·have hb':x.1≤lastOf g k∨ownQ x=false∨((x.2.1=1∨x.2.1=15)∧twiceF (g.take k) x=true):=J
   rw[if_pos hb']
   exact⟨fun h=>(by cases h),fun h=>absurd J (h k x (Q1 _) I)⟩
  ·have hb': ¬(x.1≤lastOf g k∨ownQ x=false∨((x.2.1=1∨x.2.1=15)∧twiceF (g.take k) x=true)):=J
   rw[if_neg hb',W]
   refine⟨fun h i n O H=>?_,fun h i n O H=>h i n (by omega) H⟩
   rcases Nat.eq_or_lt_of_le O with rfl|Y
   ·rw[I]at H;injection H with H;subst H;exact J
   ·exact h i n Y H
theorem Qit (g:List Nd): ∀(m k:Nat),k+m=g.length→(okR g k (g.drop k)=true↔∀i n,k≤i→g[i]?=some n→own g (i:Int) n=true)
 |0,k,h=>by
  rw[Q2 (by omega),okR]
  exact⟨fun _ i n J H=>by have:=(Qc.1 H).1;omega,fun _=>rfl⟩
 |m+1,k,h=>by
  have I:g[k]?=some g[k]:=Qd (by omega)
  generalize g[k]=x at I
  have O:=Qit g m (k+1) (by omega)
  rw[A.dropx I,okR,Ql,O]
  refine⟨fun h i n J H=>?_,fun h=>⟨h k x (Q1 _) I,fun i n J H=>h i n (by omega) H⟩⟩
  rcases Nat.eq_or_lt_of_le J with rfl|W
  ·rw[I]at H;injection H with H;subst H;exact h.1
  ·exact h.2 i n W H
theorem inc_of {g:List Nd}(h: ∀i n,g[i]?=some n→lastOf g i<n.1):Inc g:=by
 unfold Inc
 have key: ∀(d i:Nat) (a b:Nd),g[i]?=some a→g[i+d+1]?=some b→a.1<b.1:=by
  intro d
  induction d with
  |zero=>intro i a b I H;have:=h _ b H;rw[Qfi I]at this;exact this
  |succ d O=>
   intro i a b I H
   have hl:=(Qc.1 H).1
   have J:g[i+d+1]?=some g[i+d+1]:=Qd (by omega)
   have h1:=O i a _ I J
   have W:=h _ b H
   rw[show i+(d+1)+1=(i+d+1)+1 by omega,Qfi J]at W
   omega
 refine Xx.2 fun i j Y hj hij=>?_
 refine key (j-i-1) i _ _ (Qd Y) ?_
 rw[show i+(j-i-1)+1=j by omega]
 exact Qd hj
theorem Qct (kd:Int)(s:ByteArray): ∀(l:List Nd),(∃(j:Nat) (n:Nd),l[j]?=some n∧n.2.1=kd∧n.2.2.2.2.1=s∧(Qcd kd s l)=(n.1,true)∧∀(i:Nat) (m:Nd),i<j→l[i]?=some m→¬(m.2.1=kd∧m.2.2.2.2.1=s))∨(Qcd kd s l=(0,false)∧∀m∈l,¬(m.2.1=kd∧m.2.2.2.2.1=s))
 | []=>.inr ⟨rfl,by simp⟩
 |x::r=>by
  unfold Qcd
  by_cases h:x.2.1=kd∧x.2.2.2.2.1=s
  ·rw[if_pos h]
   exact .inl ⟨0,x,rfl,h.1,h.2,rfl,fun i m O=>by omega⟩
  ·have h': ¬(kind x=kd∧name x=s):=h
   rw[if_neg h']
   rcases Qct kd s r with⟨j,n,I,J,W,Y,h5⟩|⟨I,J⟩
   ·refine .inl ⟨j+1,n,I,J,W,Y,fun i m O H=>?_⟩
    cases i with
    |zero=>injection H with H;subst H;exact h
    |succ i=>exact h5 i m (by omega) H
   ·refine .inr ⟨I,fun m H=>?_⟩
    rcases Qk.1 H with rfl|H
    ·exact h
    ·exact J m H
theorem Qgo {l:List Nd}{n:Nd}:twiceF l n=true↔∃m∈l,m.2.1=n.2.1∧m.2.2.2.2.1=n.2.2.2.2.1:=by
 simp only[twiceF,X9,Ql,decide_eq_true_eq]
theorem own_iff {g:List Nd}(hi:Inc g){k:Nat}{n:Nd}(Y:g[k]?=some n)(hl:lastOf g k<n.1):own g (k:Int) n=true↔¬BadP g k n:=by
 have hname:(n.2.1=1∨n.2.1=15)→((Qcd n.2.1 n.2.2.2.2.1 g).1=n.1↔¬twiceF (g.take k) n=true):=fun _=>by
  rcases Qct n.2.1 n.2.2.2.2.1 g with⟨j,m,H,J,O,h4,h5⟩|⟨_,J⟩
  ·rw[h4]
   have hjk:j≤k:=by
    rcases Y2 k j with h|h
    ·exact absurd ⟨rfl,rfl⟩ (h5 k n h Y)
    ·exact h
   constructor
   ·intro he W
    have:j=k:=hi.inj H Y he
    subst this
    obtain⟨q,hq,h6⟩:=Qgo.1 W
    obtain⟨i,I⟩:=Wo.1 hq
    rw[Xc]at I
    split at I
    ·rename_i hij;exact h5 i q hij I h6
    ·cases I
   ·intro W
    rcases Y2 j k with h|h
    ·exact absurd (Qgo.2 ⟨m,Wo.2 ⟨j,by rw[Xc,if_pos h];exact H⟩,J,O⟩) W
    ·obtain rfl:j=k:=by omega
     rw[Y]at H;injection H with H;rw[H]
  ·exact absurd ⟨rfl,rfl⟩ (J n (Qg Y))
 have hprev: ¬((0:Int)<(k:Int)∧n.1≤(at_ g ((k:Int)-1)).1):=fun h=>by
  unfold lastOf at hl;rw[if_neg (by omega)]at hl;omega
 unfold own BadP ownQ
 by_cases H:n.1<1∨255<n.1∨insK n.2.1<0∨(n.2.2.1.length:Int)≠insK n.2.1
 ·rw[if_pos (by omega),if_pos H]
  exact⟨fun h=>(by cases h),fun h=>absurd (.inr (.inl rfl)) h⟩
 ·have hc: ¬(n.1<1∨255<n.1∨(0:Int)<(k:Int)∧n.1≤(at_ g ((k:Int)-1)).1∨insK n.2.1<0∨(n.2.2.1.length:Int)≠insK n.2.1):=by omega
  rw[if_neg hc,if_neg H]
  by_cases J:ownC n
  ·rw[if_pos J,if_pos J]
   exact⟨fun h=>(by cases h),fun h=>absurd (.inr (.inl rfl)) h⟩
  ·rw[if_neg J,if_neg J]
   unfold ownT
   by_cases O:n.2.1=1∨n.2.1=15
   ·rw[if_neg (by omega),if_pos O,Ql,decide_eq_true_eq,hname O]
    constructor
    ·rintro⟨a,b⟩ (h|h|h)
     ·omega
     ·rw[a]at h;cases h
     ·exact b h.2
    ·intro h
     refine⟨?_,fun W=>h (.inr (.inr ⟨O,W⟩))⟩
     cases hq:named n.2.2.2.2.1 with
     |true=>rfl
     |false=>exact absurd (.inr (.inl hq)) h
   ·rw[if_pos (by omega),if_neg O]
    constructor
    ·rintro a (h|h|h)
     ·omega
     ·rw[a]at h;cases h
     ·exact O h.1
    ·intro h
     cases hq:decide (n.2.2.2.2.1=ByteArray.mk #[])with
     |true=>rfl
     |false=>exact absurd (.inr (.inl hq)) h
theorem own_last {g:List Nd}{k:Nat}{n:Nd}(h:own g (k:Int) n=true):lastOf g k<n.1:=by
 unfold own at h
 by_cases H:n.1<1∨255<n.1∨(0:Int)<(k:Int)∧n.1≤(at_ g ((k:Int)-1)).1∨insK n.2.1<0∨(n.2.2.1.length:Int)≠insK n.2.1
 ·rw[if_pos H]at h;cases h
 ·unfold lastOf;split<;>omega
theorem ok_eq (g:List Nd):okL g 0 0 g=okR g 0 g:=by
 have J:=Qir g g.length 0 (by omega)
 have O:=Qit g g.length 0 (by omega)
 rw[Wa]at J O
 rw[show lastOf g 0=0 from rfl]at J
 rw[Y4,J,O]
 constructor
 ·intro h i n _ H
  have I: ∀i n,g[i]?=some n→lastOf g i<n.1:=fun i n H=>by
   have:=h i n (by omega) H
   exact Int.lt_of_not_ge fun W=>this (.inl W)
  exact(own_iff (inc_of I) H (I i n H)).2 (h i n (by omega) H)
 ·intro h i n _ H
  have I: ∀i n,g[i]?=some n→lastOf g i<n.1:=fun i n H=>own_last (h i n (by omega) H)
  exact(own_iff (inc_of I) H (I i n H)).1 (h i n (by omega) H)
theorem ok_inc {g:List Nd}(h:okR g 0 g=true):Inc g:=by
 have H:=Qit g g.length 0 (by omega)
 rw[Wa]at H
 exact inc_of fun i n I=>own_last (H.1 h i n (by omega) I)
theorem parts_eq (g:List Nd)(I:Few g):F.ep g=if(32:Int)<(g.length:Int)then some 80 else if okR g 0 g=true then(if g.all (fun n=>decide (chk n.2.1 n.2.2.2.1=0))=true then(if g.all (fun n=>n.2.2.1.all (inOk g))=true then some 0 else some 80)else some 60)else some 80:=by
 have J:=I.1
 unfold F.ep
 rw[parts_l5 g (by omega) (fun x H=>(I.2 x H).2.1),parts_l4 g (by omega) (fun x H=>(I.2 x H).2.2),parts_l3 g (by omega) (fun x H=>(I.2 x H).1)]
theorem fed_of {g:List Nd}(h:g.all (fun n=>n.2.2.1.all (inOk g))=true):Fed g:=fun x I k hk=>by
 have H:=Qy.1 (Qy.1 h x I) k hk
 unfold inOk at H
 by_cases J:idx g k<0
 ·rw[if_pos J]at H;cases H
 ·omega
theorem bset_len {l:List Bool}{i:Nat}:(l.set i true).length=l.length:=W5
theorem bget_get {l:List Bool}{i:Nat}(h:i<l.length):l[i]?=some (bget l (i:Int)):=by
 unfold bget;rw[Qs,Qd h];rfl
theorem bix {l:List Bool}{i:Int}(H:0≤i)(h:i<l.length):A.ix l i=some (bget l i):=by
 have e:i=((i.toNat:Nat):Int):=by omega
 rw[e];exact A.ixn (bget_get (by omega))
theorem iix {l:List Int}{i:Int}(H:0≤i)(h:i<l.length):A.ix l i=some (iget l i):=by
 refine A.ixg H ?_
 unfold iget;rw[Qd (by omega)];rfl
theorem ready_eq (g:List Nd)(n:Nd)(done:List Bool)(J:g.length≤100)(hd:done.length=g.length)(hl:n.2.2.1.length≤5000)(O: ∀k∈n.2.2.1,0≤idx g k):F.eq g n done=some (ready g done n):=
 A.lp0 n.2.2.1 (fun f y=>F.bP g n done f y) (fun k l=>some (Qdt g done n.2.1 l))
  (fun f=>by rw[F.bP,if_neg (by omega)];rfl)
  (fun f k x I hk W=>by
   have Y:=O x (Qg I)
   have h2:=(idx_le g x).2
   rw[F.bP,if_pos (by omega),Qdt]
   simp only[F.dt,A.gd1 (A.r64n (n:=k) (by omega)),W]
   by_cases H:n.2.1=14
   ·simp[H]
   ·rw[if_pos H,A.ixn I,Qa,Qbj g x J,Qa,bix Y (by omega),Qa]
    cases bget done (idx g x)<;>simp[H])
  (by have:=Qab;omega)
theorem order_l3 (g:List Nd)(hb:Few g)(hfed:Fed g)(J:List Bool→List Int→Option (List Int×Bool))(done:List Bool)(l:List Int)(hd:done.length=g.length)(hl:l.length≤100):
  F.a2 J g done l A.FU (-1) 0=if Qad g done 0 g (-1)<0 then some ([],false)else J (done.set (Qad g done 0 g (-1)).toNat true) (l++[Qad g done 0 g (-1)]):=
 A.lp g (fun f (a:Int) y=>F.a2 J g done l f a y) (fun k t a=>if Qad g done k t a<0 then some ([],false)else J (done.set (Qad g done k t a).toNat true) (l++[Qad g done k t a])) (fun k a=> -1≤a∧a<g.length)
  (fun f a hp=>by
   rw[F.a2,A.ba,if_neg (by simp),Qad]
   by_cases h:a<0
   ·rw[if_pos h,if_pos h]
   ·rw[if_neg h,if_neg h,bix (by omega) (by omega),Qa,A.gd1 (by simp only[Qh,Qx];omega)])
  (fun f a k x O hk hp W=>by
   have hlen:=hb.1
   rw[F.a2,A.ba,if_pos (by simp;omega),Qad]
   simp only[F.cR,F.du,A.gd1 (A.r64n (n:=k) (by omega)),Qz,if_false]
   by_cases h:a<0
   ·by_cases H:bget done (k:Int)=true
    ·have e:(if(a<0∧bget done (k:Int)=false)∧ready g done x=true then(k:Int)else a)=a:=if_neg (by rw[H];simp)
     rw[e,if_pos h,bix (by omega) (by omega),Qa,H]
     simp only[Xk,Qz,if_false]
     exact W a hp
    ·rw[Bool.not_eq_true]at H
     have I:F.eq g x done=some (ready g done x):=ready_eq g x done (by omega) hd (hb.in O) (hfed x (Qg O))
     by_cases Y:ready g done x=true
     ·have e:(if(a<0∧bget done (k:Int)=false)∧ready g done x=true then(k:Int)else a)=k:=if_pos ⟨⟨h,H⟩,Y⟩
      rw[e,if_pos h,bix (by omega) (by omega),Qa,H]
      simp only[Yu,if_true,A.ixn O,Qa]
      rw[I,Qa,if_pos Y];exact W k (by omega)
     ·have e:(if(a<0∧bget done (k:Int)=false)∧ready g done x=true then(k:Int)else a)=a:=if_neg (fun h2=>Y h2.2)
      rw[e,if_pos h,bix (by omega) (by omega),Qa,H]
      simp only[Yu,if_true,A.ixn O,Qa]
      rw[I,Qa,if_neg Y];exact W a hp
   ·have e:(if(a<0∧bget done (k:Int)=false)∧ready g done x=true then(k:Int)else a)=a:=if_neg (fun h2=>h h2.1.1)
    rw[e,if_neg h];exact W a hp)
  (by have:=Qab;have:=hb.1;omega) (-1) (by omega)
def ordR (g:List Nd)(r:Nat)(done:List Bool)(l:List Int):List Int×Bool:=match Qaq g r done l with
 |some l'=>(l',true)
 |none=>([],false)
theorem order_l4 (g:List Nd)(H:Few g)(hfed:Fed g): ∀(r f:Nat) (done:List Bool) (l:List Int),r<f→l.length+r=g.length→done.length=g.length→F.bp g f done l=some (ordR g r done l)
 |0,f,done,l,J,O,I=>by
  obtain⟨f,rfl⟩: ∃f',f=f'+1:=⟨f-1,by omega⟩
  rw[F.bp,if_neg (by omega)];rfl
 |r+1,f,done,l,J,O,I=>by
  obtain⟨f,rfl⟩: ∃f',f=f'+1:=⟨f-1,by omega⟩
  have:=H.1
  rw[F.bp,if_pos (by omega),order_l3 g H hfed _ done l I (by omega),ordR,Qaq]
  by_cases h:Qad g done 0 g (-1)<0
  ·rw[if_pos h,if_pos h]
  ·rw[if_neg h,if_neg h,order_l4 g H hfed r f _ _ (by omega) (by simp only[Qm,Qh,Qx];omega) (by rw[bset_len];exact I)]
   rfl
theorem R_order_eq (g:List Nd)(H:Few g)(hfed:Fed g):F.dv g=some (ordR g g.length (List.replicate g.length false) []):=by
 have:=H.1
 unfold F.dv
 rw[A.gd1 (by omega),order_l4 g H hfed g.length A.FU _ [] (by have:=Qab;omega) (by simp) (by simp)]
def Qdv (m:List (Int×Bool))(n:Nd):Bool:=n.2.2.1.all fun k=>Z.mget false m k||decide (n.2.1=14)
def Qfe (m:List (Int×Bool)):List Nd→Option Nd
 | []=>none
 |n::r=>if Z.mget false m n.1=false∧Qdv m n=true then some n else Qfe m r
def sortS (g:List Nd):Nat→List (Int×Bool)→List Int→List Int
 |0,_,xs=>xs
 |r+1,m,xs=>match Qfe m g with
  |some n=>sortS g r (Z.mins m n.1 true) (xs++[n.1])
  |none=>sortS g r m xs
abbrev PlR:=Option (Bool×((List (Int×Nd))×(List Int)×(List (Int×Int))))
theorem sort_l4 (g:List Nd)(I:Few g)(k29:List Int→List (Int×Bool)→Int→PlR)(xs:List Int)(m:List (Int×Bool))(y:Int)(hxs:xs.length≤100)(hy:0≤y∧y≤100):
  F.ae k29 g xs m y A.FU 0=match Qfe m g with
   |some n=>k29 (xs++[n.1]) (Z.mins m n.1 true) (y+1)
   |none=>k29 xs m (y+1):=
 A.lp0 g (fun f i=>F.ae k29 g xs m y f i) (fun _ l=>match Qfe m l with
   |some n=>k29 (xs++[n.1]) (Z.mins m n.1 true) (y+1)
   |none=>k29 xs m (y+1))
  (fun f=>by rw[F.ae,if_neg (by omega),F.bx,A.gd1 ⟨by omega,by omega⟩];rfl)
  (fun f k x Y hk ih=>by
   have hlen:=I.1
   have hin:=I.in Y
   rw[F.ae,if_pos (by omega),A.ixn Y,Qa,A.lt,Qfe]
   have loop:=A.lp0 x.2.2.1 (fun J j=>F.a9 k29 (F.ae k29 g xs m y f) xs m y (k:Int) x J j) (fun _ l=>if l.all (fun k=>Z.mget false m k||decide (x.2.1=14))=true then k29 (xs++[x.1]) (Z.mins m x.1 true) (y+1)else F.ae k29 g xs m y f ((k:Int)+1))
    (fun J=>by rw[F.a9,if_neg (by omega),A.gd1 (by simp only[Qh,Qx];omega),F.bx,A.gd1 ⟨by omega,by omega⟩];rfl)
    (fun J j z hz hj O=>by
     rw[F.a9,if_pos (by omega),A.ixn hz,Qa,A.lt,A.gd1 (A.r64n (by omega)),O,F.bz,A.gd1 (A.r64n (by omega)),Xu]
     cases hm:Z.mget false m z<;>by_cases W:x.2.1=14<;>simp[W])
    (by have:=Qab;omega)
   rw[loop,F.bz,A.gd1 (A.r64n (by omega)),ih]
   cases hm:Z.mget false m x.1 with
   |true=>
    have e: ¬((true:Bool)=false∧Qdv m x=true):=fun h=>by cases h.1
    rw[if_pos rfl,if_neg e]
   |false=>
    rw[if_neg Wm]
    by_cases H:Qdv m x=true
    ·have e:(false:Bool)=false∧Qdv m x=true:=⟨rfl,H⟩
     rw[if_pos (show(x.2.2.1.all fun k=>Z.mget false m k||decide (x.2.1=14))=true from H),if_pos e]
    ·have e: ¬((false:Bool)=false∧Qdv m x=true):=fun h=>H h.2
     rw[if_neg (show ¬(x.2.2.1.all fun k=>Z.mget false m k||decide (x.2.1=14))=true from H),if_neg e])
  (by have:=Qab;have:=I.1;omega)
theorem Qim (g:List Nd)(H:Few g)(a0:(List (Int×Nd))×(List Int)×(List (Int×Int))): ∀(r f:Nat) (m:List (Int×Bool)) (xs:List Int) (y:Nat),r<f→y+r=g.length→xs.length≤y→F.au a0 g f xs m (y:Int)=some (decide (((sortS g r m xs).length:Int)=(g.length:Int)),(a0.1,sortS g r m xs,a0.2.2))
 |0,f,m,xs,y,I,J,O=>by
  obtain⟨f,rfl⟩: ∃f',f=f'+1:=⟨f-1,by omega⟩
  rw[F.au,if_neg (by omega)];rfl
 |r+1,f,m,xs,y,I,J,O=>by
  obtain⟨f,rfl⟩: ∃f',f=f'+1:=⟨f-1,by omega⟩
  have:=H.1
  rw[F.au,if_pos (by omega),sort_l4 g H _ xs m y (by omega) (by omega),sortS]
  have e:(y:Int)+1=((y+1:Nat):Int):=by omega
  cases Qfe m g with
  |none=>simp only[];rw[e,Qim g H a0 r f m xs (y+1) (by omega) (by omega) (by omega)]
  |some n=>simp only[];rw[e,Qim g H a0 r f _ _ (y+1) (by omega) (by omega) (by simp only[Qm,Qh,Qx];omega)]
theorem sort_eq (g:List Nd)(H:Few g)(m:List (Int×Nd)):F.bh (m,[],[]) g=some (decide (((sortS g g.length [] []).length:Int)=(g.length:Int)),(m,sortS g g.length [] [],[])):=by
 unfold F.bh
 exact Qim g H (m,[],[]) g.length A.FU [] [] 0 (by have:=Qab;have:=H.1;omega) (by omega) (by simp)
def Rel (g:List Nd)(done:List Bool)(m:List (Int×Bool)):Prop:=∀(i:Nat) (n:Nd),g[i]?=some n→Z.mget false m n.1=bget done (i:Int)
theorem ready_rel {g:List Nd}{done:List Bool}{m:List (Int×Bool)}(h:Rel g done m){n:Nd}(H: ∀k∈n.2.2.1,0≤idx g k):Qdv m n=ready g done n:=by
 unfold Qdv ready
 generalize n.2.2.1=l at H
 induction l with
 |nil=>rfl
 |cons k r W=>
  rw[Xu,W fun x Y=>H x (Qe _ Y),Qdt]
  have J:=H k (Qf ..)
  obtain⟨q,h1,h2,h3⟩:=idx_get J
  have O:=h _ q h1
  rw[h3,Wp J]at O
  rw[O]
  cases bget done (idx g k)<;>by_cases I:n.2.1=14<;>simp[I]
theorem Qec (g:List Nd)(done:List Bool): ∀(k:Nat) (l:List Nd) (a:Int),0≤a→Qad g done k l a=a
 |_,[],_,_=>rfl
 |k,x::r,a,h=>by
  unfold Qad
  rw[if_neg (fun H=>by omega)]
  exact Qec g done (k+1) r a h
theorem Qfa {g:List Nd}{done:List Bool}{m:List (Int×Bool)}(h:Rel g done m)(J:Fed g): ∀(r k:Nat),k+r=g.length→(Qad g done k (g.drop k) (-1)= -1∧Qfe m (g.drop k)=none)∨(∃(i:Nat) (n:Nd),Qad g done k (g.drop k) (-1)=(i:Int)∧g[i]?=some n∧Qfe m (g.drop k)=some n∧bget done (i:Int)=false)
 |0,k,hk=>by
  rw[Q2 (by omega)];exact .inl ⟨rfl,rfl⟩
 |r+1,k,hk=>by
  have I:g[k]?=some g[k]:=Qd (by omega)
  generalize g[k]=x at I
  rw[A.dropx I,Qad,Qfe,h k x I,ready_rel h (J x (Qg I))]
  by_cases H:bget done (k:Int)=false∧ready g done x=true
  ·rw[if_pos H,if_pos ⟨⟨by omega,H.1⟩,H.2⟩,Qec _ _ _ _ _ (by omega)]
   exact .inr ⟨k,x,rfl,I,rfl,H.1⟩
  ·rw[if_neg H,if_neg (fun O=>H ⟨O.1.2,O.2⟩)]
   exact Qfa h J r (k+1) (by omega)
def idAt (g:List Nd)(i:Int):Int:=(at_ g i).1
theorem rel_set {g:List Nd}(J:Inc g){done:List Bool}{m:List (Int×Bool)}(h:Rel g done m)(W:done.length=g.length){i:Nat}{n:Nd}(H:g[i]?=some n):Rel g (done.set i true) (Z.mins m n.1 true):=fun j q hq=>by
 rw[Up]
 have Y:=(Qc.1 H).1
 by_cases e:q.1=n.1
 ·have:=J.inj hq H e
  subst this
  rw[if_pos e]
  unfold bget
  rw[Qs,Ys (by omega)];rfl
 ·rw[if_neg e,h j q hq]
  have I:i≠j:=fun O=>e (by subst O;rw[H]at hq;injection hq with hq;rw[hq])
  unfold bget
  rw[Qs,List.getElem?_set_ne I]
theorem Qep {g:List Nd}(O:Inc g)(W:Fed g): ∀(r:Nat) (done:List Bool) (m:List (Int×Bool)) (l:List Int),Rel g done m→done.length=g.length→(∃l',Qaq g r done l=some l'∧sortS g r m (l.map (idAt g))=l'.map (idAt g)∧l'.length=l.length+r)∨(Qaq g r done l=none∧(sortS g r m (l.map (idAt g))).length <l.length+r)
 |0,done,m,l,_,_=>.inl ⟨l,rfl,rfl,rfl⟩
 |r+1,done,m,l,h,Y=>by
  rw[Qaq,sortS]
  rcases Qfa h W g.length 0 (by omega)with⟨I,H⟩|⟨i,n,I,H,h3,h4⟩
  ·rw[Wa]at I H
   rw[I,if_pos (by omega),H]
   refine .inr ⟨rfl,?_⟩
   simp only[]
   have stay: ∀(r:Nat) (xs:List Int),sortS g r m xs=xs:=by
    intro r
    induction r with
    |zero=>intro xs;rfl
    |succ r ih=>intro xs;rw[sortS,H];exact ih xs
   rw[stay,Qw];omega
  ·rw[Wa]at I h3
   rw[I,if_neg (by omega),h3,Qs]
   simp only[]
   have e:l.map (idAt g)++[n.1]=(l++[(i:Int)]).map (idAt g):=by
    rw[Yf];simp only[Q3,Xr,idAt,Qav rfl H]
   rw[e]
   rcases Qep O W r (done.set i true) (Z.mins m n.1 true) (l++[(i:Int)]) (rel_set O h Y H) (by rw[bset_len];exact Y)with⟨l',J,h6,h7⟩|⟨J,h6⟩
   ·exact .inl ⟨l',J,h6,by rw[h7];simp only[Qm,Qh,Qx];omega⟩
   ·exact .inr ⟨J,by simp only[Qm,Qh,Qx]at h6;omega⟩
theorem rel_0 (g:List Nd):Rel g (List.replicate g.length false) []:=fun i n H=>by
 unfold bget
 rw[Qs,Xa]
 split<;>rfl
theorem order_sort {g:List Nd}(J:Few g)(Y:Inc g)(O:Fed g)(m:List (Int×Nd)):(∃l,F.dv g=some (l,true)∧F.bh (m,[],[]) g=some (true,(m,l.map (idAt g),[]))∧l.length=g.length∧Qaq g g.length (List.replicate g.length false) []=some l)∨(F.dv g=some ([],false)∧∃p,F.bh (m,[],[]) g=some (false,p)):=by
 rw[R_order_eq g J O,sort_eq g J m,ordR]
 rcases Qep Y O g.length (List.replicate g.length false) [] [] (rel_0 g) (by simp)with⟨l,I,H,W⟩|⟨I,H⟩
 ·rw[Xr]at H
  rw[I,H]
  left
  refine⟨l,rfl,?_,by simpa using W,rfl⟩
  rw[Qw,decide_eq_true (by simp at W;omega)]
 ·rw[Xr]at H
  rw[I]
  right
  refine⟨rfl,(m,sortS g g.length [] [],[]),?_⟩
  rw[decide_eq_false (by simp at H;omega)]
end Go.Proofs.YtlbnpmfggfbdoaaGreatDoor
end
section
namespace Go.A
theorem mrg_any {α β:Type}[DecidableEq β]{body:α→Option (Option β)}{rest:Option β}{y:β}{p:α→Bool}: ∀{l:List α},(∀x∈l,body x=if p x=true then some (some y)else some none)→mrg body rest l=if l.any p=true then some y else rest
 | [],_=>rfl
 |x::l,h=>by
  have J:=h x (Qf ..)
  have O:=mrg_any (rest:=rest) (l:=l) fun z H=>h z (Qe _ H)
  unfold mrg
  rw[J,Yd]
  cases hp:p x with
  |true=>
   simp only[Qa,if_true,Bool.true_or]
   rw[if_pos]
   rw[Qy]
   intro z H
   have I:=h z (Qe _ H)
   refine decide_eq_true ?_
   rw[I]
   cases p z<;>simp
  |false=>
   simp only[Qa,Qz,if_false,X3]
   exact O
end Go.A
namespace Go.Proofs.YtlbnpmfggfbdoaaGreatDoor
open Go.RowKit Go.Graph
theorem R_depth_eq (n:Nd)(l:List Int)(h5:n.2.1=5∨n.2.1=9→2≤l.length)(hb: -1≤d0 l∧d0 l≤4):F.d1 n l=some (depthOf n l):=by
 have O:F.cU n l (d0 l)=some (depthOf n l):=by
  unfold F.cU depthOf Qcr
  have W: ∀y,F.a3 y=some (capd y):=fun y=>by unfold F.a3 F.dw capd;split<;>rfl
  have Y: ∀y,(y=true↔n.2.1=5∨n.2.1=9)→F.cT n l (d0 l) y=some (capd (if n.2.1=5∨n.2.1=9 then(if iget l 0≠iget l 1 then-1 else d0 l)else if n.2.1=11∨n.2.1=16∨n.2.1=15 then(if d0 l≠0 then-1 else d0 l)else d0 l)):=fun y hy=>by
   unfold F.cT F.cS
   simp only[W,decide_eq_true_eq]
   by_cases h:n.2.1=5∨n.2.1=9
   ·have:=h5 h
    rw[if_pos (hy.2 h),if_pos h,iix (i:=0) (by omega) (by omega),Qa,iix (i:=1) (by omega) (by omega),Qa]
    by_cases e:iget l 0=iget l 1
    ·rw[if_neg (fun h=>h e),if_neg (fun h=>h e)]
    ·rw[if_pos e,if_pos e]
   ·rw[if_neg (fun h2=>h (hy.1 h2)),if_neg h]
    by_cases h11:n.2.1=11
    ·simp only[h11,if_true,true_or];split<;>rfl
    ·by_cases h16:n.2.1=16
     ·simp only[h16,if_true,true_or,or_true,if_false,Int.reduceEq];split<;>rfl
     ·by_cases h15:n.2.1=15
      ·simp only[h15,if_true,or_true,if_false,Int.reduceEq];split<;>rfl
      ·simp only[h11,h16,h15,if_false,or_self]
  simp only[W]
  by_cases H:n.2.1=14
  ·rw[if_pos H,if_pos H]
  ·rw[if_neg H,if_neg H]
   by_cases I:n.2.1=12
   ·rw[if_pos I,if_pos I,A.gd1 ⟨by omega,by omega⟩]
   ·rw[if_neg I,if_neg I]
    by_cases J:n.2.1=13
    ·rw[if_pos J,if_pos J,A.gd1 ⟨by omega,by omega⟩]
    ·rw[if_neg J,if_neg J]
     by_cases h5':n.2.1=5
     ·rw[if_pos h5',Y _ (by simp[h5'])]
     ·rw[if_neg h5',Y _ (by simp[h5'])]
 unfold F.d1
 by_cases h:(0:Int)<(l.length:Int)
 ·rw[if_pos h,iix (i:=0) (by omega) (by omega),Qa,Qil];exact O
 ·rw[if_neg h,d0_nil (l:=l) (by omega)];exact O
def Own (g:List Nd):Prop:=∀n,n∈g→ownQ n=true
theorem own_ins {n:Nd}(h:ownQ n=true):0≤insK n.2.1∧(n.2.2.1.length:Int)=insK n.2.1:=by
 unfold ownQ at h
 by_cases H:n.1<1∨255<n.1∨insK n.2.1<0∨(n.2.2.1.length:Int)≠insK n.2.1
 ·rw[if_pos H]at h;cases h
 ·omega
theorem own_id {n:Nd}(h:ownQ n=true):1≤n.1∧n.1≤255:=by
 unfold ownQ at h
 by_cases H:n.1<1∨255<n.1∨insK n.2.1<0∨(n.2.2.1.length:Int)≠insK n.2.1
 ·rw[if_pos H]at h;cases h
 ·omega
theorem own_D {n:Nd}(h:ownQ n=true):(n.2.1=14→1≤n.2.2.2.2.2.2∧n.2.2.2.2.2.2≤4)∧(n.2.1≠14→n.2.2.2.2.2.2=0):=by
 unfold ownQ at h
 by_cases H:n.1<1∨255<n.1∨insK n.2.1<0∨(n.2.2.1.length:Int)≠insK n.2.1
 ·rw[if_pos H]at h;cases h
 ·rw[if_neg H]at h
  by_cases I:ownC n
  ·rw[if_pos I]at h;cases h
  ·unfold ownC at I;omega
theorem insK_cases (k:Int)(h:0≤insK k):(k=1∧insK k=0)∨((k=5∨k=9)∧insK k=2)∨(k≠1∧k≠5∧k≠9∧insK k=1):=by
 unfold insK at h ⊢
 by_cases H:k<1∨16<k
 ·rw[if_pos H]at h;omega
 ·rw[if_neg H]
  by_cases I:k=1
  ·rw[if_pos I];omega
  ·rw[if_neg I]
   by_cases J:k=5∨k=9
   ·rw[if_pos J];omega
   ·rw[if_neg J];omega
theorem own_len {n:Nd}(h:ownQ n=true):(n.2.1=1∧n.2.2.1.length=0)∨((n.2.1=5∨n.2.1=9)∧n.2.2.1.length=2)∨(n.2.1≠1∧n.2.1≠5∧n.2.1≠9∧n.2.2.1.length=1):=by
 have I:=own_ins h
 rcases insK_cases n.2.1 I.1 with H|H|H<;>omega
theorem Qgc {l:List Int}{i:Nat}{v:Int}:(l.set i v).length=l.length:=W5
theorem depths_l1 (g:List Nd)(l d:List Int)(y:Nat)(p:Nat)(x:Nd)(J:List Int→Int→Option (List Int×Bool))(hb:Few g)(hfed:Fed g)(ho:Own g)(hd:d.length=g.length)(O:InB d)(hp:l[y]?=some (p:Int))(hy:y<100)(W:g[p]?=some x):
  F.bV J g l d (y:Int) x A.FU [] 0=if depthOf x (inD g d x.2.2.1)<0 then some ([],false)else J (d.set p (depthOf x (inD g d x.2.2.1))) ((y:Int)+1):=by
 have hlen:=hb.1
 have hin:=hb.in W
 have hpl:=(Qc.1 W).1
 have H:=Qg W
 have loop:=A.lp x.2.2.1 (fun f (s:List Int) i=>F.bV J g l d (y:Int) x f s i) (fun _ t s=>if depthOf x (s++inD g d t)<0 then some ([],false)else J (d.set p (depthOf x (s++inD g d t))) ((y:Int)+1)) (fun k s=>s=inD g d (x.2.2.1.take k))
  (fun f s I=>by
   rw[W6 (Q1 _)]at I
   subst I
   have hdep:F.d1 x (inD g d x.2.2.1)=some (depthOf x (inD g d x.2.2.1)):=R_depth_eq x (inD g d x.2.2.1) (fun h=>by rcases own_len (ho x H)with Y|Y|Y<;>simp only[inD,Qw]<;>omega) (O.d0 g _)
   have e:(inD g d x.2.2.1++inD g d ([]:List Int))=inD g d x.2.2.1:=by simp[inD]
   rw[F.bV,if_neg (by omega),A.ixn hp,Qa,hdep,Qa,iix (by omega) (by omega),Qa,Qa,e,iix (by omega) (by rw[Qgc];omega),Qa,A.gd1 (A.r64n (by omega)),Qs]
   have e2:iget (d.set p (depthOf x (inD g d x.2.2.1))) (p:Int)=depthOf x (inD g d x.2.2.1):=by
    unfold iget;rw[Qs,Ys (by omega)];rfl
   rw[e2])
  (fun f s k z hz hk I ih=>by
   have h1:=hfed x H z (Qg hz)
   have Y:=(idx_le g z).2
   rw[F.bV,if_pos (by omega),A.ixn hz,Qa,Qbj g z (by omega),Qa,iix h1 (by omega),Qa]
   have hs2:s++[iget d (idx g z)]=inD g d (x.2.2.1.take (k+1)):=by rw[I];exact inD_take hz
   rw[A.gd1 (by rw[I];simp only[inD,Qw,Qt,Qh,Qx];omega),A.gd1 (A.r64n (by omega)),ih _ hs2]
   simp only[inD,Q3,We,X0])
  (by have:=Qab;omega) [] (by simp[inD])
 rw[loop]
 rfl
theorem depths_l3 (g:List Nd)(d:List Int)(Y:Few g)(hfed:Fed g)(ho:Own g)(hd:d.length=g.length):F.be g d A.FU 0=if Qbc g d g=true then some (d,true)else some ([],false):=
 A.lp0 g (fun f y=>F.be g d f y) (fun _ t=>if Qbc g d t=true then some (d,true)else some ([],false))
  (fun f=>by rw[F.be,if_neg (by omega)];rfl)
  (fun f k x hx hk ih=>by
   have hlen:=Y.1
   have I:=Qg hx
   rw[F.be,if_pos (by omega),A.ixn hx,Qa,Qbc]
   simp only[F.c6,A.gd1 (A.r64n (n:=k) (by omega)),ih,decide_eq_true_eq]
   by_cases H:x.2.1=14
   ·have hl:x.2.2.1.length=1:=by rcases own_len (ho x I)with W|W|W<;>omega
    have J:x.2.2.1[0]?=some (iget x.2.2.1 0):=by
     unfold iget
     rw[show(0:Int).toNat=0 from rfl,Qd (by omega)];rfl
    have h1:=hfed x I _ (Qg J)
    have W:=(idx_le g (iget x.2.2.1 0)).2
    rw[if_pos H,show A.ix x.2.2.1 0=_ from A.ixn J,Qa,Qbj g _ (by omega),Qa,iix h1 (by omega),Qa]
    by_cases e:iget d (idx g (iget x.2.2.1 0))≠x.2.2.2.2.2.2
    ·rw[if_pos e]
     have O:x.2.1=14∧iget d (idx g (iget x.2.2.1 0))≠x.2.2.2.2.2.2:=⟨H,e⟩
     rw[if_pos O,if_neg Wm]
    ·rw[if_neg e]
     have O: ¬(x.2.1=14∧iget d (idx g (iget x.2.2.1 0))≠x.2.2.2.2.2.2):=fun h=>e h.2
     rw[if_neg O]
   ·have O: ¬(x.2.1=14∧iget d (idx g (iget x.2.2.1 0))≠x.2.2.2.2.2.2):=fun h=>H h.1
    rw[if_neg H,if_neg Wm,if_neg O])
  (by have:=Qab;have:=Y.1;omega)
def Plc (g:List Nd)(l:List Int):Prop:=∀(i:Nat) (p:Int),l[i]?=some p→∃(k:Nat) (n:Nd),p=(k:Int)∧g[k]?=some n
theorem depths_l4 (g:List Nd)(l:List Int)(I:Few g)(hfed:Fed g)(W:Own g)(hl:l.length≤60)(hp:Plc g l):F.c1 g l=some (depths g l):=by
 have hlen:=I.1
 have loop:=A.lp l (fun f (s:List Int) i=>F.bW g l f s i) (fun _ t s=>match Qal g t s with
  |some d=>if Qbc g d g=true then some (d,true)else some ([],false)
  |none=>some ([],false)) (fun k s=>s.length=g.length∧InB s)
  (fun f s H=>by rw[F.bW,if_neg (by omega),depths_l3 g s I hfed W H.1];rfl)
  (fun f s k x J hk H Y=>by
   obtain⟨q,n,rfl,O⟩:=hp k x J
   rw[F.bW,if_pos (by omega),A.ixn J,Qa,A.ixn O,Qa,depths_l1 g l s k q n _ I hfed W H.1 H.2 J (by omega) O,Qal,Qav rfl O]
   by_cases h:depthOf n (inD g s n.2.2.1)<0
   ·rw[if_pos h,if_pos h]
   ·rw[if_neg h,if_neg h,Qs]
    exact Y _ ⟨by rw[Qgc];exact H.1,H.2.set q (by omega) (Qes n _)⟩)
  (by have:=Qab;omega) (List.replicate g.length 0) ⟨by simp,InB.rep _⟩
 unfold F.c1 depths
 rw[A.gd1 (by omega),loop]
 cases Qal g l (List.replicate g.length 0)with
 |none=>rfl
 |some d=>simp only[];cases Qbc g d g<;>rfl
end Go.Proofs.YtlbnpmfggfbdoaaGreatDoor
end
section
namespace Go.Proofs.YtlbnpmfggfbdoaaGreatDoor
open Go.RowKit Go.Graph
def RelD (g:List Nd)(d:List Int)(dm:List (Int×Int)):Prop:=∀(i:Nat) (n:Nd),g[i]?=some n→Z.mget 0 dm n.1=iget d (i:Int)
theorem RelD.in {g:List Nd}{d:List Int}{dm:List (Int×Int)}(h:RelD g d dm){k:Int}(H:0≤idx g k):Z.mget 0 dm k=iget d (idx g k):=by
 obtain⟨q,J,_,O⟩:=idx_get H
 have I:=h _ q J
 rw[O,Wp H]at I
 exact I
theorem iget_nat {l:List Int}{i:Nat}(h:i<l.length):l[i]?=some (iget l (i:Int)):=by
 unfold iget;rw[Qs,Qd h];rfl
theorem inD_at {g:List Nd}{d l:List Int}{i:Nat}{k:Int}(h:l[i]?=some k):iget (inD g d l) (i:Int)=iget d (idx g k):=by
 unfold iget
 rw[Qs,inD,Qu,h];rfl
theorem out_eq (g:List Nd)(d:List Int)(a0:(List (Int×Nd))×(List Int)×(List (Int×Int)))(n:Nd)(hr:RelD g d a0.2.2)(hib:InB d)(ho:ownQ n=true)(hf: ∀k∈n.2.2.1,0≤idx g k):
  ∃v b,F.cp a0 n=some (v,b)∧((b=false∧depthOf n (inD g d n.2.2.1)<0)∨(b=true∧v=depthOf n (inD g d n.2.2.1)∧0≤v)):=by
 have hlen:=own_len ho
 have hD:=own_D ho
 unfold F.cp
 by_cases h1:n.2.1=1
 ·have hl:n.2.2.1=[]:=Wn (by omega)
  rw[if_pos h1]
  refine⟨0,true,rfl,.inr ⟨rfl,?_,Xi _⟩⟩
  unfold depthOf Qcr capd
  simp only[h1,hl,inD,Xr,d0];simp
 ·rw[if_neg h1]
  by_cases H:n.2.1=14
  ·rw[if_pos H]
   have:=hD.1 H
   refine⟨_,true,rfl,.inr ⟨rfl,?_,by omega⟩⟩
   unfold depthOf Qcr capd
   rw[if_pos H,if_neg (by omega)]
  ·rw[if_neg H]
   have hpos:0<n.2.2.1.length:=by omega
   obtain⟨k0,I⟩: ∃k0,n.2.2.1[0]?=some k0:=⟨_,Qd hpos⟩
   have f0:=hf k0 (Qg I)
   have b0:=hib (idx g k0)
   have e0:d0 (inD g d n.2.2.1)=iget d (idx g k0):=by rw[←Qil];exact inD_at I
   rw[show A.ix n.2.2.1 0=_ from A.ixn I,Qa,A.lt,hr.in f0]
   have hj3: ∀y,(y=true↔(n.2.1=5∨n.2.1=9)∧iget (inD g d n.2.2.1) 0≠iget (inD g d n.2.2.1) 1)→∃v b,F.bT n (iget d (idx g k0)) y=some (v,b)∧((b=false∧depthOf n (inD g d n.2.2.1)<0)∨(b=true∧v=depthOf n (inD g d n.2.2.1)∧0≤v)):=fun y hy=>by
    unfold F.bT depthOf Qcr
    rw[if_neg H,e0]
    by_cases J:y=true
    ·have Y:=hy.1 J
     rw[if_pos J]
     refine⟨0,false,rfl,.inl ⟨rfl,?_⟩⟩
     rw[if_neg (by omega),if_neg (by omega),if_pos Y.1,if_pos Y.2];decide
    ·have Y: ¬((n.2.1=5∨n.2.1=9)∧iget (inD g d n.2.2.1) 0≠iget (inD g d n.2.2.1) 1):=fun h=>J (hy.2 h)
     rw[if_neg J]
     simp only[F.bR,F.bS,A.ba]
     by_cases O:n.2.1=12
     ·rw[if_pos O,if_pos O,A.gd1 ⟨by omega,by omega⟩]
      unfold capd
      by_cases h4:4<iget d (idx g k0)+1
      ·exact⟨_,_,rfl,.inl ⟨decide_eq_false (by omega),by rw[if_pos h4];decide⟩⟩
      ·exact⟨_,_,rfl,.inr ⟨decide_eq_true (by omega),by rw[if_neg h4],by omega⟩⟩
     ·rw[if_neg O,if_neg O]
      by_cases W:n.2.1=13
      ·rw[if_pos W,if_pos W,A.gd1 ⟨by omega,by omega⟩]
       unfold capd
       rw[if_neg (by omega)]
       by_cases h4:0≤iget d (idx g k0)-1
       ·exact⟨_,_,rfl,.inr ⟨decide_eq_true (by omega),rfl,h4⟩⟩
       ·exact⟨_,_,rfl,.inl ⟨decide_eq_false (by omega),by omega⟩⟩
      ·rw[if_neg W,if_neg W]
       have hz: ∀x:Int,n.2.1=11∨n.2.1=16∨n.2.1=15→∃v b,(some (iget d (idx g k0),decide (iget d (idx g k0)=0)):Option (Int×Bool))=some (v,b)∧((b=false∧capd (if n.2.1=5∨n.2.1=9 then if iget (inD g d n.2.2.1) 0≠iget (inD g d n.2.2.1) 1 then-1 else iget d (idx g k0)else if n.2.1=11∨n.2.1=16∨n.2.1=15 then if iget d (idx g k0)≠0 then-1 else iget d (idx g k0)else iget d (idx g k0))<0)∨(b=true∧v=capd (if n.2.1=5∨n.2.1=9 then if iget (inD g d n.2.2.1) 0≠iget (inD g d n.2.2.1) 1 then-1 else iget d (idx g k0)else if n.2.1=11∨n.2.1=16∨n.2.1=15 then if iget d (idx g k0)≠0 then-1 else iget d (idx g k0)else iget d (idx g k0))∧0≤v)):=fun _ hk=>by
        rw[if_neg (by omega),if_pos hk]
        by_cases h0:iget d (idx g k0)=0
        ·rw[h0];exact⟨_,_,rfl,.inr ⟨rfl,rfl,Xi _⟩⟩
        ·rw[if_pos h0];exact⟨_,_,rfl,.inl ⟨decide_eq_false h0,by decide⟩⟩
       by_cases h11:n.2.1=11
       ·rw[if_pos h11];exact hz 0 (.inl h11)
       ·rw[if_neg h11]
        by_cases h16:n.2.1=16
        ·rw[if_pos h16];exact hz 0 (.inr (.inl h16))
        ·rw[if_neg h16]
         by_cases h15:n.2.1=15
         ·rw[if_pos h15];exact hz 0 (.inr (.inr h15))
         ·rw[if_neg h15]
          refine⟨_,_,rfl,.inr ⟨decide_eq_true (by omega),?_,by omega⟩⟩
          by_cases h5:n.2.1=5∨n.2.1=9
          ·rw[if_pos h5,if_neg (fun h=>Y ⟨h5,h⟩)];unfold capd;rw[if_neg (by omega)]
          ·rw[if_neg h5,if_neg (by omega)];unfold capd;rw[if_neg (by omega)]
   by_cases Y:(1:Int)<(n.2.2.1.length:Int)
   ·have h5:n.2.1=5∨n.2.1=9:=by omega
    obtain⟨k1,hk1⟩: ∃k1,n.2.2.1[1]?=some k1:=⟨_,Qd (by omega)⟩
    have f1:=hf k1 (Qg hk1)
    rw[if_pos Y,show A.ix n.2.2.1 1=_ from A.ixn hk1,Qa,A.lt,hr.in f1]
    refine hj3 _ ?_
    rw[decide_eq_true_eq,show iget (inD g d n.2.2.1) 0=_ from inD_at I,show iget (inD g d n.2.2.1) 1=_ from inD_at hk1]
    exact⟨fun h=>⟨h5,fun e=>h e.symm⟩,fun h e=>h.2 e.symm⟩
   ·rw[if_neg Y]
    exact hj3 false ⟨fun h=>(by cases h),fun h=>by omega⟩
theorem relD_set {g:List Nd}(J:Inc g){d:List Int}{dm:List (Int×Int)}(h:RelD g d dm)(W:d.length=g.length){i:Nat}{n:Nd}(H:g[i]?=some n)(v:Int):RelD g (d.set i v) (Z.mins dm n.1 v):=fun j q hq=>by
 rw[Up]
 have Y:=(Qc.1 H).1
 by_cases e:q.1=n.1
 ·have:=J.inj hq H e
  subst this
  rw[if_pos e]
  unfold iget
  rw[Qs,Ys (by omega)];rfl
 ·rw[if_neg e,h j q hq]
  have I:i≠j:=fun O=>e (by subst O;rw[H]at hq;injection hq with hq;rw[hq])
  unfold iget
  rw[Qs,List.getElem?_set_ne I]
def KeyD (g:List Nd)(l:List Int)(dm:List (Int×Int)):Prop:=∀id,Z.mhas dm id=l.any fun p=>decide (idAt g p=id)
theorem Qej (g:List Nd)(l:List Int)(hb:Few g)(hi:Inc g)(hfed:Fed g)(ho:Own g)(hl:l.length≤60)(hp:Plc g l): ∀(r k f:Nat) (d:List Int) (dm:List (Int×Int)),k+r=l.length→r<f→RelD g d dm→InB d→d.length=g.length→KeyD g (l.take k) dm→
  (∃d' dm',Qal g (l.drop k) d=some d'∧F.al (Qac g,l.map (idAt g),[]) f dm (k:Int)=A.mrg (F.bf (Qac g,l.map (idAt g),[]) dm') (some (true,(Qac g,l.map (idAt g),dm'))) (Qac g)∧RelD g d' dm'∧InB d'∧d'.length=g.length∧KeyD g l dm')∨
  (Qal g (l.drop k) d=none∧∃p,F.al (Qac g,l.map (idAt g),[]) f dm (k:Int)=some (false,p))
 |0,k,f,d,dm,hk,hf,O,W,Y,h4=>by
  obtain⟨f,rfl⟩: ∃f',f=f'+1:=⟨f-1,by omega⟩
  left
  rw[W6 (by omega)]at h4
  refine⟨d,dm,by rw[Q2 (by omega)];rfl,?_,O,W,Y,h4⟩
  rw[F.al,if_neg (by simp only[Qw];omega)]
 |r+1,k,f,d,dm,hk,hf,O,W,Y,h4=>by
  obtain⟨f,rfl⟩: ∃f',f=f'+1:=⟨f-1,by omega⟩
  have H:l[k]?=some l[k]:=Qd (by omega)
  generalize l[k]=x at H
  obtain⟨q,n,rfl,I⟩:=hp k x H
  have hng:=Qg I
  have J:idAt g (q:Int)=n.1:=by unfold idAt;rw[Qav rfl I]
  have e1:A.ix (l.map (idAt g)) (k:Int)=some n.1:=A.ixn (by rw[Qu,H,Wi,J])
  obtain⟨v,b,ho1,ho2⟩:=out_eq g d (Qac g,l.map (idAt g),dm) n O W (ho n hng) (hfed n hng)
  have eF:F.al (Qac g,l.map (idAt g),[]) (f+1) dm (k:Int)=if(!b)=true then some (false,(Qac g,l.map (idAt g),dm))else A.gd (Z.R64 ((k:Int)+1)) (F.al (Qac g,l.map (idAt g),[]) f (Z.mins dm n.1 v) ((k:Int)+1)):=by
   rw[F.al,if_pos (by simp only[Qw];omega)]
   simp only[e1,Qa,A.lt,hi.mget I]
   rw[show F.cp (Qac g,l.map (idAt g),dm) n=_ from ho1,Qa]
  rw[A.dropx H,Qal,Qav rfl I,eF]
  rcases ho2 with⟨rfl,h5⟩|⟨rfl,h5,h6⟩
  ·right
   rw[if_pos (show depthOf n (n.2.2.1.map fun k=>iget d (idx g k))<0 from h5)]
   exact⟨rfl,_,if_pos rfl⟩
  ·subst h5
   rw[if_neg (show ¬depthOf n (n.2.2.1.map fun k=>iget d (idx g k))<0 by simp only[inD]at h6;omega),if_neg (by simp),A.gd1 (A.r64n (by omega)),Qs]
   have:=Qej g l hb hi hfed ho hl hp r (k+1) f (d.set q (depthOf n (inD g d n.2.2.1))) (Z.mins dm n.1 (depthOf n (inD g d n.2.2.1))) (by omega) (by omega) (relD_set hi O Y I _) (W.set q h6 (Qes n _)) (by rw[Qgc];exact Y) (fun id=>by
    rw[Z.mhas_ins,Qcs H,List.any_append,h4 id,Yd,List.any_nil,Bool.or_false,J,Bool.or_comm]
    congr 1
    exact decide_eq_decide.2 ⟨fun h=>h.symm,fun h=>h.symm⟩)
   exact this
theorem Qbi (g:List Nd)(d:List Int): ∀l,Qbc g d l= !(l.any fun x=>decide (x.2.1=14∧iget d (idx g (iget x.2.2.1 0))≠x.2.2.2.2.2.2))
 | []=>rfl
 |x::r=>by
  unfold Qbc
  rw[Yd]
  by_cases h:x.2.1=14∧iget d (idx g (iget x.2.2.1 0))≠x.2.2.2.2.2.2
  ·rw[if_pos h,decide_eq_true h];rfl
  ·rw[if_neg h,decide_eq_false h,X3];exact Qbi g d r
theorem Qiq (g:List Nd)(l:List Int)(hb:Few g)(hi:Inc g)(hfed:Fed g)(W:Own g)(hl:l.length≤60)(hp:Plc g l):
  (∃d dm,F.c1 g l=some (d,true)∧F.bg (Qac g,l.map (idAt g),[])=some (true,(Qac g,l.map (idAt g),dm))∧RelD g d dm∧InB d∧d.length=g.length∧KeyD g l dm∧Qbc g d g=true∧Qal g l (List.replicate g.length 0)=some d)∨
  (F.c1 g l=some ([],false)∧∃p,F.bg (Qac g,l.map (idAt g),[])=some (false,p)):=by
 have h0:RelD g (List.replicate g.length 0) []:=fun i n Y=>by
  unfold iget;rw[Qs,Xa];split<;>rfl
 rw[depths_l4 g l hb hfed W hl hp]
 unfold F.bg depths
 rcases Qej g l hb hi hfed W hl hp l.length 0 A.FU (List.replicate g.length 0) [] (by omega) (by have:=Qab;omega) h0 (InB.rep _) (by simp) (fun id=>by simp[Z.mhas])with⟨d,dm,J,I,h3,h4,h5,h6⟩|⟨J,p,I⟩
 ·rw[Wa]at J
  rw[J]
  simp only[]
  have hm:A.mrg (F.bf (Qac g,l.map (idAt g),[]) dm) (some (true,(Qac g,l.map (idAt g),dm))) (Qac g)=if(Qac g).any (fun p=>decide (p.2.2.1=14∧iget d (idx g (iget p.2.2.2.1 0))≠p.2.2.2.2.2.2.2))=true then some (false,(Qac g,l.map (idAt g),dm))else some (true,(Qac g,l.map (idAt g),dm)):=by
   refine A.mrg_any fun p hp=>?_
   obtain⟨n,Y,rfl⟩:=Qv.1 hp
   unfold F.bf F.bI
   by_cases H:n.2.1=14
   ·have hl1:n.2.2.1.length=1:=by rcases own_len (W n Y)with I|I|I<;>omega
    have O:n.2.2.1[0]?=some (iget n.2.2.1 0):=iget_nat (i:=0) (by omega)
    have f0:=hfed n Y _ (Qg O)
    rw[if_pos H,show A.ix n.2.2.1 0=_ from A.ixn O,Qa,A.lt,h3.in f0]
    by_cases e:iget d (idx g (iget n.2.2.1 0))≠n.2.2.2.2.2.2
    ·rw[decide_eq_true e,if_pos rfl,decide_eq_true (And.intro H e),if_pos rfl]
    ·rw[decide_eq_false e,if_neg Wm,decide_eq_false (fun h=>e h.2),if_neg Wm]
   ·rw[if_neg H,if_neg Wm,decide_eq_false (fun h=>H h.1),if_neg Wm]
  have hany:(Qac g).any (fun p=>decide (p.2.2.1=14∧iget d (idx g (iget p.2.2.2.1 0))≠p.2.2.2.2.2.2.2))=g.any fun x=>decide (x.2.1=14∧iget d (idx g (iget x.2.2.1 0))≠x.2.2.2.2.2.2):=by
   unfold Qac;rw[List.any_map];rfl
  have h2':F.al (Qac g,l.map (idAt g),[]) A.FU [] 0=_:=I.trans hm
  rw[h2',hany,Qbi]
  cases hc:g.any fun x=>decide (x.2.1=14∧iget d (idx g (iget x.2.2.1 0))≠x.2.2.2.2.2.2)with
  |true=>right;exact⟨rfl,_,rfl⟩
  |false=>left;exact⟨d,dm,rfl,rfl,h3,h4,h5,h6,by rw[Qbi,hc];rfl,rfl⟩
 ·rw[Wa]at J
  rw[J]
  right
  exact⟨rfl,p,I⟩
theorem Qcz (g:List Nd)(d:List Int)(id:Int): ∀(k:Nat) (l:List Int),(insS g d id k l).length=l.length
 |_,[]=>rfl
 |k,x::r=>by unfold insS;rw[Qh,Qh,Qcz g d id (k+1) r]
theorem Qga (n:Nd)(v:Int):(outS n v).length≤1:=by unfold outS;split<;>simp
theorem in2 {g:List Nd}(H:Own g){n:Nd}(I:n∈g):n.2.2.1.length≤2:=by rcases own_len (H n I)with h|h|h<;>omega
theorem spots_l2P (g:List Nd)(d:List Int)(a0:(List (Int×Nd))×(List Int)×(List (Int×Int)))(H:List Sp→Int→Option (List Sp))(y:Nat)(x:Nd)(xs:List Sp)(I:RelD g d a0.2.2)(O:g[y]?=some x)(hl:x.2.2.1.length≤2)(W: ∀k∈x.2.2.1,0≤idx g k)(Y:xs.length≤1000)(hy:y≤100):
  F.aP H a0 (y:Int) x A.FU xs 0=H (xs++(insS g d x.1 0 x.2.2.1++outS x (iget d (y:Int)))) ((y:Int)+1):=
 A.lp x.2.2.1 (fun f (s:List Sp) i=>F.aP H a0 (y:Int) x f s i) (fun k t s=>H (s++(insS g d x.1 k t++outS x (iget d (y:Int)))) ((y:Int)+1)) (fun k s=>s.length≤1000+k)
  (fun f s hs=>by
   rw[F.aP,if_neg (by omega),insS,W8,outS,A.lt,I y x O]
   simp only[F.bX,A.gd1 (A.r64n (n:=y) (by omega))]
   by_cases h:x.2.1≠15
   ·rw[if_pos h,if_pos h,A.gd1 (by simp only[Qh,Qx];omega)]
   ·rw[if_neg h,if_neg h,Wl])
  (fun f s k z J hk hs ih=>by
   have h1:=W z (Qg J)
   rw[F.aP,if_pos (by omega),A.ixn J,Qa,A.lt,I.in h1,A.gd1 (by simp only[Qh,Qx];omega),A.gd1 (A.r64n (by omega)),ih _ (by simp only[Qm,Qh,Qx];omega),insS]
   simp only[We,X0,Xv,W8])
  (by have:=Qab;omega) xs (by omega)
theorem Qhj (g:List Nd)(d:List Int)(a0:(List (Int×Nd))×(List Int)×(List (Int×Int)))(J:Few g)(hfed:Fed g)(O:Own g)(W:RelD g d a0.2.2):F.bv a0 g=some (spots g d):=by
 have hlen:=J.1
 have loop:=A.lp g (fun f (s:List Sp) i=>F.aI a0 g f s i) (fun k t s=>some (s++spotsF g d k t)) (fun k s=>s.length≤3*k)
  (fun f s Y=>by rw[F.aI,if_neg (by omega),spotsF,Wl])
  (fun f s k x I hk Y ih=>by
   have H:=Qg I
   have h2:=in2 O H
   have h3:=Qga x (iget d (k:Int))
   rw[F.aI,if_pos (by omega),A.ixn I,Qa,spots_l2P g d a0 _ k x s W I h2 (hfed x H) (by omega) (by omega),ih _ (by rw[Qm,Qm,Qcz];omega),spotsF]
   simp only[We])
  (by have:=Qab;omega) [] (by simp)
 unfold F.bv
 rw[loop];rfl
theorem spots_l2R (g:List Nd)(d:List Int)(H:List Sp→Int→Option (List Sp))(y:Nat)(x:Nd)(xs:List Sp)(J:g.length≤100)(hd:d.length=g.length)(O:g[y]?=some x)(hl:x.2.2.1.length≤2)(W: ∀k∈x.2.2.1,0≤idx g k)(Y:xs.length≤1000)(hy:y≤100):
  F.ca H g d (y:Int) x A.FU xs 0=H (xs++(insS g d x.1 0 x.2.2.1++outS x (iget d (y:Int)))) ((y:Int)+1):=
 A.lp x.2.2.1 (fun f (s:List Sp) i=>F.ca H g d (y:Int) x f s i) (fun k t s=>H (s++(insS g d x.1 k t++outS x (iget d (y:Int)))) ((y:Int)+1)) (fun k s=>s.length≤1000+k)
  (fun f s hs=>by
   have hyl:=(Qc.1 O).1
   rw[F.ca,if_neg (by omega),insS,W8,outS]
   simp only[F.dm,A.gd1 (A.r64n (n:=y) (by omega))]
   by_cases h:x.2.1≠15
   ·rw[if_pos h,if_pos h,iix (by omega) (by omega),Qa,A.gd1 (by simp only[Qh,Qx];omega)]
   ·rw[if_neg h,if_neg h,Wl])
  (fun f s k z I hk hs ih=>by
   have h1:=W z (Qg I)
   have h2:=(idx_le g z).2
   rw[F.ca,if_pos (by omega),A.ixn I,Qa,Qbj g z J,Qa,iix h1 (by omega),Qa,A.gd1 (by simp only[Qh,Qx];omega),A.gd1 (A.r64n (by omega)),ih _ (by simp only[Qm,Qh,Qx];omega),insS]
   simp only[We,X0,Xv,W8])
  (by have:=Qab;omega) xs (by omega)
theorem Qgr (g:List Nd)(d:List Int)(J:Few g)(hfed:Fed g)(O:Own g)(W:d.length=g.length):F.dY g d=some (spots g d):=by
 have hlen:=J.1
 have loop:=A.lp g (fun f (s:List Sp) i=>F.bL g d f s i) (fun k t s=>some (s++spotsF g d k t)) (fun k s=>s.length≤3*k)
  (fun f s Y=>by rw[F.bL,A.ba,if_neg (by simp),spotsF,Wl])
  (fun f s k x I hk Y ih=>by
   have H:=Qg I
   have h2:=in2 O H
   have h3:=Qga x (iget d (k:Int))
   rw[F.bL,A.ba,if_pos (by simp only[decide_eq_true_eq];omega),A.ixn I,Qa,spots_l2R g d _ k x s (by omega) W I h2 (hfed x H) (by omega) (by omega),ih _ (by rw[Qm,Qm,Qcz];omega),spotsF]
   simp only[We])
  (by have:=Qab;omega) [] (by simp)
 unfold F.dY
 rw[loop];rfl
abbrev Ed:=Pl×Pl×Sm
theorem five {P:Int→Prop}(H:P 0)(I:P 1)(J:P 2)(O:P 3)(W:P 4)(d:Int)(Y:0≤d∧d≤4):P d:=by
 have:d=0∨d=1∨d=2∨d=3∨d=4:=by omega
 rcases this with rfl|rfl|rfl|rfl|rfl<;>assumption
theorem Id_eqP (d:Int)(H:0≤d∧d≤4):F.c9 d=some (idP d):=five (P:=fun d=>F.c9 d=some (idP d)) (by kernel_rfl) (by kernel_rfl) (by kernel_rfl) (by kernel_rfl) (by kernel_rfl) d H
theorem Enter_eqP (d:Int)(H:0≤d∧d≤4):F.d6 d=some (Qap d):=five (P:=fun d=>F.d6 d=some (Qap d)) (by kernel_rfl) (by kernel_rfl) (by kernel_rfl) (by kernel_rfl) (by kernel_rfl) d H
theorem Leave_eqP (d:Int)(H:0≤d∧d≤4):F.d7 d=some (Qas d):=five (P:=fun d=>F.d7 d=some (Qas d)) (by kernel_rfl) (by kernel_rfl) (by kernel_rfl) (by kernel_rfl) (by kernel_rfl) d H
theorem Next_eqP (d:Int)(H:0≤d∧d≤4):F.ej d=some (Qci d):=five (P:=fun d=>F.ej d=some (Qci d)) (by kernel_rfl) (by kernel_rfl) (by kernel_rfl) (by kernel_rfl) (by kernel_rfl) d H
theorem Id_eqR (d:Int)(H:0≤d∧d≤4):F.ek d=some (idP d):=five (P:=fun d=>F.ek d=some (idP d)) (by kernel_rfl) (by kernel_rfl) (by kernel_rfl) (by kernel_rfl) (by kernel_rfl) d H
theorem Enter_eqR (d:Int)(H:0≤d∧d≤4):F.el d=some (Qap d):=five (P:=fun d=>F.el d=some (Qap d)) (by kernel_rfl) (by kernel_rfl) (by kernel_rfl) (by kernel_rfl) (by kernel_rfl) d H
theorem Leave_eqR (d:Int)(H:0≤d∧d≤4):F.em d=some (Qas d):=five (P:=fun d=>F.em d=some (Qas d)) (by kernel_rfl) (by kernel_rfl) (by kernel_rfl) (by kernel_rfl) (by kernel_rfl) d H
theorem Next_eqR (d:Int)(H:0≤d∧d≤4):F.eu d=some (Qci d):=five (P:=fun d=>F.eu d=some (Qci d)) (by kernel_rfl) (by kernel_rfl) (by kernel_rfl) (by kernel_rfl) (by kernel_rfl) d H
theorem within_eqP (n:Nd)(d:Int)(H:0≤d∧d≤4):F.cK n d=some (Qaj n d):=by
 unfold F.cK Qaj
 simp only[Id_eqP d H,Enter_eqP d H,Leave_eqP d H,Next_eqP d H,Qa,F.bJ]
 repeat' split
 all_goals rfl
theorem within_eqR (n:Nd)(d:Int)(H:0≤d∧d≤4):F.dJ n d=some (Qaj n d):=by
 unfold F.dJ Qaj
 simp only[Id_eqR d H,Enter_eqR d H,Leave_eqR d H,Next_eqR d H,Qa,F.cj]
 repeat' split
 all_goals rfl
def useN (id nd:Int):Nat→List Int→List Pl
 |_,[]=>[]
 |k,z::r=>if z=id then(nd,(k:Int))::useN id nd (k+1) r else useN id nd (k+1) r
def Qar (id:Int):List Nd→List Pl
 | []=>[]
 |n::r=>useN id n.1 0 n.2.2.1++Qar id r
theorem Qdb (id nd:Int): ∀(k:Nat) (l:List Int),(useN id nd k l).length≤l.length
 |_,[]=>Q1 0
 |k,z::r=>by
  unfold useN
  have:=Qdb id nd (k+1) r
  split<;>simp only[Qh]<;>omega
theorem Qax (id:Int): ∀(l:List Nd),(∀n∈l,n.2.2.1.length≤2)→(Qar id l).length≤2*l.length
 | [],_=>Q1 0
 |n::r,h=>by
  unfold Qar
  have I:=Qax id r fun x H=>h x (Qe _ H)
  have J:=Qdb id n.1 0 n.2.2.1
  have O:=h n (Qf ..)
  rw[Qm,Qh];omega
theorem Values_eq (g:List Nd)(J:g.length≤100):F.aK g=some g:=
 A.lp0 g (fun f y=>F.y g f y) (fun _ l=>some l)
  (fun f=>by rw[F.y,if_neg (by omega)])
  (fun f k x H hk I=>by rw[F.y,if_pos (by omega),A.ixn H,Qa,A.gd1 (A.r64n (by omega)),I];rfl)
  (by have:=Qab;omega)
theorem users_l2 (id:Int)(n:Nd)(H:List Pl→Option (List Pl))(xs:List Pl)(Y:n.2.2.1.length≤2)(J:xs.length≤1000):F.a6 H id n A.FU xs 0=H (xs++useN id n.1 0 n.2.2.1):=
 A.lp n.2.2.1 (fun f (s:List Pl) i=>F.a6 H id n f s i) (fun k t s=>H (s++useN id n.1 k t)) (fun k s=>s.length≤1000+k)
  (fun f s O=>by rw[F.a6,if_neg (by omega),useN,Wl])
  (fun f s k z W hk O I=>by
   rw[F.a6,if_pos (by omega),A.ixn W,Qa,useN]
   simp only[F.cJ,A.gd1 (A.r64n (n:=k) (by omega))]
   by_cases h:z=id
   ·rw[if_pos h,if_pos h,A.gd1 (by simp only[Qh,Qx];omega),I _ (by simp only[Qm,Qh,Qx];omega)]
    simp only[We,X0,Xv,W8]
   ·rw[if_neg h,if_neg h,I _ (by omega)])
  (by have:=Qab;omega) xs (by omega)
theorem users_l3 (id:Int): ∀(l:List Nd) (xs:List Pl),(∀n∈l,n.2.2.1.length≤2)→xs.length+2*l.length≤900→F.a7 id l xs=some (xs++Qar id l)
 | [],xs,_,_=>by rw[F.a7,Qar,Wl]
 |n::r,xs,h,H=>by
  have I:=h n (Qf ..)
  have J:=Qdb id n.1 0 n.2.2.1
  rw[Qh]at H
  rw[F.a7,users_l2 id n _ xs I (by omega),users_l3 id r _ (fun x H=>h x (Qe _ H)) (by rw[Qm];omega),Qar,We]
theorem users_eq (g:List Nd)(id:Int)(H:Few g)(I: ∀n∈g,n.2.2.1.length≤2):F.dN g id=some (Qar id g):=by
 have:=H.1
 unfold F.dN F.a4
 rw[Qa,Values_eq g (by omega),Qa,users_l3 id g [] I (by simp;omega)];rfl
def inE (g:List Nd)(d:List Int)(n:Nd):Nat→List Int→List Ed
 |_,[]=>[]
 |k,z::r=>((n.1,(k:Int)),(n.1,2),Qaj n (iget d (idx g z)))::inE g d n (k+1) r
def outE (g:List Nd)(n:Nd)(v:Int):List Ed:=(Qar n.1 g).map fun u=>((n.1,2),u,(idP v).1)
def edgesF (g:List Nd)(d:List Int):Nat→List Nd→List Ed
 |_,[]=>[]
 |i,n::r=>if n.2.1=15 then edgesF g d (i+1) r else inE g d n 0 n.2.2.1++(outE g n (iget d (i:Int))++edgesF g d (i+1) r)
def edges (g:List Nd)(d:List Int):List Ed:=edgesF g d 0 g
theorem Qfu (g:List Nd)(d:List Int)(n:Nd): ∀(k:Nat) (l:List Int),(inE g d n k l).length=l.length
 |_,[]=>rfl
 |k,x::r=>by unfold inE;rw[Qh,Qh,Qfu g d n (k+1) r]
theorem edges_l2P (k30:List Ed→Int→Option (List Ed))(y:Nat)(n:Nd)(s:Sm)(us:List Pl)(xs:List Ed)(W:y≤100)(Y:us.length≤1000)(H:xs.length≤10000):
  F.aJ k30 (y:Int) n s.1 s.2.1 s.2.2.1 s.2.2.2.1 s.2.2.2.2.1 s.2.2.2.2.2.1 s.2.2.2.2.2.2.1 s.2.2.2.2.2.2.2 us A.FU xs 0=k30 (xs++us.map fun u=>((n.1,2),u,s)) ((y:Int)+1):=
 A.lp us (fun f (t:List Ed) i=>F.aJ k30 (y:Int) n s.1 s.2.1 s.2.2.1 s.2.2.2.1 s.2.2.2.2.1 s.2.2.2.2.2.1 s.2.2.2.2.2.2.1 s.2.2.2.2.2.2.2 us f t i) (fun k t e=>k30 (e++t.map fun u=>((n.1,2),u,s)) ((y:Int)+1)) (fun k t=>t.length≤10000+k)
  (fun f t I=>by rw[F.aJ,if_neg (by omega),F.bi,A.gd1 (A.r64n (by omega)),Xr,Wl])
  (fun f t k z J hk I O=>by
   rw[F.aJ,if_pos (by omega),A.ixn J,Qa,A.gd1 (by simp only[Qh,Qx];omega),A.gd1 (A.r64n (by omega)),O _ (by simp only[Qm,Qh,Qx];omega)]
   simp only[We,X0,Xv,W8,Q3])
  (by have:=Qab;omega) xs (by omega)
theorem edges_l4P (g:List Nd)(d:List Int)(a0:(List (Int×Nd))×(List Int)×(List (Int×Int)))(k30:List Ed→Int→Option (List Ed))(y:Nat)(n:Nd)(xs:List Ed)(W:Few g)(H:Own g)(I:InB d)(Y:RelD g d a0.2.2)(J:g[y]?=some n)(hf: ∀k∈n.2.2.1,0≤idx g k)(hxs:xs.length≤9000):
  F.aQ k30 a0 g (y:Int) n A.FU xs 0=k30 (xs++(inE g d n 0 n.2.2.1++outE g n (iget d (y:Int)))) ((y:Int)+1):=
 A.lp n.2.2.1 (fun f (t:List Ed) i=>F.aQ k30 a0 g (y:Int) n f t i) (fun k t e=>k30 (e++(inE g d n k t++outE g n (iget d (y:Int)))) ((y:Int)+1)) (fun k t=>t.length≤9000+k)
  (fun f t ht=>by
   have hlen:=W.1
   have hyl:=(Qc.1 J).1
   have h2:=in2 H (Qg J)
   have hu:=Qax n.1 g fun x O=>in2 H O
   rw[F.aQ,if_neg (by omega),A.lt,Y y n J,Id_eqP _ (I _),Qa,F.cy,users_eq g n.1 W (fun x O=>in2 H O),Qa,
    show F.aJ k30 (y:Int) n _ _ _ _ _ _ _ _ (Qar n.1 g) A.FU t 0=_ from edges_l2P k30 y n (idP (iget d (y:Int))).1 (Qar n.1 g) t (by omega) (by omega) (by omega),inE,W8]
   rfl)
  (fun f t k z hz hk ht ih=>by
   have h1:=hf z (Qg hz)
   have h2:=in2 H (Qg J)
   rw[F.aQ,if_pos (by omega),A.ixn hz,Qa,A.lt,Y.in h1,show F.cK n _=_ from within_eqP n _ (I _),Qa,A.gd1 (by simp only[Qh,Qx];omega),A.gd1 (A.r64n (by omega)),ih _ (by simp only[Qm,Qh,Qx];omega),inE]
   simp only[We,X0,Xv,W8])
  (by have:=Qab;have:=in2 H (Qg J);omega) xs (by omega)
theorem Qhn (g:List Nd)(d:List Int)(a0:(List (Int×Nd))×(List Int)×(List (Int×Int)))(W:Few g)(hfed:Fed g)(J:Own g)(O:InB d)(hr:RelD g d a0.2.2):F.ba a0 g=some (edges g d):=by
 have hlen:=W.1
 have loop:=A.lp g (fun f (s:List Ed) i=>F.ak a0 g f s i) (fun k t s=>some (s++edgesF g d k t)) (fun k s=>s.length≤83*k)
  (fun f s hs=>by rw[F.ak,if_neg (by omega),edgesF,Wl])
  (fun f s k x H hk hs Y=>by
   have I:=Qg H
   have h2:=in2 J I
   have hu:=Qax x.1 g fun x H=>in2 J H
   rw[F.ak,if_pos (by omega),A.ixn H,Qa,edgesF]
   by_cases h:x.2.1=15
   ·rw[if_pos h,if_pos h,F.bi,A.gd1 (A.r64n (by omega)),Y _ (by omega)]
   ·rw[if_neg h,if_neg h,edges_l4P g d a0 _ k x s W J O hr H (hfed x I) (by omega),Y _ (by rw[Qm,Qm,Qfu,outE,Qw];omega)]
    simp only[We])
  (by have:=Qab;omega) [] (by simp)
 unfold F.ba
 rw[loop];rfl
theorem Find_eq (g:List Nd)(I:Few g){j:Nat}{n:Nd}(J:Inc g)(H:g[j]?=some n):F.ee g n.1=some (n,true):=by
 have:=I.1
 have O:=I.in H
 unfold F.ee
 rw[Qbj g _ (by omega),Qa,J.idx H,if_neg (by omega),A.ixn H,Qa,A.gd1 (by simp only[Qx];omega)]
 rfl
theorem edges_l4R (g:List Nd)(k37:List Ed→Int→Option (List Ed))(sp:Sp)(r18:Nd×Bool)(r59:Sm×Int)(j:Nat)(m:Nd)(xs:List Ed)(hg:g.length≤100)(H:g[j]?=some m)(hl:m.2.2.1.length≤2)(J:xs.length≤20000):
  F.bl k37 g sp r18 r59 (j:Int) A.FU xs 0=k37 (xs++(useN r18.1.1 m.1 0 m.2.2.1).map fun u=>(sp.1,u,r59.1)) ((j:Int)+1):=
 A.lp m.2.2.1 (fun f (t:List Ed) i=>F.bl k37 g sp r18 r59 (j:Int) f t i) (fun k t e=>k37 (e++(useN r18.1.1 m.1 k t).map fun u=>(sp.1,u,r59.1)) ((j:Int)+1)) (fun k t=>t.length≤20000+k)
  (fun f t O=>by
   have W:=(Qc.1 H).1
   rw[F.bl,A.ixn H,Qa,if_neg (by omega),A.gd1 (A.r64n (by omega)),useN,Xr,Wl])
  (fun f t k z Y hk O I=>by
   rw[F.bl,A.ixn H,Qa,if_pos (by omega),Qa,A.ixn Y,Qa,useN]
   simp only[F.dp,A.gd1 (A.r64n (n:=k) (by omega)),Qa]
   by_cases h:z=r18.1.1
   ·rw[if_pos h,if_pos h,A.gd1 (by simp only[Qh,Qx];omega),I _ (by simp only[Qm,Qh,Qx];omega)]
    simp only[We,X0,Xv,W8,Q3]
   ·rw[if_neg h,if_neg h,I _ (by omega)])
  (by have:=Qab;omega) xs (by omega)
theorem edges_l5R (g:List Nd)(k30:List Ed→Int→Option (List Ed))(y:Nat)(sp:Sp)(r18:Nd×Bool)(r59:Sm×Int)(xs:List Ed)(H:Few g)(J:Own g)(O:xs.length≤15000)(hy:y≤1000):
  F.bm k30 g (y:Int) sp r18 r59 A.FU xs 0=k30 (xs++(Qar r18.1.1 g).map fun u=>(sp.1,u,r59.1)) ((y:Int)+1):=
 A.lp g (fun f (t:List Ed) i=>F.bm k30 g (y:Int) sp r18 r59 f t i) (fun k t e=>k30 (e++(Qar r18.1.1 t).map fun u=>(sp.1,u,r59.1)) ((y:Int)+1)) (fun k t=>t.length≤15000+2*k)
  (fun f t W=>by rw[F.bm,if_neg (by omega),F.cN,A.gd1 (A.r64n (by omega)),Qar,Xr,Wl])
  (fun f t k m I hk W Y=>by
   have hlen:=H.1
   have h2:=in2 J (Qg I)
   have h3:=Qdb r18.1.1 m.1 0 m.2.2.1
   rw[F.bm,if_pos (by omega),edges_l4R g _ sp r18 r59 k m t (by omega) I h2 (by omega),Y _ (by rw[Qm,Qw];omega),Qar,Yf,We])
  (by have:=Qab;have:=H.1;omega) xs (by omega)
def edOf (g:List Nd)(sp:Sp):List Ed:=if sp.1.2≠2 then(if(find g sp.1.1).1.2.1≠15 then [(sp.1,((find g sp.1.1).1.1,2),Qaj (find g sp.1.1).1 sp.2)]else [])else(Qar (find g sp.1.1).1.1 g).map fun u=>(sp.1,u,(idP sp.2).1)
def edS (g:List Nd):List Sp→List Ed
 | []=>[]
 |sp::r=>edOf g sp++edS g r
def SpOk (g:List Nd)(sp:Sp):Prop:=(∃(j:Nat) (n:Nd),g[j]?=some n∧n.1=sp.1.1)∧0≤sp.2∧sp.2≤4
theorem Qdp {g:List Nd}(I:Inc g){j:Nat}{n:Nd}(H:g[j]?=some n):find g n.1=(n,true):=by
 unfold find
 rw[I.idx H,if_neg (by omega),Qav rfl H]
theorem edgesR_l6 (g:List Nd)(l:List Sp)(W:Few g)(hi:Inc g)(ho:Own g)(hl:l.length≤130)(hs: ∀sp∈l,SpOk g sp):F.dq g l=some (edS g l):=by
 have hlen:=W.1
 have loop:=A.lp l (fun f (s:List Ed) i=>F.aM g l f s i) (fun k t s=>some (s++edS g t)) (fun k s=>s.length≤83*k)
  (fun f s hs=>by rw[F.aM,if_neg (by omega),edS,Wl])
  (fun f s k x J hk hp Y=>by
   obtain⟨⟨j,n,hn,I⟩,hd⟩:=hs x (Qg J)
   have hu:=Qax n.1 g fun x J=>in2 ho J
   rw[F.aM,if_pos (by omega),A.ixn J,Qa,←I,Find_eq g W hi hn,Qa,edS,edOf,←I,Qdp hi hn]
   simp only[F.dn,F.cN,A.gd1 (A.r64n (n:=k) (by omega)),Qa]
   by_cases O:x.1.2≠2
   ·rw[if_pos O,if_pos O]
    by_cases H:n.2.1≠15
    ·rw[if_pos H,if_pos H,show F.dJ n x.2=_ from within_eqR n x.2 hd,Qa,A.gd1 (by simp only[Qh,Qx];omega),Y _ (by simp only[Qm,Qh,Qx];omega),I]
     simp only[We]
    ·rw[if_neg H,if_neg H,Y _ (by omega),W8]
   ·rw[if_neg O,if_neg O,Id_eqR x.2 hd,Qa,edges_l5R g _ k x (n,true) (idP x.2) s W ho (by omega) (by omega),Y _ (by rw[Qm,Qw];show s.length+(Qar n.1 g).length≤_;omega),We])
  (by have:=Qab;omega) [] (by simp)
 unfold F.dq
 rw[loop];rfl
theorem Qiw (g:List Nd): ∀(a b:List Sp),edS g (a++b)=edS g a++edS g b
 | [],_=>rfl
 |x::a,b=>by rw[Xv,edS,edS,Qiw g a b,We]
theorem edS_ins {g:List Nd}(I:Inc g)(d:List Int){j:Nat}{n:Nd}(J:g[j]?=some n): ∀(k:Nat) (l:List Int),k+l.length≤2→edS g (insS g d n.1 k l)=if n.2.1=15 then []else inE g d n k l
 |k,[],_=>by unfold insS inE edS;split<;>rfl
 |k,z::r,h=>by
  rw[Qh]at h
  have O:((k:Int):Int)≠2:=by omega
  unfold insS inE
  rw[edS,edS_ins I d J (k+1) r (by omega),edOf]
  simp only[Qdp I J]
  rw[if_pos O]
  by_cases H:n.2.1=15
  ·simp[H]
  ·rw[if_neg H,if_neg H,if_pos H];rfl
theorem Qhw {g:List Nd}(J:Inc g)(O:Own g)(d:List Int): ∀(m k:Nat),k+m=g.length→edS g (spotsF g d k (g.drop k))=edgesF g d k (g.drop k)
 |0,k,h=>by rw[Q2 (by omega)];rfl
 |m+1,k,h=>by
  have I:g[k]?=some g[k]:=Qd (by omega)
  generalize g[k]=x at I
  have W:=in2 O (Qg I)
  rw[A.dropx I,spotsF,edgesF,Qiw,Qiw,Qhw J O d m (k+1) (by omega),edS_ins J d I 0 _ (by omega)]
  by_cases H:x.2.1=15
  ·rw[if_pos H,if_pos H,outS,if_neg (fun h=>h H),edS];rfl
  ·rw[if_neg H,if_neg H,outS,if_pos H,edS,edOf]
   simp only[Qdp J I]
   rw[if_neg (fun h=>h rfl),edS,Wl];rfl
theorem o_bK {g:List Nd}{d:List Int}(H:InB d){j:Nat}{n:Nd}(I:g[j]?=some n): ∀(k:Nat) (l:List Int),∀sp∈insS g d n.1 k l,SpOk g sp
 |_,[],sp,h=>by cases h
 |k,z::r,sp,h=>by
  unfold insS at h
  rcases Qk.1 h with rfl|h
  ·exact⟨⟨j,n,I,rfl⟩,H _⟩
  ·exact o_bK H I (k+1) r sp h
theorem o_aY {g:List Nd}{d:List Int}(I:InB d): ∀(m k:Nat),k+m=g.length→∀sp∈spotsF g d k (g.drop k),SpOk g sp
 |0,k,h,sp,H=>by rw[Q2 (by omega)]at H;cases H
 |m+1,k,h,sp,H=>by
  have J:g[k]?=some g[k]:=Qd (by omega)
  generalize g[k]=x at J
  rw[A.dropx J,spotsF]at H
  rcases Qn.1 H with H|H
  ·exact o_bK I J 0 _ sp H
  ·rcases Qn.1 H with H|H
   ·unfold outS at H
    split at H
    ·rw[Qj]at H;subst H;exact⟨⟨k,x,J,rfl⟩,I _⟩
    ·cases H
   ·exact o_aY I m (k+1) (by omega) sp H
theorem Qce {g:List Nd}(I:Own g)(d:List Int): ∀(m k:Nat),k+m=g.length→(spotsF g d k (g.drop k)).length≤3*m
 |0,k,h=>by rw[Q2 (by omega)];exact Q1 0
 |m+1,k,h=>by
  have H:g[k]?=some g[k]:=Qd (by omega)
  generalize g[k]=x at H
  have J:=in2 I (Qg H)
  have O:=Qga x (iget d (k:Int))
  have W:=Qce I d m (k+1) (by omega)
  rw[A.dropx H,spotsF,Qm,Qm,Qcz];omega
theorem Qhz (g:List Nd)(d:List Int)(J:Few g)(O:Inc g)(H:Own g)(I:InB d):F.dq g (spots g d)=some (edges g d):=by
 have h1:=Qce H d g.length 0 (by omega)
 have W:=o_aY (d:=d) (g:=g) I g.length 0 (by omega)
 have Y:=Qhw O H d g.length 0 (by omega)
 rw[Wa]at h1 W Y
 have:=J.1
 rw[edgesR_l6 g (spots g d) J O H (by unfold spots;omega) W]
 exact congrArg some Y
inductive Rch {α:Type} (R:α→α→Prop) (a:α):α→Prop
 |one {b:α} (h:R a b):Rch R a b
 |step {b c:α} (h:Rch R a b) (h2:R b c):Rch R a c
theorem Qdx (g:List Nd)(d:List Int)(id:Int): ∀(k:Nat) (l:List Int) (p:Pl) (v:Int),(p,v)∈insS g d id k l→p.1=id∧(k:Int)≤p.2∧p.2<(k:Int)+l.length
 |_,[],_,_,h=>by cases h
 |k,z::r,p,v,h=>by
  unfold insS at h
  rw[Qh]
  rcases Qk.1 h with h|h
  ·injection h with H I;subst H;refine⟨rfl,Xi _,?_⟩;simp only[];omega
  ·have:=Qdx g d id (k+1) r p v h;omega
theorem Qei (g:List Nd)(d:List Int)(id:Int): ∀(k:Nat) (l:List Int),((insS g d id k l).map (·.1)).Nodup
 |_,[]=>X5
 |k,z::r=>by
  unfold insS
  rw[Q3,Wk]
  refine⟨fun h=>?_,Qei g d id (k+1) r⟩
  obtain⟨⟨p,v⟩,I,H⟩:=Qv.1 h
  have:=Qdx g d id (k+1) r p v I
  simp only[]at H
  rw[H]at this;simp only[]at this;omega
theorem Qez {g:List Nd}(d:List Int): ∀(k:Nat) (l:List Nd) (sp:Sp),sp∈spotsF g d k l→∃n∈l,n.1=sp.1.1
 |_,[],_,h=>by cases h
 |k,n::r,sp,h=>by
  unfold spotsF at h
  rcases Qn.1 h with h|h
  ·exact⟨n,Qf ..,(Qdx g d n.1 0 _ sp.1 sp.2 h).1.symm⟩
  ·rcases Qn.1 h with h|h
   ·unfold outS at h
    split at h
    ·rw[Qj]at h;subst h;exact⟨n,Qf ..,rfl⟩
    ·cases h
   ·obtain⟨m,H,I⟩:=Qez d (k+1) r sp h
    exact⟨m,Qe _ H,I⟩
theorem Qcq {g:List Nd}(d:List Int): ∀(k:Nat) (l:List Nd),l.Pairwise (fun a b=>a.1<b.1)→(∀n∈l,n.2.2.1.length≤2)→((spotsF g d k l).map (·.1)).Nodup
 |_,[],_,_=>X5
 |k,n::r,hp,hl=>by
  rw[Wv]at hp
  have h2:=hl n (Qf ..)
  unfold spotsF
  rw[Yf,Wz,Yf,Wz]
  have hrest: ∀p∈(spotsF g d (k+1) r).map (·.1),p.1≠n.1:=fun p H e=>by
   obtain⟨sp,O,rfl⟩:=Qv.1 H
   obtain⟨m,I,h4⟩:=Qez d (k+1) r sp O
   have:=hp.1 m I;omega
  have hout: ∀p∈(outS n (iget d (k:Int))).map (·.1),p=(n.1,2):=fun p H=>by
   unfold outS at H
   split at H
   ·simpa using H
   ·cases H
  have W: ∀p∈(insS g d n.1 0 n.2.2.1).map (·.1),p.1=n.1∧p.2<2:=fun p H=>by
   obtain⟨⟨q,v⟩,O,rfl⟩:=Qv.1 H
   have:=Qdx g d n.1 0 _ q v O
   simp only[];omega
  refine⟨Qei g d n.1 0 _,⟨?_,Qcq d (k+1) r hp.2 (fun x hx=>hl x (Qe _ hx)),?_⟩,?_⟩
  ·unfold outS;split<;>simp
  ·intro a Y b J e
   have I:=hout a Y
   subst e
   exact hrest a J (by rw[I])
  ·intro a Y b J e
   subst e
   have I:=W a Y
   rcases Qn.1 J with J|J
   ·have:=hout a J;rw[this]at I;simp only[]at I;omega
   ·exact hrest a J I.1
theorem useN_mem (id nd:Int): ∀(k:Nat) (l:List Int) (u:Pl),u∈useN id nd k l→u.1=nd∧∃j:Nat,u.2=(k:Int)+j∧j<l.length
 |_,[],u,h=>by cases h
 |k,z::r,u,h=>by
  unfold useN at h
  have hrec:u∈useN id nd (k+1) r→u.1=nd∧∃j:Nat,u.2=(k:Int)+j∧j<(z::r).length:=fun h=>by
   obtain⟨H,j,I,J⟩:=useN_mem id nd (k+1) r u h
   exact⟨H,j+1,by omega,by rw[Qh];omega⟩
  split at h
  ·rcases Qk.1 h with rfl|h
   ·exact⟨rfl,0,by simp,by rw[Qh];omega⟩
   ·exact hrec h
  ·exact hrec h
theorem insS_get (g:List Nd)(d:List Int)(id:Int): ∀(k:Nat) (l:List Int) (j:Nat),j<l.length→∃v,((id,(k:Int)+j),v)∈insS g d id k l
 |_,[],j,h=>by simp at h
 |k,z::r,j,h=>by
  unfold insS
  cases j with
  |zero=>exact⟨iget d (idx g z),by simp⟩
  |succ j=>
   rw[Qh]at h
   obtain⟨v,H⟩:=insS_get g d id (k+1) r j (by omega)
   refine⟨v,Qe _ ?_⟩
   have e:(k:Int)+((j+1:Nat):Int)=((k+1:Nat):Int)+(j:Int):=by omega
   rw[e];exact H
theorem Qay {g:List Nd}(d:List Int): ∀(k:Nat) (l:List Nd) (n:Nd),n∈l→∀sp∈insS g d n.1 0 n.2.2.1,sp∈spotsF g d k l
 |_,[],_,h,_,_=>by cases h
 |k,m::r,n,h,sp,H=>by
  unfold spotsF
  rcases Qk.1 h with rfl|h
  ·exact Q6 _ H
  ·exact Q8 _ (Q8 _ (Qay d (k+1) r n h sp H))
theorem Qfb {g:List Nd}(d:List Int): ∀(k:Nat) (l:List Nd) (n:Nd),n∈l→n.2.1≠15→∃v,((n.1,2),v)∈spotsF g d k l
 |_,[],_,h,_=>by cases h
 |k,m::r,n,h,H=>by
  unfold spotsF
  rcases Qk.1 h with rfl|h
  ·exact⟨iget d (k:Int),Q8 _ (Q6 _ (by unfold outS;rw[if_pos H];simp))⟩
  ·obtain⟨v,I⟩:=Qfb d (k+1) r n h H
   exact⟨v,Q8 _ (Q8 _ I)⟩
theorem Qia (id:Int): ∀(l:List Nd) (u:Pl),u∈Qar id l→∃n∈l,u.1=n.1∧∃j:Nat,u.2=(j:Int)∧j<n.2.2.1.length
 | [],u,h=>by cases h
 |n::r,u,h=>by
  unfold Qar at h
  rcases Qn.1 h with h|h
  ·obtain⟨H,j,I,J⟩:=useN_mem id n.1 0 _ u h
   exact⟨n,Qf ..,H,j,by omega,J⟩
  ·obtain⟨m,H,I⟩:=Qia id r u h
   exact⟨m,Qe _ H,I⟩
theorem inE_mem (g:List Nd)(d:List Int)(n:Nd): ∀(k:Nat) (l:List Int) (e:Ed),e∈inE g d n k l→e.1.1=n.1∧(k:Int)≤e.1.2∧e.1.2<(k:Int)+l.length∧e.2.1=(n.1,2)
 |_,[],_,h=>by cases h
 |k,z::r,e,h=>by
  unfold inE at h
  rw[Qh]
  rcases Qk.1 h with rfl|h
  ·refine⟨rfl,Xi _,?_,rfl⟩;simp only[];omega
  ·have:=inE_mem g d n (k+1) r e h
   refine⟨this.1,by omega,by omega,this.2.2.2⟩
theorem Qbh {g:List Nd}(d:List Int): ∀(k:Nat) (l:List Nd) (e:Ed),e∈edgesF g d k l→∃n∈l,e.1.1=n.1∧((n.2.1≠15∧e.2.1=(n.1,2)∧0≤e.1.2∧e.1.2<n.2.2.1.length)∨(e.1.2=2∧∃m∈g,e.2.1.1=m.1∧∃j:Nat,e.2.1.2=(j:Int)∧j<m.2.2.1.length))
 |_,[],_,h=>by cases h
 |k,n::r,e,h=>by
  unfold edgesF at h
  have hrec:e∈edgesF g d (k+1) r→∃m∈n::r,e.1.1=m.1∧((m.2.1≠15∧e.2.1=(m.1,2)∧0≤e.1.2∧e.1.2<m.2.2.1.length)∨(e.1.2=2∧∃q∈g,e.2.1.1=q.1∧∃j:Nat,e.2.1.2=(j:Int)∧j<q.2.2.1.length)):=fun h=>by
   obtain⟨m,H,I⟩:=Qbh d (k+1) r e h
   exact⟨m,Qe _ H,I⟩
  split at h
  ·exact hrec h
  ·rename_i J
   rcases Qn.1 h with h|h
   ·obtain⟨H,I,Y,O⟩:=inE_mem g d n 0 _ e h
    exact⟨n,Qf ..,H,.inl ⟨J,O,by omega,by omega⟩⟩
   ·rcases Qn.1 h with h|h
    ·unfold outE at h
     obtain⟨u,W,rfl⟩:=Qv.1 h
     obtain⟨m,H,I⟩:=Qia n.1 g u W
     exact⟨n,Qf ..,rfl,.inr ⟨rfl,m,H,I⟩⟩
    ·exact hrec h
theorem edge_to {g:List Nd}(d:List Int){e:Ed}(I:e∈edges g d): ∃v,(e.2.1,v)∈spots g d:=by
 obtain⟨n,J,h1,h|h⟩:=Qbh d 0 g e I
 ·obtain⟨v,H⟩:=Qfb d 0 g n J h.1
  exact⟨v,by rw[h.2.1];exact H⟩
 ·obtain⟨_,m,O,W,j,Y,h4⟩:=h
  obtain⟨v,H⟩:=insS_get g d m.1 0 m.2.2.1 j h4
  refine⟨v,Qay d 0 g m O _ ?_⟩
  have e1:e.2.1=(m.1,((0:Nat):Int)+(j:Int)):=Jr W (by rw[Y];simp)
  rw[e1];exact H
theorem Qgx {g:List Nd}(d:List Int){e:Ed}(H:e∈edges g d): ∃n∈g,e.1.1=n.1:=by
 obtain⟨n,I,J,_⟩:=Qbh d 0 g e H
 exact⟨n,I,J⟩
theorem edge_out {g:List Nd}(d:List Int)(H:Own g){e:Ed}(I:e∈edges g d)(Y:e.2.1.2=2):e.1.1=e.2.1.1∧e.1.2≠2:=by
 obtain⟨n,J,O,h|h⟩:=Qbh d 0 g e I
 ·have:=in2 H J
  exact⟨by rw[O,h.2.1],by omega⟩
 ·obtain⟨_,m,W,_,j,h3,h4⟩:=h
  have:=in2 H W
  omega
theorem atS_mem {p:Pl}: ∀{l:List Sp} {v:Int},(l.map (·.1)).Nodup→(p,v)∈l→atS p l=v
 | [],_,_,h=>by cases h
 |x::r,v,H,h=>by
  rw[Q3,Wk]at H
  unfold atS
  rcases Qk.1 h with rfl|h
  ·rw[if_pos rfl]
  ·rw[if_neg (fun e=>H.1 (by rw[e];exact List.mem_map_of_mem (f:=(·.1)) h))]
   exact atS_mem H.2 h
theorem R_at_eq (l:List Sp)(p:Pl)(J:l.length≤100000):F.eG l p=some (atS p l):=
 A.lp0 l (fun f y=>F.dy l p f y) (fun _ t=>some (atS p t))
  (fun f=>by rw[F.dy,if_neg (by omega)];rfl)
  (fun f k x H hk I=>by
   rw[F.dy,if_pos (by omega),A.ixn H,Qa,Qa,atS]
   by_cases h:x.1=p
   ·rw[if_pos (show x.1=p from h),if_pos h]
   ·rw[if_neg (show ¬x.1=p from h),if_neg h,A.gd1 (A.r64n (by omega)),I])
  (by have:=Qab;omega)
theorem R_on_eq (l:List Pl)(p:Pl)(O:l.length≤100000):F.ex l p=some (decide (p∈l)):=
 A.lp0 l (fun f y=>F.dx l p f y) (fun _ t=>some (decide (p∈t)))
  (fun f=>by rw[F.dx,if_neg (by omega)];simp)
  (fun f k x I hk J=>by
   rw[F.dx,if_pos (by omega),A.ixn I,Qa]
   by_cases h:x=p
   ·rw[if_pos (show x=p from h)];simp[h]
   ·rw[if_neg (show ¬x=p from h),A.gd1 (A.r64n (by omega)),J]
    congr 1
    exact decide_eq_decide.2 ⟨fun H=>Qe _ H,fun H=>(Qk.1 H).resolve_left fun e=>h e.symm⟩)
  (by have:=Qab;omega)
def Qbk (g:List Nd)(S:List Sp)(dd:Int)(e:Ed):Bool:=decide (dd≤atS e.2.1 S)&&(decide ((find g e.1.1).1.2.1≠14)||decide ((find g e.1.1).1.2.2.2.2.2.2≠dd)||decide (e.1.2=2))
theorem R_open_eq (g:List Nd)(S:List Sp)(e:Ed)(dd:Int)(J:Few g)(H:Inc g)(O:S.length≤100000)(W: ∃n∈g,e.1.1=n.1):F.ef g S e dd=some (Qbk g S dd e):=by
 obtain⟨n,Y,h1⟩:=W
 obtain⟨j,I⟩:=Wo.1 Y
 unfold F.ef Qbk
 rw[h1,Find_eq g J H I,Qa,show F.eG S e.2.1=_ from R_at_eq S e.2.1 O,Qa,Qdp H I]
 by_cases h:dd≤atS e.2.1 S
 ·rw[if_pos h,decide_eq_true h,Xm]
  congr 1
 ·rw[if_neg h,decide_eq_false h,Y1]
def addR (g:List Nd)(S:List Sp)(dd:Int)(cur:Pl):List Ed→List Pl→List Pl
 | [],r=>r
 |e::t,r=>addR g S dd cur t (if e.1=cur∧Qbk g S dd e=true∧e.2.1∉r then r++[e.2.1]else r)
theorem round_l3 (g:List Nd)(S:List Sp)(E:List Ed)(from_:Sp)(H:List Pl→List Pl→Int→Option Bool)(y:Nat)(cur:Pl)(r:List Pl)(hb:Few g)(hi:Inc g)(hS:S.length≤100000)(hE:E.length≤5000)(hf: ∀e∈E,∃n∈g,e.1.1=n.1)(hc:(from_.1::r)[y]?=some cur)(hy:y≤10000)(hr:r.length≤9000)(hall: ∀k,(addR g S from_.2 cur (E.take k) r).length≤9000):
  F.aW H g S E from_ (y:Int) A.FU r (from_.1::r) 0=H (addR g S from_.2 cur E r) (from_.1::addR g S from_.2 cur E r) ((y:Int)+1):=
 A.lp E (fun f (s:List Pl×List Pl) i=>F.aW H g S E from_ (y:Int) f s.1 s.2 i) (fun k t s=>H (addR g S from_.2 cur t s.1) (from_.1::addR g S from_.2 cur t s.1) ((y:Int)+1)) (fun k s=>s.2=from_.1::s.1∧s.2[y]?=some cur∧s.1=addR g S from_.2 cur (E.take k) r)
  (fun f s hs=>by
   rw[F.aW,if_neg (by omega),A.gd1 (A.r64n (by omega)),hs.1];rfl)
  (fun f s k e O hk hs ih=>by
   obtain⟨q,r'⟩:=s
   obtain⟨W,I,h3⟩:=hs
   simp only[]at W I h3
   have hlen:q.length≤9000:=by rw[h3];exact hall _
   have hsnoc: ∀(t:List Ed) (e:Ed) (r:List Pl),addR g S from_.2 cur (t++[e]) r=(if e.1=cur∧Qbk g S from_.2 e=true∧e.2.1∉addR g S from_.2 cur t r then addR g S from_.2 cur t r++[e.2.1]else addR g S from_.2 cur t r):=by
    intro t
    induction t with
    |nil=>intro e r;rfl
    |cons x t iht=>intro e r;rw[Xv,addR,addR];exact iht e _
   have hnext:addR g S from_.2 cur (E.take (k+1)) r=if e.1=cur∧Qbk g S from_.2 e=true∧e.2.1∉q then q++[e.2.1]else q:=by
    rw[Qcs O,hsnoc,←h3]
   have hopen:=R_open_eq g S e from_.2 hb hi hS (hf e (Qg O))
   rw[F.aW,if_pos (by omega),A.ixn O,Qa,A.ixn I,Qa,addR]
   simp only[F.cV,F.dz,A.ixn O,Qa,A.gd1 (A.r64n (n:=k) (by omega)),Qz,if_false]
   have stay: ¬(e.1=cur∧Qbk g S from_.2 e=true∧e.2.1∉q)→F.aW H g S E from_ (y:Int) f q r' ((k:Int)+1)=H (addR g S from_.2 cur (E.drop (k+1)) (if e.1=cur∧Qbk g S from_.2 e=true∧e.2.1∉q then q++[e.2.1]else q)) (from_.1::addR g S from_.2 cur (E.drop (k+1)) (if e.1=cur∧Qbk g S from_.2 e=true∧e.2.1∉q then q++[e.2.1]else q)) ((y:Int)+1):=fun hn=>by
    rw[if_neg hn]at hnext ⊢
    exact ih (q,r') ⟨W,I,hnext.symm⟩
   by_cases hcur:e.1=cur
   ·rw[if_pos (show e.1=cur from hcur),show F.ef g S e from_.2=_ from hopen,Qa]
    by_cases Y:Qbk g S from_.2 e=true
    ·rw[if_pos Y,show F.ex q e.2.1=_ from R_on_eq q e.2.1 (by omega),Qa]
     by_cases hm:e.2.1∈q
     ·rw[decide_eq_true hm,Xk,if_neg Wm]
      exact stay fun h=>h.2.2 hm
     ·have J:e.1=cur∧Qbk g S from_.2 e=true∧e.2.1∉q:=⟨hcur,Y,hm⟩
      rw[decide_eq_false hm,Yu,if_pos rfl,A.gd1 (by simp only[Qh,Qx];omega),A.gd1 (by rw[W];simp only[Qh,Qx];omega),if_pos J]
      rw[if_pos J]at hnext
      refine ih (q++[e.2.1],r'++[e.2.1]) ⟨?_,?_,hnext.symm⟩
      ·simp only[W,Xv]
      ·simp only[]
       rw[Q7 (Qc.1 I).1];exact I
    ·rw[if_neg Y]
     exact stay fun h=>Y h.2.1
   ·rw[if_neg (show ¬e.1=cur from hcur)]
    exact stay fun h=>hcur h.1)
  (by have:=Qab;omega) (r,from_.1::r) ⟨rfl,hc,rfl⟩
def okE (g:List Nd)(S:List Sp)(E:List Ed)(dd:Int)(p q:Pl):Prop:=∃e∈E,e.1=p∧e.2.1=q∧Qbk g S dd e=true
theorem Qcf (g:List Nd)(S:List Sp)(dd:Int)(cur:Pl): ∀(t:List Ed) (r:List Pl),∃x,addR g S dd cur t r=r++x∧(∀p∈x,∃e∈t,e.1=cur∧e.2.1=p∧Qbk g S dd e=true)∧(r.Nodup→(r++x).Nodup)∧(∀e∈t,e.1=cur→Qbk g S dd e=true→e.2.1∈r++x)
 | [],r=>⟨[],by rw[addR,Wl],by simp,by simp,by simp⟩
 |e::t,r=>by
  rw[addR]
  by_cases h:e.1=cur∧Qbk g S dd e=true∧e.2.1∉r
  ·rw[if_pos h]
   obtain⟨x,J,O,W,Y⟩:=Qcf g S dd cur t (r++[e.2.1])
   refine⟨e.2.1::x,by rw[J];simp,fun p hp=>?_,fun hn=>?_,fun I H a b=>?_⟩
   ·rcases Qk.1 hp with rfl|hp
    ·exact⟨e,Qf ..,h.1,rfl,h.2.1⟩
    ·obtain⟨I,a,b⟩:=O p hp;exact⟨I,Qe _ a,b⟩
   ·have:=W (Wz.2 ⟨hn,by simp,fun a ha b hb=>by rw[Qj]at hb;subst hb;intro I;subst I;exact h.2.2 ha⟩)
    simpa using this
   ·rcases Qk.1 H with rfl|H
    ·simp
    ·have:=Y I H a b;simpa using this
  ·rw[if_neg h]
   obtain⟨x,J,O,W,Y⟩:=Qcf g S dd cur t r
   refine⟨x,J,fun p hp=>?_,W,fun I H a b=>?_⟩
   ·obtain⟨I,a,b⟩:=O p hp;exact⟨I,Qe _ a,b⟩
   ·rcases Qk.1 H with rfl|H
    ·refine Q6 _ ?_
     by_cases hm:I.2.1∈r
     ·exact hm
     ·exact absurd ⟨a,b,hm⟩ h
    ·exact Y I H a b
theorem nodup_len {α:Type}[DecidableEq α]: ∀{l m:List α},l.Nodup→(∀x∈l,x∈m)→l.length≤m.length
 | [],m,_,_=>Xn _
 |a::l,m,H,h=>by
  rw[Wk]at H
  have I:=h a (Qf ..)
  have:=nodup_len (l:=l) (m:=m.erase a) H.2 fun x J=>(List.mem_erase_of_ne (fun e=>by subst e;exact H.1 J)).2 (h x (Qe _ J))
  rw[Y0 I]at this
  have hpos:0<m.length:=Y3 I
  rw[Qh];omega
theorem round_eq (g:List Nd)(S:List Sp)(E:List Ed)(from_:Sp)(hb:Few g)(hi:Inc g)(hS:S.length≤100000)(hE:E.length≤4000)(hf: ∀e∈E,∃n∈g,e.1.1=n.1):
  ∃b,F.d2 g S E from_=some b∧(b=true↔Rch (okE g S E from_.2) from_.1 from_.1):=by
 have sub: ∀(r:List Pl),r.Nodup→(∀p∈r,∃e∈E,e.2.1=p)→r.length≤4000:=fun r I h=>by
  have:=nodup_len (m:=E.map fun e=>e.2.1) I fun p hp=>by obtain⟨e,Y,W⟩:=h p hp;exact Qv.2 ⟨e,Y,W⟩
  rw[Qw]at this;omega
 have main: ∀(n f y:Nat) (r:List Pl),y+n=4002→n<f→r.Nodup→y≤1+r.length→(∀p∈r,∃e∈E,e.2.1=p)→(∀p∈r,Rch (okE g S E from_.2) from_.1 p)→(∀i p q,i<y→(from_.1::r)[i]?=some p→okE g S E from_.2 p q→q∈r)→
   ∃b,F.bQ g S E from_ f r (from_.1::r) (y:Int)=some b∧(b=true↔Rch (okE g S E from_.2) from_.1 from_.1):=by
  intro n
  induction n with
  |zero=>
   intro f y r hy hf' I hyl hsub _ _
   have:=sub r I hsub
   omega
  |succ n ih=>
   intro f y r hy hf' I hyl hsub hreach hclosed
   obtain⟨f,rfl⟩: ∃f',f=f'+1:=⟨f-1,by omega⟩
   have hl:=sub r I hsub
   rw[F.bQ]
   by_cases h:y<1+r.length
   ·obtain⟨cur,hcur⟩: ∃c,(from_.1::r)[y]?=some c:=⟨_,Qd (by rw[Qh];omega)⟩
    obtain⟨x,Y,W,h3,h4⟩:=Qcf g S from_.2 cur E r
    have hsub2: ∀p∈r++x,∃e∈E,e.2.1=p:=fun p hp=>by
     rcases Qn.1 hp with hp|hp
     ·exact hsub p hp
     ·obtain⟨e,a,_,b,_⟩:=W p hp;exact⟨e,a,b⟩
    have hall: ∀k,(addR g S from_.2 cur (E.take k) r).length≤9000:=fun k=>by
     obtain⟨x',a,b,c,_⟩:=Qcf g S from_.2 cur (E.take k) r
     have:=sub (r++x') (c I) fun p hp=>by
      rcases Qn.1 hp with hp|hp
      ·exact hsub p hp
      ·obtain⟨e,a2,_,b2,_⟩:=b p hp;exact⟨e,Ya a2,b2⟩
     rw[a];omega
    rw[if_pos (by rw[Qh];omega),round_l3 g S E from_ _ y cur r hb hi hS (by omega) hf hcur (by omega) (by omega) hall,Y]
    have e1:(y:Int)+1=((y+1:Nat):Int):=by omega
    rw[e1]
    have H:cur=from_.1∨Rch (okE g S E from_.2) from_.1 cur:=by
     cases y with
     |zero=>injection hcur with hcur;exact .inl hcur.symm
     |succ y=>exact .inr (hreach cur (Qg (by simpa using hcur)))
    refine ih f (y+1) (r++x) (by omega) (by omega) (h3 I) (by rw[Qm];omega) hsub2 (fun p hp=>?_) fun i p q hi2 hp J=>?_
    ·rcases Qn.1 hp with hp|hp
     ·exact hreach p hp
     ·obtain⟨e,a,b,c,d2⟩:=W p hp
      rcases H with H|H
      ·exact .one ⟨e,a,b.trans H,c,d2⟩
      ·exact .step H ⟨e,a,b,c,d2⟩
    ·rw[←Xv,Q7 (by rw[Qh];omega)]at hp
     rcases Y2 i y with h5|h5
     ·exact Q6 _ (hclosed i p q h5 hp J)
     ·obtain rfl:i=y:=by omega
      rw[hcur]at hp;injection hp with hp;subst hp
      obtain⟨e,a,b,c,d2⟩:=J
      rw[←c];exact h4 e a b d2
   ·rw[if_neg (by rw[Qh];omega),show F.ex r from_.1=_ from R_on_eq r from_.1 (by omega),Qa]
    refine⟨_,rfl,?_⟩
    rw[decide_eq_true_eq]
    refine⟨hreach _,fun hr=>?_⟩
    have hin: ∀q,Rch (okE g S E from_.2) from_.1 q→q∈r:=fun q hq=>by
     induction hq with
     |one h6=>exact hclosed 0 _ _ (by omega) rfl h6
     |step h6 h7 ih2=>
      obtain⟨i,O⟩:=Wo.1 ih2
      have:=(Qc.1 O).1
      exact hclosed (i+1) _ _ (by omega) (by simpa using O) h7
    exact hin _ hr
 exact main 4002 A.FU 0 [] (by omega) (by have:=Qab;omega) X5 (by simp) (by simp) (by simp) (fun i p q h=>by omega)
abbrev Seen:=List (Pl×Bool)
def seen (m:Seen)(v:Pl):Prop:=Z.mget false m v=true
def addP (deep:List Sp)(from_:Pl)(dd:Int):List Pl→Seen→List Pl→Option (Seen×List Pl)
 | [],m,xs=>some (m,xs)
 |t::r,m,xs=>if t=from_ then none else if dd≤Z.mget 0 deep t∧Z.mget false m t=false then addP deep from_ dd r (Z.mins m t true) (xs++[t])else addP deep from_ dd r m xs
theorem reaches_l3 (deep:List Sp)(from_:Pl)(dd:Int)(I:Seen→List Pl→Option Bool)(tos:List Pl)(m:Seen)(xs:List Pl)(hl:tos.length≤4000)(hx:xs.length≤10000):
  F.af I deep from_ dd tos A.FU m xs 0=match addP deep from_ dd tos m xs with
   |none=>some true
   |some s=>I s.1 s.2:=
 A.lp tos (fun f (s:Seen×List Pl) i=>F.af I deep from_ dd tos f s.1 s.2 i) (fun _ t s=>match addP deep from_ dd t s.1 s.2 with
   |none=>some true
   |some s=>I s.1 s.2) (fun k s=>s.2.length≤10000+k)
  (fun f s hs=>by rw[F.af,if_neg (by omega),addP])
  (fun f s k t ht hk hs W=>by
   rw[F.af,if_pos (by omega),A.ixn ht,Qa,addP,A.lt]
   simp only[F.bB,F.bA,A.lt,A.gd1 (A.r64n (n:=k) (by omega)),Qz,if_false]
   by_cases h:t=from_
   ·rw[if_pos (show t=from_ from h),if_pos h]
   ·rw[if_neg (show ¬t=from_ from h),if_neg h]
    by_cases J:dd≤Z.mget 0 deep t
    ·rw[if_pos (show dd≤Z.mget 0 deep t from J)]
     by_cases O:Z.mget false s.1 t=false
     ·have Y:dd≤Z.mget 0 deep t∧Z.mget false s.1 t=false:=⟨J,O⟩
      rw[if_pos Y,show Z.mget false s.1 t=false from O,Yu,if_pos rfl,A.gd1 (by simp only[Qh,Qx];omega)]
      exact W (Z.mins s.1 t true,s.2++[t]) (by simp only[Qm,Qh,Qx];omega)
     ·have hm2:Z.mget false s.1 t=true:=by cases H:Z.mget false s.1 t with
       |true=>rfl
       |false=>exact absurd H O
      have Y: ¬(dd≤Z.mget 0 deep t∧Z.mget false s.1 t=false):=fun H=>O H.2
      rw[if_neg Y,show Z.mget false s.1 t=true from hm2,Xk,if_neg Wm]
      exact W s (by omega)
    ·rw[if_neg (show ¬dd≤Z.mget 0 deep t from J),if_neg (fun H=>J H.1)]
     exact W s (by omega))
  (by have:=Qab;omega) (m,xs) (by simp only[];omega)
def un (T:List Pl)(m:Seen):Nat:=(T.filter fun t=> !(Z.mget false m t)).length
theorem un_ins {T:List Pl}{m:Seen}{t:Pl}(H:t∈T)(I:Z.mget false m t=false):un T (Z.mins m t true)+1≤un T m:=by
 unfold un
 have mono: ∀(l:List Pl),(l.filter fun t'=> !(Z.mget false (Z.mins m t true) t')).length≤(l.filter fun t'=> !(Z.mget false m t')).length:=by
  intro l
  induction l with
  |nil=>exact Q1 _
  |cons a l J=>
   rw[Xl,Xl,Up]
   by_cases e:a=t
   ·rw[if_pos e,e,I];simp only[Xk,Qz,if_false,Yu,if_true,Qh];omega
   ·rw[if_neg e];split<;>(try simp only[Qh])<;>omega
 induction T with
 |nil=>cases H
 |cons a l J=>
  rw[Xl,Xl,Up]
  have:=mono l
  by_cases e:a=t
  ·rw[if_pos e,e,I];simp only[Xk,Qz,if_false,Yu,if_true,Qh];omega
  ·have:=J ((Qk.1 H).resolve_left fun h=>e h.symm)
   rw[if_neg e];split<;>(try simp only[Qh])<;>omega
theorem Qdo {deep:List Sp}{from_:Pl}{dd:Int}: ∀{tos:List Pl} {m:Seen} {xs:List Pl},addP deep from_ dd tos m xs=none→from_∈tos
 | [],_,_,h=>by cases h
 |t::r,m,xs,h=>by
  rw[addP]at h
  by_cases e:t=from_
  ·rw[e];exact Qf ..
  ·rw[if_neg e]at h
   split at h
   ·exact Qe _ (Qdo h)
   ·exact Qe _ (Qdo h)
theorem Qcg {m:Seen}{t v:Pl}:seen (Z.mins m t true) v↔v=t∨seen m v:=by
 unfold seen
 rw[Up]
 by_cases e:v=t
 ·rw[if_pos e];simp[e]
 ·rw[if_neg e];simp[e]
theorem addP_some {deep:List Sp}{from_:Pl}{dd:Int}{T:List Pl}: ∀{tos:List Pl} {m m':Seen} {xs xs':List Pl},(∀t∈tos,t∈T)→addP deep from_ dd tos m xs=some (m',xs')→
  from_∉tos∧(∀v,seen m v→seen m' v)∧(∀v,seen m' v→seen m v∨(v∈tos∧dd≤Z.mget 0 deep v))∧(∀t∈tos,dd≤Z.mget 0 deep t→seen m' t)∧(∀v∈xs,v∈xs')∧(∀v∈xs',v∈xs∨seen m' v)∧(∀v,seen m' v→seen m v∨v∈xs')∧xs'.length+un T m'≤xs.length+un T m
 | [],m,m',xs,xs',_,h=>by
  injection h with h;injection h with h1 H;subst h1;subst H
  exact⟨by simp,fun v h=>h,fun v h=>.inl h,by simp,fun v h=>h,fun v h=>.inl h,fun v h=>.inl h,Q1 _⟩
 |t::r,m,m',xs,xs',hT,h=>by
  rw[addP]at h
  by_cases e:t=from_
  ·rw[if_pos e]at h;cases h
  ·rw[if_neg e]at h
   by_cases Y:dd≤Z.mget 0 deep t∧Z.mget false m t=false
   ·rw[if_pos Y]at h
    obtain⟨a1,a2,a3,a4,a5,a6,a7,a8⟩:=addP_some (fun x I=>hT x (Qe _ I)) h
    have hun:=un_ins (hT t (Qf ..)) Y.2
    refine⟨fun H=>(Qk.1 H).elim (fun W=>e W.symm) a1,fun v J=>a2 v (Qcg.2 (.inr J)),fun v J=>?_,fun x I O=>?_,fun v J=>a5 v (Q6 _ J),fun v J=>?_,fun v J=>?_,by rw[Qm]at a8;simp only[Qh,Qx]at a8;omega⟩
    ·rcases a3 v J with H|H
     ·rcases Qcg.1 H with rfl|W
      ·exact .inr ⟨Qf ..,Y.1⟩
      ·exact .inl W
     ·exact .inr ⟨Qe _ H.1,H.2⟩
    ·rcases Qk.1 I with rfl|I
     ·exact a2 _ (Qcg.2 (.inl rfl))
     ·exact a4 x I O
    ·rcases a6 v J with H|H
     ·rcases Qn.1 H with H|H
      ·exact .inl H
      ·rw[Qj]at H;subst H;exact .inr (a2 _ (Qcg.2 (.inl rfl)))
     ·exact .inr H
    ·rcases a7 v J with H|H
     ·rcases Qcg.1 H with rfl|W
      ·exact .inr (a5 _ (Q8 _ (Qj.2 rfl)))
      ·exact .inl W
     ·exact .inr H
   ·rw[if_neg Y]at h
    obtain⟨a1,a2,a3,a4,a5,a6,a7,a8⟩:=addP_some (fun x I=>hT x (Qe _ I)) h
    refine⟨fun H=>(Qk.1 H).elim (fun W=>e W.symm) a1,a2,fun v J=>?_,fun x I O=>?_,a5,a6,a7,a8⟩
    ·rcases a3 v J with H|H
     ·exact .inl H
     ·exact .inr ⟨Qe _ H.1,H.2⟩
    ·rcases Qk.1 I with rfl|I
     ·refine a2 _ ?_
      unfold seen
      cases H:Z.mget false m x with
      |true=>rfl
      |false=>exact absurd ⟨O,H⟩ Y
     ·exact a4 x I O
def blk (g:List Nd)(dd:Int)(p:Pl):Prop:=(Z.mget ((0,0,[],(0,0,(ByteArray.mk #[])),(ByteArray.mk #[]),0,0):Nd) (Qac g) p.1).2.1=14∧(Z.mget ((0,0,[],(0,0,(ByteArray.mk #[])),(ByteArray.mk #[]),0,0):Nd) (Qac g) p.1).2.2.2.2.2.2=dd
def okP (g:List Nd)(steps:List (Pl×List Pl))(deep:List Sp)(dd:Int)(p q:Pl):Prop:=q∈Z.mget [] steps p∧¬blk g dd p∧dd≤Z.mget 0 deep q
theorem reaches_eq (g:List Nd)(a0:(List (Int×Nd))×(List Int)×(List (Int×Int)))(h0:a0.1=Qac g)(steps:List (Pl×List Pl))(deep:List Sp)(from_:Pl)(dd:Int)(T:List Pl)(hT:T.length≤4000)(hst: ∀p q,q∈Z.mget [] steps p→q∈T)(hsl: ∀p,(Z.mget [] steps p).length≤4000)(hfd:dd≤Z.mget 0 deep from_):
  ∃b,F.bb a0 steps deep from_ dd=some b∧(b=true↔Rch (okP g steps deep dd) from_ from_):=by
 have main: ∀(n f:Nat) (m:Seen) (xs:List Pl),xs.length+un T m≤n→n<f→xs.length≤9000→xs.length+un T m≤9000→(∀v,seen m v→Rch (okP g steps deep dd) from_ v)→(∀t∈xs,t=from_∨seen m t)→(∀v,v=from_∨seen m v→v∉xs→∀w,okP g steps deep dd v w→w≠from_∧seen m w)→
   ∃b,F.ag a0 steps deep from_ dd f m xs=some b∧(b=true↔Rch (okP g steps deep dd) from_ from_):=by
  intro n
  induction n with
  |zero=>
   intro f m xs hn hf hx900 _ i1 i2 W
   obtain⟨f,rfl⟩: ∃f',f=f'+1:=⟨f-1,by omega⟩
   have hx:xs=[]:=Wn (by omega)
   subst hx
   rw[F.ag,if_neg (by simp)]
   refine⟨false,rfl,fun h=>(by cases h),fun h=>?_⟩
   have Y: ∀q,Rch (okP g steps deep dd) from_ q→q≠from_∧seen m q:=fun q hq=>by
    induction hq with
    |one h6=>exact W from_ (.inl rfl) (by simp) _ h6
    |step h6 h7 ih2=>exact W _ (.inr ih2.2) (by simp) _ h7
   exact absurd rfl (Y _ h).1
  |succ n ih=>
   intro f m xs hn hf hx900 hu900 i1 i2 W
   obtain⟨f,rfl⟩: ∃f',f=f'+1:=⟨f-1,by omega⟩
   rw[F.ag]
   by_cases hne:xs=[]
   ·subst hne
    rw[if_neg (by simp)]
    refine⟨false,rfl,fun h=>(by cases h),fun h=>?_⟩
    have Y: ∀q,Rch (okP g steps deep dd) from_ q→q≠from_∧seen m q:=fun q hq=>by
     induction hq with
     |one h6=>exact W from_ (.inl rfl) (by simp) _ h6
     |step h6 h7 ih2=>exact W _ (.inr ih2.2) (by simp) _ h7
    exact absurd rfl (Y _ h).1
   ·obtain⟨ys,at_,rfl⟩: ∃ys a,xs=ys++[a]:=⟨xs.dropLast,xs.getLast hne,(List.dropLast_concat_getLast hne).symm⟩
    have hl:(ys++[at_]).length=ys.length+1:=by simp
    have e1:(((ys++[at_]).length:Int)-1)=(ys.length:Int):=by rw[hl];omega
    have hat:(ys++[at_])[ys.length]?=some at_:=by simp
    rw[if_pos (by omega),A.gd1 ⟨by omega,by omega⟩,e1,A.ixn hat,Qa,A.gd1 ⟨by omega,by omega⟩,A.gd1 ⟨by omega,by rw[Qs];omega⟩,A.lt,F.ce,e1,Qs,A.ba,h0]
    have htake:List.take ys.length (ys++[at_])=ys:=by simp
    rw[htake]
    have hatr:at_=from_∨seen m at_:=i2 at_ (by simp)
    by_cases hb:blk g dd at_
    ·rw[if_pos (show decide ((Z.mget ((0,0,[],(0,0,(ByteArray.mk #[])),(ByteArray.mk #[]),0,0):Nd) (Qac g) at_.1).2.1=14∧(Z.mget ((0,0,[],(0,0,(ByteArray.mk #[])),(ByteArray.mk #[]),0,0):Nd) (Qac g) at_.1).2.2.2.2.2.2=dd)=true from decide_eq_true hb)]
     refine ih f m ys (by omega) (by omega) (by omega) (by omega) i1 (fun t ht=>i2 t (Q6 _ ht)) fun v hv J w O=>?_
     by_cases e:v=at_
     ·subst e;exact absurd hb O.2.1
     ·exact W v hv (fun h=>by
       rcases Qn.1 h with h|h
       ·exact J h
       ·exact e (Qj.1 h)) w O
    ·rw[if_neg (show ¬decide ((Z.mget ((0,0,[],(0,0,(ByteArray.mk #[])),(ByteArray.mk #[]),0,0):Nd) (Qac g) at_.1).2.1=14∧(Z.mget ((0,0,[],(0,0,(ByteArray.mk #[])),(ByteArray.mk #[]),0,0):Nd) (Qac g) at_.1).2.2.2.2.2.2=dd)=true from fun h=>hb (by have h9:=of_decide_eq_true h;exact h9)),A.lt,show Z.mget [] steps at_=Z.mget [] steps at_ from rfl,reaches_l3 deep from_ dd _ _ m ys (hsl at_) (by omega)]
     cases hadd:addP deep from_ dd (Z.mget [] steps at_) m ys with
     |none=>
      have hfrom:=Qdo hadd
      have H:okP g steps deep dd at_ from_:=⟨hfrom,hb,hfd⟩
      refine⟨true,rfl,fun _=>?_,fun _=>rfl⟩
      rcases hatr with h|h
      ·rw[h]at H;exact .one H
      ·exact .step (i1 at_ h) H
     |some s=>
      obtain⟨m',xs'⟩:=s
      obtain⟨a1,a2,a3,a4,a5,a6,a7,a8⟩:=addP_some (T:=T) (hst at_) hadd
      simp only[]
      refine ih f m' xs' (by omega) (by omega) (by omega) (by omega) (fun v hv=>?_) (fun t ht=>?_) fun v hv J w O=>?_
      ·rcases a3 v hv with h|h
       ·exact i1 v h
       ·have H:okP g steps deep dd at_ v:=⟨h.1,hb,h.2⟩
        rcases hatr with I|I
        ·rw[I]at H;exact .one H
        ·exact .step (i1 at_ I) H
      ·rcases a6 t ht with h|h
       ·rcases i2 t (Q6 _ h)with I|I
        ·exact .inl I
        ·exact .inr (a2 t I)
       ·exact .inr h
      ·have hv2:v=from_∨seen m v:=by
        rcases hv with h|h
        ·exact .inl h
        ·rcases a7 v h with I|I
         ·exact .inr I
         ·exact absurd I J
       by_cases e:v=at_
       ·subst e
        exact⟨fun h=>a1 (h▸O.1),a4 w O.1 O.2.2⟩
       ·obtain⟨h1,I⟩:=W v hv2 (fun h=>by
         rcases Qn.1 h with h|h
         ·exact J (a5 v h)
         ·exact e (Qj.1 h)) w O
        exact⟨h1,a2 w I⟩
 have hu:un T []≤T.length:=X1 _ _
 exact main (1+T.length) A.FU [] [from_] (by simp;omega) (by have:=Qab;omega) (by simp) (by simp;omega) (fun v h=>by cases h) (fun t ht=>.inl (Qj.1 ht)) (fun v hv hx w O=>by
  rcases hv with h|h
  ·exact absurd (Qj.2 h) hx
  ·cases h)
theorem mget_mem {p:Pl}: ∀{l:List Sp} {v:Int},(l.map (·.1)).Nodup→(p,v)∈l→Z.mget 0 l p=v
 | [],_,_,h=>by cases h
 |(a,w)::r,v,H,h=>by
  rw[Q3,Wk]at H
  unfold Z.mget
  rcases Qk.1 h with h|h
  ·injection h with I J;rw[if_pos I,J]
  ·rw[if_neg (fun e=>H.1 (by rw[←e];exact List.mem_map_of_mem (f:=(·.1)) h))]
   exact mget_mem H.2 h
theorem mhas_app {l:List Sp}{p:Pl}(h:p∉l.map (·.1)):Z.mhas l p=false:=by
 induction l with
 |nil=>rfl
 |cons a r H=>
  rw[Q3,Qk,not_or]at h
  obtain⟨q,v⟩:=a
  unfold Z.mhas
  rw[if_neg h.1];exact H h.2
def toOf (E:List Ed)(p:Pl):List Pl:=(E.filter fun e=>decide (e.1=p)).map fun e=>e.2.1
theorem turns_l2 (a0:(List (Int×Nd))×(List Int)×(List (Int×Int)))(S:List Sp)(E:List Ed)(W:E.length≤4000): ∃st,(∀p,Z.mget [] st p=toOf E p)∧F.aE a0 S E A.FU [] 0=A.mrg (F.a8 a0 S st) (some false) S:=by
 have main: ∀(n k f:Nat) (m:List (Pl×List Pl)),k+n=E.length→n<f→(∀p,Z.mget [] m p=toOf (E.take k) p)→∃st,(∀p,Z.mget [] st p=toOf E p)∧F.aE a0 S E f m (k:Int)=A.mrg (F.a8 a0 S st) (some false) S:=by
  intro n
  induction n with
  |zero=>
   intro k f m hk J H
   obtain⟨f,rfl⟩: ∃f',f=f'+1:=⟨f-1,by omega⟩
   rw[W6 (by omega)]at H
   exact⟨m,H,by rw[F.aE,if_neg (by omega)]⟩
  |succ n O=>
   intro k f m hk J H
   obtain⟨f,rfl⟩: ∃f',f=f'+1:=⟨f-1,by omega⟩
   have I:E[k]?=some E[k]:=Qd (by omega)
   generalize E[k]=x at I
   have hlen:(Z.mget [] m x.1).length≤4000:=by
    rw[H];unfold toOf
    rw[Qw]
    have:=X1 (fun e:Ed=>decide (e.1=x.1)) (E.take k)
    rw[Qt]at this;omega
   rw[F.aE,if_pos (by omega),A.ixn I,Qa,A.gd1 (by rw[show Z.mget [] m x.1=Z.mget [] m x.1 from rfl];simp only[Qh,Qx];omega),A.gd1 (A.r64n (by omega))]
   refine O (k+1) f _ (by omega) (by omega) fun p=>?_
   rw[show Z.mins m x.1 (Z.mget [] m x.1++[x.2.1])=Z.mins m x.1 (Z.mget [] m x.1++[x.2.1])from rfl,Up,Qcs I]
   unfold toOf
   rw[List.filter_append,Yf,Xl,List.filter_nil]
   by_cases e:p=x.1
   ·subst e
    rw[if_pos rfl,H,if_pos (decide_eq_true rfl)];rfl
   ·rw[if_neg e,H,if_neg (by simp only[decide_eq_true_eq];exact fun h=>e h.symm),Xr,Wl];rfl
 exact main E.length 0 A.FU [] (by omega) (by have:=Qab;omega) (fun p=>rfl)
theorem turns_l3 (g:List Nd)(a0:(List (Int×Nd))×(List Int)×(List (Int×Int)))(S:List Sp)(E:List Ed)(hS:S.length≤4000)(O:(S.map (·.1)).Nodup)(W:F.ba a0 g=some E):F.aR a0 g S A.FU [] 0=F.aE a0 S E A.FU [] 0:=
 A.lp S (fun f (m:List Sp) i=>F.aR a0 g S f m i) (fun _ _ _=>F.aE a0 S E A.FU [] 0) (fun k m=>m=S.take k)
  (fun f m H=>by
   rw[W6 (Q1 _)]at H
   rw[F.aR,if_neg (by omega),show F.ba a0 g=some E from W,Qa,H])
  (fun f m k x I hk H Y=>by
   rw[F.aR,if_pos (by omega),A.ixn I,Qa,A.gd1 (A.r64n (by omega))]
   refine Y _ ?_
   rw[show Z.mins m x.1 x.2=Z.mins m x.1 x.2 from rfl,Qgb (mhas_app ?_),H,Qcs I]
   rw[H]
   intro h
   rw[List.map_take]at h
   have J:=O
   rw[←Xd k (S.map (·.1)),Wz]at J
   refine J.2.2 _ h _ ?_ rfl
   rw[←List.map_drop,A.dropx I,Q3];exact Qf ..)
  (by have:=Qab;omega) [] (by simp)
theorem nodeAt {g:List Nd}(H:Inc g){n:Nd}(J:n∈g)(z:Nd):Z.mget z (Qac g) n.1=n∧find g n.1=(n,true):=by
 obtain⟨j,I⟩:=Wo.1 J
 exact⟨H.mget I,Qdp H I⟩
theorem mem_st {g:List Nd}{d:List Int}{st:List (Pl×List Pl)}(H: ∀p,Z.mget [] st p=toOf (edges g d) p){p q:Pl}:q∈Z.mget [] st p↔∃e∈edges g d,e.1=p∧e.2.1=q:=by
 rw[H];unfold toOf
 constructor
 ·intro h
  obtain⟨e,I,J⟩:=Qv.1 h
  obtain⟨O,W⟩:=Yn.1 I
  exact⟨e,O,of_decide_eq_true W,J⟩
 ·rintro⟨e,I,J,O⟩
  exact Qv.2 ⟨e,Yn.2 ⟨I,decide_eq_true J⟩,O⟩
theorem nodup_S {g:List Nd}{d:List Int}(H:Inc g)(I:Own g):((spots g d).map (·.1)).Nodup:=Qcq d 0 g H fun n J=>in2 I J
theorem ok_iff {g:List Nd}{d:List Int}(W:Inc g)(ho:Own g){dd:Int}{p q:Pl}:okE g (spots g d) (edges g d) dd p q↔(∃e∈edges g d,e.1=p∧e.2.1=q)∧dd≤Z.mget 0 (spots g d) q∧(¬blk g dd p∨p.2=2):=by
 have Y:=nodup_S (d:=d) W ho
 have key: ∀e∈edges g d,(Qbk g (spots g d) dd e=true↔dd≤Z.mget 0 (spots g d) e.2.1∧(¬blk g dd e.1∨e.1.2=2)):=fun e he=>by
  obtain⟨v,hv⟩:=edge_to d he
  obtain⟨n,hn,H⟩:=Qgx d he
  obtain⟨I,J⟩:=nodeAt W hn ((0,0,[],(0,0,(ByteArray.mk #[])),(ByteArray.mk #[]),0,0):Nd)
  unfold Qbk blk
  rw[mget_mem Y hv,atS_mem Y hv,H,J,I,Ql,decide_eq_true_eq,Y5,Y5,decide_eq_true_eq,decide_eq_true_eq,decide_eq_true_eq]
  constructor
  ·rintro⟨a,(b|b)|b⟩
   ·exact⟨a,.inl fun h=>b h.1⟩
   ·exact⟨a,.inl fun h=>b h.2⟩
   ·exact⟨a,.inr b⟩
  ·rintro⟨a,b|b⟩
   ·by_cases c:n.2.1=14
    ·exact⟨a,.inl (.inr fun h=>b ⟨c,h⟩)⟩
    ·exact⟨a,.inl (.inl c)⟩
   ·exact⟨a,.inr b⟩
 constructor
 ·rintro⟨e,H,I,J,O⟩
  have:=(key e H).1 O
  rw[I,J]at this
  exact⟨⟨e,H,I,J⟩,this⟩
 ·rintro⟨⟨e,H,I,J⟩,O⟩
  refine⟨e,H,I,J,(key e H).2 ?_⟩
  rw[I,J];exact O
theorem rch_iff {g:List Nd}{d:List Int}{st:List (Pl×List Pl)}(hi:Inc g)(Y:Own g)(O: ∀p,Z.mget [] st p=toOf (edges g d) p){dd:Int}{a:Pl}:Rch (okP g st (spots g d) dd) a a↔Rch (okE g (spots g d) (edges g d) dd) a a:=by
 have up: ∀{p q},okP g st (spots g d) dd p q→okE g (spots g d) (edges g d) dd p q:=fun {p q} h=>
  (ok_iff hi Y).2 ⟨(mem_st O).1 h.1,h.2.2,.inl h.2.1⟩
 have down: ∀{p q},okE g (spots g d) (edges g d) dd p q→(p.2≠2∨¬blk g dd p)→okP g st (spots g d) dd p q:=fun {p q} h H=>by
  obtain⟨I,h4,h5⟩:=(ok_iff hi Y).1 h
  refine⟨(mem_st O).2 I,?_,h4⟩
  rcases H with H|H
  ·exact h5.resolve_right H
  ·exact H
 have blk_same: ∀{p q:Pl},p.1=q.1→(blk g dd p↔blk g dd q):=fun {p q} e=>by unfold blk;rw[e]
 constructor
 ·intro h
  have: ∀b,Rch (okP g st (spots g d) dd) a b→Rch (okE g (spots g d) (edges g d) dd) a b:=fun b h=>by
   induction h with
   |one h=>exact .one (up h)
   |step _ H J=>exact .step J (up H)
  exact this a h
 ·intro h
  have key: ∀b,Rch (okE g (spots g d) (edges g d) dd) a b→Rch (okP g st (spots g d) dd) a b∨(a.2=2∧blk g dd a):=fun b h=>by
   induction h with
   |one h=>
    by_cases H:a.2=2∧blk g dd a
    ·exact .inr H
    ·exact .inl (.one (down h (by
      by_cases I:a.2=2
      ·exact .inr fun h4=>H ⟨I,h4⟩
      ·exact .inl I)))
   | @step b c _ H J=>
    rcases J with J|J
    ·refine .inl (.step J (down H ?_))
     by_cases I:b.2=2
     ·refine .inr fun h4=>?_
      have hlast: ∃p,okP g st (spots g d) dd p b:=by cases J with
       |one h=>exact⟨_,h⟩
       |step _ h=>exact⟨_,h⟩
      obtain⟨p,hp⟩:=hlast
      obtain⟨e,h5,h6,h7⟩:=(mem_st O).1 hp.1
      have W:=edge_out d Y h5 (by rw[h7];exact I)
      rw[h6,h7]at W
      exact hp.2.1 ((blk_same W.1).2 h4)
     ·exact .inl I
    ·exact .inr J
  rcases key a h with H|⟨H,I⟩
  ·exact H
  ·have hlast: ∃p,okE g (spots g d) (edges g d) dd p a:=by cases h with
    |one h=>exact⟨_,h⟩
    |step _ h=>exact⟨_,h⟩
   obtain⟨p,hp⟩:=hlast
   obtain⟨⟨e,h5,h6,h7⟩,_,h9⟩:=(ok_iff hi Y).1 hp
   have W:=edge_out d Y h5 (by rw[h7];exact H)
   rw[h6,h7]at W
   rcases h9 with h9|h9
   ·exact absurd ((blk_same W.1).2 I) h9
   ·exact absurd h9 W.2
theorem Qgu {g:List Nd}(I:Own g)(J:g.length≤40)(d:List Int): ∀(m k:Nat),k+m=g.length→(edgesF g d k (g.drop k)).length≤83*m
 |0,k,h=>by rw[Q2 (by omega)];exact Q1 0
 |m+1,k,h=>by
  have H:g[k]?=some g[k]:=Qd (by omega)
  generalize g[k]=x at H
  have O:=in2 I (Qg H)
  have W:=Qax x.1 g fun x H=>in2 I H
  have Y:=Qgu I J d m (k+1) (by omega)
  rw[A.dropx H,edgesF]
  split
  ·omega
  ·rw[Qm,Qm,Qfu,outE,Qw];omega
theorem Qev {g:List Nd}(H:Own g)(d:List Int): ∀(k:Nat) (l:List Nd),(∀n∈l,n∈g)→∀sp∈spotsF g d k l,0≤sp.1.2∧sp.1.2≤2
 |_,[],_,_,h=>by cases h
 |k,n::r,I,sp,h=>by
  have O:=in2 H (I n (Qf ..))
  unfold spotsF at h
  rcases Qn.1 h with h|h
  ·have:=Qdx g d n.1 0 _ sp.1 sp.2 h;omega
  ·rcases Qn.1 h with h|h
   ·unfold outS at h
    split at h
    ·rw[Qj]at h;subst h;simp
    ·cases h
   ·exact Qev H d (k+1) r (fun x J=>I x (Qe _ J)) sp h
theorem turns_same (g:List Nd)(d:List Int)(a0:(List (Int×Nd))×(List Int)×(List (Int×Int)))(h0:a0.1=Qac g)(hb:Few g)(hi:Inc g)(hfed:Fed g)(J:Own g)(Y:InB d)(hr:RelD g d a0.2.2)(hd:d.length=g.length):
  ∃b,F.bZ a0 g=some b∧(∀r5 r9,F.cd g r5 r9 (spots g d) (edges g d) A.FU 0=some (if b=true then([],[],81)else(r5.1,r9.1,0)))∧(b=true↔∃sp∈spots g d,Rch (okE g (spots g d) (edges g d) sp.2) sp.1 sp.1):=by
 have hlen:=hb.1
 have hS:(spots g d).length≤120:=by
  have:=Qce J d g.length 0 (by omega);rw[Wa]at this;unfold spots;omega
 have hE:(edges g d).length≤4000:=by
  have:=Qgu J hlen d g.length 0 (by omega);rw[Wa]at this;unfold edges;omega
 have hN:=nodup_S (d:=d) hi J
 have hok: ∀sp∈spots g d,SpOk g sp:=by
  have:=o_aY (d:=d) (g:=g) Y g.length 0 (by omega);rw[Wa]at this;exact this
 obtain⟨st,O,hl2⟩:=turns_l2 a0 (spots g d) (edges g d) hE
 have hto: ∀p q,q∈Z.mget [] st p→q∈(edges g d).map fun e=>e.2.1:=fun p q h=>by
  obtain⟨e,H,_,h3⟩:=(mem_st O).1 h
  exact Qv.2 ⟨e,H,h3⟩
 have htl: ∀p,(Z.mget [] st p).length≤4000:=fun p=>by
  rw[O];unfold toOf;rw[Qw]
  exact Wh (X1 _ _) hE
 have hval: ∀sp∈spots g d,∃b,F.bb a0 st (spots g d) sp.1 sp.2=some b∧F.d2 g (spots g d) (edges g d) sp=some b∧(b=true↔Rch (okE g (spots g d) (edges g d) sp.2) sp.1 sp.1):=fun sp I=>by
  obtain⟨b,H,W⟩:=reaches_eq g a0 h0 st (spots g d) sp.1 sp.2 ((edges g d).map fun e=>e.2.1) (by rw[Qw];exact hE) hto htl (by rw[mget_mem hN (p:=sp.1) (v:=sp.2) I];exact Xi _)
  obtain⟨b',h3,h4⟩:=round_eq g (spots g d) (edges g d) sp hb hi (by omega) hE (fun e he=>Qgx d he)
  refine⟨b,H,?_,W.trans (rch_iff hi J O)⟩
  rw[h3];congr 1
  rw[Y4,h4,W]
  exact(rch_iff hi J O).symm
 let p:Sp→Bool:=fun sp=>(F.bb a0 st (spots g d) sp.1 sp.2).getD false
 have hp: ∀sp∈spots g d,(p sp=true↔Rch (okE g (spots g d) (edges g d) sp.2) sp.1 sp.1):=fun sp I=>by
  obtain⟨b,H,_,h3⟩:=hval sp I
  rw[show p sp=b from congrArg (fun o=>Option.getD o false) H];exact h3
 refine⟨(spots g d).any p,?_,fun r5 r9=>?_,?_⟩
 ·unfold F.bZ
  rw[show F.bv a0 g=_ from Qhj g d a0 hb hfed J hr,Qa,turns_l3 g a0 (spots g d) (edges g d) (by omega) hN (Qhn g d a0 hb hfed J Y hr),hl2]
  have:=A.mrg_any (body:=F.a8 a0 (spots g d) st) (rest:=some false) (y:=true) (p:=p) (l:=spots g d) fun sp I=>by
   obtain⟨b,H,_,_⟩:=hval sp I
   obtain⟨⟨j,n,hn,hid⟩,hdd⟩:=hok sp I
   have hng:=Qg hn
   have hids:=own_id (J n hng)
   have hport:0≤sp.1.2∧sp.1.2≤2:=Qev J d 0 g (fun n hn=>hn) sp I
   unfold F.a8
   have hh:decide (A.h6 sp.1.1)=true∧decide (A.h6 sp.1.2)=true:=⟨decide_eq_true (Jz ⟨by omega,by omega⟩),decide_eq_true (Jz ⟨by omega,by omega⟩)⟩
   rw[A.gd1 hh,show F.bb a0 st (spots g d) sp.1 sp.2=_ from H,Qa,show p sp=b from congrArg (fun o=>Option.getD o false) H]
  rw[this]
  cases (spots g d).any p<;>rfl
 ·have loop:=A.lp0 (spots g d) (fun f y=>F.cd g r5 r9 (spots g d) (edges g d) f y) (fun _ t=>some (if t.any p=true then([],[],81)else(r5.1,r9.1,0)))
   (fun f=>by rw[F.cd,if_neg (by omega)];rfl)
   (fun f k x hx hk ih=>by
    obtain⟨b,H,W,_⟩:=hval x (Qg hx)
    rw[F.cd,if_pos (by omega),A.ixn hx,Qa,show F.d2 g (spots g d) (edges g d) x=_ from W,Qa,Yd,show p x=b from congrArg (fun o=>Option.getD o false) H]
    cases b with
    |true=>rfl
    |false=>rw[if_neg Wm,A.gd1 (A.r64n (by omega)),ih,X3])
   (by have:=Qab;omega)
  exact loop
 ·rw[X9]
  exact⟨fun⟨sp,H,W⟩=>⟨sp,H,(hp sp H).1 W⟩,fun⟨sp,H,W⟩=>⟨sp,H,(hp sp H).2 W⟩⟩
theorem own_of {g:List Nd}(h:okL g 0 0 g=true):Own g:=fun n I=>by
 obtain⟨j,J⟩:=Wo.1 I
 have H:=Qir g g.length 0 (by omega)
 rw[Wa,show lastOf g 0=0 from rfl]at H
 have:=H.1 h j n (by omega) J
 cases hq:ownQ n with
 |true=>rfl
 |false=>exact absurd (.inr (.inl hq)) this
theorem Qew (g:List Nd): ∀(r:Nat) (done:List Bool) (l l':List Int),Qaq g r done l=some l'→Plc g l→Plc g l'
 |0,done,l,l',h,hp=>by injection h with h;subst h;exact hp
 |r+1,done,l,l',h,hp=>by
  rw[Qaq]at h
  by_cases I:Qad g done 0 g (-1)<0
  ·rw[if_pos I]at h;cases h
  ·rw[if_neg I]at h
   by_cases J:g.length=0
   ·have:=Qdz g done 0 g (-1) (by omega)
    have e:g=[]:=Wn J
    subst e
    simp[Qad]at I
   ·have O:=Qdz g done 0 g (-1) (by omega) (by omega)
    refine Qew g r _ _ l' h fun i p H=>?_
    rw[List.getElem?_append]at H
    split at H
    ·exact hp i p H
    ·rename_i W
     have:i-l.length=0:=by
      have:=(Qc.1 H).1
      simp only[Qh,Qx]at this;omega
     rw[this]at H
     injection H with H
     subst H
     exact⟨(Qad g done 0 g (-1)).toNat,g[(Qad g done 0 g (-1)).toNat]'(by omega),by omega,Qd (by omega)⟩
structure Whole (g:List Nd) (l d:List Int) (dm:List (Int×Int)):Prop where
 inc:Inc g
 fed:Fed g
 own:Own g
 rel:RelD g d dm
 inb:InB d
 dlen:d.length=g.length
 key:KeyD g l dm
 plc:Plc g l
 llen:l.length=g.length
 ord:Qaq g g.length (List.replicate g.length false) []=some l
 dep:Qal g l (List.replicate g.length 0)=some d
 lps:Qbc g d g=true
 nort: ∀sp∈spots g d,¬Rch (okE g (spots g d) (edges g d) sp.2) sp.1 sp.1
 kin:g.all (fun n=>n.2.2.1.all (inOk g))=true
 okr:okR g 0 g=true
 chk:g.all (fun n=>decide (chk n.2.1 n.2.2.2.1=0))=true
 l32:g.length≤32
theorem whole_same (g:List Nd)(W:Few g):
  (∃e,e≠0∧F.bF g=some (none,e)∧F.d3 g=some ([],[],e))∨
  (∃l d dm,F.bF g=some (some (Qac g,l.map (idAt g),dm),0)∧F.d3 g=some (l,d,0)∧Whole g l d dm):=by
 rw[whole_P g W]
 unfold F.d3
 rw[parts_eq g W,ok_eq]
 by_cases O:(32:Int)<(g.length:Int)
 ·rw[if_pos O,if_pos O]
  exact .inl ⟨80,by decide,rfl,rfl⟩
 rw[if_neg O,if_neg O]
 by_cases H:okR g 0 g=true
 case neg=>rw[if_neg H,if_neg H];exact .inl ⟨80,by decide,rfl,rfl⟩
 rw[if_pos H,if_pos H]
 by_cases J:g.all (fun n=>decide (chk n.2.1 n.2.2.2.1=0))=true
 case neg=>rw[if_neg J,if_neg J];exact .inl ⟨60,by decide,rfl,rfl⟩
 rw[if_pos J,if_pos J]
 by_cases I:g.all (fun n=>n.2.2.1.all (inOk g))=true
 case neg=>rw[if_neg I,if_neg I];exact .inl ⟨80,by decide,rfl,rfl⟩
 rw[if_pos I,if_pos I,Qa,if_neg (by decide)]
 have Y:=ok_inc H
 have hfed:=fed_of I
 have ho:=own_of (by rw[ok_eq];exact H)
 have hlen:=W.1
 unfold sortP
 rcases order_sort W Y hfed (Qac g)with⟨l,h1,h2,h3,h4⟩|⟨h1,p,h2⟩
 case inr=>rw[h1,h2];exact .inl ⟨81,by decide,rfl,rfl⟩
 rw[h1,h2]
 simp only[Qa,Xk,Qz,if_false]
 have hplc:Plc g l:=Qew g g.length _ [] l h4 fun i p h=>by cases h
 rcases Qiq g l W Y hfed ho (by omega) hplc with⟨d,dm,d1,d2,d3,d4,d5,d6,d7,d8⟩|⟨d1,p,d2⟩
 case inr=>rw[d1,d2];exact .inl ⟨80,by decide,rfl,rfl⟩
 rw[d1,d2]
 simp only[Qa,Xk,Qz,if_false]
 obtain⟨b,t1,t2,t3⟩:=turns_same g d (Qac g,l.map (idAt g),dm) rfl W Y hfed ho d4 d3 d5
 rw[t1,Qgr g d W hfed ho d5]
 simp only[Qa]
 rw[Qhz g d W Y ho d4]
 simp only[Qa,t2]
 cases b with
 |true=>exact .inl ⟨81,by decide,rfl,rfl⟩
 |false=>exact .inr ⟨l,d,dm,rfl,rfl,Y,hfed,ho,d3,d4,d5,d6,hplc,h3,h4,d8,d7,fun sp h1 h2=>Bool.noConfusion (t3.2 ⟨sp,h1,h2⟩),I,H,J,by omega⟩
theorem Qdn (a b:Int):F.aL a b=some (if a<b then-1 else if b<a then 1 else 0):=by
 unfold F.aL F.c2
 simp only[Qa,ne_eq,not_true_eq_false,decide_false,Qz,if_false]
 split
 ·rfl
 ·split<;>rfl
def orF:List Int→Int
 | []=>0
 |x::r=>if x≠0 then x else orF r
theorem Or_eq (l:List Int)(J:l.length≤100):F.cA l=some (orF l):=by
 have loop:=A.lp0 l (fun f y=>F.cg l f y) (fun _ t=>some (orF t)) (fun f=>by rw[F.cg,if_neg (by omega)];rfl)
  (fun f k x H hk I=>by
   rw[F.cg,if_pos (by omega),A.ixn H,Qa,orF]
   by_cases h:x≠0
   ·rw[if_pos h,if_pos h]
   ·rw[if_neg h,if_neg h,A.gd1 (A.r64n (by omega)),I])
  (by have:=Qab;omega)
 exact loop
def cmpI (a b:Int):Int:=if a<b then-1 else if b<a then 1 else 0
def cmpP (p q:Pl):Int:=orF [cmpI p.1 q.1,cmpI p.2 q.2]
def cmpE (x y:Ed):Int:=orF [cmpP x.1 y.1,cmpP x.2.1 y.2.1]
theorem place_eq (p q:Pl):F.da p q=some (cmpP p q):=by
 unfold F.da
 rw[Qdn,Qa,Qdn,Qa,Or_eq _ (by simp),Qa];rfl
theorem Edges1_eq (x y:Ed):F.br x y=some (cmpE x y):=by
 unfold F.br
 rw[place_eq,Qa,place_eq,Qa,Or_eq _ (by simp),Qa];rfl
def ltP (p q:Pl):Prop:=p.1<q.1∨p.1=q.1∧p.2<q.2
def ltE (x y:Ed):Prop:=ltP x.1 y.1∨x.1=y.1∧ltP x.2.1 y.2.1
theorem Qig {a b:Int}(h:a<b):cmpI b a=1:=by unfold cmpI;rw[if_neg (by omega),if_pos h]
theorem Qch (a:Int):cmpI a a=0:=by unfold cmpI;rw[if_neg (by omega),if_neg (by omega)]
theorem cmpP_lt {p q:Pl}(h:ltP p q):cmpP q p=1:=by
 unfold cmpP
 rcases h with h|⟨H,I⟩
 ·rw[Qig h];rfl
 ·rw[H,Qch,Qig I];rfl
theorem cmpP_self (p:Pl):cmpP p p=0:=by
 unfold cmpP;rw[Qch,Qch];rfl
theorem cmpE_lt {x y:Ed}(h:ltE x y):cmpE y x=1:=by
 unfold cmpE
 rcases h with h|⟨H,I⟩
 ·rw[cmpP_lt h];rfl
 ·rw[H,cmpP_self,cmpP_lt I];rfl
def Od (l:List Ed):Prop:=l.Pairwise ltE
theorem Od.cmp {l:List Ed}(h:Od l){i j:Nat}(H:i<j)(I:j<l.length): ∃x y,l[i]?=some x∧l[j]?=some y∧cmpE y x=1:=by
 refine⟨l[i],l[j],Qd (by omega),Qd I,cmpE_lt ?_⟩
 exact Xx.1 h i j (by omega) I H
theorem Od.less {l:List Ed}(h:Od l){i j:Nat}(H:i<j)(I:j<l.length){β:Type}(K:Int→Option β):
  ((A.ix l (j:Int)).bind fun y=>(A.ix l (i:Int)).bind fun x=>(F.br y x).bind K)=K 1:=by
 obtain⟨x,y,J,O,W⟩:=h.cmp H I
 rw[A.ixn O,Qa,A.ixn J,Qa,Edges1_eq,Qa,W]
theorem ins_l2 {l:List Ed}(h:Od l)(O:l.length≤1000000)(H:Int→Option Unit)(a j:Nat)(J:j<l.length)(f:Nat):
  F.w H l (a:Int) (j:Int) (f+1)=H ((j:Int)+1):=by
 have e:F.l H l (j:Int) false=H ((j:Int)+1):=by
  unfold F.l
  rw[if_neg (by simp),A.gd1 (A.r64n (by omega))]
 rw[F.w]
 by_cases I:(a:Int)<(j:Int)
 ·rw[if_pos I,A.gd1 ⟨by omega,by omega⟩]
  obtain⟨i,rfl⟩: ∃i:Nat,j=i+1:=⟨j-1,by omega⟩
  rw[show(((i+1:Nat):Int)-1)=(i:Int) by omega]
  exact(h.less (i:=i) (j:=i+1) (by omega) J _).trans e
 ·rw[if_neg I];exact e
theorem ins_l3 {l:List Ed}(h:Od l)(H:l.length≤1000000)(a b:Nat)(O:b≤l.length): ∀(n j f:Nat),b≤j+n→n<f→
  F.f l (a:Int) (b:Int) f (j:Int)=some ()
 |n,j,0,W,I=>absurd I (by omega)
 |n,j,f+1,W,I=>by
  rw[F.f]
  by_cases J:(j:Int)<(b:Int)
  ·rw[if_pos J]
   obtain⟨m,Y⟩: ∃m,A.FU=m+1:=⟨A.FU-1,by have:=Qab;omega⟩
   rw[Y,ins_l2 h H _ a j (by omega) m]
   exact ins_l3 h H a b O (n-1) (j+1) f (by omega) (by omega)
  ·rw[if_neg J]
theorem ins_eq {l:List Ed}(h:Od l)(H:l.length≤1000000)(a b:Nat)(J:a≤l.length)(I:b≤l.length):F.o l (a:Int) (b:Int)=some ():=by
 unfold F.o
 rw[A.gd1 (A.r64n (by omega))]
 exact ins_l3 h H a b I b (a+1) A.FU (by omega) (by have:=Qab;omega)
theorem half (a b:Nat)(h:a+b≤100000000):IntKind.u64.wrap ((a:Int)+(b:Int)) / 2^((1:Int)).toNat=(((a+b) / 2:Nat):Int):=by
 rw[Z.u64_in _ (by omega)]
 show((a:Int)+(b:Int)) / 2=_
 omega
theorem r64h (a b:Nat)(h:a+b≤100000000):Z.R64 ((a:Int)+(b:Int))∧(0≤(1:Int)∧(1:Int)≤64)∧Z.R64 ((((a+b) / 2:Nat):Int)):=⟨⟨by omega,by omega⟩,⟨by omega,by omega⟩,⟨by omega,by omega⟩⟩
theorem r64i {x:Int}(h:0≤x∧x≤1000000000):Z.R64 x:=⟨by omega,by omega⟩
theorem sym_l1 (l:List Ed)(a m f:Nat)(H:a+1=m)(I:m≤1000000):F.aa l (a:Int) (m:Int) (f+1)=some ():=by
 rw[F.aa,A.gd1 (r64i (by omega)),if_neg (by omega)]
theorem sym_l2 {l:List Ed}(h:Od l)(O:l.length≤1000000)(a m:Nat)(H:a+1=m): ∀(n j f:Nat),m≤j→j≤l.length→j≤m+n→n<f→
  F.h l (a:Int) f (m:Int) (j:Int)=some ()
 |n,j,0,W,Y,hn,I=>absurd I (by omega)
 |n,j,f+1,W,Y,hn,I=>by
  rw[F.h]
  by_cases J:(m:Int)<(j:Int)
  ·rw[if_pos J,half m j (by omega),A.gd1 (r64h m j (by omega))]
   refine(h.less (i:=a) (j:=(m+j) / 2) (by omega) (by omega) _).trans ?_
   show(if(1:Int)<0 then _ else _)=_
   rw[if_neg (by decide)]
   exact sym_l2 h O a m H (n-1) ((m+j) / 2) f (by omega) (by omega) (by omega) (by omega)
  ·obtain⟨q,hq⟩: ∃q,A.FU=q+1:=⟨A.FU-1,by have:=Qab;omega⟩
   rw[if_neg J,hq,sym_l1 l a m q H (by omega)]
theorem sym_l4 {l:List Ed}(h:Od l)(O:l.length≤1000000)(m:Nat)(H:m<l.length): ∀(n i f:Nat),i≤m→m≤i+n→n<f→
  F.i l (m:Int) f (i:Int) (m:Int)=some ()
 |n,i,0,W,Y,I=>absurd I (by omega)
 |n,i,f+1,W,Y,I=>by
  rw[F.i]
  by_cases J:(i:Int)<(m:Int)
  ·rw[if_pos J,half i m (by omega),A.gd1 (r64h i m (by omega))]
   refine(h.less (i:=(i+m) / 2) (j:=m) (by omega) H _).trans ?_
   show(if(!decide ((1:Int)<0))=true then _ else _)=_
   rw[if_pos (by decide),A.gd1 (A.r64n (by omega))]
   exact sym_l4 h O m H (n-1) ((i+m) / 2+1) f (by omega) (by omega) (by omega)
  ·obtain⟨q,hq⟩: ∃q,A.FU=q+1:=⟨A.FU-1,by have:=Qab;omega⟩
   obtain rfl:i=m:=by omega
   rw[if_neg J,hq,F.an,if_neg (by omega)]
theorem sym_l6 {l:List Ed}(h:Od l)(J:l.length≤1000000)(rc:List Ed→Int→Int→Int→Option Unit)(a m b mid r s:Nat)(hmid:(a+b) / 2=mid)(O:a≤1000000)(W:b≤1000000)(Y:r≤1000000)(hm:m≤1000000)
  (hp: ∀c,s≤c→c<r→c<mid+m-1-c∧mid+m-1-c<l.length) (H:F.b l (a:Int) (m:Int) (b:Int) rc 1 (r:Int) (r:Int)=some ()): ∀(n c f:Nat),s≤c→c≤r→r≤c+n→n<f→
  F.b l (a:Int) (m:Int) (b:Int) rc f (c:Int) (r:Int)=some ()
 |n,c,0,hs,hi,hn,I=>absurd I (by omega)
 |n,c,f+1,hs,hi,hn,I=>by
  by_cases hc:c<r
  ·obtain⟨p1,p2⟩:=hp ((c+r) / 2) (by omega) (by omega)
   rw[F.b,if_pos (by omega),half c r (by omega),half a b (by omega),hmid,A.gd1 (r64h c r (by omega)),show((((mid:Nat):Int)+(m:Int))-1)-(((c+r) / 2:Nat):Int)=((mid+m-1-(c+r) / 2:Nat):Int) by omega,A.gd1 (r64i (by omega))]
   refine(h.less (i:=(c+r) / 2) (j:=mid+m-1-(c+r) / 2) p1 p2 _).trans ?_
   show(if(!decide ((1:Int)<0))=true then _ else _)=_
   rw[if_pos (by decide),A.gd1 (A.r64n (by omega))]
   exact sym_l6 h J rc a m b mid r s hmid O W Y hm hp H (n-1) ((c+r) / 2+1) f (by omega) (by omega) (by omega) (by omega)
  ·obtain rfl:c=r:=by omega
   rw[F.b,if_neg (by omega)]at H ⊢
   exact H
theorem sym_eq {l:List Ed}(h:Od l)(H:l.length≤1000000): ∀(n f a m b:Nat),a<m→m<b→b≤l.length→b≤a+n→n<f→
  F.c f l (a:Int) (m:Int) (b:Int)=some ()
 |n,0,a,m,b,J,O,I,Y,W=>absurd W (by omega)
 |n,f+1,a,m,b,J,O,I,Y,W=>by
  have hFU:=Qab
  rw[F.c,F.ax,A.gd1 (r64i (by omega))]
  by_cases c1:(m:Int)-(a:Int)=1
  ·rw[if_pos c1]
   exact sym_l2 h H a m (by omega) b b A.FU (by omega) I (by omega) (by omega)
  rw[if_neg c1,A.gd1 (r64i (by omega))]
  by_cases c2:(b:Int)-(m:Int)=1
  ·rw[if_pos c2]
   exact sym_l4 h H m (by omega) m a A.FU (by omega) (by omega) (by omega)
  rw[if_neg c2,half a b (by omega),A.gd1 (r64h a b (by omega)),A.gd1 (r64i (by omega))]
  generalize hmid:(a+b) / 2=mid
  by_cases c3:(mid:Int)<(m:Int)
  ·rw[if_pos c3,A.gd1 (r64i (by omega)),F.p,half a b (by omega),hmid,A.gd1 (r64i (by omega)),show(mid:Int)+(m:Int)-(b:Int)=((mid+m-b:Nat):Int) by omega]
   refine sym_l6 h H (F.c f) a m b mid mid (mid+m-b) hmid (by omega) (by omega) (by omega) (by omega) (fun c g1 g2=>⟨by omega,by omega⟩) ?_ mid (mid+m-b) A.FU (by omega) (by omega) (by omega) (by omega)
   rw[F.b,if_neg (by omega),half a b (by omega),hmid,A.gd1 (r64i (by omega)),show(mid:Int)+(m:Int)-(mid:Int)=(m:Int) by omega,A.ba,A.ba,if_neg (by rw[decide_eq_true_iff];omega),if_neg (by rw[decide_eq_true_iff];omega),F.j,half a b (by omega),hmid,show(mid:Int)+(m:Int)-(mid:Int)=(m:Int) by omega,A.ba,if_pos (by rw[decide_eq_true_iff];omega),sym_eq h H (n-1) f mid m b (by omega) O I (by omega) (by omega),Qa]
  ·rw[if_neg c3,F.p,half a b (by omega),hmid,A.gd1 (r64i (by omega))]
   refine sym_l6 h H (F.c f) a m b mid m a hmid (by omega) (by omega) (by omega) (by omega) (fun c g1 g2=>⟨by omega,by omega⟩) ?_ m a A.FU (by omega) (by omega) (by omega) (by omega)
   have e5:F.j l (a:Int) (m:Int) (b:Int) (F.c f) (m:Int)=some ():=by
    rw[F.j,half a b (by omega),hmid,A.ba,if_neg (by rw[decide_eq_true_iff];omega)]
   rw[F.b,if_neg (by omega),half a b (by omega),hmid,A.gd1 (r64i (by omega)),A.ba,A.ba,if_neg (by rw[decide_eq_true_iff];omega),e5]
   by_cases c4:(m:Int)<(mid:Int)
   ·rw[if_pos (by rw[decide_eq_true_iff];omega),sym_eq h H (n-1) f a m mid J (by omega) (by omega) (by omega) (by omega),Qa]
   ·rw[if_neg (by rw[decide_eq_true_iff];omega)]
theorem stb_l2 {l:List Ed}(h:Od l)(H:l.length≤1000000)(k12:Int→Option Unit)(s:Nat)(hs:0<s)(I:s<l.length)(hk:k12 ((s*2:Nat):Int)=some ()): ∀(n a f:Nat),l.length≤a+n→n<f→a≤l.length→
  F.t k12 l (l.length:Int) (s:Int) f (a:Int) ((a+2*s:Nat):Int)=some ()
 |n,a,0,hn,J,ha=>absurd J (by omega)
 |n,a,f+1,hn,J,ha=>by
  have hFU:=Qab
  have O:F.s k12 (s:Int)=some ():=by
   rw[F.s,A.gd1 (r64i (by omega)),show(s:Int)*2=((s*2:Nat):Int) by omega,hk]
  rw[F.t]
  by_cases W:((a+2*s:Nat):Int)≤(l.length:Int)
  ·rw[if_pos W,A.gd1 (r64i (by omega)),show(a:Int)+(s:Int)=((a+s:Nat):Int) by omega,sym_eq h H l.length A.FU a (a+s) (a+2*s) (by omega) (by omega) (by omega) (by omega) (by omega),Qa,A.gd1 ⟨r64i (by omega),r64i (by omega)⟩,show((a+2*s:Nat):Int)+2*(s:Int)=((a+2*s+2*s:Nat):Int) by omega]
   exact stb_l2 h H k12 s hs I hk (n-1) (a+2*s) f (by omega) (by omega) (by omega)
  ·rw[if_neg W,A.gd1 (r64i (by omega)),show(a:Int)+(s:Int)=((a+s:Nat):Int) by omega]
   by_cases Y:((a+s:Nat):Int)<(l.length:Int)
   ·rw[if_pos Y,sym_eq h H l.length A.FU a (a+s) l.length (by omega) (by omega) (by omega) (by omega) (by omega),Qa,O]
   ·rw[if_neg Y,O]
theorem stb_l3 {l:List Ed}(h:Od l)(H:l.length≤1000000): ∀(n s f:Nat),0<s→l.length≤s+n→n<f→
  F.g l (l.length:Int) f (s:Int)=some ()
 |n,s,0,I,W,J=>absurd J (by omega)
 |n,s,f+1,I,W,J=>by
  have hFU:=Qab
  rw[F.g]
  by_cases O:(s:Int)<(l.length:Int)
  ·rw[if_pos O,A.gd1 (r64i (by omega)),show 2*(s:Int)=((0+2*s:Nat):Int) by omega]
   exact stb_l2 h H _ s I (by omega) (stb_l3 h H (n-1) (s*2) f (by omega) (by omega) (by omega)) l.length 0 A.FU (by omega) (by omega) (by omega)
  ·rw[if_neg O]
theorem stb_l4 {l:List Ed}(h:Od l)(H:l.length≤1000000): ∀(n a f:Nat),l.length≤a+n→n<f→a≤l.length→
  F.u l (l.length:Int) f (a:Int) ((a+20:Nat):Int)=some ()
 |n,a,0,O,I,W=>absurd I (by omega)
 |n,a,f+1,O,I,W=>by
  have hFU:=Qab
  rw[F.u]
  by_cases J:((a+20:Nat):Int)≤(l.length:Int)
  ·rw[if_pos J,ins_eq h H a (a+20) (by omega) (by omega),Qa,A.gd1 (r64i (by omega)),show((a+20:Nat):Int)+20=((a+20+20:Nat):Int) by omega]
   exact stb_l4 h H (n-1) (a+20) f (by omega) (by omega) (by omega)
  ·rw[if_neg J,ins_eq h H a l.length (by omega) (by omega),Qa]
   exact stb_l3 h H l.length 20 A.FU (by omega) (by omega) (by omega)
theorem sorted_eq {l:List Ed}(h:Od l)(H:l.length≤1000000):F.x l=some ():=by
 unfold F.x F.aA
 have hFU:=Qab
 have e:=stb_l4 h H l.length 0 A.FU (by omega) (by omega) (by omega)
 rw[show(20:Int)=((0+20:Nat):Int) by rfl,show(0:Int)=((0:Nat):Int) by rfl,e];rfl
theorem useN_memO (id nd:Int): ∀(k:Nat) (l:List Int) (u:Pl),u∈useN id nd k l→u.1=nd∧(k:Int)≤u.2
 |_,[],u,h=>by cases h
 |k,z::r,u,h=>by
  unfold useN at h
  split at h
  ·rcases Qk.1 h with rfl|h
   ·exact⟨rfl,Xi _⟩
   ·have:=useN_memO id nd (k+1) r u h;exact⟨this.1,by have:=this.2;omega⟩
  ·have:=useN_memO id nd (k+1) r u h;exact⟨this.1,by have:=this.2;omega⟩
theorem Qiv (id nd:Int): ∀(k:Nat) (l:List Int),(useN id nd k l).Pairwise ltP
 |_,[]=>List.Pairwise.nil
 |k,z::r=>by
  unfold useN
  split
  ·refine Wv.2 ⟨fun u h=>?_,Qiv id nd (k+1) r⟩
   have:=useN_memO id nd (k+1) r u h
   exact .inr ⟨this.1.symm,by have:=this.2;show(k:Int)<u.2;omega⟩
  ·exact Qiv id nd (k+1) r
theorem Qek (id:Int): ∀(l:List Nd) (u:Pl),u∈Qar id l→∃n∈l,u.1=n.1
 | [],u,h=>by cases h
 |n::r,u,h=>by
  unfold Qar at h
  rcases Qn.1 h with h|h
  ·exact⟨n,Qf ..,(useN_memO id n.1 0 n.2.2.1 u h).1⟩
  ·obtain⟨m,H,I⟩:=Qek id r u h;exact⟨m,Qe _ H,I⟩
theorem usesF_od (id:Int): ∀(l:List Nd),Inc l→(Qar id l).Pairwise ltP
 | [],_=>List.Pairwise.nil
 |n::r,h=>by
  have h':=Wv.1 h
  unfold Qar
  refine Yz.2 ⟨Qiv id n.1 0 n.2.2.1,usesF_od id r h'.2,fun a H b I=>.inl ?_⟩
  obtain⟨m,J,O⟩:=Qek id r b I
  rw[(useN_memO id n.1 0 n.2.2.1 a H).1,O];exact h'.1 m J
theorem Qdc (g:List Nd)(d:List Int)(n:Nd): ∀(k:Nat) (l:List Int) (e:Ed),e∈inE g d n k l→e.1.1=n.1∧(k:Int)≤e.1.2∧e.1.2<(k:Int)+l.length
 |_,[],e,h=>by cases h
 |k,z::r,e,h=>by
  unfold inE at h
  rcases Qk.1 h with rfl|h
  ·refine⟨rfl,Xi _,?_⟩
   rw[Qh];show(k:Int)<_;omega
  ·have:=Qdc g d n (k+1) r e h
   rw[Qh]
   exact⟨this.1,by omega,by omega⟩
theorem inE_od (g:List Nd)(d:List Int)(n:Nd): ∀(k:Nat) (l:List Int),(inE g d n k l).Pairwise ltE
 |_,[]=>List.Pairwise.nil
 |k,z::r=>by
  unfold inE
  refine Wv.2 ⟨fun e h=>.inl (.inr ?_),inE_od g d n (k+1) r⟩
  have:=Qdc g d n (k+1) r e h
  exact⟨this.1.symm,by show(k:Int)<e.1.2;omega⟩
theorem Qbo (g:List Nd)(d:List Int): ∀(i:Nat) (l:List Nd) (e:Ed),e∈edgesF g d i l→∃n∈l,e.1.1=n.1
 |_,[],e,h=>by cases h
 |i,n::r,e,h=>by
  unfold edgesF at h
  split at h
  ·obtain⟨m,H,I⟩:=Qbo g d (i+1) r e h;exact⟨m,Qe _ H,I⟩
  ·rcases Qn.1 h with h|h
   ·exact⟨n,Qf ..,(Qdc g d n 0 n.2.2.1 e h).1⟩
   ·rcases Qn.1 h with h|h
    ·unfold outE at h
     obtain⟨u,_,rfl⟩:=Qv.1 h
     exact⟨n,Qf ..,rfl⟩
    ·obtain⟨m,H,I⟩:=Qbo g d (i+1) r e h;exact⟨m,Qe _ H,I⟩
theorem Qhp (g:List Nd)(d:List Int)(O:Inc g): ∀(i:Nat) (l:List Nd),Inc l→(∀n∈l,n.2.2.1.length≤2)→Od (edgesF g d i l)
 |_,[],_,_=>List.Pairwise.nil
 |i,n::r,h,W=>by
  have h':=Wv.1 h
  have Y:=Qhp g d O (i+1) r h'.2 fun m hm=>W m (Qe _ hm)
  have hn2:=W n (Qf ..)
  unfold edgesF
  split
  ·exact Y
  ·have later: ∀(a:Ed),a.1.1=n.1→∀b,b∈edgesF g d (i+1) r→ltE a b:=fun a I b H=>by
    obtain⟨m,h3,h4⟩:=Qbo g d (i+1) r b H
    exact .inl (.inl (by rw[I,h4];exact h'.1 m h3))
   have out: ∀b,b∈outE g n (iget d (i:Int))→b.1=(n.1,2):=fun b H=>by
    unfold outE at H;obtain⟨u,_,rfl⟩:=Qv.1 H;rfl
   refine Yz.2 ⟨inE_od g d n 0 n.2.2.1,Yz.2 ⟨?_,Y,fun a I b H=>later a (by rw[out a I]) b H⟩,fun a I b H=>?_⟩
   ·unfold outE
    exact Ja.2 ((usesF_od n.1 g O).imp fun {a b} J=>.inr ⟨rfl,J⟩)
   ·have ha':=Qdc g d n 0 n.2.2.1 a I
    rcases Qn.1 H with H|H
    ·rw[ltE,out b H]
     exact .inl (.inr ⟨ha'.1,by show a.1.2<2;omega⟩)
    ·exact later a ha'.1 b H
theorem Qet (g:List Nd)(d:List Int): ∀(i:Nat) (l:List Nd),g.length≤100→(∀n∈g,n.2.2.1.length≤2)→(∀n∈l,n.2.2.1.length≤2)→(edgesF g d i l).length≤300*l.length
 |_,[],_,_,_=>Xn _
 |i,n::r,J,H,I=>by
  have W:=Qet g d (i+1) r J H fun m O=>I m (Qe _ O)
  have Y:=I n (Qf ..)
  have hu:=Qax n.1 g H
  unfold edgesF
  rw[Qh]
  split
  ·omega
  ·rw[Qm,Qm,Qfu,outE,Qw];omega
theorem Qey (g:List Nd)(done:List Bool): ∀(r:List Nd) (i:Nat) (a:Int),0≤Qad g done i r a→(0≤a∧Qad g done i r a=a)∨(∃j:Nat,Qad g done i r a=(j:Int)∧j<i+r.length∧bget done (j:Int)=false)
 | [],i,a,h=>.inl ⟨h,rfl⟩
 |x::r,i,a,h=>by
  unfold Qad at h ⊢
  rcases Qey g done r (i+1) _ h with⟨I,H⟩|⟨j,I,H,O⟩
  ·by_cases J:(a<0∧bget done i=false)∧ready g done x=true
   ·rw[if_pos J]at H ⊢
    exact .inr ⟨i,H,by simp only[Qh];omega,J.1.2⟩
   ·rw[if_neg J]at I H ⊢
    exact .inl ⟨I,H⟩
  ·exact .inr ⟨j,I,by simp only[Qh];omega,O⟩
theorem Qge (l:List Bool)(j k:Nat)(H:j<l.length):bget (l.set j true) (k:Int)=if j=k then true else bget l (k:Int):=by
 unfold bget
 rw[Qs,Y9]
 by_cases h:j=k
 ·subst h;simp[H]
 ·rw[if_neg h,if_neg h]
theorem Qeb (g:List Nd): ∀(r:Nat) (done:List Bool) (acc l:List Int),Qaq g r done acc=some l→done.length=g.length→acc.Nodup→(∀p∈acc,∃j:Nat,p=(j:Int)∧bget done (j:Int)=true)→l.Nodup
 |0,done,acc,l,h,_,H,_=>by unfold Qaq at h;injection h with h;subst h;exact H
 |r+1,done,acc,l,h,hd,H,J=>by
  unfold Qaq at h
  split at h
  ·cases h
  ·rename_i h0
   rcases Qey g done g 0 (-1) (by omega)with⟨O,_⟩|⟨j,O,h2,W⟩
   ·omega
   ·rw[O,Qs]at h
    refine Qeb g r _ _ l h (by rw[W5];exact hd) ?_ fun p hp=>?_
    ·rw[Wz]
     refine⟨H,by simp,fun a ha' b Y=>?_⟩
     rw[Qj]at Y
     obtain⟨i,e,I⟩:=J a ha'
     intro e2
     rw[e,Y]at e2
     have:i=j:=by omega
     subst this
     rw[I]at W;cases W
    ·rcases Qn.1 hp with hp|hp
     ·obtain⟨i,e,I⟩:=J p hp
      exact⟨i,e,by rw[Qge _ _ _ (by omega)];split<;>first|rfl|exact I⟩
     ·rw[Qj]at hp
      exact⟨j,hp,by rw[Qge _ _ _ (by omega),if_pos rfl]⟩
theorem Whole.all {g:List Nd}{l d:List Int}{dm:List (Int×Int)}(W:Whole g l d dm){j:Nat}(I:j<g.length):(j:Int)∈l:=by
 have J:=Qeb g _ _ [] l W.ord (by simp) (by simp) (by simp)
 by_cases h:(j:Int)∈l
 ·exact h
 ·exfalso
  have O:=nodup_len (l:=(j:Int)::l) (m:=(List.range g.length).map Int.ofNat) (Wk.2 ⟨h,J⟩) fun x H=>by
   rcases Qk.1 H with rfl|H
   ·exact Qv.2 ⟨j,Xg.2 I,rfl⟩
   ·obtain⟨i,Y,e⟩:=Xe H
    obtain⟨k,n,e2,hk⟩:=W.plc i x (by rw[Qd Y,e])
    exact Qv.2 ⟨k,Xg.2 (Qc.1 hk).1,e2.symm⟩
  rw[Qh,Qw,Xz,W.llen]at O
  omega
theorem o_a8 (g:List Nd)(done:List Bool): ∀(r k:Nat) (a:Int),k+r=g.length→0≤Qad g done k (g.drop k) a→(0≤a∧Qad g done k (g.drop k) a=a)∨∃(j:Nat) (n:Nd),Qad g done k (g.drop k) a=(j:Int)∧g[j]?=some n∧bget done (j:Int)=false∧ready g done n=true
 |0,k,a,hk,h=>by rw[Q2 (by omega)]at h ⊢;exact .inl ⟨h,rfl⟩
 |r+1,k,a,hk,h=>by
  have O:g[k]?=some g[k]:=Qd (by omega)
  rw[firstF_x O]at h ⊢
  rcases o_a8 g done r (k+1) _ (by omega) h with⟨H,I⟩|H
  ·by_cases J:(a<0∧bget done k=false)∧ready g done g[k]=true
   ·rw[if_pos J]at I ⊢;exact .inr ⟨k,g[k],I,O,J.1.2,J.2⟩
   ·rw[if_neg J]at H I ⊢;exact .inl ⟨H,I⟩
  ·exact .inr H
theorem Qfc (g:List Nd)(done:List Bool)(kd:Int): ∀l:List Int,Qdt g done kd l=true↔(kd≠14→∀k∈l,bget done (idx g k)=true)
 | []=>⟨fun _ _ k hk=>(by cases hk),fun _=>rfl⟩
 |k::r=>by
  unfold Qdt
  by_cases h:kd≠14∧bget done (idx g k)=false
  ·rw[if_pos h]
   refine⟨fun h=>(by cases h),fun H=>?_⟩
   have:=H h.1 k (Qf ..)
   rw[h.2]at this;cases this
  ·rw[if_neg h,Qfc g done kd r]
   refine⟨fun H J x I=>?_,fun H J x I=>H J x (Qe _ I)⟩
   rcases Qk.1 I with rfl|I
   ·cases O:bget done (idx g x)with
    |true=>rfl
    |false=>exact absurd ⟨J,O⟩ h
   ·exact H J x I
def OrdOk (g:List Nd)(l:List Int):Prop:=∀(i:Nat) (p:Int),l[i]?=some p→∃(j:Nat) (n:Nd),p=(j:Int)∧g[j]?=some n∧(n.2.1≠14→∀k∈n.2.2.1,idx g k∈l.take i)
structure Syn (g:List Nd) (done:List Bool) (l:List Int):Prop where
 len:done.length=g.length
 nod:l.Nodup
 syn: ∀j:Nat,j<g.length→(bget done (j:Int)=true↔(j:Int)∈l)
 ord:OrdOk g l
theorem Syn.zero (g:List Nd):Syn g (List.replicate g.length false) []:=by
 refine⟨by simp,X5,fun j H=>?_,fun i p h=>by cases h⟩
 unfold bget
 rw[Qs,Xa,if_pos H];simp
theorem Syn.step {g:List Nd}{done:List Bool}{l:List Int}(h:Syn g done l)(hf:Fed g){j:Nat}{n:Nd}(W:g[j]?=some n)(hb:bget done (j:Int)=false)(hr:ready g done n=true):Syn g (done.set j true) (l++[(j:Int)]):=by
 have hj:=(Qc.1 W).1
 have Y:(j:Int)∉l:=fun hm=>by rw[(h.syn j hj).2 hm]at hb;cases hb
 refine⟨by rw[W5];exact h.len,?_,fun i hi=>?_,fun i p hp=>?_⟩
 ·rw[Wz]
  refine⟨h.nod,by simp,fun a ha b J=>?_⟩
  rw[Qj]at J
  intro e;rw[e,J]at ha;exact Y ha
 ·rw[Qge _ _ _ (by rw[h.len];exact hj),Qn,Qj]
  by_cases e:j=i
  ·subst e;simp
  ·rw[if_neg e,h.syn i hi]
   exact⟨.inl,fun h2=>h2.elim (fun I=>I) (fun I=>absurd I (by omega))⟩
 ·by_cases hil:i<l.length
  ·rw[Q7 hil]at hp
   obtain⟨k,m,e1,e2,e3⟩:=h.ord i p hp
   refine⟨k,m,e1,e2,fun H x O=>?_⟩
   rw[Xy (by omega)];exact e3 H x O
  ·have hi2:i=l.length:=by
    have:=(Qc.1 hp).1
    simp only[Qm,Qh,Qx]at this;omega
   subst hi2
   rw[Wf (Q1 _),Nat.sub_self]at hp
   injection hp with hp
   refine⟨j,n,hp.symm,W,fun H x O=>?_⟩
   rw[List.take_left]
   have h0:=hf n (Qg W) x O
   obtain⟨m,e1,_,_⟩:=idx_get h0
   have h2:=(Qfc g done n.2.1 n.2.2.1).1 hr H x O
   have I:=(h.syn _ (Qc.1 e1).1)
   rw[Wp h0]at I
   exact I.1 h2
theorem Qgt (g:List Nd)(H:Fed g): ∀(r:Nat) (done:List Bool) (l l':List Int),Syn g done l→Qaq g r done l=some l'→∃done',Syn g done' l'
 |0,done,l,l',h,e=>by unfold Qaq at e;injection e with e;subst e;exact⟨done,h⟩
 |r+1,done,l,l',h,e=>by
  unfold Qaq at e
  split at e
  ·cases e
  ·rename_i Y
   have hk:=o_a8 g done g.length 0 (-1) (by omega) (by rw[Wa];omega)
   rw[Wa]at hk
   rcases hk with⟨I,_⟩|⟨j,n,I,J,O,W⟩
   ·omega
   ·rw[I,Qs]at e
    exact Qgt g H r _ _ l' (h.step H J O W) e
theorem Whole.syn {g:List Nd}{l d:List Int}{dm:List (Int×Int)}(W:Whole g l d dm): ∃done,Syn g done l:=Qgt g W.fed _ _ _ l (Syn.zero g) W.ord
def dOf (g:List Nd)(d:List Int)(k:Int):Int:=iget d (idx g k)
theorem depthOf_14 {n:Nd}(h:n.2.1=14)(a b:List Int):depthOf n a=depthOf n b:=by unfold depthOf Qcr;rw[if_pos h,if_pos h]
theorem inc_idx {g:List Nd}(H:Inc g){j:Nat}{n:Nd}(I:g[j]?=some n):idx g n.1=(j:Int):=H.idx I
theorem Qfj (d:List Int)(j k:Nat)(v:Int)(H:j<d.length):iget (d.set j v) (k:Int)=if j=k then v else iget d (k:Int):=by
 unfold iget
 rw[Qs,Y9]
 by_cases h:j=k
 ·subst h;simp[H]
 ·rw[if_neg h,if_neg h]
theorem at_nat {g:List Nd}{j:Nat}{n:Nd}(H:g[j]?=some n):at_ g (j:Int)=n:=Qav rfl H
theorem Qer {g:List Nd}{l:List Int}(hf:Fed g)(ho:OrdOk g l)(O:l.Nodup): ∀(r k:Nat) (d d':List Int),k+r=l.length→d.length=g.length→Qal g (l.drop k) d=some d'→d'.length=g.length∧(∀j:Nat,(j:Int)∈l.take k→iget d' (j:Int)=iget d (j:Int))∧∀(i:Nat) (j:Nat) (n:Nd),k≤i→l[i]?=some (j:Int)→g[j]?=some n→iget d' (j:Int)=depthOf n (n.2.2.1.map (dOf g d'))∧0≤iget d' (j:Int)
 |0,k,d,d',hk,hd,h=>by
  rw[Q2 (by omega)]at h
  injection h with h;subst h
  exact⟨hd,fun j _=>rfl,fun i j n hi I _=>by have:=(Qc.1 I).1;omega⟩
 |r+1,k,d,d',hk,hd,h=>by
  have J:l[k]?=some l[k]:=Qd (by omega)
  obtain⟨j,n,W,hn,hin⟩:=ho k _ J
  have hj:=(Qc.1 hn).1
  rw[depthsF_x (n:=n) J (by rw[W];exact at_nat hn)]at h
  split at h
  ·cases h
  rename_i h0
  rw[W,Qs]at h
  obtain⟨a1,a2,a3⟩:=Qer hf ho O r (k+1) _ d' (by omega) (by rw[W5];exact hd) h
  have Y:(j:Int)∈l.take (k+1):=by rw[Qcs J,W];simp
  have hjk:(j:Int)∉l.take k:=fun hm=>by
   have h3:=O
   rw[←Xd k l,Wz]at h3
   refine h3.2.2 _ hm (j:Int) ?_ rfl
   rw[A.dropx J,W];simp
  have keep: ∀i:Nat,(i:Int)∈l.take k→iget d' (i:Int)=iget d (i:Int):=fun i hi=>by
   rw[a2 i (by rw[Qcs J];exact Q6 _ hi),Qfj _ _ _ _ (by omega),if_neg (fun e=>hjk (by rw[e];exact hi))]
  have hjv:iget d' (j:Int)=depthOf n (n.2.2.1.map (dOf g d')):=by
   rw[a2 j Y,Qfj _ _ _ _ (by omega),if_pos rfl]
   by_cases h14:n.2.1=14
   ·exact depthOf_14 h14 _ _
   ·congr 1
    refine List.map_congr_left fun x hx2=>?_
    have h4:=hin h14 x hx2
    have h5:=hf n (Qg hn) x hx2
    unfold dOf
    have h6:=keep (idx g x).toNat
    rw[Wp h5]at h6
    exact(h6 h4).symm
  have hj0:0≤iget d' (j:Int):=by
   rw[a2 j Y,Qfj _ _ _ _ (by omega),if_pos rfl];omega
  refine⟨a1,keep,fun i j2 n2 hi I H=>?_⟩
  by_cases hik:i=k
  ·subst hik
   rw[J,W]at I;injection I with I
   have:j=j2:=by omega
   subst this
   rw[hn]at H;injection H with H;subst H
   exact⟨hjv,hj0⟩
  ·exact a3 i j2 n2 (by omega) I H
theorem Whole.fix {g:List Nd}{l d:List Int}{dm:List (Int×Int)}(W:Whole g l d dm){n:Nd}(J:n∈g):dOf g d n.1=depthOf n (n.2.2.1.map (dOf g d))∧0≤dOf g d n.1:=by
 obtain⟨done,S⟩:=W.syn
 obtain⟨j,H,e⟩:=Xe J
 have I:g[j]?=some n:=by rw[Qd H,e]
 obtain⟨i,O,Y⟩:=Xe (W.all H)
 have h:=Qer W.fed S.ord S.nod l.length 0 (List.replicate g.length 0) d (by omega) (by simp) (by rw[Wa];exact W.dep)
 have:=h.2.2 i j n (Xn _) (by rw[Qd O,Y]) I
 unfold dOf
 rw[inc_idx W.inc I];exact this
def F.b1 (a:Int×Int×Int×Int×(Int×Int×Int×Int)):Option Int:=(F.ac a).bind fun r=>if r≠0 then some 0 else some (a.2.1+a.2.2.2.1)
theorem Qgl (g:List Nd)(d:List Int)(id:Int): ∀(k:Nat) (l:List Int) (j:Nat) (z:Int),l[j]?=some z→((id,((k+j:Nat):Int)),iget d (idx g z))∈insS g d id k l
 |_,[],j,z,h=>by simp at h
 |k,y::r,j,z,h=>by
  unfold insS
  cases j with
  |zero=>simp at h;subst h;exact Qf ..
  |succ j=>
   have:=Qgl g d id (k+1) r j z (by simpa using h)
   rw[show k+1+j=k+(j+1) by omega]at this
   exact Qe _ this
theorem spotsF_outP {g:List Nd}(d:List Int): ∀(i:Nat) (l:List Nd) (j:Nat) (n:Nd),l[j]?=some n→n.2.1≠15→((n.1,2),iget d ((i+j:Nat):Int))∈spotsF g d i l
 |_,[],j,n,h,_=>by simp at h
 |i,m::r,j,n,h,H=>by
  unfold spotsF
  cases j with
  |zero=>
   simp at h;subst h
   exact Q8 _ (Q6 _ (by unfold outS;rw[if_pos H];exact Yc _))
  |succ j=>
   have:=spotsF_outP (g:=g) d (i+1) r j n (by simpa using h) H
   rw[show i+1+j=i+(j+1) by omega]at this
   exact Q8 _ (Q8 _ this)
theorem useN_inv (id nd:Int): ∀(k:Nat) (l:List Int) (u:Pl),u∈useN id nd k l→∃j:Nat,u=(nd,((k+j:Nat):Int))∧l[j]?=some id
 |_,[],u,h=>by cases h
 |k,z::r,u,h=>by
  have go:u∈useN id nd (k+1) r→∃j:Nat,u=(nd,((k+j:Nat):Int))∧(z::r)[j]?=some id:=fun h=>by
   obtain⟨j,H,I⟩:=useN_inv id nd (k+1) r u h
   exact⟨j+1,by rw[H,show k+1+j=k+(j+1) by omega],by simpa using I⟩
  unfold useN at h
  split at h
  ·rename_i J
   rcases Qk.1 h with rfl|h
   ·exact⟨0,rfl,by rw[←J];rfl⟩
   ·exact go h
  ·exact go h
theorem Qhm (id:Int): ∀(l:List Nd) (u:Pl),u∈Qar id l→∃n∈l,∃j:Nat,u=(n.1,(j:Int))∧n.2.2.1[j]?=some id
 | [],u,h=>by cases h
 |n::r,u,h=>by
  unfold Qar at h
  rcases Qn.1 h with h|h
  ·obtain⟨j,H,I⟩:=useN_inv id n.1 0 n.2.2.1 u h
   rw[Wc]at H
   exact⟨n,Qf ..,j,H,I⟩
  ·obtain⟨m,H,I⟩:=Qhm id r u h
   exact⟨m,Qe _ H,I⟩
theorem Qij (g:List Nd)(d:List Int)(n:Nd): ∀(k:Nat) (l:List Int) (e:Ed),e∈inE g d n k l→∃(j:Nat) (z:Int),l[j]?=some z∧e=((n.1,((k+j:Nat):Int)),(n.1,2),Qaj n (iget d (idx g z)))
 |_,[],e,h=>by cases h
 |k,z::r,e,h=>by
  unfold inE at h
  rcases Qk.1 h with rfl|h
  ·exact⟨0,z,rfl,rfl⟩
  ·obtain⟨j,y,H,I⟩:=Qij g d n (k+1) r e h
   exact⟨j+1,y,by simpa using H,by rw[I,show k+1+j=k+(j+1) by omega]⟩
theorem Qcn {g:List Nd}(d:List Int): ∀(i:Nat) (l:List Nd) (e:Ed),e∈edgesF g d i l→∃(j:Nat) (n:Nd),l[j]?=some n∧n.2.1≠15∧(e∈inE g d n 0 n.2.2.1∨e∈outE g n (iget d ((i+j:Nat):Int)))
 |_,[],e,h=>by cases h
 |i,n::r,e,h=>by
  have go:e∈edgesF g d (i+1) r→∃(j:Nat) (m:Nd),(n::r)[j]?=some m∧m.2.1≠15∧(e∈inE g d m 0 m.2.2.1∨e∈outE g m (iget d ((i+j:Nat):Int))):=fun h=>by
   obtain⟨j,m,J,O,I⟩:=Qcn d (i+1) r e h
   rw[show i+1+j=i+(j+1) by omega]at I
   exact⟨j+1,m,by simpa using J,O,I⟩
  unfold edgesF at h
  split at h
  ·exact go h
  ·rename_i H
   rcases Qn.1 h with h|h
   ·exact⟨0,n,rfl,H,.inl h⟩
   ·rcases Qn.1 h with h|h
    ·exact⟨0,n,rfl,H,.inr h⟩
    ·exact go h
theorem EndsId (d:Int)(H:0≤d∧d≤4):(idP d).1.1=d∧F.b1 (idP d).1=some d:=five (P:=fun d=>(idP d).1.1=d∧F.b1 (idP d).1=some d) ⟨rfl,by kernel_rfl⟩ ⟨rfl,by kernel_rfl⟩ ⟨rfl,by kernel_rfl⟩ ⟨rfl,by kernel_rfl⟩ ⟨rfl,by kernel_rfl⟩ d H
theorem Qgp (d:Int)(H:0≤d∧d≤4):d≤3→(Qap d).1.1=d∧F.b1 (Qap d).1=some (d+1):=five (P:=fun d=>d≤3→(Qap d).1.1=d∧F.b1 (Qap d).1=some (d+1)) (fun _=>⟨rfl,by kernel_rfl⟩) (fun _=>⟨rfl,by kernel_rfl⟩) (fun _=>⟨rfl,by kernel_rfl⟩) (fun _=>⟨rfl,by kernel_rfl⟩) (fun h=>absurd h (by decide)) d H
theorem Qgy (d:Int)(H:0≤d∧d≤4):1≤d→(Qas d).1.1=d∧F.b1 (Qas d).1=some (d-1):=five (P:=fun d=>1≤d→(Qas d).1.1=d∧F.b1 (Qas d).1=some (d-1)) (fun h=>absurd h (by decide)) (fun _=>⟨rfl,by kernel_rfl⟩) (fun _=>⟨rfl,by kernel_rfl⟩) (fun _=>⟨rfl,by kernel_rfl⟩) (fun _=>⟨rfl,by kernel_rfl⟩) d H
theorem EndsNext (d:Int)(H:0≤d∧d≤4):1≤d→(Qci d).1.1=d∧F.b1 (Qci d).1=some d:=five (P:=fun d=>1≤d→(Qci d).1.1=d∧F.b1 (Qci d).1=some d) (fun h=>absurd h (by decide)) (fun _=>⟨rfl,by kernel_rfl⟩) (fun _=>⟨rfl,by kernel_rfl⟩) (fun _=>⟨rfl,by kernel_rfl⟩) (fun _=>⟨rfl,by kernel_rfl⟩) d H
theorem within_ends {n:Nd}{L:List Int}{x:Int}{j:Nat}(O:L[j]?=some x)(hq:ownQ n=true)(hlen:L.length=n.2.2.1.length)(h15:n.2.1≠15)(H:0≤depthOf n L)(Y:0≤x∧x≤4)(h14:n.2.1=14→x=n.2.2.2.2.2.2∧1≤x):
  (Qaj n x).1=x∧F.b1 (Qaj n x)=some (depthOf n L):=by
 have hj:=(Qc.1 O).1
 have hin:=own_ins hq
 have hl:=own_len hq
 unfold depthOf capd Qcr at H ⊢
 unfold Qaj
 have one:n.2.1≠5→n.2.1≠9→d0 L=x:=fun a b=>by
  have J:L.length=1:=by rcases hl with h|h|h<;>omega
  obtain⟨y,rfl⟩: ∃y,L=[y]:=by
   cases L with
   |nil=>simp at J
   |cons y r=>cases r with
    |nil=>exact⟨y,rfl⟩
    |cons _ _=>simp at J
  obtain rfl:j=0:=by simp at hj;exact hj
  simp at O;subst O;rfl
 by_cases c14:n.2.1=14
 ·obtain⟨e1,e2⟩:=h14 c14
  rw[if_neg (by omega),if_neg (by omega),if_pos c14,if_pos c14,←e1,if_neg (by omega)]
  exact EndsNext x Y e2
 rw[if_neg c14]at H
 rw[if_neg c14,if_neg c14]
 by_cases c12:n.2.1=12
 ·rw[if_pos c12,one (by omega) (by omega)]at H ⊢
  rw[if_pos c12]
  have h3:x≤3:=by split at H<;>omega
  rw[if_neg (by omega)]
  exact Qgp x Y h3
 rw[if_neg c12]at H ⊢
 rw[if_neg c12]
 by_cases c13:n.2.1=13
 ·rw[if_pos c13,one (by omega) (by omega)]at H ⊢
  rw[if_pos c13]
  have h3:1≤x:=by split at H<;>omega
  rw[if_neg (by omega)]
  exact Qgy x Y h3
 rw[if_neg c13]at H ⊢
 rw[if_neg c13]
 suffices h:(if 4<(if n.2.1=5∨n.2.1=9 then(if iget L 0≠iget L 1 then-1 else d0 L)else if n.2.1=11∨n.2.1=16∨n.2.1=15 then(if d0 L≠0 then-1 else d0 L)else d0 L)then-1 else(if n.2.1=5∨n.2.1=9 then(if iget L 0≠iget L 1 then-1 else d0 L)else if n.2.1=11∨n.2.1=16∨n.2.1=15 then(if d0 L≠0 then-1 else d0 L)else d0 L))=x by
  rw[h];exact EndsId x Y
 by_cases c59:n.2.1=5∨n.2.1=9
 ·rw[if_pos c59]at H ⊢
  have J:L.length=2:=by rcases hl with h|h|h<;>omega
  obtain⟨y,z,rfl⟩: ∃y z,L=[y,z]:=by
   cases L with
   |nil=>simp at J
   |cons y r=>cases r with
    |nil=>simp at J
    |cons z r=>cases r with
     |nil=>exact⟨y,z,rfl⟩
     |cons _ _=>simp at J
  have e0:iget [y,z] 0=y:=rfl
  have e1:iget [y,z] 1=z:=rfl
  have e2:d0 [y,z]=y:=rfl
  rw[e0,e1,e2]at H ⊢
  by_cases I:y≠z
  ·rw[if_pos I]at H;rw[if_neg (by omega)]at H;omega
  ·rw[if_neg I]at H ⊢
   have I:y=z:=Wb I
   subst I
   have hxy:y=x:=by
    rcases Y2 j 1 with hj1|hj1
    ·obtain rfl:j=0:=by omega
     simpa using O
    ·obtain rfl:j=1:=by simp at hj;omega
     simpa using O
   subst hxy
   rw[if_neg (by omega)]
 ·rw[if_neg c59,one (by omega) (by omega)]at H ⊢
  by_cases c:n.2.1=11∨n.2.1=16∨n.2.1=15
  ·rw[if_pos c]at H ⊢
   by_cases W:x≠0
   ·rw[if_pos W]at H;rw[if_neg (by omega)]at H;omega
   ·rw[if_neg W,if_neg (by omega)]
  ·rw[if_neg c,if_neg (by omega)]
theorem own_c {n:Nd}(h:ownQ n=true): ¬ownC n:=fun H=>by
 unfold ownQ at h
 split at h
 ·cases h
 ·first|cases h|(rw[if_pos H]at h;cases h)
theorem named_16 {s:ByteArray}(h:named s=true):s.size≤16:=by
 unfold named at h
 simp only[Ql,decide_eq_true_eq]at h
 omega
theorem own_16 {n:Nd}(h:ownQ n=true):n.2.2.2.2.1.size≤16:=by
 unfold ownQ at h
 split at h
 ·cases h
 ·split at h
  ·cases h
  ·split at h
   ·exact named_16 h
   ·rw[decide_eq_true_iff]at h;rw[h];decide
theorem dec_4 (s:ByteArray)(p:Nat):(Utf8.decode s p).2≤4:=by
 have h:=wid_4 s p
 unfold wid at h
 split at h
 ·rename_i e;rw[e];decide
 ·exact h
theorem cnt_4 {s:ByteArray}(h:cnt s s.size 0=1):s.size≤4:=by
 cases H:s.size with
 |zero=>omega
 |succ n=>
  rw[H,cnt,if_pos (by omega)]at h
  have I:=dec_4 s 0
  cases n with
  |zero=>omega
  |succ n=>
   rw[cnt]at h
   split at h
   ·omega
   ·omega
theorem text_16 {f:Fun}(h:Qgh f=true):f.2.2.size≤16:=by
 unfold Qgh at h
 split at h
 ·simp only[Ql,decide_eq_true_eq]at h;omega
 ·split at h
  ·simp only[Ql,decide_eq_true_eq]at h
   have:=cnt_4 h.1;omega
  ·rw[decide_eq_true_iff]at h;rw[h];decide
theorem chk_16 {k:Int}{f:Fun}(h:chk k f=0):f.2.2.size≤16:=by
 unfold chk at h
 split at h
 ·split at h
  ·rename_i I;rw[I];decide
  ·cases h
 ·unfold anyF at h
  split at h
  ·rename_i J
   obtain⟨y,_,H⟩:=X9.1 J
   simp only[Ql]at H
   exact text_16 H.2.2
  ·cases h
theorem small_of {g:List Nd}(O:g.length≤32)(H:okL g 0 0 g=true)(W:g.all (fun n=>decide (chk n.2.1 n.2.2.2.1=0))=true):Few g:=by
 have J:=own_of H
 refine⟨by omega,fun x I=>⟨by have:=in2 J I;omega,by have:=own_16 (J x I);omega,?_⟩⟩
 have:=chk_16 (of_decide_eq_true (Qy.1 W x I))
 omega
theorem whole_all (g:List Nd)(h: ∀x∈g,x.2.2.2.2.1.size≤9223372036854775807∧x.2.2.2.1.2.2.size≤9223372036854775807):Few g∨∃e,e≠0∧F.bF g=some (none,e):=by
 unfold F.bF
 by_cases I:(32:Int)<(g.length:Int)
 ·rw[if_pos I];exact .inr ⟨80,by decide,rfl⟩
 rw[if_neg I,whole_l6 g (by omega) (fun x J=>(h x J).1)]
 by_cases H:okL g 0 0 g=true
 case neg=>rw[if_neg H];exact .inr ⟨80,by decide,rfl⟩
 rw[if_pos H,whole_l5 g _ (by omega) (fun x J=>(h x J).2)]
 by_cases O:g.all (fun n=>decide (chk n.2.1 n.2.2.2.1=0))=true
 case neg=>rw[if_neg O];exact .inr ⟨60,by decide,rfl⟩
 exact .inl (small_of (by omega) H O)
def RT {α:Type}(R:α→α→Prop)(a b:α):Prop:=a=b∨Rch R a b
structure Kd (s:Sm) (a b:Int) (up:Prop):Prop where
 from_:s.1=a
 ends:s.2.1+s.2.2.2.1=b
 kept:(s.2.1=a∧a≤b)∨(s.2.1=b∧b=a-1∧s.2.2.1=0)
 add0:0≤s.2.2.1
 addU:up→s.2.1=a∧s.2.2.1=1
theorem kd_id {x b:Int}(H:0≤x∧x≤4)(h:F.b1 (idP x).1=some b){up:Prop}(I: ¬up):Kd (idP x).1 x b up:=by
 have J:=EndsId x H
 rw[J.2]at h
 obtain rfl:=Qq h
 have e:idP x=((x,x,0,0,(0,0,0,0)),0):=by unfold idP Qbl;rw[if_neg (by omega)]
 rw[e]
 exact⟨rfl,by show x+0=x;omega,.inl ⟨rfl,Xi _⟩,Xi _,fun h=>absurd h I⟩
theorem kd_enter {x b:Int}(I:0≤x∧x≤4)(H:(Qap x).1.1=x)(h:F.b1 (Qap x).1=some b){up:Prop}(J: ¬up):Kd (Qap x).1 x b up:=by
 have O:x≤3:=by
  by_cases W:x≤3
  ·exact W
  ·have e:Qap x=(z8,11):=by unfold Qap Qbl;rw[if_pos (.inr (by omega))]
   rw[e]at H
   have:(0:Int)=x:=H
   omega
 have Y:=Qgp x I O
 rw[Y.2]at h
 obtain rfl:=Qq h
 have e:Qap x=((x,x,0,1,(0,0,0,0)),0):=by unfold Qap Qbl;rw[if_neg (by omega)]
 rw[e]
 exact⟨rfl,rfl,.inl ⟨rfl,by omega⟩,Xi _,fun h=>absurd h J⟩
theorem kd_leave {x b:Int}(I:0≤x∧x≤4)(H:1≤x)(h:F.b1 (Qas x).1=some b){up:Prop}(J: ¬up):Kd (Qas x).1 x b up:=by
 have O:=Qgy x I H
 rw[O.2]at h
 obtain rfl:=Qq h
 have e:Qas x=((x,x-1,0,0,(0,0,0,0)),0):=by unfold Qas Qbl;rw[if_neg (by omega)]
 rw[e]
 exact⟨rfl,by show x-1+0=x-1;omega,.inr ⟨rfl,rfl,rfl⟩,Xi _,fun h=>absurd h J⟩
theorem kd_next {x b:Int}(I:0≤x∧x≤4)(H:1≤x)(h:F.b1 (Qci x).1=some b){up:Prop}:Kd (Qci x).1 x b up:=by
 have J:=EndsNext x I H
 rw[J.2]at h
 obtain rfl:=Qq h
 have e:Qci x=((x,x,1,0,(0,0,0,0)),0):=by unfold Qci Qbl;rw[if_neg (by omega)]
 rw[e]
 exact⟨rfl,by show x+0=x;omega,.inl ⟨rfl,Xi _⟩,by show(0:Int)≤1;omega,fun _=>⟨rfl,rfl⟩⟩
theorem node_one {g:List Nd}(I:Inc g){n m:Nd}(J:n∈g)(O:m∈g)(h:m.1=n.1):m=n:=by
 have W:=(nodeAt I J ((0,0,[],(0,0,(ByteArray.mk #[])),(ByteArray.mk #[]),0,0):Nd)).2
 have H:=(nodeAt I O ((0,0,[],(0,0,(ByteArray.mk #[])),(ByteArray.mk #[]),0,0):Nd)).2
 rw[h,W]at H
 injection H with H
 exact H.symm
theorem edge_kd {g:List Nd}{l d:List Int}{dm:List (Int×Int)}(W:Whole g l d dm){e:Ed}(he:e∈edges g d):
  ∃a b,(e.1,a)∈spots g d∧(e.2.1,b)∈spots g d∧Kd e.2.2 a b ((∃n∈g,n.1=e.1.1∧n.2.1=14)∧e.1.2≠2)∧∀n∈g,n.1=e.1.1→n.2.1=14→e.1.2≠2→a=n.2.2.2.2.2.2:=by
 obtain⟨j,n,hn,h15,h|h⟩:=Qcn d 0 g e he
 ·obtain⟨k,z,hz,rfl⟩:=Qij g d n 0 n.2.2.1 e h
  have hng:=Qg hn
  have hfix:=W.fix hng
  have hidx:=W.inc.idx hn
  have h14x:n.2.1=14→iget d (idx g z)=n.2.2.2.2.2.2∧1≤iget d (idx g z):=fun I=>by
   have hl:=W.lps
   rw[Qbi,Xp]at hl
   have O:=Xq.1 hl n hng
   rw[decide_eq_true_iff,not_and]at O
   have h2:=Classical.not_not.1 (O I)
   have hlen:=own_len (W.own n hng)
   have hk:=(Qc.1 hz).1
   obtain rfl:k=0:=by omega
   have hz0:iget n.2.2.1 0=z:=by unfold iget;show(n.2.2.1[0]?).getD 0=z;rw[hz];rfl
   rw[hz0]at h2
   refine⟨h2,?_⟩
   have hc:=own_c (W.own n hng)
   unfold ownC at hc
   rw[h2];omega
  have hw:=within_ends (n:=n) (L:=n.2.2.1.map (dOf g d)) (x:=iget d (idx g z)) (j:=k) (by rw[Qu,hz];rfl) (W.own n hng) (by rw[Qw]) h15 (by rw[←hfix.1];exact hfix.2) (W.inb _) h14x
  obtain⟨J,H⟩:=hw
  rw[←hfix.1,dOf,hidx]at H
  refine⟨iget d (idx g z),iget d ((0+j:Nat):Int),Qay d 0 g n hng _ (Qgl g d n.1 0 n.2.2.1 k z hz),spotsF_outP d 0 g j n hn h15,?_,fun m hm hmn I _=>?_⟩
  ·rw[Wc j]
   show Kd (Qaj n (iget d (idx g z))) _ _ _
   have up14:((∃m∈g,m.1=n.1∧m.2.1=14)∧((0+k:Nat):Int)≠2)→n.2.1=14:=fun⟨⟨m,hm,O,h2⟩,_⟩=>by rw[←node_one W.inc hng hm O];exact h2
   unfold Qaj at J H ⊢
   by_cases h12:n.2.1=12
   ·rw[if_pos h12]at J H ⊢
    exact kd_enter (W.inb _) J H fun Y=>by have:=up14 Y;omega
   rw[if_neg h12]at J H ⊢
   by_cases h13:n.2.1=13
   ·rw[if_pos h13]at J H ⊢
    have hx1:1≤iget d (idx g z):=by
     by_cases O:1≤iget d (idx g z)
     ·exact O
     ·have e:Qas (iget d (idx g z))=(z8,11):=by unfold Qas Qbl;rw[if_pos (.inl (by omega))]
      have h0:=hfix.2
      have hlen:=own_len (W.own n hng)
      have hk:=(Qc.1 hz).1
      obtain rfl:k=0:=by omega
      have hd0:d0 (n.2.2.1.map (dOf g d))=iget d (idx g z):=by
       rw[←Qil];unfold iget;show((n.2.2.1.map (dOf g d))[0]?).getD 0=_;rw[Qu,hz];rfl
      have hx:=W.inb (idx g z)
      rw[hfix.1]at h0
      unfold depthOf Qcr capd at h0
      rw[if_neg (by omega),if_neg h12,if_pos h13,hd0]at h0
      split at h0<;>omega
    exact kd_leave (W.inb _) hx1 H fun Y=>by have:=up14 Y;omega
   rw[if_neg h13]at J H ⊢
   by_cases I:n.2.1=14
   ·rw[if_pos I]at J H ⊢
    exact kd_next (W.inb _) (h14x I).2 H
   ·rw[if_neg I]at J H ⊢
    exact kd_id (W.inb _) H fun Y=>I (up14 Y)
  ·obtain rfl:=node_one W.inc hng hm hmn
   exact(h14x I).1
 ·unfold outE at h
  obtain⟨u,Y,rfl⟩:=Qv.1 h
  obtain⟨m,hm,k,rfl,hk⟩:=Qhm n.1 g u Y
  have hidx:=W.inc.idx hn
  have O:=Qgl g d m.1 0 m.2.2.1 k n.1 hk
  rw[hidx,Wc]at O
  have h2:=spotsF_outP (g:=g) d 0 g j n hn h15
  rw[Wc]at h2 ⊢
  have h3:=EndsId (iget d (j:Int)) (W.inb _)
  exact⟨iget d (j:Int),iget d (j:Int),h2,Qay d 0 g m hm _ O,kd_id (W.inb _) h3.2 fun Y=>Y.2 rfl,fun _ _ _ _ h=>absurd rfl h⟩
abbrev Dp (g:List Nd) (d:List Int) (p:Pl):Int:=Z.mget 0 (spots g d) p
def okW (g:List Nd)(d:List Int)(m:Int)(p q:Pl):Prop:=∃e∈edges g d,e.1=p∧e.2.1=q∧m≤Dp g d p∧m≤Dp g d q
structure Wy0 (g:List Nd) (d:List Int) (p0 pk:Pl) (s:Sm):Prop where
 from_:s.1=Dp g d p0
 ends:s.2.1+s.2.2.2.1=Dp g d pk
 low:s.2.1≤Dp g d p0∧s.2.1≤Dp g d pk
 add0:0≤s.2.2.1
 way:RT (okW g d s.2.1) p0 pk
 turn:1≤s.2.2.1∨∃q,(q,s.2.1)∈spots g d∧RT (okE g (spots g d) (edges g d) s.2.1) p0 q∧RT (okE g (spots g d) (edges g d) s.2.1) q pk
structure Wy (g:List Nd) (d:List Int) (p0 pk:Pl) (s:Sm):Prop where
 weak:Wy0 g d p0 pk s
 turn:1≤s.2.2.1∨∃q,(q,s.2.1)∈spots g d∧RT (okE g (spots g d) (edges g d) s.2.1) p0 q∧RT (okE g (spots g d) (edges g d) s.2.1) q pk∧(Rch (okE g (spots g d) (edges g d) s.2.1) p0 q∨Rch (okE g (spots g d) (edges g d) s.2.1) q pk)
end Go.Proofs.YtlbnpmfggfbdoaaGreatDoor
end
section
namespace Go.Pth
abbrev Ctr:=Bool×Int
abbrev D:=List Ctr
def leC (x y:Ctr):Prop:=if x.1=true∧y.1=false then y.2=1048576 else x.2≤y.2
instance (x y:Ctr):Decidable (leC x y):=by unfold leC;exact inferInstance
def okC (x:Ctr):Prop:=0≤x.2∧x.2≤1048576
def le:D→D→Prop
 | [],[]=>True
 |x::a,y::b=>leC x y∧le a b
 |_,_=>False
instance decLe: ∀a b:D,Decidable (le a b)
 | [],[]=>.isTrue trivial
 |x::a,y::b=>match(inferInstance:Decidable (leC x y)),decLe a b with
  | .isTrue h1,.isTrue h2=>.isTrue ⟨h1,h2⟩
  | .isFalse h1,_=>.isFalse fun h=>h1 h.1
  |_,.isFalse h2=>.isFalse fun h=>h2 h.2
 | [],_::_=>.isFalse fun h=>h
 |_::_,[]=>.isFalse fun h=>h
def ok (a:D):Prop:=∀x∈a,okC x
theorem leC_refl (x:Ctr):leC x x:=by
 unfold leC
 rw[if_neg (fun h=>by rw[h.1]at h;exact absurd h.2 (by decide))]
 exact Xi _
theorem le_refl: ∀a:D,le a a
 | []=>trivial
 |x::a=>⟨leC_refl x,le_refl a⟩
theorem leC_trans {x y z:Ctr}(H:okC x)(I:okC z)(J:leC x y)(O:leC y z):leC x z:=by
 obtain⟨bx,nx⟩:=x
 obtain⟨by',ny⟩:=y
 obtain⟨bz,nz⟩:=z
 unfold leC at*
 unfold okC at*
 simp only at*
 cases bx<;>cases by'<;>cases bz<;>simp at* <;>omega
theorem le_trans: ∀{a b c:D},ok a→ok c→le a b→le b c→le a c
 | [],[],[],_,_,_,_=>trivial
 |x::a,y::b,z::c,I,J,O,W=>⟨leC_trans (I x (Qf ..)) (J z (Qf ..)) O.1 W.1,le_trans (fun u H=>I u (Qe _ H)) (fun u H=>J u (Qe _ H)) O.2 W.2⟩
 | [],_::_,_,_,_,h,_=>h.elim
 |_::_,[],_,_,_,h,_=>h.elim
 | [],[],_::_,_,_,_,h=>h.elim
 |_::_,_::_,[],_,_,_,h=>h.elim
def small (a:D):Prop:=∀x∈a,x.2<1048576
theorem le_anti: ∀{a b:D},small a→small b→le a b→le b a→a=b
 | [],[],_,_,_,_=>rfl
 |x::a,y::b,I,J,O,W=>by
  have hx:=I x (Qf ..)
  have hy:=J y (Qf ..)
  have e:=le_anti (fun u H=>I u (Qe _ H)) (fun u H=>J u (Qe _ H)) O.2 W.2
  have Y:=O.1
  have h4:=W.1
  obtain⟨bx,nx⟩:=x
  obtain⟨by',ny⟩:=y
  unfold leC at Y h4
  simp only at*
  have:bx=by'∧nx=ny:=by cases bx<;>cases by'<;>simp at* <;>omega
  rw[this.1,this.2,e]
 | [],_::_,_,_,h,_=>h.elim
 |_::_,[],_,_,h,_=>h.elim
def bump (n:Int):D→Option D
 | []=>some []
 | [x]=>if x.2+n≤1048576 then some [(x.1,x.2+n)]else none
 |x::y::r=>(bump n (y::r)).map (x:: ·)
structure Op where
 keep:Nat
 add:Int
 zeros:Nat
def Op.app (o:Op)(d:D):Option D:=(bump o.add (d.take o.keep)).map (· ++List.replicate o.zeros (false,0))
theorem bump_mono {n:Int}(J:0≤n): ∀{a b v:D},ok a→le a b→bump n b=some v→∃u,bump n a=some u∧le u v
 | [],[],v,_,_,h=>⟨[],rfl,by rw[bump]at h;obtain rfl:=Qq h;trivial⟩
 | [x],[y],v,I,H,h=>by
  have hx:=I x (Qf ..)
  have H:=H.1
  unfold bump at h
  split at h
  ·rename_i hy
   obtain rfl:=Qq h
   have key:x.2+n≤1048576∧leC (x.1,x.2+n) (y.1,y.2+n):=by
    obtain⟨bx,nx⟩:=x
    obtain⟨by',ny⟩:=y
    unfold leC okC at*
    simp only at*
    cases bx<;>cases by'<;>simp at* <;>omega
   refine⟨[(x.1,x.2+n)],by unfold bump;rw[if_pos key.1],?_⟩
   exact And.intro key.2 trivial
  ·cases h
 |x::O::a,y::y2::b,v,I,H,h=>by
  rw[bump]at h
  obtain⟨v',W,rfl⟩:=Wt.1 h
  obtain⟨u,Y,h3⟩:=bump_mono J (a:=O::a) (fun z hz=>I z (Qe _ hz)) H.2 W
  exact⟨x::u,by rw[bump,Y];rfl,H.1,h3⟩
 | [],_::_,_,_,h,_=>h.elim
 |_::_,[],_,_,h,_=>h.elim
 | [_],_::_::_,_,_,h,_=>h.2.elim
 |_::_::_,[_],_,_,h,_=>h.2.elim
theorem le_take: ∀{a b:D} (k:Nat),le a b→le (a.take k) (b.take k)
 |_,_,0,_=>by rw[List.take_zero,List.take_zero];trivial
 | [],[],k+1,_=>trivial
 |x::a,y::b,k+1,h=>⟨h.1,le_take k h.2⟩
 | [],_::_,_+1,h=>h.elim
 |_::_,[],_+1,h=>h.elim
theorem le_app: ∀{a b:D} (c:D),le a b→le (a++c) (b++c)
 | [],[],c,_=>le_refl c
 |x::a,y::b,c,h=>⟨h.1,le_app c h.2⟩
 | [],_::_,_,h=>h.elim
 |_::_,[],_,h=>h.elim
theorem Op.mono {o:Op}(H:0≤o.add){a b v:D}(I:ok a)(J:le a b)(h:o.app b=some v): ∃u,o.app a=some u∧le u v:=by
 unfold Op.app at h ⊢
 obtain⟨v',O,rfl⟩:=Wt.1 h
 obtain⟨u,W,Y⟩:=bump_mono H (fun x hx=>I x (Ya hx)) (le_take o.keep J) O
 exact⟨_,by rw[W];rfl,le_app _ Y⟩
theorem o_bL {n:Int}(J:0≤n): ∀{a v:D},ok a→bump n a=some v→ok v
 | [],v,_,h=>by rw[bump]at h;obtain rfl:=Qq h;intro x O;cases O
 | [x],v,I,h=>by
  unfold bump at h
  split at h
  ·rename_i W
   obtain rfl:=Qq h
   intro z H;rw[Qj]at H
   subst H
   have:=I x (Qf ..)
   unfold okC at this ⊢
   exact⟨by show 0≤x.2+n;omega,W⟩
  ·cases h
 |x::Y::a,v,I,h=>by
  rw[bump]at h
  obtain⟨v',h1,rfl⟩:=Wt.1 h
  intro z H;rcases Qk.1 H with rfl|H
  ·exact I _ (Qf ..)
  ·exact o_bL J (a:=Y::a) (fun z H=>I z (Qe _ H)) h1 z H
theorem Op.ok {o:Op}(I:0≤o.add){a v:D}(J:ok a)(h:o.app a=some v):Pth.ok v:=by
 unfold Op.app at h
 obtain⟨v',O,rfl⟩:=Wt.1 h
 intro x H
 rcases Qn.1 H with H|H
 ·exact o_bL I (fun z W=>J z (Ya W)) O x H
 ·rw[(List.mem_replicate.1 H).2];unfold okC;decide
theorem bump_len {n:Int}: ∀{a v:D},bump n a=some v→v.length=a.length
 | [],v,h=>by rw[bump]at h;obtain rfl:=Qq h;rfl
 | [x],v,h=>by
  unfold bump at h
  split at h
  ·obtain rfl:=Qq h;rfl
  ·cases h
 |x::H::a,v,h=>by
  rw[bump]at h
  obtain⟨v',I,rfl⟩:=Wt.1 h
  rw[Qh,bump_len (a:=H::a) I];rfl
theorem bump_get {n:Int}: ∀{a v:D} (i:Nat),bump n a=some v→v[i]?=if i+1=a.length then(a[i]?).map (fun x=>(x.1,x.2+n))else a[i]?
 | [],v,i,h=>by rw[bump]at h;obtain rfl:=Qq h;simp
 | [x],v,i,h=>by
  unfold bump at h
  split at h
  ·obtain rfl:=Qq h
   cases i<;>simp
  ·cases h
 |x::I::a,v,i,h=>by
  rw[bump]at h
  obtain⟨v',J,rfl⟩:=Wt.1 h
  cases i with
  |zero=>simp
  |succ i=>
   have:=bump_get (a:=I::a) i J
   rw[Wq,Wq,this]
   simp only[Qh]
   by_cases H:i+1=a.length+1
   ·rw[if_pos H,if_pos (by omega)]
   ·rw[if_neg H,if_neg (by omega)]
section
variable {V:Type}[DecidableEq V]
structure Ed where
 src:V
 tgt:V
 op:Op
variable (E:List (Ed (V:=V)))(i0:V→D)
inductive Way (p:V):V→D→Prop
 |nil:Way p p (i0 p)
 |step {q:V} {s s':D} {e:Ed (V:=V)} (h:Way p q s) (he:e∈E) (hq:e.src=q) (hs:e.op.app s=some s'):Way p e.tgt s'
inductive NW (p:V):V→D→List (V×D)→Prop
 |nil:NW p p (i0 p) [(p,i0 p)]
 |step {q:V} {s s':D} {vis:List (V×D)} {e:Ed (V:=V)} (h:NW p q s vis) (he:e∈E) (hq:e.src=q) (hs:e.op.app s=some s') (hn: ∀x∈vis,x.1=e.tgt→¬le x.2 s'):NW p e.tgt s' ((e.tgt,s')::vis)
variable {E i0}
theorem Way.ok (H: ∀e∈E,0≤e.op.add)(I: ∀p,Pth.ok (i0 p)){p q:V}{s:D}(h:Way E i0 p q s):Pth.ok s:=by
 induction h with
 |nil=>exact I p
 |step _ J _ O W=>exact Op.ok (H _ J) W O
theorem NW.way {p q:V}{s:D}{vis:List (V×D)}(h:NW E i0 p q s vis):Way E i0 p q s:=by
 induction h with
 |nil=>exact .nil
 |step _ H hq I _ J=>exact .step J H hq I
theorem NW.pre {p q:V}{s:D}{vis:List (V×D)}(h:NW E i0 p q s vis): ∀x∈vis,∃vis',NW E i0 p x.1 x.2 vis':=by
 induction h with
 |nil=>intro x H;rw[Qj]at H;subst H;exact⟨_,.nil⟩
 |step h I hq J O W=>
  intro x H
  rcases Qk.1 H with rfl|H
  ·exact⟨_,.step h I hq J O⟩
  ·exact W x H
end
section
variable {V:Type}[DecidableEq V]
structure Net (E:List (Ed (V:=V))) (i0:V→D) (dep:V→Nat) (loops:List V):Prop where
 i0e: ∀p,i0 p=List.replicate (dep p) (true,0)
 keep: ∀e∈E,e.op.keep≤dep e.src
 ends: ∀e∈E,e.op.keep+e.op.zeros=dep e.tgt
 add: ∀e∈E,e.op.add=0∨(e.op.add=1∧e.op.keep=dep e.src∧e.op.zeros=0∧e.tgt∈loops)
 few:loops.length<1048576
variable {E:List (Ed (V:=V))}{i0:V→D}{dep:V→Nat}{loops:List V}(N:Net E i0 dep loops)
include N
theorem Net.add0: ∀e∈E,0≤e.op.add:=fun e H=>by rcases N.add e H with h|h<;>omega
theorem Net.iok (p:V):Pth.ok (i0 p):=by
 rw[N.i0e]
 intro x H
 rw[(List.mem_replicate.1 H).2];unfold okC;decide
theorem Way.len {p q:V}{s:D}(h:Way E i0 p q s):s.length=dep q:=by
 induction h with
 |nil=>rw[N.i0e,W9]
 | @step q s s' e h H hq I J=>
  unfold Op.app at I
  obtain⟨v,O,rfl⟩:=Wt.1 I
  rw[Qm,W9,bump_len O,Qt,J,←hq,←N.ends e H]
  have:=N.keep e H
  omega
theorem le_last: ∀(a:D) {x y:Ctr},leC x y→le (a++[x]) (a++[y])
 | [],_,_,h=>⟨h,trivial⟩
 |z::a,_,_,h=>⟨leC_refl z,le_last a h⟩
theorem NW.bound {p q:V}{s:D}{vis:List (V×D)}(h:NW E i0 p q s vis): ∀(i:Nat) (c:Ctr),s[i]?=some c→∃R:List V,R.Nodup∧(R.length:Int)=c.2∧
  ∀r∈R,r∈loops∧∃d c',(r,d)∈vis∧d.length=i+1∧d.take i=s.take i∧d[i]?=some c'∧c'.1=c.1∧c'.2≤c.2:=by
 induction h with
 |nil=>
  intro i c H
  rw[N.i0e,Xa]at H
  split at H
  ·obtain rfl:=Qq H;exact⟨[],X5,rfl,fun r I=>by cases I⟩
  ·cases H
 | @step q s s' vis e h he hq hs hn ih=>
  intro i c H
  have hlen:=h.way.len N
  have hk:=N.keep e he
  rw[hq,←hlen]at hk
  have hs0:=hs
  unfold Op.app at hs
  obtain⟨v,h1,rfl⟩:=Wt.1 hs
  have hvl:v.length=e.op.keep:=by rw[bump_len h1,Qt];omega
  have J:=fun i=>bump_get i h1
  rw[Qt,X6 hk]at J
  by_cases hi:i<e.op.keep
  ·rw[Q7 (by omega)]at H
   have W: ∀j≤i,(v++List.replicate e.op.zeros (false,0)).take j=s.take j:=fun j hj=>by
    rw[Xy (by omega)]
    refine Wu fun m=>?_
    by_cases hm:m<j
    ·rw[Qp hm,Qp hm,J,if_neg (by omega),Qp (by omega)]
    ·rw[Q5 (by rw[Qt];omega),Q5 (by rw[Qt];omega)]
   rw[J,Qp hi]at H
   have keepR: ∀(c:Ctr),s[i]?=some c→∀c2:Ctr,c2.1=c.1→c.2≤c2.2→∀R:List V,(∀r∈R,r∈loops∧∃d c',(r,d)∈vis∧d.length=i+1∧d.take i=s.take i∧d[i]?=some c'∧c'.1=c.1∧c'.2≤c.2)→
     ∀r∈R,r∈loops∧∃d c',(r,d)∈(e.tgt,v++List.replicate e.op.zeros (false,0))::vis∧d.length=i+1∧d.take i=(v++List.replicate e.op.zeros (false,0)).take i∧d[i]?=some c'∧c'.1=c2.1∧c'.2≤c2.2:=fun c H c2 e1 e2 R hR r I=>by
    obtain⟨a1,d,c',a2,a3,a4,a5,a6,a7⟩:=hR r I
    exact⟨a1,d,c',Qe _ a2,a3,by rw[a4,W i (Q1 _)],a5,by rw[a6,e1],by omega⟩
   by_cases hl:i+1=e.op.keep
   ·rw[if_pos hl]at H
    obtain⟨c0,O,rfl⟩:=Wt.1 H
    obtain⟨R,r1,r2,Y⟩:=ih i c0 O
    rcases N.add e he with ha|⟨ha,hkd,hz,hlp⟩
    ·rw[ha]
     exact⟨R,r1,by show(R.length:Int)=c0.2+0;omega,keepR c0 O (c0.1,c0.2+0) rfl (by show c0.2≤c0.2+0;omega) R Y⟩
    ·rw[ha]
     have hfull:v++List.replicate e.op.zeros (false,0)=s.take i++[(c0.1,c0.2+1)]:=by
      have h5:=W i (Q1 _)
      have h6:(v++List.replicate e.op.zeros (false,0)).drop i=[(c0.1,c0.2+1)]:=by
       rw[hz,List.replicate_zero,Wl,Xw (by omega),Q2 (by omega)]
       have h7:=J i
       rw[if_pos hl,Qp hi,O,Wi,ha,Qd (by omega)]at h7
       rw[Qq h7]
      rw[←Xd i (v++List.replicate e.op.zeros (false,0)),h5,h6]
     have hnot:e.tgt∉R:=fun I=>by
      obtain⟨_,d,c',a2,a3,a4,a5,a6,a7⟩:=Y e.tgt I
      refine hn _ a2 rfl ?_
      have hd:d=s.take i++[c']:=by
       rw[←Xd i d,a4,Xw (by omega),Q2 (by omega)]
       rw[Qd (by omega)]at a5
       rw[Qq a5]
      show le d _
      rw[hfull,hd]
      refine le_last N _ ?_
      unfold leC
      split
      ·rename_i hh;simp only at hh;rw[a6]at hh;rw[hh.1]at hh;exact absurd hh.2 (by decide)
      ·show c'.2≤c0.2+1;omega
     refine⟨e.tgt::R,Wk.2 ⟨hnot,r1⟩,by rw[Qh];show((R.length+1:Nat):Int)=c0.2+1;omega,fun r I=>?_⟩
     rcases Qk.1 I with rfl|I
     ·refine⟨hlp,_,(c0.1,c0.2+1),Qf ..,?_,rfl,?_,rfl,Xi _⟩
      ·rw[Qm,W9];omega
      ·rw[hfull,Wf (by rw[Qt];omega),Qt,X6 (by omega),Nat.sub_self];rfl
     ·exact keepR c0 O (c0.1,c0.2+1) rfl (by show c0.2≤c0.2+1;omega) R Y r I
   ·rw[if_neg hl]at H
    obtain⟨R,r1,r2,Y⟩:=ih i c H
    exact⟨R,r1,r2,keepR c H c rfl (Xi _) R Y⟩
  ·rw[Wf (by omega),Xa]at H
   split at H
   ·obtain rfl:=Qq H;exact⟨[],X5,rfl,fun r I=>by cases I⟩
   ·cases H
theorem nodup_sub {R L:List V}(h:R.Nodup)(H: ∀r∈R,r∈L):R.length≤L.length:=by
 induction R generalizing L with
 |nil=>exact Xn _
 |cons r R O=>
  rw[Wk]at h
  have I:=H r (Qf ..)
  have:=O (L:=L.erase r) h.2 fun x J=>(List.mem_erase_of_ne (fun e=>h.1 (by rw[←e];exact J))).2 (H x (Qe _ J))
  rw[Y0 I]at this
  have W:0<L.length:=Y3 I
  rw[Qh];omega
theorem NW.le_loops {p q:V}{s:D}{vis:List (V×D)}(h:NW E i0 p q s vis): ∀c∈s,c.2≤loops.length:=fun c H=>by
 obtain⟨i,I⟩:=Xh H
 obtain⟨R,J,Y,O⟩:=h.bound N i c I
 have:=nodup_sub N J fun r W=>(O r W).1
 omega
theorem NW.small {p q:V}{s:D}{vis:List (V×D)}(h:NW E i0 p q s vis):Pth.small s:=fun c H=>by
 have:=h.le_loops N c H
 have:=N.few
 omega
theorem small_le: ∀{a b:D},Pth.small b→le a b→Pth.small a
 | [],_,_,_=>fun x O=>by cases O
 |x::a,y::b,I,h=>fun z H=>by
  have Y:=I y (Qf ..)
  rcases Qk.1 H with rfl|H
  ·have J:=h.1
   unfold leC at J
   split at J<;>omega
  ·exact small_le (fun u W=>I u (Qe _ W)) h.2 z H
 |_::_,[],_,h=>h.elim
structure Tab (T:V→V→List D):Prop where
 sound: ∀p q s,s∈T p q→Way E i0 p q s
 start: ∀p,(∃q,T p q≠[])→∃u∈T p p,le u (i0 p)
 fix: ∀p,∀e∈E,∀s∈T p e.src,∀s',e.op.app s=some s'→∃u∈T p e.tgt,le u s'
 min: ∀p q,∀u∈T p q,∀s∈T p q,le u s→le s u
end
section
variable {V:Type}[DecidableEq V]{E:List (Ed (V:=V))}{i0:V→D}{dep:V→Nat}{loops:List V}(N:Net E i0 dep loops){T:V→V→List D}(hT:Tab (E:=E) (i0:=i0) T)
include N hT
theorem Tab.all {p q:V}{s:D}(hp: ∃q,T p q≠[])(h:Way E i0 p q s): ∃u∈T p q,le u s:=by
 induction h with
 |nil=>exact hT.start p hp
 | @step q s s' e h H hq J W=>
  obtain⟨u,I,Y⟩:=W
  obtain⟨w,h3,h4⟩:=Op.mono (N.add0 e H) ((hT.sound _ _ _ I).ok N.add0 N.iok) Y J
  rw[←hq]at I
  obtain⟨x,O,h6⟩:=hT.fix p e H u I w h3
  exact⟨x,O,le_trans ((hT.sound _ _ _ O).ok N.add0 N.iok) (Op.ok (N.add0 e H) (h.ok N.add0 N.iok) J) h6 h4⟩
end
end Go.Pth
end
section
namespace Go.Proofs.YtlbnpmfggfbdoaaGreatDoor
open Go.RowKit Go.Graph
inductive Form (x y:Int) (s:Sm):Prop where
 |id (h:s=(x,x,0,0,(0,0,0,0))) (hy:y=x)
 |enter (h:s=(x,x,0,1,(0,0,0,0))) (hx:x≤3) (hy:y=x+1)
 |leave (h:s=(x,x-1,0,0,(0,0,0,0))) (hx:1≤x) (hy:y=x-1)
 |next (h:s=(x,x,1,0,(0,0,0,0))) (hx:1≤x) (hy:y=x)
theorem form_of {x a b:Int}{up:Prop}(hx:0≤x∧x≤4){n:Nd}{s:Sm}(Y:s=Qaj n x∨s=(idP x).1)(K:Kd s a b up)(ha:a=x):Form x b s:=by
 have O:s=z8→Form x b s:=fun e=>by
  have I:=K.from_
  have H:=K.ends
  rw[e]at I H
  have I:(0:Int)=a:=I
  have H:(0:Int)+0=b:=H
  exact .id (by rw[e,←ha,←I];rfl) (by omega)
 have st: ∀(lo W:Int) (t:Sm),s=(Qbl x lo W t).1→s=z8∨(¬(x<lo∨W<x)∧s=(x,t.2)):=fun lo W t h=>by
  unfold Qbl at h
  split at h
  ·exact .inl h
  ·rename_i I;exact .inr ⟨I,h⟩
 have J:s=(idP x).1→Form x b s:=fun h=>by
  rcases st 0 4 _ h with h|⟨I,h⟩
  ·exact O h
  ·have H:=K.ends
   rw[h]at H
   have H:x+0=b:=H
   exact .id h (by omega)
 rcases Y with h|h
 ·unfold Qaj at h
  split at h
  ·rcases st 0 3 _ h with h|⟨I,h⟩
   ·exact O h
   ·have H:=K.ends
    rw[h]at H
    have H:x+1=b:=H
    exact .enter h (by omega) (by omega)
  ·split at h
   ·rcases st 1 4 _ h with h|⟨I,h⟩
    ·exact O h
    ·have H:=K.ends
     rw[h]at H
     have H:x-1+0=b:=H
     exact .leave h (by omega) (by omega)
   ·split at h
    ·rcases st 1 4 _ h with h|⟨I,h⟩
     ·exact O h
     ·have H:=K.ends
      rw[h]at H
      have H:x+0=b:=H
      exact .next h (by omega) (by omega)
    ·exact J h
 ·exact J h
end Go.Proofs.YtlbnpmfggfbdoaaGreatDoor
end
