import Derived.Test.YtligcbdjiolamaaGreatDoorW5
import Derived.Lib.TrimUEq
import Derived.Lib.MapLaws
import Derived.Lib.ValidU
set_option linter.unusedVariables false
set_option linter.unusedSimpArgs false
set_option synthInstance.maxSize 1000000
set_option synthInstance.maxHeartbeats 400000
set_option maxRecDepth 20000
section
namespace Go.A
open Go.Z
theorem r64n {n:Nat}(h:n<4611686018427387904):R64 ((n:Int)+1):=⟨by omega,by omega⟩
theorem gd1 {α:Type}{p:Prop}[Decidable p](h:p)(x:Option α):gd p x=x:=Qc h
theorem ixn {α:Type}{xs:List α}{k:Nat}{x:α}(h:xs[k]?=some x):ix xs (k:Int)=some x:=by rw[ix_nat];exact h
theorem ixg {α:Type}{xs:List α}{i:Int}{x:α}(h0:0<=i)(h:xs[i.toNat]?=some x):ix xs i=some x:=by unfold ix;rw[Qb (by omega)];exact h
theorem dropx {α:Type}{xs:List α}{k:Nat}{x:α}(h:xs[k]?=some x):xs.drop k=x::xs.drop (k+1):=by
 obtain⟨h1,h2⟩:=Qd.1 h
 rw[Ym h1,h2]
theorem ba {p q:Prop}[Decidable p][Decidable q]:(bif decide p then decide q else false)=decide (p/\q):=by by_cases h:p<;>simp[h]
theorem bo {p q:Prop}[Decidable p][Decidable q]:(bif decide p then true else decide q)=decide (p\/q):=by by_cases h:p<;>simp[h]
theorem bn {p:Prop}[Decidable p]:(!decide p)=decide (¬p):=by by_cases h:p<;>simp[h]
theorem lp {α σ ρ:Type}(xs:List α)(L:Nat->σ->Int->Option ρ)(G:Nat->List α->σ->Option ρ)(P:Nat->σ->Prop)
  (h0: ∀f s,P xs.length s->L (f+1) s (xs.length:Int)=G xs.length [] s)
  (h1: ∀f s (k:Nat) x,xs[k]?=some x->k<xs.length->P k s->(∀s',P (k+1) s'->L f s' ((k:Int)+1)=G (k+1) (xs.drop (k+1)) s')->L (f+1) s k=G k (x::xs.drop (k+1)) s)
  (hl:xs.length<FU) (s:σ) (hs:P 0 s):L FU s 0=G 0 xs s:=by
 have main: ∀(n k f:Nat) (s:σ),k+n=xs.length->n<f->P k s->L f s (k:Int)=G k (xs.drop k) s:=by
  intro n
  induction n with
  |zero=>
   intro k f s hk hf hp
   obtain⟨f,rfl⟩: ∃f',f=f'+1:=⟨f-1,by omega⟩
   obtain rfl:k=xs.length:=by omega
   rw[W6 (Qp _)];exact h0 f s hp
  |succ n ih=>
   intro k f s hk hf hp
   obtain⟨f,rfl⟩: ∃f',f=f'+1:=⟨f-1,by omega⟩
   have hx:xs[k]?=some xs[k]:=Qi (by omega)
   rw[dropx hx]
   exact h1 f s k _ hx (by omega) hp fun s' hp'=>ih (k+1) f s' (by omega) (by omega) hp'
 have:=main xs.length 0 FU s (by omega) hl hs
 simpa using this
theorem lp0 {α ρ:Type}(xs:List α)(L:Nat->Int->Option ρ)(G:Nat->List α->Option ρ)
  (h0: ∀f,L (f+1) (xs.length:Int)=G xs.length [])
  (h1: ∀f (k:Nat) x,xs[k]?=some x->k<xs.length->L f ((k:Int)+1)=G (k+1) (xs.drop (k+1))->L (f+1) k=G k (x::xs.drop (k+1)))
  (hl:xs.length<FU):L FU 0=G 0 xs:=
 lp xs (fun f (_:Unit) y=>L f y) (fun k l _=>G k l) (fun _ _=>True) (fun f s _=>h0 f) (fun f s k x hx hk _ ih=>h1 f k x hx hk (ih () trivial)) hl () trivial
end Go.A
namespace Go.Proofs.YtligcbdjiolamaaGreatDoor
open Go.RowKit Go.Graph
theorem Qac:(18446744073709551616:Nat)<A.FU:=by decide
theorem ixb {s:ByteArray}{k:Nat}(h:k<s.size):A.ix s.data.toList (k:Int)=some (Z.bat s k):=by
 refine A.ixn ?_
 have:=Qhc h
 rw[<-List.head?_drop,this];rfl
theorem Qfq (s:ByteArray):s.data.toList.length=s.size:=rfl
end Go.Proofs.YtligcbdjiolamaaGreatDoor
end
section
namespace Go.Proofs.YtligcbdjiolamaaGreatDoor
open Go.RowKit Go.Graph
theorem Qig (s:ByteArray)(i:Nat):(s.get! i)=Z.bat s i:=by
 cases s;simp[ByteArray.get!,Z.bat,getElem!_def,Option.getD]
 rfl
theorem dec_at (s:ByteArray)(i:Nat):Utf8.decode s i=Lib.decodeN (s.size-i) (Z.bat s i).toNat (Z.bat s (i+1)).toNat (Z.bat s (i+2)).toNat (Z.bat s (i+3)).toNat:=by
 rw[Lib.decode_at,Qig,Qig,Qig,Qig]
theorem dec_lt {s:ByteArray}{i:Nat}(h:(Z.bat s i).toNat <128):Utf8.decode s i=((Z.bat s i).toNat,1):=by
 rw[dec_at];unfold Lib.decodeN;rw[Qc h]
theorem dec_ge {s:ByteArray}{i:Nat}(h:128<=(Z.bat s i).toNat):128<=(Utf8.decode s i).1:=by
 rw[dec_at];unfold Lib.decodeN;rw[Qb (by omega)]
 repeat' split
 all_goals first|(simp only[];omega)|decide
theorem tail_eq (c:UInt8):F.ck c=some (tail5 c):=by
 unfold F.ck tail5
 by_cases h1:(128:Int)<=(c.toNat:Int)<;>by_cases h2:(c.toNat:Int)<=191<;>simp[h1,h2]
theorem ixk (s:ByteArray)(p k:Nat):A.ix s.data.toList ((p:Int)+(k:Int))=if p+k<s.size then some (Z.bat s (p+k))else none:=by
 have e:(p:Int)+(k:Int)=((p+k:Nat):Int):=by omega
 rw[e]
 by_cases h:p+k<s.size
 ·rw[Qc h];exact ixb h
 ·rw[Qb h,A.ix_nat];exact Wx (by rw[Qfq];omega)
def wid (s:ByteArray)(p:Nat):Nat:=if Utf8.decode s p=(65533,1)then 0 else(Utf8.decode s p).2
theorem wid_le {s:ByteArray}{p:Nat}(h:p<s.size):p+wid s p<=s.size:=by
 unfold wid
 split
 ·omega
 ·rw[dec_at]
  unfold Lib.decodeN
  repeat' split
  all_goals simp only[]
  all_goals omega
def widN (n a b c d:Nat):Nat:=
 if a<128 then 1
 else if(194<=a/\a<=223)/\2<=n/\(128<=b/\b<=191)then 2
 else if(224<=a/\a<=239)/\3<=n/\(128<=b/\b<=191)/\(128<=c/\c<=191)/\¬(a=224/\b<160)/\¬(a=237/\159<b)then 3
 else if(240<=a/\a<=244)/\4<=n/\(128<=b/\b<=191)/\(128<=c/\c<=191)/\(128<=d/\d<=191)/\¬(a=240/\b<144)/\¬(a=244/\143<b)then 4
 else 0
theorem pq (c:Prop)[Decidable c](x w:Nat)(hw:w≠1):(if(if c then(x,w)else(65533,1))=(65533,1)then 0 else(if c then(x,w)else(65533,1)).2)=if c then w else 0:=by
 by_cases h:c<;>simp[h,hw]
theorem widN_eq (n a b c d:Nat)(ha:a<256)(hb:b<256)(hc:c<256)(hd:d<256):(if Lib.decodeN n a b c d=(65533,1)then 0 else(Lib.decodeN n a b c d).2)=widN n a b c d:=by
 unfold Lib.decodeN widN
 by_cases h0:a<128
 ·simp only[h0,Xd,Qr];rw[Qb (by omega)]
 ·simp only[h0,Q9]
  by_cases h1:a / 32=6/\1<n/\b / 64=2
  ·simp only[Qc h1]
   rw[pq _ _ _ (by decide)]
   repeat' split
   all_goals omega
  ·simp only[Qb h1]
   by_cases h3:a / 16=14/\(1<n/\b / 64=2)/\2<n/\c / 64=2
   ·simp only[Qc h3]
    rw[pq _ _ _ (by decide)]
    repeat' split
    all_goals omega
   ·simp only[Qb h3]
    by_cases h5:a / 8=30/\(1<n/\b / 64=2)/\(2<n/\c / 64=2)/\3<n/\d / 64=2
    ·simp only[Qc h5]
     rw[pq _ _ _ (by decide)]
     repeat' split
     all_goals omega
    ·simp only[Qb h5,Xd]
     repeat' split
     all_goals omega
theorem wid_N (s:ByteArray)(p:Nat):wid s p=widN (s.size-p) (Z.bat s p).toNat (Z.bat s (p+1)).toNat (Z.bat s (p+2)).toNat (Z.bat s (p+3)).toNat:=by
 rw[<-widN_eq _ _ _ _ _ (UInt8.toNat_lt _) (UInt8.toNat_lt _) (UInt8.toNat_lt _) (UInt8.toNat_lt _),<-dec_at];rfl
theorem cnd {α:Type}{p:Prop}[Decidable p](x y:α):(bif decide p then x else y)=if p then x else y:=by by_cases h:p<;>simp[h]
set_option maxHeartbeats 4000000 in
theorem width_eq (s:ByteArray)(p:Nat)(hp:p<s.size)(hs:s.size<=5000):F.c6 s p=some (wid s p:Int):=by
 have i1:A.ix s.data.toList ((p:Int)+1)=if p+1<s.size then some (Z.bat s (p+1))else none:=ixk s p 1
 have i2:A.ix s.data.toList ((p:Int)+2)=if p+2<s.size then some (Z.bat s (p+2))else none:=ixk s p 2
 have i3:A.ix s.data.toList ((p:Int)+3)=if p+3<s.size then some (Z.bat s (p+3))else none:=ixk s p 3
 have r1:Z.R64 ((p:Int)+1):=⟨by omega,by omega⟩
 have r2:Z.R64 ((p:Int)+2):=⟨by omega,by omega⟩
 have r3:Z.R64 ((p:Int)+3):=⟨by omega,by omega⟩
 unfold F.c6
 rw[A.gd1 ⟨by omega,by omega⟩,ixb hp,Qa,A.gd1 r1,i1,wid_N]
 generalize Z.bat s p=c0 at*
 generalize Z.bat s (p+1)=c1 at*
 generalize Z.bat s (p+2)=c2 at*
 generalize Z.bat s (p+3)=c3 at*
 have t (c:UInt8):tail5 c=decide (128<=c.toNat/\c.toNat<=191):=by unfold tail5;congr 1;exact propext ⟨fun h=>by omega,fun h=>by omega⟩
 by_cases h1:(1:Int)<(s.size:Int)-(p:Int)
 ·rw[Qc h1,Qc (by omega),Qa]
  simp only[F.cm,F.cl,F.bX,F.bB,tail_eq,Qa,t,A.gd1 r2,A.gd1 r3,i2,i3]
  unfold widN
  generalize hn:s.size-p=n
  have e2:((2:Int)<=(s.size:Int)-(p:Int))=(2<=n):=propext ⟨fun h=>by omega,fun h=>by omega⟩
  have e3:((3:Int)<=(s.size:Int)-(p:Int))=(3<=n):=propext ⟨fun h=>by omega,fun h=>by omega⟩
  have e4:((4:Int)<=(s.size:Int)-(p:Int))=(4<=n):=propext ⟨fun h=>by omega,fun h=>by omega⟩
  have f2:(p+2<s.size)=(3<=n):=propext ⟨fun h=>by omega,fun h=>by omega⟩
  have f3:(p+3<s.size)=(4<=n):=propext ⟨fun h=>by omega,fun h=>by omega⟩
  have hn2:2<=n:=by omega
  simp only[e2,e3,e4,f2,f3,A.ba,Qw,hn2,and_true,true_and]
  have q0:((c0.toNat:Int)<128)=(c0.toNat<128):=propext ⟨fun h=>by omega,fun h=>by omega⟩
  have q1:((194:Int)<=(c0.toNat:Int)/\(c0.toNat:Int)<=223)=(194<=c0.toNat/\c0.toNat<=223):=propext ⟨fun h=>by omega,fun h=>by omega⟩
  have q2:((224:Int)<=(c0.toNat:Int)/\(c0.toNat:Int)<=239)=(224<=c0.toNat/\c0.toNat<=239):=propext ⟨fun h=>by omega,fun h=>by omega⟩
  have q3:((240:Int)<=(c0.toNat:Int)/\(c0.toNat:Int)<=244)=(240<=c0.toNat/\c0.toNat<=244):=propext ⟨fun h=>by omega,fun h=>by omega⟩
  have q4:((c0.toNat:Int)=224/\(c1.toNat:Int)<160)=(c0.toNat=224/\c1.toNat<160):=propext ⟨fun h=>by omega,fun h=>by omega⟩
  have q5:((c0.toNat:Int)=237/\(159:Int)<(c1.toNat:Int))=(c0.toNat=237/\159<c1.toNat):=propext ⟨fun h=>by omega,fun h=>by omega⟩
  have q6:((c0.toNat:Int)=240/\(c1.toNat:Int)<144)=(c0.toNat=240/\c1.toNat<144):=propext ⟨fun h=>by omega,fun h=>by omega⟩
  have q7:((c0.toNat:Int)=244/\(143:Int)<(c1.toNat:Int))=(c0.toNat=244/\143<c1.toNat):=propext ⟨fun h=>by omega,fun h=>by omega⟩
  simp only[q0,q1,q2,q3,q4,q5,q6,q7]
  have x1:240<=c0.toNat/\c0.toNat<=244->¬(224<=c0.toNat/\c0.toNat<=239):=fun h h2=>by omega
  have x2:240<=c0.toNat/\c0.toNat<=244->¬(194<=c0.toNat/\c0.toNat<=223):=fun h h2=>by omega
  have x3:224<=c0.toNat/\c0.toNat<=239->¬(194<=c0.toNat/\c0.toNat<=223):=fun h h2=>by omega
  by_cases K0:c0.toNat<128
  ·simp[K0]
  by_cases m1:128<=c1.toNat/\c1.toNat<=191
  ·by_cases K1:194<=c0.toNat/\c0.toNat<=223
   ·simp only[Qb K0,Qc K1,Qc m1,K1,m1,and_self,Xd];rfl
   ·by_cases K2:224<=c0.toNat/\c0.toNat<=239
    ·have K3: ¬(240<=c0.toNat/\c0.toNat<=244):=fun h=>x1 h K2
     by_cases k3:3<=n
     ·by_cases m2:128<=c2.toNat/\c2.toNat<=191
      ·by_cases y1:c0.toNat=224/\c1.toNat<160
       ·simp only[Qb K0,Qb K1,Qc (And.intro K2 k3),Qc m1,Qc k3,Qa,Qc m2,eq_true y1,Xd,false_and,K1,K3,eq_true y1,not_true_eq_false,and_false,Q9];rfl
       ·by_cases y2:c0.toNat=237/\159<c1.toNat
        ·simp only[Qb K0,Qb K1,Qc (And.intro K2 k3),Qc m1,Qc k3,Qa,Qc m2,Qb y1,eq_true y2,Xd,false_and,K1,K3,eq_true y2,not_true_eq_false,and_false,Q9];rfl
        ·simp only[Qb K0,Qb K1,Qc (And.intro K2 k3),Qc m1,Qc k3,Qa,Qc m2,Qb y1,Qb y2,false_and,K1,K2,k3,m1,m2,y1,y2,not_false_eq_true,and_self,Xd,Q9];rfl
      ·simp only[Qb K0,Qb K1,Qc (And.intro K2 k3),Qc m1,Qc k3,Qa,Qb m2,Qb K3,false_and,K1,K3,m2,and_false,Q9,Qu];rfl
     ·simp only[Qb K0,Qb K1,k3,and_false,Qb K3,false_and,K1,K3,Q9];rfl
    ·by_cases K3:240<=c0.toNat/\c0.toNat<=244
     ·by_cases k4:4<=n
      ·have k3:3<=n:=by omega
       by_cases m2:128<=c2.toNat/\c2.toNat<=191
       ·by_cases m3:128<=c3.toNat/\c3.toNat<=191
        ·by_cases y1:c0.toNat=240/\c1.toNat<144
         ·simp only[Qb K0,Qb K1,Qb K2,K2,false_and,Qc (And.intro K3 k4),Qc m1,Qc k3,Qc k4,Qa,Qc m2,Qc m3,eq_true y1,Xd,K1,eq_true y1,not_true_eq_false,and_false,Q9];rfl
         ·by_cases y2:c0.toNat=244/\143<c1.toNat
          ·simp only[Qb K0,Qb K1,Qb K2,K2,false_and,Qc (And.intro K3 k4),Qc m1,Qc k3,Qc k4,Qa,Qc m2,Qc m3,Qb y1,eq_true y2,Xd,K1,eq_true y2,not_true_eq_false,and_false,Q9];rfl
          ·simp only[Qb K0,Qb K1,Qb K2,K2,false_and,Qc (And.intro K3 k4),Qc m1,Qc k3,Qc k4,Qa,Qc m2,Qc m3,Qb y1,Qb y2,K1,K3,k4,m1,m2,m3,y1,y2,not_false_eq_true,and_self,Xd,Q9];rfl
        ·simp only[Qb K0,Qb K1,Qb K2,K2,false_and,Qc (And.intro K3 k4),Qc m1,Qc k3,Qc k4,Qa,Qc m2,Qb m3,K1,m3,and_false,Q9,Qu];rfl
       ·simp only[Qb K0,Qb K1,Qb K2,K2,false_and,Qc (And.intro K3 k4),Qc m1,Qc k3,Qa,Qb m2,K1,m2,and_false,Q9,Qu];rfl
      ·simp only[Qb K0,Qb K1,Qb K2,K2,false_and,k4,and_false,K1,Q9];rfl
     ·simp only[Qb K0,Qb K1,Qb K2,Qb K3,K1,K2,K3,false_and,Q9];rfl
  ·simp[K0,m1]
 ·rw[Qb h1]
  simp only[F.cm,F.cl,F.bX,F.bB,A.ba,Qw]
  unfold widN
  have w0:(c0.toNat:Int)<128↔c0.toNat<128:=⟨fun h=>by omega,fun h=>by omega⟩
  by_cases h2:c0.toNat<128
  ·rw[Qc (w0.2 h2),Qc h2];rfl
  ·have a1: ¬((194<=c0.toNat/\c0.toNat<=223)/\2<=s.size-p/\128<=c1.toNat/\c1.toNat<=191):=fun h=>by omega
   have a2: ¬((224<=c0.toNat/\c0.toNat<=239)/\3<=s.size-p/\(128<=c1.toNat/\c1.toNat<=191)/\(128<=c2.toNat/\c2.toNat<=191)/\¬(c0.toNat=224/\c1.toNat<160)/\¬(c0.toNat=237/\159<c1.toNat)):=fun h=>by omega
   have a3: ¬((240<=c0.toNat/\c0.toNat<=244)/\4<=s.size-p/\(128<=c1.toNat/\c1.toNat<=191)/\(128<=c2.toNat/\c2.toNat<=191)/\(128<=c3.toNat/\c3.toNat<=191)/\¬(c0.toNat=240/\c1.toNat<144)/\¬(c0.toNat=244/\143<c1.toNat)):=fun h=>by omega
   rw[Qb (fun h=>h2 (w0.1 h)),Qb h2,Qb a1,Qb a2,Qb a3]
   simp only[Qu,Q9]
   rw[Qb (fun h=>by omega),Qb (fun h=>by omega),Qb (fun h=>by omega)];rfl
def vld (s:ByteArray):Nat->Nat->Bool
 |0,_=>true
 |n+1,p=>if p<s.size then(if wid s p=0 then false else vld s n (p+wid s p))else true
def cnt (s:ByteArray):Nat->Nat->Nat
 |0,_=>0
 |n+1,p=>if p<s.size then 1+cnt s n (p+(Utf8.decode s p).2)else 0
theorem wid_4 (s:ByteArray)(p:Nat):wid s p<=4:=by
 rw[wid_N];unfold widN;repeat' split
 all_goals omega
theorem wid_dec {s:ByteArray}{p:Nat}(h:wid s p≠0):(Utf8.decode s p).2=wid s p:=by
 unfold wid at h ⊢;split at h
 ·exact absurd rfl h
 ·rename_i h2;rw[Qb h2]
theorem Valid_eq (s:ByteArray)(hs:s.size<=5000):F.dG s=some (vld s s.size 0):=by
 have loop: ∀(n p f:Nat),s.size-p<=n->n<f->p<=5010->F.cn s f (p:Int)=some (vld s n p):=by
  intro n
  induction n with
  |zero=>
   intro p f hp hf _
   obtain⟨f,rfl⟩: ∃f',f=f'+1:=⟨f-1,by omega⟩
   rw[F.cn,Qb (by omega)];rfl
  |succ n ih=>
   intro p f hp hf hp5
   obtain⟨f,rfl⟩: ∃f',f=f'+1:=⟨f-1,by omega⟩
   rw[F.cn,vld]
   by_cases h:p<s.size
   ·rw[Qc (by omega),Qc h,width_eq s p h hs,Qa]
    have:=wid_le h
    by_cases hw:wid s p=0
    ·rw[Qc (by omega),Qc hw]
    ·rw[Qb (by omega),Qb hw,A.gd1 ⟨by omega,by omega⟩]
     have e:(p:Int)+(wid s p:Int)=((p+wid s p:Nat):Int):=by omega
     rw[e];exact ih _ f (by omega) (by omega) (by omega)
   ·rw[Qb (by omega),Qb h]
 exact loop s.size 0 A.FU (by omega) (by have:=Qac;omega) (by omega)
theorem Qcy (s:ByteArray):Lib.validD s.data.toList=vld s s.size 0:=by
 have loop: ∀(n p:Nat),Lib.validGoD n (s.data.toList.drop p)=vld s n p:=by
  intro n
  induction n with
  |zero=>intro p;rfl
  |succ n ih=>
   intro p
   rw[Lib.validGoD,vld]
   by_cases h:p<s.size
   ·have hne:s.data.toList.drop p≠[]:=by rw[Qhc h];simp
    rw[Qb hne,Qc h,Lib.decodeL_drop,Yr]
    by_cases hw:Utf8.decode s p=(65533,1)
    ·rw[Qc (by rw[hw];exact⟨rfl,rfl⟩),Qc (by unfold wid;rw[Qc hw])]
    ·have e:wid s p=(Utf8.decode s p).2:=by unfold wid;rw[Qb hw]
     rw[Qb (fun h2=>hw (Prod.ext h2.1 h2.2)),Qb (by rw[e];have:=Qjq s p;omega),ih,e]
   ·rw[Qc (Qhk h),Qb h]
 have:=loop s.size 0
 rw[Xc]at this
 exact this
theorem Runes_eq (s:ByteArray)(hs:s.size<=5000)(hv:vld s s.size 0=true): ∃l,F.dU s=some l/\l.length=cnt s s.size 0:=by
 have loop: ∀(n p f:Nat) (xs:List (Int×Int)),s.size-p<=n->n<f->xs.length<=p->p<=5010->vld s n p=true->∃l,F.aA s f xs (p:Int)=some l/\l.length=xs.length+cnt s n p:=by
  intro n
  induction n with
  |zero=>
   intro p f xs hp hf _ _ _
   obtain⟨f,rfl⟩: ∃f',f=f'+1:=⟨f-1,by omega⟩
   rw[F.aA,Qb (by omega)];exact⟨_,rfl,rfl⟩
  |succ n ih=>
   intro p f xs hp hf hxs hp5 hv
   obtain⟨f,rfl⟩: ∃f',f=f'+1:=⟨f-1,by omega⟩
   rw[F.aA]
   rw[vld]at hv
   rw[cnt]
   by_cases h:p<s.size
   ·rw[Qc h]at hv
    have hl:=wid_le h
    have h4:=wid_4 s p
    by_cases hw:wid s p=0
    ·rw[Qc hw]at hv;cases hv
    rw[Qb hw]at hv
    have hj: ∀(w c:Int),w=(wid s p:Int)->∃l,F.bb (F.aA s f) xs (p:Int) w c=some l/\l.length=xs.length+(1+cnt s n (p+(Utf8.decode s p).2)):=fun w c hwc=>by
     subst hwc
     rw[F.bb,A.gd1 (by simp only[Ql,Q0];omega),A.gd1 ⟨by omega,by omega⟩,wid_dec hw]
     have e:(p:Int)+(wid s p:Int)=((p+wid s p:Nat):Int):=by omega
     rw[e]
     obtain⟨l,h1,h2⟩:=ih (p+wid s p) f (xs++[((p:Int),c)]) (by omega) (by omega) (by simp only[Qq,Ql,Q0];omega) (by omega) hv
     exact⟨l,h1,by rw[h2,Qq];simp only[Ql,Q0];omega⟩
    have i0:=ixb (s:=s) h
    have i1:A.ix s.data.toList ((p:Int)+1)=if p+1<s.size then some (Z.bat s (p+1))else none:=ixk s p 1
    have i2:A.ix s.data.toList ((p:Int)+2)=if p+2<s.size then some (Z.bat s (p+2))else none:=ixk s p 2
    have i3:A.ix s.data.toList ((p:Int)+3)=if p+3<s.size then some (Z.bat s (p+3))else none:=ixk s p 3
    have r1:Z.R64 ((p:Int)+1):=⟨by omega,by omega⟩
    have r2:Z.R64 ((p:Int)+2):=⟨by omega,by omega⟩
    have r3:Z.R64 ((p:Int)+3):=⟨by omega,by omega⟩
    rw[Qc (by omega),Qc h,width_eq s p h hs,Qa]
    by_cases w1:wid s p=1
    ·rw[Qc (by omega),i0,Qa];exact hj _ _ rfl
    rw[Qb (by omega)]
    by_cases w2:wid s p=2
    ·rw[Qc (by omega),A.gd1 r1,i0,Qa,A.gd1 (by decide),i1,Qc (by omega),Qa,A.gd1 (by decide)];exact hj _ _ rfl
    rw[Qb (by omega)]
    by_cases w3:wid s p=3
    ·rw[Qc (by omega),A.gd1 ⟨r1,r2⟩,i0,Qa,A.gd1 (by decide),i1,Qc (by omega),Qa,A.gd1 (by decide),i2,Qc (by omega),Qa,A.gd1 (by decide)];exact hj _ _ rfl
    rw[Qb (by omega),Qc (by omega),A.gd1 ⟨r1,r2,r3⟩,i0,Qa,A.gd1 (by decide),i1,Qc (by omega),Qa,A.gd1 (by decide),i2,Qc (by omega),Qa,A.gd1 (by decide),i3,Qc (by omega),Qa,A.gd1 (by decide)];exact hj _ _ rfl
   ·rw[Qb (by omega),Qb h];exact⟨_,rfl,rfl⟩
 obtain⟨l,h1,h2⟩:=loop s.size 0 A.FU [] (by omega) (by have:=Qac;omega) (by simp) (by omega) hv
 exact⟨l,h1,by simpa using h2⟩
theorem single_eq (s:ByteArray)(hs:s.size<=9223372036854775807):F.c4 s=some (if cnt s s.size 0=1 then vld s s.size 0 else false):=by
 have loop: ∀(n p f:Nat) (y:Int),s.size-p<=n->n<f->0<=y->y+n<=9223372036854775807->F.bz s f p y=some (if y+(cnt s n p:Int)=1 then vld s s.size 0 else false):=by
  intro n
  induction n with
  |zero=>
   intro p f y hp hf _ _
   obtain⟨f,rfl⟩: ∃f',f=f'+1:=⟨f-1,by omega⟩
   rw[F.bz,Qb (by omega),F.ao,Qcy,Qa]
   simp only[F.bQ]
   have e:y+(cnt s 0 p:Int)=y:=by rw[cnt];omega
   by_cases h:y=1
   ·rw[Qc h,Qc (by omega)]
   ·rw[Qb h,Qb (by omega)]
  |succ n ih=>
   intro p f y hp hf h0 h2
   obtain⟨f,rfl⟩: ∃f',f=f'+1:=⟨f-1,by omega⟩
   rw[F.bz,cnt]
   by_cases h:p<s.size
   ·rw[Qc h,Qc h,A.gd1 ⟨by omega,by omega⟩]
    have hw:=Qjq s p
    rw[ih _ f (y+1) (by omega) (by omega) (by omega) (by omega)]
    congr 2
    exact propext ⟨fun h=>by omega,fun h=>by omega⟩
   ·rw[Qb h,Qb h,F.ao,Qcy,Qa]
    simp only[F.bQ]
    by_cases h:y=1
    ·rw[Qc h,Qc (by omega)]
    ·rw[Qb h,Qb (by omega)]
 unfold F.c4
 rw[loop s.size 0 A.FU 0 (by omega) (by have:=Qac;omega) (by omega) (by omega)]
 congr 2
 exact propext ⟨fun h=>by omega,fun h=>by omega⟩
theorem one_small {s:ByteArray}(h1:cnt s s.size 0=1)(h2:vld s s.size 0=true):s.size<=4:=by
 generalize hn:s.size=n at h1 h2
 cases n with
 |zero=>omega
 |succ n=>
  rw[cnt,Qc (by omega)]at h1
  rw[vld,Qc (by omega)]at h2
  by_cases hw:wid s 0=0
  ·rw[Qc hw]at h2;cases h2
  rw[wid_dec hw]at h1
  have:=wid_4 s 0
  cases n with
  |zero=>omega
  |succ n=>
   rw[cnt]at h1
   by_cases h3:0+wid s 0<s.size
   ·rw[Qc h3]at h1;omega
   ·omega
def Qld (f:Fun):Bool:=if f.1=5 then decide (f.2.2≠ByteArray.mk #[])&&decide ((f.2.2.size:Int)<=16)&&vld f.2.2 f.2.2.size 0 else if f.1=12\/f.1=22 then decide (cnt f.2.2 f.2.2.size 0=1)&&vld f.2.2 f.2.2.size 0 else decide (f.2.2=ByteArray.mk #[])
theorem Qjg (f:Fun):F.c3 f=some (Qdo f):=by
 unfold F.c3 F.cg F.cf Qdo
 simp only[A.ba,Qw]
 by_cases h3:f.1=3
 ·simp[h3]
 ·by_cases h13:f.1=13
  ·simp[h13]
  ·by_cases h6:f.1=6
   ·simp[h6]
   ·by_cases h11:f.1=11<;>simp[h3,h13,h6,h11]
theorem Qhu (f:Fun):F.dR f=some (Qdo f):=Qjg f
theorem text_eq (f:Fun)(hs:f.2.2.size<=9223372036854775807):F.dz f=some (Qld f):=by
 unfold F.dz Qld
 simp only[F.cJ,F.cK,A.ba,single_eq _ hs,F.ao,Qcy,Qa,Qw]
 by_cases h5:f.1=5
 ·simp only[h5,Xd]
  by_cases h1:f.2.2=ByteArray.mk #[]<;>by_cases h2:(f.2.2.size:Int)<=16<;>simp[h1,h2]
 ·by_cases h12:f.1=12
  ·simp[h12]
  ·by_cases h22:f.1=22<;>simp[h5,h12,h22]
theorem one_le {s:ByteArray}:(1:Int)<=(s.size:Int)↔s≠ByteArray.mk #[]:=by
 constructor
 ·intro h e;subst e;exact absurd h (by decide)
 ·intro h;have:=Qhd h;omega
theorem Qlj (f:Fun)(hs:f.2.2.size<=5000):F.dA f=some (Qld f):=by
 have hj: ∀y,F.cA f y=some (if y=true then decide (cnt f.2.2 f.2.2.size 0=1)&&vld f.2.2 f.2.2.size 0 else decide (f.2.2=ByteArray.mk #[])):=by
  intro y
  unfold F.cA
  simp only[F.c1,Valid_eq _ hs,Qa]
  cases y with
  |false=>simp
  |true=>
   simp only[Xd]
   by_cases h4:(f.2.2.size:Int)<=4
   ·rw[Qc h4]
    cases hv:vld f.2.2 f.2.2.size 0 with
    |true=>
     obtain⟨l,h1,h2⟩:=Runes_eq f.2.2 hs hv
     rw[Qc rfl,h1,Qa,Yy]
     congr 2
     rw[h2];exact propext ⟨fun h=>by omega,fun h=>by omega⟩
    |false=>simp
   ·rw[Qb h4]
    congr 1
    cases hv:vld f.2.2 f.2.2.size 0 with
    |false=>simp
    |true=>
     by_cases h1:cnt f.2.2 f.2.2.size 0=1
     ·have:=one_small h1 hv;omega
     ·simp[h1]
 unfold F.dA Qld
 simp only[F.dv,hj,A.ba,Valid_eq _ hs,Qa,Qw,one_le]
 by_cases h5:f.1=5
 ·simp only[h5,Xd]
  by_cases h1:f.2.2=ByteArray.mk #[]<;>by_cases h2:(f.2.2.size:Int)<=16<;>simp[h1,h2]
 ·by_cases h12:f.1=12
  ·simp[h12]
  ·by_cases h22:f.1=22<;>simp[h5,h12,h22]
def anyF (f:Fun)(l:List Int):Int:=if l.any (fun y=>decide (y=f.1)&&(Qdo f&&Qld f))=true then 0 else 60
def kinds (k:Int):List Int:=if k=2 then [1,2,3,4,5,6,7,8]else if k=3 then [11,12,13]else if k=4 then [21,22]else if k=8 then [31,32,33,34]else if k=11 then [41,42]else []
def chk (k:Int)(f:Fun):Int:=if kinds k=[]then(if f=(0,0,ByteArray.mk #[])then 0 else 60)else anyF f (kinds k)
theorem chk_l (f:Fun)(hs:f.2.2.size<=9223372036854775807): ∀l,F.aK f l=some (anyF f l)
 | []=>rfl
 |y::l=>by
  have ih:=chk_l f hs l
  unfold F.aK
  simp only[F.ca,Qjg,text_eq _ hs,Qa,ih,anyF,X8]
  by_cases h:y=f.1
  ·subst h
   cases hn:Qdo f<;>cases ht:Qld f<;>simp
  ·simp[h]
theorem Qkm (k:Int)(f:Fun)(hs:f.2.2.size<=9223372036854775807):F.cY k f=some (chk k f):=by
 have u2:F.a9 1 8=some [1,2,3,4,5,6,7,8]:=by kernel_rfl
 have u3:F.a9 11 13=some [11,12,13]:=by kernel_rfl
 have u4:F.a9 21 22=some [21,22]:=by kernel_rfl
 have u8:F.a9 31 34=some [31,32,33,34]:=by kernel_rfl
 have u11:F.a9 41 42=some [41,42]:=by kernel_rfl
 unfold F.cY F.dM F.dy chk kinds
 by_cases h2:k=2
 ·simp[h2,u2,chk_l f hs]
 ·by_cases h3:k=3
  ·simp[h3,u3,chk_l f hs]
  ·by_cases h4:k=4
   ·simp[h4,u4,chk_l f hs]
   ·by_cases h8:k=8
    ·simp[h8,u8,chk_l f hs]
    ·by_cases h11:k=11
     ·simp[h11,u11,chk_l f hs]
     ·simp only[h2,h3,h4,h8,h11,Q9,Qa]
      rw[Qc (by decide),Qc trivial]
      by_cases hz:f=(0,0,ByteArray.mk #[])
      ·rw[Qb (fun h=>h hz),Qc hz]
      ·rw[Qc hz,Qb hz]
theorem R06_l (f:Fun)(hs:f.2.2.size<=5000)(l:List Int)(hl:l.length<=100):F.bc f l A.FU 0=some (anyF f l):=
 A.lp0 l (fun n y=>F.bc f l n y) (fun _ t=>some (anyF f t))
  (fun n=>by rw[F.bc,Qb (by omega)];rfl)
  (fun n k x hx hk ih=>by
   rw[F.bc,Qc (by omega),A.ixn hx,Qa]
   simp only[F.cQ,Qhu,Qlj _ hs,Qa,ih,A.gd1 (A.r64n (n:=k) (by omega)),anyF,X8]
   by_cases h:x=f.1
   ·subst h
    cases hn:Qdo f<;>cases ht:Qld f<;>simp
   ·simp[h])
  (by have:=Qac;omega)
theorem Qiv (k:Int)(f:Fun)(hs:f.2.2.size<=5000):F.dq k f=some (chk k f):=by
 have u2:F.cj 2=some [1,2,3,4,5,6,7,8]:=by kernel_rfl
 have u3:F.cj 3=some [11,12,13]:=by kernel_rfl
 have u4:F.cj 4=some [21,22]:=by kernel_rfl
 have u8:F.cj 8=some [31,32,33,34]:=by kernel_rfl
 have u11:F.cj 11=some [41,42]:=by kernel_rfl
 have u0:F.bM 1 0=some []:=by kernel_rfl
 unfold F.dq chk kinds
 by_cases h2:k=2
 ·subst h2;rw[u2,Qa,Qb (by simp),F.bd,Qb (by simp),R06_l f hs _ (by simp)];simp
 ·by_cases h3:k=3
  ·subst h3;rw[u3,Qa,Qb (by simp),F.bd,Qb (by simp),R06_l f hs _ (by simp)];simp
  ·by_cases h4:k=4
   ·subst h4;rw[u4,Qa,Qb (by simp),F.bd,Qb (by simp),R06_l f hs _ (by simp)];simp
   ·by_cases h8:k=8
    ·subst h8;rw[u8,Qa,Qb (by simp),F.bd,Qb (by simp),R06_l f hs _ (by simp)];simp
    ·by_cases h11:k=11
     ·subst h11;rw[u11,Qa,Qb (by simp),F.bd,Qb (by simp),R06_l f hs _ (by simp)];simp
     ·have u:F.cj k=some []:=by unfold F.cj;simp only[h2,h3,h4,h8,h11,Q9,u0]
      rw[u,Qa,Qc (by simp),F.bd,R06_l f hs _ (by simp)]
      simp only[h2,h3,h4,h8,h11,Q9,Xd,Qw,anyF,List.any_nil,Qu]
      by_cases hz:f=(0,0,ByteArray.mk #[])
      ·rw[Qc hz,Qc hz]
      ·rw[Qb hz,Qb hz]
end Go.Proofs.YtligcbdjiolamaaGreatDoor
end
section
namespace Go.Utf
open Go.Lib
abbrev Rn:=List UInt8×Int
structure Ck (c:Rn):Prop where
 ne:c.1≠[]
 four:c.1.length<=4
 enc:(Utf8.encode c.2).data.toList=c.1
 dec: ∀rest,decodeL (c.1++rest)=(c.2.toNat,c.1.length)
 nn:0<=c.2
 top:c.2<=1114111
 ok: ¬(c.2.toNat=65533/\c.1.length=1)
abbrev flat (cs:List Rn):List UInt8:=cs.flatMap (·.1)
theorem foldl_toList (ns:List Int): ∀s:ByteArray,(ns.foldl (fun r n=>r++Utf8.encode n) s).data.toList=s.data.toList++ns.flatMap fun n=>(Utf8.encode n).data.toList:=by
 induction ns with
 |nil=>intro s;simp
 |cons n ns ih=>intro s;rw[List.foldl_cons,ih];simp[ByteArray.data_append]
theorem ba_eq {s t:ByteArray}(h:s.data.toList=t.data.toList):s=t:=by
 cases s;cases t;congr;exact Yk.1 h
def bd (n:Nat):Nat->List Rn->Nat
 |p,[]=>p
 |p,c::cs=>if p+c.1.length<=n then bd n (p+c.1.length) cs else p
end Go.Utf
end
section
namespace Go.Proofs.YtligcbdjiolamaaGreatDoor
open Go.RowKit Go.Graph Go.Utf
abbrev pos (cs:List Rn) (k:Nat):Nat:=(flat (cs.take k)).length
abbrev Rec:=Int×ByteArray
def okT (s:ByteArray):Bool:=decide (s.size<=64)&&vld s s.size 0
theorem Qjl (r:Rec):F.cI r=some (if okT r.2=true then 0 else 50):=by
 rw[F.cI]
 unfold okT
 by_cases h:r.2.size<=64
 ·rw[Qb (by omega),F.ao,Qcy,Qa,F.bU,Qz h,Xi]
  cases vld r.2 r.2.size 0<;>rfl
 ·rw[Qc (by omega),F.bU,Qc rfl,We h];rfl
end Go.Proofs.YtligcbdjiolamaaGreatDoor
end
section
namespace Go.Ent
open Go.Utf
abbrev En:=Int×Int×ByteArray×Int
abbrev Ky:=Int×Int×ByteArray
abbrev key (e:En):Ky:=(e.1,e.2.1,e.2.2.1)
abbrev num (e:En):Int:=e.2.2.2
theorem bL_irr: ∀a:List UInt8,Op.bytesLess a a=false
 | []=>rfl
 |x::a=>by unfold Op.bytesLess;rw[bL_irr a];simp
theorem bL_tr: ∀{a b c:List UInt8},Op.bytesLess a b=true->Op.bytesLess b c=true->Op.bytesLess a c=true
 |_,_,[],_,h=>by cases h':(‹List UInt8›)<;>simp_all [Op.bytesLess]
 |_,[],_::_,h,_=>by simp_all [Op.bytesLess]
 | [],_::_,_::_,_,_=>rfl
 |x::a,y::b,z::c,h1,h2=>by
  unfold Op.bytesLess at h1 h2 ⊢
  simp only[Xo,Qf,Qw,beq_iff_eq]at h1 h2 ⊢
  rcases h1 with h1|⟨rfl,h1⟩
  ·rcases h2 with h2|⟨rfl,h2⟩
   ·exact .inl (UInt8.lt_trans h1 h2)
   ·exact .inl h1
  ·rcases h2 with h2|⟨rfl,h2⟩
   ·exact .inl h2
   ·exact .inr ⟨rfl,bL_tr h1 h2⟩
theorem bL_tri: ∀{a b:List UInt8},Op.bytesLess a b=false->Op.bytesLess b a=false->a=b
 | [],[],_,_=>rfl
 | [],_::_,h,_=>by simp[Op.bytesLess]at h
 |_::_,[],_,h=>by simp[Op.bytesLess]at h
 |x::a,y::b,h1,h2=>by
  unfold Op.bytesLess at h1 h2
  simp only[Yp,decide_eq_false_iff_not,Jl]at h1 h2
  have e:x=y:=UInt8.le_antisymm (UInt8.not_lt.1 h2.1) (UInt8.not_lt.1 h1.1)
  subst e
  have h3:Op.bytesLess a b=false:=by rcases h1.2 with h|h;simp at h;exact h
  have h4:Op.bytesLess b a=false:=by rcases h2.2 with h|h;simp at h;exact h
  rw[bL_tri h3 h4]
def bl (s t:ByteArray):Bool:=Op.bytesLess s.toList t.toList
theorem bl_irr (s:ByteArray):bl s s=false:=bL_irr _
theorem bl_tr {s t u:ByteArray}(h1:bl s t=true)(h2:bl t u=true):bl s u=true:=bL_tr h1 h2
theorem bl_tri {s t:ByteArray}(h1:bl s t=false)(h2:bl t s=false):s=t:=by
 have:=bL_tri h1 h2
 rw[Lib.toList_data,Lib.toList_data]at this
 exact ba_eq this
def rl (a b:Int×ByteArray):Bool:=decide (a.1<b.1)||(decide (a.1=b.1)&&bl a.2 b.2)
theorem rl_irr (a:Int×ByteArray):rl a a=false:=by unfold rl;rw[bl_irr];simp
theorem rl_tr {a b c:Int×ByteArray}(h1:rl a b=true)(h2:rl b c=true):rl a c=true:=by
 unfold rl at h1 h2 ⊢
 simp only[Xo,Qf,Qw]at h1 h2 ⊢
 rcases h1 with h1|⟨h1,h1'⟩
 ·rcases h2 with h2|⟨h2,h2'⟩
  ·left;omega
  ·left;omega
 ·rcases h2 with h2|⟨h2,h2'⟩
  ·left;omega
  ·exact .inr ⟨h1.trans h2,bl_tr h1' h2'⟩
theorem rl_tri {a b:Int×ByteArray}(h1:rl a b=false)(h2:rl b a=false):a=b:=by
 unfold rl at h1 h2
 simp only[Yp,decide_eq_false_iff_not,Jl]at h1 h2
 have e:a.1=b.1:=by omega
 have h3:bl a.2 b.2=false:=by rcases h1.2 with h|h;exact absurd e h;exact h
 have h4:bl b.2 a.2=false:=by rcases h2.2 with h|h;exact absurd e.symm h;exact h
 exact Prod.ext e (bl_tri h3 h4)
def kl (a b:Ky):Bool:=decide (a.1<b.1)||(decide (a.1=b.1)&&rl a.2 b.2)
theorem kl_irr (a:Ky):kl a a=false:=by unfold kl;rw[rl_irr];simp
theorem kl_tr {a b c:Ky}(h1:kl a b=true)(h2:kl b c=true):kl a c=true:=by
 unfold kl at h1 h2 ⊢
 simp only[Xo,Qf,Qw]at h1 h2 ⊢
 rcases h1 with h1|⟨h1,h1'⟩
 ·rcases h2 with h2|⟨h2,h2'⟩
  ·left;omega
  ·left;omega
 ·rcases h2 with h2|⟨h2,h2'⟩
  ·left;omega
  ·exact .inr ⟨h1.trans h2,rl_tr h1' h2'⟩
theorem kl_tri {a b:Ky}(h1:kl a b=false)(h2:kl b a=false):a=b:=by
 unfold kl at h1 h2
 simp only[Yp,decide_eq_false_iff_not,Jl]at h1 h2
 have e:a.1=b.1:=by omega
 have h3:rl a.2 b.2=false:=by rcases h1.2 with h|h;exact absurd e h;exact h
 have h4:rl b.2 a.2=false:=by rcases h2.2 with h|h;exact absurd e.symm h;exact h
 exact Prod.ext e (rl_tri h3 h4)
theorem kl_ne {a b:Ky}(h:kl a b=true):a≠b:=fun e=>by subst e;rw[kl_irr]at h;cases h
theorem kl_asy {a b:Ky}(h:kl a b=true):kl b a=false:=by
 cases h2:kl b a with
 |false=>rfl
 |true=>have:=kl_tr h h2;rw[kl_irr]at this;cases this
abbrev Srt (l:List En):Prop:=l.Pairwise fun a b=>kl (key a) (key b)=true
def gv:List En->Ky->Int
 | [],_=>0
 |e::l,k=>if key e=k then num e else gv l k
theorem gv_none: ∀{l:List En} {k:Ky},(∀e,e∈l->key e≠k)->gv l k=0
 | [],_,_=>rfl
 |e::l,k,h=>by unfold gv;rw[Qb (h e (Qg ..))];exact gv_none fun x hx=>h x (Qe _ hx)
theorem gv_mem: ∀{l:List En} {e:En},Srt l->e∈l->gv l (key e)=num e
 |x::l,e,h,hm=>by
  unfold gv
  rcases Qj.1 hm with rfl|hm
  ·rw[Qc rfl]
  ·rw[Qb (kl_ne ((Q6.1 h).1 e hm))];exact gv_mem (Q6.1 h).2 hm
theorem gv_at {l:List En}{k:Ky}(h:gv l k≠0): ∃e,e∈l/\key e=k/\num e=gv l k:=by
 induction l with
 |nil=>exact absurd rfl h
 |cons x l ih=>
  unfold gv at h ⊢
  by_cases hx:key x=k
  ·rw[Qc hx];exact⟨x,Qg ..,hx,rfl⟩
  ·rw[Qb hx]at h ⊢
   obtain⟨e,h1,h2⟩:=ih h
   exact⟨e,Qe _ h1,h2⟩
theorem en_ext {a b:En}(h:key a=key b)(hn:num a=num b):a=b:=by
 obtain⟨a1,a2,a3,a4⟩:=a
 obtain⟨b1,b2,b3,b4⟩:=b
 simp only[key,num,Qr]at h hn
 obtain⟨rfl,rfl,rfl⟩:=h
 subst hn;rfl
theorem srt_ext: ∀{l m:List En},Srt l->Srt m->(∀e,e∈l↔e∈m)->l=m
 | [],[],_,_,_=>rfl
 | [],y::m,_,_,h=>by have:=(h y).2 (Qg ..);cases this
 |x::l,[],_,_,h=>by have:=(h x).1 (Qg ..);cases this
 |x::l,y::m,hl,hm,h=>by
  have e:x=y:=by
   rcases Qj.1 ((h x).1 (Qg ..))with e|hx
   ·exact e
   ·rcases Qj.1 ((h y).2 (Qg ..))with e|hy
    ·exact e.symm
    ·have h1:=(Q6.1 hm).1 x hx
     have h2:=(Q6.1 hl).1 y hy
     rw[kl_asy h1]at h2;cases h2
  subst e
  congr 1
  refine srt_ext (Q6.1 hl).2 (Q6.1 hm).2 fun e=>?_
  have nl: ∀z,z∈l->z≠x:=fun z hz e=>by subst e;have:=(Q6.1 hl).1 z hz;rw[kl_irr]at this;cases this
  have nm: ∀z,z∈m->z≠x:=fun z hz e=>by subst e;have:=(Q6.1 hm).1 z hz;rw[kl_irr]at this;cases this
  exact⟨fun he=>((Qj.1 ((h e).1 (Qe _ he))).resolve_left (nl e he)),fun he=>((Qj.1 ((h e).2 (Qe _ he))).resolve_left (nm e he))⟩
structure Nf (l:List En):Prop where
 srt:Srt l
 nz: ∀e,e∈l->num e≠0
theorem nf_mem {l m:List En}(hl:Nf l)(hm:Nf m)(h: ∀k,gv l k=gv m k){e:En}(he:e∈l):e∈m:=by
 have h1:=gv_mem hl.srt he
 rw[h]at h1
 obtain⟨e',h2,h3,h4⟩:=gv_at (l:=m) (k:=key e) (by rw[h1];exact hl.nz e he)
 rw[h1]at h4
 rw[<-en_ext h3 h4];exact h2
theorem nf_ext {l m:List En}(hl:Nf l)(hm:Nf m)(h: ∀k,gv l k=gv m k):l=m:=
 srt_ext hl.srt hm.srt fun e=>⟨nf_mem hl hm h,nf_mem hm hl fun k=>(h k).symm⟩
def upd (x e:En)(one:Bool):En:=(x.1,x.2.1,x.2.2.1,if one=true then 1 else min (num x+num e) 1099511627776)
def insP (e:En)(one:Bool):List En->List En
 | []=>[e]
 |x::l=>if key x=key e then upd x e one::l else if kl (key e) (key x)=true then e::x::l else x::insP e one l
def putP (e:En)(one:Bool)(l:List En):List En:=if num e=0 then l else insP e one l
abbrev cap (one:Bool):Int:=if one=true then 1 else 1099511627776
structure Bd (one:Bool) (l:List En):Prop where
 srt:Srt l
 b: ∀e,e∈l->1<=num e/\num e<=cap one
theorem Bd.nf {one:Bool}{l:List En}(h:Bd one l):Nf l:=⟨h.srt,fun e he=>by have:=(h.b e he).1;omega⟩
theorem Bd.gv {one:Bool}{l:List En}(h:Bd one l)(k:Ky):0<=gv l k/\gv l k<=cap one:=by
 by_cases h0:Ent.gv l k=0
 ·rw[h0];cases one<;>decide
 ·obtain⟨e,h1,_,h2⟩:=gv_at h0
  have:=h.b e h1
  rw[h2]at this
  exact⟨by omega,this.2⟩
theorem Qhl {e:En}{one:Bool}: ∀{l:List En} {x:En},x∈insP e one l->x=e\/x∈l\/∃y,y∈l/\key y=key e/\x=upd y e one
 | [],x,h=>by simp only[insP,Qo]at h;exact .inl h
 |y::l,x,h=>by
  unfold insP at h
  split at h
  ·rename_i hk
   rcases Qj.1 h with rfl|h
   ·exact .inr (.inr ⟨y,Qg ..,hk,rfl⟩)
   ·exact .inr (.inl (Qe _ h))
  ·split at h
   ·rcases Qj.1 h with rfl|h
    ·exact .inl rfl
    ·exact .inr (.inl h)
   ·rcases Qj.1 h with rfl|h
    ·exact .inr (.inl (Qg ..))
    ·rcases Qhl h with h1|h1|⟨z,h1,h2⟩
     ·exact .inl h1
     ·exact .inr (.inl (Qe _ h1))
     ·exact .inr (.inr ⟨z,Qe _ h1,h2⟩)
theorem insP_key {e:En}{one:Bool}{l:List En}{x:En}(h:x∈insP e one l):key x=key e\/∃y,y∈l/\key x=key y:=by
 rcases Qhl h with rfl|h|⟨y,h1,h2,rfl⟩
 ·exact .inl rfl
 ·exact .inr ⟨x,h,rfl⟩
 ·exact .inr ⟨y,h1,rfl⟩
theorem insP_srt {e:En}{one:Bool}: ∀{l:List En},Srt l->Srt (insP e one l)
 | [],_=>by simp[insP]
 |x::l,h=>by
  obtain⟨h1,h2⟩:=Q6.1 h
  unfold insP
  split
  ·rename_i hk
   exact Q6.2 ⟨fun y hy=>h1 y hy,h2⟩
  ·rename_i hk
   split
   ·rename_i hlt
    exact Q6.2 ⟨fun y hy=>(Qj.1 hy).elim (fun e=>e▸hlt) fun hy=>kl_tr hlt (h1 y hy),h⟩
   ·rename_i hlt
    refine Q6.2 ⟨fun y hy=>?_,insP_srt h2⟩
    rcases insP_key hy with hye|⟨z,hz,hye⟩
    ·rw[hye]
     cases hxe:kl (key x) (key e)with
     |true=>rfl
     |false=>exact absurd (kl_tri hxe (by simpa using hlt)) hk
    ·rw[hye];exact h1 z hz
theorem insP_gv {e:En}{one:Bool}{k:Ky}: ∀{l:List En},Bd one l->1<=num e->num e<=cap one->gv (insP e one l) k=if k=key e then min (cap one) (gv l k+num e)else gv l k
 | [],_,h1,h2=>by
  unfold insP gv gv
  by_cases hk:k=key e
  ·rw[Qc hk.symm,Qc hk];omega
  ·rw[Qb (fun h=>hk h.symm),Qb hk]
 |x::l,h,h1,h2=>by
  obtain⟨s1,s2⟩:=Q6.1 h.srt
  have hb:Bd one l:=⟨s2,fun y hy=>h.b y (Qe _ hy)⟩
  have hx:=h.b x (Qg ..)
  unfold insP
  split
  ·rename_i hke
   unfold gv
   by_cases hk:k=key e
   ·rw[Qc (show key (upd x e one)=k from hke.trans hk.symm),Qc hk,Qc (hke.trans hk.symm)]
    unfold num at h1 h2 hx
    unfold upd num
    cases one with
    |true=>simp only[Xd];simp only[cap,Xd]at h2 hx ⊢;omega
    |false=>simp only[Qu,Q9];simp only[cap,Qu,Q9];omega
   ·rw[Qb (show key (upd x e one)≠k from fun h=>hk (h.symm.trans hke)),Qb hk,Qb (fun h=>hk (h.symm.trans hke))]
  ·rename_i hke
   split
   ·rename_i hlt
    by_cases hk:k=key e
    ·have h0:gv (x::l) k=0:=gv_none fun y hy he=>by
      have:kl (key e) (key y)=true:=(Qj.1 hy).elim (fun e=>e▸hlt) fun hy=>kl_tr hlt (s1 y hy)
      exact kl_ne this (he.trans hk).symm
     rw[Qc hk,h0]
     conv=>lhs;unfold gv
     rw[Qc hk.symm];omega
    ·conv=>lhs;unfold gv
     rw[Qb (fun h=>hk h.symm),Qb hk]
   ·unfold gv
    by_cases hk:key x=k
    ·rw[Qc hk,Qc hk,Qb (fun h=>hke (hk.trans h))]
    ·rw[Qb hk,Qb hk];exact insP_gv hb h1 h2
def cs (C:Int)(l:List En)(k:Ky):Int:=l.foldl (fun a e=>if key e=k then min C (a+num e)else a) 0
end Go.Ent
end
section
namespace Go.Proofs.YtligcbdjiolamaaGreatDoor
open Go.RowKit Go.Graph Go.Utf Go.Ent
def cI (a b:Int):Int:=if a<b then-1 else if b<a then 1 else 0
theorem Qhz (a b:Int):F.aR a b=some (cI a b):=by
 rw[F.aR]
 simp only[F.bH,Qa,ne_eq,not_true,decide_false,Qu,Q9]
 unfold cI
 by_cases h1:a<b
 ·rw[Qc h1,Qc h1]
 ·rw[Qb h1,Qb h1]
  by_cases h2:b<a
  ·rw[Qc h2,Qc h2]
  ·rw[Qb h2,Qb h2]
theorem cmpi_eq (a b:Int):F.cd a b=some (cI a b):=Qhz a b
def cS (a b:ByteArray):Int:=if bl a b=true then-1 else if a=b then 0 else 1
theorem tl_eq {a b:ByteArray}:(a.toList==b.toList)=decide (a=b):=by
 rw[Lib.toList_data,Lib.toList_data]
 by_cases h:a=b
 ·subst h;simp
 ·rw[We h]
  exact beq_eq_false_iff_ne.2 fun e=>h (ba_eq e)
theorem cmps_eq (a b:ByteArray):F.a8 a b=some (cS a b):=by
 rw[F.a8]
 simp only[F.bx,Qa,ne_eq,not_true,decide_false,Qu,Q9,tl_eq]
 unfold cS bl
 by_cases h1:Op.bytesLess a.toList b.toList=true
 ·rw[Qc h1,Qc h1]
 ·rw[Qb h1,Qb h1]
  rw[Jp]at h1
  by_cases h2:a=b
  ·subst h2;rw[h1];simp
  ·rw[h1,We h2];simp[h2]
theorem cB_eq: ∀a b:List UInt8,Lib.compareBytes a b=if Op.bytesLess a b=true then-1 else if a=b then 0 else 1
 | [],[]=>rfl
 | [],_::_=>rfl
 |_::_,[]=>by simp[Lib.compareBytes,Op.bytesLess]
 |x::a,y::b=>by
  unfold Lib.compareBytes Op.bytesLess
  by_cases h1:x<y
  ·simp[h1]
  ·by_cases h2:y<x
   ·have hne:x≠y:=fun e=>by subst e;exact h1 h2
    simp[h1,h2,hne]
   ·have e:x=y:=UInt8.le_antisymm (UInt8.not_lt.1 h2) (UInt8.not_lt.1 h1)
    subst e
    rw[Qb h1,Qb h1,cB_eq a b]
    simp[h1]
theorem scmp_eq (a b:ByteArray):F.cc a b=some (cS a b):=by
 rw[F.cc,cB_eq]
 unfold cS bl
 rw[Lib.toList_data,Lib.toList_data]
 by_cases h:a=b
 ·subst h;simp
 ·have:a.data.toList≠b.data.toList:=fun e=>h (ba_eq e)
  simp[h,this]
theorem or_eq (l:List Int)(hl:l.length<=100):F.b6 l=some ((l.find? fun x=>decide (x≠0)).getD 0):=
 A.lp0 l (fun f y=>F.br l f y) (fun _ r=>some ((r.find? fun x=>decide (x≠0)).getD 0))
  (fun f=>by rw[F.br,Qb (by omega)];rfl)
  (fun f k x hx hk ih=>by
   rw[F.br,Qc (by omega),A.ixn hx,Qa,List.find?_cons]
   by_cases h:x=0
   ·rw[Qb (fun h2=>h2 h),A.gd1 ⟨by omega,by omega⟩,ih,We (fun h2=>h2 h)]
   ·rw[Qc h,Qz h];rfl)
  (by have:=Qac;omega)
theorem or2 (a b:Int):F.b6 [a,b]=some (if a≠0 then a else b):=by
 rw[or_eq _ (by simp)]
 by_cases h:a=0
 ·subst h
  by_cases h2:b=0
  ·subst h2;rfl
  ·simp[h2]
 ·simp[h]
theorem or3 (a b c:Int):F.b6 [a,b,c]=some (if a≠0 then a else if b≠0 then b else c):=by
 rw[or_eq _ (by simp)]
 by_cases h:a=0
 ·subst h
  by_cases h2:b=0
  ·subst h2
   by_cases h3:c=0
   ·subst h3;rfl
   ·simp[h3]
  ·simp[h2]
 ·simp[h]
abbrev rec (e:En):Int×ByteArray:=(e.2.1,e.2.2.1)
theorem cS_cases (a b:ByteArray):(bl a b=true/\cS a b= -1)\/(a=b/\bl a b=false/\cS a b=0)\/(a≠b/\bl a b=false/\bl b a=true/\cS a b=1):=by
 unfold cS
 cases h:bl a b with
 |true=>exact .inl ⟨rfl,by simp⟩
 |false=>
  by_cases h2:a=b
  ·exact .inr (.inl ⟨h2,rfl,by simp[h2]⟩)
  ·refine .inr (.inr ⟨h2,rfl,?_,by simp[h2]⟩)
   cases h3:bl b a with
   |true=>rfl
   |false=>exact absurd (bl_tri h h3) h2
theorem cI_cases (a b:Int):(a<b/\cI a b= -1)\/(a=b/\cI a b=0)\/(b<a/\cI a b=1):=by
 unfold cI
 by_cases h:a<b
 ·exact .inl ⟨h,Qc h⟩
 ·by_cases h2:b<a
  ·exact .inr (.inr ⟨h2,by rw[Qb h,Qc h2]⟩)
  ·exact .inr (.inl ⟨by omega,by rw[Qb h,Qb h2]⟩)
def cR (a b:Int×ByteArray):Int:=if cI a.1 b.1≠0 then cI a.1 b.1 else cS a.2 b.2
theorem cR_lt (a b:Int×ByteArray):decide (cR a b<0)=rl a b:=by
 unfold cR rl
 rcases cI_cases a.1 b.1 with⟨h,e⟩|⟨h,e⟩|⟨h,e⟩
 ·rw[e];simp[h]
 ·rw[e,h]
  simp only[ne_eq,not_true,Q9,Int.lt_irrefl,decide_false,Xz,decide_true,Xi]
  rcases cS_cases a.2 b.2 with⟨h2,e2⟩|⟨h2,h3,e2⟩|⟨h2,h3,h4,e2⟩
  ·rw[e2,h2];rfl
  ·rw[e2,h3];rfl
  ·rw[e2,h3];rfl
 ·rw[e]
  have h1: ¬a.1<b.1:=by omega
  have h2: ¬a.1=b.1:=by omega
  simp[h1,h2]
theorem ahead_eq (a b:En):F.cw a b=some (rl (rec a) (rec b)):=by
 rw[F.cw,Qhz,Qa,scmp_eq,Qa,or2,Qa]
 exact Wt some (cR_lt (rec a) (rec b))
def entOk (n:Nd)(x:En):Bool:=
 if x.1≠n.1 then false else if n.2.1=11 then decide (x.2.2.1=ByteArray.mk #[])&&decide (0<=x.2.2.2)&&decide (x.2.2.2<=1099511627776)else if n.2.1=16 then decide (x.2.2.2=1)&&okT x.2.2.1 else false
def stF (n:Nd):Option En->List En->Bool
 |_,[]=>true
 |none,e::l=>entOk n e&&stF n (some e) l
 |some p,e::l=>entOk n e&&rl (rec p) (rec e)&&stF n (some e) l
def stP (n:Nd)(l:List En):Bool:=stF n none l
theorem entry_eq (n:Nd)(x:En):F.cv n x=some (entOk n x):=by
 rw[F.cv]
 unfold entOk
 by_cases h0:x.1=n.1
 ·have h0': ¬(x.1≠n.1):=fun h=>h h0
  rw[Qb h0',Qb h0']
  by_cases h1:n.2.1=11
  ·rw[Qc h1,Qc h1]
   congr 1
   by_cases a1:x.2.2.1=ByteArray.mk #[]<;>by_cases a2:(0:Int)<=x.2.2.2<;>by_cases a3:x.2.2.2<=1099511627776<;>simp[a1,a2,a3]
  ·rw[Qb h1,Qb h1]
   by_cases h2:n.2.1=16
   ·rw[Qc h2,Qc h2]
    by_cases h3:x.2.2.2=1
    ·rw[Qc h3]
     show(F.cI (rec x)).bind _=_
     rw[Qjl,Qa,F.bF,Qz h3,Xi]
     show some (decide ((if okT x.2.2.1=true then(0:Int)else 50)=0))=_
     cases okT x.2.2.1<;>rfl
    ·rw[Qb h3,F.bF,We h3];rfl
   ·rw[Qb h2,Qb h2]
 ·rw[Qc h0,Qc h0]
abbrev prv (l:List En) (k:Nat):Option En:=if k=0 then none else l[k-1]?
theorem prv_s (l:List En)(k:Nat){x:En}(h:l[k]?=some x):prv l (k+1)=some x:=by unfold prv;rw[Qb (by omega)];exact h
theorem Qik (n:Nd)(l:List En)(hl:l.length<=9223372036854775807):F.bI n l=some (if stP n l=true then 0 else 171):=
 A.lp0 l (fun f y=>F.o n l f y) (fun k r=>some (if stF n (prv l k) r=true then 0 else 171))
  (fun f=>by
   rw[F.o,Qb (by omega)]
   cases prv l l.length<;>rfl)
  (fun f k x hx hk ih=>by
   rw[F.o,Qc (by omega),A.ixn hx,Qa]
   show(F.cv n x).bind _=_
   rw[prv_s l k hx]at ih
   have nx: ∀b:Bool,F.ar (F.o n l f) (k:Int) b=some (if(!b&&stF n (some x) (l.drop (k+1)))=true then 0 else 171):=fun b=>by
    rw[F.ar]
    cases b with
    |true=>rw[Qc rfl];rfl
    |false=>rw[Qb (by simp),A.gd1 ⟨by omega,by omega⟩,ih];rfl
   rw[entry_eq,Qa]
   by_cases hk0:k=0
   ·subst hk0
    show _=some (if(entOk n x&&stF n (some x) (l.drop (0+1)))=true then 0 else 171)
    cases he:entOk n x with
    |false=>rw[X0,Qc rfl,nx];rfl
    |true=>rw[Xm,Qb (by simp),Qb (by omega),nx];rfl
   ·have hp:prv l k=l[k-1]?:=by unfold prv;rw[Qb hk0]
    obtain⟨p,hpp⟩: ∃p,l[k-1]?=some p:=⟨_,Qi (by omega)⟩
    rw[hp,hpp]
    show _=some (if(entOk n x&&rl (rec p) (rec x)&&stF n (some x) (l.drop (k+1)))=true then 0 else 171)
    cases he:entOk n x with
    |false=>rw[X0,Qc rfl,nx];rfl
    |true=>
     rw[Xm,Qb (by simp),Qc (by omega),A.gd1 ⟨by omega,by omega⟩,show(k:Int)-1=((k-1:Nat):Int) by omega,A.ixn hpp,Qa]
     show(F.cw p x).bind _=_
     rw[ahead_eq,Qa,nx,Bool.not_not,Xi])
  (by have:=Qac;omega)
theorem Qkz {n:Nd}: ∀{p:Option En} {l:List En},stF n p l=true->∀e,e∈l->entOk n e=true
 |_,[],_,e,h=>by cases h
 |none,x::l,h,e,he=>by
  unfold stF at h
  rw[Qf]at h
  exact(Qj.1 he).elim (fun e=>e▸h.1) (Qkz h.2 e)
 |some p,x::l,h,e,he=>by
  unfold stF at h
  rw[Qf,Qf]at h
  exact(Qj.1 he).elim (fun e=>e▸h.1.1) (Qkz h.2 e)
theorem stF_pw {n:Nd}: ∀{p:En} {l:List En},stF n (some p) l=true->(p::l).Pairwise fun a b=>rl (rec a) (rec b)=true
 |p,[],_=>by simp
 |p,x::l,h=>by
  unfold stF at h
  rw[Qf,Qf]at h
  have ih:=stF_pw h.2
  exact Q6.2 ⟨fun y hy=>(Qj.1 hy).elim (fun e=>e▸h.1.2) fun hy=>rl_tr h.1.2 ((Q6.1 ih).1 y hy),ih⟩
theorem stP_iff {n:Nd}{l:List En}:stP n l=true↔(∀e,e∈l->entOk n e=true)/\l.Pairwise fun a b=>rl (rec a) (rec b)=true:=by
 constructor
 ·intro h
  refine⟨Qkz h,?_⟩
  cases l with
  |nil=>exact List.Pairwise.nil
  |cons x l=>
   unfold stP stF at h
   rw[Qf]at h
   exact stF_pw h.2
 ·rintro⟨h1,h2⟩
  have main: ∀(l:List En) (p:En),(∀e,e∈l->entOk n e=true)->(p::l).Pairwise (fun a b=>rl (rec a) (rec b)=true)->stF n (some p) l=true:=by
   intro l
   induction l with
   |nil=>intro p _ _;rfl
   |cons x l ih=>
    intro p h1 h2
    unfold stF
    rw[h1 x (Qg ..),(Q6.1 h2).1 x (Qg ..),ih x (fun e he=>h1 e (Qe _ he)) (Q6.1 h2).2];rfl
  cases l with
  |nil=>rfl
  |cons x l=>
   unfold stP stF
   rw[h1 x (Qg ..),main l x (fun e he=>h1 e (Qe _ he)) h2];rfl
theorem Same_eq (a b:List En)(hl:a.length<=9223372036854775806):F.cD a b=some (decide (a=b)):=by
 rw[F.cD]
 by_cases h:a.length=b.length
 ·rw[Qb (by omega)]
  have:=A.lp0 a (fun f y=>F.bJ a b f y) (fun k r=>some (decide (r=b.drop k)))
   (fun f=>by
    rw[F.bJ,Qb (by omega),h,Y6];rfl)
   (fun f k x hx hk ih=>by
    obtain⟨y,hy⟩: ∃y,b[k]?=some y:=⟨_,Qi (by omega)⟩
    rw[F.bJ,Qc (by omega),A.ixn hx,Qa,A.ixn hy,Qa,A.dropx hy]
    show(if x≠y then _ else _)=_
    by_cases e:x=y
    ·rw[Qb (fun h=>h e),A.gd1 ⟨by omega,by omega⟩,ih]
     subst e;simp
    ·rw[Qc e,We (fun h=>e (List.cons.inj h).1)])
   (by have:=Qac;omega)
  rw[this];simp
 ·rw[Qc (by omega),We (fun e=>h (by rw[e]))]
end Go.Proofs.YtligcbdjiolamaaGreatDoor
end
section
namespace Go.A
theorem dem_of {α β:Type}[DecidableEq β]{m:List α}{sn:List Nat}{e:Option β}{g:Nat->α->Option β}{r:β}(h1:(∀i,i<m.length->i∈sn)->e=some r)(h2: ∀i p,m[i]?=some p->i∉sn->g i p=some r):dem m sn e g=some r:=by
 have hmem: ∀i,i∈(List.range m.length).filter (fun i=> !(sn.contains i))↔i<m.length/\i∉sn:=fun i=>by
  rw[Jq,Jg];simp
 unfold dem
 split
 ·rename_i hl
  rw[hl]at hmem
  refine h1 fun i hi=>?_
  cases hd:decide (i∈sn)with
  |true=>exact Wa hd
  |false=>exact absurd ((hmem i).2 ⟨hi,of_decide_eq_false hd⟩) (by simp)
 ·rename_i i js hl
  rw[hl]at hmem
  obtain⟨hi,hn⟩:=(hmem i).1 (Qg ..)
  rw[Qi hi,Qa,Qc]
  ·exact h2 i _ (Qi hi) hn
  ·rw[Q2]
   intro j hj
   obtain⟨hj1,hj2⟩:=(hmem j).1 (Qe _ hj)
   rw[Qi hj1,Qa,h2 j _ (Qi hj1) hj2,h2 i _ (Qi hi) hn]
   exact Qz rfl
end Go.A
namespace Go.Proofs.YtligcbdjiolamaaGreatDoor
open Go.RowKit Go.Graph Go.Utf Go.Ent
def entOf (p:Ky×Int):Option En:=if p.2≠0 then some (p.1.1,p.1.2.1,p.1.2.2,p.2)else none
theorem Qaq {p:Ky×Int}{e:En}(h:entOf p=some e):key e=p.1/\num e=p.2/\p.2≠0:=by
 unfold entOf at h
 split at h
 ·rename_i h0
  injection h with h;subst h;exact⟨rfl,rfl,h0⟩
 ·cases h
abbrev hasK (k:Ky):Prop:=A.h6 k.1/\A.h6 k.2.1/\k.2.2.size<=maxLen
end Go.Proofs.YtligcbdjiolamaaGreatDoor
end
section
namespace Go.Proofs.YtligcbdjiolamaaGreatDoor
open Go.RowKit Go.Graph Go.Utf Go.Ent
theorem list1_eq (a b:En): ∃c,F.aJ a b=some c/\decide (c<0)=kl (key a) (key b):=by
 rw[F.aJ,cmpi_eq,Qa,Qhz,Qa,cmps_eq,Qa,or3,Qa]
 refine⟨_,rfl,?_⟩
 unfold kl
 have:=cR_lt (rec a) (rec b)
 unfold cR at this
 rcases cI_cases a.1 b.1 with⟨h,e⟩|⟨h,e⟩|⟨h,e⟩
 ·rw[e];simp[h]
 ·rw[e,Qb (by omega),this];simp[h]
 ·rw[e]
  have h1: ¬a.1<b.1:=by omega
  have h2: ¬a.1=b.1:=by omega
  simp[h1,h2]
theorem cl0_eq:A.cl0 (fun x y=>F.aJ x y)=fun x y=>kl (key x) (key y):=by
 funext x y
 obtain⟨c,h1,h2⟩:=list1_eq x y
 show(match F.aJ x y with|some c=>decide (c<0)|none=>false)=_
 rw[h1];exact h2
theorem list_eq (m:List (Ky×Int))(hn:(m.map Prod.fst).Nodup)(hk: ∀p,p∈m->hasK p.1)(hlen:m.length*40<=140737488355328): ∃L,F.ae m A.FU [] []=some L/\Nf L/\∀k,gv L k=Z.mget 0 m k:=by
 have hinj: ∀{i j:Nat} {p q:Ky×Int},m[i]?=some p->m[j]?=some q->p.1=q.1->i=j:=fun {i j p q} hi hj e=>by
  have h1:(m.map Prod.fst)[i]?=some p.1:=by rw[Q1,hi];rfl
  have h2:(m.map Prod.fst)[j]?=some p.1:=by rw[Q1,hj,e];rfl
  exact(List.getElem?_inj (by rw[Wd];exact(Qd.1 hi).1) hn).1 (h1.trans h2.symm)
 have strict: ∀l:List En,(l.map key).Nodup->Srt (A.srtL (fun x y=>kl (key x) (key y)) l):=fun l hnd=>by
  have O:A.OrdOn (fun x y:En=>kl (key x) (key y)) l:=⟨fun x _ y _ h=>kl_asy h,fun x hx y hy h1 h2=>by
   have he:=kl_tri h1 h2
   obtain⟨i,hi⟩:=Xw hx
   obtain⟨j,hj⟩:=Xw hy
   have h3:(l.map key)[i]?=some (key x):=by rw[Q1,hi];rfl
   have h4:(l.map key)[j]?=some (key x):=by rw[Q1,hj];exact Wt some he.symm
   have:=(List.getElem?_inj (by rw[Wd];exact(Qd.1 hi).1) hnd).1 (h3.trans h4.symm)
   subst this
   rw[hi]at hj;exact Xk hj,fun x _ y _ z _ h1 h2=>kl_tr h1 h2⟩
  have h1:=A.srtL_pw O l fun a h=>h
  have h2:((A.srtL (fun x y:En=>kl (key x) (key y)) l).map key).Nodup:=((A.srtL_perm _ l).map key).nodup_iff.2 hnd
  have h3:(A.srtL (fun x y:En=>kl (key x) (key y)) l).Pairwise fun a b=>key a≠key b:=List.pairwise_map.1 h2
  exact(h1.and h3).imp fun {a b} ⟨h4,h5⟩=>by
   cases h6:kl (key a) (key b)with
   |true=>rfl
   |false=>exact absurd (kl_tri h6 h4) h5
 have ordB: ∀l:List En,(l.map key).Nodup->A.ordB (fun x y=>F.aJ x y) l=true:=fun l hnd=>by
  unfold A.ordB
  rw[Q2]
  intro x hx
  rw[Q2]
  intro y hy
  rw[cl0_eq,Qf,Qf]
  obtain⟨c,hc,_⟩:=list1_eq x y
  refine⟨⟨by show(F.aJ x y).isSome=true;rw[hc];rfl,?_⟩,?_⟩
  ·show(bif kl (key x) (key y)then !kl (key y) (key x)else kl (key y) (key x)||decide (x=y))=true
   cases h1:kl (key x) (key y)with
   |true=>rw[kl_asy h1];rfl
   |false=>
    cases h2:kl (key y) (key x)with
    |true=>rfl
    |false=>
     have he:=kl_tri h1 h2
     obtain⟨i,hi⟩:=Xw hx
     obtain⟨j,hj⟩:=Xw hy
     have h3:(l.map key)[i]?=some (key x):=by rw[Q1,hi];rfl
     have h4:(l.map key)[j]?=some (key x):=by rw[Q1,hj];exact Wt some he.symm
     have:=(List.getElem?_inj (by rw[Wd];exact(Qd.1 hi).1) hnd).1 (h3.trans h4.symm)
     subst this
     rw[hi]at hj
     rw[Qz (Xk hj)];rfl
  ·rw[Q2]
   intro z hz
   show(!(kl (key x) (key y)&&kl (key y) (key z))||kl (key x) (key z))=true
   cases h1:kl (key x) (key y)with
   |false=>rfl
   |true=>
    cases h2:kl (key y) (key z)with
    |false=>rfl
    |true=>rw[kl_tr h1 h2];rfl
 obtain⟨es,hes⟩: ∃es,es=m.filterMap entOf:=⟨_,rfl⟩
 have hes_mem: ∀e,e∈es↔∃(i:Nat) (p:Ky×Int),m[i]?=some p/\entOf p=some e:=fun e=>by
  rw[hes,List.mem_filterMap]
  exact⟨fun⟨p,h1,h2⟩=>by obtain⟨i,hi⟩:=Xw h1;exact⟨i,p,hi,h2⟩,fun⟨i,p,h1,h2⟩=>⟨p,Qm h1,h2⟩⟩
 have hes_nd:(es.map key).Nodup:=by
  rw[hes]
  have: ∀(l:List (Ky×Int)),(l.map Prod.fst).Nodup->((l.filterMap entOf).map key).Nodup:=by
   intro l
   induction l with
   |nil=>intro _;simp
   |cons p l ih=>
    intro hnd
    rw[Q3,Ws]at hnd
    rw[List.filterMap_cons]
    cases hp:entOf p with
    |none=>exact ih hnd.2
    |some e=>
     simp only[Q3]
     refine Ws.2 ⟨fun hm=>?_,ih hnd.2⟩
     obtain⟨e2,h1,h2⟩:=Wi.1 hm
     obtain⟨q,h3,h4⟩:=List.mem_filterMap.1 h1
     refine hnd.1 (Wi.2 ⟨q,h3,?_⟩)
     rw[<-(Qaq h4).1,h2,(Qaq hp).1]
  exact this m hn
 obtain⟨L,hL⟩: ∃L,L=A.srtL (fun x y:En=>kl (key x) (key y)) es:=⟨_,rfl⟩
 have hLs:Srt L:=hL▸strict es hes_nd
 have hLm: ∀e,e∈L↔e∈es:=fun e=>by rw[hL];exact(A.srtL_perm _ es).mem_iff
 have main: ∀(f:Nat) (sn:List Nat) (xs:List En),sn.Nodup->(∀i,i∈sn->i<m.length)->m.length<f+sn.length->xs.length<=sn.length->(∀e,e∈xs↔∃(i:Nat) (p:Ky×Int),i∈sn/\m[i]?=some p/\entOf p=some e)->(xs.map key).Nodup->F.ae m f sn xs=some L:=by
  intro f
  induction f with
  |zero=>intro sn xs h1 h2 h3;have:=A.seen_lt h1 h2;omega
  |succ f ih=>
   intro sn xs h1 h2 h3 h4 h5 h6
   have hsl:=A.seen_lt h1 h2
   rw[F.ae]
   refine A.dem_of (fun hall=>?_) fun i p hp hi=>?_
   ·have hm: ∀e,e∈xs↔e∈es:=fun e=>by
     rw[h5,hes_mem]
     exact⟨fun⟨i,p,_,h⟩=>⟨i,p,h⟩,fun⟨i,p,ha,hb⟩=>⟨i,p,hall i (Qd.1 ha).1,ha,hb⟩⟩
    rw[F.x,A.gd1 (by omega),A.srtF,Qc (ordB xs h6),Qa,cl0_eq]
    congr 1
    refine srt_ext (strict xs h6) hLs fun e=>?_
    rw[hLm,<-hm]
    exact(A.srtL_perm _ xs).mem_iff
   ·have hk1:=hk p (Qm hp)
    have hlt:=(Qd.1 hp).1
    have hsn:(i::sn).Nodup:=Ws.2 ⟨hi,h1⟩
    have hsb: ∀j,j∈i::sn->j<m.length:=fun j hj=>(Qj.1 hj).elim (fun e=>e▸hlt) (h2 j)
    have hsl2:=A.seen_lt hsn hsb
    rw[Ql]at hsl2
    rw[A.gd1 ⟨Qz hk1.1,Qz hk1.2.1,hk1.2.2⟩]
    by_cases h0:p.2=0
    ·rw[Qb (fun h=>h h0)]
     refine ih _ _ hsn hsb (by rw[Ql];omega) (by rw[Ql];omega) (fun e=>?_) h6
     rw[h5]
     refine⟨fun⟨j,q,ha,hb⟩=>⟨j,q,Qe _ ha,hb⟩,fun⟨j,q,ha,hb,hc⟩=>⟨j,q,?_,hb,hc⟩⟩
     rcases Qj.1 ha with rfl|ha
     ·rw[hp]at hb;injection hb with hb;subst hb
      exact absurd h0 (Qaq hc).2.2
     ·exact ha
    ·have hent:entOf p=some (p.1.1,p.1.2.1,p.1.2.2,p.2):=by unfold entOf;rw[Qc h0]
     rw[Qc h0,A.gd1 (by simp only[Ql,Q0];omega)]
     refine ih _ _ hsn hsb (by rw[Ql];omega) (by simp only[Qq,Ql,Q0];omega) (fun e=>?_) ?_
     ·rw[Qs,h5,Qo]
      constructor
      ·rintro(⟨j,q,ha,hb⟩|rfl)
       ·exact⟨j,q,Qe _ ha,hb⟩
       ·exact⟨i,p,Qg ..,hp,hent⟩
      ·rintro⟨j,q,ha,hb,hc⟩
       rcases Qj.1 ha with rfl|ha
       ·rw[hp]at hb;injection hb with hb;subst hb
        rw[hent]at hc;exact .inr (Xk hc).symm
       ·exact .inl ⟨j,q,ha,hb,hc⟩
     ·rw[Wy,Q3,X9]
      refine Wv.2 ⟨h6,by simp,fun a ha b hb=>?_⟩
      rw[Qo]at hb
      subst hb
      intro e
      subst e
      obtain⟨e2,h7,h8⟩:=Wi.1 ha
      obtain⟨j,q,h9,h10,h11⟩:=(h5 e2).1 h7
      have:j=i:=hinj h10 hp (by rw[<-(Qaq h11).1,h8])
      subst this
      exact hi h9
 refine⟨L,?_,⟨hLs,fun e he=>?_⟩,fun k=>?_⟩
 ·exact main A.FU [] [] Yc (by simp) (by have:=Qac;simp;omega) (by simp) (by simp) (by simp)
 ·obtain⟨i,p,h1,h2⟩:=(hes_mem e).1 ((hLm e).1 he)
  rw[(Qaq h2).2.1];exact(Qaq h2).2.2
 ·by_cases hm:Z.mget 0 m k=0
  ·rw[hm]
   by_cases hg:gv L k=0
   ·exact hg
   ·obtain⟨e,h1,h2,h3⟩:=gv_at hg
    obtain⟨i,p,h4,h5⟩:=(hes_mem e).1 ((hLm e).1 h1)
    have h6:=(Z.mget_get (z:=0) hn h4).1
    obtain⟨a1,a2,a3⟩:=Qaq h5
    rw[<-a1,h2,hm]at h6
    exact absurd h6.symm a3
  ·have hh:Z.mhas m k=true:=by
    cases h:Z.mhas m k with
    |true=>rfl
    |false=>exact absurd (Z.mget_none h) hm
   have hmem:=Z.mget_mem (z:=0) hh
   have h1:entOf (k,Z.mget 0 m k)=some (k.1,k.2.1,k.2.2,Z.mget 0 m k):=by unfold entOf;rw[Qc hm]
   obtain⟨i,hi⟩:=Xw hmem
   have h2:=gv_mem hLs ((hLm _).2 ((hes_mem _).2 ⟨i,_,hi,h1⟩))
   exact h2
end Go.Proofs.YtligcbdjiolamaaGreatDoor
end
section
namespace Go.Proofs.YtligcbdjiolamaaGreatDoor
open Go.RowKit Go.Graph
theorem Ins_eq (k:Int):F.cF k=F.cZ k:=rfl
theorem Qgz (k:Int):F.cZ k=some (insK k):=by
 unfold F.cZ insK
 simp only[Bool.cond_decide]
 by_cases h1:k<1<;>by_cases h2:16<k<;>simp[h1,h2]
 by_cases h3:k=1
 ·simp[h3]
 ·by_cases h4:k=5<;>by_cases h5:k=9<;>simp[h3,h4,h5]
theorem Qje (c:UInt8):F.dc c=some (Qay c):=by
 unfold F.dc Qay
 by_cases h1:(97:Int)<=(c.toNat:Int)<;>by_cases h2:(c.toNat:Int)<=122<;>simp[h1,h2]
theorem digit_eq (c:UInt8):F.dF c=some (Qif c):=by
 unfold F.dF Qif
 by_cases h1:(48:Int)<=(c.toNat:Int)<;>by_cases h2:(c.toNat:Int)<=57<;>simp[h1,h2]
theorem name_eq (s:ByteArray)(hs:s.size<=5000):F.dP s=some (named s):=by
 have loop:F.bL s A.FU 0=some (Qdl s.data.toList):=A.lp0 s.data.toList (fun f y=>F.bL s f y) (fun _ l=>some (Qdl l))
  (fun f=>by rw[F.bL,Qb (by rw[Qfq];omega)];rfl)
  (fun f k x hx hk ih=>by
   have hk':k<s.size:=hk
   rw[F.bL,Qc (by omega),A.ixn hx,Qa,Qje,Qa]
   cases hl:Qay x with
   |true=>
    simp only[Xm,Qu,Q9,F.c0]
    rw[A.gd1 (A.r64n (by omega)),ih];simp[Qdl,hl]
   |false=>
    simp only[X0,Xd,A.ixn hx,Qa,digit_eq,F.c0]
    cases hd:Qif x with
    |true=>simp only[Xm,Qu,Q9];rw[A.gd1 (A.r64n (by omega)),ih];simp[Qdl,hl,hd]
    |false=>simp[Qdl,hl,hd])
  (by rw[Qfq];have:=Qac;omega)
 unfold F.dP named
 by_cases h1:s=ByteArray.mk #[]
 ·simp[h1,F.cz]
 ·by_cases h2:(16:Int)<(s.size:Int)
  ·have h2': ¬(s.size:Int)<=16:=by omega
   simp[h1,h2,h2',F.cz]
  ·have h2':(s.size:Int)<=16:=by omega
   have h0:=Qhd h1
   have e0:A.ix s.data.toList 0=some (Z.bat s 0):=ixb h0
   simp only[h1,h2,h2',decide_false,cond_false,Qu,Q9,e0,Qa,Qje,F.cz,loop,decide_true,ne_eq,not_false_eq_true,Yy,Xi]
   cases Qay (Z.bat s 0)<;>simp
theorem named_eq (s:ByteArray)(hs:s.size<=9223372036854775807):F.bt s=some (named s):=by
 have loop: ∀(n p f:Nat),s.size-p<=n->n<f->F.ai s f p=some ((if p=0/\0<s.size then Qay (Z.bat s 0)else true)&&Qdl (s.data.toList.drop p)&&(decide (s≠ByteArray.mk #[])&&decide ((s.size:Int)<=16))):=by
  intro n
  induction n with
  |zero=>
   intro p f hp hf
   obtain⟨f,rfl⟩: ∃f',f=f'+1:=⟨f-1,by omega⟩
   rw[F.ai,Qb (by omega),Qhk (by omega),Qb (by omega)]
   by_cases h1:s=ByteArray.mk #[]<;>simp[h1,Qdl]
  |succ n ih=>
   intro p f hp hf
   obtain⟨f,rfl⟩: ∃f',f=f'+1:=⟨f-1,by omega⟩
   by_cases hp2:p<s.size
   ·rw[F.ai,Qc hp2,Qhc hp2]
    rcases X3 (Z.bat s p).toNat 128 with hc|hc
    ·rw[dec_lt hc]
     have ih1:=ih (p+1) f (by omega) (by omega)
     rw[Qb (fun h=>by omega)]at ih1
     simp only[ih1]
     have e1:(bif decide ((97:Int)<=((Z.bat s p).toNat:Int))then decide (((Z.bat s p).toNat:Int)<=122)else false)=decide ((97:Int)<=((Z.bat s p).toNat:Int)/\((Z.bat s p).toNat:Int)<=122):=by by_cases h:(97:Int)<=((Z.bat s p).toNat:Int)<;>simp[h]
     have e2:(bif decide ((65:Int)<=((Z.bat s p).toNat:Int))then decide (((Z.bat s p).toNat:Int)<=90)else false)=decide ((65:Int)<=((Z.bat s p).toNat:Int)/\((Z.bat s p).toNat:Int)<=90):=by by_cases h:(65:Int)<=((Z.bat s p).toNat:Int)<;>simp[h]
     rw[e1,e2]
     by_cases hL:Qay (Z.bat s p)=true
     ·have hL':=hL
      simp only[Qay,Qw]at hL'
      have e3:(if p=0/\0<s.size then Qay (Z.bat s 0)else true)=true:=by split;rename_i h;rw[<-h.1];exact hL;rfl
      rw[e3]
      simp only[Qdl,Xr,hL,Bool.true_or,Xi]
      by_cases h1:(97:Int)<=((Z.bat s p).toNat:Int)/\((Z.bat s p).toNat:Int)<=122
      ·simp[h1]
      ·have h2:=hL'.resolve_left h1
       simp[h1,h2]
     ·have hL':=hL
      simp only[Qay,Qw,not_or]at hL'
      rw[Jp]at hL
      simp only[hL'.1,hL'.2,decide_false,Qu,Q9,X0,Xd]
      simp only[Qdl,Xr,hL,Xz]
      by_cases h0:p=0
      ·subst h0;simp[hp2,hL]
      ·have h0': ¬(p:Int)=0:=by omega
       simp only[h0,h0',decide_false,cond_false,false_and,Q9,Xi]
       by_cases hd:Qif (Z.bat s p)=true
       ·have hd':=hd
        simp only[Qif,Qw]at hd'
        have a1: ¬((Z.bat s p).toNat:Int)<48:=by omega
        have a2: ¬(57:Int)<((Z.bat s p).toNat:Int):=by omega
        simp[a1,a2,hd]
       ·have hd':=hd
        simp only[Qif,Qw]at hd'
        rw[Jp]at hd
        by_cases a1:((Z.bat s p).toNat:Int)<48
        ·simp[a1,hd]
        ·have a2:(57:Int)<((Z.bat s p).toNat:Int):=by omega
         simp[a1,a2,hd]
    ·have hd:=dec_ge hc
     have hL:Qay (Z.bat s p)=false:=by unfold Qay;rw[decide_eq_false_iff_not];omega
     have hD:Qif (Z.bat s p)=false:=by unfold Qif;rw[decide_eq_false_iff_not];omega
     have b1: ¬((Utf8.decode s p).1:Int)<=122:=by omega
     have b2: ¬((Utf8.decode s p).1:Int)<=90:=by omega
     have b3:(57:Int)<((Utf8.decode s p).1:Int):=by omega
     have b4: ¬((Utf8.decode s p).1:Int)<48:=by omega
     simp[b1,b2,b3,b4,Qdl,hL,hD]
   ·rw[F.ai,Qb hp2,Qhk hp2,Qb (by omega)]
    by_cases h1:s=ByteArray.mk #[]<;>simp[h1,Qdl]
 unfold F.bt
 rw[loop s.size 0 A.FU (by omega) (by have:=Qac;omega)]
 unfold named
 by_cases h1:s=ByteArray.mk #[]
 ·simp[h1]
 ·have h0:=Qhd h1
  simp only[h0,and_self,Xd,Xc,ne_eq,h1,not_false_eq_true,decide_true,Xi]
  congr 1
  cases Qay (Z.bat s 0)<;>cases Qdl s.data.toList<;>simp
end Go.Proofs.YtligcbdjiolamaaGreatDoor
end
section
end
section
end
section
namespace Go.Proofs.YtligcbdjiolamaaGreatDoor
open Go.RowKit Go.Graph
def mapOf (g:List Nd):List (Int×Nd):=g.map fun n=>(n.1,n)
def Inc (g:List Nd):Prop:=g.Pairwise fun a b=>a.1<b.1
theorem Qgj (z:Nd)(id:Int): ∀(k:Nat) (l:List Nd),(idxF id k l= -1/\(∀n∈l,n.1≠id)/\Z.mget z (mapOf l) id=z/\Z.mhas (mapOf l) id=false)\/(∃j n,idxF id k l=((k+j:Nat):Int)/\l[j]?=some n/\n.1=id/\Z.mget z (mapOf l) id=n/\Z.mhas (mapOf l) id=true)
 |k,[]=>.inl ⟨rfl,by simp,rfl,rfl⟩
 |k,x::r=>by
  unfold idxF mapOf
  simp only[Q3,Z.mget,Z.mhas]
  by_cases h:x.1=id
  ·rw[Qc h,Qc h.symm,Qc h.symm]
   exact .inr ⟨0,x,rfl,rfl,h,rfl,rfl⟩
  ·rw[Qb h,Qb (fun e=>h e.symm),Qb (fun e=>h e.symm)]
   rcases Qgj z id (k+1) r with⟨h1,h2,h3,h4⟩|⟨j,n,h1,h2,h3,h4,h5⟩
   ·refine .inl ⟨h1,fun n hn=>?_,h3,h4⟩
    rcases Qj.1 hn with rfl|hn
    ·exact h
    ·exact h2 n hn
   ·exact .inr ⟨j+1,n,by rw[h1];congr 1;omega,h2,h3,h4,h5⟩
theorem Qbc (z:Nd)(g:List Nd)(id:Int):(idx g id= -1/\(∀n∈g,n.1≠id)/\Z.mget z (mapOf g) id=z/\Z.mhas (mapOf g) id=false)\/(∃(j:Nat) (n:Nd),idx g id=(j:Int)/\g[j]?=some n/\n.1=id/\Z.mget z (mapOf g) id=n/\Z.mhas (mapOf g) id=true):=by
 have:=Qgj z id 0 g
 simp only[Ww]at this
 exact this
theorem Inc.lt {g:List Nd}(h:Inc g){i j:Nat}{a b:Nd}(hi:g[i]?=some a)(hj:g[j]?=some b)(hij:i<j):a.1<b.1:=by
 obtain⟨h1,rfl⟩:=Qd.1 hi
 obtain⟨h2,rfl⟩:=Qd.1 hj
 exact Y8.1 h i j h1 h2 hij
theorem Inc.inj {g:List Nd}(h:Inc g){i j:Nat}{a b:Nd}(hi:g[i]?=some a)(hj:g[j]?=some b)(e:a.1=b.1):i=j:=by
 rcases Nat.lt_trichotomy i j with h1|h1|h1
 ·have:=h.lt hi hj h1;omega
 ·exact h1
 ·have:=h.lt hj hi h1;omega
theorem Inc.idx {g:List Nd}(h:Inc g){j:Nat}{n:Nd}(hj:g[j]?=some n):Graph.idx g n.1=(j:Int):=by
 rcases Qbc z0 g n.1 with⟨_,h2,_⟩|⟨i,m,h1,h2,h3,_⟩
 ·exact absurd rfl (h2 n (Qm hj))
 ·rw[h1,h.inj h2 hj h3]
theorem Inc.mget {g:List Nd}(h:Inc g){j:Nat}{n z:Nd}(hj:g[j]?=some n):Z.mget z (mapOf g) n.1=n:=by
 rcases Qbc z g n.1 with⟨_,h2,_⟩|⟨i,m,h1,h2,h3,h4,_⟩
 ·exact absurd rfl (h2 n (Qm hj))
 ·have:=h.inj h2 hj h3
  subst this
  rw[h2]at hj;injection hj with hj;rw[h4,hj]
theorem Qbh (g:List Nd)(id:Int)(hg:g.length<=100):F.ci g id=some (idx g id):=
 A.lp0 g (fun f y=>F.ch g id f y) (fun k l=>some (idxF id k l))
  (fun f=>by rw[F.ch,Qb (by omega)];rfl)
  (fun f k x hx hk ih=>by
   rw[F.ch,Qc (by omega),A.ixn hx,Qa,idxF]
   by_cases h:x.1=id
   ·rw[Qc h,Qc h]
   ·rw[Qb h,Qb h,A.gd1 (A.r64n (by omega)),ih])
  (by have:=Qac;omega)
def ownQ (n:Nd):Bool:=if n.1<1\/255<n.1\/insK n.2.1<0\/(n.2.2.1.length:Int)≠insK n.2.1 then false else if ownC n then false else if n.2.1=1\/n.2.1=15 then named n.2.2.2.2.1 else decide (n.2.2.2.2.1=ByteArray.mk #[])
theorem Qgr (k:Int):F.aD k=some (decide (k=1\/k=15)):=by
 unfold F.aD;rw[A.bo]
theorem gIns_eq (k:Int):F.cF k=some (insK k):=(Ins_eq k).trans (Qgz k)
theorem own_eq (n:Nd)(hs:n.2.2.2.2.1.size<=9223372036854775807):F.cG n=some (ownQ n):=by
 have hj: ∀y,F.bP n y=some (if y=true then false else if ownC n then false else if n.2.1=1\/n.2.1=15 then named n.2.2.2.2.1 else decide (n.2.2.2.2.1=ByteArray.mk #[])):=by
  intro y
  unfold F.bP F.bO ownC
  cases y with
  |true=>simp
  |false=>
   simp only[Qu,Q9,A.bo,Qw,Qgr,Qa,named_eq _ hs,A.bn]
   by_cases h14:n.2.1=14
   ·simp only[h14,Xd,true_and,not_true_eq_false,ne_eq,false_and,or_false,Q9]
    by_cases hc:n.2.2.2.2.2.1<1\/8<n.2.2.2.2.2.1\/n.2.2.2.2.2.2<1\/4<n.2.2.2.2.2.2
    ·have hc':((n.2.2.2.2.2.1<1\/8<n.2.2.2.2.2.1)\/n.2.2.2.2.2.2<1)\/4<n.2.2.2.2.2.2:=by omega
     rw[Qc hc',Qc hc]
    ·have hc': ¬(((n.2.2.2.2.2.1<1\/8<n.2.2.2.2.2.1)\/n.2.2.2.2.2.2<1)\/4<n.2.2.2.2.2.2):=by omega
     rw[Qb hc',Qb hc]
     simp
   ·simp only[h14,Q9,false_and,not_false_eq_true,ne_eq,true_and,false_or,Xd]
    by_cases hc: ¬n.2.2.2.2.2.1=0\/¬n.2.2.2.2.2.2=0
    ·rw[Qc hc,Qc hc]
    ·rw[Qb hc,Qb hc]
     by_cases ho:n.2.1=1\/n.2.1=15
     ·rw[Qc ho,Qc ho]
     ·rw[Qb ho,Qb ho]
 unfold F.cG ownQ
 simp only[gIns_eq,Qa,hj,A.bo,Qw,F.bO]
 by_cases h1:n.1<1\/255<n.1
 ·rw[Qc h1,Qc (by omega)]
 ·rw[Qb h1]
  by_cases h2:insK n.2.1<0
  ·rw[Qc h2,Qc trivial,Qc (by omega)]
  ·rw[Qb h2]
   by_cases h3:(n.2.2.1.length:Int)≠insK n.2.1
   ·rw[Qc h3,Qc (by omega)]
   ·have hb: ¬(n.1<1\/255<n.1\/insK n.2.1<0\/(n.2.2.1.length:Int)≠insK n.2.1):=by omega
    rw[Qb h3,Qb hb]
def twiceF (l:List Nd)(n:Nd):Bool:=l.any fun x=>decide (x.2.1=n.2.1)&&decide (x.2.2.2.2.1=n.2.2.2.2.1)
theorem twice_eq (l:List Nd)(n:Nd)(hl:l.length<=100):F.e l n=some (twiceF l n):=by
 have loop:F.b l n A.FU 0=some (if twiceF l n=true then(0:Int)else-1)\/∃i:Nat,F.b l n A.FU 0=some (i:Int)/\twiceF l n=true:=by
  have key: ∀(m k f:Nat),k+m=l.length->m<f->(twiceF (l.drop k) n=true/\∃i:Nat,F.b l n f (k:Int)=some (i:Int))\/(twiceF (l.drop k) n=false/\F.b l n f (k:Int)=some (-1)):=by
   intro m
   induction m with
   |zero=>
    intro k f hk hf
    obtain⟨f,rfl⟩: ∃f',f=f'+1:=⟨f-1,by omega⟩
    rw[F.b,Qb (by omega),W6 (by omega)]
    exact .inr ⟨rfl,rfl⟩
   |succ m ih=>
    intro k f hk hf
    obtain⟨f,rfl⟩: ∃f',f=f'+1:=⟨f-1,by omega⟩
    have hx:l[k]?=some l[k]:=Qi (by omega)
    generalize l[k]=x at hx
    rw[F.b,Qc (by omega),A.ixn hx,Qa,F.cC,Qa,A.ba,A.dropx hx]
    by_cases h:x.2.1=n.2.1/\x.2.2.2.2.1=n.2.2.2.2.1
    ·left
     exact⟨by simp[twiceF,h.1,h.2],k,by rw[Qc (by simpa using h)]⟩
    ·rw[Qb (by simpa using h),A.gd1 (A.r64n (by omega))]
     have e:twiceF (x::l.drop (k+1)) n=twiceF (l.drop (k+1)) n:=by
      simp only[twiceF,X8]
      rw[<-Bool.decide_and,We h,Xz]
     rw[e]
     exact ih (k+1) f (by omega) (by omega)
  rcases key l.length 0 A.FU (by omega) (by have:=Qac;omega)with⟨h1,i,h2⟩|⟨h1,h2⟩
  ·rw[Xc]at h1;exact .inr ⟨i,h2,h1⟩
  ·rw[Xc]at h1;left;rw[h1];exact h2
 unfold F.e F.l
 rcases loop with h|⟨i,h,h2⟩
 ·rw[show F.b l n A.FU 0=_ from h,Qa]
  cases twiceF l n<;>simp
 ·rw[show F.b l n A.FU 0=_ from h,Qa,h2]
  simp
theorem Qij {κ α:Type}[DecidableEq κ]: ∀{m:List (κ×α)} {k:κ} {x:α},Z.mhas m k=false->Z.mins m k x=m++[(k,x)]
 | [],_,_,_=>rfl
 |(a,y)::r,k,x,h=>by
  simp only[Z.mhas]at h
  by_cases hk:k=a
  ·rw[Qc hk]at h;cases h
  ·rw[Qb hk]at h
   unfold Z.mins
   rw[Qb hk,Qij h];rfl
theorem mhas_mapOf {l:List Nd}{k:Int}(h: ∀n∈l,n.1≠k):Z.mhas (mapOf l) k=false:=by
 rcases Qbc z0 l k with⟨_,_,_,h2⟩|⟨j,n,_,h1,h2,_⟩
 ·exact h2
 ·exact absurd h2 (h n (Qm h1))
theorem Qgb {α:Type}{l:List α}{k:Nat}{x:α}(h:l[k]?=some x):l.take (k+1)=l.take k++[x]:=by rw[Yz,h];rfl
def okL (g:List Nd):Nat->Int->List Nd->Bool
 |_,_,[]=>true
 |k,last,n::r=>if n.1<=last\/ownQ n=false\/((n.2.1=1\/n.2.1=15)/\twiceF (g.take k) n=true)then false else okL g (k+1) n.1 r
theorem whole_l6 (g:List Nd)(hg:g.length<=100)(hf: ∀x,x∈g->x.2.2.2.2.1.size<=9223372036854775807):F.q g A.FU [] 0 0=if okL g 0 0 g=true then F.ad g (mapOf g) A.FU 0 else some (none,80):=
 A.lp g (fun f (s:List (Int×Nd)×Int) y=>F.q g f s.1 s.2 y) (fun k l s=>if okL g k s.2 l=true then F.ad g (mapOf g) A.FU 0 else some (none,80)) (fun k s=>s.1=mapOf (g.take k)/\∀n∈g.take k,n.1<=s.2)
  (fun f s hp=>by
   rw[F.q,Qb (by omega),okL,Qc rfl,hp.1,Xl (Qp _)])
  (fun f s k x hx hk hp ih=>by
   obtain⟨hm,hle⟩:=hp
   have hown:=own_eq x (hf x (Qm hx))
   have hj: ∀y,F.bw (F.q g f) s.1 s.2 (k:Int) x y=if x.1<=s.2\/ownQ x=false\/y=true then some (none,80)else F.q g f (Z.mins s.1 x.1 x) x.1 ((k:Int)+1):=by
    intro y
    rw[F.bw]
    simp only[F.bT,Xd]
    by_cases h1:x.1<=s.2
    ·rw[Qc h1,Qc (.inl h1)]
    ·rw[Qb h1,show F.cG x=_ from hown,Qa,A.gd1 (A.r64n (by omega))]
     cases ownQ x<;>cases y<;>simp[h1]
   have hnew: ¬x.1<=s.2->F.q g f (Z.mins s.1 x.1 x) x.1 ((k:Int)+1)=if okL g (k+1) x.1 (g.drop (k+1))=true then F.ad g (mapOf g) A.FU 0 else some (none,80):=fun h1=>by
    rw[hm,Qij (mhas_mapOf fun n hn e=>by have:=hle n hn;omega)]
    refine ih (mapOf (g.take k)++[(x.1,x)],x.1) ⟨?_,fun n hn=>?_⟩
    ·rw[Qgb hx];simp[mapOf]
    ·rw[Qgb hx]at hn
     rcases Qs.1 hn with h2|h2
     ·have:=hle n h2;simp only[];omega
     ·rw[Qo]at h2;subst h2;exact Je _
   rw[F.q,Qc (by omega),A.ixn hx,Qa,Qgr,Qa,okL]
   by_cases ho:x.2.1=1\/x.2.1=15
   ·rw[Qc (by simpa using ho),A.gd1 ⟨by omega,by omega⟩,show((k:Int)).toNat=k from Wc k,
     show F.e (List.take k g) x=_ from twice_eq (g.take k) x (by rw[Q4];omega),Qa,hj]
    by_cases hb:x.1<=s.2\/ownQ x=false\/twiceF (g.take k) x=true
    ·have hc:x.1<=s.2\/ownQ x=false\/((x.2.1=1\/x.2.1=15)/\twiceF (g.take k) x=true):=by rcases hb with h|h|h;exact .inl h;exact .inr (.inl h);exact .inr (.inr ⟨ho,h⟩)
     rw[Qc hb,Qc hc,Qb Wu]
    ·have hc: ¬(x.1<=s.2\/ownQ x=false\/((x.2.1=1\/x.2.1=15)/\twiceF (g.take k) x=true)):=fun h=>hb (by rcases h with h|h|h;exact .inl h;exact .inr (.inl h);exact .inr (.inr h.2))
     rw[Qb hb,Qb hc]
     exact hnew fun h=>hb (.inl h)
   ·rw[Qb (by simpa using ho),hj]
    by_cases hb:x.1<=s.2\/ownQ x=false
    ·have hc:x.1<=s.2\/ownQ x=false\/((x.2.1=1\/x.2.1=15)/\twiceF (g.take k) x=true):=by rcases hb with h|h;exact .inl h;exact .inr (.inl h)
     rw[Qc (by rcases hb with h|h;exact .inl h;exact .inr (.inl h)),Qc hc,Qb Wu]
    ·have hc: ¬(x.1<=s.2\/ownQ x=false\/((x.2.1=1\/x.2.1=15)/\twiceF (g.take k) x=true)):=fun h=>hb (by rcases h with h|h|h;exact .inl h;exact .inr h;exact absurd h.1 ho)
     rw[Qb (fun h=>hb (by rcases h with h|h|h;exact .inl h;exact .inr h;cases h)),Qb hc]
     exact hnew fun h=>hb (.inl h))
  (by have:=Qac;omega) ([],0) ⟨rfl,by simp⟩
theorem whole_l5 (g:List Nd)(m:List (Int×Nd))(hg:g.length<=100)(hf: ∀x,x∈g->x.2.2.2.1.2.2.size<=9223372036854775807):F.ad g m A.FU 0=if g.all (fun n=>decide (chk n.2.1 n.2.2.2.1=0))=true then F.t g m A.FU 0 else some (none,60):=
 A.lp0 g (fun f y=>F.ad g m f y) (fun _ l=>if l.all (fun n=>decide (chk n.2.1 n.2.2.2.1=0))=true then F.t g m A.FU 0 else some (none,60))
  (fun f=>by rw[F.ad,Qb (by omega)];rfl)
  (fun f k x hx hk ih=>by
   have h6:chk x.2.1 x.2.2.2.1≠0->chk x.2.1 x.2.2.2.1=60:=by
    intro h;unfold chk anyF at h ⊢;repeat' split
    all_goals first|rfl|(exfalso;simp_all;done)
   rw[F.ad,Qc (by omega),A.ixn hx,Qa,show F.cY x.2.1 x.2.2.2.1=_ from Qkm x.2.1 x.2.2.2.1 (hf x (Qm hx)),Qa,Xr]
   by_cases h:chk x.2.1 x.2.2.2.1=0
   ·rw[Qb (fun h2=>h2 h),A.gd1 (A.r64n (by omega)),ih,Qz h,Xi]
   ·rw[Qc h,We h,Yv,Qb (by simp),h6 h])
  (by have:=Qac;omega)
def inOk (g:List Nd)(k:Int):Bool:=if idx g k<0 then false else decide ((at_ g (idx g k)).2.1≠15)
def sortP (g:List Nd)(m:List (Int×Nd)):Option ((Option ((List (Int×Nd))×(List Int)×(List (Int×Int))))×Int):=
 (F.ay (m,[],[]) g).bind fun r73=>(if(!r73.1)=true then(some (none,81))else((F.ax r73.2).bind fun r79=>(if(!r79.1)=true then(some (none,80))else((F.a4 r79.2 g).bind fun r85=>(if r85=true then(some (none,81))else(some (some r79.2,0)))))))
theorem whole_l4 (g:List Nd)(hg:g.length<=100)(hf: ∀x,x∈g->x.2.2.1.length<=5000):F.t g (mapOf g) A.FU 0=if g.all (fun n=>n.2.2.1.all (inOk g))=true then sortP g (mapOf g)else some (none,80):=
 A.lp0 g (fun f y=>F.t g (mapOf g) f y) (fun _ l=>if l.all (fun n=>n.2.2.1.all (inOk g))=true then sortP g (mapOf g)else some (none,80))
  (fun f=>by rw[F.t,Qb (by omega)];rfl)
  (fun f k x hx hk ih=>by
   rw[F.t,Qc (by omega),A.ixn hx,Qa]
   have hlen:=hf x (Qm hx)
   have loop:=A.lp0 x.2.2.1 (fun f2 y=>F.a5 (F.t g (mapOf g) f) (mapOf g) (k:Int) x f2 y) (fun _ l=>if l.all (inOk g)=true then F.t g (mapOf g) f ((k:Int)+1)else some (none,80))
    (fun f2=>by rw[F.a5,Qb (by omega),A.gd1 (A.r64n (by omega))];rfl)
    (fun f2 j y hy hj2 ih2=>by
     rw[F.a5,Qc (by omega),A.ixn hy,Qa,A.lt,Xr]
     rcases Qbc ((0,0,[],(0,0,(ByteArray.mk #[])),(ByteArray.mk #[]),0,0):Nd) g y with⟨h1,_,h3,h4⟩|⟨i,n,h1,h2,h3,h4,h5⟩
     ·rw[h3,h4]
      have:inOk g y=false:=by unfold inOk;rw[Qc (by omega)]
      rw[this];simp
     ·rw[h4,h5]
      have e:inOk g y=decide (n.2.1≠15):=by unfold inOk;rw[Qb (by omega),Qbg h1 h2]
      rw[e,A.gd1 (A.r64n (by omega)),ih2]
      by_cases h15:n.2.1=15<;>simp[h15])
    (by have:=Qac;omega)
   rw[loop,ih,Xr]
   cases x.2.2.1.all (inOk g)with
   |true=>rw[Qc rfl,Xi]
   |false=>rw[Qb Wu,Yv,Qb Wu])
  (by have:=Qac;omega)
theorem whole_P (g:List Nd)(hb:Few g):F.bK g=if(32:Int)<(g.length:Int)then some (none,80)else if okL g 0 0 g=true then(if g.all (fun n=>decide (chk n.2.1 n.2.2.2.1=0))=true then(if g.all (fun n=>n.2.2.1.all (inOk g))=true then sortP g (mapOf g)else some (none,80))else some (none,60))else some (none,80):=by
 have hl:=hb.1
 unfold F.bK
 rw[whole_l6 g (by omega) (fun x hx=>Wb (hb.2 x hx).2.1 (by decide)),whole_l5 g _ (by omega) (fun x hx=>Wb (hb.2 x hx).2.2 (by decide)),whole_l4 g (by omega) (fun x hx=>(hb.2 x hx).1)]
theorem Named_eq (g:List Nd)(kd:Int)(s:ByteArray)(hg:g.length<=100):F.dT g kd s=some (Qdf kd s g):=
 A.lp0 g (fun f y=>F.bW g kd s f y) (fun _ l=>some (Qdf kd s l))
  (fun f=>by rw[F.bW,Qb (by omega)];rfl)
  (fun f k x hx hk ih=>by
   rw[F.bW,Qc (by omega),A.ixn hx,Qa,Qdf]
   simp only[F.de,A.ixn hx,Qa,A.gd1 (A.r64n (n:=k) (by omega)),ih,Qw,kind,name]
   by_cases h1:x.2.1=kd
   ·by_cases h2:x.2.2.2.2.1=s<;>simp[h1,h2]
   ·simp[h1])
  (by have:=Qac;omega)
theorem R_own_eq (g:List Nd)(i:Nat)(n:Nd)(hn:g[i]?=some n)(hg:g.length<=100)(hs:n.2.2.2.2.1.size<=5000):F.dN g (i:Int)=some (own g (i:Int) n):=by
 have hi:=(Qd.1 hn).1
 have hj1:F.cP g n=some (ownT g n):=by
  unfold F.cP ownT
  simp only[A.ba,Qw,Named_eq g _ _ hg,name_eq _ hs,Qa]
  by_cases h:n.2.1≠1/\n.2.1≠15
  ·rw[Qc h,Qc h]
  ·rw[Qb h,Qb h];cases named n.2.2.2.2.1<;>rfl
 have hj: ∀y,F.aP g n y=some (if y=true then false else if ownC n then false else ownT g n):=by
  intro y
  unfold F.aP ownC
  cases y with
  |true=>simp
  |false=>
   simp only[Qu,Q9,A.bo,Qw,hj1]
   by_cases h14:n.2.1=14
   ·simp only[h14,Xd,true_and,not_true_eq_false,ne_eq,false_and,or_false]
    by_cases hc:n.2.2.2.2.2.1<1\/8<n.2.2.2.2.2.1\/n.2.2.2.2.2.2<1\/4<n.2.2.2.2.2.2
    ·rw[Qc (by omega),Qc hc]
    ·rw[Qb (by omega),Qb hc]
   ·simp only[h14,Q9,false_and,not_false_eq_true,ne_eq,true_and,false_or]
    by_cases hc: ¬n.2.2.2.2.2.1=0\/¬n.2.2.2.2.2.2=0
    ·rw[Qc hc,Qc hc]
    ·rw[Qb hc,Qb hc]
 have tail:(if insK n.2.1<0 then F.aP g n true else F.aP g n (decide ((n.2.2.1.length:Int)≠insK n.2.1)))=some (if insK n.2.1<0\/(n.2.2.1.length:Int)≠insK n.2.1 then false else if ownC n then false else ownT g n):=by
  simp only[hj,Qw]
  by_cases h1:insK n.2.1<0
  ·rw[Qc h1,Qc trivial,Qc (.inl h1)]
  ·by_cases h2:(n.2.2.1.length:Int)≠insK n.2.1
   ·rw[Qb h1,Qc h2,Qc (.inr h2)]
   ·have hb: ¬(insK n.2.1<0\/(n.2.2.1.length:Int)≠insK n.2.1):=fun h=>h.elim h1 h2
    rw[Qb h1,Qb h2,Qb hb]
 unfold F.dN own
 rw[A.ixn hn,Qa]
 simp only[Qgz,Qa,A.bo,Qw]
 by_cases h1:n.1<1\/255<n.1
 ·rw[Qc h1,hj,Qc rfl,Qc (by omega)]
 ·rw[Qb h1]
  by_cases h0:(0:Int)<(i:Int)
  ·rw[Qc h0,A.gd1 ⟨by omega,by omega⟩]
   have hp:g[i-1]?=some g[i-1]:=Qi (by omega)
   generalize g[i-1]=q at hp
   have e:(i:Int)-1=((i-1:Nat):Int):=by omega
   rw[e,A.ixn hp,Qa,Qbg rfl hp]
   by_cases h2:n.1<=q.1
   ·rw[Qc h2,hj,Qc rfl,Qc (by omega)]
   ·rw[Qb h2,tail]
    by_cases hb:insK n.2.1<0\/(n.2.2.1.length:Int)≠insK n.2.1
    ·rw[Qc hb,Qc (by omega)]
    ·have hc: ¬(n.1<1\/255<n.1\/(0:Int)<(i:Int)/\n.1<=q.1\/insK n.2.1<0\/(n.2.2.1.length:Int)≠insK n.2.1):=by omega
     rw[Qb hb,Qb hc]
  ·rw[Qb h0,tail]
   by_cases hb:insK n.2.1<0\/(n.2.2.1.length:Int)≠insK n.2.1
   ·rw[Qc hb,Qc (by omega)]
   ·have hc: ¬(n.1<1\/255<n.1\/(0:Int)<(i:Int)/\n.1<=(at_ g ((i:Int)-1)).1\/insK n.2.1<0\/(n.2.2.1.length:Int)≠insK n.2.1):=by omega
    rw[Qb hb,Qb hc]
def okR (g:List Nd):Nat->List Nd->Bool
 |_,[]=>true
 |k,n::r=>own g (k:Int) n&&okR g (k+1) r
theorem parts_l5 (g:List Nd)(hg:g.length<=100)(hf: ∀x,x∈g->x.2.2.2.2.1.size<=5000):F.bZ g A.FU 0=if okR g 0 g=true then F.be g A.FU 0 else some 80:=
 A.lp0 g (fun f y=>F.bZ g f y) (fun k l=>if okR g k l=true then F.be g A.FU 0 else some 80)
  (fun f=>by rw[F.bZ,Qb (by omega)];rfl)
  (fun f k x hx hk ih=>by
   rw[F.bZ,Qc (by omega),R_own_eq g k x hx hg (hf x (Qm hx)),Qa,A.gd1 (A.r64n (by omega)),ih,okR]
   cases own g (k:Int) x<;>simp)
  (by have:=Qac;omega)
theorem parts_l4 (g:List Nd)(hg:g.length<=100)(hf: ∀x,x∈g->x.2.2.2.1.2.2.size<=5000):F.be g A.FU 0=if g.all (fun n=>decide (chk n.2.1 n.2.2.2.1=0))=true then F.aB g A.FU 0 else some 60:=
 A.lp0 g (fun f y=>F.be g f y) (fun _ l=>if l.all (fun n=>decide (chk n.2.1 n.2.2.2.1=0))=true then F.aB g A.FU 0 else some 60)
  (fun f=>by rw[F.be,Qb (by omega)];rfl)
  (fun f k x hx hk ih=>by
   rw[F.be,Qc (by omega),A.ixn hx,Qa,Qa,show F.dq x.2.1 x.2.2.2.1=_ from Qiv x.2.1 x.2.2.2.1 (hf x (Qm hx)),Qa,Xr]
   by_cases h:chk x.2.1 x.2.2.2.1=0
   ·rw[Qb (fun h2=>h2 h),A.gd1 (A.r64n (by omega)),ih,Qz h,Xi]
   ·rw[Qc h,We h,Yv,Qb (by simp)])
  (by have:=Qac;omega)
theorem idx_get {g:List Nd}{id:Int}(h:0<=idx g id): ∃n,g[(idx g id).toNat]?=some n/\at_ g (idx g id)=n/\n.1=id:=by
 rcases Qbc z0 g id with⟨h1,_⟩|⟨i,n,h1,h2,h3,_⟩
 ·omega
 ·exact⟨n,by rw[h1];exact h2,Qbg h1 h2,h3⟩
theorem parts_l3 (g:List Nd)(hg:g.length<=100)(hf: ∀x,x∈g->x.2.2.1.length<=5000):F.aB g A.FU 0=if g.all (fun n=>n.2.2.1.all (inOk g))=true then some 0 else some 80:=
 A.lp0 g (fun f y=>F.aB g f y) (fun _ l=>if l.all (fun n=>n.2.2.1.all (inOk g))=true then some 0 else some 80)
  (fun f=>by rw[F.aB,Qb (by omega)];rfl)
  (fun f k x hx hk ih=>by
   rw[F.aB,Qc (by omega)]
   have hlen:=hf x (Qm hx)
   have loop:=A.lp0 x.2.2.1 (fun f2 y=>F.bY (F.aB g f) g (k:Int) f2 y) (fun _ l=>if l.all (inOk g)=true then F.aB g f ((k:Int)+1)else some 80)
    (fun f2=>by rw[F.bY,A.ixn hx,Qa,Qb (by omega),A.gd1 (A.r64n (by omega))];rfl)
    (fun f2 j y hy hj2 ih2=>by
     rw[F.bY,A.ixn hx,Qa,Qc (by omega),Qa,A.ixn hy,Qa,Qbh g y hg,Qa,Xr]
     simp only[F.df,Xd,Qw,A.gd1 (A.r64n (n:=j) (by omega)),ih2]
     by_cases h0:idx g y<0
     ·have:inOk g y=false:=by unfold inOk;rw[Qc h0]
      rw[Qc h0,this];simp
     ·obtain⟨n,h1,h2,_⟩:=idx_get (g:=g) (id:=y) (by omega)
      have e:inOk g y=decide (n.2.1≠15):=by unfold inOk;rw[Qb h0,h2]
      rw[Qb h0,A.ixg (by omega) h1,Qa,e]
      by_cases h15:n.2.1=15<;>simp[h15])
    (by have:=Qac;omega)
   rw[loop,ih,Xr]
   cases x.2.2.1.all (inOk g)with
   |true=>rw[Qc rfl,Xi]
   |false=>rw[Qb Wu,Yv,Qb Wu])
  (by have:=Qac;omega)
def lastOf (g:List Nd)(k:Nat):Int:=if k=0 then 0 else(at_ g ((k:Int)-1)).1
def BadP (g:List Nd)(k:Nat)(n:Nd):Prop:=n.1<=lastOf g k\/ownQ n=false\/((n.2.1=1\/n.2.1=15)/\twiceF (g.take k) n=true)
theorem Qhh {g:List Nd}{k:Nat}{n:Nd}(h:g[k]?=some n):lastOf g (k+1)=n.1:=by
 unfold lastOf;rw[Qb (by omega),Qbg (k:=k) (by omega) h]
theorem Qkk (g:List Nd): ∀(m k:Nat),k+m=g.length->(okL g k (lastOf g k) (g.drop k)=true↔∀i n,k<=i->g[i]?=some n->¬BadP g i n)
 |0,k,h=>by
  rw[W6 (by omega),okL]
  exact⟨fun _ i n hi hn=>by have:=(Qd.1 hn).1;omega,fun _=>rfl⟩
 |m+1,k,h=>by
  have hx:g[k]?=some g[k]:=Qi (by omega)
  generalize g[k]=x at hx
  have ih:=Qkk g m (k+1) (by omega)
  rw[Qhh hx]at ih
  rw[A.dropx hx,okL]
  by_cases hb:BadP g k x
  ·have hb':x.1<=lastOf g k\/ownQ x=false\/((x.2.1=1\/x.2.1=15)/\twiceF (g.take k) x=true):=hb
   rw[Qc hb']
   exact⟨fun h=>(by cases h),fun h=>absurd hb (h k x (Qp _) hx)⟩
  ·have hb': ¬(x.1<=lastOf g k\/ownQ x=false\/((x.2.1=1\/x.2.1=15)/\twiceF (g.take k) x=true)):=hb
   rw[Qb hb',ih]
   refine⟨fun h i n hi hn=>?_,fun h i n hi hn=>h i n (by omega) hn⟩
   rcases Nat.eq_or_lt_of_le hi with rfl|h2
   ·rw[hx]at hn;injection hn with hn;subst hn;exact hb
   ·exact h i n h2 hn
theorem Qkn (g:List Nd): ∀(m k:Nat),k+m=g.length->(okR g k (g.drop k)=true↔∀i n,k<=i->g[i]?=some n->own g (i:Int) n=true)
 |0,k,h=>by
  rw[W6 (by omega),okR]
  exact⟨fun _ i n hi hn=>by have:=(Qd.1 hn).1;omega,fun _=>rfl⟩
 |m+1,k,h=>by
  have hx:g[k]?=some g[k]:=Qi (by omega)
  generalize g[k]=x at hx
  have ih:=Qkn g m (k+1) (by omega)
  rw[A.dropx hx,okR,Qf,ih]
  refine⟨fun h i n hi hn=>?_,fun h=>⟨h k x (Qp _) hx,fun i n hi hn=>h i n (by omega) hn⟩⟩
  rcases Nat.eq_or_lt_of_le hi with rfl|h2
  ·rw[hx]at hn;injection hn with hn;subst hn;exact h.1
  ·exact h.2 i n h2 hn
theorem inc_of {g:List Nd}(h: ∀i n,g[i]?=some n->lastOf g i<n.1):Inc g:=by
 unfold Inc
 have key: ∀(d i:Nat) (a b:Nd),g[i]?=some a->g[i+d+1]?=some b->a.1<b.1:=by
  intro d
  induction d with
  |zero=>intro i a b ha hb;have:=h _ b hb;rw[Qhh ha]at this;exact this
  |succ d ih=>
   intro i a b ha hb
   have hl:=(Qd.1 hb).1
   have hc:g[i+d+1]?=some g[i+d+1]:=Qi (by omega)
   have h1:=ih i a _ ha hc
   have h2:=h _ b hb
   rw[show i+(d+1)+1=(i+d+1)+1 by omega,Qhh hc]at h2
   omega
 refine Y8.2 fun i j hi hj hij=>?_
 refine key (j-i-1) i _ _ (Qi hi) ?_
 rw[show i+(j-i-1)+1=j by omega]
 exact Qi hj
theorem Qdt (kd:Int)(s:ByteArray): ∀(l:List Nd),(∃(j:Nat) (n:Nd),l[j]?=some n/\n.2.1=kd/\n.2.2.2.2.1=s/\(Qdf kd s l)=(n.1,true)/\∀(i:Nat) (m:Nd),i<j->l[i]?=some m->¬(m.2.1=kd/\m.2.2.2.2.1=s))\/(Qdf kd s l=(0,false)/\∀m∈l,¬(m.2.1=kd/\m.2.2.2.2.1=s))
 | []=>.inr ⟨rfl,by simp⟩
 |x::r=>by
  unfold Qdf
  by_cases h:x.2.1=kd/\x.2.2.2.2.1=s
  ·rw[Qc h]
   exact .inl ⟨0,x,rfl,h.1,h.2,rfl,fun i m hi=>by omega⟩
  ·have h': ¬(kind x=kd/\name x=s):=h
   rw[Qb h']
   rcases Qdt kd s r with⟨j,n,h1,h2,h3,h4,h5⟩|⟨h1,h2⟩
   ·refine .inl ⟨j+1,n,h1,h2,h3,h4,fun i m hi hm=>?_⟩
    cases i with
    |zero=>injection hm with hm;subst hm;exact h
    |succ i=>exact h5 i m (by omega) hm
   ·refine .inr ⟨h1,fun m hm=>?_⟩
    rcases Qj.1 hm with rfl|hm
    ·exact h
    ·exact h2 m hm
theorem Qjj {l:List Nd}{n:Nd}:twiceF l n=true↔∃m∈l,m.2.1=n.2.1/\m.2.2.2.2.1=n.2.2.2.2.1:=by
 simp only[twiceF,Y3,Qf,Qw]
theorem own_iff {g:List Nd}(hi:Inc g){k:Nat}{n:Nd}(hn:g[k]?=some n)(hl:lastOf g k<n.1):own g (k:Int) n=true↔¬BadP g k n:=by
 have hname:(n.2.1=1\/n.2.1=15)->((Qdf n.2.1 n.2.2.2.2.1 g).1=n.1↔¬twiceF (g.take k) n=true):=fun _=>by
  rcases Qdt n.2.1 n.2.2.2.2.1 g with⟨j,m,h1,h2,h3,h4,h5⟩|⟨_,h2⟩
  ·rw[h4]
   have hjk:j<=k:=by
    rcases X3 k j with h|h
    ·exact absurd ⟨rfl,rfl⟩ (h5 k n h hn)
    ·exact h
   constructor
   ·intro he ht
    have:j=k:=hi.inj h1 hn he
    subst this
    obtain⟨q,hq,h6⟩:=Qjj.1 ht
    obtain⟨i,hiq⟩:=Wr.1 hq
    rw[W5]at hiq
    split at hiq
    ·rename_i hij;exact h5 i q hij hiq h6
    ·cases hiq
   ·intro ht
    rcases X3 j k with h|h
    ·exact absurd (Qjj.2 ⟨m,Wr.2 ⟨j,by rw[W5,Qc h];exact h1⟩,h2,h3⟩) ht
    ·obtain rfl:j=k:=by omega
     rw[hn]at h1;injection h1 with h1;rw[h1]
  ·exact absurd ⟨rfl,rfl⟩ (h2 n (Qm hn))
 have hprev: ¬((0:Int)<(k:Int)/\n.1<=(at_ g ((k:Int)-1)).1):=fun h=>by
  unfold lastOf at hl;rw[Qb (by omega)]at hl;omega
 unfold own BadP ownQ
 by_cases h1:n.1<1\/255<n.1\/insK n.2.1<0\/(n.2.2.1.length:Int)≠insK n.2.1
 ·rw[Qc (by omega),Qc h1]
  exact⟨fun h=>(by cases h),fun h=>absurd (.inr (.inl rfl)) h⟩
 ·have hc: ¬(n.1<1\/255<n.1\/(0:Int)<(k:Int)/\n.1<=(at_ g ((k:Int)-1)).1\/insK n.2.1<0\/(n.2.2.1.length:Int)≠insK n.2.1):=by omega
  rw[Qb hc,Qb h1]
  by_cases h2:ownC n
  ·rw[Qc h2,Qc h2]
   exact⟨fun h=>(by cases h),fun h=>absurd (.inr (.inl rfl)) h⟩
  ·rw[Qb h2,Qb h2]
   unfold ownT
   by_cases h3:n.2.1=1\/n.2.1=15
   ·rw[Qb (by omega),Qc h3,Qf,Qw,hname h3]
    constructor
    ·rintro⟨a,b⟩ (h|h|h)
     ·omega
     ·rw[a]at h;cases h
     ·exact b h.2
    ·intro h
     refine⟨?_,fun ht=>h (.inr (.inr ⟨h3,ht⟩))⟩
     cases hq:named n.2.2.2.2.1 with
     |true=>rfl
     |false=>exact absurd (.inr (.inl hq)) h
   ·rw[Qc (by omega),Qb h3]
    constructor
    ·rintro a (h|h|h)
     ·omega
     ·rw[a]at h;cases h
     ·exact h3 h.1
    ·intro h
     cases hq:decide (n.2.2.2.2.1=ByteArray.mk #[])with
     |true=>rfl
     |false=>exact absurd (.inr (.inl hq)) h
theorem own_last {g:List Nd}{k:Nat}{n:Nd}(h:own g (k:Int) n=true):lastOf g k<n.1:=by
 unfold own at h
 by_cases hc:n.1<1\/255<n.1\/(0:Int)<(k:Int)/\n.1<=(at_ g ((k:Int)-1)).1\/insK n.2.1<0\/(n.2.2.1.length:Int)≠insK n.2.1
 ·rw[Qc hc]at h;cases h
 ·unfold lastOf;split<;>omega
theorem ok_eq (g:List Nd):okL g 0 0 g=okR g 0 g:=by
 have hL:=Qkk g g.length 0 (by omega)
 have hR:=Qkn g g.length 0 (by omega)
 rw[Xc]at hL hR
 rw[show lastOf g 0=0 from rfl]at hL
 rw[Y9,hL,hR]
 constructor
 ·intro h i n _ hn
  have hl: ∀i n,g[i]?=some n->lastOf g i<n.1:=fun i n hn=>by
   have:=h i n (by omega) hn
   exact Int.lt_of_not_ge fun h2=>this (.inl h2)
  exact(own_iff (inc_of hl) hn (hl i n hn)).2 (h i n (by omega) hn)
 ·intro h i n _ hn
  have hl: ∀i n,g[i]?=some n->lastOf g i<n.1:=fun i n hn=>own_last (h i n (by omega) hn)
  exact(own_iff (inc_of hl) hn (hl i n hn)).1 (h i n (by omega) hn)
theorem ok_inc {g:List Nd}(h:okR g 0 g=true):Inc g:=by
 have hR:=Qkn g g.length 0 (by omega)
 rw[Xc]at hR
 exact inc_of fun i n hn=>own_last (hR.1 h i n (by omega) hn)
theorem parts_eq (g:List Nd)(hb:Few g):F.dH g=if(32:Int)<(g.length:Int)then some 80 else if okR g 0 g=true then(if g.all (fun n=>decide (chk n.2.1 n.2.2.2.1=0))=true then(if g.all (fun n=>n.2.2.1.all (inOk g))=true then some 0 else some 80)else some 60)else some 80:=by
 have hl:=hb.1
 unfold F.dH
 rw[parts_l5 g (by omega) (fun x hx=>(hb.2 x hx).2.1),parts_l4 g (by omega) (fun x hx=>(hb.2 x hx).2.2),parts_l3 g (by omega) (fun x hx=>(hb.2 x hx).1)]
theorem fed_of {g:List Nd}(h:g.all (fun n=>n.2.2.1.all (inOk g))=true):Fed g:=fun x hx k hk=>by
 have h1:=Q2.1 (Q2.1 h x hx) k hk
 unfold inOk at h1
 by_cases h0:idx g k<0
 ·rw[Qc h0]at h1;cases h1
 ·omega
theorem bset_len {l:List Bool}{i:Nat}:(l.set i true).length=l.length:=Yf
theorem bget_get {l:List Bool}{i:Nat}(h:i<l.length):l[i]?=some (bget l (i:Int)):=by
 unfold bget;rw[Wc,Qi h];rfl
theorem bix {l:List Bool}{i:Int}(h0:0<=i)(h:i<l.length):A.ix l i=some (bget l i):=by
 have e:i=((i.toNat:Nat):Int):=by omega
 rw[e];exact A.ixn (bget_get (by omega))
theorem iix {l:List Int}{i:Int}(h0:0<=i)(h:i<l.length):A.ix l i=some (iget l i):=by
 refine A.ixg h0 ?_
 unfold iget;rw[Qi (by omega)];rfl
theorem ready_eq (g:List Nd)(n:Nd)(done:List Bool)(hg:g.length<=100)(hd:done.length=g.length)(hl:n.2.2.1.length<=5000)(hf: ∀k∈n.2.2.1,0<=idx g k):F.dI g n done=some (ready g done n):=
 A.lp0 n.2.2.1 (fun f y=>F.b0 g n done f y) (fun k l=>some (Qjd g done n.2.1 l))
  (fun f=>by rw[F.b0,Qb (by omega)];rfl)
  (fun f k x hx hk ih=>by
   have h1:=hf x (Qm hx)
   have h2:=(idx_le g x).2
   rw[F.b0,Qc (by omega),Qjd]
   simp only[F.dg,A.gd1 (A.r64n (n:=k) (by omega)),ih]
   by_cases h14:n.2.1=14
   ·simp[h14]
   ·rw[Qc h14,A.ixn hx,Qa,Qbh g x hg,Qa,bix h1 (by omega),Qa]
    cases bget done (idx g x)<;>simp[h14])
  (by have:=Qac;omega)
theorem order_l3 (g:List Nd)(hb:Few g)(hfed:Fed g)(k4:List Bool->List Int->Option (List Int×Bool))(done:List Bool)(l:List Int)(hd:done.length=g.length)(hl:l.length<=100):
  F.bf k4 g done l A.FU (-1) 0=if Qae g done 0 g (-1)<0 then some ([],false)else k4 (done.set (Qae g done 0 g (-1)).toNat true) (l++[Qae g done 0 g (-1)]):=
 A.lp g (fun f (a:Int) y=>F.bf k4 g done l f a y) (fun k t a=>if Qae g done k t a<0 then some ([],false)else k4 (done.set (Qae g done k t a).toNat true) (l++[Qae g done k t a])) (fun k a=> -1<=a/\a<g.length)
  (fun f a hp=>by
   rw[F.bf,A.ba,Qb (by simp),Qae]
   by_cases h:a<0
   ·rw[Qc h,Qc h]
   ·rw[Qb h,Qb h,bix (by omega) (by omega),Qa,A.gd1 (by simp only[Ql,Q0];omega)])
  (fun f a k x hx hk hp ih=>by
   have hlen:=hb.1
   rw[F.bf,A.ba,Qc (by simp;omega),Qae]
   simp only[F.cR,F.dh,A.gd1 (A.r64n (n:=k) (by omega)),Qu,Q9]
   by_cases h:a<0
   ·by_cases hbd:bget done (k:Int)=true
    ·have e:(if(a<0/\bget done (k:Int)=false)/\ready g done x=true then(k:Int)else a)=a:=Qb (by rw[hbd];simp)
     rw[e,Qc h,bix (by omega) (by omega),Qa,hbd]
     simp only[Xm,Qu,Q9]
     exact ih a hp
    ·rw[Jp]at hbd
     have hrd:F.dI g x done=some (ready g done x):=ready_eq g x done (by omega) hd (hb.in hx) (hfed x (Qm hx))
     by_cases hr:ready g done x=true
     ·have e:(if(a<0/\bget done (k:Int)=false)/\ready g done x=true then(k:Int)else a)=k:=Qc ⟨⟨h,hbd⟩,hr⟩
      rw[e,Qc h,bix (by omega) (by omega),Qa,hbd]
      simp only[X0,Xd,A.ixn hx,Qa]
      rw[hrd,Qa,Qc hr];exact ih k (by omega)
     ·have e:(if(a<0/\bget done (k:Int)=false)/\ready g done x=true then(k:Int)else a)=a:=Qb (fun h2=>hr h2.2)
      rw[e,Qc h,bix (by omega) (by omega),Qa,hbd]
      simp only[X0,Xd,A.ixn hx,Qa]
      rw[hrd,Qa,Qb hr];exact ih a hp
   ·have e:(if(a<0/\bget done (k:Int)=false)/\ready g done x=true then(k:Int)else a)=a:=Qb (fun h2=>h h2.1.1)
    rw[e,Qb h];exact ih a hp)
  (by have:=Qac;have:=hb.1;omega) (-1) (by omega)
def ordR (g:List Nd)(r:Nat)(done:List Bool)(l:List Int):List Int×Bool:=match Qbv g r done l with
 |some l'=>(l',true)
 |none=>([],false)
theorem order_l4 (g:List Nd)(hb:Few g)(hfed:Fed g): ∀(r f:Nat) (done:List Bool) (l:List Int),r<f->l.length+r=g.length->done.length=g.length->F.co g f done l=some (ordR g r done l)
 |0,f,done,l,hf,hl,hd=>by
  obtain⟨f,rfl⟩: ∃f',f=f'+1:=⟨f-1,by omega⟩
  rw[F.co,Qb (by omega)];rfl
 |r+1,f,done,l,hf,hl,hd=>by
  obtain⟨f,rfl⟩: ∃f',f=f'+1:=⟨f-1,by omega⟩
  have:=hb.1
  rw[F.co,Qc (by omega),order_l3 g hb hfed _ done l hd (by omega),ordR,Qbv]
  by_cases h:Qae g done 0 g (-1)<0
  ·rw[Qc h,Qc h]
  ·rw[Qb h,Qb h,order_l4 g hb hfed r f _ _ (by omega) (by simp only[Qq,Ql,Q0];omega) (by rw[bset_len];exact hd)]
   rfl
theorem R_order_eq (g:List Nd)(hb:Few g)(hfed:Fed g):F.c7 g=some (ordR g g.length (List.replicate g.length false) []):=by
 have:=hb.1
 unfold F.c7
 rw[A.gd1 (by omega),order_l4 g hb hfed g.length A.FU _ [] (by have:=Qac;omega) (by simp) (by simp)]
def Qfa (m:List (Int×Bool))(n:Nd):Bool:=n.2.2.1.all fun k=>Z.mget false m k||decide (n.2.1=14)
def Qhv (m:List (Int×Bool)):List Nd->Option Nd
 | []=>none
 |n::r=>if Z.mget false m n.1=false/\Qfa m n=true then some n else Qhv m r
def sortS (g:List Nd):Nat->List (Int×Bool)->List Int->List Int
 |0,_,xs=>xs
 |r+1,m,xs=>match Qhv m g with
  |some n=>sortS g r (Z.mins m n.1 true) (xs++[n.1])
  |none=>sortS g r m xs
abbrev PlR:=Option (Bool×((List (Int×Nd))×(List Int)×(List (Int×Int))))
theorem sort_l4 (g:List Nd)(hb:Few g)(k29:List Int->List (Int×Bool)->Int->PlR)(xs:List Int)(m:List (Int×Bool))(y:Int)(hxs:xs.length<=100)(hy:0<=y/\y<=100):
  F.g k29 g xs m y A.FU 0=match Qhv m g with
   |some n=>k29 (xs++[n.1]) (Z.mins m n.1 true) (y+1)
   |none=>k29 xs m (y+1):=
 A.lp0 g (fun f i=>F.g k29 g xs m y f i) (fun _ l=>match Qhv m l with
   |some n=>k29 (xs++[n.1]) (Z.mins m n.1 true) (y+1)
   |none=>k29 xs m (y+1))
  (fun f=>by rw[F.g,Qb (by omega),F.aF,A.gd1 ⟨by omega,by omega⟩];rfl)
  (fun f k x hx hk ih=>by
   have hlen:=hb.1
   have hin:=hb.in hx
   rw[F.g,Qc (by omega),A.ixn hx,Qa,A.lt,Qhv]
   have loop:=A.lp0 x.2.2.1 (fun f2 j=>F.ap k29 (F.g k29 g xs m y f) xs m y (k:Int) x f2 j) (fun _ l=>if l.all (fun k=>Z.mget false m k||decide (x.2.1=14))=true then k29 (xs++[x.1]) (Z.mins m x.1 true) (y+1)else F.g k29 g xs m y f ((k:Int)+1))
    (fun f2=>by rw[F.ap,Qb (by omega),A.gd1 (by simp only[Ql,Q0];omega),F.aF,A.gd1 ⟨by omega,by omega⟩];rfl)
    (fun f2 j z hz hj ih2=>by
     rw[F.ap,Qc (by omega),A.ixn hz,Qa,A.lt,A.gd1 (A.r64n (by omega)),ih2,F.aG,A.gd1 (A.r64n (by omega)),Xr]
     cases hm:Z.mget false m z<;>by_cases h14:x.2.1=14<;>simp[h14])
    (by have:=Qac;omega)
   rw[loop,F.aG,A.gd1 (A.r64n (by omega)),ih]
   cases hm:Z.mget false m x.1 with
   |true=>
    have e: ¬((true:Bool)=false/\Qfa m x=true):=fun h=>by cases h.1
    rw[Qc rfl,Qb e]
   |false=>
    rw[Qb Wu]
    by_cases hr:Qfa m x=true
    ·have e:(false:Bool)=false/\Qfa m x=true:=⟨rfl,hr⟩
     rw[Qc (show(x.2.2.1.all fun k=>Z.mget false m k||decide (x.2.1=14))=true from hr),Qc e]
    ·have e: ¬((false:Bool)=false/\Qfa m x=true):=fun h=>hr h.2
     rw[Qb (show ¬(x.2.2.1.all fun k=>Z.mget false m k||decide (x.2.1=14))=true from hr),Qb e])
  (by have:=Qac;have:=hb.1;omega)
theorem Qlf (g:List Nd)(hb:Few g)(a0:(List (Int×Nd))×(List Int)×(List (Int×Int))): ∀(r f:Nat) (m:List (Int×Bool)) (xs:List Int) (y:Nat),r<f->y+r=g.length->xs.length<=y->F.n a0 g f xs m (y:Int)=some (decide (((sortS g r m xs).length:Int)=(g.length:Int)),(a0.1,sortS g r m xs,a0.2.2))
 |0,f,m,xs,y,hf,hy,hx=>by
  obtain⟨f,rfl⟩: ∃f',f=f'+1:=⟨f-1,by omega⟩
  rw[F.n,Qb (by omega)];rfl
 |r+1,f,m,xs,y,hf,hy,hx=>by
  obtain⟨f,rfl⟩: ∃f',f=f'+1:=⟨f-1,by omega⟩
  have:=hb.1
  rw[F.n,Qc (by omega),sort_l4 g hb _ xs m y (by omega) (by omega),sortS]
  have e:(y:Int)+1=((y+1:Nat):Int):=by omega
  cases Qhv m g with
  |none=>simp only[];rw[e,Qlf g hb a0 r f m xs (y+1) (by omega) (by omega) (by omega)]
  |some n=>simp only[];rw[e,Qlf g hb a0 r f _ _ (y+1) (by omega) (by omega) (by simp only[Qq,Ql,Q0];omega)]
theorem sort_eq (g:List Nd)(hb:Few g)(m:List (Int×Nd)):F.ay (m,[],[]) g=some (decide (((sortS g g.length [] []).length:Int)=(g.length:Int)),(m,sortS g g.length [] [],[])):=by
 unfold F.ay
 exact Qlf g hb (m,[],[]) g.length A.FU [] [] 0 (by have:=Qac;have:=hb.1;omega) (by omega) (by simp)
def Rel (g:List Nd)(done:List Bool)(m:List (Int×Bool)):Prop:=∀(i:Nat) (n:Nd),g[i]?=some n->Z.mget false m n.1=bget done (i:Int)
theorem ready_rel {g:List Nd}{done:List Bool}{m:List (Int×Bool)}(h:Rel g done m){n:Nd}(hf: ∀k∈n.2.2.1,0<=idx g k):Qfa m n=ready g done n:=by
 unfold Qfa ready
 generalize n.2.2.1=l at hf
 induction l with
 |nil=>rfl
 |cons k r ih=>
  rw[Xr,ih fun x hx=>hf x (Qe _ hx),Qjd]
  have h0:=hf k (Qg ..)
  obtain⟨q,h1,h2,h3⟩:=idx_get h0
  have h4:=h _ q h1
  rw[h3,Xs h0]at h4
  rw[h4]
  cases bget done (idx g k)<;>by_cases h14:n.2.1=14<;>simp[h14]
theorem Qfl (g:List Nd)(done:List Bool): ∀(k:Nat) (l:List Nd) (a:Int),0<=a->Qae g done k l a=a
 |_,[],_,_=>rfl
 |k,x::r,a,h=>by
  unfold Qae
  rw[Qb (fun h2=>by omega)]
  exact Qfl g done (k+1) r a h
theorem Qgp {g:List Nd}{done:List Bool}{m:List (Int×Bool)}(h:Rel g done m)(hf:Fed g): ∀(r k:Nat),k+r=g.length->(Qae g done k (g.drop k) (-1)= -1/\Qhv m (g.drop k)=none)\/(∃(i:Nat) (n:Nd),Qae g done k (g.drop k) (-1)=(i:Int)/\g[i]?=some n/\Qhv m (g.drop k)=some n/\bget done (i:Int)=false)
 |0,k,hk=>by
  rw[W6 (by omega)];exact .inl ⟨rfl,rfl⟩
 |r+1,k,hk=>by
  have hx:g[k]?=some g[k]:=Qi (by omega)
  generalize g[k]=x at hx
  rw[A.dropx hx,Qae,Qhv,h k x hx,ready_rel h (hf x (Qm hx))]
  by_cases hc:bget done (k:Int)=false/\ready g done x=true
  ·rw[Qc hc,Qc ⟨⟨by omega,hc.1⟩,hc.2⟩,Qfl _ _ _ _ _ (by omega)]
   exact .inr ⟨k,x,rfl,hx,rfl,hc.1⟩
  ·rw[Qb hc,Qb (fun h2=>hc ⟨h2.1.2,h2.2⟩)]
   exact Qgp h hf r (k+1) (by omega)
def idAt (g:List Nd)(i:Int):Int:=(at_ g i).1
theorem rel_set {g:List Nd}(hi:Inc g){done:List Bool}{m:List (Int×Bool)}(h:Rel g done m)(hd:done.length=g.length){i:Nat}{n:Nd}(hn:g[i]?=some n):Rel g (done.set i true) (Z.mins m n.1 true):=fun j q hq=>by
 rw[Ui]
 have hl:=(Qd.1 hn).1
 by_cases e:q.1=n.1
 ·have:=hi.inj hq hn e
  subst this
  rw[Qc e]
  unfold bget
  rw[Wc,Yj (by omega)];rfl
 ·rw[Qb e,h j q hq]
  have hne:i≠j:=fun h2=>e (by subst h2;rw[hn]at hq;injection hq with hq;rw[hq])
  unfold bget
  rw[Wc,List.getElem?_set_ne hne]
theorem Qha {g:List Nd}(hi:Inc g)(hf:Fed g): ∀(r:Nat) (done:List Bool) (m:List (Int×Bool)) (l:List Int),Rel g done m->done.length=g.length->(∃l',Qbv g r done l=some l'/\sortS g r m (l.map (idAt g))=l'.map (idAt g)/\l'.length=l.length+r)\/(Qbv g r done l=none/\(sortS g r m (l.map (idAt g))).length <l.length+r)
 |0,done,m,l,_,_=>.inl ⟨l,rfl,rfl,rfl⟩
 |r+1,done,m,l,h,hd=>by
  rw[Qbv,sortS]
  rcases Qgp h hf g.length 0 (by omega)with⟨h1,h2⟩|⟨i,n,h1,h2,h3,h4⟩
  ·rw[Xc]at h1 h2
   rw[h1,Qc (by omega),h2]
   refine .inr ⟨rfl,?_⟩
   simp only[]
   have stay: ∀(r:Nat) (xs:List Int),sortS g r m xs=xs:=by
    intro r
    induction r with
    |zero=>intro xs;rfl
    |succ r ih=>intro xs;rw[sortS,h2];exact ih xs
   rw[stay,Wd];omega
  ·rw[Xc]at h1 h3
   rw[h1,Qb (by omega),h3,Wc]
   simp only[]
   have e:l.map (idAt g)++[n.1]=(l++[(i:Int)]).map (idAt g):=by
    rw[Wy];simp only[Q3,X9,idAt,Qbg rfl h2]
   rw[e]
   rcases Qha hi hf r (done.set i true) (Z.mins m n.1 true) (l++[(i:Int)]) (rel_set hi h hd h2) (by rw[bset_len];exact hd)with⟨l',h5,h6,h7⟩|⟨h5,h6⟩
   ·exact .inl ⟨l',h5,h6,by rw[h7];simp only[Qq,Ql,Q0];omega⟩
   ·exact .inr ⟨h5,by simp only[Qq,Ql,Q0]at h6;omega⟩
theorem rel_0 (g:List Nd):Rel g (List.replicate g.length false) []:=fun i n hn=>by
 unfold bget
 rw[Wc,Jd]
 split<;>rfl
theorem order_sort {g:List Nd}(hb:Few g)(hi:Inc g)(hf:Fed g)(m:List (Int×Nd)):(∃l,F.c7 g=some (l,true)/\F.ay (m,[],[]) g=some (true,(m,l.map (idAt g),[]))/\l.length=g.length/\Qbv g g.length (List.replicate g.length false) []=some l)\/(F.c7 g=some ([],false)/\∃p,F.ay (m,[],[]) g=some (false,p)):=by
 rw[R_order_eq g hb hf,sort_eq g hb m,ordR]
 rcases Qha hi hf g.length (List.replicate g.length false) [] [] (rel_0 g) (by simp)with⟨l,h1,h2,h3⟩|⟨h1,h2⟩
 ·rw[X9]at h2
  rw[h1,h2]
  left
  refine⟨l,rfl,?_,by simpa using h3,rfl⟩
  rw[Wd,Qz (by simp at h3;omega)]
 ·rw[X9]at h2
  rw[h1]
  right
  refine⟨rfl,(m,sortS g g.length [] [],[]),?_⟩
  rw[We (by simp at h2;omega)]
end Go.Proofs.YtligcbdjiolamaaGreatDoor
end
section
namespace Go.A
theorem mrg_any {α β:Type}[DecidableEq β]{body:α->Option (Option β)}{rest:Option β}{y:β}{p:α->Bool}: ∀{l:List α},(∀x∈l,body x=if p x=true then some (some y)else some none)->mrg body rest l=if l.any p=true then some y else rest
 | [],_=>rfl
 |x::l,h=>by
  have hx:=h x (Qg ..)
  have ih:=mrg_any (rest:=rest) (l:=l) fun z hz=>h z (Qe _ hz)
  unfold mrg
  rw[hx,X8]
  cases hp:p x with
  |true=>
   simp only[Qa,Xd,Bool.true_or]
   rw[Qc]
   rw[Q2]
   intro z hz
   have hz2:=h z (Qe _ hz)
   refine Qz ?_
   rw[hz2]
   cases p z<;>simp
  |false=>
   simp only[Qa,Qu,Q9,Xz]
   exact ih
end Go.A
namespace Go.Proofs.YtligcbdjiolamaaGreatDoor
open Go.RowKit Go.Graph
theorem R_depth_eq (n:Nd)(l:List Int)(h5:n.2.1=5\/n.2.1=9->2<=l.length)(hb: -1<=d0 l/\d0 l<=4):F.dr n l=some (depthOf n l):=by
 have hj5:F.cq n l (d0 l)=some (depthOf n l):=by
  unfold F.cq depthOf Qjo
  have hj2: ∀y,F.aC y=some (capd y):=fun y=>by unfold F.aC F.di capd;split<;>rfl
  have hj4: ∀y,(y=true↔n.2.1=5\/n.2.1=9)->F.cp n l (d0 l) y=some (capd (if n.2.1=5\/n.2.1=9 then(if iget l 0≠iget l 1 then-1 else d0 l)else if n.2.1=11\/n.2.1=16\/n.2.1=15 then(if d0 l≠0 then-1 else d0 l)else d0 l)):=fun y hy=>by
   unfold F.cp F.cS
   simp only[hj2,Qw]
   by_cases h:n.2.1=5\/n.2.1=9
   ·have:=h5 h
    rw[Qc (hy.2 h),Qc h,iix (i:=0) (by omega) (by omega),Qa,iix (i:=1) (by omega) (by omega),Qa]
    by_cases e:iget l 0=iget l 1
    ·rw[Qb (fun h=>h e),Qb (fun h=>h e)]
    ·rw[Qc e,Qc e]
   ·rw[Qb (fun h2=>h (hy.1 h2)),Qb h]
    by_cases h11:n.2.1=11
    ·simp only[h11,Xd,true_or];split<;>rfl
    ·by_cases h16:n.2.1=16
     ·simp only[h16,Xd,true_or,or_true,Q9,Int.reduceEq];split<;>rfl
     ·by_cases h15:n.2.1=15
      ·simp only[h15,Xd,or_true,Q9,Int.reduceEq];split<;>rfl
      ·simp only[h11,h16,h15,Q9,or_self]
  simp only[hj2]
  by_cases h14:n.2.1=14
  ·rw[Qc h14,Qc h14]
  ·rw[Qb h14,Qb h14]
   by_cases h12:n.2.1=12
   ·rw[Qc h12,Qc h12,A.gd1 ⟨by omega,by omega⟩]
   ·rw[Qb h12,Qb h12]
    by_cases h13:n.2.1=13
    ·rw[Qc h13,Qc h13,A.gd1 ⟨by omega,by omega⟩]
    ·rw[Qb h13,Qb h13]
     by_cases h5':n.2.1=5
     ·rw[Qc h5',hj4 _ (by simp[h5'])]
     ·rw[Qb h5',hj4 _ (by simp[h5'])]
 unfold F.dr
 by_cases h:(0:Int)<(l.length:Int)
 ·rw[Qc h,iix (i:=0) (by omega) (by omega),Qa,d0_iget];exact hj5
 ·rw[Qb h,d0_nil (l:=l) (by omega)];exact hj5
def Own (g:List Nd):Prop:=∀n,n∈g->ownQ n=true
theorem own_ins {n:Nd}(h:ownQ n=true):0<=insK n.2.1/\(n.2.2.1.length:Int)=insK n.2.1:=by
 unfold ownQ at h
 by_cases hc:n.1<1\/255<n.1\/insK n.2.1<0\/(n.2.2.1.length:Int)≠insK n.2.1
 ·rw[Qc hc]at h;cases h
 ·omega
theorem own_id {n:Nd}(h:ownQ n=true):1<=n.1/\n.1<=255:=by
 unfold ownQ at h
 by_cases hc:n.1<1\/255<n.1\/insK n.2.1<0\/(n.2.2.1.length:Int)≠insK n.2.1
 ·rw[Qc hc]at h;cases h
 ·omega
theorem own_D {n:Nd}(h:ownQ n=true):(n.2.1=14->1<=n.2.2.2.2.2.2/\n.2.2.2.2.2.2<=4)/\(n.2.1≠14->n.2.2.2.2.2.2=0):=by
 unfold ownQ at h
 by_cases hc:n.1<1\/255<n.1\/insK n.2.1<0\/(n.2.2.1.length:Int)≠insK n.2.1
 ·rw[Qc hc]at h;cases h
 ·rw[Qb hc]at h
  by_cases h2:ownC n
  ·rw[Qc h2]at h;cases h
  ·unfold ownC at h2;omega
theorem insK_cases (k:Int)(h:0<=insK k):(k=1/\insK k=0)\/((k=5\/k=9)/\insK k=2)\/(k≠1/\k≠5/\k≠9/\insK k=1):=by
 unfold insK at h ⊢
 by_cases h1:k<1\/16<k
 ·rw[Qc h1]at h;omega
 ·rw[Qb h1]
  by_cases h2:k=1
  ·rw[Qc h2];omega
  ·rw[Qb h2]
   by_cases h3:k=5\/k=9
   ·rw[Qc h3];omega
   ·rw[Qb h3];omega
theorem own_len {n:Nd}(h:ownQ n=true):(n.2.1=1/\n.2.2.1.length=0)\/((n.2.1=5\/n.2.1=9)/\n.2.2.1.length=2)\/(n.2.1≠1/\n.2.1≠5/\n.2.1≠9/\n.2.2.1.length=1):=by
 have h1:=own_ins h
 rcases insK_cases n.2.1 h1.1 with h2|h2|h2<;>omega
theorem Qii {l:List Int}{i:Nat}{v:Int}:(l.set i v).length=l.length:=Yf
theorem depths_l1 (g:List Nd)(l d:List Int)(y:Nat)(p:Nat)(x:Nd)(k5:List Int->Int->Option (List Int×Bool))(hb:Few g)(hfed:Fed g)(ho:Own g)(hd:d.length=g.length)(hib:InB d)(hp:l[y]?=some (p:Int))(hy:y<100)(hx:g[p]?=some x):
  F.bG k5 g l d (y:Int) x A.FU [] 0=if depthOf x (inD g d x.2.2.1)<0 then some ([],false)else k5 (d.set p (depthOf x (inD g d x.2.2.1))) ((y:Int)+1):=by
 have hlen:=hb.1
 have hin:=hb.in hx
 have hpl:=(Qd.1 hx).1
 have hxg:=Qm hx
 have loop:=A.lp x.2.2.1 (fun f (s:List Int) i=>F.bG k5 g l d (y:Int) x f s i) (fun _ t s=>if depthOf x (s++inD g d t)<0 then some ([],false)else k5 (d.set p (depthOf x (s++inD g d t))) ((y:Int)+1)) (fun k s=>s=inD g d (x.2.2.1.take k))
  (fun f s hs=>by
   rw[Xl (Qp _)]at hs
   subst hs
   have hdep:F.dr x (inD g d x.2.2.1)=some (depthOf x (inD g d x.2.2.1)):=R_depth_eq x (inD g d x.2.2.1) (fun h=>by rcases own_len (ho x hxg)with h2|h2|h2<;>simp only[inD,Wd]<;>omega) (hib.d0 g _)
   have e:(inD g d x.2.2.1++inD g d ([]:List Int))=inD g d x.2.2.1:=by simp[inD]
   rw[F.bG,Qb (by omega),A.ixn hp,Qa,hdep,Qa,iix (by omega) (by omega),Qa,Qa,e,iix (by omega) (by rw[Qii];omega),Qa,A.gd1 (A.r64n (by omega)),Wc]
   have e2:iget (d.set p (depthOf x (inD g d x.2.2.1))) (p:Int)=depthOf x (inD g d x.2.2.1):=by
    unfold iget;rw[Wc,Yj (by omega)];rfl
   rw[e2])
  (fun f s k z hz hk hs ih=>by
   have h1:=hfed x hxg z (Qm hz)
   have h2:=(idx_le g z).2
   rw[F.bG,Qc (by omega),A.ixn hz,Qa,Qbh g z (by omega),Qa,iix h1 (by omega),Qa]
   have hs2:s++[iget d (idx g z)]=inD g d (x.2.2.1.take (k+1)):=by rw[hs];exact inD_take hz
   rw[A.gd1 (by rw[hs];simp only[inD,Wd,Q4,Ql,Q0];omega),A.gd1 (A.r64n (by omega)),ih _ hs2]
   simp only[inD,Q3,Wq,Xy])
  (by have:=Qac;omega) [] (by simp[inD])
 rw[loop]
 rfl
theorem depths_l3 (g:List Nd)(d:List Int)(hb:Few g)(hfed:Fed g)(ho:Own g)(hd:d.length=g.length):F.bs g d A.FU 0=if Qbu g d g=true then some (d,true)else some ([],false):=
 A.lp0 g (fun f y=>F.bs g d f y) (fun _ t=>if Qbu g d t=true then some (d,true)else some ([],false))
  (fun f=>by rw[F.bs,Qb (by omega)];rfl)
  (fun f k x hx hk ih=>by
   have hlen:=hb.1
   have hxg:=Qm hx
   rw[F.bs,Qc (by omega),A.ixn hx,Qa,Qbu]
   simp only[F.db,A.gd1 (A.r64n (n:=k) (by omega)),ih,Qw]
   by_cases h14:x.2.1=14
   ·have hl:x.2.2.1.length=1:=by rcases own_len (ho x hxg)with h2|h2|h2<;>omega
    have hk0:x.2.2.1[0]?=some (iget x.2.2.1 0):=by
     unfold iget
     rw[show(0:Int).toNat=0 from rfl,Qi (by omega)];rfl
    have h1:=hfed x hxg _ (Qm hk0)
    have h2:=(idx_le g (iget x.2.2.1 0)).2
    rw[Qc h14,show A.ix x.2.2.1 0=_ from A.ixn hk0,Qa,Qbh g _ (by omega),Qa,iix h1 (by omega),Qa]
    by_cases e:iget d (idx g (iget x.2.2.1 0))≠x.2.2.2.2.2.2
    ·rw[Qc e]
     have e2:x.2.1=14/\iget d (idx g (iget x.2.2.1 0))≠x.2.2.2.2.2.2:=⟨h14,e⟩
     rw[Qc e2,Qb Wu]
    ·rw[Qb e]
     have e2: ¬(x.2.1=14/\iget d (idx g (iget x.2.2.1 0))≠x.2.2.2.2.2.2):=fun h=>e h.2
     rw[Qb e2]
   ·have e2: ¬(x.2.1=14/\iget d (idx g (iget x.2.2.1 0))≠x.2.2.2.2.2.2):=fun h=>h14 h.1
    rw[Qb h14,Qb Wu,Qb e2])
  (by have:=Qac;have:=hb.1;omega)
def Plc (g:List Nd)(l:List Int):Prop:=∀(i:Nat) (p:Int),l[i]?=some p->∃(k:Nat) (n:Nd),p=(k:Int)/\g[k]?=some n
theorem depths_l4 (g:List Nd)(l:List Int)(hb:Few g)(hfed:Fed g)(ho:Own g)(hl:l.length<=60)(hp:Plc g l):F.cT g l=some (depths g l):=by
 have hlen:=hb.1
 have loop:=A.lp l (fun f (s:List Int) i=>F.b7 g l f s i) (fun _ t s=>match Qba g t s with
  |some d=>if Qbu g d g=true then some (d,true)else some ([],false)
  |none=>some ([],false)) (fun k s=>s.length=g.length/\InB s)
  (fun f s hs=>by rw[F.b7,Qb (by omega),depths_l3 g s hb hfed ho hs.1];rfl)
  (fun f s k x hx hk hs ih=>by
   obtain⟨q,n,rfl,hn⟩:=hp k x hx
   rw[F.b7,Qc (by omega),A.ixn hx,Qa,A.ixn hn,Qa,depths_l1 g l s k q n _ hb hfed ho hs.1 hs.2 hx (by omega) hn,Qba,Qbg rfl hn]
   by_cases h:depthOf n (inD g s n.2.2.1)<0
   ·rw[Qc h,Qc h]
   ·rw[Qb h,Qb h,Wc]
    exact ih _ ⟨by rw[Qii];exact hs.1,hs.2.set q (by omega) (Qgs n _)⟩)
  (by have:=Qac;omega) (List.replicate g.length 0) ⟨by simp,InB.rep _⟩
 unfold F.cT depths
 rw[A.gd1 (by omega),loop]
 cases Qba g l (List.replicate g.length 0)with
 |none=>rfl
 |some d=>simp only[];cases Qbu g d g<;>rfl
end Go.Proofs.YtligcbdjiolamaaGreatDoor
end
section
namespace Go.Proofs.YtligcbdjiolamaaGreatDoor
open Go.RowKit Go.Graph
def RelD (g:List Nd)(d:List Int)(dm:List (Int×Int)):Prop:=∀(i:Nat) (n:Nd),g[i]?=some n->Z.mget 0 dm n.1=iget d (i:Int)
theorem RelD.in {g:List Nd}{d:List Int}{dm:List (Int×Int)}(h:RelD g d dm){k:Int}(h0:0<=idx g k):Z.mget 0 dm k=iget d (idx g k):=by
 obtain⟨q,h1,_,h3⟩:=idx_get h0
 have h4:=h _ q h1
 rw[h3,Xs h0]at h4
 exact h4
theorem iget_nat {l:List Int}{i:Nat}(h:i<l.length):l[i]?=some (iget l (i:Int)):=by
 unfold iget;rw[Wc,Qi h];rfl
theorem inD_at {g:List Nd}{d l:List Int}{i:Nat}{k:Int}(h:l[i]?=some k):iget (inD g d l) (i:Int)=iget d (idx g k):=by
 unfold iget
 rw[Wc,inD,Q1,h];rfl
theorem out_eq (g:List Nd)(d:List Int)(a0:(List (Int×Nd))×(List Int)×(List (Int×Int)))(n:Nd)(hr:RelD g d a0.2.2)(hib:InB d)(ho:ownQ n=true)(hf: ∀k∈n.2.2.1,0<=idx g k):
  ∃v b,F.bv a0 n=some (v,b)/\((b=false/\depthOf n (inD g d n.2.2.1)<0)\/(b=true/\v=depthOf n (inD g d n.2.2.1)/\0<=v)):=by
 have hlen:=own_len ho
 have hD:=own_D ho
 unfold F.bv
 by_cases h1:n.2.1=1
 ·have hl:n.2.2.1=[]:=Wf (by omega)
  rw[Qc h1]
  refine⟨0,true,rfl,.inr ⟨rfl,?_,Je _⟩⟩
  unfold depthOf Qjo capd
  simp only[h1,hl,inD,X9,d0];simp
 ·rw[Qb h1]
  by_cases h14:n.2.1=14
  ·rw[Qc h14]
   have:=hD.1 h14
   refine⟨_,true,rfl,.inr ⟨rfl,?_,by omega⟩⟩
   unfold depthOf Qjo capd
   rw[Qc h14,Qb (by omega)]
  ·rw[Qb h14]
   have hpos:0<n.2.2.1.length:=by omega
   obtain⟨k0,hk0⟩: ∃k0,n.2.2.1[0]?=some k0:=⟨_,Qi hpos⟩
   have f0:=hf k0 (Qm hk0)
   have b0:=hib (idx g k0)
   have e0:d0 (inD g d n.2.2.1)=iget d (idx g k0):=by rw[<-d0_iget];exact inD_at hk0
   rw[show A.ix n.2.2.1 0=_ from A.ixn hk0,Qa,A.lt,hr.in f0]
   have hj3: ∀y,(y=true↔(n.2.1=5\/n.2.1=9)/\iget (inD g d n.2.2.1) 0≠iget (inD g d n.2.2.1) 1)->∃v b,F.aU n (iget d (idx g k0)) y=some (v,b)/\((b=false/\depthOf n (inD g d n.2.2.1)<0)\/(b=true/\v=depthOf n (inD g d n.2.2.1)/\0<=v)):=fun y hy=>by
    unfold F.aU depthOf Qjo
    rw[Qb h14,e0]
    by_cases hyt:y=true
    ·have h2:=hy.1 hyt
     rw[Qc hyt]
     refine⟨0,false,rfl,.inl ⟨rfl,?_⟩⟩
     rw[Qb (by omega),Qb (by omega),Qc h2.1,Qc h2.2];decide
    ·have h2: ¬((n.2.1=5\/n.2.1=9)/\iget (inD g d n.2.2.1) 0≠iget (inD g d n.2.2.1) 1):=fun h=>hyt (hy.2 h)
     rw[Qb hyt]
     simp only[F.aS,F.aT,A.ba]
     by_cases h12:n.2.1=12
     ·rw[Qc h12,Qc h12,A.gd1 ⟨by omega,by omega⟩]
      unfold capd
      by_cases h4:4<iget d (idx g k0)+1
      ·exact⟨_,_,rfl,.inl ⟨We (by omega),by rw[Qc h4];decide⟩⟩
      ·exact⟨_,_,rfl,.inr ⟨Qz (by omega),by rw[Qb h4],by omega⟩⟩
     ·rw[Qb h12,Qb h12]
      by_cases h13:n.2.1=13
      ·rw[Qc h13,Qc h13,A.gd1 ⟨by omega,by omega⟩]
       unfold capd
       rw[Qb (by omega)]
       by_cases h4:0<=iget d (idx g k0)-1
       ·exact⟨_,_,rfl,.inr ⟨Qz (by omega),rfl,h4⟩⟩
       ·exact⟨_,_,rfl,.inl ⟨We (by omega),by omega⟩⟩
      ·rw[Qb h13,Qb h13]
       have hz: ∀x:Int,n.2.1=11\/n.2.1=16\/n.2.1=15->∃v b,(some (iget d (idx g k0),decide (iget d (idx g k0)=0)):Option (Int×Bool))=some (v,b)/\((b=false/\capd (if n.2.1=5\/n.2.1=9 then if iget (inD g d n.2.2.1) 0≠iget (inD g d n.2.2.1) 1 then-1 else iget d (idx g k0)else if n.2.1=11\/n.2.1=16\/n.2.1=15 then if iget d (idx g k0)≠0 then-1 else iget d (idx g k0)else iget d (idx g k0))<0)\/(b=true/\v=capd (if n.2.1=5\/n.2.1=9 then if iget (inD g d n.2.2.1) 0≠iget (inD g d n.2.2.1) 1 then-1 else iget d (idx g k0)else if n.2.1=11\/n.2.1=16\/n.2.1=15 then if iget d (idx g k0)≠0 then-1 else iget d (idx g k0)else iget d (idx g k0))/\0<=v)):=fun _ hk=>by
        rw[Qb (by omega),Qc hk]
        by_cases h0:iget d (idx g k0)=0
        ·rw[h0];exact⟨_,_,rfl,.inr ⟨rfl,rfl,Je _⟩⟩
        ·rw[Qc h0];exact⟨_,_,rfl,.inl ⟨We h0,by decide⟩⟩
       by_cases h11:n.2.1=11
       ·rw[Qc h11];exact hz 0 (.inl h11)
       ·rw[Qb h11]
        by_cases h16:n.2.1=16
        ·rw[Qc h16];exact hz 0 (.inr (.inl h16))
        ·rw[Qb h16]
         by_cases h15:n.2.1=15
         ·rw[Qc h15];exact hz 0 (.inr (.inr h15))
         ·rw[Qb h15]
          refine⟨_,_,rfl,.inr ⟨Qz (by omega),?_,by omega⟩⟩
          by_cases h5:n.2.1=5\/n.2.1=9
          ·rw[Qc h5,Qb (fun h=>h2 ⟨h5,h⟩)];unfold capd;rw[Qb (by omega)]
          ·rw[Qb h5,Qb (by omega)];unfold capd;rw[Qb (by omega)]
   by_cases h2:(1:Int)<(n.2.2.1.length:Int)
   ·have h5:n.2.1=5\/n.2.1=9:=by omega
    obtain⟨k1,hk1⟩: ∃k1,n.2.2.1[1]?=some k1:=⟨_,Qi (by omega)⟩
    have f1:=hf k1 (Qm hk1)
    rw[Qc h2,show A.ix n.2.2.1 1=_ from A.ixn hk1,Qa,A.lt,hr.in f1]
    refine hj3 _ ?_
    rw[Qw,show iget (inD g d n.2.2.1) 0=_ from inD_at hk0,show iget (inD g d n.2.2.1) 1=_ from inD_at hk1]
    exact⟨fun h=>⟨h5,fun e=>h e.symm⟩,fun h e=>h.2 e.symm⟩
   ·rw[Qb h2]
    exact hj3 false ⟨fun h=>(by cases h),fun h=>by omega⟩
theorem relD_set {g:List Nd}(hi:Inc g){d:List Int}{dm:List (Int×Int)}(h:RelD g d dm)(hd:d.length=g.length){i:Nat}{n:Nd}(hn:g[i]?=some n)(v:Int):RelD g (d.set i v) (Z.mins dm n.1 v):=fun j q hq=>by
 rw[Ui]
 have hl:=(Qd.1 hn).1
 by_cases e:q.1=n.1
 ·have:=hi.inj hq hn e
  subst this
  rw[Qc e]
  unfold iget
  rw[Wc,Yj (by omega)];rfl
 ·rw[Qb e,h j q hq]
  have hne:i≠j:=fun h2=>e (by subst h2;rw[hn]at hq;injection hq with hq;rw[hq])
  unfold iget
  rw[Wc,List.getElem?_set_ne hne]
def KeyD (g:List Nd)(l:List Int)(dm:List (Int×Int)):Prop:=∀id,Z.mhas dm id=l.any fun p=>decide (idAt g p=id)
theorem Qgg (g:List Nd)(l:List Int)(hb:Few g)(hi:Inc g)(hfed:Fed g)(ho:Own g)(hl:l.length<=60)(hp:Plc g l): ∀(r k f:Nat) (d:List Int) (dm:List (Int×Int)),k+r=l.length->r<f->RelD g d dm->InB d->d.length=g.length->KeyD g (l.take k) dm->
  (∃d' dm',Qba g (l.drop k) d=some d'/\F.k (mapOf g,l.map (idAt g),[]) f dm (k:Int)=A.mrg (F.aw (mapOf g,l.map (idAt g),[]) dm') (some (true,(mapOf g,l.map (idAt g),dm'))) (mapOf g)/\RelD g d' dm'/\InB d'/\d'.length=g.length/\KeyD g l dm')\/
  (Qba g (l.drop k) d=none/\∃p,F.k (mapOf g,l.map (idAt g),[]) f dm (k:Int)=some (false,p))
 |0,k,f,d,dm,hk,hf,h1,h2,h3,h4=>by
  obtain⟨f,rfl⟩: ∃f',f=f'+1:=⟨f-1,by omega⟩
  left
  rw[Xl (by omega)]at h4
  refine⟨d,dm,by rw[W6 (by omega)];rfl,?_,h1,h2,h3,h4⟩
  rw[F.k,Qb (by simp only[Wd];omega)]
 |r+1,k,f,d,dm,hk,hf,h1,h2,h3,h4=>by
  obtain⟨f,rfl⟩: ∃f',f=f'+1:=⟨f-1,by omega⟩
  have hx:l[k]?=some l[k]:=Qi (by omega)
  generalize l[k]=x at hx
  obtain⟨q,n,rfl,hn⟩:=hp k x hx
  have hng:=Qm hn
  have hid:idAt g (q:Int)=n.1:=by unfold idAt;rw[Qbg rfl hn]
  have e1:A.ix (l.map (idAt g)) (k:Int)=some n.1:=A.ixn (by rw[Q1,hx,Wo,hid])
  obtain⟨v,b,ho1,ho2⟩:=out_eq g d (mapOf g,l.map (idAt g),dm) n h1 h2 (ho n hng) (hfed n hng)
  have eF:F.k (mapOf g,l.map (idAt g),[]) (f+1) dm (k:Int)=if(!b)=true then some (false,(mapOf g,l.map (idAt g),dm))else A.gd (Z.R64 ((k:Int)+1)) (F.k (mapOf g,l.map (idAt g),[]) f (Z.mins dm n.1 v) ((k:Int)+1)):=by
   rw[F.k,Qc (by simp only[Wd];omega)]
   simp only[e1,Qa,A.lt,hi.mget hn]
   rw[show F.bv (mapOf g,l.map (idAt g),dm) n=_ from ho1,Qa]
  rw[A.dropx hx,Qba,Qbg rfl hn,eF]
  rcases ho2 with⟨rfl,h5⟩|⟨rfl,h5,h6⟩
  ·right
   rw[Qc (show depthOf n (n.2.2.1.map fun k=>iget d (idx g k))<0 from h5)]
   exact⟨rfl,_,Qc rfl⟩
  ·subst h5
   rw[Qb (show ¬depthOf n (n.2.2.1.map fun k=>iget d (idx g k))<0 by simp only[inD]at h6;omega),Qb (by simp),A.gd1 (A.r64n (by omega)),Wc]
   have:=Qgg g l hb hi hfed ho hl hp r (k+1) f (d.set q (depthOf n (inD g d n.2.2.1))) (Z.mins dm n.1 (depthOf n (inD g d n.2.2.1))) (by omega) (by omega) (relD_set hi h1 h3 hn _) (h2.set q h6 (Qgs n _)) (by rw[Qii];exact h3) (fun id=>by
    rw[Z.mhas_ins,Qgb hx,List.any_append,h4 id,X8,List.any_nil,Bool.or_false,hid,Bool.or_comm]
    congr 1
    exact decide_eq_decide.2 ⟨fun h=>h.symm,fun h=>h.symm⟩)
   exact this
theorem Qdp (g:List Nd)(d:List Int): ∀l,Qbu g d l= !(l.any fun x=>decide (x.2.1=14/\iget d (idx g (iget x.2.2.1 0))≠x.2.2.2.2.2.2))
 | []=>rfl
 |x::r=>by
  unfold Qbu
  rw[X8]
  by_cases h:x.2.1=14/\iget d (idx g (iget x.2.2.1 0))≠x.2.2.2.2.2.2
  ·rw[Qc h,Qz h];rfl
  ·rw[Qb h,We h,Xz];exact Qdp g d r
theorem Qkv (g:List Nd)(l:List Int)(hb:Few g)(hi:Inc g)(hfed:Fed g)(ho:Own g)(hl:l.length<=60)(hp:Plc g l):
  (∃d dm,F.cT g l=some (d,true)/\F.ax (mapOf g,l.map (idAt g),[])=some (true,(mapOf g,l.map (idAt g),dm))/\RelD g d dm/\InB d/\d.length=g.length/\KeyD g l dm/\Qbu g d g=true/\Qba g l (List.replicate g.length 0)=some d)\/
  (F.cT g l=some ([],false)/\∃p,F.ax (mapOf g,l.map (idAt g),[])=some (false,p)):=by
 have h0:RelD g (List.replicate g.length 0) []:=fun i n hn=>by
  unfold iget;rw[Wc,Jd];split<;>rfl
 rw[depths_l4 g l hb hfed ho hl hp]
 unfold F.ax depths
 rcases Qgg g l hb hi hfed ho hl hp l.length 0 A.FU (List.replicate g.length 0) [] (by omega) (by have:=Qac;omega) h0 (InB.rep _) (by simp) (fun id=>by simp[Z.mhas])with⟨d,dm,h1,h2,h3,h4,h5,h6⟩|⟨h1,p,h2⟩
 ·rw[Xc]at h1
  rw[h1]
  simp only[]
  have hm:A.mrg (F.aw (mapOf g,l.map (idAt g),[]) dm) (some (true,(mapOf g,l.map (idAt g),dm))) (mapOf g)=if(mapOf g).any (fun p=>decide (p.2.2.1=14/\iget d (idx g (iget p.2.2.2.1 0))≠p.2.2.2.2.2.2.2))=true then some (false,(mapOf g,l.map (idAt g),dm))else some (true,(mapOf g,l.map (idAt g),dm)):=by
   refine A.mrg_any fun p hp=>?_
   obtain⟨n,hn,rfl⟩:=Wi.1 hp
   unfold F.aw F.aM
   by_cases h14:n.2.1=14
   ·have hl1:n.2.2.1.length=1:=by rcases own_len (ho n hn)with h2|h2|h2<;>omega
    have hk0:n.2.2.1[0]?=some (iget n.2.2.1 0):=iget_nat (i:=0) (by omega)
    have f0:=hfed n hn _ (Qm hk0)
    rw[Qc h14,show A.ix n.2.2.1 0=_ from A.ixn hk0,Qa,A.lt,h3.in f0]
    by_cases e:iget d (idx g (iget n.2.2.1 0))≠n.2.2.2.2.2.2
    ·rw[Qz e,Qc rfl,Qz (And.intro h14 e),Qc rfl]
    ·rw[We e,Qb Wu,We (fun h=>e h.2),Qb Wu]
   ·rw[Qb h14,Qb Wu,We (fun h=>h14 h.1),Qb Wu]
  have hany:(mapOf g).any (fun p=>decide (p.2.2.1=14/\iget d (idx g (iget p.2.2.2.1 0))≠p.2.2.2.2.2.2.2))=g.any fun x=>decide (x.2.1=14/\iget d (idx g (iget x.2.2.1 0))≠x.2.2.2.2.2.2):=by
   unfold mapOf;rw[List.any_map];rfl
  have h2':F.k (mapOf g,l.map (idAt g),[]) A.FU [] 0=_:=h2.trans hm
  rw[h2',hany,Qdp]
  cases hc:g.any fun x=>decide (x.2.1=14/\iget d (idx g (iget x.2.2.1 0))≠x.2.2.2.2.2.2)with
  |true=>right;exact⟨rfl,_,rfl⟩
  |false=>left;exact⟨d,dm,rfl,rfl,h3,h4,h5,h6,by rw[Qdp,hc];rfl,rfl⟩
 ·rw[Xc]at h1
  rw[h1]
  right
  exact⟨rfl,p,h2⟩
theorem Qeh (g:List Nd)(d:List Int)(id:Int): ∀(k:Nat) (l:List Int),(insS g d id k l).length=l.length
 |_,[]=>rfl
 |k,x::r=>by unfold insS;rw[Ql,Ql,Qeh g d id (k+1) r]
theorem Qhn (n:Nd)(v:Int):(outS n v).length<=1:=by unfold outS;split<;>simp
theorem in2 {g:List Nd}(ho:Own g){n:Nd}(hn:n∈g):n.2.2.1.length<=2:=by rcases own_len (ho n hn)with h|h|h<;>omega
theorem spots_l2P (g:List Nd)(d:List Int)(a0:(List (Int×Nd))×(List Int)×(List (Int×Int)))(k8:List Sp->Int->Option (List Sp))(y:Nat)(x:Nd)(xs:List Sp)(hr:RelD g d a0.2.2)(hx:g[y]?=some x)(hl:x.2.2.1.length<=2)(hf: ∀k∈x.2.2.1,0<=idx g k)(hxs:xs.length<=1000)(hy:y<=100):
  F.z k8 a0 (y:Int) x A.FU xs 0=k8 (xs++(insS g d x.1 0 x.2.2.1++outS x (iget d (y:Int)))) ((y:Int)+1):=
 A.lp x.2.2.1 (fun f (s:List Sp) i=>F.z k8 a0 (y:Int) x f s i) (fun k t s=>k8 (s++(insS g d x.1 k t++outS x (iget d (y:Int)))) ((y:Int)+1)) (fun k s=>s.length<=1000+k)
  (fun f s hs=>by
   rw[F.z,Qb (by omega),insS,W7,outS,A.lt,hr y x hx]
   simp only[F.aV,A.gd1 (A.r64n (n:=y) (by omega))]
   by_cases h:x.2.1≠15
   ·rw[Qc h,Qc h,A.gd1 (by simp only[Ql,Q0];omega)]
   ·rw[Qb h,Qb h,Wm])
  (fun f s k z hz hk hs ih=>by
   have h1:=hf z (Qm hz)
   rw[F.z,Qc (by omega),A.ixn hz,Qa,A.lt,hr.in h1,A.gd1 (by simp only[Ql,Q0];omega),A.gd1 (A.r64n (by omega)),ih _ (by simp only[Qq,Ql,Q0];omega),insS]
   simp only[Wq,Xy,Xa,W7])
  (by have:=Qac;omega) xs (by omega)
theorem spotsP_eq (g:List Nd)(d:List Int)(a0:(List (Int×Nd))×(List Int)×(List (Int×Int)))(hb:Few g)(hfed:Fed g)(ho:Own g)(hr:RelD g d a0.2.2):F.a3 a0 g=some (spots g d):=by
 have hlen:=hb.1
 have loop:=A.lp g (fun f (s:List Sp) i=>F.v a0 g f s i) (fun k t s=>some (s++spotsF g d k t)) (fun k s=>s.length<=3*k)
  (fun f s hs=>by rw[F.v,Qb (by omega),spotsF,Wm])
  (fun f s k x hx hk hs ih=>by
   have hxg:=Qm hx
   have h2:=in2 ho hxg
   have h3:=Qhn x (iget d (k:Int))
   rw[F.v,Qc (by omega),A.ixn hx,Qa,spots_l2P g d a0 _ k x s hr hx h2 (hfed x hxg) (by omega) (by omega),ih _ (by rw[Qq,Qq,Qeh];omega),spotsF]
   simp only[Wq])
  (by have:=Qac;omega) [] (by simp)
 unfold F.a3
 rw[loop];rfl
theorem spots_l2R (g:List Nd)(d:List Int)(k8:List Sp->Int->Option (List Sp))(y:Nat)(x:Nd)(xs:List Sp)(hg:g.length<=100)(hd:d.length=g.length)(hx:g[y]?=some x)(hl:x.2.2.1.length<=2)(hf: ∀k∈x.2.2.1,0<=idx g k)(hxs:xs.length<=1000)(hy:y<=100):
  F.b1 k8 g d (y:Int) x A.FU xs 0=k8 (xs++(insS g d x.1 0 x.2.2.1++outS x (iget d (y:Int)))) ((y:Int)+1):=
 A.lp x.2.2.1 (fun f (s:List Sp) i=>F.b1 k8 g d (y:Int) x f s i) (fun k t s=>k8 (s++(insS g d x.1 k t++outS x (iget d (y:Int)))) ((y:Int)+1)) (fun k s=>s.length<=1000+k)
  (fun f s hs=>by
   have hyl:=(Qd.1 hx).1
   rw[F.b1,Qb (by omega),insS,W7,outS]
   simp only[F.dj,A.gd1 (A.r64n (n:=y) (by omega))]
   by_cases h:x.2.1≠15
   ·rw[Qc h,Qc h,iix (by omega) (by omega),Qa,A.gd1 (by simp only[Ql,Q0];omega)]
   ·rw[Qb h,Qb h,Wm])
  (fun f s k z hz hk hs ih=>by
   have h1:=hf z (Qm hz)
   have h2:=(idx_le g z).2
   rw[F.b1,Qc (by omega),A.ixn hz,Qa,Qbh g z hg,Qa,iix h1 (by omega),Qa,A.gd1 (by simp only[Ql,Q0];omega),A.gd1 (A.r64n (by omega)),ih _ (by simp only[Qq,Ql,Q0];omega),insS]
   simp only[Wq,Xy,Xa,W7])
  (by have:=Qac;omega) xs (by omega)
theorem spotsR_eq (g:List Nd)(d:List Int)(hb:Few g)(hfed:Fed g)(ho:Own g)(hd:d.length=g.length):F.dJ g d=some (spots g d):=by
 have hlen:=hb.1
 have loop:=A.lp g (fun f (s:List Sp) i=>F.cr g d f s i) (fun k t s=>some (s++spotsF g d k t)) (fun k s=>s.length<=3*k)
  (fun f s hs=>by rw[F.cr,A.ba,Qb (by simp),spotsF,Wm])
  (fun f s k x hx hk hs ih=>by
   have hxg:=Qm hx
   have h2:=in2 ho hxg
   have h3:=Qhn x (iget d (k:Int))
   rw[F.cr,A.ba,Qc (by simp only[Qw];omega),A.ixn hx,Qa,spots_l2R g d _ k x s (by omega) hd hx h2 (hfed x hxg) (by omega) (by omega),ih _ (by rw[Qq,Qq,Qeh];omega),spotsF]
   simp only[Wq])
  (by have:=Qac;omega) [] (by simp)
 unfold F.dJ
 rw[loop];rfl
abbrev Ed:=Pl×Pl×Sm
theorem five {P:Int->Prop}(h0:P 0)(h1:P 1)(h2:P 2)(h3:P 3)(h4:P 4)(d:Int)(hd:0<=d/\d<=4):P d:=by
 have:d=0\/d=1\/d=2\/d=3\/d=4:=by omega
 rcases this with rfl|rfl|rfl|rfl|rfl<;>assumption
theorem Id_eqP (d:Int)(hd:0<=d/\d<=4):F.dd d=some (idP d):=five (P:=fun d=>F.dd d=some (idP d)) (by kernel_rfl) (by kernel_rfl) (by kernel_rfl) (by kernel_rfl) (by kernel_rfl) d hd
theorem Enter_eqP (d:Int)(hd:0<=d/\d<=4):F.cL d=some (Qjh d):=five (P:=fun d=>F.cL d=some (Qjh d)) (by kernel_rfl) (by kernel_rfl) (by kernel_rfl) (by kernel_rfl) (by kernel_rfl) d hd
theorem Leave_eqP (d:Int)(hd:0<=d/\d<=4):F.cM d=some (Qji d):=five (P:=fun d=>F.cM d=some (Qji d)) (by kernel_rfl) (by kernel_rfl) (by kernel_rfl) (by kernel_rfl) (by kernel_rfl) d hd
theorem Next_eqP (d:Int)(hd:0<=d/\d<=4):F.c5 d=some (nextP d):=five (P:=fun d=>F.c5 d=some (nextP d)) (by kernel_rfl) (by kernel_rfl) (by kernel_rfl) (by kernel_rfl) (by kernel_rfl) d hd
theorem Id_eqR (d:Int)(hd:0<=d/\d<=4):F.dS d=some (idP d):=five (P:=fun d=>F.dS d=some (idP d)) (by kernel_rfl) (by kernel_rfl) (by kernel_rfl) (by kernel_rfl) (by kernel_rfl) d hd
theorem Enter_eqR (d:Int)(hd:0<=d/\d<=4):F.dK d=some (Qjh d):=five (P:=fun d=>F.dK d=some (Qjh d)) (by kernel_rfl) (by kernel_rfl) (by kernel_rfl) (by kernel_rfl) (by kernel_rfl) d hd
theorem Leave_eqR (d:Int)(hd:0<=d/\d<=4):F.ds d=some (Qji d):=five (P:=fun d=>F.ds d=some (Qji d)) (by kernel_rfl) (by kernel_rfl) (by kernel_rfl) (by kernel_rfl) (by kernel_rfl) d hd
theorem Next_eqR (d:Int)(hd:0<=d/\d<=4):F.dQ d=some (nextP d):=five (P:=fun d=>F.dQ d=some (nextP d)) (by kernel_rfl) (by kernel_rfl) (by kernel_rfl) (by kernel_rfl) (by kernel_rfl) d hd
theorem within_eqP (n:Nd)(d:Int)(hd:0<=d/\d<=4):F.bS n d=some (Qdq n d):=by
 unfold F.bS Qdq
 simp only[Id_eqP d hd,Enter_eqP d hd,Leave_eqP d hd,Next_eqP d hd,Qa,F.aN]
 repeat' split
 all_goals rfl
theorem within_eqR (n:Nd)(d:Int)(hd:0<=d/\d<=4):F.cV n d=some (Qdq n d):=by
 unfold F.cV Qdq
 simp only[Id_eqR d hd,Enter_eqR d hd,Leave_eqR d hd,Next_eqR d hd,Qa,F.b8]
 repeat' split
 all_goals rfl
def useN (id nd:Int):Nat->List Int->List Pl
 |_,[]=>[]
 |k,z::r=>if z=id then(nd,(k:Int))::useN id nd (k+1) r else useN id nd (k+1) r
def Qbr (id:Int):List Nd->List Pl
 | []=>[]
 |n::r=>useN id n.1 0 n.2.2.1++Qbr id r
theorem Qef (id nd:Int): ∀(k:Nat) (l:List Int),(useN id nd k l).length<=l.length
 |_,[]=>Qp 0
 |k,z::r=>by
  unfold useN
  have:=Qef id nd (k+1) r
  split<;>simp only[Ql]<;>omega
theorem Qbx (id:Int): ∀(l:List Nd),(∀n∈l,n.2.2.1.length<=2)->(Qbr id l).length<=2*l.length
 | [],_=>Qp 0
 |n::r,h=>by
  unfold Qbr
  have h1:=Qbx id r fun x hx=>h x (Qe _ hx)
  have h2:=Qef id n.1 0 n.2.2.1
  have h3:=h n (Qg ..)
  rw[Qq,Ql];omega
theorem Values_eq (g:List Nd)(hg:g.length<=100):F.y g=some g:=
 A.lp0 g (fun f y=>F.f g f y) (fun _ l=>some l)
  (fun f=>by rw[F.f,Qb (by omega)])
  (fun f k x hx hk ih=>by rw[F.f,Qc (by omega),A.ixn hx,Qa,A.gd1 (A.r64n (by omega)),ih];rfl)
  (by have:=Qac;omega)
theorem users_l2 (id:Int)(n:Nd)(k4:List Pl->Option (List Pl))(xs:List Pl)(hl:n.2.2.1.length<=2)(hxs:xs.length<=1000):F.aj k4 id n A.FU xs 0=k4 (xs++useN id n.1 0 n.2.2.1):=
 A.lp n.2.2.1 (fun f (s:List Pl) i=>F.aj k4 id n f s i) (fun k t s=>k4 (s++useN id n.1 k t)) (fun k s=>s.length<=1000+k)
  (fun f s hs=>by rw[F.aj,Qb (by omega),useN,Wm])
  (fun f s k z hz hk hs ih=>by
   rw[F.aj,Qc (by omega),A.ixn hz,Qa,useN]
   simp only[F.bR,A.gd1 (A.r64n (n:=k) (by omega))]
   by_cases h:z=id
   ·rw[Qc h,Qc h,A.gd1 (by simp only[Ql,Q0];omega),ih _ (by simp only[Qq,Ql,Q0];omega)]
    simp only[Wq,Xy,Xa,W7]
   ·rw[Qb h,Qb h,ih _ (by omega)])
  (by have:=Qac;omega) xs (by omega)
theorem users_l3 (id:Int): ∀(l:List Nd) (xs:List Pl),(∀n∈l,n.2.2.1.length<=2)->xs.length+2*l.length<=900->F.ak id l xs=some (xs++Qbr id l)
 | [],xs,_,_=>by rw[F.ak,Qbr,Wm]
 |n::r,xs,h,hx=>by
  have h3:=h n (Qg ..)
  have h2:=Qef id n.1 0 n.2.2.1
  rw[Ql]at hx
  rw[F.ak,users_l2 id n _ xs h3 (by omega),users_l3 id r _ (fun x hx=>h x (Qe _ hx)) (by rw[Qq];omega),Qbr,Wq]
theorem users_eq (g:List Nd)(id:Int)(hb:Few g)(h2: ∀n∈g,n.2.2.1.length<=2):F.cx g id=some (Qbr id g):=by
 have:=hb.1
 unfold F.cx F.ah
 rw[Qa,Values_eq g (by omega),Qa,users_l3 id g [] h2 (by simp;omega)];rfl
def inE (g:List Nd)(d:List Int)(n:Nd):Nat->List Int->List Ed
 |_,[]=>[]
 |k,z::r=>((n.1,(k:Int)),(n.1,2),Qdq n (iget d (idx g z)))::inE g d n (k+1) r
def outE (g:List Nd)(n:Nd)(v:Int):List Ed:=(Qbr n.1 g).map fun u=>((n.1,2),u,(idP v).1)
def Qbf (g:List Nd)(d:List Int):Nat->List Nd->List Ed
 |_,[]=>[]
 |i,n::r=>if n.2.1=15 then Qbf g d (i+1) r else inE g d n 0 n.2.2.1++(outE g n (iget d (i:Int))++Qbf g d (i+1) r)
def Qah (g:List Nd)(d:List Int):List Ed:=Qbf g d 0 g
theorem Qku (g:List Nd)(d:List Int)(n:Nd): ∀(k:Nat) (l:List Int),(inE g d n k l).length=l.length
 |_,[]=>rfl
 |k,x::r=>by unfold inE;rw[Ql,Ql,Qku g d n (k+1) r]
theorem edges_l2P (k30:List Ed->Int->Option (List Ed))(y:Nat)(n:Nd)(s:Sm)(us:List Pl)(xs:List Ed)(hy:y<=100)(hu:us.length<=1000)(hxs:xs.length<=10000):
  F.w k30 (y:Int) n s.1 s.2.1 s.2.2.1 s.2.2.2.1 s.2.2.2.2.1 s.2.2.2.2.2.1 s.2.2.2.2.2.2.1 s.2.2.2.2.2.2.2 us A.FU xs 0=k30 (xs++us.map fun u=>((n.1,2),u,s)) ((y:Int)+1):=
 A.lp us (fun f (t:List Ed) i=>F.w k30 (y:Int) n s.1 s.2.1 s.2.2.1 s.2.2.2.1 s.2.2.2.2.1 s.2.2.2.2.2.1 s.2.2.2.2.2.2.1 s.2.2.2.2.2.2.2 us f t i) (fun k t e=>k30 (e++t.map fun u=>((n.1,2),u,s)) ((y:Int)+1)) (fun k t=>t.length<=10000+k)
  (fun f t ht=>by rw[F.w,Qb (by omega),F.az,A.gd1 (A.r64n (by omega)),X9,Wm])
  (fun f t k z hz hk ht ih=>by
   rw[F.w,Qc (by omega),A.ixn hz,Qa,A.gd1 (by simp only[Ql,Q0];omega),A.gd1 (A.r64n (by omega)),ih _ (by simp only[Qq,Ql,Q0];omega)]
   simp only[Wq,Xy,Xa,W7,Q3])
  (by have:=Qac;omega) xs (by omega)
theorem edges_l4P (g:List Nd)(d:List Int)(a0:(List (Int×Nd))×(List Int)×(List (Int×Int)))(k30:List Ed->Int->Option (List Ed))(y:Nat)(n:Nd)(xs:List Ed)(hb:Few g)(ho:Own g)(hib:InB d)(hr:RelD g d a0.2.2)(hn:g[y]?=some n)(hf: ∀k∈n.2.2.1,0<=idx g k)(hxs:xs.length<=9000):
  F.aa k30 a0 g (y:Int) n A.FU xs 0=k30 (xs++(inE g d n 0 n.2.2.1++outE g n (iget d (y:Int)))) ((y:Int)+1):=
 A.lp n.2.2.1 (fun f (t:List Ed) i=>F.aa k30 a0 g (y:Int) n f t i) (fun k t e=>k30 (e++(inE g d n k t++outE g n (iget d (y:Int)))) ((y:Int)+1)) (fun k t=>t.length<=9000+k)
  (fun f t ht=>by
   have hlen:=hb.1
   have hyl:=(Qd.1 hn).1
   have h2:=in2 ho (Qm hn)
   have hu:=Qbx n.1 g fun x hx=>in2 ho hx
   rw[F.aa,Qb (by omega),A.lt,hr y n hn,Id_eqP _ (hib _),Qa,F.bE,users_eq g n.1 hb (fun x hx=>in2 ho hx),Qa,
    show F.w k30 (y:Int) n _ _ _ _ _ _ _ _ (Qbr n.1 g) A.FU t 0=_ from edges_l2P k30 y n (idP (iget d (y:Int))).1 (Qbr n.1 g) t (by omega) (by omega) (by omega),inE,W7]
   rfl)
  (fun f t k z hz hk ht ih=>by
   have h1:=hf z (Qm hz)
   have h2:=in2 ho (Qm hn)
   rw[F.aa,Qc (by omega),A.ixn hz,Qa,A.lt,hr.in h1,show F.bS n _=_ from within_eqP n _ (hib _),Qa,A.gd1 (by simp only[Ql,Q0];omega),A.gd1 (A.r64n (by omega)),ih _ (by simp only[Qq,Ql,Q0];omega),inE]
   simp only[Wq,Xy,Xa,W7])
  (by have:=Qac;have:=in2 ho (Qm hn);omega) xs (by omega)
theorem edgesP_eq (g:List Nd)(d:List Int)(a0:(List (Int×Nd))×(List Int)×(List (Int×Int)))(hb:Few g)(hfed:Fed g)(ho:Own g)(hib:InB d)(hr:RelD g d a0.2.2):F.aE a0 g=some (Qah g d):=by
 have hlen:=hb.1
 have loop:=A.lp g (fun f (s:List Ed) i=>F.j a0 g f s i) (fun k t s=>some (s++Qbf g d k t)) (fun k s=>s.length<=83*k)
  (fun f s hs=>by rw[F.j,Qb (by omega),Qbf,Wm])
  (fun f s k x hx hk hs ih=>by
   have hxg:=Qm hx
   have h2:=in2 ho hxg
   have hu:=Qbx x.1 g fun x hx=>in2 ho hx
   rw[F.j,Qc (by omega),A.ixn hx,Qa,Qbf]
   by_cases h:x.2.1=15
   ·rw[Qc h,Qc h,F.az,A.gd1 (A.r64n (by omega)),ih _ (by omega)]
   ·rw[Qb h,Qb h,edges_l4P g d a0 _ k x s hb ho hib hr hx (hfed x hxg) (by omega),ih _ (by rw[Qq,Qq,Qku,outE,Wd];omega)]
    simp only[Wq])
  (by have:=Qac;omega) [] (by simp)
 unfold F.aE
 rw[loop];rfl
theorem Find_eq (g:List Nd)(hb:Few g){j:Nat}{n:Nd}(hi:Inc g)(hn:g[j]?=some n):F.cE g n.1=some (n,true):=by
 have:=hb.1
 have hin:=hb.in hn
 unfold F.cE
 rw[Qbh g _ (by omega),Qa,hi.idx hn,Qb (by omega),A.ixn hn,Qa,A.gd1 (by simp only[Q0];omega)]
 rfl
theorem edges_l4R (g:List Nd)(k37:List Ed->Int->Option (List Ed))(sp:Sp)(r18:Nd×Bool)(r59:Sm×Int)(j:Nat)(m:Nd)(xs:List Ed)(hg:g.length<=100)(hm:g[j]?=some m)(hl:m.2.2.1.length<=2)(hxs:xs.length<=20000):
  F.bC k37 g sp r18 r59 (j:Int) A.FU xs 0=k37 (xs++(useN r18.1.1 m.1 0 m.2.2.1).map fun u=>(sp.1,u,r59.1)) ((j:Int)+1):=
 A.lp m.2.2.1 (fun f (t:List Ed) i=>F.bC k37 g sp r18 r59 (j:Int) f t i) (fun k t e=>k37 (e++(useN r18.1.1 m.1 k t).map fun u=>(sp.1,u,r59.1)) ((j:Int)+1)) (fun k t=>t.length<=20000+k)
  (fun f t ht=>by
   have hjl:=(Qd.1 hm).1
   rw[F.bC,A.ixn hm,Qa,Qb (by omega),A.gd1 (A.r64n (by omega)),useN,X9,Wm])
  (fun f t k z hz hk ht ih=>by
   rw[F.bC,A.ixn hm,Qa,Qc (by omega),Qa,A.ixn hz,Qa,useN]
   simp only[F.dl,A.gd1 (A.r64n (n:=k) (by omega)),Qa]
   by_cases h:z=r18.1.1
   ·rw[Qc h,Qc h,A.gd1 (by simp only[Ql,Q0];omega),ih _ (by simp only[Qq,Ql,Q0];omega)]
    simp only[Wq,Xy,Xa,W7,Q3]
   ·rw[Qb h,Qb h,ih _ (by omega)])
  (by have:=Qac;omega) xs (by omega)
theorem edges_l5R (g:List Nd)(k30:List Ed->Int->Option (List Ed))(y:Nat)(sp:Sp)(r18:Nd×Bool)(r59:Sm×Int)(xs:List Ed)(hb:Few g)(ho:Own g)(hxs:xs.length<=15000)(hy:y<=1000):
  F.b2 k30 g (y:Int) sp r18 r59 A.FU xs 0=k30 (xs++(Qbr r18.1.1 g).map fun u=>(sp.1,u,r59.1)) ((y:Int)+1):=
 A.lp g (fun f (t:List Ed) i=>F.b2 k30 g (y:Int) sp r18 r59 f t i) (fun k t e=>k30 (e++(Qbr r18.1.1 t).map fun u=>(sp.1,u,r59.1)) ((y:Int)+1)) (fun k t=>t.length<=15000+2*k)
  (fun f t ht=>by rw[F.b2,Qb (by omega),F.cW,A.gd1 (A.r64n (by omega)),Qbr,X9,Wm])
  (fun f t k m hm hk ht ih=>by
   have hlen:=hb.1
   have h2:=in2 ho (Qm hm)
   have h3:=Qef r18.1.1 m.1 0 m.2.2.1
   rw[F.b2,Qc (by omega),edges_l4R g _ sp r18 r59 k m t (by omega) hm h2 (by omega),ih _ (by rw[Qq,Wd];omega),Qbr,Wy,Wq])
  (by have:=Qac;have:=hb.1;omega) xs (by omega)
def edOf (g:List Nd)(sp:Sp):List Ed:=if sp.1.2≠2 then(if(find g sp.1.1).1.2.1≠15 then [(sp.1,((find g sp.1.1).1.1,2),Qdq (find g sp.1.1).1 sp.2)]else [])else(Qbr (find g sp.1.1).1.1 g).map fun u=>(sp.1,u,(idP sp.2).1)
def edS (g:List Nd):List Sp->List Ed
 | []=>[]
 |sp::r=>edOf g sp++edS g r
def SpOk (g:List Nd)(sp:Sp):Prop:=(∃(j:Nat) (n:Nd),g[j]?=some n/\n.1=sp.1.1)/\0<=sp.2/\sp.2<=4
theorem Qer {g:List Nd}(hi:Inc g){j:Nat}{n:Nd}(hn:g[j]?=some n):find g n.1=(n,true):=by
 unfold find
 rw[hi.idx hn,Qb (by omega),Qbg rfl hn]
theorem edgesR_l6 (g:List Nd)(l:List Sp)(hb:Few g)(hi:Inc g)(ho:Own g)(hl:l.length<=130)(hs: ∀sp∈l,SpOk g sp):F.dt g l=some (edS g l):=by
 have hlen:=hb.1
 have loop:=A.lp l (fun f (s:List Ed) i=>F.bD g l f s i) (fun k t s=>some (s++edS g t)) (fun k s=>s.length<=83*k)
  (fun f s hs=>by rw[F.bD,Qb (by omega),edS,Wm])
  (fun f s k x hx hk hp ih=>by
   obtain⟨⟨j,n,hn,hid⟩,hd⟩:=hs x (Qm hx)
   have hu:=Qbx n.1 g fun x hx=>in2 ho hx
   rw[F.bD,Qc (by omega),A.ixn hx,Qa,<-hid,Find_eq g hb hi hn,Qa,edS,edOf,<-hid,Qer hi hn]
   simp only[F.dk,F.cW,A.gd1 (A.r64n (n:=k) (by omega)),Qa]
   by_cases h2:x.1.2≠2
   ·rw[Qc h2,Qc h2]
    by_cases h15:n.2.1≠15
    ·rw[Qc h15,Qc h15,show F.cV n x.2=_ from within_eqR n x.2 hd,Qa,A.gd1 (by simp only[Ql,Q0];omega),ih _ (by simp only[Qq,Ql,Q0];omega),hid]
     simp only[Wq]
    ·rw[Qb h15,Qb h15,ih _ (by omega),W7]
   ·rw[Qb h2,Qb h2,Id_eqR x.2 hd,Qa,edges_l5R g _ k x (n,true) (idP x.2) s hb ho (by omega) (by omega),ih _ (by rw[Qq,Wd];show s.length+(Qbr n.1 g).length<=_;omega),Wq])
  (by have:=Qac;omega) [] (by simp)
 unfold F.dt
 rw[loop];rfl
theorem Qkf (g:List Nd): ∀(a b:List Sp),edS g (a++b)=edS g a++edS g b
 | [],_=>rfl
 |x::a,b=>by rw[Xa,edS,edS,Qkf g a b,Wq]
theorem edS_ins {g:List Nd}(hi:Inc g)(d:List Int){j:Nat}{n:Nd}(hn:g[j]?=some n): ∀(k:Nat) (l:List Int),k+l.length<=2->edS g (insS g d n.1 k l)=if n.2.1=15 then []else inE g d n k l
 |k,[],_=>by unfold insS inE edS;split<;>rfl
 |k,z::r,h=>by
  rw[Ql]at h
  have h2:((k:Int):Int)≠2:=by omega
  unfold insS inE
  rw[edS,edS_ins hi d hn (k+1) r (by omega),edOf]
  simp only[Qer hi hn]
  rw[Qc h2]
  by_cases h15:n.2.1=15
  ·simp[h15]
  ·rw[Qb h15,Qb h15,Qc h15];rfl
theorem Qiz {g:List Nd}(hi:Inc g)(ho:Own g)(d:List Int): ∀(m k:Nat),k+m=g.length->edS g (spotsF g d k (g.drop k))=Qbf g d k (g.drop k)
 |0,k,h=>by rw[W6 (by omega)];rfl
 |m+1,k,h=>by
  have hx:g[k]?=some g[k]:=Qi (by omega)
  generalize g[k]=x at hx
  have h2:=in2 ho (Qm hx)
  rw[A.dropx hx,spotsF,Qbf,Qkf,Qkf,Qiz hi ho d m (k+1) (by omega),edS_ins hi d hx 0 _ (by omega)]
  by_cases h15:x.2.1=15
  ·rw[Qc h15,Qc h15,outS,Qb (fun h=>h h15),edS];rfl
  ·rw[Qb h15,Qb h15,outS,Qc h15,edS,edOf]
   simp only[Qer hi hx]
   rw[Qb (fun h=>h rfl),edS,Wm];rfl
theorem o_bV {g:List Nd}{d:List Int}(hib:InB d){j:Nat}{n:Nd}(hn:g[j]?=some n): ∀(k:Nat) (l:List Int),∀sp∈insS g d n.1 k l,SpOk g sp
 |_,[],sp,h=>by cases h
 |k,z::r,sp,h=>by
  unfold insS at h
  rcases Qj.1 h with rfl|h
  ·exact⟨⟨j,n,hn,rfl⟩,hib _⟩
  ·exact o_bV hib hn (k+1) r sp h
theorem o_aS {g:List Nd}{d:List Int}(hib:InB d): ∀(m k:Nat),k+m=g.length->∀sp∈spotsF g d k (g.drop k),SpOk g sp
 |0,k,h,sp,hs=>by rw[W6 (by omega)]at hs;cases hs
 |m+1,k,h,sp,hs=>by
  have hx:g[k]?=some g[k]:=Qi (by omega)
  generalize g[k]=x at hx
  rw[A.dropx hx,spotsF]at hs
  rcases Qs.1 hs with hs|hs
  ·exact o_bV hib hx 0 _ sp hs
  ·rcases Qs.1 hs with hs|hs
   ·unfold outS at hs
    split at hs
    ·rw[Qo]at hs;subst hs;exact⟨⟨k,x,hx,rfl⟩,hib _⟩
    ·cases hs
   ·exact o_aS hib m (k+1) (by omega) sp hs
theorem Qfb {g:List Nd}(ho:Own g)(d:List Int): ∀(m k:Nat),k+m=g.length->(spotsF g d k (g.drop k)).length<=3*m
 |0,k,h=>by rw[W6 (by omega)];exact Qp 0
 |m+1,k,h=>by
  have hx:g[k]?=some g[k]:=Qi (by omega)
  generalize g[k]=x at hx
  have h2:=in2 ho (Qm hx)
  have h3:=Qhn x (iget d (k:Int))
  have h4:=Qfb ho d m (k+1) (by omega)
  rw[A.dropx hx,spotsF,Qq,Qq,Qeh];omega
theorem edgesR_eq (g:List Nd)(d:List Int)(hb:Few g)(hi:Inc g)(ho:Own g)(hib:InB d):F.dt g (spots g d)=some (Qah g d):=by
 have h1:=Qfb ho d g.length 0 (by omega)
 have h2:=o_aS (d:=d) (g:=g) hib g.length 0 (by omega)
 have h3:=Qiz hi ho d g.length 0 (by omega)
 rw[Xc]at h1 h2 h3
 have:=hb.1
 rw[edgesR_l6 g (spots g d) hb hi ho (by unfold spots;omega) h2]
 exact Wt some h3
inductive Rch {α:Type} (R:α->α->Prop) (a:α):α->Prop
 |one {b:α} (h:R a b):Rch R a b
 |step {b c:α} (h:Rch R a b) (h2:R b c):Rch R a c
theorem Qfn (g:List Nd)(d:List Int)(id:Int): ∀(k:Nat) (l:List Int) (p:Pl) (v:Int),(p,v)∈insS g d id k l->p.1=id/\(k:Int)<=p.2/\p.2<(k:Int)+l.length
 |_,[],_,_,h=>by cases h
 |k,z::r,p,v,h=>by
  unfold insS at h
  rw[Ql]
  rcases Qj.1 h with h|h
  ·injection h with h1 h2;subst h1;refine⟨rfl,Je _,?_⟩;simp only[];omega
  ·have:=Qfn g d id (k+1) r p v h;omega
theorem Qgu (g:List Nd)(d:List Int)(id:Int): ∀(k:Nat) (l:List Int),((insS g d id k l).map (·.1)).Nodup
 |_,[]=>Yc
 |k,z::r=>by
  unfold insS
  rw[Q3,Ws]
  refine⟨fun h=>?_,Qgu g d id (k+1) r⟩
  obtain⟨⟨p,v⟩,h1,h2⟩:=Wi.1 h
  have:=Qfn g d id (k+1) r p v h1
  simp only[]at h2
  rw[h2]at this;simp only[]at this;omega
theorem Qgh {g:List Nd}(d:List Int): ∀(k:Nat) (l:List Nd) (sp:Sp),sp∈spotsF g d k l->∃n∈l,n.1=sp.1.1
 |_,[],_,h=>by cases h
 |k,n::r,sp,h=>by
  unfold spotsF at h
  rcases Qs.1 h with h|h
  ·exact⟨n,Qg ..,(Qfn g d n.1 0 _ sp.1 sp.2 h).1.symm⟩
  ·rcases Qs.1 h with h|h
   ·unfold outS at h
    split at h
    ·rw[Qo]at h;subst h;exact⟨n,Qg ..,rfl⟩
    ·cases h
   ·obtain⟨m,h1,h2⟩:=Qgh d (k+1) r sp h
    exact⟨m,Qe _ h1,h2⟩
theorem Qdu {g:List Nd}(d:List Int): ∀(k:Nat) (l:List Nd),l.Pairwise (fun a b=>a.1<b.1)->(∀n∈l,n.2.2.1.length<=2)->((spotsF g d k l).map (·.1)).Nodup
 |_,[],_,_=>Yc
 |k,n::r,hp,hl=>by
  rw[Q6]at hp
  have h2:=hl n (Qg ..)
  unfold spotsF
  rw[Wy,Wv,Wy,Wv]
  have hrest: ∀p∈(spotsF g d (k+1) r).map (·.1),p.1≠n.1:=fun p hp2 e=>by
   obtain⟨sp,h1,rfl⟩:=Wi.1 hp2
   obtain⟨m,h3,h4⟩:=Qgh d (k+1) r sp h1
   have:=hp.1 m h3;omega
  have hout: ∀p∈(outS n (iget d (k:Int))).map (·.1),p=(n.1,2):=fun p hp2=>by
   unfold outS at hp2
   split at hp2
   ·simpa using hp2
   ·cases hp2
  have hin: ∀p∈(insS g d n.1 0 n.2.2.1).map (·.1),p.1=n.1/\p.2<2:=fun p hp2=>by
   obtain⟨⟨q,v⟩,h1,rfl⟩:=Wi.1 hp2
   have:=Qfn g d n.1 0 _ q v h1
   simp only[];omega
  refine⟨Qgu g d n.1 0 _,⟨?_,Qdu d (k+1) r hp.2 (fun x hx=>hl x (Qe _ hx)),?_⟩,?_⟩
  ·unfold outS;split<;>simp
  ·intro a ha b hb e
   have h3:=hout a ha
   subst e
   exact hrest a hb (by rw[h3])
  ·intro a ha b hb e
   subst e
   have h3:=hin a ha
   rcases Qs.1 hb with hb|hb
   ·have:=hout a hb;rw[this]at h3;simp only[]at h3;omega
   ·exact hrest a hb h3.1
theorem useN_mem (id nd:Int): ∀(k:Nat) (l:List Int) (u:Pl),u∈useN id nd k l->u.1=nd/\∃j:Nat,u.2=(k:Int)+j/\j<l.length
 |_,[],u,h=>by cases h
 |k,z::r,u,h=>by
  unfold useN at h
  have hrec:u∈useN id nd (k+1) r->u.1=nd/\∃j:Nat,u.2=(k:Int)+j/\j<(z::r).length:=fun h=>by
   obtain⟨h1,j,h2,h3⟩:=useN_mem id nd (k+1) r u h
   exact⟨h1,j+1,by omega,by rw[Ql];omega⟩
  split at h
  ·rcases Qj.1 h with rfl|h
   ·exact⟨rfl,0,by simp,by rw[Ql];omega⟩
   ·exact hrec h
  ·exact hrec h
theorem insS_get (g:List Nd)(d:List Int)(id:Int): ∀(k:Nat) (l:List Int) (j:Nat),j<l.length->∃v,((id,(k:Int)+j),v)∈insS g d id k l
 |_,[],j,h=>by simp at h
 |k,z::r,j,h=>by
  unfold insS
  cases j with
  |zero=>exact⟨iget d (idx g z),by simp⟩
  |succ j=>
   rw[Ql]at h
   obtain⟨v,hv⟩:=insS_get g d id (k+1) r j (by omega)
   refine⟨v,Qe _ ?_⟩
   have e:(k:Int)+((j+1:Nat):Int)=((k+1:Nat):Int)+(j:Int):=by omega
   rw[e];exact hv
theorem Qgi {g:List Nd}(d:List Int): ∀(k:Nat) (l:List Nd) (n:Nd),n∈l->∀sp∈insS g d n.1 0 n.2.2.1,sp∈spotsF g d k l
 |_,[],_,h,_,_=>by cases h
 |k,m::r,n,h,sp,hs=>by
  unfold spotsF
  rcases Qj.1 h with rfl|h
  ·exact Q8 _ hs
  ·exact Qx _ (Qx _ (Qgi d (k+1) r n h sp hs))
theorem Qge {g:List Nd}(d:List Int): ∀(k:Nat) (l:List Nd) (n:Nd),n∈l->n.2.1≠15->∃v,((n.1,2),v)∈spotsF g d k l
 |_,[],_,h,_=>by cases h
 |k,m::r,n,h,h15=>by
  unfold spotsF
  rcases Qj.1 h with rfl|h
  ·exact⟨iget d (k:Int),Qx _ (Q8 _ (by unfold outS;rw[Qc h15];simp))⟩
  ·obtain⟨v,hv⟩:=Qge d (k+1) r n h h15
   exact⟨v,Qx _ (Qx _ hv)⟩
theorem Qjw (id:Int): ∀(l:List Nd) (u:Pl),u∈Qbr id l->∃n∈l,u.1=n.1/\∃j:Nat,u.2=(j:Int)/\j<n.2.2.1.length
 | [],u,h=>by cases h
 |n::r,u,h=>by
  unfold Qbr at h
  rcases Qs.1 h with h|h
  ·obtain⟨h1,j,h2,h3⟩:=useN_mem id n.1 0 _ u h
   exact⟨n,Qg ..,h1,j,by omega,h3⟩
  ·obtain⟨m,h1,h2⟩:=Qjw id r u h
   exact⟨m,Qe _ h1,h2⟩
theorem inE_mem (g:List Nd)(d:List Int)(n:Nd): ∀(k:Nat) (l:List Int) (e:Ed),e∈inE g d n k l->e.1.1=n.1/\(k:Int)<=e.1.2/\e.1.2<(k:Int)+l.length/\e.2.1=(n.1,2)
 |_,[],_,h=>by cases h
 |k,z::r,e,h=>by
  unfold inE at h
  rw[Ql]
  rcases Qj.1 h with rfl|h
  ·refine⟨rfl,Je _,?_,rfl⟩;simp only[];omega
  ·have:=inE_mem g d n (k+1) r e h
   refine⟨this.1,by omega,by omega,this.2.2.2⟩
theorem Qce {g:List Nd}(d:List Int): ∀(k:Nat) (l:List Nd) (e:Ed),e∈Qbf g d k l->∃n∈l,e.1.1=n.1/\((n.2.1≠15/\e.2.1=(n.1,2)/\0<=e.1.2/\e.1.2<n.2.2.1.length)\/(e.1.2=2/\∃m∈g,e.2.1.1=m.1/\∃j:Nat,e.2.1.2=(j:Int)/\j<m.2.2.1.length))
 |_,[],_,h=>by cases h
 |k,n::r,e,h=>by
  unfold Qbf at h
  have hrec:e∈Qbf g d (k+1) r->∃m∈n::r,e.1.1=m.1/\((m.2.1≠15/\e.2.1=(m.1,2)/\0<=e.1.2/\e.1.2<m.2.2.1.length)\/(e.1.2=2/\∃q∈g,e.2.1.1=q.1/\∃j:Nat,e.2.1.2=(j:Int)/\j<q.2.2.1.length)):=fun h=>by
   obtain⟨m,h1,h2⟩:=Qce d (k+1) r e h
   exact⟨m,Qe _ h1,h2⟩
  split at h
  ·exact hrec h
  ·rename_i h15
   rcases Qs.1 h with h|h
   ·obtain⟨h1,h2,h3,h4⟩:=inE_mem g d n 0 _ e h
    exact⟨n,Qg ..,h1,.inl ⟨h15,h4,by omega,by omega⟩⟩
   ·rcases Qs.1 h with h|h
    ·unfold outE at h
     obtain⟨u,hu,rfl⟩:=Wi.1 h
     obtain⟨m,h1,h2⟩:=Qjw n.1 g u hu
     exact⟨n,Qg ..,rfl,.inr ⟨rfl,m,h1,h2⟩⟩
    ·exact hrec h
theorem edge_to {g:List Nd}(d:List Int){e:Ed}(he:e∈Qah g d): ∃v,(e.2.1,v)∈spots g d:=by
 obtain⟨n,hn,h1,h|h⟩:=Qce d 0 g e he
 ·obtain⟨v,hv⟩:=Qge d 0 g n hn h.1
  exact⟨v,by rw[h.2.1];exact hv⟩
 ·obtain⟨_,m,hm,h2,j,h3,h4⟩:=h
  obtain⟨v,hv⟩:=insS_get g d m.1 0 m.2.2.1 j h4
  refine⟨v,Qgi d 0 g m hm _ ?_⟩
  have e1:e.2.1=(m.1,((0:Nat):Int)+(j:Int)):=Prod.ext h2 (by rw[h3];simp)
  rw[e1];exact hv
theorem Qjy {g:List Nd}(d:List Int){e:Ed}(he:e∈Qah g d): ∃n∈g,e.1.1=n.1:=by
 obtain⟨n,hn,h1,_⟩:=Qce d 0 g e he
 exact⟨n,hn,h1⟩
theorem edge_out {g:List Nd}(d:List Int)(ho:Own g){e:Ed}(he:e∈Qah g d)(h2:e.2.1.2=2):e.1.1=e.2.1.1/\e.1.2≠2:=by
 obtain⟨n,hn,h1,h|h⟩:=Qce d 0 g e he
 ·have:=in2 ho hn
  exact⟨by rw[h1,h.2.1],by omega⟩
 ·obtain⟨_,m,hm,_,j,h3,h4⟩:=h
  have:=in2 ho hm
  omega
theorem atS_mem {p:Pl}: ∀{l:List Sp} {v:Int},(l.map (·.1)).Nodup->(p,v)∈l->atS p l=v
 | [],_,_,h=>by cases h
 |x::r,v,hn,h=>by
  rw[Q3,Ws]at hn
  unfold atS
  rcases Qj.1 h with rfl|h
  ·rw[Qc rfl]
  ·rw[Qb (fun e=>hn.1 (by rw[e];exact List.mem_map_of_mem (f:=(·.1)) h))]
   exact atS_mem hn.2 h
theorem R_at_eq (l:List Sp)(p:Pl)(hl:l.length<=100000):F.dX l p=some (atS p l):=
 A.lp0 l (fun f y=>F.c8 l p f y) (fun _ t=>some (atS p t))
  (fun f=>by rw[F.c8,Qb (by omega)];rfl)
  (fun f k x hx hk ih=>by
   rw[F.c8,Qc (by omega),A.ixn hx,Qa,Qa,atS]
   by_cases h:x.1=p
   ·rw[Qc (show x.1=p from h),Qc h]
   ·rw[Qb (show ¬x.1=p from h),Qb h,A.gd1 (A.r64n (by omega)),ih])
  (by have:=Qac;omega)
theorem R_on_eq (l:List Pl)(p:Pl)(hl:l.length<=100000):F.dL l p=some (decide (p∈l)):=
 A.lp0 l (fun f y=>F.c9 l p f y) (fun _ t=>some (decide (p∈t)))
  (fun f=>by rw[F.c9,Qb (by omega)];simp)
  (fun f k x hx hk ih=>by
   rw[F.c9,Qc (by omega),A.ixn hx,Qa]
   by_cases h:x=p
   ·rw[Qc (show x=p from h)];simp[h]
   ·rw[Qb (show ¬x=p from h),A.gd1 (A.r64n (by omega)),ih]
    congr 1
    exact decide_eq_decide.2 ⟨fun h2=>Qe _ h2,fun h2=>(Qj.1 h2).resolve_left fun e=>h e.symm⟩)
  (by have:=Qac;omega)
def Qch (g:List Nd)(S:List Sp)(dd:Int)(e:Ed):Bool:=decide (dd<=atS e.2.1 S)&&(decide ((find g e.1.1).1.2.1≠14)||decide ((find g e.1.1).1.2.2.2.2.2.2≠dd)||decide (e.1.2=2))
theorem R_open_eq (g:List Nd)(S:List Sp)(e:Ed)(dd:Int)(hb:Few g)(hi:Inc g)(hS:S.length<=100000)(hf: ∃n∈g,e.1.1=n.1):F.dm g S e dd=some (Qch g S dd e):=by
 obtain⟨n,hn,h1⟩:=hf
 obtain⟨j,hj⟩:=Wr.1 hn
 unfold F.dm Qch
 rw[h1,Find_eq g hb hi hj,Qa,show F.dX S e.2.1=_ from R_at_eq S e.2.1 hS,Qa,Qer hi hj]
 by_cases h:dd<=atS e.2.1 S
 ·rw[Qc h,Qz h,Xi]
  congr 1
 ·rw[Qb h,We h,Yv]
def addR (g:List Nd)(S:List Sp)(dd:Int)(cur:Pl):List Ed->List Pl->List Pl
 | [],r=>r
 |e::t,r=>addR g S dd cur t (if e.1=cur/\Qch g S dd e=true/\e.2.1∉r then r++[e.2.1]else r)
theorem round_l3 (g:List Nd)(S:List Sp)(E:List Ed)(from_:Sp)(k3:List Pl->List Pl->Int->Option Bool)(y:Nat)(cur:Pl)(r:List Pl)(hb:Few g)(hi:Inc g)(hS:S.length<=100000)(hE:E.length<=5000)(hf: ∀e∈E,∃n∈g,e.1.1=n.1)(hc:(from_.1::r)[y]?=some cur)(hy:y<=10000)(hr:r.length<=9000)(hall: ∀k,(addR g S from_.2 cur (E.take k) r).length<=9000):
  F.aQ k3 g S E from_ (y:Int) A.FU r (from_.1::r) 0=k3 (addR g S from_.2 cur E r) (from_.1::addR g S from_.2 cur E r) ((y:Int)+1):=
 A.lp E (fun f (s:List Pl×List Pl) i=>F.aQ k3 g S E from_ (y:Int) f s.1 s.2 i) (fun k t s=>k3 (addR g S from_.2 cur t s.1) (from_.1::addR g S from_.2 cur t s.1) ((y:Int)+1)) (fun k s=>s.2=from_.1::s.1/\s.2[y]?=some cur/\s.1=addR g S from_.2 cur (E.take k) r)
  (fun f s hs=>by
   rw[F.aQ,Qb (by omega),A.gd1 (A.r64n (by omega)),hs.1];rfl)
  (fun f s k e he hk hs ih=>by
   obtain⟨q,r'⟩:=s
   obtain⟨h1,h2,h3⟩:=hs
   simp only[]at h1 h2 h3
   have hlen:q.length<=9000:=by rw[h3];exact hall _
   have hsnoc: ∀(t:List Ed) (e:Ed) (r:List Pl),addR g S from_.2 cur (t++[e]) r=(if e.1=cur/\Qch g S from_.2 e=true/\e.2.1∉addR g S from_.2 cur t r then addR g S from_.2 cur t r++[e.2.1]else addR g S from_.2 cur t r):=by
    intro t
    induction t with
    |nil=>intro e r;rfl
    |cons x t iht=>intro e r;rw[Xa,addR,addR];exact iht e _
   have hnext:addR g S from_.2 cur (E.take (k+1)) r=if e.1=cur/\Qch g S from_.2 e=true/\e.2.1∉q then q++[e.2.1]else q:=by
    rw[Qgb he,hsnoc,<-h3]
   have hopen:=R_open_eq g S e from_.2 hb hi hS (hf e (Qm he))
   rw[F.aQ,Qc (by omega),A.ixn he,Qa,A.ixn h2,Qa,addR]
   simp only[F.ct,F.dn,A.ixn he,Qa,A.gd1 (A.r64n (n:=k) (by omega)),Qu,Q9]
   have stay: ¬(e.1=cur/\Qch g S from_.2 e=true/\e.2.1∉q)->F.aQ k3 g S E from_ (y:Int) f q r' ((k:Int)+1)=k3 (addR g S from_.2 cur (E.drop (k+1)) (if e.1=cur/\Qch g S from_.2 e=true/\e.2.1∉q then q++[e.2.1]else q)) (from_.1::addR g S from_.2 cur (E.drop (k+1)) (if e.1=cur/\Qch g S from_.2 e=true/\e.2.1∉q then q++[e.2.1]else q)) ((y:Int)+1):=fun hn=>by
    rw[Qb hn]at hnext ⊢
    exact ih (q,r') ⟨h1,h2,hnext.symm⟩
   by_cases hcur:e.1=cur
   ·rw[Qc (show e.1=cur from hcur),show F.dm g S e from_.2=_ from hopen,Qa]
    by_cases ho:Qch g S from_.2 e=true
    ·rw[Qc ho,show F.dL q e.2.1=_ from R_on_eq q e.2.1 (by omega),Qa]
     by_cases hm:e.2.1∈q
     ·rw[Qz hm,Xm,Qb Wu]
      exact stay fun h=>h.2.2 hm
     ·have hc3:e.1=cur/\Qch g S from_.2 e=true/\e.2.1∉q:=⟨hcur,ho,hm⟩
      rw[We hm,X0,Qc rfl,A.gd1 (by simp only[Ql,Q0];omega),A.gd1 (by rw[h1];simp only[Ql,Q0];omega),Qc hc3]
      rw[Qc hc3]at hnext
      refine ih (q++[e.2.1],r'++[e.2.1]) ⟨?_,?_,hnext.symm⟩
      ·simp only[h1,Xa]
      ·simp only[]
       rw[Wg (Qd.1 h2).1];exact h2
    ·rw[Qb ho]
     exact stay fun h=>ho h.2.1
   ·rw[Qb (show ¬e.1=cur from hcur)]
    exact stay fun h=>hcur h.1)
  (by have:=Qac;omega) (r,from_.1::r) ⟨rfl,hc,rfl⟩
def okE (g:List Nd)(S:List Sp)(E:List Ed)(dd:Int)(p q:Pl):Prop:=∃e∈E,e.1=p/\e.2.1=q/\Qch g S dd e=true
theorem Qcx (g:List Nd)(S:List Sp)(dd:Int)(cur:Pl): ∀(t:List Ed) (r:List Pl),∃x,addR g S dd cur t r=r++x/\(∀p∈x,∃e∈t,e.1=cur/\e.2.1=p/\Qch g S dd e=true)/\(r.Nodup->(r++x).Nodup)/\(∀e∈t,e.1=cur->Qch g S dd e=true->e.2.1∈r++x)
 | [],r=>⟨[],by rw[addR,Wm],by simp,by simp,by simp⟩
 |e::t,r=>by
  rw[addR]
  by_cases h:e.1=cur/\Qch g S dd e=true/\e.2.1∉r
  ·rw[Qc h]
   obtain⟨x,h1,h2,h3,h4⟩:=Qcx g S dd cur t (r++[e.2.1])
   refine⟨e.2.1::x,by rw[h1];simp,fun p hp=>?_,fun hn=>?_,fun e2 he2 a b=>?_⟩
   ·rcases Qj.1 hp with rfl|hp
    ·exact⟨e,Qg ..,h.1,rfl,h.2.1⟩
    ·obtain⟨e2,a,b⟩:=h2 p hp;exact⟨e2,Qe _ a,b⟩
   ·have:=h3 (Wv.2 ⟨hn,by simp,fun a ha b hb=>by rw[Qo]at hb;subst hb;intro e2;subst e2;exact h.2.2 ha⟩)
    simpa using this
   ·rcases Qj.1 he2 with rfl|he2
    ·simp
    ·have:=h4 e2 he2 a b;simpa using this
  ·rw[Qb h]
   obtain⟨x,h1,h2,h3,h4⟩:=Qcx g S dd cur t r
   refine⟨x,h1,fun p hp=>?_,h3,fun e2 he2 a b=>?_⟩
   ·obtain⟨e2,a,b⟩:=h2 p hp;exact⟨e2,Qe _ a,b⟩
   ·rcases Qj.1 he2 with rfl|he2
    ·refine Q8 _ ?_
     by_cases hm:e2.2.1∈r
     ·exact hm
     ·exact absurd ⟨a,b,hm⟩ h
    ·exact h4 e2 he2 a b
theorem nodup_len {α:Type}[DecidableEq α]: ∀{l m:List α},l.Nodup->(∀x∈l,x∈m)->l.length<=m.length
 | [],m,_,_=>Ya _
 |a::l,m,hn,h=>by
  rw[Ws]at hn
  have ha:=h a (Qg ..)
  have:=nodup_len (l:=l) (m:=m.erase a) hn.2 fun x hx=>(List.mem_erase_of_ne (fun e=>by subst e;exact hn.1 hx)).2 (h x (Qe _ hx))
  rw[List.length_erase_of_mem ha]at this
  have hpos:0<m.length:=List.length_pos_of_mem ha
  rw[Ql];omega
theorem round_eq (g:List Nd)(S:List Sp)(E:List Ed)(from_:Sp)(hb:Few g)(hi:Inc g)(hS:S.length<=100000)(hE:E.length<=4000)(hf: ∀e∈E,∃n∈g,e.1.1=n.1):
  ∃b,F.du g S E from_=some b/\(b=true↔Rch (okE g S E from_.2) from_.1 from_.1):=by
 have sub: ∀(r:List Pl),r.Nodup->(∀p∈r,∃e∈E,e.2.1=p)->r.length<=4000:=fun r hn h=>by
  have:=nodup_len (m:=E.map fun e=>e.2.1) hn fun p hp=>by obtain⟨e,h1,h2⟩:=h p hp;exact Wi.2 ⟨e,h1,h2⟩
  rw[Wd]at this;omega
 have main: ∀(n f y:Nat) (r:List Pl),y+n=4002->n<f->r.Nodup->y<=1+r.length->(∀p∈r,∃e∈E,e.2.1=p)->(∀p∈r,Rch (okE g S E from_.2) from_.1 p)->(∀i p q,i<y->(from_.1::r)[i]?=some p->okE g S E from_.2 p q->q∈r)->
   ∃b,F.cX g S E from_ f r (from_.1::r) (y:Int)=some b/\(b=true↔Rch (okE g S E from_.2) from_.1 from_.1):=by
  intro n
  induction n with
  |zero=>
   intro f y r hy hf' hn hyl hsub _ _
   have:=sub r hn hsub
   omega
  |succ n ih=>
   intro f y r hy hf' hn hyl hsub hreach hclosed
   obtain⟨f,rfl⟩: ∃f',f=f'+1:=⟨f-1,by omega⟩
   have hl:=sub r hn hsub
   rw[F.cX]
   by_cases h:y<1+r.length
   ·obtain⟨cur,hcur⟩: ∃c,(from_.1::r)[y]?=some c:=⟨_,Qi (by rw[Ql];omega)⟩
    obtain⟨x,h1,h2,h3,h4⟩:=Qcx g S from_.2 cur E r
    have hsub2: ∀p∈r++x,∃e∈E,e.2.1=p:=fun p hp=>by
     rcases Qs.1 hp with hp|hp
     ·exact hsub p hp
     ·obtain⟨e,a,_,b,_⟩:=h2 p hp;exact⟨e,a,b⟩
    have hall: ∀k,(addR g S from_.2 cur (E.take k) r).length<=9000:=fun k=>by
     obtain⟨x',a,b,c,_⟩:=Qcx g S from_.2 cur (E.take k) r
     have:=sub (r++x') (c hn) fun p hp=>by
      rcases Qs.1 hp with hp|hp
      ·exact hsub p hp
      ·obtain⟨e,a2,_,b2,_⟩:=b p hp;exact⟨e,List.mem_of_mem_take a2,b2⟩
     rw[a];omega
    rw[Qc (by rw[Ql];omega),round_l3 g S E from_ _ y cur r hb hi hS (by omega) hf hcur (by omega) (by omega) hall,h1]
    have e1:(y:Int)+1=((y+1:Nat):Int):=by omega
    rw[e1]
    have hcr:cur=from_.1\/Rch (okE g S E from_.2) from_.1 cur:=by
     cases y with
     |zero=>injection hcur with hcur;exact .inl hcur.symm
     |succ y=>exact .inr (hreach cur (Qm (by simpa using hcur)))
    refine ih f (y+1) (r++x) (by omega) (by omega) (h3 hn) (by rw[Qq];omega) hsub2 (fun p hp=>?_) fun i p q hi2 hp hok=>?_
    ·rcases Qs.1 hp with hp|hp
     ·exact hreach p hp
     ·obtain⟨e,a,b,c,d2⟩:=h2 p hp
      rcases hcr with hcr|hcr
      ·exact .one ⟨e,a,b.trans hcr,c,d2⟩
      ·exact .step hcr ⟨e,a,b,c,d2⟩
    ·rw[<-Xa,Wg (by rw[Ql];omega)]at hp
     rcases X3 i y with h5|h5
     ·exact Q8 _ (hclosed i p q h5 hp hok)
     ·obtain rfl:i=y:=by omega
      rw[hcur]at hp;injection hp with hp;subst hp
      obtain⟨e,a,b,c,d2⟩:=hok
      rw[<-c];exact h4 e a b d2
   ·rw[Qb (by rw[Ql];omega),show F.dL r from_.1=_ from R_on_eq r from_.1 (by omega),Qa]
    refine⟨_,rfl,?_⟩
    rw[Qw]
    refine⟨hreach _,fun hr=>?_⟩
    have hin: ∀q,Rch (okE g S E from_.2) from_.1 q->q∈r:=fun q hq=>by
     induction hq with
     |one h6=>exact hclosed 0 _ _ (by omega) rfl h6
     |step h6 h7 ih2=>
      obtain⟨i,hi3⟩:=Wr.1 ih2
      have:=(Qd.1 hi3).1
      exact hclosed (i+1) _ _ (by omega) (by simpa using hi3) h7
    exact hin _ hr
 exact main 4002 A.FU 0 [] (by omega) (by have:=Qac;omega) Yc (by simp) (by simp) (by simp) (fun i p q h=>by omega)
abbrev Seen:=List (Pl×Bool)
def seen (m:Seen)(v:Pl):Prop:=Z.mget false m v=true
def addP (deep:List Sp)(from_:Pl)(dd:Int):List Pl->Seen->List Pl->Option (Seen×List Pl)
 | [],m,xs=>some (m,xs)
 |t::r,m,xs=>if t=from_ then none else if dd<=Z.mget 0 deep t/\Z.mget false m t=false then addP deep from_ dd r (Z.mins m t true) (xs++[t])else addP deep from_ dd r m xs
theorem reaches_l3 (deep:List Sp)(from_:Pl)(dd:Int)(k3:Seen->List Pl->Option Bool)(tos:List Pl)(m:Seen)(xs:List Pl)(hl:tos.length<=4000)(hx:xs.length<=10000):
  F.h k3 deep from_ dd tos A.FU m xs 0=match addP deep from_ dd tos m xs with
   |none=>some true
   |some s=>k3 s.1 s.2:=
 A.lp tos (fun f (s:Seen×List Pl) i=>F.h k3 deep from_ dd tos f s.1 s.2 i) (fun _ t s=>match addP deep from_ dd t s.1 s.2 with
   |none=>some true
   |some s=>k3 s.1 s.2) (fun k s=>s.2.length<=10000+k)
  (fun f s hs=>by rw[F.h,Qb (by omega),addP])
  (fun f s k t ht hk hs ih=>by
   rw[F.h,Qc (by omega),A.ixn ht,Qa,addP,A.lt]
   simp only[F.aI,F.aH,A.lt,A.gd1 (A.r64n (n:=k) (by omega)),Qu,Q9]
   by_cases h:t=from_
   ·rw[Qc (show t=from_ from h),Qc h]
   ·rw[Qb (show ¬t=from_ from h),Qb h]
    by_cases hd:dd<=Z.mget 0 deep t
    ·rw[Qc (show dd<=Z.mget 0 deep t from hd)]
     by_cases hm:Z.mget false s.1 t=false
     ·have hc:dd<=Z.mget 0 deep t/\Z.mget false s.1 t=false:=⟨hd,hm⟩
      rw[Qc hc,show Z.mget false s.1 t=false from hm,X0,Qc rfl,A.gd1 (by simp only[Ql,Q0];omega)]
      exact ih (Z.mins s.1 t true,s.2++[t]) (by simp only[Qq,Ql,Q0];omega)
     ·have hm2:Z.mget false s.1 t=true:=by cases h2:Z.mget false s.1 t with
       |true=>rfl
       |false=>exact absurd h2 hm
      have hc: ¬(dd<=Z.mget 0 deep t/\Z.mget false s.1 t=false):=fun h2=>hm h2.2
      rw[Qb hc,show Z.mget false s.1 t=true from hm2,Xm,Qb Wu]
      exact ih s (by omega)
    ·rw[Qb (show ¬dd<=Z.mget 0 deep t from hd),Qb (fun h2=>hd h2.1)]
     exact ih s (by omega))
  (by have:=Qac;omega) (m,xs) (by simp only[];omega)
def un (T:List Pl)(m:Seen):Nat:=(T.filter fun t=> !(Z.mget false m t)).length
theorem un_ins {T:List Pl}{m:Seen}{t:Pl}(ht:t∈T)(hm:Z.mget false m t=false):un T (Z.mins m t true)+1<=un T m:=by
 unfold un
 have mono: ∀(l:List Pl),(l.filter fun t'=> !(Z.mget false (Z.mins m t true) t')).length<=(l.filter fun t'=> !(Z.mget false m t')).length:=by
  intro l
  induction l with
  |nil=>exact Qp _
  |cons a l ih=>
   rw[X2,X2,Ui]
   by_cases e:a=t
   ·rw[Qc e,e,hm];simp only[Xm,Qu,Q9,X0,Xd,Ql];omega
   ·rw[Qb e];split<;>(try simp only[Ql])<;>omega
 induction T with
 |nil=>cases ht
 |cons a l ih=>
  rw[X2,X2,Ui]
  have:=mono l
  by_cases e:a=t
  ·rw[Qc e,e,hm];simp only[Xm,Qu,Q9,X0,Xd,Ql];omega
  ·have:=ih ((Qj.1 ht).resolve_left fun h=>e h.symm)
   rw[Qb e];split<;>(try simp only[Ql])<;>omega
theorem Qfh {deep:List Sp}{from_:Pl}{dd:Int}: ∀{tos:List Pl} {m:Seen} {xs:List Pl},addP deep from_ dd tos m xs=none->from_∈tos
 | [],_,_,h=>by cases h
 |t::r,m,xs,h=>by
  rw[addP]at h
  by_cases e:t=from_
  ·rw[e];exact Qg ..
  ·rw[Qb e]at h
   split at h
   ·exact Qe _ (Qfh h)
   ·exact Qe _ (Qfh h)
theorem Qdb {m:Seen}{t v:Pl}:seen (Z.mins m t true) v↔v=t\/seen m v:=by
 unfold seen
 rw[Ui]
 by_cases e:v=t
 ·rw[Qc e];simp[e]
 ·rw[Qb e];simp[e]
theorem addP_some {deep:List Sp}{from_:Pl}{dd:Int}{T:List Pl}: ∀{tos:List Pl} {m m':Seen} {xs xs':List Pl},(∀t∈tos,t∈T)->addP deep from_ dd tos m xs=some (m',xs')->
  from_∉tos/\(∀v,seen m v->seen m' v)/\(∀v,seen m' v->seen m v\/(v∈tos/\dd<=Z.mget 0 deep v))/\(∀t∈tos,dd<=Z.mget 0 deep t->seen m' t)/\(∀v∈xs,v∈xs')/\(∀v∈xs',v∈xs\/seen m' v)/\(∀v,seen m' v->seen m v\/v∈xs')/\xs'.length+un T m'<=xs.length+un T m
 | [],m,m',xs,xs',_,h=>by
  injection h with h;injection h with h1 h2;subst h1;subst h2
  exact⟨by simp,fun v h=>h,fun v h=>.inl h,by simp,fun v h=>h,fun v h=>.inl h,fun v h=>.inl h,Qp _⟩
 |t::r,m,m',xs,xs',hT,h=>by
  rw[addP]at h
  by_cases e:t=from_
  ·rw[Qc e]at h;cases h
  ·rw[Qb e]at h
   by_cases hc:dd<=Z.mget 0 deep t/\Z.mget false m t=false
   ·rw[Qc hc]at h
    obtain⟨a1,a2,a3,a4,a5,a6,a7,a8⟩:=addP_some (fun x hx=>hT x (Qe _ hx)) h
    have hun:=un_ins (hT t (Qg ..)) hc.2
    refine⟨fun h2=>(Qj.1 h2).elim (fun h3=>e h3.symm) a1,fun v hv=>a2 v (Qdb.2 (.inr hv)),fun v hv=>?_,fun x hx hdx=>?_,fun v hv=>a5 v (Q8 _ hv),fun v hv=>?_,fun v hv=>?_,by rw[Qq]at a8;simp only[Ql,Q0]at a8;omega⟩
    ·rcases a3 v hv with h2|h2
     ·rcases Qdb.1 h2 with rfl|h3
      ·exact .inr ⟨Qg ..,hc.1⟩
      ·exact .inl h3
     ·exact .inr ⟨Qe _ h2.1,h2.2⟩
    ·rcases Qj.1 hx with rfl|hx
     ·exact a2 _ (Qdb.2 (.inl rfl))
     ·exact a4 x hx hdx
    ·rcases a6 v hv with h2|h2
     ·rcases Qs.1 h2 with h2|h2
      ·exact .inl h2
      ·rw[Qo]at h2;subst h2;exact .inr (a2 _ (Qdb.2 (.inl rfl)))
     ·exact .inr h2
    ·rcases a7 v hv with h2|h2
     ·rcases Qdb.1 h2 with rfl|h3
      ·exact .inr (a5 _ (Qx _ (Qo.2 rfl)))
      ·exact .inl h3
     ·exact .inr h2
   ·rw[Qb hc]at h
    obtain⟨a1,a2,a3,a4,a5,a6,a7,a8⟩:=addP_some (fun x hx=>hT x (Qe _ hx)) h
    refine⟨fun h2=>(Qj.1 h2).elim (fun h3=>e h3.symm) a1,a2,fun v hv=>?_,fun x hx hdx=>?_,a5,a6,a7,a8⟩
    ·rcases a3 v hv with h2|h2
     ·exact .inl h2
     ·exact .inr ⟨Qe _ h2.1,h2.2⟩
    ·rcases Qj.1 hx with rfl|hx
     ·refine a2 _ ?_
      unfold seen
      cases h2:Z.mget false m x with
      |true=>rfl
      |false=>exact absurd ⟨hdx,h2⟩ hc
     ·exact a4 x hx hdx
def blk (g:List Nd)(dd:Int)(p:Pl):Prop:=(Z.mget ((0,0,[],(0,0,(ByteArray.mk #[])),(ByteArray.mk #[]),0,0):Nd) (mapOf g) p.1).2.1=14/\(Z.mget ((0,0,[],(0,0,(ByteArray.mk #[])),(ByteArray.mk #[]),0,0):Nd) (mapOf g) p.1).2.2.2.2.2.2=dd
def okP (g:List Nd)(steps:List (Pl×List Pl))(deep:List Sp)(dd:Int)(p q:Pl):Prop:=q∈Z.mget [] steps p/\¬blk g dd p/\dd<=Z.mget 0 deep q
theorem reaches_eq (g:List Nd)(a0:(List (Int×Nd))×(List Int)×(List (Int×Int)))(h0:a0.1=mapOf g)(steps:List (Pl×List Pl))(deep:List Sp)(from_:Pl)(dd:Int)(T:List Pl)(hT:T.length<=4000)(hst: ∀p q,q∈Z.mget [] steps p->q∈T)(hsl: ∀p,(Z.mget [] steps p).length<=4000)(hfd:dd<=Z.mget 0 deep from_):
  ∃b,F.aq a0 steps deep from_ dd=some b/\(b=true↔Rch (okP g steps deep dd) from_ from_):=by
 have main: ∀(n f:Nat) (m:Seen) (xs:List Pl),xs.length+un T m<=n->n<f->xs.length<=9000->xs.length+un T m<=9000->(∀v,seen m v->Rch (okP g steps deep dd) from_ v)->(∀t∈xs,t=from_\/seen m t)->(∀v,v=from_\/seen m v->v∉xs->∀w,okP g steps deep dd v w->w≠from_/\seen m w)->
   ∃b,F.i a0 steps deep from_ dd f m xs=some b/\(b=true↔Rch (okP g steps deep dd) from_ from_):=by
  intro n
  induction n with
  |zero=>
   intro f m xs hn hf hx900 _ i1 i2 i3
   obtain⟨f,rfl⟩: ∃f',f=f'+1:=⟨f-1,by omega⟩
   have hx:xs=[]:=Wf (by omega)
   subst hx
   rw[F.i,Qb (by simp)]
   refine⟨false,rfl,fun h=>(by cases h),fun h=>?_⟩
   have hin: ∀q,Rch (okP g steps deep dd) from_ q->q≠from_/\seen m q:=fun q hq=>by
    induction hq with
    |one h6=>exact i3 from_ (.inl rfl) (by simp) _ h6
    |step h6 h7 ih2=>exact i3 _ (.inr ih2.2) (by simp) _ h7
   exact absurd rfl (hin _ h).1
  |succ n ih=>
   intro f m xs hn hf hx900 hu900 i1 i2 i3
   obtain⟨f,rfl⟩: ∃f',f=f'+1:=⟨f-1,by omega⟩
   rw[F.i]
   by_cases hne:xs=[]
   ·subst hne
    rw[Qb (by simp)]
    refine⟨false,rfl,fun h=>(by cases h),fun h=>?_⟩
    have hin: ∀q,Rch (okP g steps deep dd) from_ q->q≠from_/\seen m q:=fun q hq=>by
     induction hq with
     |one h6=>exact i3 from_ (.inl rfl) (by simp) _ h6
     |step h6 h7 ih2=>exact i3 _ (.inr ih2.2) (by simp) _ h7
    exact absurd rfl (hin _ h).1
   ·obtain⟨ys,at_,rfl⟩: ∃ys a,xs=ys++[a]:=⟨xs.dropLast,xs.getLast hne,(List.dropLast_concat_getLast hne).symm⟩
    have hl:(ys++[at_]).length=ys.length+1:=by simp
    have e1:(((ys++[at_]).length:Int)-1)=(ys.length:Int):=by rw[hl];omega
    have hat:(ys++[at_])[ys.length]?=some at_:=by simp
    rw[Qc (by omega),A.gd1 ⟨by omega,by omega⟩,e1,A.ixn hat,Qa,A.gd1 ⟨by omega,by omega⟩,A.gd1 ⟨by omega,by rw[Wc];omega⟩,A.lt,F.bp,e1,Wc,A.ba,h0]
    have htake:List.take ys.length (ys++[at_])=ys:=by simp
    rw[htake]
    have hatr:at_=from_\/seen m at_:=i2 at_ (by simp)
    by_cases hb:blk g dd at_
    ·rw[Qc (show decide ((Z.mget ((0,0,[],(0,0,(ByteArray.mk #[])),(ByteArray.mk #[]),0,0):Nd) (mapOf g) at_.1).2.1=14/\(Z.mget ((0,0,[],(0,0,(ByteArray.mk #[])),(ByteArray.mk #[]),0,0):Nd) (mapOf g) at_.1).2.2.2.2.2.2=dd)=true from Qz hb)]
     refine ih f m ys (by omega) (by omega) (by omega) (by omega) i1 (fun t ht=>i2 t (Q8 _ ht)) fun v hv hvx w hw=>?_
     by_cases e:v=at_
     ·subst e;exact absurd hb hw.2.1
     ·exact i3 v hv (fun h=>by
       rcases Qs.1 h with h|h
       ·exact hvx h
       ·exact e (Qo.1 h)) w hw
    ·rw[Qb (show ¬decide ((Z.mget ((0,0,[],(0,0,(ByteArray.mk #[])),(ByteArray.mk #[]),0,0):Nd) (mapOf g) at_.1).2.1=14/\(Z.mget ((0,0,[],(0,0,(ByteArray.mk #[])),(ByteArray.mk #[]),0,0):Nd) (mapOf g) at_.1).2.2.2.2.2.2=dd)=true from fun h=>hb (by have h9:=Wa h;exact h9)),A.lt,show Z.mget [] steps at_=Z.mget [] steps at_ from rfl,reaches_l3 deep from_ dd _ _ m ys (hsl at_) (by omega)]
     cases hadd:addP deep from_ dd (Z.mget [] steps at_) m ys with
     |none=>
      have hfrom:=Qfh hadd
      have hok:okP g steps deep dd at_ from_:=⟨hfrom,hb,hfd⟩
      refine⟨true,rfl,fun _=>?_,fun _=>rfl⟩
      rcases hatr with h|h
      ·rw[h]at hok;exact .one hok
      ·exact .step (i1 at_ h) hok
     |some s=>
      obtain⟨m',xs'⟩:=s
      obtain⟨a1,a2,a3,a4,a5,a6,a7,a8⟩:=addP_some (T:=T) (hst at_) hadd
      simp only[]
      refine ih f m' xs' (by omega) (by omega) (by omega) (by omega) (fun v hv=>?_) (fun t ht=>?_) fun v hv hvx w hw=>?_
      ·rcases a3 v hv with h|h
       ·exact i1 v h
       ·have hok:okP g steps deep dd at_ v:=⟨h.1,hb,h.2⟩
        rcases hatr with h2|h2
        ·rw[h2]at hok;exact .one hok
        ·exact .step (i1 at_ h2) hok
      ·rcases a6 t ht with h|h
       ·rcases i2 t (Q8 _ h)with h2|h2
        ·exact .inl h2
        ·exact .inr (a2 t h2)
       ·exact .inr h
      ·have hv2:v=from_\/seen m v:=by
        rcases hv with h|h
        ·exact .inl h
        ·rcases a7 v h with h2|h2
         ·exact .inr h2
         ·exact absurd h2 hvx
       by_cases e:v=at_
       ·subst e
        exact⟨fun h=>a1 (h▸hw.1),a4 w hw.1 hw.2.2⟩
       ·obtain⟨h1,h2⟩:=i3 v hv2 (fun h=>by
         rcases Qs.1 h with h|h
         ·exact hvx (a5 v h)
         ·exact e (Qo.1 h)) w hw
        exact⟨h1,a2 w h2⟩
 have hu:un T []<=T.length:=X6 _ _
 exact main (1+T.length) A.FU [] [from_] (by simp;omega) (by have:=Qac;omega) (by simp) (by simp;omega) (fun v h=>by cases h) (fun t ht=>.inl (Qo.1 ht)) (fun v hv hx w hw=>by
  rcases hv with h|h
  ·exact absurd (Qo.2 h) hx
  ·cases h)
theorem mget_mem {p:Pl}: ∀{l:List Sp} {v:Int},(l.map (·.1)).Nodup->(p,v)∈l->Z.mget 0 l p=v
 | [],_,_,h=>by cases h
 |(a,w)::r,v,hn,h=>by
  rw[Q3,Ws]at hn
  unfold Z.mget
  rcases Qj.1 h with h|h
  ·injection h with h1 h2;rw[Qc h1,h2]
  ·rw[Qb (fun e=>hn.1 (by rw[<-e];exact List.mem_map_of_mem (f:=(·.1)) h))]
   exact mget_mem hn.2 h
theorem mhas_app {l:List Sp}{p:Pl}(h:p∉l.map (·.1)):Z.mhas l p=false:=by
 induction l with
 |nil=>rfl
 |cons a r ih=>
  rw[Q3,Qj,not_or]at h
  obtain⟨q,v⟩:=a
  unfold Z.mhas
  rw[Qb h.1];exact ih h.2
def toOf (E:List Ed)(p:Pl):List Pl:=(E.filter fun e=>decide (e.1=p)).map fun e=>e.2.1
theorem turns_l2 (a0:(List (Int×Nd))×(List Int)×(List (Int×Int)))(S:List Sp)(E:List Ed)(hE:E.length<=4000): ∃st,(∀p,Z.mget [] st p=toOf E p)/\F.r a0 S E A.FU [] 0=A.mrg (F.al a0 S st) (some false) S:=by
 have main: ∀(n k f:Nat) (m:List (Pl×List Pl)),k+n=E.length->n<f->(∀p,Z.mget [] m p=toOf (E.take k) p)->∃st,(∀p,Z.mget [] st p=toOf E p)/\F.r a0 S E f m (k:Int)=A.mrg (F.al a0 S st) (some false) S:=by
  intro n
  induction n with
  |zero=>
   intro k f m hk hf hm
   obtain⟨f,rfl⟩: ∃f',f=f'+1:=⟨f-1,by omega⟩
   rw[Xl (by omega)]at hm
   exact⟨m,hm,by rw[F.r,Qb (by omega)]⟩
  |succ n ih=>
   intro k f m hk hf hm
   obtain⟨f,rfl⟩: ∃f',f=f'+1:=⟨f-1,by omega⟩
   have hx:E[k]?=some E[k]:=Qi (by omega)
   generalize E[k]=x at hx
   have hlen:(Z.mget [] m x.1).length<=4000:=by
    rw[hm];unfold toOf
    rw[Wd]
    have:=X6 (fun e:Ed=>decide (e.1=x.1)) (E.take k)
    rw[Q4]at this;omega
   rw[F.r,Qc (by omega),A.ixn hx,Qa,A.gd1 (by rw[show Z.mget [] m x.1=Z.mget [] m x.1 from rfl];simp only[Ql,Q0];omega),A.gd1 (A.r64n (by omega))]
   refine ih (k+1) f _ (by omega) (by omega) fun p=>?_
   rw[show Z.mins m x.1 (Z.mget [] m x.1++[x.2.1])=Z.mins m x.1 (Z.mget [] m x.1++[x.2.1])from rfl,Ui,Qgb hx]
   unfold toOf
   rw[Jb,Wy,X2,List.filter_nil]
   by_cases e:p=x.1
   ·subst e
    rw[Qc rfl,hm,Qc (Qz rfl)];rfl
   ·rw[Qb e,hm,Qb (by simp only[Qw];exact fun h=>e h.symm),X9,Wm];rfl
 exact main E.length 0 A.FU [] (by omega) (by have:=Qac;omega) (fun p=>rfl)
theorem turns_l3 (g:List Nd)(a0:(List (Int×Nd))×(List Int)×(List (Int×Int)))(S:List Sp)(E:List Ed)(hS:S.length<=4000)(hn:(S.map (·.1)).Nodup)(hE:F.aE a0 g=some E):F.ab a0 g S A.FU [] 0=F.r a0 S E A.FU [] 0:=
 A.lp S (fun f (m:List Sp) i=>F.ab a0 g S f m i) (fun _ _ _=>F.r a0 S E A.FU [] 0) (fun k m=>m=S.take k)
  (fun f m hm=>by
   rw[Xl (Qp _)]at hm
   rw[F.ab,Qb (by omega),show F.aE a0 g=some E from hE,Qa,hm])
  (fun f m k x hx hk hm ih=>by
   rw[F.ab,Qc (by omega),A.ixn hx,Qa,A.gd1 (A.r64n (by omega))]
   refine ih _ ?_
   rw[show Z.mins m x.1 x.2=Z.mins m x.1 x.2 from rfl,Qij (mhas_app ?_),hm,Qgb hx]
   rw[hm]
   intro h
   rw[List.map_take]at h
   have hd:=hn
   rw[<-Ji k (S.map (·.1)),Wv]at hd
   refine hd.2.2 _ h _ ?_ rfl
   rw[<-List.map_drop,A.dropx hx,Q3];exact Qg ..)
  (by have:=Qac;omega) [] (by simp)
theorem nodeAt {g:List Nd}(hi:Inc g){n:Nd}(hn:n∈g)(z:Nd):Z.mget z (mapOf g) n.1=n/\find g n.1=(n,true):=by
 obtain⟨j,hj⟩:=Wr.1 hn
 exact⟨hi.mget hj,Qer hi hj⟩
theorem mem_st {g:List Nd}{d:List Int}{st:List (Pl×List Pl)}(hst: ∀p,Z.mget [] st p=toOf (Qah g d) p){p q:Pl}:q∈Z.mget [] st p↔∃e∈Qah g d,e.1=p/\e.2.1=q:=by
 rw[hst];unfold toOf
 constructor
 ·intro h
  obtain⟨e,h1,h2⟩:=Wi.1 h
  obtain⟨h3,h4⟩:=Jq.1 h1
  exact⟨e,h3,Wa h4,h2⟩
 ·rintro⟨e,h1,h2,h3⟩
  exact Wi.2 ⟨e,Jq.2 ⟨h1,Qz h2⟩,h3⟩
theorem nodup_S {g:List Nd}{d:List Int}(hi:Inc g)(ho:Own g):((spots g d).map (·.1)).Nodup:=Qdu d 0 g hi fun n hn=>in2 ho hn
theorem ok_iff {g:List Nd}{d:List Int}(hi:Inc g)(ho:Own g){dd:Int}{p q:Pl}:okE g (spots g d) (Qah g d) dd p q↔(∃e∈Qah g d,e.1=p/\e.2.1=q)/\dd<=Z.mget 0 (spots g d) q/\(¬blk g dd p\/p.2=2):=by
 have hN:=nodup_S (d:=d) hi ho
 have key: ∀e∈Qah g d,(Qch g (spots g d) dd e=true↔dd<=Z.mget 0 (spots g d) e.2.1/\(¬blk g dd e.1\/e.1.2=2)):=fun e he=>by
  obtain⟨v,hv⟩:=edge_to d he
  obtain⟨n,hn,h1⟩:=Qjy d he
  obtain⟨h2,h3⟩:=nodeAt hi hn ((0,0,[],(0,0,(ByteArray.mk #[])),(ByteArray.mk #[]),0,0):Nd)
  unfold Qch blk
  rw[mget_mem hN hv,atS_mem hN hv,h1,h3,h2,Qf,Qw,Xo,Xo,Qw,Qw,Qw]
  constructor
  ·rintro⟨a,(b|b)|b⟩
   ·exact⟨a,.inl fun h=>b h.1⟩
   ·exact⟨a,.inl fun h=>b h.2⟩
   ·exact⟨a,.inr b⟩
  ·rintro⟨a,b|b⟩
   ·by_cases c:n.2.1=14
    ·exact⟨a,.inl (.inr fun h=>b ⟨c,h⟩)⟩
    ·exact⟨a,.inl (.inl c)⟩
   ·exact⟨a,.inr b⟩
 constructor
 ·rintro⟨e,h1,h2,h3,h4⟩
  have:=(key e h1).1 h4
  rw[h2,h3]at this
  exact⟨⟨e,h1,h2,h3⟩,this⟩
 ·rintro⟨⟨e,h1,h2,h3⟩,h4⟩
  refine⟨e,h1,h2,h3,(key e h1).2 ?_⟩
  rw[h2,h3];exact h4
theorem rch_iff {g:List Nd}{d:List Int}{st:List (Pl×List Pl)}(hi:Inc g)(ho:Own g)(hst: ∀p,Z.mget [] st p=toOf (Qah g d) p){dd:Int}{a:Pl}:Rch (okP g st (spots g d) dd) a a↔Rch (okE g (spots g d) (Qah g d) dd) a a:=by
 have up: ∀{p q},okP g st (spots g d) dd p q->okE g (spots g d) (Qah g d) dd p q:=fun {p q} h=>
  (ok_iff hi ho).2 ⟨(mem_st hst).1 h.1,h.2.2,.inl h.2.1⟩
 have down: ∀{p q},okE g (spots g d) (Qah g d) dd p q->(p.2≠2\/¬blk g dd p)->okP g st (spots g d) dd p q:=fun {p q} h h2=>by
  obtain⟨h3,h4,h5⟩:=(ok_iff hi ho).1 h
  refine⟨(mem_st hst).2 h3,?_,h4⟩
  rcases h2 with h2|h2
  ·exact h5.resolve_right h2
  ·exact h2
 have blk_same: ∀{p q:Pl},p.1=q.1->(blk g dd p↔blk g dd q):=fun {p q} e=>by unfold blk;rw[e]
 constructor
 ·intro h
  have: ∀b,Rch (okP g st (spots g d) dd) a b->Rch (okE g (spots g d) (Qah g d) dd) a b:=fun b h=>by
   induction h with
   |one h=>exact .one (up h)
   |step _ h2 ih=>exact .step ih (up h2)
  exact this a h
 ·intro h
  have key: ∀b,Rch (okE g (spots g d) (Qah g d) dd) a b->Rch (okP g st (spots g d) dd) a b\/(a.2=2/\blk g dd a):=fun b h=>by
   induction h with
   |one h=>
    by_cases h2:a.2=2/\blk g dd a
    ·exact .inr h2
    ·exact .inl (.one (down h (by
      by_cases h3:a.2=2
      ·exact .inr fun h4=>h2 ⟨h3,h4⟩
      ·exact .inl h3)))
   | @step b c _ h2 ih=>
    rcases ih with ih|ih
    ·refine .inl (.step ih (down h2 ?_))
     by_cases h3:b.2=2
     ·refine .inr fun h4=>?_
      have hlast: ∃p,okP g st (spots g d) dd p b:=by cases ih with
       |one h=>exact⟨_,h⟩
       |step _ h=>exact⟨_,h⟩
      obtain⟨p,hp⟩:=hlast
      obtain⟨e,h5,h6,h7⟩:=(mem_st hst).1 hp.1
      have h8:=edge_out d ho h5 (by rw[h7];exact h3)
      rw[h6,h7]at h8
      exact hp.2.1 ((blk_same h8.1).2 h4)
     ·exact .inl h3
    ·exact .inr ih
  rcases key a h with h2|⟨h2,h3⟩
  ·exact h2
  ·have hlast: ∃p,okE g (spots g d) (Qah g d) dd p a:=by cases h with
    |one h=>exact⟨_,h⟩
    |step _ h=>exact⟨_,h⟩
   obtain⟨p,hp⟩:=hlast
   obtain⟨⟨e,h5,h6,h7⟩,_,h9⟩:=(ok_iff hi ho).1 hp
   have h8:=edge_out d ho h5 (by rw[h7];exact h2)
   rw[h6,h7]at h8
   rcases h9 with h9|h9
   ·exact absurd ((blk_same h8.1).2 h3) h9
   ·exact absurd h9 h8.2
theorem Qin {g:List Nd}(ho:Own g)(hg:g.length<=40)(d:List Int): ∀(m k:Nat),k+m=g.length->(Qbf g d k (g.drop k)).length<=83*m
 |0,k,h=>by rw[W6 (by omega)];exact Qp 0
 |m+1,k,h=>by
  have hx:g[k]?=some g[k]:=Qi (by omega)
  generalize g[k]=x at hx
  have h2:=in2 ho (Qm hx)
  have h3:=Qbx x.1 g fun x hx=>in2 ho hx
  have h4:=Qin ho hg d m (k+1) (by omega)
  rw[A.dropx hx,Qbf]
  split
  ·omega
  ·rw[Qq,Qq,Qku,outE,Wd];omega
theorem Qgx {g:List Nd}(ho:Own g)(d:List Int): ∀(k:Nat) (l:List Nd),(∀n∈l,n∈g)->∀sp∈spotsF g d k l,0<=sp.1.2/\sp.1.2<=2
 |_,[],_,_,h=>by cases h
 |k,n::r,hl,sp,h=>by
  have h2:=in2 ho (hl n (Qg ..))
  unfold spotsF at h
  rcases Qs.1 h with h|h
  ·have:=Qfn g d n.1 0 _ sp.1 sp.2 h;omega
  ·rcases Qs.1 h with h|h
   ·unfold outS at h
    split at h
    ·rw[Qo]at h;subst h;simp
    ·cases h
   ·exact Qgx ho d (k+1) r (fun x hx=>hl x (Qe _ hx)) sp h
theorem turns_same (g:List Nd)(d:List Int)(a0:(List (Int×Nd))×(List Int)×(List (Int×Int)))(h0:a0.1=mapOf g)(hb:Few g)(hi:Inc g)(hfed:Fed g)(ho:Own g)(hib:InB d)(hr:RelD g d a0.2.2)(hd:d.length=g.length):
  ∃b,F.a4 a0 g=some b/\(∀r5 r9,F.b3 g r5 r9 (spots g d) (Qah g d) A.FU 0=some (if b=true then([],[],81)else(r5.1,r9.1,0)))/\(b=true↔∃sp∈spots g d,Rch (okE g (spots g d) (Qah g d) sp.2) sp.1 sp.1):=by
 have hlen:=hb.1
 have hS:(spots g d).length<=120:=by
  have:=Qfb ho d g.length 0 (by omega);rw[Xc]at this;unfold spots;omega
 have hE:(Qah g d).length<=4000:=by
  have:=Qin ho hlen d g.length 0 (by omega);rw[Xc]at this;unfold Qah;omega
 have hN:=nodup_S (d:=d) hi ho
 have hok: ∀sp∈spots g d,SpOk g sp:=by
  have:=o_aS (d:=d) (g:=g) hib g.length 0 (by omega);rw[Xc]at this;exact this
 obtain⟨st,hst,hl2⟩:=turns_l2 a0 (spots g d) (Qah g d) hE
 have hto: ∀p q,q∈Z.mget [] st p->q∈(Qah g d).map fun e=>e.2.1:=fun p q h=>by
  obtain⟨e,h1,_,h3⟩:=(mem_st hst).1 h
  exact Wi.2 ⟨e,h1,h3⟩
 have htl: ∀p,(Z.mget [] st p).length<=4000:=fun p=>by
  rw[hst];unfold toOf;rw[Wd]
  exact Wb (X6 _ _) hE
 have hval: ∀sp∈spots g d,∃b,F.aq a0 st (spots g d) sp.1 sp.2=some b/\F.du g (spots g d) (Qah g d) sp=some b/\(b=true↔Rch (okE g (spots g d) (Qah g d) sp.2) sp.1 sp.1):=fun sp hsp=>by
  obtain⟨b,h1,h2⟩:=reaches_eq g a0 h0 st (spots g d) sp.1 sp.2 ((Qah g d).map fun e=>e.2.1) (by rw[Wd];exact hE) hto htl (by rw[mget_mem hN (p:=sp.1) (v:=sp.2) hsp];exact Je _)
  obtain⟨b',h3,h4⟩:=round_eq g (spots g d) (Qah g d) sp hb hi (by omega) hE (fun e he=>Qjy d he)
  refine⟨b,h1,?_,h2.trans (rch_iff hi ho hst)⟩
  rw[h3];congr 1
  rw[Y9,h4,h2]
  exact(rch_iff hi ho hst).symm
 let p:Sp->Bool:=fun sp=>(F.aq a0 st (spots g d) sp.1 sp.2).getD false
 have hp: ∀sp∈spots g d,(p sp=true↔Rch (okE g (spots g d) (Qah g d) sp.2) sp.1 sp.1):=fun sp hsp=>by
  obtain⟨b,h1,_,h3⟩:=hval sp hsp
  rw[show p sp=b from Wt (fun o=>Option.getD o false) h1];exact h3
 refine⟨(spots g d).any p,?_,fun r5 r9=>?_,?_⟩
 ·unfold F.a4
  rw[show F.a3 a0 g=_ from spotsP_eq g d a0 hb hfed ho hr,Qa,turns_l3 g a0 (spots g d) (Qah g d) (by omega) hN (edgesP_eq g d a0 hb hfed ho hib hr),hl2]
  have:=A.mrg_any (body:=F.al a0 (spots g d) st) (rest:=some false) (y:=true) (p:=p) (l:=spots g d) fun sp hsp=>by
   obtain⟨b,h1,_,_⟩:=hval sp hsp
   obtain⟨⟨j,n,hn,hid⟩,hdd⟩:=hok sp hsp
   have hng:=Qm hn
   have hids:=own_id (ho n hng)
   have hport:0<=sp.1.2/\sp.1.2<=2:=Qgx ho d 0 g (fun n hn=>hn) sp hsp
   unfold F.al
   have hh:decide (A.h6 sp.1.1)=true/\decide (A.h6 sp.1.2)=true:=⟨Qz (J0 ⟨by omega,by omega⟩),Qz (J0 ⟨by omega,by omega⟩)⟩
   rw[A.gd1 hh,show F.aq a0 st (spots g d) sp.1 sp.2=_ from h1,Qa,show p sp=b from Wt (fun o=>Option.getD o false) h1]
  rw[this]
  cases (spots g d).any p<;>rfl
 ·have loop:=A.lp0 (spots g d) (fun f y=>F.b3 g r5 r9 (spots g d) (Qah g d) f y) (fun _ t=>some (if t.any p=true then([],[],81)else(r5.1,r9.1,0)))
   (fun f=>by rw[F.b3,Qb (by omega)];rfl)
   (fun f k x hx hk ih=>by
    obtain⟨b,h1,h2,_⟩:=hval x (Qm hx)
    rw[F.b3,Qc (by omega),A.ixn hx,Qa,show F.du g (spots g d) (Qah g d) x=_ from h2,Qa,X8,show p x=b from Wt (fun o=>Option.getD o false) h1]
    cases b with
    |true=>rfl
    |false=>rw[Qb Wu,A.gd1 (A.r64n (by omega)),ih,Xz])
   (by have:=Qac;omega)
  exact loop
 ·rw[Y3]
  exact⟨fun⟨sp,h1,h2⟩=>⟨sp,h1,(hp sp h1).1 h2⟩,fun⟨sp,h1,h2⟩=>⟨sp,h1,(hp sp h1).2 h2⟩⟩
theorem own_of {g:List Nd}(h:okL g 0 0 g=true):Own g:=fun n hn=>by
 obtain⟨j,hj⟩:=Wr.1 hn
 have hL:=Qkk g g.length 0 (by omega)
 rw[Xc,show lastOf g 0=0 from rfl]at hL
 have:=hL.1 h j n (by omega) hj
 cases hq:ownQ n with
 |true=>rfl
 |false=>exact absurd (.inr (.inl hq)) this
theorem Qgf (g:List Nd): ∀(r:Nat) (done:List Bool) (l l':List Int),Qbv g r done l=some l'->Plc g l->Plc g l'
 |0,done,l,l',h,hp=>by injection h with h;subst h;exact hp
 |r+1,done,l,l',h,hp=>by
  rw[Qbv]at h
  by_cases hc:Qae g done 0 g (-1)<0
  ·rw[Qc hc]at h;cases h
  ·rw[Qb hc]at h
   by_cases hg:g.length=0
   ·have:=Qet g done 0 g (-1) (by omega)
    have e:g=[]:=Wf hg
    subst e
    simp[Qae]at hc
   ·have hle:=Qet g done 0 g (-1) (by omega) (by omega)
    refine Qgf g r _ _ l' h fun i p hip=>?_
    rw[Y1]at hip
    split at hip
    ·exact hp i p hip
    ·rename_i hil
     have:i-l.length=0:=by
      have:=(Qd.1 hip).1
      simp only[Ql,Q0]at this;omega
     rw[this]at hip
     injection hip with hip
     subst hip
     exact⟨(Qae g done 0 g (-1)).toNat,g[(Qae g done 0 g (-1)).toNat]'(by omega),by omega,Qi (by omega)⟩
structure Whole (g:List Nd) (l d:List Int) (dm:List (Int×Int)):Prop where
 inc:Inc g
 fed:Fed g
 own:Own g
 rel:RelD g d dm
 inb:InB d
 dlen:d.length=g.length
 key:KeyD g l dm
 plc:Plc g l
 llen:l.length=g.length
 ord:Qbv g g.length (List.replicate g.length false) []=some l
 dep:Qba g l (List.replicate g.length 0)=some d
 lps:Qbu g d g=true
 nort: ∀sp∈spots g d,¬Rch (okE g (spots g d) (Qah g d) sp.2) sp.1 sp.1
 kin:g.all (fun n=>n.2.2.1.all (inOk g))=true
 okr:okR g 0 g=true
 chk:g.all (fun n=>decide (chk n.2.1 n.2.2.2.1=0))=true
 l32:g.length<=32
theorem whole_same (g:List Nd)(hb:Few g):
  (∃e,e≠0/\F.bK g=some (none,e)/\F.da g=some ([],[],e))\/
  (∃l d dm,F.bK g=some (some (mapOf g,l.map (idAt g),dm),0)/\F.da g=some (l,d,0)/\Whole g l d dm):=by
 rw[whole_P g hb]
 unfold F.da
 rw[parts_eq g hb,ok_eq]
 by_cases h32:(32:Int)<(g.length:Int)
 ·rw[Qc h32,Qc h32]
  exact .inl ⟨80,by decide,rfl,rfl⟩
 rw[Qb h32,Qb h32]
 by_cases hok:okR g 0 g=true
 case neg=>rw[Qb hok,Qb hok];exact .inl ⟨80,by decide,rfl,rfl⟩
 rw[Qc hok,Qc hok]
 by_cases hfn:g.all (fun n=>decide (chk n.2.1 n.2.2.2.1=0))=true
 case neg=>rw[Qb hfn,Qb hfn];exact .inl ⟨60,by decide,rfl,rfl⟩
 rw[Qc hfn,Qc hfn]
 by_cases hin:g.all (fun n=>n.2.2.1.all (inOk g))=true
 case neg=>rw[Qb hin,Qb hin];exact .inl ⟨80,by decide,rfl,rfl⟩
 rw[Qc hin,Qc hin,Qa,Qb (by decide)]
 have hi:=ok_inc hok
 have hfed:=fed_of hin
 have ho:=own_of (by rw[ok_eq];exact hok)
 have hlen:=hb.1
 unfold sortP
 rcases order_sort hb hi hfed (mapOf g)with⟨l,h1,h2,h3,h4⟩|⟨h1,p,h2⟩
 case inr=>rw[h1,h2];exact .inl ⟨81,by decide,rfl,rfl⟩
 rw[h1,h2]
 simp only[Qa,Xm,Qu,Q9]
 have hplc:Plc g l:=Qgf g g.length _ [] l h4 fun i p h=>by cases h
 rcases Qkv g l hb hi hfed ho (by omega) hplc with⟨d,dm,d1,d2,d3,d4,d5,d6,d7,d8⟩|⟨d1,p,d2⟩
 case inr=>rw[d1,d2];exact .inl ⟨80,by decide,rfl,rfl⟩
 rw[d1,d2]
 simp only[Qa,Xm,Qu,Q9]
 obtain⟨b,t1,t2,t3⟩:=turns_same g d (mapOf g,l.map (idAt g),dm) rfl hb hi hfed ho d4 d3 d5
 rw[t1,spotsR_eq g d hb hfed ho d5]
 simp only[Qa]
 rw[edgesR_eq g d hb hi ho d4]
 simp only[Qa,t2]
 cases b with
 |true=>exact .inl ⟨81,by decide,rfl,rfl⟩
 |false=>exact .inr ⟨l,d,dm,rfl,rfl,hi,hfed,ho,d3,d4,d5,d6,hplc,h3,h4,d8,d7,fun sp h1 h2=>Bool.noConfusion (t3.2 ⟨sp,h1,h2⟩),hin,hok,hfn,by omega⟩
theorem check_same (g:List Nd)(hb:Graph.Few g): ∃e,F.cb g=some e/\F.dW g=some e:=by
 unfold F.cb F.dW
 rcases whole_same g hb with⟨e,h0,h1,h2⟩|⟨l,d,dm,h1,h2,W⟩
 ·rw[h1,h2];exact⟨e,rfl,rfl⟩
 ·rw[h1,h2];exact⟨0,rfl,rfl⟩
theorem clone_int (l:List Int)(h:l.length<=5000):F.aO l=some l:=by
 unfold F.aO
 rw[A.gd1 (by simp only[Q0];omega)];rfl
theorem set_same {α:Type}{l:List α}{k:Nat}{x:α}(h:l[k]?=some x):l.set k x=l:=by
 apply Xp
 intro i
 rw[List.getElem?_set]
 split
 ·rename_i e;subst e;split
  ·rw[h]
  ·rename_i h2;rw[Wx (by omega)]
 ·rfl
theorem Clone_eq (g:List Nd)(hg:g.length<=100)(h: ∀n∈g,n.2.2.1.length<=5000):F.cy g=some g:=by
 unfold F.cy F.am
 rw[A.gd1 (by simp only[Q0];omega),Qa]
 exact A.lp g (fun f (s:List Nd) y=>F.a6 g f s y) (fun _ _ s=>some s) (fun _ s=>s=g)
  (fun f s hs=>by rw[F.a6,Qb (by omega)])
  (fun f s k x hx hk hs ih=>by
   subst hs
   rw[F.a6,Qc (by omega),A.ixn hx,Qa,clone_int _ (h x (Qm hx)),Qa,Qa,A.gd1 (A.r64n (by omega))]
   rw[show(List.set s (k:Int).toNat x)=s from by rw[Wc];exact set_same hx]
   exact ih s rfl)
  (by have:=Qac;omega) g rfl
theorem IndexF_eq (g:List Nd)(id:Int)(hg:g.length<=100):F.m g id=some (idx g id):=
 A.lp0 g (fun f y=>F.c g id f y) (fun k l=>some (idxF id k l))
  (fun f=>by rw[F.c,Qb (by omega)];rfl)
  (fun f k x hx hk ih=>by
   rw[F.c,Qc (by omega),A.ixn hx,Qa,F.cN,Qa,idxF]
   by_cases h:x.1=id
   ·rw[Qc (Qz h),Qc h]
   ·rw[Qb (by rw[Xf];exact h),Qb h,A.gd1 (A.r64n (by omega)),ih])
  (by have:=Qac;omega)
def z39:Nd:=(0,0,[],(0,0,ByteArray.mk #[]),ByteArray.mk #[],0,0)
theorem Find_same (g:List Nd)(id:Int)(hb:Few g): ∃n b,F.cu g id=some (n,b)/\F.cE g id=some (n,b)/\n.2.2.1.length<=5000:=by
 have hlen:=hb.1
 unfold F.cu F.cE
 rw[IndexF_eq g id (by omega),Qbh g id (by omega),Qa,Qa]
 rcases Qbc z39 g id with⟨e,_⟩|⟨j,n,e,hn,_⟩
 ·rw[e]
  exact⟨z39,false,rfl,rfl,by decide⟩
 ·have hj:j<g.length:=(Qd.1 hn).1
  have hin:=hb.in hn
  have hcut:List.drop (j:Int).toNat (List.take ((j:Int)+1).toNat g)=[n]:=by
   rw[Wc,show((j:Int)+1).toNat=j+1 by omega,Yz,hn,List.drop_append]
   simp only[Q4,Option.toList]
   rw[X5 (by omega),Nat.sub_self,List.drop_of_length_le (by rw[Q4];omega)];rfl
  rw[e,Qb (by omega),Qb (by omega),A.gd1 (A.r64n (by omega)),A.gd1 (by omega),hcut,Clone_eq [n] (by simp) (by intro m hm;rw[Qo]at hm;rw[hm];exact hin),Qa,A.ixn hn,Qa,A.gd1 (by simp only[Q0];omega)]
  exact⟨n,true,rfl,rfl,hin⟩
end Go.Proofs.YtligcbdjiolamaaGreatDoor
end
section
namespace Go.Proofs.YtligcbdjiolamaaGreatDoor
open Go.RowKit Go.Graph Go.Utf Go.Ent
theorem insP_one {e:En}{k:Ky}(h1:num e=1): ∀{l:List En},Srt l->gv (insP e true l) k=if k=key e then 1 else gv l k
 | [],_=>by
  unfold insP gv gv
  by_cases hk:k=key e
  ·rw[Qc hk.symm,Qc hk];exact h1
  ·rw[Qb (fun h=>hk h.symm),Qb hk]
 |x::l,h=>by
  obtain⟨s1,s2⟩:=Q6.1 h
  unfold insP
  split
  ·rename_i hke
   unfold gv
   by_cases hk:k=key e
   ·rw[Qc (show key (upd x e true)=k from hke.trans hk.symm),Qc hk];rfl
   ·rw[Qb (show key (upd x e true)≠k from fun h=>hk (h.symm.trans hke)),Qb hk,Qb (fun h=>hk (h.symm.trans hke))]
  ·rename_i hke
   split
   ·rename_i hlt
    by_cases hk:k=key e
    ·conv=>lhs;unfold gv
     rw[Qc hk.symm,Qc hk];exact h1
    ·conv=>lhs;unfold gv
     rw[Qb (fun h=>hk h.symm),Qb hk]
   ·unfold gv
    by_cases hk:key x=k
    ·rw[Qc hk,Qc hk,Qb (fun h=>hke (hk.trans h))]
    ·rw[Qb hk,Qb hk];exact insP_one h1 s2
theorem insP_bd2 {e:En}{one:Bool}{l:List En}(h:Bd false l)(h1:1<=num e)(h2:num e<=1099511627776):Bd false (insP e one l):=by
 refine⟨insP_srt h.srt,fun x hx=>?_⟩
 rcases Qhl hx with rfl|hx|⟨y,hy,_,rfl⟩
 ·exact⟨h1,h2⟩
 ·exact h.b x hx
 ·have:=h.b y hy
  show 1<=(if one=true then 1 else min (num y+num e) 1099511627776)/\(if one=true then 1 else min (num y+num e) 1099511627776)<=1099511627776
  have h3:1<=num y/\num y<=1099511627776:=this
  cases one with
  |true=>simp
  |false=>simp only[Qu,Q9];omega
theorem putP_len {e:En}{one:Bool}(l:List En):(putP e one l).length<=l.length+1:=by
 have: ∀l:List En,(insP e one l).length<=l.length+1:=fun l=>by
  induction l with
  |nil=>simp[insP]
  |cons x l ih=>
   unfold insP
   split
   ·simp
   ·(split)
    ·simp
    ·simp only[Ql];omega
 unfold putP
 split
 ·omega
 ·exact this l
def tk (g:List Nd)(x:En):Option Bool:=match F.cu g x.1 with
 |some (n,true)=>if entOk n x=true then some (decide (n.2.1=16))else none
 |_=>none
theorem Qex {n:Nd}{x:En}(h:entOk n x=true):(n.2.1=11\/n.2.1=16)/\0<=num x/\num x<=1099511627776/\(n.2.1=16->num x=1):=by
 unfold entOk at h
 split at h
 ·cases h
 ·split at h
  ·rename_i h1
   simp only[Qf,Qw]at h
   exact⟨.inl h1,h.1.2,h.2,fun h2=>by omega⟩
  ·split at h
   ·rename_i h1
    simp only[Qf,Qw]at h
    have h2:num x=1:=h.1
    exact⟨.inr h1,by omega,by omega,fun _=>h2⟩
   ·cases h
theorem tk_num {g:List Nd}{x:En}{one:Bool}(h:tk g x=some one):0<=num x/\num x<=1099511627776/\(one=true->num x=1):=by
 unfold tk at h
 split at h
 ·split at h
  ·rename_i n _ h1
   injection h with h
   obtain⟨_,h2,h3,h4⟩:=Qex h1
   exact⟨h2,h3,fun h5=>h4 (Wa (h.trans h5))⟩
  ·cases h
 ·cases h
def stL (g:List Nd)(out:List En)(x:En):List En:=match tk g x with
 |none=>out
 |some one=>putP x one out
def stM (g:List Nd)(m:List (Ky×Int))(x:En):List (Ky×Int):=match tk g x with
 |none=>m
 |some one=>Z.mins m (key x) (if one=true then num x else min 1099511627776 (num x+Z.mget 0 m (key x)))
theorem stP_one (n:Nd)(x:En):stP n [x]=entOk n x:=by
 cases h:entOk n x with
 |true=>exact stP_iff.2 ⟨fun e he=>by rw[Qo.1 he];exact h,List.pairwise_singleton ..⟩
 |false=>
  cases h2:stP n [x]with
  |false=>rfl
  |true=>rw[(stP_iff.1 h2).1 x (Qo.2 rfl)]at h;cases h
structure TI (out:List En) (m:List (Ky×Int)):Prop where
 bd:Bd false out
 eq: ∀k,gv out k=Z.mget 0 m k
 nd:(m.map Prod.fst).Nodup
theorem TI.b {out:List En}{m:List (Ky×Int)}(h:TI out m)(k:Ky):0<=Z.mget 0 m k/\Z.mget 0 m k<=1099511627776:=by
 rw[<-h.eq];exact h.bd.gv k
theorem TI.nil:TI [] []:=⟨⟨List.Pairwise.nil,fun e he=>by cases he⟩,fun k=>rfl,Yc⟩
theorem TI.step {g:List Nd}{out:List En}{m:List (Ky×Int)}(h:TI out m)(x:En):TI (stL g out x) (stM g m x):=by
 unfold stL stM
 cases ht:tk g x with
 |none=>exact h
 |some one=>
  obtain⟨h1,h2,h3⟩:=tk_num ht
  dsimp only
  have hb:=h.b (key x)
  refine⟨?_,fun k=>?_,Z.mins_nodup h.nd _ _⟩
  ·unfold putP
   split
   ·exact h.bd
   ·exact insP_bd2 h.bd (by omega) h2
  ·rw[Ui]
   unfold putP
   by_cases h0:num x=0
   ·rw[Qc h0,h.eq]
    by_cases hk:k=key x
    ·rw[Qc hk,hk]
     cases one with
     |true=>have:=h3 rfl;omega
     |false=>simp only[Qu,Q9];omega
    ·rw[Qb hk]
   ·rw[Qb h0]
    cases one with
    |true=>rw[insP_one (h3 rfl) h.bd.srt,Qc rfl,h3 rfl,h.eq]
    |false=>
     rw[insP_gv h.bd (by omega) h2,h.eq]
     by_cases hk:k=key x
     ·rw[Qc hk,Qc hk,hk]
      simp only[Ent.cap,Qu,Q9]
      omega
     ·rw[Qb hk,Qb hk]
theorem TI.all {g:List Nd}: ∀(l:List En) {out:List En} {m:List (Ky×Int)},TI out m->TI (l.foldl (stL g) out) (l.foldl (stM g) m)
 | [],_,_,h=>h
 |x::l,_,_,h=>TI.all l (h.step x)
theorem stL_len (g:List Nd)(out:List En)(x:En):(stL g out x).length<=out.length+1:=by
 unfold stL
 split
 ·omega
 ·exact putP_len out
theorem Keeps_eq (k:Int):F.cO k=some (decide (k=11\/k=16)):=by rw[F.cO];simp only[A.bo]
theorem Qfz (g:List Nd)(l:List En)(hg:Few g)(hl:l.length<=100):F.s g l A.FU [] 0=F.ae (l.foldl (stM g) []) A.FU [] []:=by
 have hFU:=Qac
 refine A.lp l (fun f (m:List (Ky×Int)) y=>F.s g l f m y) (fun k r m=>F.ae (r.foldl (stM g) m) A.FU [] []) (fun k m=>∃out,TI out m) (fun f m _=>?_) (fun f m k x hx hk hp ih=>?_) (by omega) [] ⟨[],TI.nil⟩
 ·rw[F.s,Qb (by omega)];rfl
 ·obtain⟨out,hT⟩:=hp
  have ih':=ih (stM g m x) ⟨_,hT.step (g:=g) x⟩
  obtain⟨n,b,hf,_⟩:=Find_same g x.1 hg
  have skip: ∀r,tk g x=none->F.ba (F.s g l f) m (k:Int) x r true=F.ae ((l.drop (k+1)).foldl (stM g) (stM g m x)) A.FU [] []:=fun r ht=>by
   rw[F.ba,Qc rfl,F.bV,A.gd1 (A.r64n (by omega))]
   rw[show stM g m x=m by unfold stM;rw[ht]]at ih' ⊢
   exact ih'
  rw[F.s,Qc (by omega),A.ixn hx,Qa,hf,Qa]
  show(if(!b)=true then _ else _)=F.ae ((l.drop (k+1)).foldl (stM g) (stM g m x)) A.FU [] []
  cases b with
  |false=>rw[Qc (by rfl)];exact skip _ (by unfold tk;rw[hf])
  |true=>
   rw[Qb (by simp),Keeps_eq,Qa]
   by_cases hk2:n.2.1=11\/n.2.1=16
   ·rw[Qz hk2,Qb (by simp)]
    rw[show F.bI n [x]=some (if stP n [x]=true then 0 else 171)from Qik n [x] (by simp),Qa,stP_one]
    cases he:entOk n x with
    |false=>
     rw[Qb (by simp)]
     exact skip _ (by unfold tk;rw[hf];dsimp only;rw[he,Qb (by simp)])
    |true=>
     obtain⟨_,h1,h2,h3⟩:=Qex he
     have ht:tk g x=some (decide (n.2.1=16)):=by unfold tk;rw[hf];dsimp only;rw[he,Qc rfl]
     have hb:=hT.b (key x)
     rw[Qc rfl,F.ba,Qb (by simp)]
     have nx: ∀v,v=(if decide (n.2.1=16)=true then num x else min 1099511627776 (num x+Z.mget 0 m (key x)))->F.bA (F.s g l f) m (k:Int) x v=F.ae ((l.drop (k+1)).foldl (stM g) (stM g m x)) A.FU [] []:=fun v hv=>by
      rw[F.bA,F.bV,A.gd1 (A.r64n (by omega))]
      rw[show stM g m x=Z.mins m (key x) v by unfold stM;rw[ht,hv]]at ih' ⊢
      exact ih'
     by_cases h11:n.2.1=11
     ·rw[Qc h11]
      show A.gd (Z.R64 (num x+Z.mget 0 m (key x))) (F.bA (F.s g l f) m (k:Int) x (min 1099511627776 (num x+Z.mget 0 m (key x))))=_
      rw[A.gd1 ⟨by omega,by omega⟩]
      exact nx _ (by rw[We (by omega),Qb (by simp)])
     ·rw[Qb h11]
      have h16:n.2.1=16:=hk2.resolve_left h11
      exact nx _ (by rw[Qz h16,Qc rfl])
   ·rw[We hk2,Qc (by simp)]
    refine skip _ ?_
    unfold tk
    rw[hf]
    dsimp only
    rw[Qb]
    intro he
    exact hk2 (Qex he).1
theorem Qds (g:List Nd)(l:List En)(hg:Few g)(hl:l.length<=100)(hk: ∀x,x∈l->hasK (key x)):F.bu g l=(F.cb g).bind fun e=>some (if e≠0 then []else l.foldl (stL g) []):=by
 unfold F.bu
 congr 1
 funext e
 by_cases he:e=0
 ·rw[Qb (fun h=>h he),Qb (fun h=>h he),Qfz g l hg hl]
  have hT:=TI.all (g:=g) l TI.nil
  have keys: ∀(r:List En) (m:List (Ky×Int)) (c:Nat),(∀p,p∈m->hasK p.1)->m.length<=c->(∀x,x∈r->hasK (key x))->(∀p,p∈r.foldl (stM g) m->hasK p.1)/\(r.foldl (stM g) m).length<=c+r.length:=fun r=>by
   induction r with
   |nil=>intro m c h1 h2 _;exact⟨h1,h2⟩
   |cons x r ih=>
    intro m c h1 h2 h3
    have h4:(∀p,p∈stM g m x->hasK p.1)/\(stM g m x).length<=c+1:=by
     unfold stM
     split
     ·exact⟨h1,by omega⟩
     ·rename_i one ho
      refine⟨fun p hp=>?_,?_⟩
      ·have hm:p.1∈(Z.mins m (key x) _).map Prod.fst:=Wi.2 ⟨p,hp,rfl⟩
       rw[Z.mins_keys]at hm
       have h0:p.1∈m.map Prod.fst\/p.1=key x:=by
        split at hm
        ·exact .inl hm
        ·rcases Qs.1 hm with hm|hm
         ·exact .inl hm
         ·exact .inr (Qo.1 hm)
       rcases h0 with h0|h0
       ·obtain⟨q,hq,e1⟩:=Wi.1 h0
        rw[<-e1];exact h1 q hq
       ·rw[h0];exact h3 x (Qg ..)
      ·have hm:=Wt List.length (Z.mins_keys m (key x) (if one=true then num x else min 1099511627776 (num x+Z.mget 0 m (key x))))
       rw[Wd]at hm
       rw[hm]
       split
       ·rw[Wd];omega
       ·rw[Qq,Wd,Jk];omega
    obtain⟨h5,h6⟩:=ih (stM g m x) (c+1) h4.1 h4.2 fun y hy=>h3 y (Qe _ hy)
    exact⟨h5,by rw[Ql];show(r.foldl (stM g) (stM g m x)).length<=_;omega⟩
  obtain⟨k1,k2⟩:=keys l [] 0 (fun p hp=>by cases hp) (Qp _) hk
  obtain⟨L,h1,h2,h3⟩:=list_eq _ hT.nd k1 (by omega)
  rw[h1]
  congr 1
  exact nf_ext h2 hT.bd.nf fun k=>(h3 k).trans (hT.eq k).symm
 ·rw[Qc he,Qc he]
end Go.Proofs.YtligcbdjiolamaaGreatDoor
end
