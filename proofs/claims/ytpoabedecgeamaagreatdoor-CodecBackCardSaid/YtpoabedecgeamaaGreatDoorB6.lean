import Derived.Test.YtpoabedecgeamaaGreatDoorB5
import Derived.OpenShut
import Derived.ShutString
import Derived.ChangeOld
import Derived.ChangeArms
import Derived.DataReads
import Derived.Test.YtpoabedecgeamaaGreatDoorRows
import Derived.Test.YtpoabedecgeamaaGreatDoorTie
import Derived.Test.YtpoabedecgeamaaGreatDoorCards
import Derived.WalkKit
import Derived.ProofKit
import Derived.LaidMore
import Derived.Stop.Joined
import Derived.SevenTiedAt
import Derived.Lib.LaidIn
import Derived.Lib.LaidU8T
import Derived.PinnedBridge
import Derived.SizedLaws
set_option linter.defProp false
set_option maxRecDepth 20000
set_option linter.unusedVariables false
set_option linter.unusedSimpArgs false
set_option synthInstance.maxSize 1000000
set_option synthInstance.maxHeartbeats 400000
section
namespace Go.Proofs.YtpoabedecgeamaaGreatDoor
open Go.RowKit Go.Graph
def tail_eq (c:UInt8):F.dp c=some (tail5 c):=by
 unfold F.dp tail5;by_cases H:(128:Int)<=(c.toNat:Int)<;>by_cases J:(c.toNat:Int)<=191<;>simp[H,J]
def ixk (s:ByteArray)(p k:Nat):A.ix s.data.toList ((p:Int)+(k:Int))=if p+k<s.size then some (Z.bat s (p+k))else none:=by
 have e:(p:Int)+(k:Int)=((p+k:Nat):Int):=by omega
 rw[e];by_cases h:p+k<s.size;rw[Qc h];exact ixb h;rw[Qb h,A.ix_nat];exact Xb (by rw[Qdz];omega)
def wid (s:ByteArray)(p:Nat):Nat:=if Utf8.decode s p=(65533,1)then 0 else(Utf8.decode s p).2
def wid_le {s:ByteArray}{p:Nat}(h:p<s.size):p+wid s p<=s.size:=by
 unfold wid;split;omega
 ·rw[dec_at]
  unfold Lib.decodeN;repeat' split
  all_goals simp only[]
  all_goals omega
def widN (n a b c d:Nat):Nat:=
 if a<128 then 1
 else if(194<=a/\a<=223)/\2<=n/\(128<=b/\b<=191)then 2
 else if(224<=a/\a<=239)/\3<=n/\(128<=b/\b<=191)/\(128<=c/\c<=191)/\¬(a=224/\b<160)/\¬(a=237/\159<b)then 3
 else if(240<=a/\a<=244)/\4<=n/\(128<=b/\b<=191)/\(128<=c/\c<=191)/\(128<=d/\d<=191)/\¬(a=240/\b<144)/\¬(a=244/\143<b)then 4
 else 0
def pq (c:Prop)[Decidable c](x w:Nat)(H:w≠1):(if(if c then(x,w)else(65533,1))=(65533,1)then 0 else(if c then(x,w)else(65533,1)).2)=if c then w else 0:=by
 by_cases h:c<;>simp[h,H]
def widN_eq (n a b c d:Nat)(O:a<256)(V:b<256)(W:c<256)(Y:d<256):(if Lib.decodeN n a b c d=(65533,1)then 0 else(Lib.decodeN n a b c d).2)=widN n a b c d:=by
 unfold Lib.decodeN widN;by_cases H:a<128;simp only[H,Wx,Yy];rw[Qb (by omega)]
 ·simp only[H,Q5]
  by_cases J:a / 32=6/\1<n/\b / 64=2
  ·simp only[Qc J]
   rw[pq _ _ _ (by decide)];repeat' split
   all_goals omega
  ·simp only[Qb J]
   by_cases L:a / 16=14/\(1<n/\b / 64=2)/\2<n/\c / 64=2
   ·simp only[Qc L]
    rw[pq _ _ _ (by decide)];repeat' split
    all_goals omega
   ·simp only[Qb L]
    by_cases N:a / 8=30/\(1<n/\b / 64=2)/\(2<n/\c / 64=2)/\3<n/\d / 64=2
    ·simp only[Qc N]
     rw[pq _ _ _ (by decide)];repeat' split
     all_goals omega
    ·simp only[Qb N,Wx]
     repeat' split
     all_goals omega
def wid_N (s:ByteArray)(p:Nat):wid s p=widN (s.size-p) (Z.bat s p).toNat (Z.bat s (p+1)).toNat (Z.bat s (p+2)).toNat (Z.bat s (p+3)).toNat:=by
 rw[<-widN_eq _ _ _ _ _ (UInt8.toNat_lt _) (UInt8.toNat_lt _) (UInt8.toNat_lt _) (UInt8.toNat_lt _),<-dec_at];rfl
def cnd {α:Type}{p:Prop}[Decidable p](x y:α):(bif decide p then x else y)=if p then x else y:=by by_cases h:p<;>simp[h]
set_option maxHeartbeats 4000000 in
def width_eq (s:ByteArray)(p:Nat)(hp:p<s.size)(hs:s.size<=5000):F.ef s p=some (wid s p:Int):=by
 have i1:A.ix s.data.toList ((p:Int)+1)=if p+1<s.size then some (Z.bat s (p+1))else none:=ixk s p 1;have i2:A.ix s.data.toList ((p:Int)+2)=if p+2<s.size then some (Z.bat s (p+2))else none:=ixk s p 2;have i3:A.ix s.data.toList ((p:Int)+3)=if p+3<s.size then some (Z.bat s (p+3))else none:=ixk s p 3;have r1:Z.R64 ((p:Int)+1):=⟨by omega,by omega⟩;have r2:Z.R64 ((p:Int)+2):=⟨by omega,by omega⟩;have r3:Z.R64 ((p:Int)+3):=⟨by omega,by omega⟩;unfold F.ef;rw[A.gd1 ⟨by omega,by omega⟩,ixb hp,Qa,A.gd1 r1,i1,wid_N];generalize Z.bat s p=c0 at*;generalize Z.bat s (p+1)=c1 at*;generalize Z.bat s (p+2)=c2 at*;generalize Z.bat s (p+3)=c3 at*;have t (c:UInt8):tail5 c=decide (128<=c.toNat/\c.toNat<=191):=by unfold tail5;congr 1;exact propext ⟨λh=>by omega,λh=>by omega⟩
 by_cases h1:(1:Int)<(s.size:Int)-(p:Int);rw[Qc h1,Qc (by omega),Qa];simp only[F.dr,F.dq,F.cY,F.cw,tail_eq,Qa,t,A.gd1 r2,A.gd1 r3,i2,i3];unfold widN;generalize hn:s.size-p=n;have e2:((2:Int)<=(s.size:Int)-(p:Int))=(2<=n):=propext ⟨λh=>by omega,λh=>by omega⟩;have e3:((3:Int)<=(s.size:Int)-(p:Int))=(3<=n):=propext ⟨λh=>by omega,λh=>by omega⟩;have e4:((4:Int)<=(s.size:Int)-(p:Int))=(4<=n):=propext ⟨λh=>by omega,λh=>by omega⟩;have f2:(p+2<s.size)=(3<=n):=propext ⟨λh=>by omega,λh=>by omega⟩;have f3:(p+3<s.size)=(4<=n):=propext ⟨λh=>by omega,λh=>by omega⟩;have hn2:2<=n:=by omega
 simp only[e2,e3,e4,f2,f3,A.ba,Qq,hn2,and_true,true_and];have q0:((c0.toNat:Int)<128)=(c0.toNat<128):=propext ⟨λh=>by omega,λh=>by omega⟩;have q1:((194:Int)<=(c0.toNat:Int)/\(c0.toNat:Int)<=223)=(194<=c0.toNat/\c0.toNat<=223):=propext ⟨λh=>by omega,λh=>by omega⟩;have q2:((224:Int)<=(c0.toNat:Int)/\(c0.toNat:Int)<=239)=(224<=c0.toNat/\c0.toNat<=239):=propext ⟨λh=>by omega,λh=>by omega⟩;have q3:((240:Int)<=(c0.toNat:Int)/\(c0.toNat:Int)<=244)=(240<=c0.toNat/\c0.toNat<=244):=propext ⟨λh=>by omega,λh=>by omega⟩;have q4:((c0.toNat:Int)=224/\(c1.toNat:Int)<160)=(c0.toNat=224/\c1.toNat<160):=propext ⟨λh=>by omega,λh=>by omega⟩;have q5:((c0.toNat:Int)=237/\(159:Int)<(c1.toNat:Int))=(c0.toNat=237/\159<c1.toNat):=propext ⟨λh=>by omega,λh=>by omega⟩;have q6:((c0.toNat:Int)=240/\(c1.toNat:Int)<144)=(c0.toNat=240/\c1.toNat<144):=propext ⟨λh=>by omega,λh=>by omega⟩;have q7:((c0.toNat:Int)=244/\(143:Int)<(c1.toNat:Int))=(c0.toNat=244/\143<c1.toNat):=propext ⟨λh=>by omega,λh=>by omega⟩;simp only[q0,q1,q2,q3,q4,q5,q6,q7];have x1:240<=c0.toNat/\c0.toNat<=244->¬(224<=c0.toNat/\c0.toNat<=239):=λh W=>by omega
 have x2:240<=c0.toNat/\c0.toNat<=244->¬(194<=c0.toNat/\c0.toNat<=223):=λh W=>by omega
 have x3:224<=c0.toNat/\c0.toNat<=239->¬(194<=c0.toNat/\c0.toNat<=223):=λh W=>by omega
 by_cases K0:c0.toNat<128;simp[K0];by_cases J:128<=c1.toNat/\c1.toNat<=191;by_cases K1:194<=c0.toNat/\c0.toNat<=223;simp only[Qb K0,Qc K1,Qc J,K1,J,and_self,Wx];rfl;by_cases K2:224<=c0.toNat/\c0.toNat<=239;have K3: ¬(240<=c0.toNat/\c0.toNat<=244):=λh=>x1 h K2;by_cases H:3<=n;by_cases L:128<=c2.toNat/\c2.toNat<=191;by_cases N:c0.toNat=224/\c1.toNat<160;simp only[Qb K0,Qb K1,Qc (And.intro K2 H),Qc J,Qc H,Qa,Qc L,eq_true N,Wx,false_and,K1,K3,eq_true N,not_true_eq_false,and_false,Q5];rfl;by_cases V:c0.toNat=237/\159<c1.toNat;simp only[Qb K0,Qb K1,Qc (And.intro K2 H),Qc J,Qc H,Qa,Qc L,Qb N,eq_true V,Wx,false_and,K1,K3,eq_true V,not_true_eq_false,and_false,Q5];rfl;simp only[Qb K0,Qb K1,Qc (And.intro K2 H),Qc J,Qc H,Qa,Qc L,Qb N,Qb V,false_and,K1,K2,H,J,L,N,V,not_false_eq_true,and_self,Wx,Q5];rfl;simp only[Qb K0,Qb K1,Qc (And.intro K2 H),Qc J,Qc H,Qa,Qb L,Qb K3,false_and,K1,K3,L,and_false,Q5,Qv];rfl;simp only[Qb K0,Qb K1,H,and_false,Qb K3,false_and,K1,K3,Q5];rfl;by_cases K3:240<=c0.toNat/\c0.toNat<=244;by_cases O:4<=n;have H:3<=n:=by omega
 by_cases L:128<=c2.toNat/\c2.toNat<=191;by_cases Y:128<=c3.toNat/\c3.toNat<=191;by_cases N:c0.toNat=240/\c1.toNat<144;simp only[Qb K0,Qb K1,Qb K2,K2,false_and,Qc (And.intro K3 O),Qc J,Qc H,Qc O,Qa,Qc L,Qc Y,eq_true N,Wx,K1,eq_true N,not_true_eq_false,and_false,Q5];rfl;by_cases V:c0.toNat=244/\143<c1.toNat;simp only[Qb K0,Qb K1,Qb K2,K2,false_and,Qc (And.intro K3 O),Qc J,Qc H,Qc O,Qa,Qc L,Qc Y,Qb N,eq_true V,Wx,K1,eq_true V,not_true_eq_false,and_false,Q5];rfl;simp only[Qb K0,Qb K1,Qb K2,K2,false_and,Qc (And.intro K3 O),Qc J,Qc H,Qc O,Qa,Qc L,Qc Y,Qb N,Qb V,K1,K3,O,J,L,Y,N,V,not_false_eq_true,and_self,Wx,Q5];rfl;simp only[Qb K0,Qb K1,Qb K2,K2,false_and,Qc (And.intro K3 O),Qc J,Qc H,Qc O,Qa,Qc L,Qb Y,K1,Y,and_false,Q5,Qv];rfl;simp only[Qb K0,Qb K1,Qb K2,K2,false_and,Qc (And.intro K3 O),Qc J,Qc H,Qa,Qb L,K1,L,and_false,Q5,Qv];rfl;simp only[Qb K0,Qb K1,Qb K2,K2,false_and,O,and_false,K1,Q5];rfl;simp only[Qb K0,Qb K1,Qb K2,Qb K3,K1,K2,K3,false_and,Q5];rfl;simp[K0,J];rw[Qb h1];simp only[F.dr,F.dq,F.cY,F.cw,A.ba,Qq];unfold widN;have w0:(c0.toNat:Int)<128↔c0.toNat<128:=⟨λh=>by omega,λh=>by omega⟩;by_cases W:c0.toNat<128;rw[Qc (w0.2 W),Qc W];rfl;have a1: ¬((194<=c0.toNat/\c0.toNat<=223)/\2<=s.size-p/\128<=c1.toNat/\c1.toNat<=191):=λh=>by omega
 have a2: ¬((224<=c0.toNat/\c0.toNat<=239)/\3<=s.size-p/\(128<=c1.toNat/\c1.toNat<=191)/\(128<=c2.toNat/\c2.toNat<=191)/\¬(c0.toNat=224/\c1.toNat<160)/\¬(c0.toNat=237/\159<c1.toNat)):=λh=>by omega
 have a3: ¬((240<=c0.toNat/\c0.toNat<=244)/\4<=s.size-p/\(128<=c1.toNat/\c1.toNat<=191)/\(128<=c2.toNat/\c2.toNat<=191)/\(128<=c3.toNat/\c3.toNat<=191)/\¬(c0.toNat=240/\c1.toNat<144)/\¬(c0.toNat=244/\143<c1.toNat)):=λh=>by omega
 rw[Qb (λh=>W (w0.1 h)),Qb W,Qb a1,Qb a2,Qb a3];simp only[Qv,Q5];rw[Qb (λh=>by omega),Qb (λh=>by omega),Qb (λh=>by omega)];rfl
def vld (s:ByteArray):Nat->Nat->Bool
 |0,_=>true
 |n+1,p=>if p<s.size then(if wid s p=0 then false else vld s n (p+wid s p))else true
def cnt (s:ByteArray):Nat->Nat->Nat
 |0,_=>0
 |n+1,p=>if p<s.size then 1+cnt s n (p+(Utf8.decode s p).2)else 0
def wid_4 (s:ByteArray)(p:Nat):wid s p<=4:=by
 rw[wid_N];unfold widN;repeat' split
 all_goals omega
def wid_dec {s:ByteArray}{p:Nat}(h:wid s p≠0):(Utf8.decode s p).2=wid s p:=by
 unfold wid at h ⊢;split at h;exact absurd rfl h;rename_i H;rw[Qb H]
def Valid_eq (s:ByteArray)(J:s.size<=5000):F.eN s=some (vld s s.size 0):=by
 have loop: ∀(n p f:Nat),s.size-p<=n->n<f->p<=5010->F.ds s f (p:Int)=some (vld s n p):=by
  intro n;induction n with
  |zero=>
   intro p f hp L _;obtain⟨f,rfl⟩: ∃f',f=f'+1:=⟨f-1,by omega⟩;rw[F.ds,Qb (by omega)];rfl
  |succ n N=>
   intro p f hp L O;obtain⟨f,rfl⟩: ∃f',f=f'+1:=⟨f-1,by omega⟩;rw[F.ds,vld];by_cases h:p<s.size;rw[Qc (by omega),Qc h,width_eq s p h J,Qa];have:=wid_le h;by_cases H:wid s p=0;rw[Qc (by omega),Qc H];rw[Qb (by omega),Qb H,A.gd1 ⟨by omega,by omega⟩];have e:(p:Int)+(wid s p:Int)=((p+wid s p:Nat):Int):=by omega
   rw[e];exact N _ f (by omega) (by omega) (by omega);rw[Qb (by omega),Qb h]
 exact loop s.size 0 A.FU (by omega) (by have:=Qab;omega) (by omega)
def Qep (s:ByteArray):Lib.validD s.data.toList=vld s s.size 0:=by
 have loop: ∀(n p:Nat),Lib.validGoD n (s.data.toList.drop p)=vld s n p:=by
  intro n;induction n with
  |zero=>intro p;rfl
  |succ n N=>
   intro p;rw[Lib.validGoD,vld];by_cases h:p<s.size;have J:s.data.toList.drop p≠[]:=by rw[Qgn h];simp
   rw[Qb J,Qc h,Lib.decodeL_drop,Xj];by_cases H:Utf8.decode s p=(65533,1);rw[Qc (by rw[H];exact⟨rfl,rfl⟩),Qc (by unfold wid;rw[Qc H])];have e:wid s p=(Utf8.decode s p).2:=by unfold wid;rw[Qb H]
   rw[Qb (λL=>H (Prod.ext L.1 L.2)),Qb (by rw[e];have:=Qgw s p;omega),N,e];rw[Qc (Qgl h),Qb h]
 have:=loop s.size 0;rw[Wh]at this;exact this
def Runes_eq (s:ByteArray)(hs:s.size<=5000)(H:vld s s.size 0=true): ∃l,F.e1 s=some l/\l.length=cnt s s.size 0:=by
 have loop: ∀(n p f:Nat) (xs:List (Int×Int)),s.size-p<=n->n<f->xs.length<=p->p<=5010->vld s n p=true->∃l,F.a8 s f xs (p:Int)=some l/\l.length=xs.length+cnt s n p:=by
  intro n;induction n with
  |zero=>
   intro p f xs hp hf _ _ _;obtain⟨f,rfl⟩: ∃f',f=f'+1:=⟨f-1,by omega⟩;rw[F.a8,Qb (by omega)];exact⟨_,rfl,rfl⟩
  |succ n ih=>
   intro p f xs hp hf hxs hp5 H;obtain⟨f,rfl⟩: ∃f',f=f'+1:=⟨f-1,by omega⟩;rw[F.a8];rw[vld]at H;rw[cnt];by_cases h:p<s.size;rw[Qc h]at H;have hl:=wid_le h;have h4:=wid_4 s p;by_cases N:wid s p=0;rw[Qc N]at H;cases H;rw[Qb N]at H;have J: ∀(w c:Int),w=(wid s p:Int)->∃l,F.bW (F.a8 s f) xs (p:Int) w c=some l/\l.length=xs.length+(1+cnt s n (p+(Utf8.decode s p).2)):=λw c O=>by
    subst O;rw[F.bW,A.gd1 (by simp only[Qi,Ql];omega),A.gd1 ⟨by omega,by omega⟩,wid_dec N];have e:(p:Int)+(wid s p:Int)=((p+wid s p:Nat):Int):=by omega
    rw[e];obtain⟨l,V,W⟩:=ih (p+wid s p) f (xs++[((p:Int),c)]) (by omega) (by omega) (by simp only[Qd,Qi,Ql];omega) (by omega) H;exact⟨l,V,by rw[W,Qd];simp only[Qi,Ql];omega⟩
   have L:=ixb (s:=s) h;have Y:A.ix s.data.toList ((p:Int)+1)=if p+1<s.size then some (Z.bat s (p+1))else none:=ixk s p 1;have i2:A.ix s.data.toList ((p:Int)+2)=if p+2<s.size then some (Z.bat s (p+2))else none:=ixk s p 2;have i3:A.ix s.data.toList ((p:Int)+3)=if p+3<s.size then some (Z.bat s (p+3))else none:=ixk s p 3;have r1:Z.R64 ((p:Int)+1):=⟨by omega,by omega⟩;have r2:Z.R64 ((p:Int)+2):=⟨by omega,by omega⟩;have r3:Z.R64 ((p:Int)+3):=⟨by omega,by omega⟩;rw[Qc (by omega),Qc h,width_eq s p h hs,Qa];by_cases w1:wid s p=1;rw[Qc (by omega),L,Qa];exact J _ _ rfl;rw[Qb (by omega)];by_cases w2:wid s p=2;rw[Qc (by omega),A.gd1 r1,L,Qa,A.gd1 (by decide),Y,Qc (by omega),Qa,A.gd1 (by decide)];exact J _ _ rfl;rw[Qb (by omega)];by_cases w3:wid s p=3;rw[Qc (by omega),A.gd1 ⟨r1,r2⟩,L,Qa,A.gd1 (by decide),Y,Qc (by omega),Qa,A.gd1 (by decide),i2,Qc (by omega),Qa,A.gd1 (by decide)];exact J _ _ rfl;rw[Qb (by omega),Qc (by omega),A.gd1 ⟨r1,r2,r3⟩,L,Qa,A.gd1 (by decide),Y,Qc (by omega),Qa,A.gd1 (by decide),i2,Qc (by omega),Qa,A.gd1 (by decide),i3,Qc (by omega),Qa,A.gd1 (by decide)];exact J _ _ rfl;rw[Qb (by omega),Qb h];exact⟨_,rfl,rfl⟩
 obtain⟨l,V,W⟩:=loop s.size 0 A.FU [] (by omega) (by have:=Qab;omega) (by simp) (by omega) H;exact⟨l,V,by simpa using W⟩
def single_eq (s:ByteArray)(L:s.size<=9223372036854775807):F.ec s=some (if cnt s s.size 0=1 then vld s s.size 0 else false):=by
 have loop: ∀(n p f:Nat) (y:Int),s.size-p<=n->n<f->0<=y->y+n<=9223372036854775807->F.ci s f p y=some (if y+(cnt s n p:Int)=1 then vld s s.size 0 else false):=by
  intro n;induction n with
  |zero=>
   intro p f y hp H _ _;obtain⟨f,rfl⟩: ∃f',f=f'+1:=⟨f-1,by omega⟩;rw[F.ci,Qb (by omega),F.bH,Qep,Qa];simp only[F.cQ];have e:y+(cnt s 0 p:Int)=y:=by rw[cnt];omega
   by_cases h:y=1;rw[Qc h,Qc (by omega)];rw[Qb h,Qb (by omega)]
  |succ n J=>
   intro p f y hp H N O;obtain⟨f,rfl⟩: ∃f',f=f'+1:=⟨f-1,by omega⟩;rw[F.ci,cnt];by_cases h:p<s.size;rw[Qc h,Qc h,A.gd1 ⟨by omega,by omega⟩];have V:=Qgw s p;rw[J _ f (y+1) (by omega) (by omega) (by omega) (by omega)];congr 2;exact propext ⟨λh=>by omega,λh=>by omega⟩;rw[Qb h,Qb h,F.bH,Qep,Qa];simp only[F.cQ];by_cases h:y=1;rw[Qc h,Qc (by omega)];rw[Qb h,Qb (by omega)]
 unfold F.ec;rw[loop s.size 0 A.FU 0 (by omega) (by have:=Qab;omega) (by omega) (by omega)];congr 2;exact propext ⟨λh=>by omega,λh=>by omega⟩
def one_small {s:ByteArray}(H:cnt s s.size 0=1)(J:vld s s.size 0=true):s.size<=4:=by
 generalize O:s.size=n at H J;cases n with
 |zero=>omega
 |succ n=>
  rw[cnt,Qc (by omega)]at H;rw[vld,Qc (by omega)]at J;by_cases L:wid s 0=0;rw[Qc L]at J;cases J;rw[wid_dec L]at H;have:=wid_4 s 0;cases n with
  |zero=>omega
  |succ n=>
   rw[cnt]at H;by_cases N:0+wid s 0<s.size;rw[Qc N]at H;omega;omega
end Go.Proofs.YtpoabedecgeamaaGreatDoor
end
section
end
section
namespace Go.Proofs.YtpoabedecgeamaaGreatDoor
open Go.RowKit Go.Graph
def Qiw (f:Fun):Bool:=if f.1=5 then decide (f.2.2≠ByteArray.mk #[])&&decide ((f.2.2.size:Int)<=16)&&vld f.2.2 f.2.2.size 0 else if f.1=12\/f.1=22 then decide (cnt f.2.2 f.2.2.size 0=1)&&vld f.2.2 f.2.2.size 0 else decide (f.2.2=ByteArray.mk #[])
def Qhv (f:Fun):F.eb f=some (Qcx f):=by
 unfold F.eb F.dj F.di Qcx;simp only[A.ba,Qq];by_cases L:f.1=3;simp[L];by_cases H:f.1=13;simp[H];by_cases h6:f.1=6;simp[h6];by_cases J:f.1=11<;>simp[L,H,h6,J]
def Qgt (f:Fun):F.eY f=some (Qcx f):=Qhv f
def text_eq (f:Fun)(N:f.2.2.size<=9223372036854775807):F.eG f=some (Qiw f):=by
 unfold F.eG Qiw;simp only[F.dO,F.dP,A.ba,single_eq _ N,F.bH,Qep,Qa,Qq];by_cases L:f.1=5;simp only[L,Wx];by_cases O:f.2.2=ByteArray.mk #[]<;>by_cases V:(f.2.2.size:Int)<=16<;>simp[O,V];by_cases H:f.1=12;simp[H];by_cases J:f.1=22<;>simp[L,H,J]
def one_le {s:ByteArray}:(1:Int)<=(s.size:Int)↔s≠ByteArray.mk #[]:=by
 constructor;intro h e;subst e;exact absurd h (by decide);intro h;have:=Qfq h;omega
def Qil (f:Fun)(L:f.2.2.size<=5000):F.eI f=some (Qiw f):=by
 have hj: ∀y,F.dH f y=some (if y=true then decide (cnt f.2.2 f.2.2.size 0=1)&&vld f.2.2 f.2.2.size 0 else decide (f.2.2=ByteArray.mk #[])):=by
  intro y;unfold F.dH;simp only[F.d7,Valid_eq _ L,Qa];cases y with
  |false=>simp
  |true=>
   simp only[Wx];by_cases W:(f.2.2.size:Int)<=4;rw[Qc W];cases N:vld f.2.2 f.2.2.size 0 with
   |true=>
    obtain⟨l,H,O⟩:=Runes_eq f.2.2 L N;rw[Qc rfl,H,Qa,Xr];congr 2;rw[O];exact propext ⟨λh=>by omega,λh=>by omega⟩
   |false=>simp
   rw[Qb W];congr 1;cases N:vld f.2.2 f.2.2.size 0 with
   |false=>simp
   |true=>
    by_cases H:cnt f.2.2 f.2.2.size 0=1;have:=one_small H N;omega;simp[H]
 unfold F.eI Qiw;simp only[F.eE,hj,A.ba,Valid_eq _ L,Qa,Qq,one_le];by_cases Y:f.1=5;simp only[Y,Wx];by_cases H:f.2.2=ByteArray.mk #[]<;>by_cases O:(f.2.2.size:Int)<=16<;>simp[H,O];by_cases J:f.1=12;simp[J];by_cases V:f.1=22<;>simp[Y,J,V]
def anyF (f:Fun)(l:List Int):Int:=if l.any (λy=>decide (y=f.1)&&(Qcx f&&Qiw f))=true then 0 else 60
def kinds (k:Int):List Int:=if k=2 then [1,2,3,4,5,6,7,8]else if k=3 then [11,12,13]else if k=4 then [21,22]else if k=8 then [31,32,33,34]else if k=11 then [41,42]else []
def chk (k:Int)(f:Fun):Int:=if kinds k=[]then(if f=(0,0,ByteArray.mk #[])then 0 else 60)else anyF f (kinds k)
def chk_l (f:Fun)(H:f.2.2.size<=9223372036854775807): ∀l,F.bm f l=some (anyF f l)
 | []=>rfl
 |y::l=>by
  have J:=chk_l f H l;unfold F.bm;simp only[F.dd,Qhv,text_eq _ H,Qa,J,anyF,Xs];by_cases h:y=f.1;subst h;cases L:Qcx f<;>cases N:Qiw f<;>simp;simp[h]
def Qia (k:Int)(f:Fun)(H:f.2.2.size<=9223372036854775807):F.d1 k f=some (chk k f):=by
 have Y:F.bR 1 8=some [1,2,3,4,5,6,7,8]:=by kernel_rfl
 have u3:F.bR 11 13=some [11,12,13]:=by kernel_rfl
 have u4:F.bR 21 22=some [21,22]:=by kernel_rfl
 have u8:F.bR 31 34=some [31,32,33,34]:=by kernel_rfl
 have u11:F.bR 41 42=some [41,42]:=by kernel_rfl
 unfold F.d1 F.eT F.eF chk kinds;by_cases N:k=2;simp[N,Y,chk_l f H];by_cases O:k=3;simp[O,u3,chk_l f H];by_cases V:k=4;simp[V,u4,chk_l f H];by_cases W:k=8;simp[W,u8,chk_l f H];by_cases J:k=11;simp[J,u11,chk_l f H];simp only[N,O,V,W,J,Q5,Qa];rw[Qc (by decide),Qc trivial];by_cases L:f=(0,0,ByteArray.mk #[]);rw[Qb (λh=>h L),Qc L];rw[Qc L,Qb L]
def R06_l (f:Fun)(H:f.2.2.size<=5000)(l:List Int)(N:l.length<=100):F.bX f l A.FU 0=some (anyF f l):=
 A.lp0 l (λn y=>F.bX f l n y) (λ_ t=>some (anyF f t))
  (λn=>by rw[F.bX,Qb (by omega)];rfl)
  (λn k x J hk L=>by
   rw[F.bX,Qc (by omega),A.ixn J,Qa];simp only[F.dT,Qgt,Qil _ H,Qa,L,A.gd1 (A.r64n (n:=k) (by omega)),anyF,Xs];by_cases h:x=f.1;subst h;cases O:Qcx f<;>cases V:Qiw f<;>simp;simp[h])
  (by have:=Qab;omega)
def Qhk (k:Int)(f:Fun)(J:f.2.2.size<=5000):F.ey k f=some (chk k f):=by
 have Y:F.dt 2=some [1,2,3,4,5,6,7,8]:=by kernel_rfl
 have u3:F.dt 3=some [11,12,13]:=by kernel_rfl
 have u4:F.dt 4=some [21,22]:=by kernel_rfl
 have u8:F.dt 8=some [31,32,33,34]:=by kernel_rfl
 have u11:F.dt 11=some [41,42]:=by kernel_rfl
 have u0:F.cL 1 0=some []:=by kernel_rfl
 unfold F.ey chk kinds;by_cases N:k=2;subst N;rw[Y,Qa,Qb (by simp),F.bY,Qb (by simp),R06_l f J _ (by simp)];simp;by_cases O:k=3;subst O;rw[u3,Qa,Qb (by simp),F.bY,Qb (by simp),R06_l f J _ (by simp)];simp;by_cases V:k=4;subst V;rw[u4,Qa,Qb (by simp),F.bY,Qb (by simp),R06_l f J _ (by simp)];simp;by_cases W:k=8;subst W;rw[u8,Qa,Qb (by simp),F.bY,Qb (by simp),R06_l f J _ (by simp)];simp;by_cases H:k=11;subst H;rw[u11,Qa,Qb (by simp),F.bY,Qb (by simp),R06_l f J _ (by simp)];simp;have u:F.dt k=some []:=by unfold F.dt;simp only[N,O,V,W,H,Q5,u0]
 rw[u,Qa,Qc (by simp),F.bY,R06_l f J _ (by simp)];simp only[N,O,V,W,H,Q5,Wx,Qq,anyF,List.any_nil,Qv];by_cases L:f=(0,0,ByteArray.mk #[]);rw[Qc L,Qc L];rw[Qb L,Qb L]
end Go.Proofs.YtpoabedecgeamaaGreatDoor
end
section
end
section
namespace Go.Proofs.YtpoabedecgeamaaGreatDoor
open Go.RowKit Go.Graph
def Qad (g:List Nd):List (Int×Nd):=g.map λn=>(n.1,n)
def Inc (g:List Nd):Prop:=g.Pairwise λa b=>a.1<b.1
def Qey (z:Nd)(id:Int): ∀(k:Nat) (l:List Nd),(idxF id k l= -1/\(∀n∈l,n.1≠id)/\Z.mget z (Qad l) id=z/\Z.mhas (Qad l) id=false)\/(∃j n,idxF id k l=((k+j:Nat):Int)/\l[j]?=some n/\n.1=id/\Z.mget z (Qad l) id=n/\Z.mhas (Qad l) id=true)
 |k,[]=>.inl ⟨rfl,by simp,rfl,rfl⟩
 |k,x::r=>by
  unfold idxF Qad;simp only[Q0,Z.mget,Z.mhas];by_cases h:x.1=id;rw[Qc h,Qc h.symm,Qc h.symm];exact .inr ⟨0,x,rfl,rfl,h,rfl,rfl⟩;rw[Qb h,Qb (λe=>h e.symm),Qb (λe=>h e.symm)];rcases Qey z id (k+1) r with⟨H,J,L,N⟩|⟨j,n,H,J,L,N,V⟩
  refine .inl ⟨H,λn O=>?_,L,N⟩;rcases Qn.1 O with rfl|O
  exact h;exact J n O;exact .inr ⟨j+1,n,by rw[H];congr 1;omega,J,L,N,V⟩
def Qbo (z:Nd)(g:List Nd)(id:Int):(idx g id= -1/\(∀n∈g,n.1≠id)/\Z.mget z (Qad g) id=z/\Z.mhas (Qad g) id=false)\/(∃(j:Nat) (n:Nd),idx g id=(j:Int)/\g[j]?=some n/\n.1=id/\Z.mget z (Qad g) id=n/\Z.mhas (Qad g) id=true):=by
 have:=Qey z id 0 g;simp only[Xf]at this;exact this
def Inc.lt {g:List Nd}(h:Inc g){i j:Nat}{a b:Nd}(J:g[i]?=some a)(L:g[j]?=some b)(H:i<j):a.1<b.1:=by
 obtain⟨N,rfl⟩:=Qe.1 J;obtain⟨O,rfl⟩:=Qe.1 L;exact List.pairwise_iff_getElem.1 h i j N O H
def Inc.inj {g:List Nd}(h:Inc g){i j:Nat}{a b:Nd}(J:g[i]?=some a)(L:g[j]?=some b)(e:a.1=b.1):i=j:=by
 rcases Nat.lt_trichotomy i j with H|H|H
 have:=h.lt J L H;omega;exact H;have:=h.lt L J H;omega
def Inc.idx {g:List Nd}(h:Inc g){j:Nat}{n:Nd}(J:g[j]?=some n):Graph.idx g n.1=(j:Int):=by
 rcases Qbo z0 g n.1 with⟨_,H,_⟩|⟨i,m,L,H,N,_⟩
 exact absurd rfl (H n (Qg J));rw[L,h.inj H J N]
def Inc.mget {g:List Nd}(h:Inc g){j:Nat}{n z:Nd}(H:g[j]?=some n):Z.mget z (Qad g) n.1=n:=by
 rcases Qbo z g n.1 with⟨_,J,_⟩|⟨i,m,O,J,L,N,_⟩
 exact absurd rfl (J n (Qg H));have:=h.inj J H L;subst this;rw[J]at H;injection H with H;rw[N,H]
def Qbu (g:List Nd)(id:Int)(L:g.length<=100):F.dv g id=some (idx g id):=
 A.lp0 g (λf y=>F.du g id f y) (λk l=>some (idxF id k l))
  (λf=>by rw[F.du,Qb (by omega)];rfl)
  (λf k x H hk J=>by
   rw[F.du,Qc (by omega),A.ixn H,Qa,idxF];by_cases h:x.1=id;rw[Qc h,Qc h];rw[Qb h,Qb h,A.gd1 (A.r64n (by omega)),J])
  (by have:=Qab;omega)
def ownQ (n:Nd):Bool:=if n.1<1\/255<n.1\/insK n.2.1<0\/(n.2.2.1.length:Int)≠insK n.2.1 then false else if ownC n then false else if n.2.1=1\/n.2.1=15 then named n.2.2.2.2.1 else decide (n.2.2.2.2.1=ByteArray.mk #[])
def Qfd (k:Int):F.bb k=some (decide (k=1\/k=15)):=by
 unfold F.bb;rw[A.bo]
def gIns_eq (k:Int):F.dL k=some (insK k):=(Ins_eq k).trans (Qfi k)
def own_eq (n:Nd)(W:n.2.2.2.2.1.size<=9223372036854775807):F.dM n=some (ownQ n):=by
 have Y: ∀y,F.cP n y=some (if y=true then false else if ownC n then false else if n.2.1=1\/n.2.1=15 then named n.2.2.2.2.1 else decide (n.2.2.2.2.1=ByteArray.mk #[])):=by
  intro y;unfold F.cP F.cO ownC;cases y with
  |true=>simp
  |false=>
   simp only[Qv,Q5,A.bo,Qq,Qfd,Qa,named_eq _ W,A.bn];by_cases J:n.2.1=14;simp only[J,Wx,true_and,not_true_eq_false,ne_eq,false_and,or_false,Q5];by_cases H:n.2.2.2.2.2.1<1\/8<n.2.2.2.2.2.1\/n.2.2.2.2.2.2<1\/4<n.2.2.2.2.2.2;have hc':((n.2.2.2.2.2.1<1\/8<n.2.2.2.2.2.1)\/n.2.2.2.2.2.2<1)\/4<n.2.2.2.2.2.2:=by omega
   rw[Qc hc',Qc H];have hc': ¬(((n.2.2.2.2.2.1<1\/8<n.2.2.2.2.2.1)\/n.2.2.2.2.2.2<1)\/4<n.2.2.2.2.2.2):=by omega
   rw[Qb hc',Qb H];simp;simp only[J,Q5,false_and,not_false_eq_true,ne_eq,true_and,false_or,Wx];by_cases H: ¬n.2.2.2.2.2.1=0\/¬n.2.2.2.2.2.2=0;rw[Qc H,Qc H];rw[Qb H,Qb H];by_cases L:n.2.1=1\/n.2.1=15;rw[Qc L,Qc L];rw[Qb L,Qb L]
 unfold F.dM ownQ;simp only[gIns_eq,Qa,Y,A.bo,Qq,F.cO];by_cases N:n.1<1\/255<n.1;rw[Qc N,Qc (by omega)];rw[Qb N];by_cases O:insK n.2.1<0;rw[Qc O,Qc trivial,Qc (by omega)];rw[Qb O];by_cases V:(n.2.2.1.length:Int)≠insK n.2.1;rw[Qc V,Qc (by omega)];have hb: ¬(n.1<1\/255<n.1\/insK n.2.1<0\/(n.2.2.1.length:Int)≠insK n.2.1):=by omega
 rw[Qb V,Qb hb]
def twiceF (l:List Nd)(n:Nd):Bool:=l.any λx=>decide (x.2.1=n.2.1)&&decide (x.2.2.2.2.1=n.2.2.2.2.1)
def twice_eq (l:List Nd)(n:Nd)(V:l.length<=100):F.e l n=some (twiceF l n):=by
 have loop:F.a l n A.FU 0=some (if twiceF l n=true then(0:Int)else-1)\/∃i:Nat,F.a l n A.FU 0=some (i:Int)/\twiceF l n=true:=by
  have key: ∀(m k f:Nat),k+m=l.length->m<f->(twiceF (l.drop k) n=true/\∃i:Nat,F.a l n f (k:Int)=some (i:Int))\/(twiceF (l.drop k) n=false/\F.a l n f (k:Int)=some (-1)):=by
   intro m;induction m with
   |zero=>
    intro k f hk N;obtain⟨f,rfl⟩: ∃f',f=f'+1:=⟨f-1,by omega⟩;rw[F.a,Qb (by omega),Wg (by omega)];exact .inr ⟨rfl,rfl⟩
   |succ m O=>
    intro k f hk N;obtain⟨f,rfl⟩: ∃f',f=f'+1:=⟨f-1,by omega⟩;have L:l[k]?=some l[k]:=Qf (by omega);generalize l[k]=x at L;rw[F.a,Qc (by omega),A.ixn L,Qa,F.dI,Qa,A.ba,A.dropx L];by_cases h:x.2.1=n.2.1/\x.2.2.2.2.1=n.2.2.2.2.1;left;exact⟨by simp[twiceF,h.1,h.2],k,by rw[Qc (by simpa using h)]⟩;rw[Qb (by simpa using h),A.gd1 (A.r64n (by omega))];have e:twiceF (x::l.drop (k+1)) n=twiceF (l.drop (k+1)) n:=by
     simp only[twiceF,Xs];rw[<-Bool.decide_and,Wp h,Xt]
    rw[e];exact O (k+1) f (by omega) (by omega)
  rcases key l.length 0 A.FU (by omega) (by have:=Qab;omega)with⟨H,i,J⟩|⟨H,J⟩
  rw[Wh]at H;exact .inr ⟨i,J,H⟩;rw[Wh]at H;left;rw[H];exact J
 unfold F.e F.ah;rcases loop with h|⟨i,h,J⟩
 rw[show F.a l n A.FU 0=_ from h,Qa];cases twiceF l n<;>simp;rw[show F.a l n A.FU 0=_ from h,Qa,J];simp
def Qfr {κ α:Type}[DecidableEq κ]: ∀{m:List (κ×α)} {k:κ} {x:α},Z.mhas m k=false->Z.mins m k x=m++[(k,x)]
 | [],_,_,_=>rfl
 |(a,y)::r,k,x,h=>by
  simp only[Z.mhas]at h;by_cases hk:k=a;rw[Qc hk]at h;cases h;rw[Qb hk]at h;unfold Z.mins;rw[Qb hk,Qfr h];rfl
def mhas_mapOf {l:List Nd}{k:Int}(h: ∀n∈l,n.1≠k):Z.mhas (Qad l) k=false:=by
 rcases Qbo z0 l k with⟨_,_,_,H⟩|⟨j,n,_,J,H,_⟩
 exact H;exact absurd H (h n (Qg J))
def Qfo {α:Type}{l:List α}{k:Nat}{x:α}(h:l[k]?=some x):l.take (k+1)=l.take k++[x]:=by rw[List.take_add_one,h];rfl
def okL (g:List Nd):Nat->Int->List Nd->Bool
 |_,_,[]=>true
 |k,last,n::r=>if n.1<=last\/ownQ n=false\/((n.2.1=1\/n.2.1=15)/\twiceF (g.take k) n=true)then false else okL g (k+1) n.1 r
def whole_l6 (g:List Nd)(hg:g.length<=100)(hf: ∀x,x∈g->x.2.2.2.2.1.size<=9223372036854775807):F.aq g A.FU [] 0 0=if okL g 0 0 g=true then F.aN g (Qad g) A.FU 0 else some (none,80):=
 A.lp g (λf (s:List (Int×Nd)×Int) y=>F.aq g f s.1 s.2 y) (λk l s=>if okL g k s.2 l=true then F.aN g (Qad g) A.FU 0 else some (none,80)) (λk s=>s.1=Qad (g.take k)/\∀n∈g.take k,n.1<=s.2)
  (λf s hp=>by
   rw[F.aq,Qb (by omega),okL,Qc rfl,hp.1,Q7 (Q3 _)])
  (λf s k x O hk hp ih=>by
   obtain⟨hm,L⟩:=hp;have hown:=own_eq x (hf x (Qg O));have hj: ∀y,F.cc (F.aq g f) s.1 s.2 (k:Int) x y=if x.1<=s.2\/ownQ x=false\/y=true then some (none,80)else F.aq g f (Z.mins s.1 x.1 x) x.1 ((k:Int)+1):=by
    intro y;rw[F.cc];simp only[F.cT,Wx];by_cases N:x.1<=s.2;rw[Qc N,Qc (.inl N)];rw[Qb N,show F.dM x=_ from hown,Qa,A.gd1 (A.r64n (by omega))];cases ownQ x<;>cases y<;>simp[N]
   have hnew: ¬x.1<=s.2->F.aq g f (Z.mins s.1 x.1 x) x.1 ((k:Int)+1)=if okL g (k+1) x.1 (g.drop (k+1))=true then F.aN g (Qad g) A.FU 0 else some (none,80):=λN=>by
    rw[hm,Qfr (mhas_mapOf λn V e=>by have:=L n V;omega)];refine ih (Qad (g.take k)++[(x.1,x)],x.1) ⟨?_,λn V=>?_⟩;rw[Qfo O];simp[Qad];rw[Qfo O]at V;rcases Qw.1 V with W|W
    have:=L n W;simp only[];omega;rw[Qk]at W;subst W;exact Yz _
   rw[F.aq,Qc (by omega),A.ixn O,Qa,Qfd,Qa,okL];by_cases Y:x.2.1=1\/x.2.1=15;rw[Qc (by simpa using Y),A.gd1 ⟨by omega,by omega⟩,show((k:Int)).toNat=k from Q4 k,
    show F.e (List.take k g) x=_ from twice_eq (g.take k) x (by rw[Qp];omega),Qa,hj]
   by_cases H:x.1<=s.2\/ownQ x=false\/twiceF (g.take k) x=true;have J:x.1<=s.2\/ownQ x=false\/((x.2.1=1\/x.2.1=15)/\twiceF (g.take k) x=true):=by rcases H with h|h|h;exact .inl h;exact .inr (.inl h);exact .inr (.inr ⟨Y,h⟩)
   rw[Qc H,Qc J,Qb Q8];have J: ¬(x.1<=s.2\/ownQ x=false\/((x.2.1=1\/x.2.1=15)/\twiceF (g.take k) x=true)):=λh=>H (by rcases h with h|h|h;exact .inl h;exact .inr (.inl h);exact .inr (.inr h.2));rw[Qb H,Qb J];exact hnew λh=>H (.inl h);rw[Qb (by simpa using Y),hj];by_cases H:x.1<=s.2\/ownQ x=false;have J:x.1<=s.2\/ownQ x=false\/((x.2.1=1\/x.2.1=15)/\twiceF (g.take k) x=true):=by rcases H with h|h;exact .inl h;exact .inr (.inl h)
   rw[Qc (by rcases H with h|h;exact .inl h;exact .inr (.inl h)),Qc J,Qb Q8];have J: ¬(x.1<=s.2\/ownQ x=false\/((x.2.1=1\/x.2.1=15)/\twiceF (g.take k) x=true)):=λh=>H (by rcases h with h|h|h;exact .inl h;exact .inr h;exact absurd h.1 Y);rw[Qb (λh=>H (by rcases h with h|h|h;exact .inl h;exact .inr h;cases h)),Qb J];exact hnew λh=>H (.inl h))
  (by have:=Qab;omega) ([],0) ⟨rfl,by simp⟩
def whole_l5 (g:List Nd)(m:List (Int×Nd))(O:g.length<=100)(J: ∀x,x∈g->x.2.2.2.1.2.2.size<=9223372036854775807):F.aN g m A.FU 0=if g.all (λn=>decide (chk n.2.1 n.2.2.2.1=0))=true then F.ay g m A.FU 0 else some (none,60):=
 A.lp0 g (λf y=>F.aN g m f y) (λ_ l=>if l.all (λn=>decide (chk n.2.1 n.2.2.2.1=0))=true then F.ay g m A.FU 0 else some (none,60))
  (λf=>by rw[F.aN,Qb (by omega)];rfl)
  (λf k x H hk L=>by
   have h6:chk x.2.1 x.2.2.2.1≠0->chk x.2.1 x.2.2.2.1=60:=by
    intro h;unfold chk anyF at h ⊢;repeat' split
    all_goals first|rfl|(exfalso;simp_all;done)
   rw[F.aN,Qc (by omega),A.ixn H,Qa,show F.d1 x.2.1 x.2.2.2.1=_ from Qia x.2.1 x.2.2.2.1 (J x (Qg H)),Qa,Xi];by_cases h:chk x.2.1 x.2.2.2.1=0;rw[Qb (λN=>N h),A.gd1 (A.r64n (by omega)),L,Wl h,Xy];rw[Qc h,Wp h,Yr,Qb (by simp),h6 h])
  (by have:=Qab;omega)
def inOk (g:List Nd)(k:Int):Bool:=if idx g k<0 then false else decide ((at_ g (idx g k)).2.1≠15)
def sortP (g:List Nd)(m:List (Int×Nd)):Option ((Option ((List (Int×Nd))×(List Int)×(List (Int×Int))))×Int):=
 (F.a2 (m,[],[]) g).bind λr73=>(if(!r73.1)=true then(some (none,81))else((F.a1 r73.2).bind λr79=>(if(!r79.1)=true then(some (none,80))else((F.bJ r79.2 g).bind λr85=>(if r85=true then(some (none,81))else(some (some r79.2,0)))))))
def whole_l4 (g:List Nd)(hg:g.length<=100)(Y: ∀x,x∈g->x.2.2.1.length<=5000):F.ay g (Qad g) A.FU 0=if g.all (λn=>n.2.2.1.all (inOk g))=true then sortP g (Qad g)else some (none,80):=
 A.lp0 g (λf y=>F.ay g (Qad g) f y) (λ_ l=>if l.all (λn=>n.2.2.1.all (inOk g))=true then sortP g (Qad g)else some (none,80))
  (λf=>by rw[F.ay,Qb (by omega)];rfl)
  (λf k x O hk ih=>by
   rw[F.ay,Qc (by omega),A.ixn O,Qa];have hlen:=Y x (Qg O);have loop:=A.lp0 x.2.2.1 (λH y=>F.bK (F.ay g (Qad g) f) (Qad g) (k:Int) x H y) (λ_ l=>if l.all (inOk g)=true then F.ay g (Qad g) f ((k:Int)+1)else some (none,80))
    (λH=>by rw[F.bK,Qb (by omega),A.gd1 (A.r64n (by omega))];rfl)
    (λH j y hy hj2 J=>by
     rw[F.bK,Qc (by omega),A.ixn hy,Qa,A.lt,Xi];rcases Qbo ((0,0,[],(0,0,(ByteArray.mk #[])),(ByteArray.mk #[]),0,0):Nd) g y with⟨V,_,W,L⟩|⟨i,n,V,h2,W,L,h5⟩
     rw[W,L];have:inOk g y=false:=by unfold inOk;rw[Qc (by omega)]
     rw[this];simp;rw[L,h5];have e:inOk g y=decide (n.2.1≠15):=by unfold inOk;rw[Qb (by omega),Qbg V h2]
     rw[e,A.gd1 (A.r64n (by omega)),J];by_cases N:n.2.1=15<;>simp[N])
    (by have:=Qab;omega)
   rw[loop,ih,Xi];cases x.2.2.1.all (inOk g)with
   |true=>rw[Qc rfl,Xy]
   |false=>rw[Qb Q8,Yr,Qb Q8])
  (by have:=Qab;omega)
def whole_P (g:List Nd)(J:Few g):F.cH g=if(32:Int)<(g.length:Int)then some (none,80)else if okL g 0 0 g=true then(if g.all (λn=>decide (chk n.2.1 n.2.2.2.1=0))=true then(if g.all (λn=>n.2.2.1.all (inOk g))=true then sortP g (Qad g)else some (none,80))else some (none,60))else some (none,80):=by
 have L:=J.1;unfold F.cH;rw[whole_l6 g (by omega) (λx H=>Wq (J.2 x H).2.1 (by decide)),whole_l5 g _ (by omega) (λx H=>Wq (J.2 x H).2.2 (by decide)),whole_l4 g (by omega) (λx H=>(J.2 x H).1)]
def Named_eq (g:List Nd)(kd:Int)(s:ByteArray)(O:g.length<=100):F.e0 g kd s=some (Qcq kd s g):=
 A.lp0 g (λf y=>F.cX g kd s f y) (λ_ l=>some (Qcq kd s l))
  (λf=>by rw[F.cX,Qb (by omega)];rfl)
  (λf k x H hk L=>by
   rw[F.cX,Qc (by omega),A.ixn H,Qa,Qcq];simp only[F.en,A.ixn H,Qa,A.gd1 (A.r64n (n:=k) (by omega)),L,Qq,kind,name];by_cases J:x.2.1=kd;by_cases N:x.2.2.2.2.1=s<;>simp[J,N];simp[J])
  (by have:=Qab;omega)
def R_own_eq (g:List Nd)(i:Nat)(n:Nd)(Y:g[i]?=some n)(hg:g.length<=100)(hs:n.2.2.2.2.1.size<=5000):F.eU g (i:Int)=some (own g (i:Int) n):=by
 have hi:=(Qe.1 Y).1;have V:F.dS g n=some (ownT g n):=by
  unfold F.dS ownT;simp only[A.ba,Qq,Named_eq g _ _ hg,name_eq _ hs,Qa];by_cases h:n.2.1≠1/\n.2.1≠15;rw[Qc h,Qc h];rw[Qb h,Qb h];cases named n.2.2.2.2.1<;>rfl
 have W: ∀y,F.bt g n y=some (if y=true then false else if ownC n then false else ownT g n):=by
  intro y;unfold F.bt ownC;cases y with
  |true=>simp
  |false=>
   simp only[Qv,Q5,A.bo,Qq,V];by_cases O:n.2.1=14;simp only[O,Wx,true_and,not_true_eq_false,ne_eq,false_and,or_false];by_cases H:n.2.2.2.2.2.1<1\/8<n.2.2.2.2.2.1\/n.2.2.2.2.2.2<1\/4<n.2.2.2.2.2.2;rw[Qc (by omega),Qc H];rw[Qb (by omega),Qb H];simp only[O,Q5,false_and,not_false_eq_true,ne_eq,true_and,false_or];by_cases H: ¬n.2.2.2.2.2.1=0\/¬n.2.2.2.2.2.2=0;rw[Qc H,Qc H];rw[Qb H,Qb H]
 have tail:(if insK n.2.1<0 then F.bt g n true else F.bt g n (decide ((n.2.2.1.length:Int)≠insK n.2.1)))=some (if insK n.2.1<0\/(n.2.2.1.length:Int)≠insK n.2.1 then false else if ownC n then false else ownT g n):=by
  simp only[W,Qq];by_cases J:insK n.2.1<0;rw[Qc J,Qc trivial,Qc (.inl J)];by_cases L:(n.2.2.1.length:Int)≠insK n.2.1;rw[Qb J,Qc L,Qc (.inr L)];have N: ¬(insK n.2.1<0\/(n.2.2.1.length:Int)≠insK n.2.1):=λh=>h.elim J L;rw[Qb J,Qb L,Qb N]
 unfold F.eU own;rw[A.ixn Y,Qa];simp only[Qfi,Qa,A.bo,Qq];by_cases J:n.1<1\/255<n.1;rw[Qc J,W,Qc rfl,Qc (by omega)];rw[Qb J];by_cases h0:(0:Int)<(i:Int);rw[Qc h0,A.gd1 ⟨by omega,by omega⟩];have hp:g[i-1]?=some g[i-1]:=Qf (by omega);generalize g[i-1]=q at hp;have e:(i:Int)-1=((i-1:Nat):Int):=by omega
 rw[e,A.ixn hp,Qa,Qbg rfl hp];by_cases L:n.1<=q.1;rw[Qc L,W,Qc rfl,Qc (by omega)];rw[Qb L,tail];by_cases N:insK n.2.1<0\/(n.2.2.1.length:Int)≠insK n.2.1;rw[Qc N,Qc (by omega)];have H: ¬(n.1<1\/255<n.1\/(0:Int)<(i:Int)/\n.1<=q.1\/insK n.2.1<0\/(n.2.2.1.length:Int)≠insK n.2.1):=by omega
 rw[Qb N,Qb H];rw[Qb h0,tail];by_cases N:insK n.2.1<0\/(n.2.2.1.length:Int)≠insK n.2.1;rw[Qc N,Qc (by omega)];have H: ¬(n.1<1\/255<n.1\/(0:Int)<(i:Int)/\n.1<=(at_ g ((i:Int)-1)).1\/insK n.2.1<0\/(n.2.2.1.length:Int)≠insK n.2.1):=by omega
 rw[Qb N,Qb H]
def okR (g:List Nd):Nat->List Nd->Bool
 |_,[]=>true
 |k,n::r=>own g (k:Int) n&&okR g (k+1) r
def parts_l5 (g:List Nd)(J:g.length<=100)(L: ∀x,x∈g->x.2.2.2.2.1.size<=5000):F.c0 g A.FU 0=if okR g 0 g=true then F.bZ g A.FU 0 else some 80:=
 A.lp0 g (λf y=>F.c0 g f y) (λk l=>if okR g k l=true then F.bZ g A.FU 0 else some 80)
  (λf=>by rw[F.c0,Qb (by omega)];rfl)
  (λf k x H hk N=>by
   rw[F.c0,Qc (by omega),R_own_eq g k x H J (L x (Qg H)),Qa,A.gd1 (A.r64n (by omega)),N,okR];cases own g (k:Int) x<;>simp)
  (by have:=Qab;omega)
def parts_l4 (g:List Nd)(O:g.length<=100)(J: ∀x,x∈g->x.2.2.2.1.2.2.size<=5000):F.bZ g A.FU 0=if g.all (λn=>decide (chk n.2.1 n.2.2.2.1=0))=true then F.a9 g A.FU 0 else some 60:=
 A.lp0 g (λf y=>F.bZ g f y) (λ_ l=>if l.all (λn=>decide (chk n.2.1 n.2.2.2.1=0))=true then F.a9 g A.FU 0 else some 60)
  (λf=>by rw[F.bZ,Qb (by omega)];rfl)
  (λf k x H hk L=>by
   rw[F.bZ,Qc (by omega),A.ixn H,Qa,Qa,show F.ey x.2.1 x.2.2.2.1=_ from Qhk x.2.1 x.2.2.2.1 (J x (Qg H)),Qa,Xi];by_cases h:chk x.2.1 x.2.2.2.1=0;rw[Qb (λN=>N h),A.gd1 (A.r64n (by omega)),L,Wl h,Xy];rw[Qc h,Wp h,Yr,Qb (by simp)])
  (by have:=Qab;omega)
def idx_get {g:List Nd}{id:Int}(h:0<=idx g id): ∃n,g[(idx g id).toNat]?=some n/\at_ g (idx g id)=n/\n.1=id:=by
 rcases Qbo z0 g id with⟨H,_⟩|⟨i,n,H,J,L,_⟩
 omega;exact⟨n,by rw[H];exact J,Qbg H J,L⟩
def parts_l3 (g:List Nd)(V:g.length<=100)(W: ∀x,x∈g->x.2.2.1.length<=5000):F.a9 g A.FU 0=if g.all (λn=>n.2.2.1.all (inOk g))=true then some 0 else some 80:=
 A.lp0 g (λf y=>F.a9 g f y) (λ_ l=>if l.all (λn=>n.2.2.1.all (inOk g))=true then some 0 else some 80)
  (λf=>by rw[F.a9,Qb (by omega)];rfl)
  (λf k x J hk Y=>by
   rw[F.a9,Qc (by omega)];have hlen:=W x (Qg J);have loop:=A.lp0 x.2.2.1 (λL y=>F.cZ (F.a9 g f) g (k:Int) L y) (λ_ l=>if l.all (inOk g)=true then F.a9 g f ((k:Int)+1)else some 80)
    (λL=>by rw[F.cZ,A.ixn J,Qa,Qb (by omega),A.gd1 (A.r64n (by omega))];rfl)
    (λL j y hy hj2 N=>by
     rw[F.cZ,A.ixn J,Qa,Qc (by omega),Qa,A.ixn hy,Qa,Qbu g y V,Qa,Xi];simp only[F.eo,Wx,Qq,A.gd1 (A.r64n (n:=j) (by omega)),N];by_cases H:idx g y<0;have:inOk g y=false:=by unfold inOk;rw[Qc H]
     rw[Qc H,this];simp;obtain⟨n,h1,h2,_⟩:=idx_get (g:=g) (id:=y) (by omega);have e:inOk g y=decide (n.2.1≠15):=by unfold inOk;rw[Qb H,h2]
     rw[Qb H,A.ixg (by omega) h1,Qa,e];by_cases O:n.2.1=15<;>simp[O])
    (by have:=Qab;omega)
   rw[loop,Y,Xi];cases x.2.2.1.all (inOk g)with
   |true=>rw[Qc rfl,Xy]
   |false=>rw[Qb Q8,Yr,Qb Q8])
  (by have:=Qab;omega)
def lastOf (g:List Nd)(k:Nat):Int:=if k=0 then 0 else(at_ g ((k:Int)-1)).1
def BadP (g:List Nd)(k:Nat)(n:Nd):Prop:=n.1<=lastOf g k\/ownQ n=false\/((n.2.1=1\/n.2.1=15)/\twiceF (g.take k) n=true)
def Qfx {g:List Nd}{k:Nat}{n:Nd}(h:g[k]?=some n):lastOf g (k+1)=n.1:=by
 unfold lastOf;rw[Qb (by omega),Qbg (k:=k) (by omega) h]
def Qic (g:List Nd): ∀(m k:Nat),k+m=g.length->(okL g k (lastOf g k) (g.drop k)=true↔∀i n,k<=i->g[i]?=some n->¬BadP g i n)
 |0,k,h=>by
  rw[Wg (by omega),okL];exact⟨λ_ i n N H=>by have:=(Qe.1 H).1;omega,λ_=>rfl⟩
 |m+1,k,h=>by
  have J:g[k]?=some g[k]:=Qf (by omega);generalize g[k]=x at J;have O:=Qic g m (k+1) (by omega);rw[Qfx J]at O;rw[A.dropx J,okL];by_cases L:BadP g k x;have hb':x.1<=lastOf g k\/ownQ x=false\/((x.2.1=1\/x.2.1=15)/\twiceF (g.take k) x=true):=L;rw[Qc hb'];exact⟨λh=>(by cases h),λh=>absurd L (h k x (Q3 _) J)⟩;have hb': ¬(x.1<=lastOf g k\/ownQ x=false\/((x.2.1=1\/x.2.1=15)/\twiceF (g.take k) x=true)):=L;rw[Qb hb',O];refine⟨λh i n N H=>?_,λh i n N H=>h i n (by omega) H⟩;rcases Nat.eq_or_lt_of_le N with rfl|V
  rw[J]at H;injection H with H;subst H;exact L
  exact h i n V H
def Qiu (g:List Nd): ∀(m k:Nat),k+m=g.length->(okR g k (g.drop k)=true↔∀i n,k<=i->g[i]?=some n->own g (i:Int) n=true)
 |0,k,h=>by
  rw[Wg (by omega),okR];exact⟨λ_ i n L H=>by have:=(Qe.1 H).1;omega,λ_=>rfl⟩
 |m+1,k,h=>by
  have J:g[k]?=some g[k]:=Qf (by omega);generalize g[k]=x at J;have N:=Qiu g m (k+1) (by omega);rw[A.dropx J,okR,Qr,N];refine⟨λh i n L H=>?_,λh=>⟨h k x (Q3 _) J,λi n L H=>h i n (by omega) H⟩⟩;rcases Nat.eq_or_lt_of_le L with rfl|O
  rw[J]at H;injection H with H;subst H;exact h.1
  exact h.2 i n O H
def inc_of {g:List Nd}(h: ∀i n,g[i]?=some n->lastOf g i<n.1):Inc g:=by
 unfold Inc;have key: ∀(d i:Nat) (a b:Nd),g[i]?=some a->g[i+d+1]?=some b->a.1<b.1:=by
  intro d;induction d with
  |zero=>intro i a b J H;have:=h _ b H;rw[Qfx J]at this;exact this
  |succ d N=>
   intro i a b J H;have hl:=(Qe.1 H).1;have L:g[i+d+1]?=some g[i+d+1]:=Qf (by omega);have h1:=N i a _ J L;have O:=h _ b H;rw[show i+(d+1)+1=(i+d+1)+1 by omega,Qfx L]at O;omega
 refine List.pairwise_iff_getElem.2 λi j V W Y=>?_;refine key (j-i-1) i _ _ (Qf V) ?_;rw[show i+(j-i-1)+1=j by omega];exact Qf W
def Qda (kd:Int)(s:ByteArray): ∀(l:List Nd),(∃(j:Nat) (n:Nd),l[j]?=some n/\n.2.1=kd/\n.2.2.2.2.1=s/\(Qcq kd s l)=(n.1,true)/\∀(i:Nat) (m:Nd),i<j->l[i]?=some m->¬(m.2.1=kd/\m.2.2.2.2.1=s))\/(Qcq kd s l=(0,false)/\∀m∈l,¬(m.2.1=kd/\m.2.2.2.2.1=s))
 | []=>.inr ⟨rfl,by simp⟩
 |x::r=>by
  unfold Qcq;by_cases h:x.2.1=kd/\x.2.2.2.2.1=s;rw[Qc h];exact .inl ⟨0,x,rfl,h.1,h.2,rfl,λi m N=>by omega⟩;have h': ¬(kind x=kd/\name x=s):=h;rw[Qb h'];rcases Qda kd s r with⟨j,n,J,L,O,V,W⟩|⟨J,L⟩
  refine .inl ⟨j+1,n,J,L,O,V,λi m N H=>?_⟩;cases i with
  |zero=>injection H with H;subst H;exact h
  |succ i=>exact W i m (by omega) H
  refine .inr ⟨J,λm H=>?_⟩;rcases Qn.1 H with rfl|H
  exact h;exact L m H
def Qgx {l:List Nd}{n:Nd}:twiceF l n=true↔∃m∈l,m.2.1=n.2.1/\m.2.2.2.2.1=n.2.2.2.2.1:=by
 simp only[twiceF,Yx,Qr,Qq]
def own_iff {g:List Nd}(hi:Inc g){k:Nat}{n:Nd}(V:g[k]?=some n)(Y:lastOf g k<n.1):own g (k:Int) n=true↔¬BadP g k n:=by
 have hname:(n.2.1=1\/n.2.1=15)->((Qcq n.2.1 n.2.2.2.2.1 g).1=n.1↔¬twiceF (g.take k) n=true):=λ_=>by
  rcases Qda n.2.1 n.2.2.2.2.1 g with⟨j,m,H,L,N,h4,h5⟩|⟨_,L⟩
  rw[h4];have hjk:j<=k:=by
   rcases X9 k j with h|h
   exact absurd ⟨rfl,rfl⟩ (h5 k n h V);exact h
  constructor;intro he O;have:j=k:=hi.inj H V he;subst this;obtain⟨q,hq,h6⟩:=Qgx.1 O;obtain⟨i,J⟩:=Wr.1 hq;rw[X7]at J;split at J;rename_i W;exact h5 i q W J h6;cases J;intro O;rcases X9 j k with h|h
  exact absurd (Qgx.2 ⟨m,Wr.2 ⟨j,by rw[X7,Qc h];exact H⟩,L,N⟩) O;obtain rfl:j=k:=by omega
  rw[V]at H;injection H with H;rw[H]
  exact absurd ⟨rfl,rfl⟩ (L n (Qg V))
 have hprev: ¬((0:Int)<(k:Int)/\n.1<=(at_ g ((k:Int)-1)).1):=λh=>by
  unfold lastOf at Y;rw[Qb (by omega)]at Y;omega
 unfold own BadP ownQ;by_cases H:n.1<1\/255<n.1\/insK n.2.1<0\/(n.2.2.1.length:Int)≠insK n.2.1;rw[Qc (by omega),Qc H];exact⟨λh=>(by cases h),λh=>absurd (.inr (.inl rfl)) h⟩;have hc: ¬(n.1<1\/255<n.1\/(0:Int)<(k:Int)/\n.1<=(at_ g ((k:Int)-1)).1\/insK n.2.1<0\/(n.2.2.1.length:Int)≠insK n.2.1):=by omega
 rw[Qb hc,Qb H];by_cases L:ownC n;rw[Qc L,Qc L];exact⟨λh=>(by cases h),λh=>absurd (.inr (.inl rfl)) h⟩;rw[Qb L,Qb L];unfold ownT;by_cases N:n.2.1=1\/n.2.1=15;rw[Qb (by omega),Qc N,Qr,Qq,hname N];constructor;rintro⟨a,b⟩ (h|h|h);omega;rw[a]at h;cases h;exact b h.2;intro h;refine⟨?_,λO=>h (.inr (.inr ⟨N,O⟩))⟩;cases hq:named n.2.2.2.2.1 with
 |true=>rfl
 |false=>exact absurd (.inr (.inl hq)) h
 rw[Qc (by omega),Qb N];constructor;rintro a (h|h|h);omega;rw[a]at h;cases h;exact N h.1;intro h;cases hq:decide (n.2.2.2.2.1=ByteArray.mk #[])with
 |true=>rfl
 |false=>exact absurd (.inr (.inl hq)) h
def own_last {g:List Nd}{k:Nat}{n:Nd}(h:own g (k:Int) n=true):lastOf g k<n.1:=by
 unfold own at h;by_cases H:n.1<1\/255<n.1\/(0:Int)<(k:Int)/\n.1<=(at_ g ((k:Int)-1)).1\/insK n.2.1<0\/(n.2.2.1.length:Int)≠insK n.2.1;rw[Qc H]at h;cases h;unfold lastOf;split<;>omega
def ok_eq (g:List Nd):okL g 0 0 g=okR g 0 g:=by
 have L:=Qic g g.length 0 (by omega);have N:=Qiu g g.length 0 (by omega);rw[Wh]at L N;rw[show lastOf g 0=0 from rfl]at L;rw[Yc,L,N];constructor;intro h i n _ H;have J: ∀i n,g[i]?=some n->lastOf g i<n.1:=λi n H=>by
  have:=h i n (by omega) H;exact Int.lt_of_not_ge λO=>this (.inl O)
 exact(own_iff (inc_of J) H (J i n H)).2 (h i n (by omega) H);intro h i n _ H;have J: ∀i n,g[i]?=some n->lastOf g i<n.1:=λi n H=>own_last (h i n (by omega) H);exact(own_iff (inc_of J) H (J i n H)).1 (h i n (by omega) H)
def ok_inc {g:List Nd}(h:okR g 0 g=true):Inc g:=by
 have H:=Qiu g g.length 0 (by omega);rw[Wh]at H;exact inc_of λi n J=>own_last (H.1 h i n (by omega) J)
def parts_eq (g:List Nd)(J:Few g):F.eO g=if(32:Int)<(g.length:Int)then some 80 else if okR g 0 g=true then(if g.all (λn=>decide (chk n.2.1 n.2.2.2.1=0))=true then(if g.all (λn=>n.2.2.1.all (inOk g))=true then some 0 else some 80)else some 60)else some 80:=by
 have L:=J.1;unfold F.eO;rw[parts_l5 g (by omega) (λx H=>(J.2 x H).2.1),parts_l4 g (by omega) (λx H=>(J.2 x H).2.2),parts_l3 g (by omega) (λx H=>(J.2 x H).1)]
def fed_of {g:List Nd}(h:g.all (λn=>n.2.2.1.all (inOk g))=true):Fed g:=λx J k hk=>by
 have H:=Wy.1 (Wy.1 h x J) k hk;unfold inOk at H;by_cases L:idx g k<0;rw[Qc L]at H;cases H;omega
def bset_len {l:List Bool}{i:Nat}:(l.set i true).length=l.length:=List.length_set
def bget_get {l:List Bool}{i:Nat}(h:i<l.length):l[i]?=some (bget l (i:Int)):=by
 unfold bget;rw[Q4,Qf h];rfl
def bix {l:List Bool}{i:Int}(H:0<=i)(h:i<l.length):A.ix l i=some (bget l i):=by
 have e:i=((i.toNat:Nat):Int):=by omega
 rw[e];exact A.ixn (bget_get (by omega))
def iix {l:List Int}{i:Int}(H:0<=i)(h:i<l.length):A.ix l i=some (iget l i):=by
 refine A.ixg H ?_;unfold iget;rw[Qf (by omega)];rfl
def ready_eq (g:List Nd)(n:Nd)(done:List Bool)(L:g.length<=100)(W:done.length=g.length)(Y:n.2.2.1.length<=5000)(N: ∀k∈n.2.2.1,0<=idx g k):F.eP g n done=some (ready g done n):=
 A.lp0 n.2.2.1 (λf y=>F.c1 g n done f y) (λk l=>some (Qhf g done n.2.1 l))
  (λf=>by rw[F.c1,Qb (by omega)];rfl)
  (λf k x J hk O=>by
   have V:=N x (Qg J);have h2:=(idx_le g x).2;rw[F.c1,Qc (by omega),Qhf];simp only[F.ep,A.gd1 (A.r64n (n:=k) (by omega)),O];by_cases H:n.2.1=14;simp[H]
   ·rw[Qc H,A.ixn J,Qa,Qbu g x L,Qa,bix V (by omega),Qa]
    cases bget done (idx g x)<;>simp[H])
  (by have:=Qab;omega)
def order_l3 (g:List Nd)(W:Few g)(hfed:Fed g)(L:List Bool->List Int->Option (List Int×Bool))(done:List Bool)(l:List Int)(hd:done.length=g.length)(hl:l.length<=100):
  F.b0 L g done l A.FU (-1) 0=if Qah g done 0 g (-1)<0 then some ([],false)else L (done.set (Qah g done 0 g (-1)).toNat true) (l++[Qah g done 0 g (-1)]):=
 A.lp g (λf (a:Int) y=>F.b0 L g done l f a y) (λk t a=>if Qah g done k t a<0 then some ([],false)else L (done.set (Qah g done k t a).toNat true) (l++[Qah g done k t a])) (λk a=> -1<=a/\a<g.length)
  (λf a hp=>by
   rw[F.b0,A.ba,Qb (by simp),Qah];by_cases h:a<0;rw[Qc h,Qc h];rw[Qb h,Qb h,bix (by omega) (by omega),Qa,A.gd1 (by simp only[Qi,Ql];omega)])
  (λf a k x N hk hp O=>by
   have hlen:=W.1;rw[F.b0,A.ba,Qc (by simp;omega),Qah];simp only[F.dU,F.eq,A.gd1 (A.r64n (n:=k) (by omega)),Qv,Q5];by_cases h:a<0
   ·by_cases H:bget done (k:Int)=true
    ·have e:(if(a<0/\bget done (k:Int)=false)/\ready g done x=true then(k:Int)else a)=a:=Qb (by rw[H];simp)
     rw[e,Qc h,bix (by omega) (by omega),Qa,H];simp only[W9,Qv,Q5];exact O a hp
    ·rw[Bool.not_eq_true]at H
     have J:F.eP g x done=some (ready g done x):=ready_eq g x done (by omega) hd (W.in N) (hfed x (Qg N));by_cases V:ready g done x=true
     ·have e:(if(a<0/\bget done (k:Int)=false)/\ready g done x=true then(k:Int)else a)=k:=Qc ⟨⟨h,H⟩,V⟩
      rw[e,Qc h,bix (by omega) (by omega),Qa,H];simp only[Xu,Wx,A.ixn N,Qa];rw[J,Qa,Qc V];exact O k (by omega)
     ·have e:(if(a<0/\bget done (k:Int)=false)/\ready g done x=true then(k:Int)else a)=a:=Qb (λY=>V Y.2)
      rw[e,Qc h,bix (by omega) (by omega),Qa,H];simp only[Xu,Wx,A.ixn N,Qa];rw[J,Qa,Qb V];exact O a hp
   ·have e:(if(a<0/\bget done (k:Int)=false)/\ready g done x=true then(k:Int)else a)=a:=Qb (λY=>h Y.1.1)
    rw[e,Qb h];exact O a hp)
  (by have:=Qab;have:=W.1;omega) (-1) (by omega)
def ordR (g:List Nd)(r:Nat)(done:List Bool)(l:List Int):List Int×Bool:=match Qbz g r done l with
 |some l'=>(l',true)
 |none=>([],false)
def order_l4 (g:List Nd)(H:Few g)(hfed:Fed g): ∀(r f:Nat) (done:List Bool) (l:List Int),r<f->l.length+r=g.length->done.length=g.length->F.dw g f done l=some (ordR g r done l)
 |0,f,done,l,L,N,J=>by
  obtain⟨f,rfl⟩: ∃f',f=f'+1:=⟨f-1,by omega⟩;rw[F.dw,Qb (by omega)];rfl
 |r+1,f,done,l,L,N,J=>by
  obtain⟨f,rfl⟩: ∃f',f=f'+1:=⟨f-1,by omega⟩;have:=H.1;rw[F.dw,Qc (by omega),order_l3 g H hfed _ done l J (by omega),ordR,Qbz];by_cases h:Qah g done 0 g (-1)<0;rw[Qc h,Qc h];rw[Qb h,Qb h,order_l4 g H hfed r f _ _ (by omega) (by simp only[Qd,Qi,Ql];omega) (by rw[bset_len];exact J)];rfl
def R_order_eq (g:List Nd)(H:Few g)(hfed:Fed g):F.eg g=some (ordR g g.length (List.replicate g.length false) []):=by
 have:=H.1;unfold F.eg;rw[A.gd1 (by omega),order_l4 g H hfed g.length A.FU _ [] (by have:=Qab;omega) (by simp) (by simp)]
def Qef (m:List (Int×Bool))(n:Nd):Bool:=n.2.2.1.all λk=>Z.mget false m k||decide (n.2.1=14)
def Qgd (m:List (Int×Bool)):List Nd->Option Nd
 | []=>none
 |n::r=>if Z.mget false m n.1=false/\Qef m n=true then some n else Qgd m r
def sortS (g:List Nd):Nat->List (Int×Bool)->List Int->List Int
 |0,_,xs=>xs
 |r+1,m,xs=>match Qgd m g with
  |some n=>sortS g r (Z.mins m n.1 true) (xs++[n.1])
  |none=>sortS g r m xs
abbrev PlR:=Option (Bool×((List (Int×Nd))×(List Int)×(List (Int×Int))))
def sort_l4 (g:List Nd)(J:Few g)(k29:List Int->List (Int×Bool)->Int->PlR)(xs:List Int)(m:List (Int×Bool))(y:Int)(W:xs.length<=100)(hy:0<=y/\y<=100):
  F.aa k29 g xs m y A.FU 0=match Qgd m g with
   |some n=>k29 (xs++[n.1]) (Z.mins m n.1 true) (y+1)
   |none=>k29 xs m (y+1):=
 A.lp0 g (λf i=>F.aa k29 g xs m y f i) (λ_ l=>match Qgd m l with
   |some n=>k29 (xs++[n.1]) (Z.mins m n.1 true) (y+1)
   |none=>k29 xs m (y+1))
  (λf=>by rw[F.aa,Qb (by omega),F.bg,A.gd1 ⟨by omega,by omega⟩];rfl)
  (λf k x V hk Y=>by
   have hlen:=J.1;have hin:=J.in V;rw[F.aa,Qc (by omega),A.ixn V,Qa,A.lt,Qgd];have loop:=A.lp0 x.2.2.1 (λL j=>F.aW k29 (F.aa k29 g xs m y f) xs m y (k:Int) x L j) (λ_ l=>if l.all (λk=>Z.mget false m k||decide (x.2.1=14))=true then k29 (xs++[x.1]) (Z.mins m x.1 true) (y+1)else F.aa k29 g xs m y f ((k:Int)+1))
    (λL=>by rw[F.aW,Qb (by omega),A.gd1 (by simp only[Qi,Ql];omega),F.bg,A.gd1 ⟨by omega,by omega⟩];rfl)
    (λL j z hz hj N=>by
     rw[F.aW,Qc (by omega),A.ixn hz,Qa,A.lt,A.gd1 (A.r64n (by omega)),N,F.bh,A.gd1 (A.r64n (by omega)),Xi];cases hm:Z.mget false m z<;>by_cases O:x.2.1=14<;>simp[O])
    (by have:=Qab;omega)
   rw[loop,F.bh,A.gd1 (A.r64n (by omega)),Y];cases hm:Z.mget false m x.1 with
   |true=>
    have e: ¬((true:Bool)=false/\Qef m x=true):=λh=>by cases h.1
    rw[Qc rfl,Qb e]
   |false=>
    rw[Qb Q8];by_cases H:Qef m x=true;have e:(false:Bool)=false/\Qef m x=true:=⟨rfl,H⟩;rw[Qc (show(x.2.2.1.all λk=>Z.mget false m k||decide (x.2.1=14))=true from H),Qc e];have e: ¬((false:Bool)=false/\Qef m x=true):=λh=>H h.2;rw[Qb (show ¬(x.2.2.1.all λk=>Z.mget false m k||decide (x.2.1=14))=true from H),Qb e])
  (by have:=Qab;have:=J.1;omega)
def Qig (g:List Nd)(H:Few g)(a0:(List (Int×Nd))×(List Int)×(List (Int×Int))): ∀(r f:Nat) (m:List (Int×Bool)) (xs:List Int) (y:Nat),r<f->y+r=g.length->xs.length<=y->F.ak a0 g f xs m (y:Int)=some (decide (((sortS g r m xs).length:Int)=(g.length:Int)),(a0.1,sortS g r m xs,a0.2.2))
 |0,f,m,xs,y,J,L,N=>by
  obtain⟨f,rfl⟩: ∃f',f=f'+1:=⟨f-1,by omega⟩;rw[F.ak,Qb (by omega)];rfl
 |r+1,f,m,xs,y,J,L,N=>by
  obtain⟨f,rfl⟩: ∃f',f=f'+1:=⟨f-1,by omega⟩;have:=H.1;rw[F.ak,Qc (by omega),sort_l4 g H _ xs m y (by omega) (by omega),sortS];have e:(y:Int)+1=((y+1:Nat):Int):=by omega
  cases Qgd m g with
  |none=>simp only[];rw[e,Qig g H a0 r f m xs (y+1) (by omega) (by omega) (by omega)]
  |some n=>simp only[];rw[e,Qig g H a0 r f _ _ (y+1) (by omega) (by omega) (by simp only[Qd,Qi,Ql];omega)]
def sort_eq (g:List Nd)(H:Few g)(m:List (Int×Nd)):F.a2 (m,[],[]) g=some (decide (((sortS g g.length [] []).length:Int)=(g.length:Int)),(m,sortS g g.length [] [],[])):=by
 unfold F.a2;exact Qig g H (m,[],[]) g.length A.FU [] [] 0 (by have:=Qab;have:=H.1;omega) (by omega) (by simp)
def Rel (g:List Nd)(done:List Bool)(m:List (Int×Bool)):Prop:=∀(i:Nat) (n:Nd),g[i]?=some n->Z.mget false m n.1=bget done (i:Int)
def ready_rel {g:List Nd}{done:List Bool}{m:List (Int×Bool)}(h:Rel g done m){n:Nd}(H: ∀k∈n.2.2.1,0<=idx g k):Qef m n=ready g done n:=by
 unfold Qef ready;generalize n.2.2.1=l at H;induction l with
 |nil=>rfl
 |cons k r O=>
  rw[Xi,O λx V=>H x (Qh _ V),Qhf];have L:=H k (Qj ..);obtain⟨q,W,h2,Y⟩:=idx_get L;have N:=h _ q W;rw[Y,Wd L]at N;rw[N];cases bget done (idx g k)<;>by_cases J:n.2.1=14<;>simp[J]
def Qei (g:List Nd)(done:List Bool): ∀(k:Nat) (l:List Nd) (a:Int),0<=a->Qah g done k l a=a
 |_,[],_,_=>rfl
 |k,x::r,a,h=>by
  unfold Qah;rw[Qb (λH=>by omega)];exact Qei g done (k+1) r a h
def Qfh {g:List Nd}{done:List Bool}{m:List (Int×Bool)}(h:Rel g done m)(L:Fed g): ∀(r k:Nat),k+r=g.length->(Qah g done k (g.drop k) (-1)= -1/\Qgd m (g.drop k)=none)\/(∃(i:Nat) (n:Nd),Qah g done k (g.drop k) (-1)=(i:Int)/\g[i]?=some n/\Qgd m (g.drop k)=some n/\bget done (i:Int)=false)
 |0,k,hk=>by
  rw[Wg (by omega)];exact .inl ⟨rfl,rfl⟩
 |r+1,k,hk=>by
  have J:g[k]?=some g[k]:=Qf (by omega);generalize g[k]=x at J;rw[A.dropx J,Qah,Qgd,h k x J,ready_rel h (L x (Qg J))];by_cases H:bget done (k:Int)=false/\ready g done x=true;rw[Qc H,Qc ⟨⟨by omega,H.1⟩,H.2⟩,Qei _ _ _ _ _ (by omega)];exact .inr ⟨k,x,rfl,J,rfl,H.1⟩;rw[Qb H,Qb (λN=>H ⟨N.1.2,N.2⟩)];exact Qfh h L r (k+1) (by omega)
def idAt (g:List Nd)(i:Int):Int:=(at_ g i).1
def rel_set {g:List Nd}(L:Inc g){done:List Bool}{m:List (Int×Bool)}(h:Rel g done m)(O:done.length=g.length){i:Nat}{n:Nd}(H:g[i]?=some n):Rel g (done.set i true) (Z.mins m n.1 true):=λj q hq=>by
 rw[Ul];have V:=(Qe.1 H).1;by_cases e:q.1=n.1;have:=L.inj hq H e;subst this;rw[Qc e];unfold bget;rw[Q4,Ys (by omega)];rfl;rw[Qb e,h j q hq];have J:i≠j:=λN=>e (by subst N;rw[H]at hq;injection hq with hq;rw[hq]);unfold bget;rw[Q4,List.getElem?_set_ne J]
def Qfe {g:List Nd}(N:Inc g)(O:Fed g): ∀(r:Nat) (done:List Bool) (m:List (Int×Bool)) (l:List Int),Rel g done m->done.length=g.length->(∃l',Qbz g r done l=some l'/\sortS g r m (l.map (idAt g))=l'.map (idAt g)/\l'.length=l.length+r)\/(Qbz g r done l=none/\(sortS g r m (l.map (idAt g))).length <l.length+r)
 |0,done,m,l,_,_=>.inl ⟨l,rfl,rfl,rfl⟩
 |r+1,done,m,l,h,V=>by
  rw[Qbz,sortS];rcases Qfh h O g.length 0 (by omega)with⟨J,H⟩|⟨i,n,J,H,W,h4⟩
  rw[Wh]at J H;rw[J,Qc (by omega),H];refine .inr ⟨rfl,?_⟩;simp only[];have stay: ∀(r:Nat) (xs:List Int),sortS g r m xs=xs:=by
   intro r;induction r with
   |zero=>intro xs;rfl
   |succ r Y=>intro xs;rw[sortS,H];exact Y xs
  rw[stay,Q9];omega
  ·rw[Wh]at J W
   rw[J,Qb (by omega),W,Q4];simp only[];have e:l.map (idAt g)++[n.1]=(l++[(i:Int)]).map (idAt g):=by
    rw[Xw];simp only[Q0,Xc,idAt,Qbg rfl H]
   rw[e];rcases Qfe N O r (done.set i true) (Z.mins m n.1 true) (l++[(i:Int)]) (rel_set N h V H) (by rw[bset_len];exact V)with⟨l',L,h6,h7⟩|⟨L,h6⟩
   exact .inl ⟨l',L,h6,by rw[h7];simp only[Qd,Qi,Ql];omega⟩;exact .inr ⟨L,by simp only[Qd,Qi,Ql]at h6;omega⟩
def rel_0 (g:List Nd):Rel g (List.replicate g.length false) []:=λi n H=>by
 unfold bget;rw[Q4,Yh];split<;>rfl
def order_sort {g:List Nd}(L:Few g)(V:Inc g)(N:Fed g)(m:List (Int×Nd)):(∃l,F.eg g=some (l,true)/\F.a2 (m,[],[]) g=some (true,(m,l.map (idAt g),[]))/\l.length=g.length/\Qbz g g.length (List.replicate g.length false) []=some l)\/(F.eg g=some ([],false)/\∃p,F.a2 (m,[],[]) g=some (false,p)):=by
 rw[R_order_eq g L N,sort_eq g L m,ordR];rcases Qfe V N g.length (List.replicate g.length false) [] [] (rel_0 g) (by simp)with⟨l,J,H,O⟩|⟨J,H⟩
 rw[Xc]at H;rw[J,H];left;refine⟨l,rfl,?_,by simpa using O,rfl⟩;rw[Q9,Wl (by simp at O;omega)];rw[Xc]at H;rw[J];right;refine⟨rfl,(m,sortS g g.length [] [],[]),?_⟩;rw[Wp (by simp at H;omega)]
end Go.Proofs.YtpoabedecgeamaaGreatDoor
end
section
namespace Go.A
def mrg_any {α β:Type}[DecidableEq β]{body:α->Option (Option β)}{rest:Option β}{y:β}{p:α->Bool}: ∀{l:List α},(∀x∈l,body x=if p x=true then some (some y)else some none)->mrg body rest l=if l.any p=true then some y else rest
 | [],_=>rfl
 |x::l,h=>by
  have L:=h x (Qj ..);have N:=mrg_any (rest:=rest) (l:=l) λz H=>h z (Qh _ H);unfold mrg;rw[L,Xs];cases hp:p x with
  |true=>
   simp only[Qa,Wx,Bool.true_or];rw[Qc];rw[Wy];intro z H;have J:=h z (Qh _ H);refine Wl ?_;rw[J];cases p z<;>simp
  |false=>
   simp only[Qa,Qv,Q5,Xt];exact N
end Go.A
namespace Go.Proofs.YtpoabedecgeamaaGreatDoor
open Go.RowKit Go.Graph
def R_depth_eq (n:Nd)(l:List Int)(h5:n.2.1=5\/n.2.1=9->2<=l.length)(hb: -1<=d0 l/\d0 l<=4):F.ez n l=some (depthOf n l):=by
 have N:F.dy n l (d0 l)=some (depthOf n l):=by
  unfold F.dy depthOf Qha;have O: ∀y,F.ba y=some (capd y):=λy=>by unfold F.ba F.er capd;split<;>rfl
  have V: ∀y,(y=true↔n.2.1=5\/n.2.1=9)->F.dx n l (d0 l) y=some (capd (if n.2.1=5\/n.2.1=9 then(if iget l 0≠iget l 1 then-1 else d0 l)else if n.2.1=11\/n.2.1=16\/n.2.1=15 then(if d0 l≠0 then-1 else d0 l)else d0 l)):=λy hy=>by
   unfold F.dx F.dV;simp only[O,Qq];by_cases h:n.2.1=5\/n.2.1=9;have:=h5 h;rw[Qc (hy.2 h),Qc h,iix (i:=0) (by omega) (by omega),Qa,iix (i:=1) (by omega) (by omega),Qa];by_cases e:iget l 0=iget l 1;rw[Qb (λh=>h e),Qb (λh=>h e)];rw[Qc e,Qc e];rw[Qb (λh2=>h (hy.1 h2)),Qb h];by_cases W:n.2.1=11;simp only[W,Wx,true_or];split<;>rfl;by_cases Y:n.2.1=16;simp only[Y,Wx,true_or,or_true,Q5,Int.reduceEq];split<;>rfl;by_cases h15:n.2.1=15;simp only[h15,Wx,or_true,Q5,Int.reduceEq];split<;>rfl;simp only[W,Y,h15,Q5,or_self]
  simp only[O];by_cases H:n.2.1=14;rw[Qc H,Qc H];rw[Qb H,Qb H];by_cases J:n.2.1=12;rw[Qc J,Qc J,A.gd1 ⟨by omega,by omega⟩];rw[Qb J,Qb J];by_cases L:n.2.1=13;rw[Qc L,Qc L,A.gd1 ⟨by omega,by omega⟩];rw[Qb L,Qb L];by_cases h5':n.2.1=5;rw[Qc h5',V _ (by simp[h5'])];rw[Qb h5',V _ (by simp[h5'])]
 unfold F.ez;by_cases h:(0:Int)<(l.length:Int);rw[Qc h,iix (i:=0) (by omega) (by omega),Qa,d0_iget];exact N;rw[Qb h,d0_nil (l:=l) (by omega)];exact N
def Own (g:List Nd):Prop:=∀n,n∈g->ownQ n=true
def own_ins {n:Nd}(h:ownQ n=true):0<=insK n.2.1/\(n.2.2.1.length:Int)=insK n.2.1:=by
 unfold ownQ at h;by_cases H:n.1<1\/255<n.1\/insK n.2.1<0\/(n.2.2.1.length:Int)≠insK n.2.1;rw[Qc H]at h;cases h;omega
def own_id {n:Nd}(h:ownQ n=true):1<=n.1/\n.1<=255:=by
 unfold ownQ at h;by_cases H:n.1<1\/255<n.1\/insK n.2.1<0\/(n.2.2.1.length:Int)≠insK n.2.1;rw[Qc H]at h;cases h;omega
def own_D {n:Nd}(h:ownQ n=true):(n.2.1=14->1<=n.2.2.2.2.2.2/\n.2.2.2.2.2.2<=4)/\(n.2.1≠14->n.2.2.2.2.2.2=0):=by
 unfold ownQ at h;by_cases H:n.1<1\/255<n.1\/insK n.2.1<0\/(n.2.2.1.length:Int)≠insK n.2.1;rw[Qc H]at h;cases h;rw[Qb H]at h;by_cases J:ownC n;rw[Qc J]at h;cases h;unfold ownC at J;omega
def insK_cases (k:Int)(h:0<=insK k):(k=1/\insK k=0)\/((k=5\/k=9)/\insK k=2)\/(k≠1/\k≠5/\k≠9/\insK k=1):=by
 unfold insK at h ⊢;by_cases H:k<1\/16<k;rw[Qc H]at h;omega;rw[Qb H];by_cases J:k=1;rw[Qc J];omega;rw[Qb J];by_cases L:k=5\/k=9;rw[Qc L];omega;rw[Qb L];omega
def own_len {n:Nd}(h:ownQ n=true):(n.2.1=1/\n.2.2.1.length=0)\/((n.2.1=5\/n.2.1=9)/\n.2.2.1.length=2)\/(n.2.1≠1/\n.2.1≠5/\n.2.1≠9/\n.2.2.1.length=1):=by
 have J:=own_ins h;rcases insK_cases n.2.1 J.1 with H|H|H<;>omega
def Qgm {l:List Int}{i:Nat}{v:Int}:(l.set i v).length=l.length:=List.length_set
def depths_l1 (g:List Nd)(l d:List Int)(y:Nat)(p:Nat)(x:Nd)(L:List Int->Int->Option (List Int×Bool))(hb:Few g)(hfed:Fed g)(ho:Own g)(hd:d.length=g.length)(N:InB d)(hp:l[y]?=some (p:Int))(hy:y<100)(O:g[p]?=some x):
  F.cC L g l d (y:Int) x A.FU [] 0=if depthOf x (inD g d x.2.2.1)<0 then some ([],false)else L (d.set p (depthOf x (inD g d x.2.2.1))) ((y:Int)+1):=by
 have hlen:=hb.1;have hin:=hb.in O;have hpl:=(Qe.1 O).1;have H:=Qg O;have loop:=A.lp x.2.2.1 (λf (s:List Int) i=>F.cC L g l d (y:Int) x f s i) (λ_ t s=>if depthOf x (s++inD g d t)<0 then some ([],false)else L (d.set p (depthOf x (s++inD g d t))) ((y:Int)+1)) (λk s=>s=inD g d (x.2.2.1.take k))
  (λf s J=>by
   rw[Q7 (Q3 _)]at J;subst J;have hdep:F.ez x (inD g d x.2.2.1)=some (depthOf x (inD g d x.2.2.1)):=R_depth_eq x (inD g d x.2.2.1) (λh=>by rcases own_len (ho x H)with V|V|V<;>simp only[inD,Q9]<;>omega) (N.d0 g _);have e:(inD g d x.2.2.1++inD g d ([]:List Int))=inD g d x.2.2.1:=by simp[inD]
   rw[F.cC,Qb (by omega),A.ixn hp,Qa,hdep,Qa,iix (by omega) (by omega),Qa,Qa,e,iix (by omega) (by rw[Qgm];omega),Qa,A.gd1 (A.r64n (by omega)),Q4];have e2:iget (d.set p (depthOf x (inD g d x.2.2.1))) (p:Int)=depthOf x (inD g d x.2.2.1):=by
    unfold iget;rw[Q4,Ys (by omega)];rfl
   rw[e2])
  (λf s k z W hk J ih=>by
   have h1:=hfed x H z (Qg W);have V:=(idx_le g z).2;rw[F.cC,Qc (by omega),A.ixn W,Qa,Qbu g z (by omega),Qa,iix h1 (by omega),Qa];have Y:s++[iget d (idx g z)]=inD g d (x.2.2.1.take (k+1)):=by rw[J];exact inD_take W
   rw[A.gd1 (by rw[J];simp only[inD,Q9,Qp,Qi,Ql];omega),A.gd1 (A.r64n (by omega)),ih _ Y];simp only[inD,Q0,Qo,Wz])
  (by have:=Qab;omega) [] (by simp[inD])
 rw[loop];rfl
def depths_l3 (g:List Nd)(d:List Int)(O:Few g)(hfed:Fed g)(W:Own g)(hd:d.length=g.length):F.b4 g d A.FU 0=if Qbp g d g=true then some (d,true)else some ([],false):=
 A.lp0 g (λf y=>F.b4 g d f y) (λ_ t=>if Qbp g d t=true then some (d,true)else some ([],false))
  (λf=>by rw[F.b4,Qb (by omega)];rfl)
  (λf k x V hk Y=>by
   have hlen:=O.1;have J:=Qg V;rw[F.b4,Qc (by omega),A.ixn V,Qa,Qbp];simp only[F.ek,A.gd1 (A.r64n (n:=k) (by omega)),Y,Qq];by_cases H:x.2.1=14;have hl:x.2.2.1.length=1:=by rcases own_len (W x J)with N|N|N<;>omega
   have L:x.2.2.1[0]?=some (iget x.2.2.1 0):=by
    unfold iget;rw[show(0:Int).toNat=0 from rfl,Qf (by omega)];rfl
   have h1:=hfed x J _ (Qg L);have N:=(idx_le g (iget x.2.2.1 0)).2;rw[Qc H,show A.ix x.2.2.1 0=_ from A.ixn L,Qa,Qbu g _ (by omega),Qa,iix h1 (by omega),Qa];by_cases e:iget d (idx g (iget x.2.2.1 0))≠x.2.2.2.2.2.2;rw[Qc e];have e2:x.2.1=14/\iget d (idx g (iget x.2.2.1 0))≠x.2.2.2.2.2.2:=⟨H,e⟩;rw[Qc e2,Qb Q8];rw[Qb e];have e2: ¬(x.2.1=14/\iget d (idx g (iget x.2.2.1 0))≠x.2.2.2.2.2.2):=λh=>e h.2;rw[Qb e2];have e2: ¬(x.2.1=14/\iget d (idx g (iget x.2.2.1 0))≠x.2.2.2.2.2.2):=λh=>H h.1;rw[Qb H,Qb Q8,Qb e2])
  (by have:=Qab;have:=O.1;omega)
def Plc (g:List Nd)(l:List Int):Prop:=∀(i:Nat) (p:Int),l[i]?=some p->∃(k:Nat) (n:Nd),p=(k:Int)/\g[k]?=some n
def depths_l4 (g:List Nd)(l:List Int)(J:Few g)(hfed:Fed g)(O:Own g)(W:l.length<=60)(hp:Plc g l):F.dW g l=some (depths g l):=by
 have hlen:=J.1;have loop:=A.lp l (λf (s:List Int) i=>F.db g l f s i) (λ_ t s=>match Qba g t s with
  |some d=>if Qbp g d g=true then some (d,true)else some ([],false)
  |none=>some ([],false)) (λk s=>s.length=g.length/\InB s)
  (λf s H=>by rw[F.db,Qb (by omega),depths_l3 g s J hfed O H.1];rfl)
  (λf s k x L hk H V=>by
   obtain⟨q,n,rfl,N⟩:=hp k x L;rw[F.db,Qc (by omega),A.ixn L,Qa,A.ixn N,Qa,depths_l1 g l s k q n _ J hfed O H.1 H.2 L (by omega) N,Qba,Qbg rfl N];by_cases h:depthOf n (inD g s n.2.2.1)<0;rw[Qc h,Qc h];rw[Qb h,Qb h,Q4];exact V _ ⟨by rw[Qgm];exact H.1,H.2.set q (by omega) (Qfp n _)⟩)
  (by have:=Qab;omega) (List.replicate g.length 0) ⟨by simp,InB.rep _⟩
 unfold F.dW depths;rw[A.gd1 (by omega),loop];cases Qba g l (List.replicate g.length 0)with
 |none=>rfl
 |some d=>simp only[];cases Qbp g d g<;>rfl
end Go.Proofs.YtpoabedecgeamaaGreatDoor
end
section
namespace Go.Proofs.YtpoabedecgeamaaGreatDoor
open Go.RowKit Go.Graph
def RelD (g:List Nd)(d:List Int)(dm:List (Int×Int)):Prop:=∀(i:Nat) (n:Nd),g[i]?=some n->Z.mget 0 dm n.1=iget d (i:Int)
def RelD.in {g:List Nd}{d:List Int}{dm:List (Int×Int)}(h:RelD g d dm){k:Int}(H:0<=idx g k):Z.mget 0 dm k=iget d (idx g k):=by
 obtain⟨q,L,_,N⟩:=idx_get H;have J:=h _ q L;rw[N,Wd H]at J;exact J
def iget_nat {l:List Int}{i:Nat}(h:i<l.length):l[i]?=some (iget l (i:Int)):=by
 unfold iget;rw[Q4,Qf h];rfl
def inD_at {g:List Nd}{d l:List Int}{i:Nat}{k:Int}(h:l[i]?=some k):iget (inD g d l) (i:Int)=iget d (idx g k):=by
 unfold iget;rw[Q4,inD,Qy,h];rfl
def out_eq (g:List Nd)(d:List Int)(a0:(List (Int×Nd))×(List Int)×(List (Int×Int)))(n:Nd)(hr:RelD g d a0.2.2)(hib:InB d)(ho:ownQ n=true)(hf: ∀k∈n.2.2.1,0<=idx g k):
  ∃v b,F.cb a0 n=some (v,b)/\((b=false/\depthOf n (inD g d n.2.2.1)<0)\/(b=true/\v=depthOf n (inD g d n.2.2.1)/\0<=v)):=by
 have hlen:=own_len ho;have hD:=own_D ho;unfold F.cb;by_cases h1:n.2.1=1;have hl:n.2.2.1=[]:=Qx (by omega);rw[Qc h1];refine⟨0,true,rfl,.inr ⟨rfl,?_,Yz _⟩⟩;unfold depthOf Qha capd;simp only[h1,hl,inD,Xc,d0];simp;rw[Qb h1];by_cases H:n.2.1=14;rw[Qc H];have:=hD.1 H;refine⟨_,true,rfl,.inr ⟨rfl,?_,by omega⟩⟩;unfold depthOf Qha capd;rw[Qc H,Qb (by omega)];rw[Qb H];have hpos:0<n.2.2.1.length:=by omega
 obtain⟨k0,J⟩: ∃k0,n.2.2.1[0]?=some k0:=⟨_,Qf hpos⟩;have f0:=hf k0 (Qg J);have b0:=hib (idx g k0);have e0:d0 (inD g d n.2.2.1)=iget d (idx g k0):=by rw[<-d0_iget];exact inD_at J
 rw[show A.ix n.2.2.1 0=_ from A.ixn J,Qa,A.lt,hr.in f0];have hj3: ∀y,(y=true↔(n.2.1=5\/n.2.1=9)/\iget (inD g d n.2.2.1) 0≠iget (inD g d n.2.2.1) 1)->∃v b,F.bx n (iget d (idx g k0)) y=some (v,b)/\((b=false/\depthOf n (inD g d n.2.2.1)<0)\/(b=true/\v=depthOf n (inD g d n.2.2.1)/\0<=v)):=λy hy=>by
  unfold F.bx depthOf Qha;rw[Qb H,e0];by_cases L:y=true;have V:=hy.1 L;rw[Qc L];refine⟨0,false,rfl,.inl ⟨rfl,?_⟩⟩;rw[Qb (by omega),Qb (by omega),Qc V.1,Qc V.2];decide;have V: ¬((n.2.1=5\/n.2.1=9)/\iget (inD g d n.2.2.1) 0≠iget (inD g d n.2.2.1) 1):=λh=>L (hy.2 h);rw[Qb L];simp only[F.bv,F.bw,A.ba];by_cases N:n.2.1=12;rw[Qc N,Qc N,A.gd1 ⟨by omega,by omega⟩];unfold capd;by_cases h4:4<iget d (idx g k0)+1;exact⟨_,_,rfl,.inl ⟨Wp (by omega),by rw[Qc h4];decide⟩⟩;exact⟨_,_,rfl,.inr ⟨Wl (by omega),by rw[Qb h4],by omega⟩⟩;rw[Qb N,Qb N];by_cases O:n.2.1=13;rw[Qc O,Qc O,A.gd1 ⟨by omega,by omega⟩];unfold capd;rw[Qb (by omega)];by_cases h4:0<=iget d (idx g k0)-1;exact⟨_,_,rfl,.inr ⟨Wl (by omega),rfl,h4⟩⟩;exact⟨_,_,rfl,.inl ⟨Wp (by omega),by omega⟩⟩;rw[Qb O,Qb O];have hz: ∀x:Int,n.2.1=11\/n.2.1=16\/n.2.1=15->∃v b,(some (iget d (idx g k0),decide (iget d (idx g k0)=0)):Option (Int×Bool))=some (v,b)/\((b=false/\capd (if n.2.1=5\/n.2.1=9 then if iget (inD g d n.2.2.1) 0≠iget (inD g d n.2.2.1) 1 then-1 else iget d (idx g k0)else if n.2.1=11\/n.2.1=16\/n.2.1=15 then if iget d (idx g k0)≠0 then-1 else iget d (idx g k0)else iget d (idx g k0))<0)\/(b=true/\v=capd (if n.2.1=5\/n.2.1=9 then if iget (inD g d n.2.2.1) 0≠iget (inD g d n.2.2.1) 1 then-1 else iget d (idx g k0)else if n.2.1=11\/n.2.1=16\/n.2.1=15 then if iget d (idx g k0)≠0 then-1 else iget d (idx g k0)else iget d (idx g k0))/\0<=v)):=λ_ hk=>by
   rw[Qb (by omega),Qc hk];by_cases h0:iget d (idx g k0)=0;rw[h0];exact⟨_,_,rfl,.inr ⟨rfl,rfl,Yz _⟩⟩;rw[Qc h0];exact⟨_,_,rfl,.inl ⟨Wp h0,by decide⟩⟩
  by_cases W:n.2.1=11;rw[Qc W];exact hz 0 (.inl W);rw[Qb W];by_cases Y:n.2.1=16;rw[Qc Y];exact hz 0 (.inr (.inl Y));rw[Qb Y];by_cases h15:n.2.1=15;rw[Qc h15];exact hz 0 (.inr (.inr h15));rw[Qb h15];refine⟨_,_,rfl,.inr ⟨Wl (by omega),?_,by omega⟩⟩;by_cases h5:n.2.1=5\/n.2.1=9;rw[Qc h5,Qb (λh=>V ⟨h5,h⟩)];unfold capd;rw[Qb (by omega)];rw[Qb h5,Qb (by omega)];unfold capd;rw[Qb (by omega)]
 by_cases V:(1:Int)<(n.2.2.1.length:Int);have h5:n.2.1=5\/n.2.1=9:=by omega
 obtain⟨k1,hk1⟩: ∃k1,n.2.2.1[1]?=some k1:=⟨_,Qf (by omega)⟩;have f1:=hf k1 (Qg hk1);rw[Qc V,show A.ix n.2.2.1 1=_ from A.ixn hk1,Qa,A.lt,hr.in f1];refine hj3 _ ?_;rw[Qq,show iget (inD g d n.2.2.1) 0=_ from inD_at J,show iget (inD g d n.2.2.1) 1=_ from inD_at hk1];exact⟨λh=>⟨h5,λe=>h e.symm⟩,λh e=>h.2 e.symm⟩;rw[Qb V];exact hj3 false ⟨λh=>(by cases h),λh=>by omega⟩
def relD_set {g:List Nd}(L:Inc g){d:List Int}{dm:List (Int×Int)}(h:RelD g d dm)(O:d.length=g.length){i:Nat}{n:Nd}(H:g[i]?=some n)(v:Int):RelD g (d.set i v) (Z.mins dm n.1 v):=λj q hq=>by
 rw[Ul];have V:=(Qe.1 H).1;by_cases e:q.1=n.1;have:=L.inj hq H e;subst this;rw[Qc e];unfold iget;rw[Q4,Ys (by omega)];rfl;rw[Qb e,h j q hq];have J:i≠j:=λN=>e (by subst N;rw[H]at hq;injection hq with hq;rw[hq]);unfold iget;rw[Q4,List.getElem?_set_ne J]
def KeyD (g:List Nd)(l:List Int)(dm:List (Int×Int)):Prop:=∀id,Z.mhas dm id=l.any λp=>decide (idAt g p=id)
def Qfb (g:List Nd)(l:List Int)(hb:Few g)(Y:Inc g)(hfed:Fed g)(ho:Own g)(hl:l.length<=60)(hp:Plc g l): ∀(r k f:Nat) (d:List Int) (dm:List (Int×Int)),k+r=l.length->r<f->RelD g d dm->InB d->d.length=g.length->KeyD g (l.take k) dm->
  (∃d' dm',Qba g (l.drop k) d=some d'/\F.ag (Qad g,l.map (idAt g),[]) f dm (k:Int)=A.mrg (F.a0 (Qad g,l.map (idAt g),[]) dm') (some (true,(Qad g,l.map (idAt g),dm'))) (Qad g)/\RelD g d' dm'/\InB d'/\d'.length=g.length/\KeyD g l dm')\/
  (Qba g (l.drop k) d=none/\∃p,F.ag (Qad g,l.map (idAt g),[]) f dm (k:Int)=some (false,p))
 |0,k,f,d,dm,hk,hf,N,O,V,W=>by
  obtain⟨f,rfl⟩: ∃f',f=f'+1:=⟨f-1,by omega⟩;left;rw[Q7 (by omega)]at W;refine⟨d,dm,by rw[Wg (by omega)];rfl,?_,N,O,V,W⟩;rw[F.ag,Qb (by simp only[Q9];omega)]
 |r+1,k,f,d,dm,hk,hf,N,O,V,W=>by
  obtain⟨f,rfl⟩: ∃f',f=f'+1:=⟨f-1,by omega⟩;have H:l[k]?=some l[k]:=Qf (by omega);generalize l[k]=x at H;obtain⟨q,n,rfl,J⟩:=hp k x H;have hng:=Qg J;have L:idAt g (q:Int)=n.1:=by unfold idAt;rw[Qbg rfl J]
  have e1:A.ix (l.map (idAt g)) (k:Int)=some n.1:=A.ixn (by rw[Qy,H,Ws,L]);obtain⟨v,b,ho1,ho2⟩:=out_eq g d (Qad g,l.map (idAt g),dm) n N O (ho n hng) (hfed n hng);have eF:F.ag (Qad g,l.map (idAt g),[]) (f+1) dm (k:Int)=if(!b)=true then some (false,(Qad g,l.map (idAt g),dm))else A.gd (Z.R64 ((k:Int)+1)) (F.ag (Qad g,l.map (idAt g),[]) f (Z.mins dm n.1 v) ((k:Int)+1)):=by
   rw[F.ag,Qc (by simp only[Q9];omega)];simp only[e1,Qa,A.lt,Y.mget J];rw[show F.cb (Qad g,l.map (idAt g),dm) n=_ from ho1,Qa]
  rw[A.dropx H,Qba,Qbg rfl J,eF];rcases ho2 with⟨rfl,h5⟩|⟨rfl,h5,h6⟩
  right;rw[Qc (show depthOf n (n.2.2.1.map λk=>iget d (idx g k))<0 from h5)];exact⟨rfl,_,Qc rfl⟩;subst h5;rw[Qb (show ¬depthOf n (n.2.2.1.map λk=>iget d (idx g k))<0 by simp only[inD]at h6;omega),Qb (by simp),A.gd1 (A.r64n (by omega)),Q4];have:=Qfb g l hb Y hfed ho hl hp r (k+1) f (d.set q (depthOf n (inD g d n.2.2.1))) (Z.mins dm n.1 (depthOf n (inD g d n.2.2.1))) (by omega) (by omega) (relD_set Y N V J _) (O.set q h6 (Qfp n _)) (by rw[Qgm];exact V) (λid=>by
   rw[Z.mhas_ins,Qfo H,List.any_append,W id,Xs,List.any_nil,Bool.or_false,L,Bool.or_comm];congr 1;exact decide_eq_decide.2 ⟨λh=>h.symm,λh=>h.symm⟩)
  exact this
def Qcu (g:List Nd)(d:List Int): ∀l,Qbp g d l= !(l.any λx=>decide (x.2.1=14/\iget d (idx g (iget x.2.2.1 0))≠x.2.2.2.2.2.2))
 | []=>rfl
 |x::r=>by
  unfold Qbp;rw[Xs];by_cases h:x.2.1=14/\iget d (idx g (iget x.2.2.1 0))≠x.2.2.2.2.2.2;rw[Qc h,Wl h];rfl;rw[Qb h,Wp h,Xt];exact Qcu g d r
def Qiv (g:List Nd)(l:List Int)(W:Few g)(hi:Inc g)(hfed:Fed g)(O:Own g)(Y:l.length<=60)(hp:Plc g l):
  (∃d dm,F.dW g l=some (d,true)/\F.a1 (Qad g,l.map (idAt g),[])=some (true,(Qad g,l.map (idAt g),dm))/\RelD g d dm/\InB d/\d.length=g.length/\KeyD g l dm/\Qbp g d g=true/\Qba g l (List.replicate g.length 0)=some d)\/
  (F.dW g l=some ([],false)/\∃p,F.a1 (Qad g,l.map (idAt g),[])=some (false,p)):=by
 have h0:RelD g (List.replicate g.length 0) []:=λi n V=>by
  unfold iget;rw[Q4,Yh];split<;>rfl
 rw[depths_l4 g l W hfed O Y hp];unfold F.a1 depths;rcases Qfb g l W hi hfed O Y hp l.length 0 A.FU (List.replicate g.length 0) [] (by omega) (by have:=Qab;omega) h0 (InB.rep _) (by simp) (λid=>by simp[Z.mhas])with⟨d,dm,L,J,h3,h4,h5,h6⟩|⟨L,p,J⟩
 rw[Wh]at L;rw[L];simp only[];have hm:A.mrg (F.a0 (Qad g,l.map (idAt g),[]) dm) (some (true,(Qad g,l.map (idAt g),dm))) (Qad g)=if(Qad g).any (λp=>decide (p.2.2.1=14/\iget d (idx g (iget p.2.2.2.1 0))≠p.2.2.2.2.2.2.2))=true then some (false,(Qad g,l.map (idAt g),dm))else some (true,(Qad g,l.map (idAt g),dm)):=by
  refine A.mrg_any λp hp=>?_;obtain⟨n,V,rfl⟩:=W5.1 hp;unfold F.a0 F.bn;by_cases H:n.2.1=14;have hl1:n.2.2.1.length=1:=by rcases own_len (O n V)with J|J|J<;>omega
  have N:n.2.2.1[0]?=some (iget n.2.2.1 0):=iget_nat (i:=0) (by omega);have f0:=hfed n V _ (Qg N);rw[Qc H,show A.ix n.2.2.1 0=_ from A.ixn N,Qa,A.lt,h3.in f0];by_cases e:iget d (idx g (iget n.2.2.1 0))≠n.2.2.2.2.2.2;rw[Wl e,Qc rfl,Wl (And.intro H e),Qc rfl];rw[Wp e,Qb Q8,Wp (λh=>e h.2),Qb Q8];rw[Qb H,Qb Q8,Wp (λh=>H h.1),Qb Q8]
 have hany:(Qad g).any (λp=>decide (p.2.2.1=14/\iget d (idx g (iget p.2.2.2.1 0))≠p.2.2.2.2.2.2.2))=g.any λx=>decide (x.2.1=14/\iget d (idx g (iget x.2.2.1 0))≠x.2.2.2.2.2.2):=by
  unfold Qad;rw[List.any_map];rfl
 have h2':F.ag (Qad g,l.map (idAt g),[]) A.FU [] 0=_:=J.trans hm;rw[h2',hany,Qcu];cases hc:g.any λx=>decide (x.2.1=14/\iget d (idx g (iget x.2.2.1 0))≠x.2.2.2.2.2.2)with
 |true=>right;exact⟨rfl,_,rfl⟩
 |false=>left;exact⟨d,dm,rfl,rfl,h3,h4,h5,h6,by rw[Qcu,hc];rfl,rfl⟩
 rw[Wh]at L;rw[L];right;exact⟨rfl,p,J⟩
def Qdi (g:List Nd)(d:List Int)(id:Int): ∀(k:Nat) (l:List Int),(insS g d id k l).length=l.length
 |_,[]=>rfl
 |k,x::r=>by unfold insS;rw[Qi,Qi,Qdi g d id (k+1) r]
def Qgr (n:Nd)(v:Int):(outS n v).length<=1:=by unfold outS;split<;>simp
def in2 {g:List Nd}(H:Own g){n:Nd}(J:n∈g):n.2.2.1.length<=2:=by rcases own_len (H n J)with h|h|h<;>omega
def spots_l2P (g:List Nd)(d:List Int)(a0:(List (Int×Nd))×(List Int)×(List (Int×Int)))(H:List Sp->Int->Option (List Sp))(y:Nat)(x:Nd)(xs:List Sp)(J:RelD g d a0.2.2)(N:g[y]?=some x)(hl:x.2.2.1.length<=2)(O: ∀k∈x.2.2.1,0<=idx g k)(V:xs.length<=1000)(hy:y<=100):
  F.aK H a0 (y:Int) x A.FU xs 0=H (xs++(insS g d x.1 0 x.2.2.1++outS x (iget d (y:Int)))) ((y:Int)+1):=
 A.lp x.2.2.1 (λf (s:List Sp) i=>F.aK H a0 (y:Int) x f s i) (λk t s=>H (s++(insS g d x.1 k t++outS x (iget d (y:Int)))) ((y:Int)+1)) (λk s=>s.length<=1000+k)
  (λf s W=>by
   rw[F.aK,Qb (by omega),insS,Wc,outS,A.lt,J y x N];simp only[F.bB,A.gd1 (A.r64n (n:=y) (by omega))];by_cases h:x.2.1≠15;rw[Qc h,Qc h,A.gd1 (by simp only[Qi,Ql];omega)];rw[Qb h,Qb h,Wk])
  (λf s k z L hk W Y=>by
   have h1:=O z (Qg L);rw[F.aK,Qc (by omega),A.ixn L,Qa,A.lt,J.in h1,A.gd1 (by simp only[Qi,Ql];omega),A.gd1 (A.r64n (by omega)),Y _ (by simp only[Qd,Qi,Ql];omega),insS];simp only[Qo,Wz,Wi,Wc])
  (by have:=Qab;omega) xs (by omega)
def spotsP_eq (g:List Nd)(d:List Int)(a0:(List (Int×Nd))×(List Int)×(List (Int×Int)))(L:Few g)(hfed:Fed g)(N:Own g)(O:RelD g d a0.2.2):F.bI a0 g=some (spots g d):=by
 have hlen:=L.1;have loop:=A.lp g (λf (s:List Sp) i=>F.aC a0 g f s i) (λk t s=>some (s++spotsF g d k t)) (λk s=>s.length<=3*k)
  (λf s V=>by rw[F.aC,Qb (by omega),spotsF,Wk])
  (λf s k x J hk V W=>by
   have H:=Qg J;have Y:=in2 N H;have h3:=Qgr x (iget d (k:Int));rw[F.aC,Qc (by omega),A.ixn J,Qa,spots_l2P g d a0 _ k x s O J Y (hfed x H) (by omega) (by omega),W _ (by rw[Qd,Qd,Qdi];omega),spotsF];simp only[Qo])
  (by have:=Qab;omega) [] (by simp)
 unfold F.bI;rw[loop];rfl
def spots_l2R (g:List Nd)(d:List Int)(H:List Sp->Int->Option (List Sp))(y:Nat)(x:Nd)(xs:List Sp)(L:g.length<=100)(hd:d.length=g.length)(N:g[y]?=some x)(hl:x.2.2.1.length<=2)(O: ∀k∈x.2.2.1,0<=idx g k)(V:xs.length<=1000)(hy:y<=100):
  F.c2 H g d (y:Int) x A.FU xs 0=H (xs++(insS g d x.1 0 x.2.2.1++outS x (iget d (y:Int)))) ((y:Int)+1):=
 A.lp x.2.2.1 (λf (s:List Sp) i=>F.c2 H g d (y:Int) x f s i) (λk t s=>H (s++(insS g d x.1 k t++outS x (iget d (y:Int)))) ((y:Int)+1)) (λk s=>s.length<=1000+k)
  (λf s W=>by
   have Y:=(Qe.1 N).1;rw[F.c2,Qb (by omega),insS,Wc,outS];simp only[F.es,A.gd1 (A.r64n (n:=y) (by omega))];by_cases h:x.2.1≠15;rw[Qc h,Qc h,iix (by omega) (by omega),Qa,A.gd1 (by simp only[Qi,Ql];omega)];rw[Qb h,Qb h,Wk])
  (λf s k z J hk W ih=>by
   have h1:=O z (Qg J);have h2:=(idx_le g z).2;rw[F.c2,Qc (by omega),A.ixn J,Qa,Qbu g z L,Qa,iix h1 (by omega),Qa,A.gd1 (by simp only[Qi,Ql];omega),A.gd1 (A.r64n (by omega)),ih _ (by simp only[Qd,Qi,Ql];omega),insS];simp only[Qo,Wz,Wi,Wc])
  (by have:=Qab;omega) xs (by omega)
def spotsR_eq (g:List Nd)(d:List Int)(L:Few g)(hfed:Fed g)(N:Own g)(O:d.length=g.length):F.eQ g d=some (spots g d):=by
 have hlen:=L.1;have loop:=A.lp g (λf (s:List Sp) i=>F.dz g d f s i) (λk t s=>some (s++spotsF g d k t)) (λk s=>s.length<=3*k)
  (λf s V=>by rw[F.dz,A.ba,Qb (by simp),spotsF,Wk])
  (λf s k x J hk V W=>by
   have H:=Qg J;have Y:=in2 N H;have h3:=Qgr x (iget d (k:Int));rw[F.dz,A.ba,Qc (by simp only[Qq];omega),A.ixn J,Qa,spots_l2R g d _ k x s (by omega) O J Y (hfed x H) (by omega) (by omega),W _ (by rw[Qd,Qd,Qdi];omega),spotsF];simp only[Qo])
  (by have:=Qab;omega) [] (by simp)
 unfold F.eQ;rw[loop];rfl
abbrev Ed:=Pl×Pl×Sm
def five {P:Int->Prop}(H:P 0)(J:P 1)(L:P 2)(N:P 3)(O:P 4)(d:Int)(V:0<=d/\d<=4):P d:=by
 have:d=0\/d=1\/d=2\/d=3\/d=4:=by omega
 rcases this with rfl|rfl|rfl|rfl|rfl<;>assumption
def Id_eqP (d:Int)(H:0<=d/\d<=4):F.em d=some (idP d):=five (P:=λd=>F.em d=some (idP d)) (by kernel_rfl) (by kernel_rfl) (by kernel_rfl) (by kernel_rfl) (by kernel_rfl) d H
def Enter_eqP (d:Int)(H:0<=d/\d<=4):F.dQ d=some (Qht d):=five (P:=λd=>F.dQ d=some (Qht d)) (by kernel_rfl) (by kernel_rfl) (by kernel_rfl) (by kernel_rfl) (by kernel_rfl) d H
def Leave_eqP (d:Int)(H:0<=d/\d<=4):F.dR d=some (Qhj d):=five (P:=λd=>F.dR d=some (Qhj d)) (by kernel_rfl) (by kernel_rfl) (by kernel_rfl) (by kernel_rfl) (by kernel_rfl) d H
def Next_eqP (d:Int)(H:0<=d/\d<=4):F.ed d=some (nextP d):=five (P:=λd=>F.ed d=some (nextP d)) (by kernel_rfl) (by kernel_rfl) (by kernel_rfl) (by kernel_rfl) (by kernel_rfl) d H
def Id_eqR (d:Int)(H:0<=d/\d<=4):F.eZ d=some (idP d):=five (P:=λd=>F.eZ d=some (idP d)) (by kernel_rfl) (by kernel_rfl) (by kernel_rfl) (by kernel_rfl) (by kernel_rfl) d H
def Enter_eqR (d:Int)(H:0<=d/\d<=4):F.eR d=some (Qht d):=five (P:=λd=>F.eR d=some (Qht d)) (by kernel_rfl) (by kernel_rfl) (by kernel_rfl) (by kernel_rfl) (by kernel_rfl) d H
def Leave_eqR (d:Int)(H:0<=d/\d<=4):F.eA d=some (Qhj d):=five (P:=λd=>F.eA d=some (Qhj d)) (by kernel_rfl) (by kernel_rfl) (by kernel_rfl) (by kernel_rfl) (by kernel_rfl) d H
def Next_eqR (d:Int)(H:0<=d/\d<=4):F.eX d=some (nextP d):=five (P:=λd=>F.eX d=some (nextP d)) (by kernel_rfl) (by kernel_rfl) (by kernel_rfl) (by kernel_rfl) (by kernel_rfl) d H
def within_eqP (n:Nd)(d:Int)(H:0<=d/\d<=4):F.cR n d=some (Qct n d):=by
 unfold F.cR Qct;simp only[Id_eqP d H,Enter_eqP d H,Leave_eqP d H,Next_eqP d H,Qa,F.bo];repeat' split
 all_goals rfl
def within_eqR (n:Nd)(d:Int)(H:0<=d/\d<=4):F.dY n d=some (Qct n d):=by
 unfold F.dY Qct;simp only[Id_eqR d H,Enter_eqR d H,Leave_eqR d H,Next_eqR d H,Qa,F.dc];repeat' split
 all_goals rfl
def useN (id nd:Int):Nat->List Int->List Pl
 |_,[]=>[]
 |k,z::r=>if z=id then(nd,(k:Int))::useN id nd (k+1) r else useN id nd (k+1) r
def Qbi (id:Int):List Nd->List Pl
 | []=>[]
 |n::r=>useN id n.1 0 n.2.2.1++Qbi id r
def Qdm (id nd:Int): ∀(k:Nat) (l:List Int),(useN id nd k l).length<=l.length
 |_,[]=>Q3 0
 |k,z::r=>by
  unfold useN;have:=Qdm id nd (k+1) r;split<;>simp only[Qi]<;>omega
def Qbn (id:Int): ∀(l:List Nd),(∀n∈l,n.2.2.1.length<=2)->(Qbi id l).length<=2*l.length
 | [],_=>Q3 0
 |n::r,h=>by
  unfold Qbi;have J:=Qbn id r λx H=>h x (Qh _ H);have L:=Qdm id n.1 0 n.2.2.1;have N:=h n (Qj ..);rw[Qd,Qi];omega
def Values_eq (g:List Nd)(L:g.length<=100):F.aG g=some g:=
 A.lp0 g (λf y=>F.m g f y) (λ_ l=>some l)
  (λf=>by rw[F.m,Qb (by omega)])
  (λf k x H hk J=>by rw[F.m,Qc (by omega),A.ixn H,Qa,A.gd1 (A.r64n (by omega)),J];rfl)
  (by have:=Qab;omega)
def users_l2 (id:Int)(n:Nd)(H:List Pl->Option (List Pl))(xs:List Pl)(V:n.2.2.1.length<=2)(L:xs.length<=1000):F.aR H id n A.FU xs 0=H (xs++useN id n.1 0 n.2.2.1):=
 A.lp n.2.2.1 (λf (s:List Pl) i=>F.aR H id n f s i) (λk t s=>H (s++useN id n.1 k t)) (λk s=>s.length<=1000+k)
  (λf s N=>by rw[F.aR,Qb (by omega),useN,Wk])
  (λf s k z O hk N J=>by
   rw[F.aR,Qc (by omega),A.ixn O,Qa,useN];simp only[F.cS,A.gd1 (A.r64n (n:=k) (by omega))];by_cases h:z=id;rw[Qc h,Qc h,A.gd1 (by simp only[Qi,Ql];omega),J _ (by simp only[Qd,Qi,Ql];omega)];simp only[Qo,Wz,Wi,Wc];rw[Qb h,Qb h,J _ (by omega)])
  (by have:=Qab;omega) xs (by omega)
def users_l3 (id:Int): ∀(l:List Nd) (xs:List Pl),(∀n∈l,n.2.2.1.length<=2)->xs.length+2*l.length<=900->F.aS id l xs=some (xs++Qbi id l)
 | [],xs,_,_=>by rw[F.aS,Qbi,Wk]
 |n::r,xs,h,H=>by
  have J:=h n (Qj ..);have L:=Qdm id n.1 0 n.2.2.1;rw[Qi]at H;rw[F.aS,users_l2 id n _ xs J (by omega),users_l3 id r _ (λx H=>h x (Qh _ H)) (by rw[Qd];omega),Qbi,Qo]
def users_eq (g:List Nd)(id:Int)(H:Few g)(J: ∀n∈g,n.2.2.1.length<=2):F.dD g id=some (Qbi id g):=by
 have:=H.1;unfold F.dD F.aP;rw[Qa,Values_eq g (by omega),Qa,users_l3 id g [] J (by simp;omega)];rfl
def inE (g:List Nd)(d:List Int)(n:Nd):Nat->List Int->List Ed
 |_,[]=>[]
 |k,z::r=>((n.1,(k:Int)),(n.1,2),Qct n (iget d (idx g z)))::inE g d n (k+1) r
def outE (g:List Nd)(n:Nd)(v:Int):List Ed:=(Qbi n.1 g).map λu=>((n.1,2),u,(idP v).1)
def Qbc (g:List Nd)(d:List Int):Nat->List Nd->List Ed
 |_,[]=>[]
 |i,n::r=>if n.2.1=15 then Qbc g d (i+1) r else inE g d n 0 n.2.2.1++(outE g n (iget d (i:Int))++Qbc g d (i+1) r)
def Qan (g:List Nd)(d:List Int):List Ed:=Qbc g d 0 g
def Qie (g:List Nd)(d:List Int)(n:Nd): ∀(k:Nat) (l:List Int),(inE g d n k l).length=l.length
 |_,[]=>rfl
 |k,x::r=>by unfold inE;rw[Qi,Qi,Qie g d n (k+1) r]
def edges_l2P (k30:List Ed->Int->Option (List Ed))(y:Nat)(n:Nd)(s:Sm)(us:List Pl)(xs:List Ed)(O:y<=100)(V:us.length<=1000)(H:xs.length<=10000):
  F.aD k30 (y:Int) n s.1 s.2.1 s.2.2.1 s.2.2.2.1 s.2.2.2.2.1 s.2.2.2.2.2.1 s.2.2.2.2.2.2.1 s.2.2.2.2.2.2.2 us A.FU xs 0=k30 (xs++us.map λu=>((n.1,2),u,s)) ((y:Int)+1):=
 A.lp us (λf (t:List Ed) i=>F.aD k30 (y:Int) n s.1 s.2.1 s.2.2.1 s.2.2.2.1 s.2.2.2.2.1 s.2.2.2.2.2.1 s.2.2.2.2.2.2.1 s.2.2.2.2.2.2.2 us f t i) (λk t e=>k30 (e++t.map λu=>((n.1,2),u,s)) ((y:Int)+1)) (λk t=>t.length<=10000+k)
  (λf t J=>by rw[F.aD,Qb (by omega),F.a3,A.gd1 (A.r64n (by omega)),Xc,Wk])
  (λf t k z L hk J N=>by
   rw[F.aD,Qc (by omega),A.ixn L,Qa,A.gd1 (by simp only[Qi,Ql];omega),A.gd1 (A.r64n (by omega)),N _ (by simp only[Qd,Qi,Ql];omega)];simp only[Qo,Wz,Wi,Wc,Q0])
  (by have:=Qab;omega) xs (by omega)
def edges_l4P (g:List Nd)(d:List Int)(a0:(List (Int×Nd))×(List Int)×(List (Int×Int)))(k30:List Ed->Int->Option (List Ed))(y:Nat)(n:Nd)(xs:List Ed)(O:Few g)(H:Own g)(J:InB d)(V:RelD g d a0.2.2)(L:g[y]?=some n)(Y: ∀k∈n.2.2.1,0<=idx g k)(hxs:xs.length<=9000):
  F.aL k30 a0 g (y:Int) n A.FU xs 0=k30 (xs++(inE g d n 0 n.2.2.1++outE g n (iget d (y:Int)))) ((y:Int)+1):=
 A.lp n.2.2.1 (λf (t:List Ed) i=>F.aL k30 a0 g (y:Int) n f t i) (λk t e=>k30 (e++(inE g d n k t++outE g n (iget d (y:Int)))) ((y:Int)+1)) (λk t=>t.length<=9000+k)
  (λf t ht=>by
   have hlen:=O.1;have hyl:=(Qe.1 L).1;have h2:=in2 H (Qg L);have hu:=Qbn n.1 g λx N=>in2 H N;rw[F.aL,Qb (by omega),A.lt,V y n L,Id_eqP _ (J _),Qa,F.cz,users_eq g n.1 O (λx N=>in2 H N),Qa,
    show F.aD k30 (y:Int) n _ _ _ _ _ _ _ _ (Qbi n.1 g) A.FU t 0=_ from edges_l2P k30 y n (idP (iget d (y:Int))).1 (Qbi n.1 g) t (by omega) (by omega) (by omega),inE,Wc]
   rfl)
  (λf t k z W hk ht ih=>by
   have h1:=Y z (Qg W);have h2:=in2 H (Qg L);rw[F.aL,Qc (by omega),A.ixn W,Qa,A.lt,V.in h1,show F.cR n _=_ from within_eqP n _ (J _),Qa,A.gd1 (by simp only[Qi,Ql];omega),A.gd1 (A.r64n (by omega)),ih _ (by simp only[Qd,Qi,Ql];omega),inE];simp only[Qo,Wz,Wi,Wc])
  (by have:=Qab;have:=in2 H (Qg L);omega) xs (by omega)
def edgesP_eq (g:List Nd)(d:List Int)(a0:(List (Int×Nd))×(List Int)×(List (Int×Int)))(O:Few g)(hfed:Fed g)(L:Own g)(N:InB d)(W:RelD g d a0.2.2):F.bc a0 g=some (Qan g d):=by
 have hlen:=O.1;have loop:=A.lp g (λf (s:List Ed) i=>F.ad a0 g f s i) (λk t s=>some (s++Qbc g d k t)) (λk s=>s.length<=83*k)
  (λf s Y=>by rw[F.ad,Qb (by omega),Qbc,Wk])
  (λf s k x H hk Y V=>by
   have J:=Qg H;have h2:=in2 L J;have hu:=Qbn x.1 g λx H=>in2 L H;rw[F.ad,Qc (by omega),A.ixn H,Qa,Qbc];by_cases h:x.2.1=15;rw[Qc h,Qc h,F.a3,A.gd1 (A.r64n (by omega)),V _ (by omega)];rw[Qb h,Qb h,edges_l4P g d a0 _ k x s O L N W H (hfed x J) (by omega),V _ (by rw[Qd,Qd,Qie,outE,Q9];omega)];simp only[Qo])
  (by have:=Qab;omega) [] (by simp)
 unfold F.bc;rw[loop];rfl
def Find_eq (g:List Nd)(J:Few g){j:Nat}{n:Nd}(L:Inc g)(H:g[j]?=some n):F.et g n.1=some (n,true):=by
 have:=J.1;have N:=J.in H;unfold F.et;rw[Qbu g _ (by omega),Qa,L.idx H,Qb (by omega),A.ixn H,Qa,A.gd1 (by simp only[Ql];omega)];rfl
def edges_l4R (g:List Nd)(k37:List Ed->Int->Option (List Ed))(sp:Sp)(r18:Nd×Bool)(r59:Sm×Int)(j:Nat)(m:Nd)(xs:List Ed)(W:g.length<=100)(H:g[j]?=some m)(Y:m.2.2.1.length<=2)(L:xs.length<=20000):
  F.cx k37 g sp r18 r59 (j:Int) A.FU xs 0=k37 (xs++(useN r18.1.1 m.1 0 m.2.2.1).map λu=>(sp.1,u,r59.1)) ((j:Int)+1):=
 A.lp m.2.2.1 (λf (t:List Ed) i=>F.cx k37 g sp r18 r59 (j:Int) f t i) (λk t e=>k37 (e++(useN r18.1.1 m.1 k t).map λu=>(sp.1,u,r59.1)) ((j:Int)+1)) (λk t=>t.length<=20000+k)
  (λf t N=>by
   have O:=(Qe.1 H).1;rw[F.cx,A.ixn H,Qa,Qb (by omega),A.gd1 (A.r64n (by omega)),useN,Xc,Wk])
  (λf t k z V hk N J=>by
   rw[F.cx,A.ixn H,Qa,Qc (by omega),Qa,A.ixn V,Qa,useN];simp only[F.ev,A.gd1 (A.r64n (n:=k) (by omega)),Qa];by_cases h:z=r18.1.1;rw[Qc h,Qc h,A.gd1 (by simp only[Qi,Ql];omega),J _ (by simp only[Qd,Qi,Ql];omega)];simp only[Qo,Wz,Wi,Wc,Q0];rw[Qb h,Qb h,J _ (by omega)])
  (by have:=Qab;omega) xs (by omega)
def edges_l5R (g:List Nd)(k30:List Ed->Int->Option (List Ed))(y:Nat)(sp:Sp)(r18:Nd×Bool)(r59:Sm×Int)(xs:List Ed)(H:Few g)(L:Own g)(N:xs.length<=15000)(Y:y<=1000):
  F.c3 k30 g (y:Int) sp r18 r59 A.FU xs 0=k30 (xs++(Qbi r18.1.1 g).map λu=>(sp.1,u,r59.1)) ((y:Int)+1):=
 A.lp g (λf (t:List Ed) i=>F.c3 k30 g (y:Int) sp r18 r59 f t i) (λk t e=>k30 (e++(Qbi r18.1.1 t).map λu=>(sp.1,u,r59.1)) ((y:Int)+1)) (λk t=>t.length<=15000+2*k)
  (λf t O=>by rw[F.c3,Qb (by omega),F.dZ,A.gd1 (A.r64n (by omega)),Qbi,Xc,Wk])
  (λf t k m J hk O V=>by
   have hlen:=H.1;have W:=in2 L (Qg J);have h3:=Qdm r18.1.1 m.1 0 m.2.2.1;rw[F.c3,Qc (by omega),edges_l4R g _ sp r18 r59 k m t (by omega) J W (by omega),V _ (by rw[Qd,Q9];omega),Qbi,Xw,Qo])
  (by have:=Qab;have:=H.1;omega) xs (by omega)
def edOf (g:List Nd)(sp:Sp):List Ed:=if sp.1.2≠2 then(if(find g sp.1.1).1.2.1≠15 then [(sp.1,((find g sp.1.1).1.1,2),Qct (find g sp.1.1).1 sp.2)]else [])else(Qbi (find g sp.1.1).1.1 g).map λu=>(sp.1,u,(idP sp.2).1)
def edS (g:List Nd):List Sp->List Ed
 | []=>[]
 |sp::r=>edOf g sp++edS g r
def SpOk (g:List Nd)(sp:Sp):Prop:=(∃(j:Nat) (n:Nd),g[j]?=some n/\n.1=sp.1.1)/\0<=sp.2/\sp.2<=4
def Qdu {g:List Nd}(J:Inc g){j:Nat}{n:Nd}(H:g[j]?=some n):find g n.1=(n,true):=by
 unfold find;rw[J.idx H,Qb (by omega),Qbg rfl H]
def edgesR_l6 (g:List Nd)(l:List Sp)(O:Few g)(W:Inc g)(Y:Own g)(hl:l.length<=130)(hs: ∀sp∈l,SpOk g sp):F.eB g l=some (edS g l):=by
 have hlen:=O.1;have loop:=A.lp l (λf (s:List Ed) i=>F.cy g l f s i) (λk t s=>some (s++edS g t)) (λk s=>s.length<=83*k)
  (λf s hs=>by rw[F.cy,Qb (by omega),edS,Wk])
  (λf s k x L hk hp V=>by
   obtain⟨⟨j,n,hn,J⟩,hd⟩:=hs x (Qg L);have hu:=Qbn n.1 g λx L=>in2 Y L;rw[F.cy,Qc (by omega),A.ixn L,Qa,<-J,Find_eq g O W hn,Qa,edS,edOf,<-J,Qdu W hn];simp only[F.eu,F.dZ,A.gd1 (A.r64n (n:=k) (by omega)),Qa];by_cases N:x.1.2≠2;rw[Qc N,Qc N];by_cases H:n.2.1≠15;rw[Qc H,Qc H,show F.dY n x.2=_ from within_eqR n x.2 hd,Qa,A.gd1 (by simp only[Qi,Ql];omega),V _ (by simp only[Qd,Qi,Ql];omega),J];simp only[Qo];rw[Qb H,Qb H,V _ (by omega),Wc];rw[Qb N,Qb N,Id_eqR x.2 hd,Qa,edges_l5R g _ k x (n,true) (idP x.2) s O Y (by omega) (by omega),V _ (by rw[Qd,Q9];show s.length+(Qbi n.1 g).length<=_;omega),Qo])
  (by have:=Qab;omega) [] (by simp)
 unfold F.eB;rw[loop];rfl
def Qih (g:List Nd): ∀(a b:List Sp),edS g (a++b)=edS g a++edS g b
 | [],_=>rfl
 |x::a,b=>by rw[Wi,edS,edS,Qih g a b,Qo]
def edS_ins {g:List Nd}(J:Inc g)(d:List Int){j:Nat}{n:Nd}(L:g[j]?=some n): ∀(k:Nat) (l:List Int),k+l.length<=2->edS g (insS g d n.1 k l)=if n.2.1=15 then []else inE g d n k l
 |k,[],_=>by unfold insS inE edS;split<;>rfl
 |k,z::r,h=>by
  rw[Qi]at h;have N:((k:Int):Int)≠2:=by omega
  unfold insS inE;rw[edS,edS_ins J d L (k+1) r (by omega),edOf];simp only[Qdu J L];rw[Qc N];by_cases H:n.2.1=15;simp[H];rw[Qb H,Qb H,Qc H];rfl
def Qho {g:List Nd}(L:Inc g)(N:Own g)(d:List Int): ∀(m k:Nat),k+m=g.length->edS g (spotsF g d k (g.drop k))=Qbc g d k (g.drop k)
 |0,k,h=>by rw[Wg (by omega)];rfl
 |m+1,k,h=>by
  have J:g[k]?=some g[k]:=Qf (by omega);generalize g[k]=x at J;have O:=in2 N (Qg J);rw[A.dropx J,spotsF,Qbc,Qih,Qih,Qho L N d m (k+1) (by omega),edS_ins L d J 0 _ (by omega)];by_cases H:x.2.1=15;rw[Qc H,Qc H,outS,Qb (λh=>h H),edS];rfl;rw[Qb H,Qb H,outS,Qc H,edS,edOf];simp only[Qdu L J];rw[Qb (λh=>h rfl),edS,Wk];rfl
def o_bP {g:List Nd}{d:List Int}(H:InB d){j:Nat}{n:Nd}(J:g[j]?=some n): ∀(k:Nat) (l:List Int),∀sp∈insS g d n.1 k l,SpOk g sp
 |_,[],sp,h=>by cases h
 |k,z::r,sp,h=>by
  unfold insS at h;rcases Qn.1 h with rfl|h
  exact⟨⟨j,n,J,rfl⟩,H _⟩;exact o_bP H J (k+1) r sp h
def o_bn {g:List Nd}{d:List Int}(J:InB d): ∀(m k:Nat),k+m=g.length->∀sp∈spotsF g d k (g.drop k),SpOk g sp
 |0,k,h,sp,H=>by rw[Wg (by omega)]at H;cases H
 |m+1,k,h,sp,H=>by
  have L:g[k]?=some g[k]:=Qf (by omega);generalize g[k]=x at L;rw[A.dropx L,spotsF]at H;rcases Qw.1 H with H|H
  exact o_bP J L 0 _ sp H;rcases Qw.1 H with H|H
  unfold outS at H;split at H;rw[Qk]at H;subst H;exact⟨⟨k,x,L,rfl⟩,J _⟩;cases H;exact o_bn J m (k+1) (by omega) sp H
def Qen {g:List Nd}(J:Own g)(d:List Int): ∀(m k:Nat),k+m=g.length->(spotsF g d k (g.drop k)).length<=3*m
 |0,k,h=>by rw[Wg (by omega)];exact Q3 0
 |m+1,k,h=>by
  have H:g[k]?=some g[k]:=Qf (by omega);generalize g[k]=x at H;have L:=in2 J (Qg H);have N:=Qgr x (iget d (k:Int));have O:=Qen J d m (k+1) (by omega);rw[A.dropx H,spotsF,Qd,Qd,Qdi];omega
def edgesR_eq (g:List Nd)(d:List Int)(L:Few g)(N:Inc g)(H:Own g)(J:InB d):F.eB g (spots g d)=some (Qan g d):=by
 have W:=Qen H d g.length 0 (by omega);have O:=o_bn (d:=d) (g:=g) J g.length 0 (by omega);have V:=Qho N H d g.length 0 (by omega);rw[Wh]at W O V;have:=L.1;rw[edgesR_l6 g (spots g d) L N H (by unfold spots;omega) O];exact Xd some V
inductive Rch {α:Type} (R:α->α->Prop) (a:α):α->Prop
 |one {b:α} (h:R a b):Rch R a b
 |step {b c:α} (h:Rch R a b) (h2:R b c):Rch R a c
def Qdy (g:List Nd)(d:List Int)(id:Int): ∀(k:Nat) (l:List Int) (p:Pl) (v:Int),(p,v)∈insS g d id k l->p.1=id/\(k:Int)<=p.2/\p.2<(k:Int)+l.length
 |_,[],_,_,h=>by cases h
 |k,z::r,p,v,h=>by
  unfold insS at h;rw[Qi];rcases Qn.1 h with h|h
  injection h with H J;subst H;refine⟨rfl,Yz _,?_⟩;simp only[];omega
  have:=Qdy g d id (k+1) r p v h;omega
def Qez (g:List Nd)(d:List Int)(id:Int): ∀(k:Nat) (l:List Int),((insS g d id k l).map (·.1)).Nodup
 |_,[]=>X8
 |k,z::r=>by
  unfold insS;rw[Q0,Wu];refine⟨λh=>?_,Qez g d id (k+1) r⟩;obtain⟨⟨p,v⟩,J,H⟩:=W5.1 h;have:=Qdy g d id (k+1) r p v J;simp only[]at H;rw[H]at this;simp only[]at this;omega
def Qfg {g:List Nd}(d:List Int): ∀(k:Nat) (l:List Nd) (sp:Sp),sp∈spotsF g d k l->∃n∈l,n.1=sp.1.1
 |_,[],_,h=>by cases h
 |k,n::r,sp,h=>by
  unfold spotsF at h;rcases Qw.1 h with h|h
  exact⟨n,Qj ..,(Qdy g d n.1 0 _ sp.1 sp.2 h).1.symm⟩;rcases Qw.1 h with h|h
  unfold outS at h;split at h;rw[Qk]at h;subst h;exact⟨n,Qj ..,rfl⟩;cases h;obtain⟨m,H,J⟩:=Qfg d (k+1) r sp h;exact⟨m,Qh _ H,J⟩
def Qdb {g:List Nd}(d:List Int): ∀(k:Nat) (l:List Nd),l.Pairwise (λa b=>a.1<b.1)->(∀n∈l,n.2.2.1.length<=2)->((spotsF g d k l).map (·.1)).Nodup
 |_,[],_,_=>X8
 |k,n::r,hp,W=>by
  rw[List.pairwise_cons]at hp;have h2:=W n (Qj ..);unfold spotsF;rw[Xw,W8,Xw,W8];have hrest: ∀p∈(spotsF g d (k+1) r).map (·.1),p.1≠n.1:=λp H e=>by
   obtain⟨sp,N,rfl⟩:=W5.1 H;obtain⟨m,J,h4⟩:=Qfg d (k+1) r sp N;have:=hp.1 m J;omega
  have hout: ∀p∈(outS n (iget d (k:Int))).map (·.1),p=(n.1,2):=λp H=>by
   unfold outS at H;split at H;simpa using H;cases H
  have O: ∀p∈(insS g d n.1 0 n.2.2.1).map (·.1),p.1=n.1/\p.2<2:=λp H=>by
   obtain⟨⟨q,v⟩,N,rfl⟩:=W5.1 H;have:=Qdy g d n.1 0 _ q v N;simp only[];omega
  refine⟨Qez g d n.1 0 _,⟨?_,Qdb d (k+1) r hp.2 (λx Y=>W x (Qh _ Y)),?_⟩,?_⟩;unfold outS;split<;>simp;intro a V b L e;have J:=hout a V;subst e;exact hrest a L (by rw[J]);intro a V b L e;subst e;have J:=O a V;rcases Qw.1 L with L|L
  have:=hout a L;rw[this]at J;simp only[]at J;omega;exact hrest a L J.1
def useN_mem (id nd:Int): ∀(k:Nat) (l:List Int) (u:Pl),u∈useN id nd k l->u.1=nd/\∃j:Nat,u.2=(k:Int)+j/\j<l.length
 |_,[],u,h=>by cases h
 |k,z::r,u,h=>by
  unfold useN at h;have hrec:u∈useN id nd (k+1) r->u.1=nd/\∃j:Nat,u.2=(k:Int)+j/\j<(z::r).length:=λh=>by
   obtain⟨H,j,J,L⟩:=useN_mem id nd (k+1) r u h;exact⟨H,j+1,by omega,by rw[Qi];omega⟩
  split at h;rcases Qn.1 h with rfl|h
  exact⟨rfl,0,by simp,by rw[Qi];omega⟩;exact hrec h;exact hrec h
def insS_get (g:List Nd)(d:List Int)(id:Int): ∀(k:Nat) (l:List Int) (j:Nat),j<l.length->∃v,((id,(k:Int)+j),v)∈insS g d id k l
 |_,[],j,h=>by simp at h
 |k,z::r,j,h=>by
  unfold insS;cases j with
  |zero=>exact⟨iget d (idx g z),by simp⟩
  |succ j=>
   rw[Qi]at h;obtain⟨v,H⟩:=insS_get g d id (k+1) r j (by omega);refine⟨v,Qh _ ?_⟩;have e:(k:Int)+((j+1:Nat):Int)=((k+1:Nat):Int)+(j:Int):=by omega
   rw[e];exact H
def Qfj {g:List Nd}(d:List Int): ∀(k:Nat) (l:List Nd) (n:Nd),n∈l->∀sp∈insS g d n.1 0 n.2.2.1,sp∈spotsF g d k l
 |_,[],_,h,_,_=>by cases h
 |k,m::r,n,h,sp,H=>by
  unfold spotsF;rcases Qn.1 h with rfl|h
  exact We _ H;exact Wa _ (Wa _ (Qfj d (k+1) r n h sp H))
def Qfa {g:List Nd}(d:List Int): ∀(k:Nat) (l:List Nd) (n:Nd),n∈l->n.2.1≠15->∃v,((n.1,2),v)∈spotsF g d k l
 |_,[],_,h,_=>by cases h
 |k,m::r,n,h,H=>by
  unfold spotsF;rcases Qn.1 h with rfl|h
  exact⟨iget d (k:Int),Wa _ (We _ (by unfold outS;rw[Qc H];simp))⟩;obtain⟨v,J⟩:=Qfa d (k+1) r n h H;exact⟨v,Wa _ (Wa _ J)⟩
def Qhn (id:Int): ∀(l:List Nd) (u:Pl),u∈Qbi id l->∃n∈l,u.1=n.1/\∃j:Nat,u.2=(j:Int)/\j<n.2.2.1.length
 | [],u,h=>by cases h
 |n::r,u,h=>by
  unfold Qbi at h;rcases Qw.1 h with h|h
  obtain⟨H,j,J,L⟩:=useN_mem id n.1 0 _ u h;exact⟨n,Qj ..,H,j,by omega,L⟩;obtain⟨m,H,J⟩:=Qhn id r u h;exact⟨m,Qh _ H,J⟩
def inE_mem (g:List Nd)(d:List Int)(n:Nd): ∀(k:Nat) (l:List Int) (e:Ed),e∈inE g d n k l->e.1.1=n.1/\(k:Int)<=e.1.2/\e.1.2<(k:Int)+l.length/\e.2.1=(n.1,2)
 |_,[],_,h=>by cases h
 |k,z::r,e,h=>by
  unfold inE at h;rw[Qi];rcases Qn.1 h with rfl|h
  refine⟨rfl,Yz _,?_,rfl⟩;simp only[];omega;have:=inE_mem g d n (k+1) r e h;refine⟨this.1,by omega,by omega,this.2.2.2⟩
def Qbt {g:List Nd}(d:List Int): ∀(k:Nat) (l:List Nd) (e:Ed),e∈Qbc g d k l->∃n∈l,e.1.1=n.1/\((n.2.1≠15/\e.2.1=(n.1,2)/\0<=e.1.2/\e.1.2<n.2.2.1.length)\/(e.1.2=2/\∃m∈g,e.2.1.1=m.1/\∃j:Nat,e.2.1.2=(j:Int)/\j<m.2.2.1.length))
 |_,[],_,h=>by cases h
 |k,n::r,e,h=>by
  unfold Qbc at h;have hrec:e∈Qbc g d (k+1) r->∃m∈n::r,e.1.1=m.1/\((m.2.1≠15/\e.2.1=(m.1,2)/\0<=e.1.2/\e.1.2<m.2.2.1.length)\/(e.1.2=2/\∃q∈g,e.2.1.1=q.1/\∃j:Nat,e.2.1.2=(j:Int)/\j<q.2.2.1.length)):=λh=>by
   obtain⟨m,H,J⟩:=Qbt d (k+1) r e h;exact⟨m,Qh _ H,J⟩
  split at h;exact hrec h;rename_i L;rcases Qw.1 h with h|h
  obtain⟨H,J,V,N⟩:=inE_mem g d n 0 _ e h;exact⟨n,Qj ..,H,.inl ⟨L,N,by omega,by omega⟩⟩;rcases Qw.1 h with h|h
  unfold outE at h;obtain⟨u,O,rfl⟩:=W5.1 h;obtain⟨m,H,J⟩:=Qhn n.1 g u O;exact⟨n,Qj ..,rfl,.inr ⟨rfl,m,H,J⟩⟩;exact hrec h
def edge_to {g:List Nd}(d:List Int){e:Ed}(J:e∈Qan g d): ∃v,(e.2.1,v)∈spots g d:=by
 obtain⟨n,L,Y,h|h⟩:=Qbt d 0 g e J;obtain⟨v,H⟩:=Qfa d 0 g n L h.1;exact⟨v,by rw[h.2.1];exact H⟩;obtain⟨_,m,N,O,j,V,W⟩:=h;obtain⟨v,H⟩:=insS_get g d m.1 0 m.2.2.1 j W;refine⟨v,Qfj d 0 g m N _ ?_⟩;have e1:e.2.1=(m.1,((0:Nat):Int)+(j:Int)):=Prod.ext O (by rw[V];simp);rw[e1];exact H
def Qhu {g:List Nd}(d:List Int){e:Ed}(H:e∈Qan g d): ∃n∈g,e.1.1=n.1:=by
 obtain⟨n,J,L,_⟩:=Qbt d 0 g e H;exact⟨n,J,L⟩
def edge_out {g:List Nd}(d:List Int)(H:Own g){e:Ed}(J:e∈Qan g d)(V:e.2.1.2=2):e.1.1=e.2.1.1/\e.1.2≠2:=by
 obtain⟨n,L,N,h|h⟩:=Qbt d 0 g e J;have:=in2 H L;exact⟨by rw[N,h.2.1],by omega⟩;obtain⟨_,m,O,_,j,W,Y⟩:=h;have:=in2 H O;omega
def atS_mem {p:Pl}: ∀{l:List Sp} {v:Int},(l.map (·.1)).Nodup->(p,v)∈l->atS p l=v
 | [],_,_,h=>by cases h
 |x::r,v,H,h=>by
  rw[Q0,Wu]at H;unfold atS;rcases Qn.1 h with rfl|h
  rw[Qc rfl];rw[Qb (λe=>H.1 (by rw[e];exact List.mem_map_of_mem (f:=(·.1)) h))];exact atS_mem H.2 h
def R_at_eq (l:List Sp)(p:Pl)(L:l.length<=100000):F.e4 l p=some (atS p l):=
 A.lp0 l (λf y=>F.eh l p f y) (λ_ t=>some (atS p t))
  (λf=>by rw[F.eh,Qb (by omega)];rfl)
  (λf k x H hk J=>by
   rw[F.eh,Qc (by omega),A.ixn H,Qa,Qa,atS];by_cases h:x.1=p;rw[Qc (show x.1=p from h),Qc h];rw[Qb (show ¬x.1=p from h),Qb h,A.gd1 (A.r64n (by omega)),J])
  (by have:=Qab;omega)
def R_on_eq (l:List Pl)(p:Pl)(N:l.length<=100000):F.eS l p=some (decide (p∈l)):=
 A.lp0 l (λf y=>F.ei l p f y) (λ_ t=>some (decide (p∈t)))
  (λf=>by rw[F.ei,Qb (by omega)];simp)
  (λf k x J hk L=>by
   rw[F.ei,Qc (by omega),A.ixn J,Qa];by_cases h:x=p;rw[Qc (show x=p from h)];simp[h];rw[Qb (show ¬x=p from h),A.gd1 (A.r64n (by omega)),L];congr 1;exact decide_eq_decide.2 ⟨λH=>Qh _ H,λH=>(Qn.1 H).resolve_left λe=>h e.symm⟩)
  (by have:=Qab;omega)
def Qbx (g:List Nd)(S:List Sp)(dd:Int)(e:Ed):Bool:=decide (dd<=atS e.2.1 S)&&(decide ((find g e.1.1).1.2.1≠14)||decide ((find g e.1.1).1.2.2.2.2.2.2≠dd)||decide (e.1.2=2))
def R_open_eq (g:List Nd)(S:List Sp)(e:Ed)(dd:Int)(L:Few g)(H:Inc g)(N:S.length<=100000)(O: ∃n∈g,e.1.1=n.1):F.ew g S e dd=some (Qbx g S dd e):=by
 obtain⟨n,V,W⟩:=O;obtain⟨j,J⟩:=Wr.1 V;unfold F.ew Qbx;rw[W,Find_eq g L H J,Qa,show F.e4 S e.2.1=_ from R_at_eq S e.2.1 N,Qa,Qdu H J];by_cases h:dd<=atS e.2.1 S;rw[Qc h,Wl h,Xy];congr 1;rw[Qb h,Wp h,Yr]
def addR (g:List Nd)(S:List Sp)(dd:Int)(cur:Pl):List Ed->List Pl->List Pl
 | [],r=>r
 |e::t,r=>addR g S dd cur t (if e.1=cur/\Qbx g S dd e=true/\e.2.1∉r then r++[e.2.1]else r)
def round_l3 (g:List Nd)(S:List Sp)(E:List Ed)(from_:Sp)(H:List Pl->List Pl->Int->Option Bool)(y:Nat)(cur:Pl)(r:List Pl)(hb:Few g)(hi:Inc g)(hS:S.length<=100000)(hE:E.length<=5000)(hf: ∀e∈E,∃n∈g,e.1.1=n.1)(hc:(from_.1::r)[y]?=some cur)(hy:y<=10000)(hr:r.length<=9000)(hall: ∀k,(addR g S from_.2 cur (E.take k) r).length<=9000):
  F.bu H g S E from_ (y:Int) A.FU r (from_.1::r) 0=H (addR g S from_.2 cur E r) (from_.1::addR g S from_.2 cur E r) ((y:Int)+1):=
 A.lp E (λf (s:List Pl×List Pl) i=>F.bu H g S E from_ (y:Int) f s.1 s.2 i) (λk t s=>H (addR g S from_.2 cur t s.1) (from_.1::addR g S from_.2 cur t s.1) ((y:Int)+1)) (λk s=>s.2=from_.1::s.1/\s.2[y]?=some cur/\s.1=addR g S from_.2 cur (E.take k) r)
  (λf s Y=>by
   rw[F.bu,Qb (by omega),A.gd1 (A.r64n (by omega)),Y.1];rfl)
  (λf s k e N hk Y ih=>by
   obtain⟨q,r'⟩:=s;obtain⟨O,J,h3⟩:=Y;simp only[]at O J h3;have hlen:q.length<=9000:=by rw[h3];exact hall _
   have hsnoc: ∀(t:List Ed) (e:Ed) (r:List Pl),addR g S from_.2 cur (t++[e]) r=(if e.1=cur/\Qbx g S from_.2 e=true/\e.2.1∉addR g S from_.2 cur t r then addR g S from_.2 cur t r++[e.2.1]else addR g S from_.2 cur t r):=by
    intro t;induction t with
    |nil=>intro e r;rfl
    |cons x t iht=>intro e r;rw[Wi,addR,addR];exact iht e _
   have hnext:addR g S from_.2 cur (E.take (k+1)) r=if e.1=cur/\Qbx g S from_.2 e=true/\e.2.1∉q then q++[e.2.1]else q:=by
    rw[Qfo N,hsnoc,<-h3]
   have hopen:=R_open_eq g S e from_.2 hb hi hS (hf e (Qg N));rw[F.bu,Qc (by omega),A.ixn N,Qa,A.ixn J,Qa,addR];simp only[F.dB,F.ex,A.ixn N,Qa,A.gd1 (A.r64n (n:=k) (by omega)),Qv,Q5];have stay: ¬(e.1=cur/\Qbx g S from_.2 e=true/\e.2.1∉q)->F.bu H g S E from_ (y:Int) f q r' ((k:Int)+1)=H (addR g S from_.2 cur (E.drop (k+1)) (if e.1=cur/\Qbx g S from_.2 e=true/\e.2.1∉q then q++[e.2.1]else q)) (from_.1::addR g S from_.2 cur (E.drop (k+1)) (if e.1=cur/\Qbx g S from_.2 e=true/\e.2.1∉q then q++[e.2.1]else q)) ((y:Int)+1):=λhn=>by
    rw[Qb hn]at hnext ⊢;exact ih (q,r') ⟨O,J,hnext.symm⟩
   by_cases hcur:e.1=cur;rw[Qc (show e.1=cur from hcur),show F.ew g S e from_.2=_ from hopen,Qa];by_cases V:Qbx g S from_.2 e=true;rw[Qc V,show F.eS q e.2.1=_ from R_on_eq q e.2.1 (by omega),Qa];by_cases W:e.2.1∈q;rw[Wl W,W9,Qb Q8];exact stay λh=>h.2.2 W;have L:e.1=cur/\Qbx g S from_.2 e=true/\e.2.1∉q:=⟨hcur,V,W⟩;rw[Wp W,Xu,Qc rfl,A.gd1 (by simp only[Qi,Ql];omega),A.gd1 (by rw[O];simp only[Qi,Ql];omega),Qc L];rw[Qc L]at hnext;refine ih (q++[e.2.1],r'++[e.2.1]) ⟨?_,?_,hnext.symm⟩;simp only[O,Wi];simp only[];rw[Wb (Qe.1 J).1];exact J;rw[Qb V];exact stay λh=>V h.2.1;rw[Qb (show ¬e.1=cur from hcur)];exact stay λh=>hcur h.1)
  (by have:=Qab;omega) (r,from_.1::r) ⟨rfl,hc,rfl⟩
def okE (g:List Nd)(S:List Sp)(E:List Ed)(dd:Int)(p q:Pl):Prop:=∃e∈E,e.1=p/\e.2.1=q/\Qbx g S dd e=true
def Qcj (g:List Nd)(S:List Sp)(dd:Int)(cur:Pl): ∀(t:List Ed) (r:List Pl),∃x,addR g S dd cur t r=r++x/\(∀p∈x,∃e∈t,e.1=cur/\e.2.1=p/\Qbx g S dd e=true)/\(r.Nodup->(r++x).Nodup)/\(∀e∈t,e.1=cur->Qbx g S dd e=true->e.2.1∈r++x)
 | [],r=>⟨[],by rw[addR,Wk],by simp,by simp,by simp⟩
 |e::t,r=>by
  rw[addR];by_cases h:e.1=cur/\Qbx g S dd e=true/\e.2.1∉r;rw[Qc h];obtain⟨x,J,L,N,O⟩:=Qcj g S dd cur t (r++[e.2.1]);refine⟨e.2.1::x,by rw[J];simp,λp hp=>?_,λY=>?_,λe2 H a b=>?_⟩;rcases Qn.1 hp with rfl|hp
  exact⟨e,Qj ..,h.1,rfl,h.2.1⟩;obtain⟨e2,a,b⟩:=L p hp;exact⟨e2,Qh _ a,b⟩;have:=N (W8.2 ⟨Y,by simp,λa ha b V=>by rw[Qk]at V;subst V;intro e2;subst e2;exact h.2.2 ha⟩);simpa using this;rcases Qn.1 H with rfl|H
  simp;have:=O e2 H a b;simpa using this;rw[Qb h];obtain⟨x,J,L,N,O⟩:=Qcj g S dd cur t r;refine⟨x,J,λp hp=>?_,N,λe2 H a b=>?_⟩;obtain⟨e2,a,b⟩:=L p hp;exact⟨e2,Qh _ a,b⟩;rcases Qn.1 H with rfl|H
  refine We _ ?_;by_cases W:e2.2.1∈r;exact W;exact absurd ⟨a,b,W⟩ h;exact O e2 H a b
def nodup_len {α:Type}[DecidableEq α]: ∀{l m:List α},l.Nodup->(∀x∈l,x∈m)->l.length<=m.length
 | [],m,_,_=>X4 _
 |a::l,m,H,h=>by
  rw[Wu]at H;have J:=h a (Qj ..);have:=nodup_len (l:=l) (m:=m.erase a) H.2 λx L=>(List.mem_erase_of_ne (λe=>by subst e;exact H.1 L)).2 (h x (Qh _ L));rw[List.length_erase_of_mem J]at this;have hpos:0<m.length:=List.length_pos_of_mem J;rw[Qi];omega
def round_eq (g:List Nd)(S:List Sp)(E:List Ed)(from_:Sp)(hb:Few g)(hi:Inc g)(hS:S.length<=100000)(hE:E.length<=4000)(hf: ∀e∈E,∃n∈g,e.1.1=n.1):
  ∃b,F.eC g S E from_=some b/\(b=true↔Rch (okE g S E from_.2) from_.1 from_.1):=by
 have sub: ∀(r:List Pl),r.Nodup->(∀p∈r,∃e∈E,e.2.1=p)->r.length<=4000:=λr J h=>by
  have:=nodup_len (m:=E.map λe=>e.2.1) J λp hp=>by obtain⟨e,V,O⟩:=h p hp;exact W5.2 ⟨e,V,O⟩
  rw[Q9]at this;omega
 have main: ∀(n f y:Nat) (r:List Pl),y+n=4002->n<f->r.Nodup->y<=1+r.length->(∀p∈r,∃e∈E,e.2.1=p)->(∀p∈r,Rch (okE g S E from_.2) from_.1 p)->(∀i p q,i<y->(from_.1::r)[i]?=some p->okE g S E from_.2 p q->q∈r)->
   ∃b,F.d0 g S E from_ f r (from_.1::r) (y:Int)=some b/\(b=true↔Rch (okE g S E from_.2) from_.1 from_.1):=by
  intro n;induction n with
  |zero=>
   intro f y r hy hf' J W hsub _ _;have:=sub r J hsub;omega
  |succ n ih=>
   intro f y r hy hf' J W hsub hreach hclosed;obtain⟨f,rfl⟩: ∃f',f=f'+1:=⟨f-1,by omega⟩;have hl:=sub r J hsub;rw[F.d0];by_cases h:y<1+r.length;obtain⟨cur,hcur⟩: ∃c,(from_.1::r)[y]?=some c:=⟨_,Qf (by rw[Qi];omega)⟩;obtain⟨x,V,O,h3,h4⟩:=Qcj g S from_.2 cur E r;have hsub2: ∀p∈r++x,∃e∈E,e.2.1=p:=λp hp=>by
    rcases Qw.1 hp with hp|hp
    exact hsub p hp;obtain⟨e,a,_,b,_⟩:=O p hp;exact⟨e,a,b⟩
   have hall: ∀k,(addR g S from_.2 cur (E.take k) r).length<=9000:=λk=>by
    obtain⟨x',a,b,c,_⟩:=Qcj g S from_.2 cur (E.take k) r;have:=sub (r++x') (c J) λp hp=>by
     rcases Qw.1 hp with hp|hp
     exact hsub p hp;obtain⟨e,a2,_,b2,_⟩:=b p hp;exact⟨e,List.mem_of_mem_take a2,b2⟩
    rw[a];omega
   rw[Qc (by rw[Qi];omega),round_l3 g S E from_ _ y cur r hb hi hS (by omega) hf hcur (by omega) (by omega) hall,V];have e1:(y:Int)+1=((y+1:Nat):Int):=by omega
   rw[e1];have H:cur=from_.1\/Rch (okE g S E from_.2) from_.1 cur:=by
    cases y with
    |zero=>injection hcur with hcur;exact .inl hcur.symm
    |succ y=>exact .inr (hreach cur (Qg (by simpa using hcur)))
   refine ih f (y+1) (r++x) (by omega) (by omega) (h3 J) (by rw[Qd];omega) hsub2 (λp hp=>?_) λi p q hi2 hp L=>?_;rcases Qw.1 hp with hp|hp
   exact hreach p hp;obtain⟨e,a,b,c,d2⟩:=O p hp;rcases H with H|H
   exact .one ⟨e,a,b.trans H,c,d2⟩;exact .step H ⟨e,a,b,c,d2⟩;rw[<-Wi,Wb (by rw[Qi];omega)]at hp;rcases X9 i y with h5|h5
   exact We _ (hclosed i p q h5 hp L);obtain rfl:i=y:=by omega
   rw[hcur]at hp;injection hp with hp;subst hp
   obtain⟨e,a,b,c,d2⟩:=L;rw[<-c];exact h4 e a b d2;rw[Qb (by rw[Qi];omega),show F.eS r from_.1=_ from R_on_eq r from_.1 (by omega),Qa];refine⟨_,rfl,?_⟩;rw[Qq];refine⟨hreach _,λhr=>?_⟩;have Y: ∀q,Rch (okE g S E from_.2) from_.1 q->q∈r:=λq hq=>by
    induction hq with
    |one h6=>exact hclosed 0 _ _ (by omega) rfl h6
    |step h6 h7 ih2=>
     obtain⟨i,N⟩:=Wr.1 ih2;have:=(Qe.1 N).1;exact hclosed (i+1) _ _ (by omega) (by simpa using N) h7
   exact Y _ hr
 exact main 4002 A.FU 0 [] (by omega) (by have:=Qab;omega) X8 (by simp) (by simp) (by simp) (λi p q h=>by omega)
abbrev Seen:=List (Pl×Bool)
def seen (m:Seen)(v:Pl):Prop:=Z.mget false m v=true
def addP (deep:List Sp)(from_:Pl)(dd:Int):List Pl->Seen->List Pl->Option (Seen×List Pl)
 | [],m,xs=>some (m,xs)
 |t::r,m,xs=>if t=from_ then none else if dd<=Z.mget 0 deep t/\Z.mget false m t=false then addP deep from_ dd r (Z.mins m t true) (xs++[t])else addP deep from_ dd r m xs
def reaches_l3 (deep:List Sp)(from_:Pl)(dd:Int)(J:Seen->List Pl->Option Bool)(tos:List Pl)(m:Seen)(xs:List Pl)(hl:tos.length<=4000)(hx:xs.length<=10000):
  F.ab J deep from_ dd tos A.FU m xs 0=match addP deep from_ dd tos m xs with
   |none=>some true
   |some s=>J s.1 s.2:=
 A.lp tos (λf (s:Seen×List Pl) i=>F.ab J deep from_ dd tos f s.1 s.2 i) (λ_ t s=>match addP deep from_ dd t s.1 s.2 with
   |none=>some true
   |some s=>J s.1 s.2) (λk s=>s.2.length<=10000+k)
  (λf s Y=>by rw[F.ab,Qb (by omega),addP])
  (λf s k t ht hk Y O=>by
   rw[F.ab,Qc (by omega),A.ixn ht,Qa,addP,A.lt];simp only[F.bj,F.bi,A.lt,A.gd1 (A.r64n (n:=k) (by omega)),Qv,Q5];by_cases h:t=from_;rw[Qc (show t=from_ from h),Qc h];rw[Qb (show ¬t=from_ from h),Qb h];by_cases L:dd<=Z.mget 0 deep t;rw[Qc (show dd<=Z.mget 0 deep t from L)];by_cases N:Z.mget false s.1 t=false;have V:dd<=Z.mget 0 deep t/\Z.mget false s.1 t=false:=⟨L,N⟩;rw[Qc V,show Z.mget false s.1 t=false from N,Xu,Qc rfl,A.gd1 (by simp only[Qi,Ql];omega)];exact O (Z.mins s.1 t true,s.2++[t]) (by simp only[Qd,Qi,Ql];omega);have W:Z.mget false s.1 t=true:=by cases H:Z.mget false s.1 t with
    |true=>rfl
    |false=>exact absurd H N
   have V: ¬(dd<=Z.mget 0 deep t/\Z.mget false s.1 t=false):=λH=>N H.2;rw[Qb V,show Z.mget false s.1 t=true from W,W9,Qb Q8];exact O s (by omega);rw[Qb (show ¬dd<=Z.mget 0 deep t from L),Qb (λH=>L H.1)];exact O s (by omega))
  (by have:=Qab;omega) (m,xs) (by simp only[];omega)
def un (T:List Pl)(m:Seen):Nat:=(T.filter λt=> !(Z.mget false m t)).length
def un_ins {T:List Pl}{m:Seen}{t:Pl}(H:t∈T)(J:Z.mget false m t=false):un T (Z.mins m t true)+1<=un T m:=by
 unfold un;have mono: ∀(l:List Pl),(l.filter λt'=> !(Z.mget false (Z.mins m t true) t')).length<=(l.filter λt'=> !(Z.mget false m t')).length:=by
  intro l;induction l with
  |nil=>exact Q3 _
  |cons a l L=>
   rw[X5,X5,Ul];by_cases e:a=t;rw[Qc e,e,J];simp only[W9,Qv,Q5,Xu,Wx,Qi];omega;rw[Qb e];split<;>(try simp only[Qi])<;>omega
 induction T with
 |nil=>cases H
 |cons a l L=>
  rw[X5,X5,Ul];have:=mono l;by_cases e:a=t;rw[Qc e,e,J];simp only[W9,Qv,Q5,Xu,Wx,Qi];omega;have:=L ((Qn.1 H).resolve_left λh=>e h.symm);rw[Qb e];split<;>(try simp only[Qi])<;>omega
def Qed {deep:List Sp}{from_:Pl}{dd:Int}: ∀{tos:List Pl} {m:Seen} {xs:List Pl},addP deep from_ dd tos m xs=none->from_∈tos
 | [],_,_,h=>by cases h
 |t::r,m,xs,h=>by
  rw[addP]at h;by_cases e:t=from_;rw[e];exact Qj ..;rw[Qb e]at h;split at h;exact Qh _ (Qed h);exact Qh _ (Qed h)
def Qcm {m:Seen}{t v:Pl}:seen (Z.mins m t true) v↔v=t\/seen m v:=by
 unfold seen;rw[Ul];by_cases e:v=t;rw[Qc e];simp[e];rw[Qb e];simp[e]
def addP_some {deep:List Sp}{from_:Pl}{dd:Int}{T:List Pl}: ∀{tos:List Pl} {m m':Seen} {xs xs':List Pl},(∀t∈tos,t∈T)->addP deep from_ dd tos m xs=some (m',xs')->
  from_∉tos/\(∀v,seen m v->seen m' v)/\(∀v,seen m' v->seen m v\/(v∈tos/\dd<=Z.mget 0 deep v))/\(∀t∈tos,dd<=Z.mget 0 deep t->seen m' t)/\(∀v∈xs,v∈xs')/\(∀v∈xs',v∈xs\/seen m' v)/\(∀v,seen m' v->seen m v\/v∈xs')/\xs'.length+un T m'<=xs.length+un T m
 | [],m,m',xs,xs',_,h=>by
  injection h with h;injection h with Y H;subst Y;subst H
  exact⟨by simp,λv h=>h,λv h=>.inl h,by simp,λv h=>h,λv h=>.inl h,λv h=>.inl h,Q3 _⟩
 |t::r,m,m',xs,xs',W,h=>by
  rw[addP]at h;by_cases e:t=from_;rw[Qc e]at h;cases h;rw[Qb e]at h;by_cases V:dd<=Z.mget 0 deep t/\Z.mget false m t=false;rw[Qc V]at h;obtain⟨a1,a2,a3,a4,a5,a6,a7,a8⟩:=addP_some (λx J=>W x (Qh _ J)) h;have hun:=un_ins (W t (Qj ..)) V.2;refine⟨λH=>(Qn.1 H).elim (λO=>e O.symm) a1,λv L=>a2 v (Qcm.2 (.inr L)),λv L=>?_,λx J N=>?_,λv L=>a5 v (We _ L),λv L=>?_,λv L=>?_,by rw[Qd]at a8;simp only[Qi,Ql]at a8;omega⟩;rcases a3 v L with H|H
  rcases Qcm.1 H with rfl|O
  exact .inr ⟨Qj ..,V.1⟩;exact .inl O;exact .inr ⟨Qh _ H.1,H.2⟩;rcases Qn.1 J with rfl|J
  exact a2 _ (Qcm.2 (.inl rfl));exact a4 x J N;rcases a6 v L with H|H
  rcases Qw.1 H with H|H
  exact .inl H;rw[Qk]at H;subst H;exact .inr (a2 _ (Qcm.2 (.inl rfl)));exact .inr H;rcases a7 v L with H|H
  rcases Qcm.1 H with rfl|O
  exact .inr (a5 _ (Wa _ (Qk.2 rfl)));exact .inl O;exact .inr H;rw[Qb V]at h;obtain⟨a1,a2,a3,a4,a5,a6,a7,a8⟩:=addP_some (λx J=>W x (Qh _ J)) h;refine⟨λH=>(Qn.1 H).elim (λO=>e O.symm) a1,a2,λv L=>?_,λx J N=>?_,a5,a6,a7,a8⟩;rcases a3 v L with H|H
  exact .inl H;exact .inr ⟨Qh _ H.1,H.2⟩;rcases Qn.1 J with rfl|J
  refine a2 _ ?_;unfold seen;cases H:Z.mget false m x with
  |true=>rfl
  |false=>exact absurd ⟨N,H⟩ V
  exact a4 x J N
def blk (g:List Nd)(dd:Int)(p:Pl):Prop:=(Z.mget ((0,0,[],(0,0,(ByteArray.mk #[])),(ByteArray.mk #[]),0,0):Nd) (Qad g) p.1).2.1=14/\(Z.mget ((0,0,[],(0,0,(ByteArray.mk #[])),(ByteArray.mk #[]),0,0):Nd) (Qad g) p.1).2.2.2.2.2.2=dd
def okP (g:List Nd)(steps:List (Pl×List Pl))(deep:List Sp)(dd:Int)(p q:Pl):Prop:=q∈Z.mget [] steps p/\¬blk g dd p/\dd<=Z.mget 0 deep q
def reaches_eq (g:List Nd)(a0:(List (Int×Nd))×(List Int)×(List (Int×Int)))(h0:a0.1=Qad g)(steps:List (Pl×List Pl))(deep:List Sp)(from_:Pl)(dd:Int)(T:List Pl)(hT:T.length<=4000)(hst: ∀p q,q∈Z.mget [] steps p->q∈T)(hsl: ∀p,(Z.mget [] steps p).length<=4000)(hfd:dd<=Z.mget 0 deep from_):
  ∃b,F.aX a0 steps deep from_ dd=some b/\(b=true↔Rch (okP g steps deep dd) from_ from_):=by
 have main: ∀(n f:Nat) (m:Seen) (xs:List Pl),xs.length+un T m<=n->n<f->xs.length<=9000->xs.length+un T m<=9000->(∀v,seen m v->Rch (okP g steps deep dd) from_ v)->(∀t∈xs,t=from_\/seen m t)->(∀v,v=from_\/seen m v->v∉xs->∀w,okP g steps deep dd v w->w≠from_/\seen m w)->
   ∃b,F.ac a0 steps deep from_ dd f m xs=some b/\(b=true↔Rch (okP g steps deep dd) from_ from_):=by
  intro n;induction n with
  |zero=>
   intro f m xs hn hf hx900 _ i1 i2 O;obtain⟨f,rfl⟩: ∃f',f=f'+1:=⟨f-1,by omega⟩;have hx:xs=[]:=Qx (by omega);subst hx;rw[F.ac,Qb (by simp)];refine⟨false,rfl,λh=>(by cases h),λh=>?_⟩;have V: ∀q,Rch (okP g steps deep dd) from_ q->q≠from_/\seen m q:=λq hq=>by
    induction hq with
    |one h6=>exact O from_ (.inl rfl) (by simp) _ h6
    |step h6 h7 W=>exact O _ (.inr W.2) (by simp) _ h7
   exact absurd rfl (V _ h).1
  |succ n ih=>
   intro f m xs hn hf hx900 hu900 i1 i2 O;obtain⟨f,rfl⟩: ∃f',f=f'+1:=⟨f-1,by omega⟩;rw[F.ac];by_cases Y:xs=[];subst Y;rw[Qb (by simp)];refine⟨false,rfl,λh=>(by cases h),λh=>?_⟩;have V: ∀q,Rch (okP g steps deep dd) from_ q->q≠from_/\seen m q:=λq hq=>by
    induction hq with
    |one h6=>exact O from_ (.inl rfl) (by simp) _ h6
    |step h6 h7 W=>exact O _ (.inr W.2) (by simp) _ h7
   exact absurd rfl (V _ h).1;obtain⟨ys,at_,rfl⟩: ∃ys a,xs=ys++[a]:=⟨xs.dropLast,xs.getLast Y,(List.dropLast_concat_getLast Y).symm⟩;have hl:(ys++[at_]).length=ys.length+1:=by simp
   have e1:(((ys++[at_]).length:Int)-1)=(ys.length:Int):=by rw[hl];omega
   have hat:(ys++[at_])[ys.length]?=some at_:=by simp
   rw[Qc (by omega),A.gd1 ⟨by omega,by omega⟩,e1,A.ixn hat,Qa,A.gd1 ⟨by omega,by omega⟩,A.gd1 ⟨by omega,by rw[Q4];omega⟩,A.lt,F.b1,e1,Q4,A.ba,h0];have htake:List.take ys.length (ys++[at_])=ys:=by simp
   rw[htake];have hatr:at_=from_\/seen m at_:=i2 at_ (by simp);by_cases hb:blk g dd at_;rw[Qc (show decide ((Z.mget ((0,0,[],(0,0,(ByteArray.mk #[])),(ByteArray.mk #[]),0,0):Nd) (Qad g) at_.1).2.1=14/\(Z.mget ((0,0,[],(0,0,(ByteArray.mk #[])),(ByteArray.mk #[]),0,0):Nd) (Qad g) at_.1).2.2.2.2.2.2=dd)=true from Wl hb)];refine ih f m ys (by omega) (by omega) (by omega) (by omega) i1 (λt ht=>i2 t (We _ ht)) λv hv L w N=>?_;by_cases e:v=at_;subst e;exact absurd hb N.2.1;exact O v hv (λh=>by
    rcases Qw.1 h with h|h
    exact L h;exact e (Qk.1 h)) w N
   rw[Qb (show ¬decide ((Z.mget ((0,0,[],(0,0,(ByteArray.mk #[])),(ByteArray.mk #[]),0,0):Nd) (Qad g) at_.1).2.1=14/\(Z.mget ((0,0,[],(0,0,(ByteArray.mk #[])),(ByteArray.mk #[]),0,0):Nd) (Qad g) at_.1).2.2.2.2.2.2=dd)=true from λh=>hb (by have h9:=Wv h;exact h9)),A.lt,show Z.mget [] steps at_=Z.mget [] steps at_ from rfl,reaches_l3 deep from_ dd _ _ m ys (hsl at_) (by omega)];cases hadd:addP deep from_ dd (Z.mget [] steps at_) m ys with
   |none=>
    have hfrom:=Qed hadd;have H:okP g steps deep dd at_ from_:=⟨hfrom,hb,hfd⟩;refine⟨true,rfl,λ_=>?_,λ_=>rfl⟩;rcases hatr with h|h
    rw[h]at H;exact .one H;exact .step (i1 at_ h) H
   |some s=>
    obtain⟨m',xs'⟩:=s;obtain⟨a1,a2,a3,a4,a5,a6,a7,a8⟩:=addP_some (T:=T) (hst at_) hadd;simp only[];refine ih f m' xs' (by omega) (by omega) (by omega) (by omega) (λv hv=>?_) (λt ht=>?_) λv hv L w N=>?_;rcases a3 v hv with h|h
    exact i1 v h;have H:okP g steps deep dd at_ v:=⟨h.1,hb,h.2⟩;rcases hatr with J|J
    rw[J]at H;exact .one H;exact .step (i1 at_ J) H;rcases a6 t ht with h|h
    rcases i2 t (We _ h)with J|J
    exact .inl J;exact .inr (a2 t J);exact .inr h;have hv2:v=from_\/seen m v:=by
     rcases hv with h|h
     exact .inl h;rcases a7 v h with J|J
     exact .inr J;exact absurd J L
    by_cases e:v=at_;subst e;exact⟨λh=>a1 (h▸N.1),a4 w N.1 N.2.2⟩;obtain⟨h1,J⟩:=O v hv2 (λh=>by
     rcases Qw.1 h with h|h
     exact L (a5 v h);exact e (Qk.1 h)) w N
    exact⟨h1,a2 w J⟩
 have hu:un T []<=T.length:=Yu _ _;exact main (1+T.length) A.FU [] [from_] (by simp;omega) (by have:=Qab;omega) (by simp) (by simp;omega) (λv h=>by cases h) (λt ht=>.inl (Qk.1 ht)) (λv hv hx w N=>by
  rcases hv with h|h
  exact absurd (Qk.2 h) hx;cases h)
def mget_mem {p:Pl}: ∀{l:List Sp} {v:Int},(l.map (·.1)).Nodup->(p,v)∈l->Z.mget 0 l p=v
 | [],_,_,h=>by cases h
 |(a,w)::r,v,H,h=>by
  rw[Q0,Wu]at H;unfold Z.mget;rcases Qn.1 h with h|h
  injection h with J L;rw[Qc J,L]
  rw[Qb (λe=>H.1 (by rw[<-e];exact List.mem_map_of_mem (f:=(·.1)) h))];exact mget_mem H.2 h
def mhas_app {l:List Sp}{p:Pl}(h:p∉l.map (·.1)):Z.mhas l p=false:=by
 induction l with
 |nil=>rfl
 |cons a r H=>
  rw[Q0,Qn,not_or]at h;obtain⟨q,v⟩:=a;unfold Z.mhas;rw[Qb h.1];exact H h.2
def toOf (E:List Ed)(p:Pl):List Pl:=(E.filter λe=>decide (e.1=p)).map λe=>e.2.1
def turns_l2 (a0:(List (Int×Nd))×(List Int)×(List (Int×Int)))(S:List Sp)(E:List Ed)(O:E.length<=4000): ∃st,(∀p,Z.mget [] st p=toOf E p)/\F.av a0 S E A.FU [] 0=A.mrg (F.aV a0 S st) (some false) S:=by
 have main: ∀(n k f:Nat) (m:List (Pl×List Pl)),k+n=E.length->n<f->(∀p,Z.mget [] m p=toOf (E.take k) p)->∃st,(∀p,Z.mget [] st p=toOf E p)/\F.av a0 S E f m (k:Int)=A.mrg (F.aV a0 S st) (some false) S:=by
  intro n;induction n with
  |zero=>
   intro k f m hk L H;obtain⟨f,rfl⟩: ∃f',f=f'+1:=⟨f-1,by omega⟩;rw[Q7 (by omega)]at H;exact⟨m,H,by rw[F.av,Qb (by omega)]⟩
  |succ n N=>
   intro k f m hk L H;obtain⟨f,rfl⟩: ∃f',f=f'+1:=⟨f-1,by omega⟩;have J:E[k]?=some E[k]:=Qf (by omega);generalize E[k]=x at J;have hlen:(Z.mget [] m x.1).length<=4000:=by
    rw[H];unfold toOf;rw[Q9];have:=Yu (λe:Ed=>decide (e.1=x.1)) (E.take k);rw[Qp]at this;omega
   rw[F.av,Qc (by omega),A.ixn J,Qa,A.gd1 (by rw[show Z.mget [] m x.1=Z.mget [] m x.1 from rfl];simp only[Qi,Ql];omega),A.gd1 (A.r64n (by omega))];refine N (k+1) f _ (by omega) (by omega) λp=>?_;rw[show Z.mins m x.1 (Z.mget [] m x.1++[x.2.1])=Z.mins m x.1 (Z.mget [] m x.1++[x.2.1])from rfl,Ul,Qfo J];unfold toOf;rw[List.filter_append,Xw,X5,List.filter_nil];by_cases e:p=x.1;subst e;rw[Qc rfl,H,Qc (Wl rfl)];rfl;rw[Qb e,H,Qb (by simp only[Qq];exact λh=>e h.symm),Xc,Wk];rfl
 exact main E.length 0 A.FU [] (by omega) (by have:=Qab;omega) (λp=>rfl)
def turns_l3 (g:List Nd)(a0:(List (Int×Nd))×(List Int)×(List (Int×Int)))(S:List Sp)(E:List Ed)(W:S.length<=4000)(N:(S.map (·.1)).Nodup)(O:F.bc a0 g=some E):F.aM a0 g S A.FU [] 0=F.av a0 S E A.FU [] 0:=
 A.lp S (λf (m:List Sp) i=>F.aM a0 g S f m i) (λ_ _ _=>F.av a0 S E A.FU [] 0) (λk m=>m=S.take k)
  (λf m H=>by
   rw[Q7 (Q3 _)]at H;rw[F.aM,Qb (by omega),show F.bc a0 g=some E from O,Qa,H])
  (λf m k x J hk H V=>by
   rw[F.aM,Qc (by omega),A.ixn J,Qa,A.gd1 (A.r64n (by omega))];refine V _ ?_;rw[show Z.mins m x.1 x.2=Z.mins m x.1 x.2 from rfl,Qfr (mhas_app ?_),H,Qfo J];rw[H];intro h;rw[List.map_take]at h;have L:=N;rw[<-Xo k (S.map (·.1)),W8]at L;refine L.2.2 _ h _ ?_ rfl;rw[<-List.map_drop,A.dropx J,Q0];exact Qj ..)
  (by have:=Qab;omega) [] (by simp)
def nodeAt {g:List Nd}(H:Inc g){n:Nd}(L:n∈g)(z:Nd):Z.mget z (Qad g) n.1=n/\find g n.1=(n,true):=by
 obtain⟨j,J⟩:=Wr.1 L;exact⟨H.mget J,Qdu H J⟩
def mem_st {g:List Nd}{d:List Int}{st:List (Pl×List Pl)}(H: ∀p,Z.mget [] st p=toOf (Qan g d) p){p q:Pl}:q∈Z.mget [] st p↔∃e∈Qan g d,e.1=p/\e.2.1=q:=by
 rw[H];unfold toOf;constructor;intro h;obtain⟨e,J,L⟩:=W5.1 h;obtain⟨N,O⟩:=List.mem_filter.1 J;exact⟨e,N,Wv O,L⟩;rintro⟨e,J,L,N⟩;exact W5.2 ⟨e,List.mem_filter.2 ⟨J,Wl L⟩,N⟩
def nodup_S {g:List Nd}{d:List Int}(H:Inc g)(J:Own g):((spots g d).map (·.1)).Nodup:=Qdb d 0 g H λn L=>in2 J L
def ok_iff {g:List Nd}{d:List Int}(O:Inc g)(ho:Own g){dd:Int}{p q:Pl}:okE g (spots g d) (Qan g d) dd p q↔(∃e∈Qan g d,e.1=p/\e.2.1=q)/\dd<=Z.mget 0 (spots g d) q/\(¬blk g dd p\/p.2=2):=by
 have V:=nodup_S (d:=d) O ho;have key: ∀e∈Qan g d,(Qbx g (spots g d) dd e=true↔dd<=Z.mget 0 (spots g d) e.2.1/\(¬blk g dd e.1\/e.1.2=2)):=λe W=>by
  obtain⟨v,Y⟩:=edge_to d W;obtain⟨n,hn,H⟩:=Qhu d W;obtain⟨J,L⟩:=nodeAt O hn ((0,0,[],(0,0,(ByteArray.mk #[])),(ByteArray.mk #[]),0,0):Nd);unfold Qbx blk;rw[mget_mem V Y,atS_mem V Y,H,L,J,Qr,Qq,Yd,Yd,Qq,Qq,Qq];constructor;rintro⟨a,(b|b)|b⟩;exact⟨a,.inl λh=>b h.1⟩;exact⟨a,.inl λh=>b h.2⟩;exact⟨a,.inr b⟩;rintro⟨a,b|b⟩;by_cases c:n.2.1=14;exact⟨a,.inl (.inr λh=>b ⟨c,h⟩)⟩;exact⟨a,.inl (.inl c)⟩;exact⟨a,.inr b⟩
 constructor;rintro⟨e,H,J,L,N⟩;have:=(key e H).1 N;rw[J,L]at this;exact⟨⟨e,H,J,L⟩,this⟩;rintro⟨⟨e,H,J,L⟩,N⟩;refine⟨e,H,J,L,(key e H).2 ?_⟩;rw[J,L];exact N
def rch_iff {g:List Nd}{d:List Int}{st:List (Pl×List Pl)}(hi:Inc g)(V:Own g)(N: ∀p,Z.mget [] st p=toOf (Qan g d) p){dd:Int}{a:Pl}:Rch (okP g st (spots g d) dd) a a↔Rch (okE g (spots g d) (Qan g d) dd) a a:=by
 have up: ∀{p q},okP g st (spots g d) dd p q->okE g (spots g d) (Qan g d) dd p q:=λ{p q} h=>
  (ok_iff hi V).2 ⟨(mem_st N).1 h.1,h.2.2,.inl h.2.1⟩
 have down: ∀{p q},okE g (spots g d) (Qan g d) dd p q->(p.2≠2\/¬blk g dd p)->okP g st (spots g d) dd p q:=λ{p q} h H=>by
  obtain⟨J,W,Y⟩:=(ok_iff hi V).1 h;refine⟨(mem_st N).2 J,?_,W⟩;rcases H with H|H
  exact Y.resolve_right H;exact H
 have blk_same: ∀{p q:Pl},p.1=q.1->(blk g dd p↔blk g dd q):=λ{p q} e=>by unfold blk;rw[e]
 constructor;intro h;have: ∀b,Rch (okP g st (spots g d) dd) a b->Rch (okE g (spots g d) (Qan g d) dd) a b:=λb h=>by
  induction h with
  |one h=>exact .one (up h)
  |step _ H L=>exact .step L (up H)
 exact this a h;intro h;have key: ∀b,Rch (okE g (spots g d) (Qan g d) dd) a b->Rch (okP g st (spots g d) dd) a b\/(a.2=2/\blk g dd a):=λb h=>by
  induction h with
  |one h=>
   by_cases H:a.2=2/\blk g dd a;exact .inr H;exact .inl (.one (down h (by
    by_cases J:a.2=2;exact .inr λW=>H ⟨J,W⟩;exact .inl J)))
  | @step b c _ H L=>
   rcases L with L|L
   refine .inl (.step L (down H ?_));by_cases J:b.2=2;refine .inr λW=>?_;have hlast: ∃p,okP g st (spots g d) dd p b:=by cases L with
    |one h=>exact⟨_,h⟩
    |step _ h=>exact⟨_,h⟩
   obtain⟨p,hp⟩:=hlast;obtain⟨e,Y,h6,h7⟩:=(mem_st N).1 hp.1;have O:=edge_out d V Y (by rw[h7];exact J);rw[h6,h7]at O;exact hp.2.1 ((blk_same O.1).2 W);exact .inl J;exact .inr L
 rcases key a h with H|⟨H,J⟩
 exact H;have hlast: ∃p,okE g (spots g d) (Qan g d) dd p a:=by cases h with
  |one h=>exact⟨_,h⟩
  |step _ h=>exact⟨_,h⟩
 obtain⟨p,hp⟩:=hlast;obtain⟨⟨e,Y,h6,h7⟩,_,h9⟩:=(ok_iff hi V).1 hp;have O:=edge_out d V Y (by rw[h7];exact H);rw[h6,h7]at O;rcases h9 with h9|h9
 exact absurd ((blk_same O.1).2 J) h9;exact absurd h9 O.2
def Qhl {g:List Nd}(J:Own g)(L:g.length<=40)(d:List Int): ∀(m k:Nat),k+m=g.length->(Qbc g d k (g.drop k)).length<=83*m
 |0,k,h=>by rw[Wg (by omega)];exact Q3 0
 |m+1,k,h=>by
  have H:g[k]?=some g[k]:=Qf (by omega);generalize g[k]=x at H;have N:=in2 J (Qg H);have O:=Qbn x.1 g λx H=>in2 J H;have V:=Qhl J L d m (k+1) (by omega);rw[A.dropx H,Qbc];split;omega;rw[Qd,Qd,Qie,outE,Q9];omega
def Qfk {g:List Nd}(H:Own g)(d:List Int): ∀(k:Nat) (l:List Nd),(∀n∈l,n∈g)->∀sp∈spotsF g d k l,0<=sp.1.2/\sp.1.2<=2
 |_,[],_,_,h=>by cases h
 |k,n::r,J,sp,h=>by
  have N:=in2 H (J n (Qj ..));unfold spotsF at h;rcases Qw.1 h with h|h
  have:=Qdy g d n.1 0 _ sp.1 sp.2 h;omega;rcases Qw.1 h with h|h
  unfold outS at h;split at h;rw[Qk]at h;subst h;simp;cases h;exact Qfk H d (k+1) r (λx L=>J x (Qh _ L)) sp h
def turns_same (g:List Nd)(d:List Int)(a0:(List (Int×Nd))×(List Int)×(List (Int×Int)))(h0:a0.1=Qad g)(hb:Few g)(hi:Inc g)(hfed:Fed g)(L:Own g)(V:InB d)(hr:RelD g d a0.2.2)(hd:d.length=g.length):
  ∃b,F.bJ a0 g=some b/\(∀W Y,F.c4 g W Y (spots g d) (Qan g d) A.FU 0=some (if b=true then([],[],81)else(W.1,Y.1,0)))/\(b=true↔∃sp∈spots g d,Rch (okE g (spots g d) (Qan g d) sp.2) sp.1 sp.1):=by
 have hlen:=hb.1;have hS:(spots g d).length<=120:=by
  have:=Qen L d g.length 0 (by omega);rw[Wh]at this;unfold spots;omega
 have hE:(Qan g d).length<=4000:=by
  have:=Qhl L hlen d g.length 0 (by omega);rw[Wh]at this;unfold Qan;omega
 have hN:=nodup_S (d:=d) hi L;have hok: ∀sp∈spots g d,SpOk g sp:=by
  have:=o_bn (d:=d) (g:=g) V g.length 0 (by omega);rw[Wh]at this;exact this
 obtain⟨st,N,hl2⟩:=turns_l2 a0 (spots g d) (Qan g d) hE;have hto: ∀p q,q∈Z.mget [] st p->q∈(Qan g d).map λe=>e.2.1:=λp q h=>by
  obtain⟨e,H,_,h3⟩:=(mem_st N).1 h;exact W5.2 ⟨e,H,h3⟩
 have htl: ∀p,(Z.mget [] st p).length<=4000:=λp=>by
  rw[N];unfold toOf;rw[Q9];exact Wq (Yu _ _) hE
 have hval: ∀sp∈spots g d,∃b,F.aX a0 st (spots g d) sp.1 sp.2=some b/\F.eC g (spots g d) (Qan g d) sp=some b/\(b=true↔Rch (okE g (spots g d) (Qan g d) sp.2) sp.1 sp.1):=λsp J=>by
  obtain⟨b,H,O⟩:=reaches_eq g a0 h0 st (spots g d) sp.1 sp.2 ((Qan g d).map λe=>e.2.1) (by rw[Q9];exact hE) hto htl (by rw[mget_mem hN (p:=sp.1) (v:=sp.2) J];exact Yz _);obtain⟨b',h3,h4⟩:=round_eq g (spots g d) (Qan g d) sp hb hi (by omega) hE (λe he=>Qhu d he);refine⟨b,H,?_,O.trans (rch_iff hi L N)⟩;rw[h3];congr 1;rw[Yc,h4,O];exact(rch_iff hi L N).symm
 let p:Sp->Bool:=λsp=>(F.aX a0 st (spots g d) sp.1 sp.2).getD false;have hp: ∀sp∈spots g d,(p sp=true↔Rch (okE g (spots g d) (Qan g d) sp.2) sp.1 sp.1):=λsp J=>by
  obtain⟨b,H,_,h3⟩:=hval sp J;rw[show p sp=b from Xd (λo=>Option.getD o false) H];exact h3
 refine⟨(spots g d).any p,?_,λW Y=>?_,?_⟩;unfold F.bJ;rw[show F.bI a0 g=_ from spotsP_eq g d a0 hb hfed L hr,Qa,turns_l3 g a0 (spots g d) (Qan g d) (by omega) hN (edgesP_eq g d a0 hb hfed L V hr),hl2];have:=A.mrg_any (body:=F.aV a0 (spots g d) st) (rest:=some false) (y:=true) (p:=p) (l:=spots g d) λsp J=>by
  obtain⟨b,H,_,_⟩:=hval sp J;obtain⟨⟨j,n,hn,hid⟩,hdd⟩:=hok sp J;have hng:=Qg hn;have hids:=own_id (L n hng);have hport:0<=sp.1.2/\sp.1.2<=2:=Qfk L d 0 g (λn hn=>hn) sp J;unfold F.aV;have hh:decide (A.h6 sp.1.1)=true/\decide (A.h6 sp.1.2)=true:=⟨Wl (Y9 ⟨by omega,by omega⟩),Wl (Y9 ⟨by omega,by omega⟩)⟩;rw[A.gd1 hh,show F.aX a0 st (spots g d) sp.1 sp.2=_ from H,Qa,show p sp=b from Xd (λo=>Option.getD o false) H]
 rw[this];cases (spots g d).any p<;>rfl;have loop:=A.lp0 (spots g d) (λf y=>F.c4 g W Y (spots g d) (Qan g d) f y) (λ_ t=>some (if t.any p=true then([],[],81)else(W.1,Y.1,0)))
  (λf=>by rw[F.c4,Qb (by omega)];rfl)
  (λf k x hx hk ih=>by
   obtain⟨b,H,O,_⟩:=hval x (Qg hx);rw[F.c4,Qc (by omega),A.ixn hx,Qa,show F.eC g (spots g d) (Qan g d) x=_ from O,Qa,Xs,show p x=b from Xd (λo=>Option.getD o false) H];cases b with
   |true=>rfl
   |false=>rw[Qb Q8,A.gd1 (A.r64n (by omega)),ih,Xt])
  (by have:=Qab;omega)
 exact loop;rw[Yx];exact⟨λ⟨sp,H,O⟩=>⟨sp,H,(hp sp H).1 O⟩,λ⟨sp,H,O⟩=>⟨sp,H,(hp sp H).2 O⟩⟩
def own_of {g:List Nd}(h:okL g 0 0 g=true):Own g:=λn J=>by
 obtain⟨j,L⟩:=Wr.1 J;have H:=Qic g g.length 0 (by omega);rw[Wh,show lastOf g 0=0 from rfl]at H;have:=H.1 h j n (by omega) L;cases hq:ownQ n with
 |true=>rfl
 |false=>exact absurd (.inr (.inl hq)) this
def Qfm (g:List Nd): ∀(r:Nat) (done:List Bool) (l l':List Int),Qbz g r done l=some l'->Plc g l->Plc g l'
 |0,done,l,l',h,hp=>by injection h with h;subst h;exact hp
 |r+1,done,l,l',h,hp=>by
  rw[Qbz]at h;by_cases J:Qah g done 0 g (-1)<0;rw[Qc J]at h;cases h
  ·rw[Qb J]at h
   by_cases L:g.length=0
   ·have:=Qet g done 0 g (-1) (by omega)
    have e:g=[]:=Qx L;subst e;simp[Qah]at J
   ·have N:=Qet g done 0 g (-1) (by omega) (by omega)
    refine Qfm g r _ _ l' h λi p H=>?_;rw[List.getElem?_append]at H;split at H;exact hp i p H
    ·rename_i O
     have:i-l.length=0:=by
      have:=(Qe.1 H).1;simp only[Qi,Ql]at this;omega
     rw[this]at H;injection H with H
     subst H;exact⟨(Qah g done 0 g (-1)).toNat,g[(Qah g done 0 g (-1)).toNat]'(by omega),by omega,Qf (by omega)⟩
structure Whole (g:List Nd) (l d:List Int) (dm:List (Int×Int)):Prop where
 inc:Inc g
 fed:Fed g
 own:Own g
 rel:RelD g d dm
 inb:InB d
 dlen:d.length=g.length
 key:KeyD g l dm
 plc:Plc g l
 llen:l.length=g.length
 ord:Qbz g g.length (List.replicate g.length false) []=some l
 dep:Qba g l (List.replicate g.length 0)=some d
 lps:Qbp g d g=true
 nort: ∀sp∈spots g d,¬Rch (okE g (spots g d) (Qan g d) sp.2) sp.1 sp.1
 kin:g.all (λn=>n.2.2.1.all (inOk g))=true
 okr:okR g 0 g=true
 chk:g.all (λn=>decide (chk n.2.1 n.2.2.2.1=0))=true
 l32:g.length<=32
def whole_same (g:List Nd)(O:Few g):
  (∃e,e≠0/\F.cH g=some (none,e)/\F.ej g=some ([],[],e))\/
  (∃l d dm,F.cH g=some (some (Qad g,l.map (idAt g),dm),0)/\F.ej g=some (l,d,0)/\Whole g l d dm):=by
 rw[whole_P g O];unfold F.ej;rw[parts_eq g O,ok_eq];by_cases N:(32:Int)<(g.length:Int);rw[Qc N,Qc N];exact .inl ⟨80,by decide,rfl,rfl⟩;rw[Qb N,Qb N];by_cases H:okR g 0 g=true;case neg=>rw[Qb H,Qb H];exact .inl ⟨80,by decide,rfl,rfl⟩
 rw[Qc H,Qc H];by_cases L:g.all (λn=>decide (chk n.2.1 n.2.2.2.1=0))=true;case neg=>rw[Qb L,Qb L];exact .inl ⟨60,by decide,rfl,rfl⟩
 rw[Qc L,Qc L];by_cases J:g.all (λn=>n.2.2.1.all (inOk g))=true;case neg=>rw[Qb J,Qb J];exact .inl ⟨80,by decide,rfl,rfl⟩
 rw[Qc J,Qc J,Qa,Qb (by decide)];have V:=ok_inc H;have hfed:=fed_of J;have W:=own_of (by rw[ok_eq];exact H);have hlen:=O.1;unfold sortP;rcases order_sort O V hfed (Qad g)with⟨l,Y,h2,h3,h4⟩|⟨Y,p,h2⟩
 case inr=>rw[Y,h2];exact .inl ⟨81,by decide,rfl,rfl⟩
 rw[Y,h2];simp only[Qa,W9,Qv,Q5];have hplc:Plc g l:=Qfm g g.length _ [] l h4 λi p h=>by cases h
 rcases Qiv g l O V hfed W (by omega) hplc with⟨d,dm,d1,d2,d3,d4,d5,d6,d7,d8⟩|⟨d1,p,d2⟩
 case inr=>rw[d1,d2];exact .inl ⟨80,by decide,rfl,rfl⟩
 rw[d1,d2];simp only[Qa,W9,Qv,Q5];obtain⟨b,t1,t2,t3⟩:=turns_same g d (Qad g,l.map (idAt g),dm) rfl O V hfed W d4 d3 d5;rw[t1,spotsR_eq g d O hfed W d5];simp only[Qa];rw[edgesR_eq g d O V W d4];simp only[Qa,t2];cases b with
 |true=>exact .inl ⟨81,by decide,rfl,rfl⟩
 |false=>exact .inr ⟨l,d,dm,rfl,rfl,V,hfed,W,d3,d4,d5,d6,hplc,h3,h4,d8,d7,λsp Y h2=>Bool.noConfusion (t3.2 ⟨sp,Y,h2⟩),J,H,L,by omega⟩
end Go.Proofs.YtpoabedecgeamaaGreatDoor
end
section
namespace Go.Proofs.YtpoabedecgeamaaGreatDoor
open Go.RowKit Go.Codec
def check_same (g:List Codec.Node)(L:Graph.Few g): ∃e,F.ca g=some e/\F.e3 g=some e:=by
 unfold F.ca F.e3;rcases whole_same g L with⟨e,N,H,J⟩|⟨l,d,dm,H,J,W⟩
 rw[H,J];exact⟨e,rfl,rfl⟩;rw[H,J];exact⟨0,rfl,rfl⟩
def few_of {l:List Codec.Node}(h:l.length<=40/\∀a∈l,sNode a):Graph.Few l:=⟨h.1,λx H=>⟨(h.2 x H).1,(h.2 x H).2.2,(h.2 x H).2.1⟩⟩
def gnodes {l:List Codec.Node}(h:l.length<=40/\∀a∈l,sNode a):Qip gNode l/\(Qac Qaj l).length<=3000000:=by
 have e:=Qay Qaj 60000 l λa H=>node_len a (h.2 a H);refine⟨⟨by omega,λa H=>?_⟩,by omega⟩;obtain⟨J,L,N⟩:=h.2 a H;exact⟨by omega,by unfold gFn Qbj;omega,by unfold Qbj;omega⟩
def Qev (l:List Codec.Node)(L:okList okNode l)(h:l.length<=40/\∀a∈l,sNode a){e:Int}(N:F.ca l=some e):F.dE l=some (if e≠0 then([],e)else(Qac Qaj l,0)):=by
 unfold F.dE;rw[N,Qa];by_cases H:e≠0;rw[Qc H,Qc H];rw[Qb H,Qb H];obtain⟨J,O⟩:=gnodes h;unfold F.aH F.dJ;rw[pNodes [] l J.1 L.2 J.2 (by unfold BB;simp only[Wc];omega),Qa];rfl
def PA_Gr:PA F.bS (pL pNd):=PA_cg (g:=F.g) (λs=>by
 unfold F.bS;show(F.g s).bind _=_;cases F.g s with
 |none=>rfl
 |some v=>cases v<;>rfl) PA_Tn
def Qce (bs:List UInt8)(J:bs.length<=70368744177664):F.cl bs=if(fin (pL pNd) [] bs).2=0 then(F.ca (fin (pL pNd) [] bs).1).bind λe=>some (if e≠0 then([],e)else((fin (pL pNd) [] bs).1,0))else some ([],(fin (pL pNd) [] bs).2):=by
 have L:F.aA bs=some (fin (pL pNd) [] bs):=P_fin PA_Gr (PF_L PF_Nd) [] bs J F.a4 (λe x y=>rfl);unfold F.cl F.bD;rw[L,Qa];by_cases H:(fin (pL pNd) [] bs).2=0;rw[Qc H,Qc H];congr 1;funext e;split<;>rfl;rw[Qb H,Qb H,Qc H]
def Qij (m:Codec.Msg)(H:okMsg m)(J:gMsg m)(L:(Qbq m).length<=BB):F.bA m=some (Qbq m,0):=by
 unfold F.bA F.am;show(((F.bd [] m).bind _).bind _)=_;rw[pMsg [] m H J (by simpa using L),Qa];rfl
def Qeh (l:List Codec.Entry)(J:okList okEntry l)(H:Qip Qea l)(L:(Qac Qai l).length<=BB):F.cB l=some (Qac Qai l,0):=by
 unfold F.cB F.az F.de;rw[pEntries [] _ H.1 J.2 H.2 (by simpa using L),Qa];rfl
def lM_s {m:Codec.Msg}(h:sMsg m):lM m:=by
 obtain⟨⟨J,L⟩,c1,⟨n1,N⟩,⟨O,V⟩,W,d1,d2⟩:=h;exact⟨by omega,by omega,⟨by omega,⟨by omega,λn H=>by have:=(d2 n H).1;omega⟩,by omega⟩,by omega⟩
def back3 (bs:List UInt8)(N:bs.length<=3000):F.bN bs=some true:=by
 unfold F.bN;rw[Qib bs (by omega),Qa];by_cases H:(fin (pL pEn) [] bs).2=0;rw[Qc H];obtain⟨e,x,k,J,L⟩:=fin_IV (IV_L IV_En) (PF_L PF_En) H;have q:=oL (Qgv PQ_Eno bs x k J);rw[<-L]at q;rw[Qeh _ q.1 q.2 (by rw[e];unfold BB;omega),Qa,Qb (by simp),Qfv,Qa,e];unfold F.cs F.cr;simp;rw[Qb H];rfl
def back5 (bs:List UInt8)(J:bs.length<=3000):F.bO bs=some true:=by
 unfold F.bO;rw[pMsg_eq bs (by omega),Qa];by_cases H:(fin pMs zM bs).2=0;rw[Qc H];obtain⟨e,x,k,L,N⟩:=fin_IV IV_Ms PF_Ms H;have q:=PQ_Mso bs x k L;rw[<-N]at q;rw[show F.bA _=F.bA (fin pMs zM bs).1 from rfl,Qij _ q.1 q.2 (by rw[e];unfold BB;omega),Qa,Qb (by simp),Qfv,Qa,e];unfold F.ct;rw[Qb (by simp),back3 bs J];rw[Qb H,back3 bs J]
def codecBack_plain (m:Codec.Msg)(g:List Codec.Node)(bs:List UInt8)(W:Z.tyMsg.ok m)(Y:(Z.Ty.slice Z.tyNode).ok g)(h2:(Z.Ty.slice Z.Ty.byte).ok bs):F.da m g bs=some true:=by
 have O:=Z.ok_msg W;have og:okList okNode g:=Z.ok_list (t:=Z.tyNode) Y λ_ h=>Z.ok_node h;unfold F.da;rw[o_bN,Qa,Qb (by simp)];rw[show F.dm _=F.dm m from rfl];obtain⟨b,hb,J⟩:=o_bW m;obtain⟨c,hc,H⟩:=Qek g;rw[hb,Qa,hc,Qa];have bad:F.aZ m g bs true=some true:=by
  unfold F.aZ;rw[Qc rfl,o_bN];rfl
 cases b with
 |false=>rw[Qc (show(!false)=true from rfl),bad]
 |true=>
  rw[Qb (by simp)];by_cases L:c=true/\bs.length<=3000
  ·have J:=J rfl
   have H:=H L.1;rw[L.1,Wp (show ¬(3000:Int)<bs.length by omega)];unfold F.aZ;rw[Qb (by simp)];obtain⟨gm,lm⟩:=sMsg_g J;rw[show F.bA _=F.bA m from rfl,Qhb m O J,Qa];rw[pMsg_eq _ lm,fin_RT (RT_Ms O gm) zM,Qa,Qb (by simp)];rw[show F.cJ _ _=F.cJ m m from rfl,sameMsg m (lM_s J),Qa];unfold F.cv;rw[Qb (by simp)];obtain⟨e,V,_⟩:=check_same g (few_of H);rw[Qev g og H V,Qa];by_cases N:e≠0;rw[Qc N,Qb N,back5 bs L.2]
   ·rw[Qb N,Qc rfl]
    obtain⟨gg,lg⟩:=gnodes H;have hf:fin (pL pNd) [] (Qac Qaj g)=(g,0):=fin_RT (RT_L gg.1 λn H=>RT_Nd (og.2 n H) (gg.2 n H)) [];rw[Qce _ (by dsimp only;omega)]
    (try dsimp only)
    rw[hf,Qc rfl,V,Qa,Qb N,Qa,Qb (by simp)];rw[Qhm g gg.1 λn H=>(gg.2 n H).1,Qa];unfold F.cu;rw[Qb (by simp),back5 bs L.2]
  rw[show(bif !c then true else decide ((3000:Int)<(bs.length:Int)))=true by
   cases c with
   |false=>rfl
   |true=>
    have: ¬bs.length<=3000:=λh=>L ⟨rfl,h⟩;simp only[W9,cond_false,Qq];omega,bad]
end Go.Proofs.YtpoabedecgeamaaGreatDoor
end
section
namespace Go.Z
open Go.RowKit
def OpenT (P:Program)(T:TypeId)(t:Ty):Prop:=
 P.cellsOf T=t.size/\∀(H:Type) (enc:TypeId×Value->H) (w:World) (base:Nat) (spare:Nat->Bool) (held:Bool) (fuel:Nat) (cs:List Value) (x:DataW H×List MemPlace),
  DataW.trod enc P w base spare held fuel T cs=some x->∃y:t.den,t.rep w (nt []) cs y
section
variable {P:Program}{T e:TypeId}
def ot_int {k:IntKind}(L:P.cellsOf T=1)(N:P.underlying T=some (.int k)):OpenT P T (.int k):=⟨L,λH enc w base spare held fuel cs x h=>by
 obtain⟨n,rfl,_,J⟩:=DataW.trod_int N h;refine⟨n,rfl,?_⟩;simp only[Lit.wf,Qr,Qq]at J;exact J⟩
def ot_byte (J:P.cellsOf T=1)(L:P.underlying T=some (.int .u8)):OpenT P T .byte:=⟨J,λH enc w base spare held fuel cs x h=>by
 obtain⟨n,rfl,_,N⟩:=DataW.trod_int L h;simp[Lit.wf,IntKind.min,IntKind.max,IntKind.signed,IntKind.bits]at N;exact⟨UInt8.ofNat n.toNat,Xd (λz=>[Value.int .u8 z]) (u8_of (by omega))⟩⟩
def ot_bool (J:P.cellsOf T=1)(L:P.underlying T=some .bool):OpenT P T .bool:=⟨J,λH enc w base spare held fuel cs x h=>by
 obtain⟨b,rfl,_⟩:=DataW.trod_bool L h;exact⟨b,rfl⟩⟩
def ot_str (J:P.cellsOf T=1)(L:P.underlying T=some .string):OpenT P T .str:=⟨J,λH enc w base spare held fuel cs x h=>by
 obtain⟨s,rfl,_,N⟩:=DataW.trod_string L h;exact⟨s,rfl,N⟩⟩
def OpenPs (P:Program):List (TypeId×Nat)->Nat->Ty->Prop
 | [],_,_=>False
 | [(T,o')],o,t=>o'=o/\OpenT P T t
 |(T,o')::p::ps,o,.pair a b=>o'=o/\OpenT P T a/\OpenPs P (p::ps) (o+a.size) b
 |_::_::_,_,_=>False
def Qid {H:Type}{enc:TypeId×Value->H}{w:World}{base:Nat}{spare:Nat->Bool}{held:Bool}{fuel:Nat}{cs:List Value}:
  ∀(ps:List (TypeId×Nat)) (o:Nat) (t:Ty),OpenPs P ps o t->(∀p∈ps,∃x,DataW.trod enc P w base spare held fuel p.1 ((cs.drop p.2).take (P.cellsOf p.1))=some x)->∃y:t.den,t.rep w (nt []) ((cs.drop o).take t.size) y
 | [],_,_,h,_=>h.elim
 | [(T,o')],o,t,h,J=>by
  obtain⟨rfl,⟨L,N⟩⟩:=h;obtain⟨x,J⟩:=J (T,o') (Qk.2 rfl);rw[<-L];exact N _ _ _ _ _ _ _ _ _ J
 |(T,o')::p::ps,o,.pair a b,h,J=>by
  obtain⟨rfl,⟨L,N⟩,W⟩:=h;obtain⟨x,Y⟩:=J (T,o') (Qj ..);obtain⟨ya,O⟩:=N _ _ _ _ _ _ _ _ _ Y;obtain⟨yb,V⟩:=Qid (p::ps) _ b W λq hq=>J q (Qh _ hq);refine⟨(ya,yb),_,_,?_,O,V⟩;show(cs.drop o').take (a.size+b.size)=_;rw[L,List.take_add,Xj]
 |_::_::_,_,.int _,h,_=>h.elim
 |_::_::_,_,.byte,h,_=>h.elim
 |_::_::_,_,.bool,h,_=>h.elim
 |_::_::_,_,.str,h,_=>h.elim
 |_::_::_,_,.slice _,h,_=>h.elim
def ot_struct {fs:List Field}{t:Ty}(O:P.cellsOf T=t.size)(V:P.underlying T=some (.struct fs.toArray))(h:OpenPs P (fs.map λf=>(f.type,f.offset)) 0 t):OpenT P T t:=⟨O,λH enc w base spare held fuel cs x W=>by
 obtain⟨xs,n,_,_,hl,Y,hf⟩:=DataW.trod_struct V W;have J:cs=(cs.drop 0).take t.size:=by rw[Wh,Q7 (by omega)]
 rw[J];refine Qid (fuel:=n) (enc:=enc) (base:=base) (spare:=spare) (held:=held) _ 0 t h λp hp=>?_;obtain⟨f,L,rfl⟩:=W5.1 hp;obtain⟨i,N,he⟩:=Xx L;have h1:=hf i f (by rw[Xe,Qf N,he]);rw[h1,Qf (by rw[Y];simpa using N)];exact⟨_,rfl⟩⟩
def ot_array {n c:Nat}{t:Ty}(L:P.cellsOf T=t.size)(N:P.underlying T=some (.array n e))(O:P.cellsOf e=c)(h:OpenPs P ((List.range n).map λi=>(e,i*c)) 0 t):OpenT P T t:=⟨L,λH enc w base spare held fuel cs x V=>by
 subst O;obtain⟨xs,m,_,_,hl,hs,W⟩:=DataW.trod_array N V;have J:cs=(cs.drop 0).take t.size:=by rw[Wh,Q7 (by omega)]
 rw[J];refine Qid (fuel:=m) (enc:=enc) (base:=base) (spare:=spare) (held:=held) _ 0 t h λp hp=>?_;obtain⟨i,Y,rfl⟩:=W5.1 hp;have hi':=List.mem_range.1 Y;rw[W i hi',Qf (by omega)];exact⟨_,rfl⟩⟩
def rows_of {t:Ty}{w:World}{g:Addr}: ∀(n:Nat),(∀i,i<n->∃(cs:List Value) (y:t.den),cs.length=t.size/\(∀j u,cs[j]?=some u->w.cell? (g.add (i*t.size+j))=some u)/\t.rep w (nt []) cs y)->
  ∃(cells:List Value) (ys:List t.den),ys.length=n/\cells.length=n*t.size/\(∀j u,cells[j]?=some u->w.cell? (g.add j)=some u)/\∀(i:Nat) (y:t.den),ys[i]?=some y->t.rep w (nt []) ((cells.drop (i*t.size)).take t.size) y
 |0,_=>⟨[],[],rfl,by simp,by simp,by simp⟩
 |n+1,h=>by
  obtain⟨cells,ys,O,L,V,W⟩:=rows_of n λi H=>h i (by omega);obtain⟨cs,y,c1,c2,c3⟩:=h n (by omega);refine⟨cells++cs,ys++[y],by simp[O],by rw[Qd,L,c1,Nat.succ_mul],λj u J=>?_,?_⟩;by_cases N:j<cells.length;rw[Wb N]at J;exact V j u J;rw[W6 (by omega)]at J;have:=c2 _ u J;rwa[L,show n*t.size+(j-n*t.size)=j by omega]at this;refine Qbw (xs:=ys) (ys:=[y]) (by rw[L,O]) W λi y' H=>?_;have:i=0:=by have:=(Qe.1 H).1;simp at this;omega
  subst this;simp at H;subst H;rw[Nat.zero_mul,Wh,Q7 (by omega)];exact c3
def ot_slice {t:Ty}(hc:P.cellsOf T=1)(ht:P.underlying T=some (.slice e))(h:OpenT P e t):OpenT P T (.slice t):=⟨hc,λH enc w base spare held fuel cs x hx=>by
 rcases DataW.trod_slice ht hx with⟨rfl,_⟩|⟨ad,len,cap,elems,rest,n,_,rfl,_,hb,hl,hm,hlen,Y,_,_⟩
 exact⟨[],rep_nil _⟩;have each: ∀i,i<len->∃(cs:List Value) (y:t.den),cs.length=t.size/\(∀j u,cs[j]?=some u->w.cell? (ad.add (i*t.size+j))=some u)/\t.rep w (nt []) cs y:=λi hi=>by
  have J:=Y i hi;rw[Qf (by omega),Yg]at J;obtain⟨cs',N,O⟩:=J;obtain⟨_,V,h5⟩:=World.cells?_some N;obtain⟨y,hy⟩:=h.2 _ _ _ _ _ _ _ _ _ O;rw[h.1]at V h5;refine⟨cs',y,V,λj u W=>?_,hy⟩;have L:=(Qe.1 W).1;have:=h5 j (by omega);rw[add_add]at this;rw[this,W]
 obtain⟨cells,ys,J,N,O,V⟩:=rows_of len each;by_cases hz:len=0;subst hz;have:ys=[]:=Qx J;subst this;exact⟨[],some ad,cap,[],rfl,by simp,hm,by simp,.inl rfl,by simp⟩;have hp:=Qat t;have L:0<cells.length:=by rw[N];exact Nat.mul_pos (by omega) hp
 have h0:=O 0 _ (Qf L);have hspot:=World.cell?_spot h0;obtain⟨b,off,spot⟩:=ad;simp only[Addr.add]at hspot;subst hspot;refine⟨ys,some ⟨b,off,none⟩,cap,cells,by rw[J],by omega,hm,by rw[J];exact N,.inr ⟨b,off,rfl,by simp[nt],λj u W=>?_⟩,V⟩;have:=O j u W;rwa[Addr.add_lit]at this⟩
end
end Go.Z
end
section
namespace Go.Proofs.YtpoabedecgeamaaGreatDoor.codecBackDone
open Go.ChangeShapes Go.WideShapes Go.ChangeAt Go.RowKit
def own:ownKnob Tryz.prog.godebug=none:=by kernel_rfl
def laidOut:laidOutB Tryz.prog=true:=by kernel_rfl
def ot3:Z.OpenT Tryz.prog 3 A.ti:=Z.ot_int (by kernel_rfl) Tryz.underlying3
def ot2:Z.OpenT Tryz.prog 2 A.ti:=Z.ot_int (by kernel_rfl) Tryz.underlying2
def ot37:Z.OpenT Tryz.prog 37 T36:=Z.ot_struct (by kernel_rfl) Tryz.underlying37 ⟨rfl,ot3,rfl,ot3⟩
def ot38:Z.OpenT Tryz.prog 38 T38:=Z.ot_array (c:=1) (by kernel_rfl) Tryz.underlying38 (by kernel_rfl) (show Z.OpenPs _ [(2,0),(2,1),(2,2),(2,3)] 0 _ from⟨rfl,ot2,rfl,ot2,rfl,ot2,rfl,ot2⟩)
def ot40:Z.OpenT Tryz.prog 40 T39:=Z.ot_struct (by kernel_rfl) Tryz.underlying40 ⟨rfl,ot2,rfl,ot3,rfl,ot38⟩
def ot9:Z.OpenT Tryz.prog 9 Z.Ty.str:=Z.ot_str (by kernel_rfl) Tryz.underlying9
def ot86:Z.OpenT Tryz.prog 86 T85:=Z.ot_struct (by kernel_rfl) Tryz.underlying86 ⟨rfl,ot2,rfl,ot9⟩
def ot41:Z.OpenT Tryz.prog 41 (Z.Ty.slice T85):=Z.ot_slice (by kernel_rfl) Tryz.underlying41 ot86
def ot96:Z.OpenT Tryz.prog 96 T95:=Z.ot_struct (by kernel_rfl) Tryz.underlying96 ⟨rfl,ot37,rfl,ot40,rfl,ot2⟩
def ot42:Z.OpenT Tryz.prog 42 (Z.Ty.slice T95):=Z.ot_slice (by kernel_rfl) Tryz.underlying42 ot96
def ot43:Z.OpenT Tryz.prog 43 A.TI:=Z.ot_slice (by kernel_rfl) Tryz.underlying43 ot3
def ot63:Z.OpenT Tryz.prog 63 T62:=Z.ot_struct (by kernel_rfl) Tryz.underlying63 ⟨rfl,ot3,rfl,ot2,rfl,ot9⟩
def ot65:Z.OpenT Tryz.prog 65 T64:=Z.ot_struct (by kernel_rfl) Tryz.underlying65 ⟨rfl,ot3,rfl,ot3,rfl,ot43,rfl,ot63,rfl,ot9,rfl,ot2,rfl,ot3⟩
def ot22:Z.OpenT Tryz.prog 22 (Z.Ty.slice T64):=Z.ot_slice (by kernel_rfl) Tryz.underlying22 ot65
def ot88:Z.OpenT Tryz.prog 88 T87:=Z.ot_struct (by kernel_rfl) Tryz.underlying88 ⟨rfl,ot3,rfl,ot3,rfl,ot3,rfl,ot2,rfl,ot63⟩
def ot44:Z.OpenT Tryz.prog 44 (Z.Ty.slice T87):=Z.ot_slice (by kernel_rfl) Tryz.underlying44 ot88
def ot46:Z.OpenT Tryz.prog 46 T45:=Z.ot_struct (by kernel_rfl) Tryz.underlying46 ⟨rfl,ot43,rfl,ot22,rfl,ot44⟩
def ot60:Z.OpenT Tryz.prog 60 T59:=Z.ot_struct (by kernel_rfl) Tryz.underlying60 ⟨rfl,ot3,rfl,ot2,rfl,ot9,rfl,ot2⟩
def ot47:Z.OpenT Tryz.prog 47 (Z.Ty.slice T59):=Z.ot_slice (by kernel_rfl) Tryz.underlying47 ot60
def ot4:Z.OpenT Tryz.prog 4 Z.Ty.bool:=Z.ot_bool (by kernel_rfl) Tryz.underlying4
def ot28:Z.OpenT Tryz.prog 28 A.ti:=Z.ot_int (by kernel_rfl) Tryz.underlying28
def ot49:Z.OpenT Tryz.prog 49 T48:=Z.ot_struct (by kernel_rfl) Tryz.underlying49 ⟨rfl,ot3,rfl,ot2,rfl,ot37,rfl,ot40,rfl,ot41,rfl,ot42,rfl,ot46,rfl,ot2,rfl,ot47,rfl,ot4,rfl,ot28⟩
def ot24:Z.OpenT Tryz.prog 24 T23:=Z.ot_struct (by kernel_rfl) Tryz.underlying24 ⟨rfl,ot22⟩
def ot5:Z.OpenT Tryz.prog 5 Z.Ty.byte:=Z.ot_byte (by kernel_rfl) Tryz.underlying5
def ot25:Z.OpenT Tryz.prog 25 (Z.Ty.slice Z.Ty.byte):=Z.ot_slice (by kernel_rfl) Tryz.underlying25 ot5
set_option maxRecDepth 100000 in
def laid_met (os:Os)(args:Array Value):laidMetH Tryz.prog Rows.codecBackRow.laid (({World.holding Tryz.prog os ⟨#[],#[],[]⟩with heap:=((World.holding Tryz.prog os ⟨#[],#[],[]⟩).heap.modify 1 (A.putCells A.tabF)).modify 2 (A.putCells A.tabA)}:World).forCall (λ_ _=>0) ⟨#[],args,[]⟩).memory:=by
 rw[MakeChecks.laidMetH_plain _ _ _ (by kernel_rfl)];exact(LaidIn.of_run (l:=Rows.codecBackRow.laid) [2,1] 8 (by kernel_rfl) (by kernel_rfl) (by kernel_rfl) (by kernel_rfl)).met
def of_laid {W:World}(h:laidMetH Tryz.prog Rows.codecBackRow.laid W):Lib.Utf8Tabs 1 2 W:=by
 rw[MakeChecks.laidMetH_plain _ _ _ (by kernel_rfl)]at h;have H:=Lib.laidMet.reads h (.tail _ (.head _));rw[show Rows.laid_unicode_utf8_first=Lib.firstData from Pinned.utf8First_eq]at H;have J:=Lib.laidMet.reads h (.head _);rw[show(Rows.laid_unicode_utf8_acceptRanges:DataW Unit)=Lib.acceptData by kernel_rfl]at J;exact utf8Tabs_of_readsT (U8Types.of196 Tryz.laysValid) ⟨by kernel_rfl,by kernel_rfl,by kernel_rfl,by kernel_rfl,by kernel_rfl,by kernel_rfl,by kernel_rfl⟩ H J
set_option maxHeartbeats 1000000 in
set_option maxRecDepth 100000 in
def lifted (os:Os)(started:os.Started)(H:Type)(enc:TypeId×Value->H):
  ReturnsInHanded {} Tryz.checked os 4 .any (λw args=>(Rows.codecBackSpec.pre enc Tryz.prog Tryz.f4 [] false w args/\laidMetH Tryz.prog Rows.codecBackRow.laid w)/\sizedMet enc Tryz.prog Tryz.f4 (OpenSpec.ofChange Rows.codecBackSpec) false w args) (Rows.codecBackSpec.post enc Tryz.prog Tryz.f4 false true false false):=by
 refine returnsInHanded_of_change_and (C:=Tryz.checked) (X:=λw _=>laidMetH Tryz.prog Rows.codecBackRow.laid w) (λ_ _ _ hh h=>h.of_heap hh) own started (by kernel_rfl) Tryz.func4
  (ChangeSpec.witness_shaped (enc:=enc) (C:=Tryz.checked) (os:=os) (X:=λw _=>laidMetH Tryz.prog Rows.codecBackRow.laid w) false ({World.holding Tryz.prog os ⟨#[],#[],[]⟩with heap:=((World.holding Tryz.prog os ⟨#[],#[],[]⟩).heap.modify 1 (A.putCells A.tabF)).modify 2 (A.putCells A.tabA)}) #[.agg #[A.i 0,A.i 0,A.i 0,A.i 0,A.i 0,A.i 0,A.i 0,A.i 0,A.i 0,A.i 0,.slice none 0 0,.slice none 0 0,.slice none 0 0,.slice none 0 0,.slice none 0 0,A.i 0,.slice none 0 0,.bool false,A.i 0],.agg #[.slice none 0 0],.slice none 0 0] 16 rfl (World.shaped_of_RefB (by kernel_rfl) (by kernel_rfl)) (by kernel_rfl) (by kernel_rfl) (by kernel_rfl) (laid_met os _)) ?_
 intro W base args ds gs before hval0 hW hcnd hsz0 hL _;have hval: ∀(j:Nat) t v,Tryz.f4.params[j]?=some t->args[j]?=some v->Value.okWide Tryz.prog W .any base t v:=hval0;have hW':=hW;obtain⟨p,q,Y,hV,rfl,hfz,hnd⟩:=hW;have hA:DataW.TrodAll enc Tryz.prog W 0 (λ_=>true) true Tryz.f4.params.toList args.toList ds p:=Y;rw[Tryz.params4]at hA hval;obtain⟨v0,vs0,d0,ds0,p0,q0,hargs,rfl,rfl,h0,r0⟩:=trodAll_cons hA;obtain⟨v1,vs1,d1,ds1,p1,q1,rfl,rfl,rfl,h1,r1⟩:=trodAll_cons r0;obtain⟨v2,vs2,d2,ds2,p2,q2,rfl,rfl,rfl,h2,r2⟩:=trodAll_cons r1;obtain⟨rfl,rfl,rfl⟩:=trodAll_nil r2;obtain rfl:args=#[v0,v1,v2]:=by cases args;simp_all
 obtain⟨rfl,rfl⟩:=trodVars_none hV;have k0:=h0;have lt0: ∀x∈p0,x.block<W.heap.size:=by obtain⟨m,hm⟩:=k0;exact DataW.trod_lt m _ _ _ hm
 obtain⟨fu0,hf0⟩:=h0;obtain⟨J,O⟩:=ot49.2 _ _ _ _ _ _ _ _ _ hf0;obtain⟨cs0,rfl,_⟩:=okWide_struct Tryz.underlying49 (hval 0 49 v0 rfl rfl);replace O:T48.rep W (Z.nt []) cs0.toList J:=O;have hok0:=Un _ O;obtain⟨ca1,cb2,he3,hr4,hr5⟩:=O;have he6:=hr4.1;obtain⟨ca7,cb8,he9,hr10,hr11⟩:=hr5;have he12:=hr10.1;obtain⟨ca13,cb14,he15,hr16,hr17⟩:=hr11;obtain⟨ca18,cb19,he20,hr21,hr22⟩:=hr16;have he23:=hr21.1;have he24:=hr22.1;obtain⟨ca25,cb26,he27,hr28,hr29⟩:=hr17;obtain⟨ca30,cb31,he32,hr33,hr34⟩:=hr28;have he35:=hr33.1;obtain⟨ca36,cb37,he38,hr39,hr40⟩:=hr34;have he41:=hr39.1;obtain⟨ca42,cb43,he44,hr45,hr46⟩:=hr40;have he47:=hr45.1;obtain⟨ca48,cb49,he50,hr51,hr52⟩:=hr46;have he53:=hr51.1;obtain⟨ca54,cb55,he56,hr57,hr58⟩:=hr52;have he59:=hr57.1;have he60:=hr58.1;obtain⟨ca61,cb62,he63,hr64,hr65⟩:=hr29;obtain⟨A66,c67,he68,hn69,hn70⟩:=Vt hr64;rw[he68]at hr64;have hle_A66:=V2 hr64;obtain⟨ca71,cb72,he73,hr74,hr75⟩:=hr65;obtain⟨A76,c77,he78,hn79,hn80⟩:=Vt hr74;rw[he78]at hr74;have hle_A76:=V2 hr74;obtain⟨ca81,cb82,he83,hr84,hr85⟩:=hr75;obtain⟨ca86,cb87,he88,hr89,hr90⟩:=hr84;obtain⟨A91,c92,he93,hn94,hn95⟩:=Vt hr89;rw[he93]at hr89;have hle_A91:=V2 hr89;obtain⟨ca96,cb97,he98,hr99,hr100⟩:=hr90;obtain⟨A101,c102,he103,hn104,hn105⟩:=Vt hr99;rw[he103]at hr99;have hle_A101:=V2 hr99;obtain⟨A106,c107,he108,hn109,hn110⟩:=Vt hr100;rw[he108]at hr100;have hle_A106:=V2 hr100;obtain⟨ca111,cb112,he113,hr114,hr115⟩:=hr85;have he116:=hr114.1;obtain⟨ca117,cb118,he119,hr120,hr121⟩:=hr115;obtain⟨A122,c123,he124,hn125,hn126⟩:=Vt hr120;rw[he124]at hr120;have hle_A122:=V2 hr120;obtain⟨ca127,cb128,he129,hr130,hr131⟩:=hr121;have he132:_=_:=hr130;have he133:=hr131.1;have he0:cs0.toList=(A.rak J A66 c67 A76 c77 A91 c92 A101 c102 A106 c107 A122 c123):=by simp only[he3,he6,he9,he12,he15,he20,he23,he24,he27,he32,he35,he38,he41,he44,he47,he50,he53,he56,he59,he60,he63,he68,he73,he78,he83,he88,he93,he98,he103,he108,he113,he116,he119,he124,he129,he132,he133,Wi,Wc]
 obtain rfl:cs0=#[A.i J.1,A.i J.2.1,A.i J.2.2.1.1,A.i J.2.2.1.2,A.i J.2.2.2.1.1,A.i J.2.2.2.1.2.1,A.i J.2.2.2.1.2.2.1,A.i J.2.2.2.1.2.2.2.1,A.i J.2.2.2.1.2.2.2.2.1,A.i J.2.2.2.1.2.2.2.2.2,.slice A66 J.2.2.2.2.1.length c67,.slice A76 J.2.2.2.2.2.1.length c77,.slice A91 J.2.2.2.2.2.2.1.1.length c92,.slice A101 J.2.2.2.2.2.2.1.2.1.length c102,.slice A106 J.2.2.2.2.2.2.1.2.2.length c107,A.i J.2.2.2.2.2.2.2.1,.slice A122 J.2.2.2.2.2.2.2.2.1.length c123,.bool J.2.2.2.2.2.2.2.2.2.1,A.i J.2.2.2.2.2.2.2.2.2.2]:=by rw[<-Wm (xs:=cs0),he0]
 have k1:=h1;have lt1: ∀x∈p1,x.block<W.heap.size:=by obtain⟨m,hm⟩:=k1;exact DataW.trod_lt m _ _ _ hm
 obtain⟨fu1,hf1⟩:=h1;obtain⟨V,L⟩:=ot24.2 _ _ _ _ _ _ _ _ _ hf1;obtain⟨cs1,rfl,_⟩:=okWide_struct Tryz.underlying24 (hval 1 24 v1 rfl rfl);replace L:T23.rep W (Z.nt []) cs1.toList V:=L;have hok1:=Un _ L;obtain⟨a1,c1,hc1⟩: ∃a c,cs1.toList=[.slice a V.length c]:=by obtain⟨a,c,_,h,_⟩:=L;exact⟨a,c,h⟩
 obtain rfl:cs1=#[.slice a1 V.length c1]:=by rw[<-Wm (xs:=cs1),hc1]
 have k2:=h2;have lt2: ∀x∈p2,x.block<W.heap.size:=by obtain⟨m,hm⟩:=k2;exact DataW.trod_lt m _ _ _ hm
 obtain⟨fu2,hf2⟩:=h2;obtain⟨x2,N⟩:=ot25.2 _ _ _ _ _ _ _ _ _ hf2;obtain⟨a2,n2,c2,rfl⟩:=okWide_slice Tryz.underlying25 (hval 2 25 v2 rfl rfl);replace N:(Z.Ty.slice Z.Ty.byte).rep W (Z.nt []) [.slice a2 n2 c2] x2:=N;have hn2:=(Z.rep_slice_len N).1;subst hn2;clear Y hval0;have htab:=of_laid hL;have hF:F.da J V x2=some true:=codecBack_plain J V x2 hok0 hok1 (Un _ N);have hct:=o_bm A66 A76 A91 A101 A106 A122 a1 a2 c67 c77 c92 c102 c107 c123 c1 c2 J V x2 hok0.1 hok0.2.1 hok0.2.2.1.1 hok0.2.2.1.2 hok0.2.2.2.1.1 hok0.2.2.2.1.2.1 hok0.2.2.2.1.2.2.1 hok0.2.2.2.1.2.2.2.1 hok0.2.2.2.1.2.2.2.2.1 hok0.2.2.2.1.2.2.2.2.2 hok0.2.2.2.2.2.2.2.1 hok0.2.2.2.2.2.2.2.2.2.2 true hF;refine(hct W (λ_=>True) (A.Hp.start ⟨A.Hall.sh hr64,A.Hall.sh hr74,A.Hall.sh hr89,A.Hall.sh hr99,A.Hall.sh hr100,A.Hall.sh hr120,A.Hall.sh L,A.Hall.ln (n:=0) N,A.Hall.tabs htab⟩)).mono ?_;rintro e W' ⟨v,H',rfl,⟨rfl,rfl⟩,hh⟩;have bel:=hh.ch.below;exact⟨_,rfl,_,_,_,[],_,[],hW',trodAll_mk1 (shut_bool Tryz.underlying4 _),(trodAll_cons_mk (Below.trod laidOut (by kernel_rfl) (Wv (by kernel_rfl)) k0 bel lt0) (trodAll_cons_mk (Below.trod laidOut (by kernel_rfl) (Wv (by kernel_rfl)) k1 bel lt1) (trodAll_cons_mk (Below.trod laidOut (by kernel_rfl) (Wv (by kernel_rfl)) k2 bel lt2) trodAll_mk0))),rfl,bel.frame _,λh=>by cases h⟩
def over:Rows.codecBackRow.holds Tryz.pinned (OpenSpec.ofChange Rows.codecBackSpec):=
 OpenClaim.holds_of_wide 4 Tryz.f4 rfl rfl rfl rfl rfl rfl rfl ⟨rfl,rfl,rfl,rfl,rfl⟩ rfl rfl rfl rfl rfl (by kernel_rfl) Tryz.func4 (by kernel_rfl)
  (Wv (by kernel_rfl)) (by unfold Func.isWrapper;first|(rw[Qc (by decide+kernel)];kernel_rfl)|(rw[Qb (by decide+kernel)];exact⟨rfl,rfl⟩))
  (λos started H enc _=>lifted os started H enc)
def proved:Rows.CodecBackCardSaid:=
 Claim7.holds_tied_plain_at .later [] [.data,.pinned] true (true,"63dc9520e23bc9c4a6851dc9f56b4445578876200157983b6b2780ced0dcce14") true
  over (λ_ h=>by cases h) (by kernel_rfl) (λ_ h=>by cases h) codecBack_row_tie rfl ⟨rfl,rfl⟩ (by kernel_rfl) rfl
  (λf fn L H=>by
   obtain rfl:f=4:=Xl ((show Tryz.prog.funcNamed Rows.codecBackRow.func=some 4 by kernel_rfl).symm.trans L) |>.symm;obtain rfl:fn=Tryz.f4:=(Xl (Tryz.func4.symm.trans H)).symm;exact⟨by kernel_rfl,λj t J=>by
    rw[Tryz.params4]at J;have N:t∈[49,24,25]:=by simpa using Array.mem_of_getElem? J
    have hall:([49,24,25].all λu=> !Tryz.prog.wantsStandIn u)=true:=by kernel_rfl
    exact(show Tryz.prog.wantsStandIn t=false by simpa using Wy.1 hall t N)⟩)
  (by kernel_rfl)
#print axioms proved
end Go.Proofs.YtpoabedecgeamaaGreatDoor.codecBackDone
end
