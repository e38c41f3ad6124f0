import Derived.Test.YtlhiofnikdppeaaGreatDoorJ6
import Derived.Lib.MapLaws
import Derived.Lib.ValidU
set_option linter.defProp false
set_option maxRecDepth 20000
set_option linter.unusedVariables false
set_option linter.unusedSimpArgs false
set_option synthInstance.maxSize 1000000
set_option synthInstance.maxHeartbeats 400000
section
namespace Go.Proofs.YtlhiofnikdppeaaGreatDoor
open Go.RowKit Go.Graph
def tail_eq (c:UInt8):F.db c=some (tail5 c):=by
 unfold F.db tail5;by_cases E:(128:Int)<=(c.toNat:Int)<;>by_cases H:(c.toNat:Int)<=191<;>simp[E,H]
def ixk (s:ByteArray)(p k:Nat):A.ix s.data.toList ((p:Int)+(k:Int))=if p+k<s.size then some (Z.bat s (p+k))else none:=by
 have e:(p:Int)+(k:Int)=((p+k:Nat):Int):=by omega
 rw[e];by_cases h:p+k<s.size;rw[Qc h];exact ixb h;rw[Qb h,A.ix_nat];exact Wf (by rw[Qac];omega)
def wid (s:ByteArray)(p:Nat):Nat:=if Utf8.decode s p=(65533,1)then 0 else(Utf8.decode s p).2
def wid_le {s:ByteArray}{p:Nat}(h:p<s.size):p+wid s p<=s.size:=by
 unfold wid;split;omega
 ·rw[Qjk]
  unfold Lib.decodeN;repeat' split
  all_goals simp only[]
  all_goals omega
def widN (n a b c d:Nat):Nat:=
 if a<128 then 1
 else if(194<=a/\a<=223)/\2<=n/\(128<=b/\b<=191)then 2
 else if(224<=a/\a<=239)/\3<=n/\(128<=b/\b<=191)/\(128<=c/\c<=191)/\¬(a=224/\b<160)/\¬(a=237/\159<b)then 3
 else if(240<=a/\a<=244)/\4<=n/\(128<=b/\b<=191)/\(128<=c/\c<=191)/\(128<=d/\d<=191)/\¬(a=240/\b<144)/\¬(a=244/\143<b)then 4
 else 0
def pq (c:Prop)[Decidable c](x w:Nat)(E:w≠1):(if(if c then(x,w)else(65533,1))=(65533,1)then 0 else(if c then(x,w)else(65533,1)).2)=if c then w else 0:=by
 by_cases h:c<;>simp[h,E]
def widN_eq (n a b c d:Nat)(L:a<256)(N:b<256)(O:c<256)(Q:d<256):(if Lib.decodeN n a b c d=(65533,1)then 0 else(Lib.decodeN n a b c d).2)=widN n a b c d:=by
 unfold Lib.decodeN widN;by_cases E:a<128;simp only[E,W8,Yr];rw[Qb (by omega)]
 ·simp only[E,Wa]
  by_cases H:a / 32=6/\1<n/\b / 64=2
  ·simp only[Qc H]
   rw[pq _ _ _ (by decide)];repeat' split
   all_goals omega
  ·simp only[Qb H]
   by_cases I:a / 16=14/\(1<n/\b / 64=2)/\2<n/\c / 64=2
   ·simp only[Qc I]
    rw[pq _ _ _ (by decide)];repeat' split
    all_goals omega
   ·simp only[Qb I]
    by_cases J:a / 8=30/\(1<n/\b / 64=2)/\(2<n/\c / 64=2)/\3<n/\d / 64=2
    ·simp only[Qc J]
     rw[pq _ _ _ (by decide)];repeat' split
     all_goals omega
    ·simp only[Qb J,W8]
     repeat' split
     all_goals omega
def wid_N (s:ByteArray)(p:Nat):wid s p=widN (s.size-p) (Z.bat s p).toNat (Z.bat s (p+1)).toNat (Z.bat s (p+2)).toNat (Z.bat s (p+3)).toNat:=by
 rw[<-widN_eq _ _ _ _ _ (UInt8.toNat_lt _) (UInt8.toNat_lt _) (UInt8.toNat_lt _) (UInt8.toNat_lt _),<-Qjk];rfl
def cnd {α:Type}{p:Prop}[Decidable p](x y:α):(bif decide p then x else y)=if p then x else y:=by by_cases h:p<;>simp[h]
set_option maxHeartbeats 4000000 in
def Qgr (s:ByteArray)(p:Nat)(hp:p<s.size)(hs:s.size<=5000):F.fg s p=some (wid s p:Int):=by
 have i1:A.ix s.data.toList ((p:Int)+1)=if p+1<s.size then some (Z.bat s (p+1))else none:=ixk s p 1;have i2:A.ix s.data.toList ((p:Int)+2)=if p+2<s.size then some (Z.bat s (p+2))else none:=ixk s p 2;have i3:A.ix s.data.toList ((p:Int)+3)=if p+3<s.size then some (Z.bat s (p+3))else none:=ixk s p 3;have r1:Z.R64 ((p:Int)+1):=⟨by omega,by omega⟩;have r2:Z.R64 ((p:Int)+2):=⟨by omega,by omega⟩;have r3:Z.R64 ((p:Int)+3):=⟨by omega,by omega⟩;unfold F.fg;rw[A.gd1 ⟨by omega,by omega⟩,ixb hp,Qa,A.gd1 r1,i1,wid_N];generalize Z.bat s p=c0 at*;generalize Z.bat s (p+1)=c1 at*;generalize Z.bat s (p+2)=c2 at*;generalize Z.bat s (p+3)=c3 at*;have t (c:UInt8):tail5 c=decide (128<=c.toNat/\c.toNat<=191):=by unfold tail5;congr 1;exact propext ⟨λh=>by omega,λh=>by omega⟩
 by_cases W:(1:Int)<(s.size:Int)-(p:Int);rw[Qc W,Qc (by omega),Qa];simp only[F.dq,F.dp,F.cR,F.ci,tail_eq,Qa,t,A.gd1 r2,A.gd1 r3,i2,i3];unfold widN;generalize hn:s.size-p=n;have e2:((2:Int)<=(s.size:Int)-(p:Int))=(2<=n):=propext ⟨λh=>by omega,λh=>by omega⟩;have e3:((3:Int)<=(s.size:Int)-(p:Int))=(3<=n):=propext ⟨λh=>by omega,λh=>by omega⟩;have e4:((4:Int)<=(s.size:Int)-(p:Int))=(4<=n):=propext ⟨λh=>by omega,λh=>by omega⟩;have f2:(p+2<s.size)=(3<=n):=propext ⟨λh=>by omega,λh=>by omega⟩;have f3:(p+3<s.size)=(4<=n):=propext ⟨λh=>by omega,λh=>by omega⟩;have V:2<=n:=by omega
 simp only[e2,e3,e4,f2,f3,A.ba,Qs,V,and_true,true_and];have q0:((c0.toNat:Int)<128)=(c0.toNat<128):=propext ⟨λh=>by omega,λh=>by omega⟩;have q1:((194:Int)<=(c0.toNat:Int)/\(c0.toNat:Int)<=223)=(194<=c0.toNat/\c0.toNat<=223):=propext ⟨λh=>by omega,λh=>by omega⟩;have q2:((224:Int)<=(c0.toNat:Int)/\(c0.toNat:Int)<=239)=(224<=c0.toNat/\c0.toNat<=239):=propext ⟨λh=>by omega,λh=>by omega⟩;have q3:((240:Int)<=(c0.toNat:Int)/\(c0.toNat:Int)<=244)=(240<=c0.toNat/\c0.toNat<=244):=propext ⟨λh=>by omega,λh=>by omega⟩;have q4:((c0.toNat:Int)=224/\(c1.toNat:Int)<160)=(c0.toNat=224/\c1.toNat<160):=propext ⟨λh=>by omega,λh=>by omega⟩;have q5:((c0.toNat:Int)=237/\(159:Int)<(c1.toNat:Int))=(c0.toNat=237/\159<c1.toNat):=propext ⟨λh=>by omega,λh=>by omega⟩;have q6:((c0.toNat:Int)=240/\(c1.toNat:Int)<144)=(c0.toNat=240/\c1.toNat<144):=propext ⟨λh=>by omega,λh=>by omega⟩;have q7:((c0.toNat:Int)=244/\(143:Int)<(c1.toNat:Int))=(c0.toNat=244/\143<c1.toNat):=propext ⟨λh=>by omega,λh=>by omega⟩;simp only[q0,q1,q2,q3,q4,q5,q6,q7];have x1:240<=c0.toNat/\c0.toNat<=244->¬(224<=c0.toNat/\c0.toNat<=239):=λh O=>by omega
 have x2:240<=c0.toNat/\c0.toNat<=244->¬(194<=c0.toNat/\c0.toNat<=223):=λh O=>by omega
 have x3:224<=c0.toNat/\c0.toNat<=239->¬(194<=c0.toNat/\c0.toNat<=223):=λh O=>by omega
 by_cases K0:c0.toNat<128;simp[K0];by_cases H:128<=c1.toNat/\c1.toNat<=191;by_cases K1:194<=c0.toNat/\c0.toNat<=223;simp only[Qb K0,Qc K1,Qc H,K1,H,and_self,W8];rfl;by_cases K2:224<=c0.toNat/\c0.toNat<=239;have K3: ¬(240<=c0.toNat/\c0.toNat<=244):=λh=>x1 h K2;by_cases E:3<=n;by_cases I:128<=c2.toNat/\c2.toNat<=191;by_cases J:c0.toNat=224/\c1.toNat<160;simp only[Qb K0,Qb K1,Qc (And.intro K2 E),Qc H,Qc E,Qa,Qc I,eq_true J,W8,false_and,K1,K3,eq_true J,not_true_eq_false,and_false,Wa];rfl;by_cases N:c0.toNat=237/\159<c1.toNat;simp only[Qb K0,Qb K1,Qc (And.intro K2 E),Qc H,Qc E,Qa,Qc I,Qb J,eq_true N,W8,false_and,K1,K3,eq_true N,not_true_eq_false,and_false,Wa];rfl;simp only[Qb K0,Qb K1,Qc (And.intro K2 E),Qc H,Qc E,Qa,Qc I,Qb J,Qb N,false_and,K1,K2,E,H,I,J,N,not_false_eq_true,and_self,W8,Wa];rfl;simp only[Qb K0,Qb K1,Qc (And.intro K2 E),Qc H,Qc E,Qa,Qb I,Qb K3,false_and,K1,K3,I,and_false,Wa,Qx];rfl;simp only[Qb K0,Qb K1,E,and_false,Qb K3,false_and,K1,K3,Wa];rfl;by_cases K3:240<=c0.toNat/\c0.toNat<=244;by_cases L:4<=n;have E:3<=n:=by omega
 by_cases I:128<=c2.toNat/\c2.toNat<=191;by_cases Q:128<=c3.toNat/\c3.toNat<=191;by_cases J:c0.toNat=240/\c1.toNat<144;simp only[Qb K0,Qb K1,Qb K2,K2,false_and,Qc (And.intro K3 L),Qc H,Qc E,Qc L,Qa,Qc I,Qc Q,eq_true J,W8,K1,eq_true J,not_true_eq_false,and_false,Wa];rfl;by_cases N:c0.toNat=244/\143<c1.toNat;simp only[Qb K0,Qb K1,Qb K2,K2,false_and,Qc (And.intro K3 L),Qc H,Qc E,Qc L,Qa,Qc I,Qc Q,Qb J,eq_true N,W8,K1,eq_true N,not_true_eq_false,and_false,Wa];rfl;simp only[Qb K0,Qb K1,Qb K2,K2,false_and,Qc (And.intro K3 L),Qc H,Qc E,Qc L,Qa,Qc I,Qc Q,Qb J,Qb N,K1,K3,L,H,I,Q,J,N,not_false_eq_true,and_self,W8,Wa];rfl;simp only[Qb K0,Qb K1,Qb K2,K2,false_and,Qc (And.intro K3 L),Qc H,Qc E,Qc L,Qa,Qc I,Qb Q,K1,Q,and_false,Wa,Qx];rfl;simp only[Qb K0,Qb K1,Qb K2,K2,false_and,Qc (And.intro K3 L),Qc H,Qc E,Qa,Qb I,K1,I,and_false,Wa,Qx];rfl;simp only[Qb K0,Qb K1,Qb K2,K2,false_and,L,and_false,K1,Wa];rfl;simp only[Qb K0,Qb K1,Qb K2,Qb K3,K1,K2,K3,false_and,Wa];rfl;simp[K0,H];rw[Qb W];simp only[F.dq,F.dp,F.cR,F.ci,A.ba,Qs];unfold widN;have Y:(c0.toNat:Int)<128↔c0.toNat<128:=⟨λh=>by omega,λh=>by omega⟩;by_cases O:c0.toNat<128;rw[Qc (Y.2 O),Qc O];rfl;have a1: ¬((194<=c0.toNat/\c0.toNat<=223)/\2<=s.size-p/\128<=c1.toNat/\c1.toNat<=191):=λh=>by omega
 have a2: ¬((224<=c0.toNat/\c0.toNat<=239)/\3<=s.size-p/\(128<=c1.toNat/\c1.toNat<=191)/\(128<=c2.toNat/\c2.toNat<=191)/\¬(c0.toNat=224/\c1.toNat<160)/\¬(c0.toNat=237/\159<c1.toNat)):=λh=>by omega
 have a3: ¬((240<=c0.toNat/\c0.toNat<=244)/\4<=s.size-p/\(128<=c1.toNat/\c1.toNat<=191)/\(128<=c2.toNat/\c2.toNat<=191)/\(128<=c3.toNat/\c3.toNat<=191)/\¬(c0.toNat=240/\c1.toNat<144)/\¬(c0.toNat=244/\143<c1.toNat)):=λh=>by omega
 rw[Qb (λh=>O (Y.1 h)),Qb O,Qb a1,Qb a2,Qb a3];simp only[Qx,Wa];rw[Qb (λh=>by omega),Qb (λh=>by omega),Qb (λh=>by omega)];rfl
def vld (s:ByteArray):Nat->Nat->Bool
 |0,_=>true
 |n+1,p=>if p<s.size then(if wid s p=0 then false else vld s n (p+wid s p))else true
def cnt (s:ByteArray):Nat->Nat->Nat
 |0,_=>0
 |n+1,p=>if p<s.size then 1+cnt s n (p+(Utf8.decode s p).2)else 0
def wid_4 (s:ByteArray)(p:Nat):wid s p<=4:=by
 rw[wid_N];unfold widN;repeat' split
 all_goals omega
def Qdy {s:ByteArray}{p:Nat}(h:wid s p≠0):(Utf8.decode s p).2=wid s p:=by
 unfold wid at h ⊢;split at h;exact absurd rfl h;rename_i E;rw[Qb E]
def Qhn (s:ByteArray)(hs:s.size<=5000):F.fh s=some (vld s s.size 0):=by
 have loop: ∀(n p f:Nat),s.size-p<=n->n<f->p<=5010->F.cS s f (p:Int)=some (vld s n p):=by
  intro n;induction n with
  |zero=>
   intro p f hp H _;obtain⟨f,rfl⟩: ∃f',f=f'+1:=⟨f-1,by omega⟩;rw[F.cS,Qb (by omega)];rfl
  |succ n I=>
   intro p f hp H J;obtain⟨f,rfl⟩: ∃f',f=f'+1:=⟨f-1,by omega⟩;rw[F.cS,vld];by_cases h:p<s.size;rw[Qc (by omega),Qc h,Qgr s p h hs,Qa];have:=wid_le h;by_cases E:wid s p=0;rw[Qc (by omega),Qc E];rw[Qb (by omega),Qb E,A.gd1 ⟨by omega,by omega⟩];have e:(p:Int)+(wid s p:Int)=((p+wid s p:Nat):Int):=by omega
   rw[e];exact I _ f (by omega) (by omega) (by omega);rw[Qb (by omega),Qb h]
 exact loop s.size 0 A.FU (by omega) (by have:=Qab;omega) (by omega)
def Qbf (s:ByteArray):Lib.validD s.data.toList=vld s s.size 0:=by
 have loop: ∀(n p:Nat),Lib.validGoD n (s.data.toList.drop p)=vld s n p:=by
  intro n;induction n with
  |zero=>intro p;rfl
  |succ n J=>
   intro p;rw[Lib.validGoD,vld];by_cases h:p<s.size;have H:s.data.toList.drop p≠[]:=by rw[Qhe h];simp
   rw[Qb H,Qc h,Lib.decodeL_drop,Jo];by_cases E:Utf8.decode s p=(65533,1);rw[Qc (by rw[E];exact⟨rfl,rfl⟩),Qc (by unfold wid;rw[Qc E])];have e:wid s p=(Utf8.decode s p).2:=by unfold wid;rw[Qb E]
   rw[Qb (λI=>E (Prod.ext I.1 I.2)),Qb (by rw[e];have:=Qjj s p;omega),J,e];rw[Qc (Qhs h),Qb h]
 have:=loop s.size 0;rw[W6]at this;exact this
def Runes_eq (s:ByteArray)(hs:s.size<=5000)(E:vld s s.size 0=true): ∃l,F.c3 s=some l/\l.length=cnt s s.size 0:=by
 have loop: ∀(n p f:Nat) (xs:List (Int×Int)),s.size-p<=n->n<f->xs.length<=p->p<=5010->vld s n p=true->∃l,F.z s f xs (p:Int)=some l/\l.length=xs.length+cnt s n p:=by
  intro n;induction n with
  |zero=>
   intro p f xs hp hf _ _ _;obtain⟨f,rfl⟩: ∃f',f=f'+1:=⟨f-1,by omega⟩;rw[F.z,Qb (by omega)];exact⟨_,rfl,rfl⟩
  |succ n ih=>
   intro p f xs hp hf hxs hp5 E;obtain⟨f,rfl⟩: ∃f',f=f'+1:=⟨f-1,by omega⟩;rw[F.z];rw[vld]at E;rw[cnt];by_cases h:p<s.size;rw[Qc h]at E;have hl:=wid_le h;have h4:=wid_4 s p;by_cases J:wid s p=0;rw[Qc J]at E;cases E;rw[Qb J]at E;have H: ∀(w c:Int),w=(wid s p:Int)->∃l,F.aZ (F.z s f) xs (p:Int) w c=some l/\l.length=xs.length+(1+cnt s n (p+(Utf8.decode s p).2)):=λw c L=>by
    subst L;rw[F.aZ,A.gd1 (by simp only[Qe,Ql];omega),A.gd1 ⟨by omega,by omega⟩,Qdy J];have e:(p:Int)+(wid s p:Int)=((p+wid s p:Nat):Int):=by omega
    rw[e];obtain⟨l,N,O⟩:=ih (p+wid s p) f (xs++[((p:Int),c)]) (by omega) (by omega) (by simp only[Qm,Qe,Ql];omega) (by omega) E;exact⟨l,N,by rw[O,Qm];simp only[Qe,Ql];omega⟩
   have I:=ixb (s:=s) h;have Q:A.ix s.data.toList ((p:Int)+1)=if p+1<s.size then some (Z.bat s (p+1))else none:=ixk s p 1;have W:A.ix s.data.toList ((p:Int)+2)=if p+2<s.size then some (Z.bat s (p+2))else none:=ixk s p 2;have i3:A.ix s.data.toList ((p:Int)+3)=if p+3<s.size then some (Z.bat s (p+3))else none:=ixk s p 3;have V:Z.R64 ((p:Int)+1):=⟨by omega,by omega⟩;have Y:Z.R64 ((p:Int)+2):=⟨by omega,by omega⟩;have r3:Z.R64 ((p:Int)+3):=⟨by omega,by omega⟩;rw[Qc (by omega),Qc h,Qgr s p h hs,Qa];by_cases w1:wid s p=1;rw[Qc (by omega),I,Qa];exact H _ _ rfl;rw[Qb (by omega)];by_cases w2:wid s p=2;rw[Qc (by omega),A.gd1 V,I,Qa,A.gd1 (by decide),Q,Qc (by omega),Qa,A.gd1 (by decide)];exact H _ _ rfl;rw[Qb (by omega)];by_cases w3:wid s p=3;rw[Qc (by omega),A.gd1 ⟨V,Y⟩,I,Qa,A.gd1 (by decide),Q,Qc (by omega),Qa,A.gd1 (by decide),W,Qc (by omega),Qa,A.gd1 (by decide)];exact H _ _ rfl;rw[Qb (by omega),Qc (by omega),A.gd1 ⟨V,Y,r3⟩,I,Qa,A.gd1 (by decide),Q,Qc (by omega),Qa,A.gd1 (by decide),W,Qc (by omega),Qa,A.gd1 (by decide),i3,Qc (by omega),Qa,A.gd1 (by decide)];exact H _ _ rfl;rw[Qb (by omega),Qb h];exact⟨_,rfl,rfl⟩
 obtain⟨l,N,O⟩:=loop s.size 0 A.FU [] (by omega) (by have:=Qab;omega) (by simp) (by omega) E;exact⟨l,N,by simpa using O⟩
def single_eq (s:ByteArray)(hs:s.size<=9223372036854775807):F.fN s=some (if cnt s s.size 0=1 then vld s s.size 0 else false):=by
 have loop: ∀(n p f:Nat) (y:Int),s.size-p<=n->n<f->0<=y->y+n<=9223372036854775807->F.cK s f p y=some (if y+(cnt s n p:Int)=1 then vld s s.size 0 else false):=by
  intro n;induction n with
  |zero=>
   intro p f y hp E _ _;obtain⟨f,rfl⟩: ∃f',f=f'+1:=⟨f-1,by omega⟩;rw[F.cK,Qb (by omega),F.aS,Qbf,Qa];simp only[F.df];have e:y+(cnt s 0 p:Int)=y:=by rw[cnt];omega
   by_cases h:y=1;rw[Qc h,Qc (by omega)];rw[Qb h,Qb (by omega)]
  |succ n H=>
   intro p f y hp E I J;obtain⟨f,rfl⟩: ∃f',f=f'+1:=⟨f-1,by omega⟩;rw[F.cK,cnt];by_cases h:p<s.size;rw[Qc h,Qc h,A.gd1 ⟨by omega,by omega⟩];have L:=Qjj s p;rw[H _ f (y+1) (by omega) (by omega) (by omega) (by omega)];congr 2;exact propext ⟨λh=>by omega,λh=>by omega⟩;rw[Qb h,Qb h,F.aS,Qbf,Qa];simp only[F.df];by_cases h:y=1;rw[Qc h,Qc (by omega)];rw[Qb h,Qb (by omega)]
 unfold F.fN;rw[loop s.size 0 A.FU 0 (by omega) (by have:=Qab;omega) (by omega) (by omega)];congr 2;exact propext ⟨λh=>by omega,λh=>by omega⟩
def one_small {s:ByteArray}(E:cnt s s.size 0=1)(H:vld s s.size 0=true):s.size<=4:=by
 generalize L:s.size=n at E H;cases n with
 |zero=>omega
 |succ n=>
  rw[cnt,Qc (by omega)]at E;rw[vld,Qc (by omega)]at H;by_cases I:wid s 0=0;rw[Qc I]at H;cases H;rw[Qdy I]at E;have:=wid_4 s 0;cases n with
  |zero=>omega
  |succ n=>
   rw[cnt]at E;by_cases J:0+wid s 0<s.size;rw[Qc J]at E;omega;omega
def Qhh (f:Fun):Bool:=if f.1=5 then decide (f.2.2≠ByteArray.mk #[])&&decide ((f.2.2.size:Int)<=16)&&vld f.2.2 f.2.2.size 0 else if f.1=12\/f.1=22 then decide (cnt f.2.2 f.2.2.size 0=1)&&vld f.2.2 f.2.2.size 0 else decide (f.2.2=ByteArray.mk #[])
def Qht (f:Fun):F.fM f=some (Qbl f):=by
 unfold F.fM F.el F.ek Qbl;simp only[A.ba,Qs];by_cases I:f.1=3;simp[I];by_cases E:f.1=13;simp[E];by_cases h6:f.1=6;simp[h6];by_cases H:f.1=11<;>simp[I,E,h6,H]
def Qgj (f:Fun):F.fX f=some (Qbl f):=Qht f
def text_eq (f:Fun)(hs:f.2.2.size<=9223372036854775807):F.gp f=some (Qhh f):=by
 unfold F.gp Qhh;simp only[F.fv,F.fw,A.ba,single_eq _ hs,F.aS,Qbf,Qa,Qs];by_cases I:f.1=5;simp only[I,W8];by_cases J:f.2.2=ByteArray.mk #[]<;>by_cases L:(f.2.2.size:Int)<=16<;>simp[J,L];by_cases E:f.1=12;simp[E];by_cases H:f.1=22<;>simp[I,E,H]
def one_le {s:ByteArray}:(1:Int)<=(s.size:Int)↔s≠ByteArray.mk #[]:=by
 constructor;intro h e;subst e;exact absurd h (by decide);intro h;have:=Qgp h;omega
def Qkl (f:Fun)(hs:f.2.2.size<=5000):F.gb f=some (Qhh f):=by
 have Q: ∀y,F.d6 f y=some (if y=true then decide (cnt f.2.2 f.2.2.size 0=1)&&vld f.2.2 f.2.2.size 0 else decide (f.2.2=ByteArray.mk #[])):=by
  intro y;unfold F.d6;simp only[F.d5,Qhn _ hs,Qa];cases y with
  |false=>simp
  |true=>
   simp only[W8];by_cases N:(f.2.2.size:Int)<=4;rw[Qc N];cases I:vld f.2.2 f.2.2.size 0 with
   |true=>
    obtain⟨l,E,J⟩:=Runes_eq f.2.2 hs I;rw[Qc rfl,E,Qa,Ym];congr 2;rw[J];exact propext ⟨λh=>by omega,λh=>by omega⟩
   |false=>simp
   rw[Qb N];congr 1;cases I:vld f.2.2 f.2.2.size 0 with
   |false=>simp
   |true=>
    by_cases E:cnt f.2.2 f.2.2.size 0=1;have:=one_small E I;omega;simp[E]
 unfold F.gb Qhh;simp only[F.e1,Q,A.ba,Qhn _ hs,Qa,Qs,one_le];by_cases O:f.1=5;simp only[O,W8];by_cases E:f.2.2=ByteArray.mk #[]<;>by_cases J:(f.2.2.size:Int)<=16<;>simp[E,J];by_cases H:f.1=12;simp[H];by_cases L:f.1=22<;>simp[O,H,L]
def anyF (f:Fun)(l:List Int):Int:=if l.any (λy=>decide (y=f.1)&&(Qbl f&&Qhh f))=true then 0 else 60
def kinds (k:Int):List Int:=if k=2 then [1,2,3,4,5,6,7,8]else if k=3 then [11,12,13]else if k=4 then [21,22]else if k=8 then [31,32,33,34]else if k=11 then [41,42]else []
def chk (k:Int)(f:Fun):Int:=if kinds k=[]then(if f=(0,0,ByteArray.mk #[])then 0 else 60)else anyF f (kinds k)
def chk_l (f:Fun)(hs:f.2.2.size<=9223372036854775807): ∀l,F.bz f l=some (anyF f l)
 | []=>rfl
 |y::l=>by
  have E:=chk_l f hs l;unfold F.bz;simp only[F.dY,Qht,text_eq _ hs,Qa,E,anyF,Yd];by_cases h:y=f.1;subst h;cases H:Qbl f<;>cases I:Qhh f<;>simp;simp[h]
def Qce (k:Int)(f:Fun)(hs:f.2.2.size<=9223372036854775807):F.c9 k f=some (chk k f):=by
 have O:F.ce 1 8=some [1,2,3,4,5,6,7,8]:=by kernel_rfl
 have Q:F.ce 11 13=some [11,12,13]:=by kernel_rfl
 have V:F.ce 21 22=some [21,22]:=by kernel_rfl
 have W:F.ce 31 34=some [31,32,33,34]:=by kernel_rfl
 have u11:F.ce 41 42=some [41,42]:=by kernel_rfl
 unfold F.c9 F.gz F.go chk kinds;by_cases I:k=2;simp[I,O,chk_l f hs];by_cases J:k=3;simp[J,Q,chk_l f hs];by_cases L:k=4;simp[L,V,chk_l f hs];by_cases N:k=8;simp[N,W,chk_l f hs];by_cases E:k=11;simp[E,u11,chk_l f hs];simp only[I,J,L,N,E,Wa,Qa];rw[Qc (by decide),Qc trivial];by_cases H:f=(0,0,ByteArray.mk #[]);rw[Qb (λh=>h H),Qc H];rw[Qc H,Qb H]
def R06_l (f:Fun)(hs:f.2.2.size<=5000)(l:List Int)(I:l.length<=100):F.a0 f l A.FU 0=some (anyF f l):=
 A.lp0 l (λn y=>F.a0 f l n y) (λ_ t=>some (anyF f t))
  (λn=>by rw[F.a0,Qb (by omega)];rfl)
  (λn k x E hk H=>by
   rw[F.a0,Qc (by omega),A.ixn E,Qa];simp only[F.ds,Qgj,Qkl _ hs,Qa,H,A.gd1 (A.r64n (n:=k) (by omega)),anyF,Yd];by_cases h:x=f.1;subst h;cases J:Qbl f<;>cases L:Qhh f<;>simp;simp[h])
  (by have:=Qab;omega)
def Qbt (k:Int)(f:Fun)(hs:f.2.2.size<=5000):F.cC k f=some (chk k f):=by
 have O:F.dc 2=some [1,2,3,4,5,6,7,8]:=by kernel_rfl
 have Q:F.dc 3=some [11,12,13]:=by kernel_rfl
 have V:F.dc 4=some [21,22]:=by kernel_rfl
 have W:F.dc 8=some [31,32,33,34]:=by kernel_rfl
 have u11:F.dc 11=some [41,42]:=by kernel_rfl
 have Y:F.cb 1 0=some []:=by kernel_rfl
 unfold F.cC chk kinds;by_cases I:k=2;subst I;rw[O,Qa,Qb (by simp),F.be,Qb (by simp),R06_l f hs _ (by simp)];simp;by_cases J:k=3;subst J;rw[Q,Qa,Qb (by simp),F.be,Qb (by simp),R06_l f hs _ (by simp)];simp;by_cases L:k=4;subst L;rw[V,Qa,Qb (by simp),F.be,Qb (by simp),R06_l f hs _ (by simp)];simp;by_cases N:k=8;subst N;rw[W,Qa,Qb (by simp),F.be,Qb (by simp),R06_l f hs _ (by simp)];simp;by_cases E:k=11;subst E;rw[u11,Qa,Qb (by simp),F.be,Qb (by simp),R06_l f hs _ (by simp)];simp;have u:F.dc k=some []:=by unfold F.dc;simp only[I,J,L,N,E,Wa,Y]
 rw[u,Qa,Qc (by simp),F.be,R06_l f hs _ (by simp)];simp only[I,J,L,N,E,Wa,W8,Qs,anyF,List.any_nil,Qx];by_cases H:f=(0,0,ByteArray.mk #[]);rw[Qc H,Qc H];rw[Qb H,Qb H]
end Go.Proofs.YtlhiofnikdppeaaGreatDoor
end
section
namespace Go.Utf
open Go.Lib
abbrev Rn:=List UInt8×Int
def enc_eq (r:Int):(Utf8.encode r).data.toList=encodeRune r:=by
 unfold Utf8.encode encodeRune;by_cases L:0<=r/\r<=127;rw[encodeRuneZ_one L.1 L.2];have H:Utf8.valid r=true:=by simp[Utf8.valid];omega
 rw[Qc H];have I:r.toNat<128:=by omega
 simp only[I,W8];simp;by_cases N:128<=r/\r<=2047;rw[encodeRuneZ_two N.1 N.2];have H:Utf8.valid r=true:=by simp[Utf8.valid];omega
 rw[Qc H];obtain⟨n,rfl⟩: ∃n:Nat,r=n:=⟨r.toNat,by omega⟩;have I: ¬(n<128):=by omega
 have E:n<2048:=by omega
 simp only[Qv,I,Wa,E,W8,Q1,Xk];have e1:(192+(n:Int) / 64).toNat=192+n / 64:=by omega
 have e2:(128+(n:Int)%64).toNat=128+n%64:=by omega
 rw[e1,e2];by_cases Q:(2048<=r/\r<55296)\/(57343<r/\r<=65535);rw[encodeRuneZ_three Q];have H:Utf8.valid r=true:=by simp[Utf8.valid];omega
 rw[Qc H];obtain⟨n,rfl⟩: ∃n:Nat,r=n:=⟨r.toNat,by omega⟩;have I: ¬(n<128):=by omega
 have E: ¬n<2048:=by omega
 have J:n<65536:=by omega
 simp only[Qv,I,Wa,E,J,W8,Q1,Xk];have e1:(224+(n:Int) / 4096).toNat=224+n / 4096:=by omega
 have e2:(128+(n:Int) / 64%64).toNat=128+n / 64%64:=by omega
 have e3:(128+(n:Int)%64).toNat=128+n%64:=by omega
 rw[e1,e2,e3];by_cases O:65536<=r/\r<=1114111;rw[encodeRuneZ_four O.1 O.2];have H:Utf8.valid r=true:=by simp[Utf8.valid];omega
 rw[Qc H];obtain⟨n,rfl⟩: ∃n:Nat,r=n:=⟨r.toNat,by omega⟩;have I: ¬(n<128):=by omega
 have E: ¬n<2048:=by omega
 have J: ¬n<65536:=by omega
 simp only[Qv,I,Wa,E,J,Q1,Xk];have e0:(240+(n:Int) / 262144).toNat=240+n / 262144:=by omega
 have e1:(128+(n:Int) / 4096%64).toNat=128+n / 4096%64:=by omega
 have e2:(128+(n:Int) / 64%64).toNat=128+n / 64%64:=by omega
 have e3:(128+(n:Int)%64).toNat=128+n%64:=by omega
 rw[e0,e1,e2,e3];rw[encodeRuneZ_bad (by omega)];have H: ¬Utf8.valid r=true:=by simp[Utf8.valid];omega
 rw[Qb H];rfl
def decN_ext {n n' b0 b1 b2 b3 c1 c2 c3:Nat}{r k:Nat}(h:decodeN n b0 b1 b2 b3=(r,k))(N: ¬(r=65533/\k=1))(V:k<=n')(H:1<k->c1=b1)(J:2<k->c2=b2)(O:3<k->c3=b3):decodeN n' b0 c1 c2 c3=(r,k):=by
 rcases decodeN_shape n b0 b1 b2 b3 with⟨q,e⟩|⟨q1,L,E,qv,e⟩|⟨q1,L,E,I,qv,qs,e⟩|⟨q1,L,E,I,Q,qv,qw,e⟩|e
 rw[e]at h;injection h with e1 e2;subst e1;subst e2
 unfold decodeN;rw[Qc q];rw[e]at h;injection h with e1 e2;subst e1;subst e2
 obtain rfl:=H (by omega);unfold decodeN;rw[Qb (by omega),Qc ⟨q1,by omega,E⟩,Qc qv];rw[e]at h;injection h with e1 e2;subst e1;subst e2
 obtain rfl:=H (by omega);obtain rfl:=J (by omega);unfold decodeN;rw[Qb (by omega),Qb (by omega),Qc ⟨q1,⟨by omega,E⟩,by omega,I⟩,Qc ⟨qv,by omega⟩];rw[e]at h;injection h with e1 e2;subst e1;subst e2
 obtain rfl:=H (by omega);obtain rfl:=J (by omega);obtain rfl:=O (by omega);unfold decodeN;rw[Qb (by omega),Qb (by omega),Qb (by omega),Qc ⟨q1,⟨by omega,E⟩,⟨by omega,I⟩,by omega,Q⟩,Qc ⟨qv,.inr ⟨by omega,qw⟩⟩];rw[e]at h;injection h with e1 e2;subst e1;subst e2
 exact absurd ⟨rfl,rfl⟩ N
structure Ck (c:Rn):Prop where
 ne:c.1≠[]
 four:c.1.length<=4
 enc:(Utf8.encode c.2).data.toList=c.1
 dec: ∀rest,decodeL (c.1++rest)=(c.2.toNat,c.1.length)
 nn:0<=c.2
 top:c.2<=1114111
 ok: ¬(c.2.toNat=65533/\c.1.length=1)
def Qiy (l:List UInt8):(decodeL l).2<=4:=by
 rw[decodeL_N];rcases decodeN_shape l.length (l.getD 0 0).toNat (l.getD 1 0).toNat (l.getD 2 0).toNat (l.getD 3 0).toNat with⟨c,e⟩|⟨c1,c2,c3,cv,e⟩|⟨c1,c2,c3,c4,cv,cs,e⟩|⟨c1,c2,c3,c4,c5,cv,cw,e⟩|e
 all_goals (rw[e];simp)
def Ck.of {l:List UInt8}(E:l≠[])(H: ¬((decodeL l).1=65533/\(decodeL l).2=1)):Ck (l.take (decodeL l).2,((decodeL l).1:Int)):=by
 have N:=decodeL_width l;have I:=decodeL_le l E;have hlen:(l.take (decodeL l).2).length=(decodeL l).2:=by rw[Qy];omega
 refine⟨λh=>?_,by show(l.take _).length<=4;rw[hlen];exact Qiy l,?_,λrest=>?_,by simp,?_,?_⟩;have:=Wn List.length h;simp only[Ql]at this;rw[hlen]at this;omega;exact(enc_eq _).trans (encode_decode l E H);show decodeL (l.take (decodeL l).2++rest)=((((decodeL l).1:Nat):Int).toNat,(l.take (decodeL l).2).length);rw[hlen,Qv];have e:decodeL l=decodeN l.length (l.getD 0 0).toNat (l.getD 1 0).toNat (l.getD 2 0).toNat (l.getD 3 0).toNat:=decodeL_N l;obtain⟨r,k,J⟩: ∃r k,decodeL l=(r,k):=⟨_,_,rfl⟩;rw[J]at H N I hlen ⊢;rw[J]at e;simp only at H N I hlen ⊢;have L: ∀i,i<k->(l.take k++rest).getD i 0=l.getD i 0:=λi O=>by
  simp only[List.getD];rw[Wc (by rw[hlen];exact O),Wo O]
 rw[decodeL_N,L 0 (by omega)];refine decN_ext e.symm H (by rw[Qm,hlen];omega) (λh=>by rw[L 1 h]) (λh=>by rw[L 2 h]) (λh=>by rw[L 3 h]);have:=decodeL_rune l;show((decodeL l).1:Int)<=1114111;omega;show ¬((((decodeL l).1:Nat):Int).toNat=65533/\(l.take (decodeL l).2).length=1);rw[hlen,Qv];exact H
def Ck.len {c:Rn}(h:Ck c):1<=c.1.length:=by
 cases E:c.1 with
 |nil=>exact absurd E h.ne
 |cons a b=>simp
def ckF:Nat->List UInt8->List Rn
 |0,_=>[]
 |n+1,l=>if l=[]then []else(l.take (decodeL l).2,((decodeL l).1:Int))::ckF n (l.drop (decodeL l).2)
def cks (l:List UInt8):List Rn:=ckF l.length l
abbrev flat (cs:List Rn):List UInt8:=cs.flatMap (·.1)
def Qae (c:Rn)(cs:List Rn):flat (c::cs)=c.1++flat cs:=rfl
def Qcn: ∀(n:Nat) (l:List UInt8),l.length<=n->flat (ckF n l)=l
 |0,l,h=>by rw[We (Nat.le_zero.1 h)];rfl
 |n+1,l,h=>by
  unfold ckF;by_cases E:l=[];rw[Qc E,E];rfl;rw[Qb E,Qae,Qcn n _ (by have:=decodeL_width l;rw[Xv];have:=List.length_pos_iff.2 E;omega)];exact Xs _ _
def Qhv: ∀(n:Nat) (l:List UInt8),l.length<=n->validGoD n l=true->∀c,c∈ckF n l->Ck c
 |0,l,h,_,c,E=>by cases E
 |n+1,l,h,H,c,E=>by
  unfold ckF at E;unfold validGoD at H;by_cases I:l=[];rw[Qc I]at E;cases E;rw[Qb I]at E H;split at H;cases H;rename_i J;rcases Qk.1 E with rfl|E
  exact Ck.of I J;exact Qhv n _ (by have:=decodeL_width l;rw[Xv];have:=List.length_pos_iff.2 I;omega) H c E
def Qgz: ∀(cs:List Rn) (n:Nat),(∀c,c∈cs->Ck c)->(flat cs).length<=n->ckF n (flat cs)=cs/\validGoD n (flat cs)=true
 | [],n,_,_=>by cases n with
  |zero=>exact⟨rfl,rfl⟩
  |succ n=>exact⟨by unfold ckF;rw[Qc (show flat ([]:List Rn)=[]from rfl)],by unfold validGoD;rw[Qc (show flat ([]:List Rn)=[]from rfl)]⟩
 |c::cs,n,h,I=>by
  have E:=h c (Qi ..);have O:=E.len;rw[Qae]at I ⊢;rw[Qm]at I;obtain⟨n,rfl⟩: ∃m,n=m+1:=⟨n-1,by omega⟩;have H:c.1++flat cs≠[]:=λe=>E.ne (List.append_eq_nil_iff.1 e).1;obtain⟨J,L⟩:=Qgz cs n (λx N=>h x (Qf _ N)) (by omega);unfold ckF validGoD;rw[Qb H,Qb H,E.dec];simp only[Jm,List.drop_left];rw[Qb E.ok,J,Xb E.nn];exact⟨rfl,L⟩
def cks_flat {cs:List Rn}(h: ∀c,c∈cs->Ck c):cks (flat cs)=cs:=(Qgz cs _ h (Qt _)).1
def valid_flat {cs:List Rn}(h: ∀c,c∈cs->Ck c):validD (flat cs)=true:=(Qgz cs _ h (Qt _)).2
def valid_cks {l:List UInt8}(h:validD l=true):flat (cks l)=l/\∀c,c∈cks l->Ck c:=⟨Qcn _ _ (Qt _),Qhv _ _ (Qt _) h⟩
def Qhx (ns:List Int): ∀s:ByteArray,(ns.foldl (λr n=>r++Utf8.encode n) s).data.toList=s.data.toList++ns.flatMap λn=>(Utf8.encode n).data.toList:=by
 induction ns with
 |nil=>intro s;simp
 |cons n ns E=>intro s;rw[Jh,E];simp[ByteArray.data_append]
def runes_flat {cs:List Rn}(h: ∀c,c∈cs->Ck c):(runesBytes (cs.map (·.2))).data.toList=flat cs:=by
 unfold runesBytes;rw[Qhx];have:ByteArray.empty.data.toList=[]:=rfl;rw[this,Wl,List.flatMap_map];induction cs with
 |nil=>rfl
 |cons c cs E=>
  rw[Y5,Qae,E λx H=>h x (Qf _ H),(h c (Qi ..)).enc]
def Qkq {s t:ByteArray}(h:s.data.toList=t.data.toList):s=t:=by
 cases s;cases t;congr;exact Array.toList_inj.1 h
def ats:Int->List Rn->List (Int×Int)
 |_,[]=>[]
 |p,c::cs=>(p,c.2)::ats (p+c.1.length) cs
def Qat: ∀(p:Int) (cs:List Rn),(ats p cs).length=cs.length
 |_,[]=>rfl
 |p,c::cs=>by rw[ats,Qe,Qat _ cs,Qe]
def Qhd: ∀(cs:List Rn) (p:Int) (k:Nat),(ats p cs)[k]?=(cs[k]?).map λc=>(p+((flat (cs.take k)).length:Int),c.2)
 | [],p,k=>by simp[ats]
 |c::cs,p,0=>by simp[ats]
 |c::cs,p,k+1=>by
  rw[ats,Wi,Qhd cs _ k,Wi,List.take_succ_cons,Qae,Qm];congr;funext c';congr 1;omega
def bd (n:Nat):Nat->List Rn->Nat
 |p,[]=>p
 |p,c::cs=>if p+c.1.length<=n then bd n (p+c.1.length) cs else p
def bd_pre (n:Nat): ∀(cs:List Rn) (p:Nat),p<=n->∃k,bd n p cs=p+(flat (cs.take k)).length/\bd n p cs<=n
 | [],p,h=>⟨0,by simp[bd],by simpa[bd] using h⟩
 |c::cs,p,h=>by
  unfold bd;split;rename_i hp;obtain⟨k,E,H⟩:=bd_pre n cs _ hp;exact⟨k+1,by rw[E,List.take_succ_cons,Qae,Qm];omega,H⟩;exact⟨0,by simp,h⟩
def Qed (cs:List Rn)(k:Nat):(flat cs).take (flat (cs.take k)).length=flat (cs.take k):=by
 have:flat cs=flat (cs.take k)++flat (cs.drop k):=by rw[<-List.flatMap_append,Xs]
 rw[this,Jm]
end Go.Utf
end
section
namespace Go.Proofs.YtlhiofnikdppeaaGreatDoor
open Go.RowKit Go.Graph Go.Utf
def drop_ne {s:ByteArray}{p:Nat}(h:p<s.size):s.data.toList.drop p≠[]:=λe=>by
 have:=Wn List.length e;rw[Xv,Qac]at this;simp only[Ql]at this;omega
def drop_nil {s:ByteArray}{p:Nat}(h: ¬p<s.size):s.data.toList.drop p=[]:=Q6 (by rw[Qac];omega)
def Qkf {s:ByteArray}{n p:Nat}(h:p<s.size):ckF (n+1) (s.data.toList.drop p)=((s.data.toList.drop p).take (Utf8.decode s p).2,((Utf8.decode s p).1:Int))::ckF n (s.data.toList.drop (p+(Utf8.decode s p).2)):=by
 rw[ckF,Qb (drop_ne h),Lib.decodeL_drop,Jo]
def Qfh {s:ByteArray}{n p:Nat}(h: ¬p<s.size):ckF n (s.data.toList.drop p)=[]:=by
 rw[drop_nil h];cases n with
 |zero=>rfl
 |succ n=>rw[ckF,Qc rfl]
def cks_0 (s:ByteArray):cks s.data.toList=ckF s.size (s.data.toList.drop 0):=rfl
def Qhk {s:ByteArray}{p:Nat}(h:p<s.size):1<=(Utf8.decode s p).2/\p+(Utf8.decode s p).2<=s.size:=by
 rw[<-Lib.decodeL_drop];have H:=Lib.decodeL_width (s.data.toList.drop p);have E:=Lib.decodeL_le _ (drop_ne h);rw[Xv,Qac]at E;omega
def runes_F (s:ByteArray)(hs:s.size<=1099511627776):F.f8 s=some ((cks s.data.toList).map (·.2)):=by
 have loop: ∀(n p f:Nat) (xs:List Int),s.size-p<=n->n<f->xs.length<=p->F.cz s f p xs=some (xs++(ckF n (s.data.toList.drop p)).map (·.2)):=by
  intro n;induction n with
  |zero=>
   intro p f xs hp E _;obtain⟨f,rfl⟩: ∃f',f=f'+1:=⟨f-1,by omega⟩;rw[F.cz,Qb (by omega),Qfh (by omega)];simp
  |succ n H=>
   intro p f xs hp E I;obtain⟨f,rfl⟩: ∃f',f=f'+1:=⟨f-1,by omega⟩;by_cases h:p<s.size;have J:=Qhk h;rw[F.cz,Qc h,A.gd1 (by simp only[Qe,Ql];omega),H _ _ _ (by omega) (by omega) (by simp only[Qm,Qe,Ql];omega),Qkf h];simp;rw[F.cz,Qb h,Qfh h];simp
 have:=loop s.size 0 A.FU [] (by omega) (by have:=Qab;omega) (by simp);rw[F.f8,this,cks_0];simp
def Qaw (a b:List Rn):flat (a++b)=flat a++flat b:=List.flatMap_append
def i32_small {x:Int}(E:0<=x)(H:x<2147483648):IntKind.i32.wrap x=x:=by
 simp[IntKind.wrap,IntKind.bits,IntKind.signed];omega
def dec_shape {s:ByteArray}{p:Nat}(E:wid s p≠0):
  (wid s p=1/\(Utf8.decode s p).1=(Z.bat s p).toNat)\/
  (wid s p=2/\(Utf8.decode s p).1=(Z.bat s p).toNat%32*64+(Z.bat s (p+1)).toNat%64)\/
  (wid s p=3/\(Utf8.decode s p).1=(Z.bat s p).toNat%16*4096+(Z.bat s (p+1)).toNat%64*64+(Z.bat s (p+2)).toNat%64)\/
  (wid s p=4/\(Utf8.decode s p).1=(Z.bat s p).toNat%8*262144+(Z.bat s (p+1)).toNat%64*4096+(Z.bat s (p+2)).toNat%64*64+(Z.bat s (p+3)).toNat%64):=by
 have I:=Qdy E;have H:Utf8.decode s p≠(65533,1):=λe=>E (by unfold wid;rw[Qc e]);rw[<-I];rw[Qjk]at H ⊢;rcases Lib.decodeN_shape (s.size-p) (Z.bat s p).toNat (Z.bat s (p+1)).toNat (Z.bat s (p+2)).toNat (Z.bat s (p+3)).toNat with⟨c,e⟩|⟨c1,c2,c3,cv,e⟩|⟨c1,c2,c3,c4,cv,cs,e⟩|⟨c1,c2,c3,c4,c5,cv,cw,e⟩|e
 rw[e];exact .inl ⟨rfl,rfl⟩;rw[e];exact .inr (.inl ⟨rfl,rfl⟩);rw[e];exact .inr (.inr (.inl ⟨rfl,rfl⟩));rw[e];exact .inr (.inr (.inr ⟨rfl,rfl⟩));exact absurd e H
def Qex (s:ByteArray)(hs:s.size<=5000)(E:vld s s.size 0=true):F.c3 s=some (ats 0 (cks s.data.toList)):=by
 have loop: ∀(n p f:Nat) (xs:List (Int×Int)),s.size-p<=n->n<f->xs.length<=p->p<=5010->vld s n p=true->F.z s f xs (p:Int)=some (xs++ats p (ckF n (s.data.toList.drop p))):=by
  intro n;induction n with
  |zero=>
   intro p f xs hp hf _ _ _;obtain⟨f,rfl⟩: ∃f',f=f'+1:=⟨f-1,by omega⟩;rw[F.z,Qb (by omega),Qfh (by omega)];simp[ats]
  |succ n ih=>
   intro p f xs hp hf hxs hp5 E;obtain⟨f,rfl⟩: ∃f',f=f'+1:=⟨f-1,by omega⟩;rw[F.z];rw[vld]at E;by_cases h:p<s.size;rw[Qc h]at E;have hl:=wid_le h;have h4:=wid_4 s p;by_cases H:wid s p=0;rw[Qc H]at E;cases E;rw[Qb H]at E;have hd:=Qhk h;have L: ∀(w c:Int),w=(wid s p:Int)->c=((Utf8.decode s p).1:Int)->F.aZ (F.z s f) xs (p:Int) w c=some (xs++ats p (ckF (n+1) (s.data.toList.drop p))):=λw c O hc=>by
    subst O;subst hc;rw[F.aZ,A.gd1 (by simp only[Qe,Ql];omega),A.gd1 ⟨by omega,by omega⟩];have e:(p:Int)+(wid s p:Int)=((p+wid s p:Nat):Int):=by omega
    have e2:((s.data.toList.drop p).take (Utf8.decode s p).2).length=wid s p:=by
     rw[Qy,Xv,Qac,<-Qdy H];omega
    rw[e,ih (p+wid s p) f (xs++[((p:Int),((Utf8.decode s p).1:Int))]) (by omega) (by omega) (by simp only[Qm,Qe,Ql];omega) (by omega) E,Qkf h,ats,e2,Qdy H,<-e];simp
   have N:=ixb (s:=s) h;have Q:A.ix s.data.toList ((p:Int)+1)=if p+1<s.size then some (Z.bat s (p+1))else none:=ixk s p 1;have Y:A.ix s.data.toList ((p:Int)+2)=if p+2<s.size then some (Z.bat s (p+2))else none:=ixk s p 2;have i3:A.ix s.data.toList ((p:Int)+3)=if p+3<s.size then some (Z.bat s (p+3))else none:=ixk s p 3;have V:Z.R64 ((p:Int)+1):=⟨by omega,by omega⟩;have r2:Z.R64 ((p:Int)+2):=⟨by omega,by omega⟩;have r3:Z.R64 ((p:Int)+3):=⟨by omega,by omega⟩;have k0:=(Z.bat s p).toNat_lt;have k1:=(Z.bat s (p+1)).toNat_lt;have k2:=(Z.bat s (p+2)).toNat_lt;have k3:=(Z.bat s (p+3)).toNat_lt;rw[Qc (by omega),Qgr s p h hs,Qa];have tm: ∀(b m:Nat),Int.tmod (b:Int) (m:Int)=((b%m:Nat):Int):=λb m=>by
    rw[Int.tmod_eq_emod_of_nonneg (by omega)];rfl
   rcases dec_shape H with⟨w1,e⟩|⟨w2,e⟩|⟨w3,e⟩|⟨w4,e⟩
   rw[Qc (by omega),N,Qa];exact L _ _ rfl (by rw[e,i32_small (by omega) (by omega)]);rw[Qb (by omega),Qc (by omega),A.gd1 V,N,Qa,A.gd1 (by decide),Q,Qc (by omega),Qa,A.gd1 (by decide)];refine L _ _ rfl ?_;have I:Int.tmod ((Z.bat s p).toNat:Int) 32=(((Z.bat s p).toNat%32:Nat):Int):=tm _ 32;have J:Int.tmod ((Z.bat s (p+1)).toNat:Int) 64=(((Z.bat s (p+1)).toNat%64:Nat):Int):=tm _ 64;rw[e,I,J];rw[i32_small (x:=(((Z.bat s p).toNat%32:Nat):Int)) (by omega) (by omega),i32_small (x:=(((Z.bat s p).toNat%32:Nat):Int)*64) (by omega) (by omega),i32_small (x:=(((Z.bat s (p+1)).toNat%64:Nat):Int)) (by omega) (by omega),i32_small (by omega) (by omega)];omega;rw[Qb (by omega),Qb (by omega),Qc (by omega),A.gd1 ⟨V,r2⟩,N,Qa,A.gd1 (by decide),Q,Qc (by omega),Qa,A.gd1 (by decide),Y,Qc (by omega),Qa,A.gd1 (by decide)];refine L _ _ rfl ?_;have I:Int.tmod ((Z.bat s p).toNat:Int) 16=(((Z.bat s p).toNat%16:Nat):Int):=tm _ 16;have J:Int.tmod ((Z.bat s (p+1)).toNat:Int) 64=(((Z.bat s (p+1)).toNat%64:Nat):Int):=tm _ 64;have W:Int.tmod ((Z.bat s (p+2)).toNat:Int) 64=(((Z.bat s (p+2)).toNat%64:Nat):Int):=tm _ 64;rw[e,I,J,W];generalize hu:(Z.bat s p).toNat%16=u;generalize hx:(Z.bat s (p+1)).toNat%64=x;generalize hy:(Z.bat s (p+2)).toNat%64=y;have hu':u<16:=by omega
   have hx':x<64:=by omega
   have hy':y<64:=by omega
   rw[i32_small (x:=(u:Int)) (by omega) (by omega),i32_small (x:=(u:Int)*64) (by omega) (by omega),i32_small (x:=(x:Int)) (by omega) (by omega),i32_small (x:=(u:Int)*64+(x:Int)) (by omega) (by omega),i32_small (x:=((u:Int)*64+(x:Int))*64) (by omega) (by omega),i32_small (x:=(y:Int)) (by omega) (by omega),i32_small (by omega) (by omega)];omega;rw[Qb (by omega),Qb (by omega),Qb (by omega),Qc (by omega),A.gd1 ⟨V,r2,r3⟩,N,Qa,A.gd1 (by decide),Q,Qc (by omega),Qa,A.gd1 (by decide),Y,Qc (by omega),Qa,A.gd1 (by decide),i3,Qc (by omega),Qa,A.gd1 (by decide)];refine L _ _ rfl ?_;have I:Int.tmod ((Z.bat s p).toNat:Int) 8=(((Z.bat s p).toNat%8:Nat):Int):=tm _ 8;have J:Int.tmod ((Z.bat s (p+1)).toNat:Int) 64=(((Z.bat s (p+1)).toNat%64:Nat):Int):=tm _ 64;have W:Int.tmod ((Z.bat s (p+2)).toNat:Int) 64=(((Z.bat s (p+2)).toNat%64:Nat):Int):=tm _ 64;have t4:Int.tmod ((Z.bat s (p+3)).toNat:Int) 64=(((Z.bat s (p+3)).toNat%64:Nat):Int):=tm _ 64;rw[e,I,J,W,t4];generalize hu:(Z.bat s p).toNat%8=u;generalize hx:(Z.bat s (p+1)).toNat%64=x;generalize hy:(Z.bat s (p+2)).toNat%64=y;generalize hz:(Z.bat s (p+3)).toNat%64=z;have hu':u<8:=by omega
   have hx':x<64:=by omega
   have hy':y<64:=by omega
   have hz':z<64:=by omega
   rw[i32_small (x:=(u:Int)) (by omega) (by omega),i32_small (x:=(u:Int)*64) (by omega) (by omega),i32_small (x:=(x:Int)) (by omega) (by omega),i32_small (x:=(u:Int)*64+(x:Int)) (by omega) (by omega),i32_small (x:=((u:Int)*64+(x:Int))*64) (by omega) (by omega),i32_small (x:=(y:Int)) (by omega) (by omega),
    i32_small (x:=((u:Int)*64+(x:Int))*64+(y:Int)) (by omega) (by omega),i32_small (x:=(((u:Int)*64+(x:Int))*64+(y:Int))*64) (by omega) (by omega),i32_small (x:=(z:Int)) (by omega) (by omega),i32_small (by omega) (by omega)]
   omega;rw[Qb (by omega),Qfh h];simp[ats]
 have:=loop s.size 0 A.FU [] (by omega) (by have:=Qab;omega) (by simp) (by omega) E;rw[F.c3];exact this
def iter_F (s:ByteArray):F.eH s=some (ats 0 (cks s.data.toList))\/9223372036854775807<s.size:=by
 by_cases hs:s.size<=9223372036854775807;left;have loop: ∀(n p f:Nat),s.size-p<=n->n<f->F.aP s f p=some (ats p (ckF n (s.data.toList.drop p))):=by
  intro n;induction n with
  |zero=>
   intro p f hp E;obtain⟨f,rfl⟩: ∃f',f=f'+1:=⟨f-1,by omega⟩;rw[F.aP,Qb (by omega),Qfh (by omega)];rfl
  |succ n H=>
   intro p f hp E;obtain⟨f,rfl⟩: ∃f',f=f'+1:=⟨f-1,by omega⟩;by_cases h:p<s.size;have I:=Qhk h;rw[F.aP,Qc h,H _ _ (by omega) (by omega),Qkf h,ats];have e2:((s.data.toList.drop p).take (Utf8.decode s p).2).length=(Utf8.decode s p).2:=by
    rw[Qy,Xv,Qac];omega
   rw[e2];simp[A.cns];rw[F.aP,Qb h,Qfh h];rfl
 exact loop s.size 0 A.FU (by omega) (by have:=Qab;omega);right;omega
def ext_all (s:ByteArray):s.extract 0 s.size=s:=by
 refine Qkq ?_;rw[ByteArray.data_extract,Array.toList_extract];simp[List.extract_eq_take_drop];exact Q3 (Nat.le_of_eq (Qac s))
def rcut_l (s:ByteArray)(n:Nat): ∀(cs:List Rn) (p e:Nat),p+(flat cs).length=s.size->e<=s.size->F.ct s n (ats p cs) e=some (s.extract 0 (if p<=n then bd n p cs else e))
 | [],p,e,hp,E=>by
  simp only[List.flatMap_nil,Ql,Jw]at hp;subst hp;rw[ats,F.ct,bd];by_cases h:s.size<=n;rw[Qc (by omega),Qc h,ext_all];rw[Qb (by omega),Qb h,A.gd1 ⟨by omega,by omega⟩,Qv]
 |c::cs,p,e,hp,E=>by
  rw[Qae,Qm]at hp;rw[ats,F.ct,bd];by_cases h:p<=n;rw[Qb (by simp;omega),Qc h];have e1:(p:Int)+(c.1.length:Int)=((p+c.1.length:Nat):Int):=by omega
  show F.ct s n (ats ((p:Int)+(c.1.length:Int)) cs) (p:Int)=_;rw[e1];exact rcut_l s n cs (p+c.1.length) p (by omega) (by omega);rw[Qc (by simp;omega),Qb h,A.gd1 ⟨by omega,by omega⟩,Qv]
def rec_Cut_eq (s:ByteArray)(n:Nat)(hs:s.size<=9223372036854775807):F.gq s n=some (s.extract 0 (bd n 0 (cks s.data.toList))):=by
 rw[F.gq,F.gj,Qa];rcases iter_F s with h|h
 rw[h,Qa];have E:(flat (cks s.data.toList)).length=s.size:=by
  have:flat (cks s.data.toList)=s.data.toList:=Qcn _ _ (Qt _);rw[this,Qac]
 have:=rcut_l s n (cks s.data.toList) 0 0 (by omega) (by omega);rw[Qc (Xi _)]at this;exact this;omega
def R05_Cut_eq (s:ByteArray)(n:Nat)(hs:s.size<=5000)(V:vld s s.size 0=true):F.gu s n=some (s.extract 0 (bd n 0 (cks s.data.toList))):=by
 rw[F.gu,Qex s hs V,Qa];obtain⟨cs,H⟩: ∃cs,cs=cks s.data.toList:=⟨_,rfl⟩;have L:flat cs=s.data.toList:=by rw[H];exact Qcn _ _ (Qt _)
 have N:(flat cs).length=s.size:=by rw[L,Qac]
 have W:cs.length<=s.size:=by
  rw[H];have: ∀(n:Nat) (l:List UInt8),(ckF n l).length<=n:=by
   intro n;induction n with
   |zero=>intro l;simp[ckF]
   |succ n J=>intro l;unfold ckF;split<;>simp;exact J _
  exact this _ _
 rw[<-H];have loop: ∀(m k f e:Nat),k+m=cs.length->m<f->e<=s.size->((flat (cs.take k)).length<=n->e=(flat (cs.take k)).length)->F.bG s n (ats 0 cs) f e k=some (s.extract 0 (if(flat (cs.take k)).length<=n then bd n (flat (cs.take k)).length (cs.drop k)else e)):=by
  intro m;induction m with
  |zero=>
   intro k f e hk L Q hp;obtain⟨f,rfl⟩: ∃f',f=f'+1:=⟨f-1,by omega⟩;rw[F.bG,Qb (by rw[Qat];omega),Q6 (by omega),bd,A.gd1 ⟨by omega,by omega⟩,Qv];split;rename_i h;rw[hp h];rfl
  |succ m J=>
   intro k f e hk L Q hp;obtain⟨f,rfl⟩: ∃f',f=f'+1:=⟨f-1,by omega⟩;have I:cs[k]?=some cs[k]:=Qg (by omega);have O:cs.take (k+1)=cs.take k++[cs[k]]:=by rw[Xy,I];rfl
   have hq:(flat (cs.take (k+1))).length=(flat (cs.take k)).length+cs[k].1.length:=by rw[O,Qaw,Qm];simp
   have Y:(flat (cs.take (k+1))).length<=s.size:=by
    have h1:=Wn List.length (Qed cs (k+1));rw[Qy]at h1;omega
   have next: ∀q:Nat,q=(flat (cs.take (k+1))).length->F.dN (F.bG s n (ats 0 cs) f) n e k q=some (s.extract 0 (if(flat (cs.take k)).length<=n then bd n (flat (cs.take k)).length (cs.drop k)else e)):=λq E=>by
    have ek:(k:Int)+1=((k+1:Nat):Int):=by omega
    rw[F.dN,A.dropx I,bd,<-hq,<-E];by_cases h:q<=n;rw[Qc (by omega),F.eM,A.gd1 ⟨by omega,by omega⟩,ek,J (k+1) f q (by omega) (by omega) (by omega) (λ_=>E),<-E,Qc h,Qc h,Qc (by omega)];rw[Qb (by omega),F.eM,A.gd1 ⟨by omega,by omega⟩,ek,J (k+1) f e (by omega) (by omega) Q (λh2=>by omega),<-E,Qb h,Qb h];split;rename_i h3;rw[hp h3];rfl
   rw[F.bG,Qc (by rw[Qat];omega),A.gd1 ⟨by omega,by omega⟩];by_cases hl:k+1<cs.length
   ·have hx:(ats 0 cs)[k+1]?=some ((0:Int)+((flat (cs.take (k+1))).length:Int),cs[k+1].2):=by
     rw[Qhd,Qg hl];rfl
    rw[Qc (by rw[Qat];omega),A.gd1 ⟨by omega,by omega⟩,show(k:Int)+1=((k+1:Nat):Int) by omega,A.ixn hx,Qa];show F.dN _ _ _ _ ((0:Int)+((flat (cs.take (k+1))).length:Int))=_;rw[Int.zero_add];exact next _ rfl
   ·rw[Qb (by rw[Qat];omega)]
    exact next _ (by rw[Q3 (by omega),N])
 have:=loop cs.length 0 A.FU 0 (by omega) (by have:=Qab;omega) (by omega) (by simp);simpa using this
def Reverse_eq (l:List Int)(hl:l.length<=4611686018427387904):F.aU l=some l.reverse:=by
 have loop: ∀(m f:Nat) (X0 M B:List Int),M.length<=m->m<f->X0.length+M.length<=4611686018427387904->F.r f (X0++M++B) (X0.length:Int) ((X0.length:Int)+(M.length:Int)-1)=some (X0++M.reverse++B):=by
  intro m;induction m with
  |zero=>
   intro f X0 M B N O _;obtain⟨f,rfl⟩: ∃f',f=f'+1:=⟨f-1,by omega⟩;obtain rfl:M=[]:=We (by omega);rw[F.r,Qb (by simp only[Ql];omega)];simp
  |succ m Q=>
   intro f X0 M B N O hlen;obtain⟨f,rfl⟩: ∃f',f=f'+1:=⟨f-1,by omega⟩;by_cases H:M.length<2;have V:M.reverse=M:=by
    match M,H with
    | [],_=>rfl
    | [x],_=>rfl
   rw[F.r,Qb (by omega),V];obtain⟨x,M1,rfl⟩: ∃x M1,M=x::M1:=by
    cases M with
    |nil=>simp at H
    |cons x M1=>exact⟨x,M1,rfl⟩
   obtain⟨M2,y,rfl⟩: ∃M2 y,M1=M2++[y]:=by
    have E:M1≠[]:=λe=>by subst e;simp at H
    exact⟨M1.dropLast,M1.getLast E,(List.dropLast_concat_getLast E).symm⟩
   simp only[Qe,Qm,Ql]at N hlen H ⊢;have ei:(X0.length:Int)+((M2.length+(0+1)+1:Nat):Int)-1=((X0.length+M2.length+1:Nat):Int):=by omega
   rw[ei];have W:(X0++(x::(M2++[y]))++B)[X0.length+M2.length+1]?=some y:=by
    rw[Q0,Q9 (by omega),show X0.length+M2.length+1-X0.length=M2.length+1 by omega,Xf,Wi,Q0,Q9 (Qt _)];simp
   have Y:(X0++(x::(M2++[y]))++B)[X0.length]?=some x:=by
    rw[Q0,Q9 (Qt _)];simp
   have I:(X0++(x::(M2++[y]))++B).set X0.length y=X0++(y::(M2++[y]))++B:=by
    rw[Q0,Y4 _ _ (Qt _)];simp
   have J:(X0++(y::(M2++[y]))++B)[X0.length+M2.length+1]?=some y:=by
    rw[Q0,Q9 (by omega),show X0.length+M2.length+1-X0.length=M2.length+1 by omega,Xf,Wi,Q0,Q9 (Qt _)];simp
   have L:(X0++(y::(M2++[y]))++B).set (X0.length+M2.length+1) x=(X0++[y])++M2++([x]++B):=by
    rw[Q0,Y4 _ _ (by omega),show X0.length+M2.length+1-X0.length=M2.length+1 by omega,Xf,List.set_cons_succ,Q0,Y4 _ _ (Qt _)];simp
   rw[F.r,Qc (by omega),A.ixn W,Qa,A.ixn Y,Qa,Qa,Qv,I,A.ixn J,Qa,A.gd1 ⟨⟨by omega,by omega⟩,by omega,by omega⟩,Qv,L];have:=Q f (X0++[y]) M2 ([x]++B) (by omega) (by omega) (by simp only[Qm,Qe,Ql];omega);simp only[Qm,Qe,Ql]at this;rw[show((X0.length:Nat):Int)+1=((X0.length+(0+1):Nat):Int) by omega,show((X0.length+M2.length+1:Nat):Int)-1=((X0.length+(0+1):Nat):Int)+(M2.length:Int)-1 by omega,this];simp
 have:=loop l.length A.FU [] l [] (Qt _) (by have:=Qab;omega) (by simp;omega);rw[F.aU,A.gd1 ⟨by omega,by omega⟩];simpa using this
def upB (b:UInt8):UInt8:=if 97<=b.toNat/\b.toNat<=122 then UInt8.ofNat (b.toNat-32)else b
def Qhw (s:ByteArray):ByteArray:=⟨(s.data.toList.map upB).toArray⟩
def up_set {l:List UInt8}{k:Nat}{x:UInt8}(h:l[k]?=some x):((l.take k).map upB++l.drop k).set k (upB x)=(l.take (k+1)).map upB++l.drop (k+1):=by
 have E:=(Qd.1 h).1;have hk:((l.take k).map upB).length=k:=by rw[Qw,Qy];omega
 rw[Y4 _ _ (by omega),hk,Nat.sub_self,A.dropx h,Xy,h];simp
def Qim {l:List UInt8}{k:Nat}{x:UInt8}(h:l[k]?=some x):((l.take k).map upB++l.drop k)[k]?=some x:=by
 have E:=(Qd.1 h).1;have hk:((l.take k).map upB).length=k:=by rw[Qw,Qy];omega
 rw[Q9 (by omega),hk,Nat.sub_self,A.dropx h];rfl
def up_same {l:List UInt8}{k:Nat}{x:UInt8}(h:l[k]?=some x)(E:upB x=x):(l.take k).map upB++l.drop k=(l.take (k+1)).map upB++l.drop (k+1):=by
 rw[<-up_set h,E];refine(Xa λi=>?_);rw[Yq];split;rename_i e;subst e;rw[Qim h];split;rfl;rename_i H;have:=Qim h;rw[Wf (by omega)]at this;cases this;rfl
def b8_up {x:UInt8}(h:97<=x.toNat/\x.toNat<=122):A.b8 ((x.toNat:Int)-32)=upB x:=by
 unfold A.b8 upB;rw[Qc h];congr 1;omega
def wrap8 {x:Int}(E:0<=x)(H:x<256):IntKind.u8.wrap x=x:=by
 simp[IntKind.wrap,IntKind.bits,IntKind.signed];omega
def upper_F (s:ByteArray)(hs:s.size<=9223372036854775806):F.f9 s=some (Qhw s):=by
 have:=A.lp s.data.toList (λf (xs:List UInt8) y=>F.bd s f xs y) (λ_ _ _=>some (Qhw s)) (λk xs=>xs=(s.data.toList.take k).map upB++s.data.toList.drop k)
  (λf xs hp=>by
   show F.bd s (f+1) xs _=_;rw[F.bd,Qb (by omega),hp,Yv,Xw,Wh];rfl)
  (λf xs k x E hk hp I=>by
   subst hp;have J:k<s.size:=by rw[<-Qac];exact hk
   show F.bd s (f+1) _ _=_;rw[F.bd,Qc (by omega),A.ixn (Qim E),Qa];simp only[A.ba];by_cases h:97<=x.toNat/\x.toNat<=122;rw[Qc (by simp;omega),Qa,F.dZ,A.gd1 ⟨by omega,by omega⟩,wrap8 (by omega) (by omega),show(x.toNat:Int)-97+65=(x.toNat:Int)-32 by omega,b8_up h,Qv,up_set E];exact I _ rfl;have H:upB x=x:=by unfold upB;rw[Qb h]
   rw[Qb (by simp;omega),F.dZ,A.gd1 ⟨by omega,by omega⟩,up_same E H];exact I _ rfl)
  (by have:=Qab;rw[Qac];omega) s.data.toList (by simp)
 rw[F.f9];exact this
def Qig (s:ByteArray)(hs:s.size<=9223372036854775806):F.fQ s=some (Qhw s):=by
 have:=A.lp s.data.toList (λf (xs:List UInt8) y=>F.aC s f xs y) (λ_ _ _=>some (Qhw s)) (λk xs=>xs=(s.data.toList.take k).map upB++s.data.toList.drop k)
  (λf xs hp=>by
   show F.aC s (f+1) xs _=_;rw[F.aC,Qb (by omega),hp,Yv,Xw,Wh];rfl)
  (λf xs k x E hk hp I=>by
   subst hp;have J:k<s.size:=by rw[<-Qac];exact hk
   show F.aC s (f+1) _ _=_;have no:upB x=x->F.cT (F.aC s f) ((s.data.toList.take k).map upB++s.data.toList.drop k) (k:Int) false=some (Qhw s):=λH=>by
    rw[F.cT,Qb (by simp),F.dt,A.gd1 ⟨by omega,by omega⟩,up_same E H];exact I _ rfl
   rw[F.aC,Qc (by omega),A.ixn (Qim E),Qa];by_cases h:97<=x.toNat;rw[Qc (by omega),Qa];by_cases L:x.toNat<=122;rw[show decide ((x.toNat:Int)<=122)=true from Qr (by omega),F.cT,Qc rfl,A.ixn (Qim E),Qa,Qa,F.dt,A.gd1 ⟨by omega,by omega⟩,b8_up ⟨h,L⟩,Qv,up_set E];exact I _ rfl;rw[show decide ((x.toNat:Int)<=122)=false from Q7 (by omega)];exact no (by unfold upB;rw[Qb (by omega)]);rw[Qb (by omega)];exact no (by unfold upB;rw[Qb (by omega)]))
  (by have:=Qab;rw[Qac];omega) s.data.toList (by simp)
 rw[F.fQ];exact this
abbrev pos (cs:List Rn) (k:Nat):Nat:=(flat (cs.take k)).length
def pos_le (cs:List Rn){a b:Nat}(h:a<=b):pos cs a<=pos cs b:=by
 have:cs.take b=cs.take a++(cs.take b).drop a:=by
  rw[List.drop_take];have:=Xs a (cs.take b);rw[Jk,X6 h,List.drop_take]at this;exact this.symm
 show(flat _).length<=(flat _).length;rw[this,Qaw,Qm];omega
def Qjr {s:ByteArray}{cs:List Rn}(E:flat cs=s.data.toList)(k:Nat):pos cs k<=s.size:=by
 have H:=Wn List.length (Qed cs k);rw[Qy,E,Qac]at H;show(flat (cs.take k)).length<=_;omega
def pos_all {s:ByteArray}{cs:List Rn}(E:flat cs=s.data.toList){k:Nat}(h:cs.length<=k):pos cs k=s.size:=by
 show(flat (cs.take k)).length=_;rw[Q3 h,E,Qac]
def part_eq {s:ByteArray}{cs:List Rn}(H:flat cs=s.data.toList){a b:Nat}(h:a<=b):F.fa s (ats 0 cs) a b=some (s.extract (pos cs a) (pos cs b)):=by
 have I: ∀u v:Nat,u=pos cs a->v=pos cs b->F.d7 s u v=some (s.extract (pos cs a) (pos cs b)):=λu v E L=>by
  have:=pos_le cs h;have:=Qjr H b;rw[F.d7,A.gd1 ⟨by omega,by omega,by omega⟩,Qv,Qv,E,L]
 have at_: ∀k,k<cs.length->(ats 0 cs)[k]?=some ((pos cs k:Int),cs[k]!.2):=λk hk=>by
  rw[Qhd,Qg hk,Wg,Int.zero_add,getElem!_pos cs k hk]
 have J: ∀u:Nat,u=pos cs a->F.d8 s (ats 0 cs) b u=some (s.extract (pos cs a) (pos cs b)):=λu E=>by
  rw[F.d8,Qat];by_cases N:b<cs.length;rw[Qc (by omega),A.ixn (at_ b N),Qa];exact I u _ E rfl;rw[Qb (by omega)];exact I u _ E (pos_all H (by omega)).symm
 rw[F.fa,Qat];by_cases O:a<cs.length;rw[Qc (by omega),A.ixn (at_ a O),Qa];exact J _ rfl;rw[Qb (by omega)];exact J _ (pos_all H (by omega)).symm
def Qhg {s:ByteArray}{cs:List Rn}(E:flat cs=s.data.toList)(a b:Nat):(s.extract (pos cs a) (pos cs b)).data.toList=flat ((cs.take b).drop a):=by
 rw[ByteArray.data_extract,Array.toList_extract,List.extract_eq_take_drop,<-E];by_cases h:a<=b;have e1:cs.take b=cs.take a++(cs.take b).drop a:=by
  have:=Xs a (cs.take b);rw[Jk,X6 h]at this;exact this.symm
 have e2:flat (cs.take b)=flat (cs.take a)++flat ((cs.take b).drop a):=by rw[<-Qaw,<-e1]
 have e3:flat cs=flat (cs.take a)++(flat ((cs.take b).drop a)++flat (cs.drop b)):=by
  rw[<-Q0,<-e2,<-Qaw,Xs]
 have e4:pos cs b-pos cs a=(flat ((cs.take b).drop a)).length:=by
  show(flat (cs.take b)).length -(flat (cs.take a)).length=_;rw[e2,Qm];omega
 rw[e3,show pos cs a=(flat (cs.take a)).length from rfl,List.drop_left];rw[show(flat (cs.take b)).length -(flat (cs.take a)).length=(flat ((cs.take b).drop a)).length from e4,Jm];have I:=pos_le cs (show b<=a by omega);have H:(cs.take b).drop a=[]:=Q6 (by rw[Qy];omega);rw[show pos cs b-pos cs a=0 by omega,H,List.take_zero];rfl
def turn_eq (s:ByteArray)(hs:s.size<=5000)(Q:vld s s.size 0=true):F.gc s=some ⟨(flat (cks s.data.toList).reverse).toArray⟩:=by
 rw[F.gc,Qex s hs Q,Qa];obtain⟨cs,E⟩: ∃cs,cs=cks s.data.toList:=⟨_,rfl⟩;have H:flat cs=s.data.toList:=by rw[E];exact Qcn _ _ (Qt _)
 rw[<-E];have I: ∀k,(flat (cs.take k).reverse).length=pos cs k:=λk=>by
  show(flat _).length=(flat _).length;simp only[List.length_flatMap];rw[List.map_reverse,List.sum_reverse]
 have V:cs.length<=5000:=by
  have: ∀(n:Nat) (l:List UInt8),(ckF n l).length<=n:=by
   intro n;induction n with
   |zero=>intro l;simp[ckF]
   |succ n J=>intro l;unfold ckF;split<;>simp;exact J _
  have:=this s.data.toList.length s.data.toList;rw[E];rw[Qac]at this;exact Wq this hs
 have:=A.lp cs (λf (y:ByteArray) k=>F.cc s (ats 0 cs) f y k) (λ_ _ _=>some (⟨(flat cs.reverse).toArray⟩:ByteArray)) (λk y=>y=⟨(flat (cs.take k).reverse).toArray⟩)
  (λf y hp=>by
   show F.cc s (ats 0 cs) (f+1) y _=_;rw[F.cc,Qb (by rw[Qat];omega),hp,Yv])
  (λf y k x N hk hp J=>by
   subst hp;show F.cc s (ats 0 cs) (f+1) _ _=_;have O:Z.R64 ((k:Int)+1):=⟨by omega,by omega⟩;have ek:(k:Int)+1=((k+1:Nat):Int):=by omega
   have L:(ByteArray.mk (flat (cs.take k).reverse).toArray).size=pos cs k:=by
    show(flat (cs.take k).reverse).toArray.size=_;rw[Xt,I]
   have W:=Qjr H (k+1);have Y:=Qjr H k;have hes:(s.extract (pos cs k) (pos cs (k+1))).size<=s.size:=by rw[ByteArray.size_extract];omega
   rw[F.cc,Qc (by rw[Qat];omega),A.gd1 O,ek,part_eq H (show k<=k+1 by omega),Qa,A.gd1 (by rw[L];omega),A.gd1 (by rw[<-ek];exact O),<-ek];refine J _ ?_;refine Qkq ?_;rw[ByteArray.data_append,Array.toList_append,Qhg H];have e1:(cs.take (k+1)).drop k=[x]:=by
    rw[Xy,N,List.drop_append_of_le_length (by rw[Qy];omega),Q6 (by rw[Qy];omega)];rfl
   have e2:(cs.take (k+1)).reverse=x::(cs.take k).reverse:=by rw[Xy,N];simp
   rw[e1,e2,Qae];simp)
  (by have:=Qab;omega) (ByteArray.mk #[]) (by simp)
 exact this
abbrev Rec:=Int×ByteArray
def okT (s:ByteArray):Bool:=decide (s.size<=64)&&vld s s.size 0
def Qdk (r:Rec):F.dG r=some (if okT r.2=true then 0 else 50):=by
 rw[F.dG];unfold okT;by_cases h:r.2.size<=64;rw[Qb (by omega),F.aS,Qbf,Qa,F.dg,Qr h,Wy];cases vld r.2 r.2.size 0<;>rfl;rw[Qc (by omega),F.dg,Qc rfl,Q7 h];rfl
def Qdg (r:Rec):F.dH r=some (if okT r.2=true then 0 else 50):=by
 rw[F.dH];unfold okT;by_cases h:r.2.size<=64;rw[Qb (by omega),Qhn _ (by omega),Qa,F.dr,Qr h,Wy];cases vld r.2 r.2.size 0<;>rfl;rw[Qc (by omega),F.dr,Qc rfl,Q7 h];rfl
def Qbh {s:ByteArray}:okT s=true↔s.size<=64/\vld s s.size 0=true:=by unfold okT;simp
def Qcf {s:ByteArray}(h:vld s s.size 0=true):flat (cks s.data.toList)=s.data.toList/\∀c,c∈cks s.data.toList->Ck c:=valid_cks (by rw[Qbf];exact h)
def vld_of {s:ByteArray}{cs:List Rn}(h:s.data.toList=flat cs)(E: ∀c,c∈cs->Ck c):vld s s.size 0=true:=by
 rw[<-Qbf,h];exact valid_flat E
def cks_of {s:ByteArray}{cs:List Rn}(h:s.data.toList=flat cs)(E: ∀c,c∈cs->Ck c):cks s.data.toList=cs:=by rw[h];exact cks_flat E
def app_list (s t:ByteArray):(s++t).data.toList=s.data.toList++t.data.toList:=by rw[ByteArray.data_append,Array.toList_append]
def vld_app {s t:ByteArray}(hs:vld s s.size 0=true)(H:vld t t.size 0=true):vld (s++t) (s++t).size 0=true/\cks (s++t).data.toList=cks s.data.toList++cks t.data.toList:=by
 obtain⟨I,J⟩:=Qcf hs;obtain⟨L,N⟩:=Qcf H;have e:(s++t).data.toList=flat (cks s.data.toList++cks t.data.toList):=by rw[Qaw,I,L,app_list]
 have E: ∀c,c∈cks s.data.toList++cks t.data.toList->Ck c:=λc E=>(Q2.1 E).elim (J c) (N c);exact⟨vld_of e E,cks_of e E⟩
def Qjt (s:ByteArray):(cks s.data.toList).length<=s.size:=by
 have: ∀(n:Nat) (l:List UInt8),(ckF n l).length<=n:=by
  intro n;induction n with
  |zero=>intro l;simp[ckF]
  |succ n E=>intro l;unfold ckF;split<;>simp;exact E _
 exact this _ _
def mapK (f:Fun)(r:Rec):Rec:=
 if f.1=2 then(r.1,Qhw r.2)else if f.1=3 then(r.1,⟨(flat ((cks r.2.data.toList).take f.2.1.toNat)).toArray⟩)else if f.1=4 then(r.1,⟨(flat (cks r.2.data.toList).reverse).toArray⟩)
 else if f.1=5 then(r.1,(r.2++f.2.2).extract 0 (bd 64 0 (cks (r.2++f.2.2).data.toList)))else if f.1=6 then(Int.tmod (Int.tmod r.1 f.2.1+f.2.1) f.2.1,r.2)
 else if f.1=7 then(((cks r.2.data.toList).length:Int),r.2)else if f.1=8 then((((cks r.2.data.toList).map (·.2))[0]?).getD 0,r.2)else r
def mapP (f:Fun)(r:Rec):Rec×Int:=if chk 2 f≠0 then((0,ByteArray.mk #[]),chk 2 f)else if okT r.2=true then(mapK f r,0)else((0,ByteArray.mk #[]),50)
def Qkc {f:Fun}(h:chk 2 f=0):(1<=f.1/\f.1<=8)/\Qbl f=true/\Qhh f=true:=by
 have hk:chk 2 f=anyF f [1,2,3,4,5,6,7,8]:=rfl;rw[hk]at h;unfold anyF at h;split at h;rename_i E;rw[Jb]at E;obtain⟨y,I,H⟩:=E;simp only[Qo,Qs]at H;obtain⟨rfl,J,L⟩:=H;refine⟨?_,J,L⟩;simp only[Qk,Jt,or_false]at I;omega;cases h
def num_cut {f:Fun}(h:chk 2 f=0)(E:f.1=3):0<=f.2.1/\f.2.1<=64:=by
 have:=(Qkc h).2.1;unfold Qbl at this;rw[Qc (.inl E)]at this;simpa using this
def Qkj {f:Fun}(h:chk 2 f=0)(E:f.1=6):1<=f.2.1/\f.2.1<=1048576:=by
 have:=(Qkc h).2.1;unfold Qbl at this;rw[Qb (by omega),Qc (.inl E)]at this;simpa using this
def Qcy {f:Fun}(h:chk 2 f=0)(E:f.1=5):f.2.2.size<=16/\vld f.2.2 f.2.2.size 0=true:=by
 have:=(Qkc h).2.2;unfold Qhh at this;rw[Qc E]at this;simp only[Qo,Qs]at this;exact⟨by omega,this.2⟩
def runes_mk {cs:List Rn}(h: ∀c,c∈cs->Ck c):runesBytes (cs.map (·.2))=⟨(flat cs).toArray⟩:=Qkq (by rw[runes_flat h])
def Qdx (l:List UInt8):(ByteArray.mk l.toArray).size=l.length:=by show l.toArray.size=_;simp
def flat_sub {cs:List Rn}(k:Nat):(flat (cs.take k)).length<=(flat cs).length:=by
 have:=Wn List.length (Qed cs k);rw[Qy]at this;omega
def flat_rev (cs:List Rn):(flat cs.reverse).length=(flat cs).length:=by
 show(cs.reverse.flatMap (·.1)).length=(cs.flatMap (·.1)).length;simp only[List.length_flatMap];rw[List.map_reverse,List.sum_reverse]
def rest_eq {n b:Int}(H:1<=b)(I:b<=1048576):F.gr n b=some (Int.tmod (Int.tmod n b+b) b):=by
 have E:Int.tmod n b<b:=Yn n (by omega);have J: -b<Int.tmod n b:=by
  have:=Yn (-n) (show 0<b by omega);rw[Int.neg_tmod]at this;omega
 rw[F.gr,A.gd1 (by omega)];by_cases h:Int.tmod n b<0;rw[Qc h,A.gd1 ⟨by omega,by omega⟩,F.eI,Int.tmod_eq_of_lt (a:=Int.tmod n b+b) (by omega) (by omega)];rw[Qb h,F.eI];congr 1;rw[Int.tmod_eq_emod_of_nonneg (a:=Int.tmod n b+b) (by omega),Int.add_emod_right,Int.emod_eq_of_lt (by omega) E]
def Qfb {cs:List Rn}(h: ∀c,c∈cs->Ck c){x:Int}(E:(cs.map (·.2))[0]?=some x):0<=x/\x<=1114111:=by
 rw[Qq,Yk]at E;obtain⟨c,H,rfl⟩:=E;have:=h c (Qj H);exact⟨this.nn,this.top⟩
def fn_both_eq (f:Fun)(r:Rec)(hs:f.2.2.size<=9223372036854775807):F.f1 2 f r=some (if chk 2 f≠0 then chk 2 f else if okT r.2=true then 0 else 50):=by
 rw[F.f1];show(F.c9 2 f).bind _=_;rw[Qce 2 f hs,Qa];by_cases h:chk 2 f=0;rw[Qb (λE=>E h),Qb (λE=>E h)];show(F.dG r).bind _=_;rw[Qdk];rfl;rw[Qc h,Qc h]
def R06_may_eq (f:Fun)(r:Rec)(hs:f.2.2.size<=5000):F.f3 2 f r=some (if chk 2 f≠0 then chk 2 f else if okT r.2=true then 0 else 50):=by
 rw[F.f3];show(F.cC 2 f).bind _=_;rw[Qbt 2 f hs,Qa];by_cases h:chk 2 f=0;rw[Qb (λE=>E h),Qb (λE=>E h)];show(F.dH r).bind _=_;rw[Qdg];rfl;rw[Qc h,Qc h]
def fn_Map_eq (f:Fun)(r:Rec)(hs:f.2.2.size<=9223372036854775807):F.gs f r=some (mapP f r):=by
 rw[F.gs];show(F.f1 2 f r).bind _=_;rw[fn_both_eq f r hs,Qa];unfold mapP;by_cases h:chk 2 f=0;case neg=>rw[show(if chk 2 f≠0 then chk 2 f else if okT r.2=true then 0 else 50)=chk 2 f from Qc h,Qc h,Qc h]
 rw[show(if chk 2 f≠0 then chk 2 f else if okT r.2=true then 0 else 50)=if okT r.2=true then 0 else 50 from Qb (λH=>H h),Qb (show ¬(chk 2 f≠0)from λH=>H h)];by_cases I:okT r.2=true;case neg=>rw[show(if okT r.2=true then(0:Int)else 50)=50 from Qb I,Qb I];rfl
 rw[show(if okT r.2=true then(0:Int)else 50)=0 from Qc I,Qc I,Qb (show ¬((0:Int)≠0)from λH=>H rfl)];obtain⟨Q,V⟩:=Qbh.1 I;obtain⟨W,L⟩:=Qcf V;have Y:(flat (cks r.2.data.toList)).length=r.2.size:=by rw[W,Qac]
 have hcl:=Qjt r.2;rw[runes_F _ (by omega),Qa];unfold mapK;by_cases e2:f.1=2;rw[Qc e2,Qc e2,upper_F _ (by omega)];rfl;rw[Qb e2,Qb e2];by_cases e3:f.1=3;obtain⟨N,O⟩:=num_cut h e3;have e:List.take (min (((cks r.2.data.toList).map (·.2)).length:Int) f.2.1).toNat ((cks r.2.data.toList).map (·.2))=((cks r.2.data.toList).take f.2.1.toNat).map (·.2):=by
  rw[List.map_take,Qw];by_cases hm:((cks r.2.data.toList).length:Int)<=f.2.1;rw[Jv hm,Qv,Q3 (by rw[Qw];omega),Q3 (by rw[Qw];omega)];rw[Js (by omega)]
 have hsub:=flat_sub (cs:=cks r.2.data.toList) f.2.1.toNat;rw[Qc e3,Qc e3,A.gd1 ⟨by omega,by rw[Qw];omega⟩,e,runes_mk λc E=>L c (X3 E),A.gd1 (by rw[Qdx];omega)];rfl;rw[Qb e3,Qb e3];by_cases e4:f.1=4;have hr:=flat_rev (cks r.2.data.toList);rw[Qc e4,Qc e4,Reverse_eq _ (by rw[Qw];omega),Qa,<-List.map_reverse,runes_mk λc E=>L c (List.mem_reverse.1 E),A.gd1 (by rw[Qdx];omega)];rfl;rw[Qb e4,Qb e4];by_cases e5:f.1=5;obtain⟨N,O⟩:=Qcy h e5;have:=rec_Cut_eq (r.2++f.2.2) 64 (by rw[ByteArray.size_append];omega);rw[Qc e5,Qc e5,A.gd1 (by omega),show(64:Int)=((64:Nat):Int)from rfl,this];rfl;rw[Qb e5,Qb e5];by_cases e6:f.1=6;obtain⟨N,O⟩:=Qkj h e6;rw[Qc e6,Qc e6,rest_eq N O];rfl;rw[Qb e6,Qb e6];by_cases e7:f.1=7;rw[Qc e7,Qc e7,Qw];rfl;rw[Qb e7,Qb e7];by_cases e8:f.1=8;rw[Qc e8,Qc e8];cases J:((cks r.2.data.toList).map (·.2))[0]? with
 |none=>
  have:((cks r.2.data.toList).map (·.2)).length=0:=by
   have:=Yo.1 J;omega
  rw[Qb (by omega)];rfl
 |some x=>
  have hlt:=(Qd.1 J).1;have hr:=Qfb L J;rw[Qc (by omega),show A.ix ((cks r.2.data.toList).map (·.2)) 0=some x from A.ixn (k:=0) J,Qa,A.gd1 ⟨by omega,by omega⟩];rfl
 rw[Qb e8,Qb e8];rfl
def R06_Map_eq (f:Fun)(r:Rec)(hs:f.2.2.size<=5000):F.f4 f r=some (mapP f r):=by
 rw[F.f4];show(F.f3 2 f r).bind _=_;rw[R06_may_eq f r hs,Qa];unfold mapP;by_cases h:chk 2 f=0;case neg=>rw[show(if chk 2 f≠0 then chk 2 f else if okT r.2=true then 0 else 50)=chk 2 f from Qc h,Qc h,Qc h]
 rw[show(if chk 2 f≠0 then chk 2 f else if okT r.2=true then 0 else 50)=if okT r.2=true then 0 else 50 from Qb (λE=>E h),Qb (show ¬(chk 2 f≠0)from λE=>E h)];by_cases H:okT r.2=true;case neg=>rw[show(if okT r.2=true then(0:Int)else 50)=50 from Qb H,Qb H];rfl
 rw[show(if okT r.2=true then(0:Int)else 50)=0 from Qc H,Qc H,Qb (show ¬((0:Int)≠0)from λE=>E rfl)];obtain⟨W,L⟩:=Qbh.1 H;obtain⟨N,Y⟩:=Qcf L;have hfl:(flat (cks r.2.data.toList)).length=r.2.size:=by rw[N,Qac]
 have hcl:=Qjt r.2;rw[Qex _ (by omega) L,Qa];unfold mapK;by_cases e2:f.1=2;rw[Qc e2,Qc e2,Qig _ (by omega)];rfl;rw[Qb e2,Qb e2];by_cases e3:f.1=3;obtain⟨Q,O⟩:=num_cut h e3;have ea:f.2.1=((f.2.1.toNat:Nat):Int):=by omega
 have hp:=part_eq N (a:=0) (b:=f.2.1.toNat) (Xi _);rw[<-ea]at hp;have hp':F.fa r.2 (ats 0 (cks r.2.data.toList)) 0 f.2.1=_:=hp;rw[Qc e3,Qc e3,hp',Qa];have:r.2.extract (pos (cks r.2.data.toList) 0) (pos (cks r.2.data.toList) f.2.1.toNat)=⟨(flat ((cks r.2.data.toList).take f.2.1.toNat)).toArray⟩:=Qkq (by rw[Qhg N,W6]);rw[this];rfl;rw[Qb e3,Qb e3];by_cases e4:f.1=4;rw[Qc e4,Qc e4,turn_eq _ (by omega) L];rfl;rw[Qb e4,Qb e4];by_cases e5:f.1=5;obtain⟨Q,O⟩:=Qcy h e5;have:=R05_Cut_eq (r.2++f.2.2) 64 (by rw[ByteArray.size_append];omega) (vld_app L O).1;rw[Qc e5,Qc e5,A.gd1 (by omega),show(64:Int)=((64:Nat):Int)from rfl,this];rfl;rw[Qb e5,Qb e5];by_cases e6:f.1=6;obtain⟨Q,O⟩:=Qkj h e6;have t1:Int.tmod r.1 f.2.1<f.2.1:=Yn _ (by omega);have t2: -f.2.1<Int.tmod r.1 f.2.1:=by
  have:=Yn (-r.1) (show 0<f.2.1 by omega);rw[Int.neg_tmod]at this;omega
 rw[Qc e6,Qc e6,A.gd1 ⟨by omega,⟨by omega,by omega⟩,by omega⟩];rfl;rw[Qb e6,Qb e6];by_cases e7:f.1=7;rw[Qc e7,Qc e7,Qat];rfl;rw[Qb e7,Qb e7];by_cases e8:f.1=8;rw[Qc e8,Qc e8];have V:=Qhd (cks r.2.data.toList) 0 0;cases I:(cks r.2.data.toList)[0]? with
 |none=>
  have:(cks r.2.data.toList).length=0:=by
   have:=Yo.1 I;omega
  rw[Qb (by rw[Qat];omega),Qq,I];rfl
 |some x=>
  have hlt:=(Qd.1 I).1;have J:((cks r.2.data.toList).map (·.2))[0]?=some x.2:=by rw[Qq,I];rfl
  have hr:=Qfb Y J;rw[I]at V;rw[Qc (by rw[Qat];omega),show A.ix (ats 0 (cks r.2.data.toList)) 0=some _ from A.ixn (k:=0) V,Qa,A.gd1 ⟨by show _<=x.2;omega,by show x.2<=_;omega⟩,J];rfl
 rw[Qb e8,Qb e8];rfl
def Ck.one {b:UInt8}(h:b.toNat<128):Ck ([b],(b.toNat:Int)):=by
 have E:Lib.decodeL [b]=(b.toNat,1):=by
  rw[Lib.decodeL_N];unfold Lib.decodeN;rw[Qc (by simpa using h)];rfl
 have:=Ck.of (l:=[b]) (by simp) (by rw[E];intro H;have:=H.1;simp only at this;omega);rw[E]at this;exact this
def Ck.kinds {c:Rn}(h:Ck c):(∃b:UInt8,b.toNat<128/\c=([b],(b.toNat:Int)))\/∀b,b∈c.1->128<=b.toNat:=by
 have H:=h.dec [];rw[Wh]at H;have N:=h.ok;have hlen:=h.len;rw[Lib.decodeL_N]at H;have k0:=(c.1.getD 0 0).toNat_lt;rcases Lib.decodeN_shape c.1.length (c.1.getD 0 0).toNat (c.1.getD 1 0).toNat (c.1.getD 2 0).toNat (c.1.getD 3 0).toNat with⟨q,e⟩|⟨c1,c2,c3,cv,e⟩|⟨c1,c2,c3,c4,cv,cs,e⟩|⟨c1,c2,c3,c4,c5,cv,cw,e⟩|e
 left;rw[e]at H;injection H with J L
 have E:=Lib.takeA c.1 (by omega);rw[Q3 (by omega)]at E;refine⟨c.1.getD 0 0,q,?_⟩;have O:=h.nn;refine Prod.ext E ?_;show c.2=_;rw[J];omega;right;rw[e]at H;injection H with J L
 have E:=Lib.takeB c.1 (by omega);rw[Q3 (by omega)]at E;intro b I;rw[E]at I;simp only[Qk,Jt,or_false]at I;rcases I with rfl|rfl<;>omega
 right;rw[e]at H;injection H with J L
 have E:=Lib.takeC c.1 (by omega);rw[Q3 (by omega)]at E;intro b I;rw[E]at I;simp only[Qk,Jt,or_false]at I;rcases I with rfl|rfl|rfl<;>omega
 right;rw[e]at H;injection H with J L
 have E:=Lib.takeD c.1 (by omega);rw[Q3 (by omega)]at E;intro b I;rw[E]at I;simp only[Qk,Jt,or_false]at I;rcases I with rfl|rfl|rfl|rfl<;>omega
 rw[e]at H;injection H with J L
 exact absurd ⟨J.symm,L.symm⟩ N
def upB_lt {b:UInt8}(h:b.toNat<128):(upB b).toNat <128:=by
 unfold upB;split;rename_i E;have e:(UInt8.ofNat (b.toNat-32)).toNat=b.toNat-32:=by
  rw[UInt8.toNat_ofNat'];omega
 rw[e];omega;exact h
def upB_ge {b:UInt8}(h:128<=b.toNat):upB b=b:=by unfold upB;rw[Qb (by omega)]
def up_ck {cs:List Rn}(h: ∀c,c∈cs->Ck c): ∃cs',(∀c,c∈cs'->Ck c)/\flat cs'=(flat cs).map upB:=by
 induction cs with
 |nil=>exact⟨[],by simp,rfl⟩
 |cons c cs O=>
  obtain⟨cs',J,L⟩:=O λx E=>h x (Qf _ E);have N:=h c (Qi ..);rcases Ck.kinds N with⟨b,H,rfl⟩|H
  exact⟨([upB b],((upB b).toNat:Int))::cs',λx E=>(Qk.1 E).elim (λe=>e▸Ck.one (upB_lt H)) (J x),by rw[Qae,Qae,L];simp⟩;refine⟨c::cs',λx E=>(Qk.1 E).elim (λe=>e▸N) (J x),?_⟩;rw[Qae,Qae,L,Xm];congr 1;refine((List.map_congr_left λb I=>upB_ge (H b I)).trans ?_).symm;simp
def o_cX {f:Fun}{r:Rec}(h:chk 2 f=0)(H:okT r.2=true):okT (mapK f r).2=true:=by
 obtain⟨I,L⟩:=Qbh.1 H;obtain⟨N,J⟩:=Qcf L;have Q:(flat (cks r.2.data.toList)).length=r.2.size:=by rw[N,Qac]
 unfold mapK;by_cases e2:f.1=2;rw[Qc e2];obtain⟨cs',V,O⟩:=up_ck J;rw[N]at O;refine Qbh.2 ⟨?_,vld_of (cs:=cs') (by rw[O];rfl) V⟩;show(Qhw r.2).size<=64;unfold Qhw;rw[Qdx,Qw,Qac];exact I;rw[Qb e2];by_cases e3:f.1=3;rw[Qc e3];have hsub:=flat_sub (cs:=cks r.2.data.toList) f.2.1.toNat;exact Qbh.2 ⟨by show(ByteArray.mk _).size<=64;rw[Qdx];omega,vld_of (cs:=(cks r.2.data.toList).take f.2.1.toNat) rfl λc E=>J c (X3 E)⟩;rw[Qb e3];by_cases e4:f.1=4;rw[Qc e4];have hr:=flat_rev (cks r.2.data.toList);exact Qbh.2 ⟨by show(ByteArray.mk _).size<=64;rw[Qdx];omega,vld_of (cs:=(cks r.2.data.toList).reverse) rfl λc E=>J c (List.mem_reverse.1 E)⟩;rw[Qb e4];by_cases e5:f.1=5;rw[Qc e5];obtain⟨n1,W⟩:=Qcy h e5;obtain⟨Y,v2⟩:=vld_app L W;obtain⟨g1,g2⟩:=Qcf Y;obtain⟨k,b1,b2⟩:=bd_pre 64 (cks (r.2++f.2.2).data.toList) 0 (Xi _);have e:((r.2++f.2.2).extract 0 (bd 64 0 (cks (r.2++f.2.2).data.toList))).data.toList=flat ((cks (r.2++f.2.2).data.toList).take k):=by
  have:=Qhg g1 0 k;rw[W6]at this;rw[b1,Xc];exact this
 refine Qbh.2 ⟨?_,vld_of e λc E=>g2 c (X3 E)⟩;show((r.2++f.2.2).extract 0 _).size<=64;rw[ByteArray.size_extract];omega;rw[Qb e5];by_cases e6:f.1=6;rw[Qc e6];exact H;rw[Qb e6];by_cases e7:f.1=7;rw[Qc e7];exact H;rw[Qb e7];by_cases e8:f.1=8;rw[Qc e8];exact H;rw[Qb e8];exact H
end Go.Proofs.YtlhiofnikdppeaaGreatDoor
end
section
namespace Go.Ent
open Go.Utf
abbrev En:=Int×Int×ByteArray×Int
abbrev Ky:=Int×Int×ByteArray
abbrev key (e:En):Ky:=(e.1,e.2.1,e.2.2.1)
abbrev num (e:En):Int:=e.2.2.2
def bL_irr: ∀a:List UInt8,Op.bytesLess a a=false
 | []=>rfl
 |x::a=>by unfold Op.bytesLess;rw[bL_irr a];simp
def bL_tr: ∀{a b c:List UInt8},Op.bytesLess a b=true->Op.bytesLess b c=true->Op.bytesLess a c=true
 |_,_,[],_,h=>by cases h':(‹List UInt8›)<;>simp_all [Op.bytesLess]
 |_,[],_::_,h,_=>by simp_all [Op.bytesLess]
 | [],_::_,_::_,_,_=>rfl
 |x::a,y::b,z::c,H,E=>by
  unfold Op.bytesLess at H E ⊢;simp only[X7,Qo,Qs,beq_iff_eq]at H E ⊢;rcases H with H|⟨rfl,H⟩
  rcases E with E|⟨rfl,E⟩
  exact .inl (UInt8.lt_trans H E);exact .inl H;rcases E with E|⟨rfl,E⟩
  exact .inl E;exact .inr ⟨rfl,bL_tr H E⟩
def bL_tri: ∀{a b:List UInt8},Op.bytesLess a b=false->Op.bytesLess b a=false->a=b
 | [],[],_,_=>rfl
 | [],_::_,h,_=>by simp[Op.bytesLess]at h
 |_::_,[],_,h=>by simp[Op.bytesLess]at h
 |x::a,y::b,E,H=>by
  unfold Op.bytesLess at E H;simp only[Bool.or_eq_false_iff,decide_eq_false_iff_not,Y3]at E H;have e:x=y:=UInt8.le_antisymm (UInt8.not_lt.1 H.1) (UInt8.not_lt.1 E.1);subst e;have I:Op.bytesLess a b=false:=by rcases E.2 with h|h;simp at h;exact h
  have J:Op.bytesLess b a=false:=by rcases H.2 with h|h;simp at h;exact h
  rw[bL_tri I J]
def bl (s t:ByteArray):Bool:=Op.bytesLess s.toList t.toList
def bl_irr (s:ByteArray):bl s s=false:=bL_irr _
def bl_tr {s t u:ByteArray}(E:bl s t=true)(H:bl t u=true):bl s u=true:=bL_tr E H
def bl_tri {s t:ByteArray}(E:bl s t=false)(H:bl t s=false):s=t:=by
 have:=bL_tri E H;rw[Lib.toList_data,Lib.toList_data]at this;exact Qkq this
def rl (a b:Int×ByteArray):Bool:=decide (a.1<b.1)||(decide (a.1=b.1)&&bl a.2 b.2)
def rl_irr (a:Int×ByteArray):rl a a=false:=by unfold rl;rw[bl_irr];simp
def rl_tr {a b c:Int×ByteArray}(H:rl a b=true)(E:rl b c=true):rl a c=true:=by
 unfold rl at H E ⊢;simp only[X7,Qo,Qs]at H E ⊢;rcases H with H|⟨H,h1'⟩
 rcases E with E|⟨E,h2'⟩
 left;omega;left;omega;rcases E with E|⟨E,h2'⟩
 left;omega;exact .inr ⟨H.trans E,bl_tr h1' h2'⟩
def rl_tri {a b:Int×ByteArray}(E:rl a b=false)(H:rl b a=false):a=b:=by
 unfold rl at E H;simp only[Bool.or_eq_false_iff,decide_eq_false_iff_not,Y3]at E H;have e:a.1=b.1:=by omega
 have I:bl a.2 b.2=false:=by rcases E.2 with h|h;exact absurd e h;exact h
 have J:bl b.2 a.2=false:=by rcases H.2 with h|h;exact absurd e.symm h;exact h
 exact Prod.ext e (bl_tri I J)
def kl (a b:Ky):Bool:=decide (a.1<b.1)||(decide (a.1=b.1)&&rl a.2 b.2)
def kl_irr (a:Ky):kl a a=false:=by unfold kl;rw[rl_irr];simp
def kl_tr {a b c:Ky}(H:kl a b=true)(E:kl b c=true):kl a c=true:=by
 unfold kl at H E ⊢;simp only[X7,Qo,Qs]at H E ⊢;rcases H with H|⟨H,h1'⟩
 rcases E with E|⟨E,h2'⟩
 left;omega;left;omega;rcases E with E|⟨E,h2'⟩
 left;omega;exact .inr ⟨H.trans E,rl_tr h1' h2'⟩
def kl_tri {a b:Ky}(E:kl a b=false)(H:kl b a=false):a=b:=by
 unfold kl at E H;simp only[Bool.or_eq_false_iff,decide_eq_false_iff_not,Y3]at E H;have e:a.1=b.1:=by omega
 have I:rl a.2 b.2=false:=by rcases E.2 with h|h;exact absurd e h;exact h
 have J:rl b.2 a.2=false:=by rcases H.2 with h|h;exact absurd e.symm h;exact h
 exact Prod.ext e (rl_tri I J)
def kl_ne {a b:Ky}(h:kl a b=true):a≠b:=λe=>by subst e;rw[kl_irr]at h;cases h
def kl_asy {a b:Ky}(h:kl a b=true):kl b a=false:=by
 cases E:kl b a with
 |false=>rfl
 |true=>have:=kl_tr h E;rw[kl_irr]at this;cases this
abbrev Srt (l:List En):Prop:=l.Pairwise λa b=>kl (key a) (key b)=true
def gv:List En->Ky->Int
 | [],_=>0
 |e::l,k=>if key e=k then num e else gv l k
def gv_none: ∀{l:List En} {k:Ky},(∀e,e∈l->key e≠k)->gv l k=0
 | [],_,_=>rfl
 |e::l,k,h=>by unfold gv;rw[Qb (h e (Qi ..))];exact gv_none λx E=>h x (Qf _ E)
def gv_mem: ∀{l:List En} {e:En},Srt l->e∈l->gv l (key e)=num e
 |x::l,e,h,E=>by
  unfold gv;rcases Qk.1 E with rfl|E
  rw[Qc rfl];rw[Qb (kl_ne ((Qu.1 h).1 e E))];exact gv_mem (Qu.1 h).2 E
def gv_at {l:List En}{k:Ky}(h:gv l k≠0): ∃e,e∈l/\key e=k/\num e=gv l k:=by
 induction l with
 |nil=>exact absurd rfl h
 |cons x l H=>
  unfold gv at h ⊢;by_cases E:key x=k;rw[Qc E];exact⟨x,Qi ..,E,rfl⟩;rw[Qb E]at h ⊢;obtain⟨e,I,J⟩:=H h;exact⟨e,Qf _ I,J⟩
def en_ext {a b:En}(h:key a=key b)(E:num a=num b):a=b:=by
 obtain⟨a1,a2,a3,a4⟩:=a;obtain⟨b1,b2,b3,b4⟩:=b;simp only[key,num,Yr]at h E;obtain⟨rfl,rfl,rfl⟩:=h;subst E;rfl
def srt_ext: ∀{l m:List En},Srt l->Srt m->(∀e,e∈l↔e∈m)->l=m
 | [],[],_,_,_=>rfl
 | [],y::m,_,_,h=>by have:=(h y).2 (Qi ..);cases this
 |x::l,[],_,_,h=>by have:=(h x).1 (Qi ..);cases this
 |x::l,y::m,H,I,h=>by
  have e:x=y:=by
   rcases Qk.1 ((h x).1 (Qi ..))with e|N
   exact e;rcases Qk.1 ((h y).2 (Qi ..))with e|O
   exact e.symm;have Q:=(Qu.1 I).1 x N;have L:=(Qu.1 H).1 y O;rw[kl_asy Q]at L;cases L
  subst e;congr 1;refine srt_ext (Qu.1 H).2 (Qu.1 I).2 λe=>?_;have nl: ∀z,z∈l->z≠x:=λz J e=>by subst e;have:=(Qu.1 H).1 z J;rw[kl_irr]at this;cases this
  have nm: ∀z,z∈m->z≠x:=λz J e=>by subst e;have:=(Qu.1 I).1 z J;rw[kl_irr]at this;cases this
  exact⟨λE=>((Qk.1 ((h e).1 (Qf _ E))).resolve_left (nl e E)),λE=>((Qk.1 ((h e).2 (Qf _ E))).resolve_left (nm e E))⟩
structure Nf (l:List En):Prop where
 srt:Srt l
 nz: ∀e,e∈l->num e≠0
def nf_mem {l m:List En}(H:Nf l)(O:Nf m)(h: ∀k,gv l k=gv m k){e:En}(I:e∈l):e∈m:=by
 have E:=gv_mem H.srt I;rw[h]at E;obtain⟨e',L,N,J⟩:=gv_at (l:=m) (k:=key e) (by rw[E];exact H.nz e I);rw[E]at J;rw[<-en_ext N J];exact L
def nf_ext {l m:List En}(E:Nf l)(H:Nf m)(h: ∀k,gv l k=gv m k):l=m:=
 srt_ext E.srt H.srt λe=>⟨nf_mem E H h,nf_mem H E λk=>(h k).symm⟩
def upd (x e:En)(one:Bool):En:=(x.1,x.2.1,x.2.2.1,if one=true then 1 else min (num x+num e) 1099511627776)
def insP (e:En)(one:Bool):List En->List En
 | []=>[e]
 |x::l=>if key x=key e then upd x e one::l else if kl (key e) (key x)=true then e::x::l else x::insP e one l
def putP (e:En)(one:Bool)(l:List En):List En:=if num e=0 then l else insP e one l
abbrev cap (one:Bool):Int:=if one=true then 1 else 1099511627776
structure Bd (one:Bool) (l:List En):Prop where
 srt:Srt l
 b: ∀e,e∈l->1<=num e/\num e<=cap one
def Bd.nf {one:Bool}{l:List En}(h:Bd one l):Nf l:=⟨h.srt,λe E=>by have:=(h.b e E).1;omega⟩
def Bd.gv {one:Bool}{l:List En}(h:Bd one l)(k:Ky):0<=gv l k/\gv l k<=cap one:=by
 by_cases E:Ent.gv l k=0;rw[E];cases one<;>decide;obtain⟨e,H,_,I⟩:=gv_at E;have:=h.b e H;rw[I]at this;exact⟨by omega,this.2⟩
def Qgv {e:En}{one:Bool}: ∀{l:List En} {x:En},x∈insP e one l->x=e\/x∈l\/∃y,y∈l/\key y=key e/\x=upd y e one
 | [],x,h=>by simp only[insP,Qn]at h;exact .inl h
 |y::l,x,h=>by
  unfold insP at h;split at h;rename_i hk;rcases Qk.1 h with rfl|h
  exact .inr (.inr ⟨y,Qi ..,hk,rfl⟩);exact .inr (.inl (Qf _ h));split at h;rcases Qk.1 h with rfl|h
  exact .inl rfl;exact .inr (.inl h);rcases Qk.1 h with rfl|h
  exact .inr (.inl (Qi ..));rcases Qgv h with E|E|⟨z,E,H⟩
  exact .inl E;exact .inr (.inl (Qf _ E));exact .inr (.inr ⟨z,Qf _ E,H⟩)
def insP_key {e:En}{one:Bool}{l:List En}{x:En}(h:x∈insP e one l):key x=key e\/∃y,y∈l/\key x=key y:=by
 rcases Qgv h with rfl|h|⟨y,E,H,rfl⟩
 exact .inl rfl;exact .inr ⟨x,h,rfl⟩;exact .inr ⟨y,E,rfl⟩
def insP_srt {e:En}{one:Bool}: ∀{l:List En},Srt l->Srt (insP e one l)
 | [],_=>by simp[insP]
 |x::l,h=>by
  obtain⟨J,N⟩:=Qu.1 h;unfold insP;split;rename_i hk;exact Qu.2 ⟨λy H=>J y H,N⟩;rename_i hk;split;rename_i E;exact Qu.2 ⟨λy H=>(Qk.1 H).elim (λe=>e▸E) λH=>kl_tr E (J y H),h⟩;rename_i E;refine Qu.2 ⟨λy H=>?_,insP_srt N⟩;rcases insP_key H with I|⟨z,O,I⟩
  rw[I];cases L:kl (key x) (key e)with
  |true=>rfl
  |false=>exact absurd (kl_tri L (by simpa using E)) hk
  rw[I];exact J z O
def insP_gv {e:En}{one:Bool}{k:Ky}: ∀{l:List En},Bd one l->1<=num e->num e<=cap one->gv (insP e one l) k=if k=key e then min (cap one) (gv l k+num e)else gv l k
 | [],_,L,J=>by
  unfold insP gv gv;by_cases hk:k=key e;rw[Qc hk.symm,Qc hk];omega;rw[Qb (λh=>hk h.symm),Qb hk]
 |x::l,h,L,J=>by
  obtain⟨O,Q⟩:=Qu.1 h.srt;have V:Bd one l:=⟨Q,λy H=>h.b y (Qf _ H)⟩;have N:=h.b x (Qi ..);unfold insP;split;rename_i E;unfold gv;by_cases hk:k=key e;rw[Qc (show key (upd x e one)=k from E.trans hk.symm),Qc hk,Qc (E.trans hk.symm)];unfold num at L J N;unfold upd num;cases one with
  |true=>simp only[W8];simp only[cap,W8]at J N ⊢;omega
  |false=>simp only[Qx,Wa];simp only[cap,Qx,Wa];omega
  rw[Qb (show key (upd x e one)≠k from λh=>hk (h.symm.trans E)),Qb hk,Qb (λh=>hk (h.symm.trans E))];rename_i E;split;rename_i I;by_cases hk:k=key e;have W:gv (x::l) k=0:=gv_none λy H Y=>by
   have:kl (key e) (key y)=true:=(Qk.1 H).elim (λe=>e▸I) λH=>kl_tr I (O y H);exact kl_ne this (Y.trans hk).symm
  rw[Qc hk,W];conv=>lhs;unfold gv
  rw[Qc hk.symm];omega;conv=>lhs;unfold gv
  rw[Qb (λh=>hk h.symm),Qb hk];unfold gv;by_cases hk:key x=k;rw[Qc hk,Qc hk,Qb (λh=>E (hk.trans h))];rw[Qb hk,Qb hk];exact insP_gv V L J
def Qjw {e:En}{one:Bool}{l:List En}(h:Bd one l)(I:0<=num e)(H:num e<=cap one):Bd one (putP e one l):=by
 unfold putP;split;exact h;rename_i L;refine⟨insP_srt h.srt,λx E=>?_⟩;rcases Qgv E with rfl|E|⟨y,J,_,rfl⟩
 exact⟨by omega,H⟩;exact h.b x E;have:=h.b y J;unfold num at this I H;unfold upd num;cases one with
 |true=>simp[cap]
 |false=>simp only[Qx,Wa];simp only[cap,Qx,Wa];omega
def putP_gv {e:En}{one:Bool}{l:List En}(h:Bd one l)(I:0<=num e)(E:num e<=cap one)(k:Ky):gv (putP e one l) k=if key e=k then min (cap one) (gv l k+num e)else gv l k:=by
 have:=h.gv k;unfold putP;split;rename_i H;rw[H,Int.add_zero];split;omega;rfl;rw[insP_gv h (by omega) E];by_cases hk:k=key e;rw[Qc hk,Qc hk.symm];rw[Qb hk,Qb (λh=>hk h.symm)]
def cs (C:Int)(l:List En)(k:Ky):Int:=l.foldl (λa e=>if key e=k then min C (a+num e)else a) 0
def cs_snoc (C:Int)(l:List En)(e:En)(k:Ky):cs C (l++[e]) k=if key e=k then min C (cs C l k+num e)else cs C l k:=by
 unfold cs;rw[Jq];rfl
def sm:List En->Ky->Int
 | [],_=>0
 |e::l,k=>(if key e=k then num e else 0)+sm l k
def sm_nn {l:List En}(h: ∀e,e∈l->0<=num e)(k:Ky):0<=sm l k:=by
 induction l with
 |nil=>simp[sm]
 |cons x l E=>
  have I:=E λe H=>h e (Qf _ H);have J:=h x (Qi ..);unfold sm;split<;>omega
def cs_sm {C:Int}(L:0<=C): ∀(l:List En),(∀e,e∈l->0<=num e)->∀k,cs C l k=min C (sm l k):=by
 intro l h k;have main: ∀(l:List En) (a:Int),(∀e,e∈l->0<=num e)->0<=a->a<=C->l.foldl (λa e=>if key e=k then min C (a+num e)else a) a=min C (a+sm l k):=by
  intro l;induction l with
  |nil=>intro a _ H I;simp[sm];omega
  |cons x l J=>
   intro a h H I;have N:=h x (Qi ..);have O:=sm_nn (λe E=>h e (Qf _ E)) k;rw[Jh,sm];split;rw[J _ (λe E=>h e (Qf _ E)) (by omega) (by omega)];omega;rw[J _ (λe E=>h e (Qf _ E)) H I];omega
 have:=main l 0 h (Y7 _) L;rw[Int.zero_add]at this;exact this
def foldP (one:Bool)(l:List En)(a:List En):List En:=l.foldl (λa e=>putP e one a) a
def o_be {one:Bool}: ∀(l a:List En),Bd one a->(∀e,e∈l->0<=num e/\num e<=cap one)->Bd one (foldP one l a)/\∀k,gv (foldP one l a) k=l.foldl (λv e=>if key e=k then min (cap one) (v+num e)else v) (gv a k)
 | [],a,h,_=>⟨h,λ_=>rfl⟩
 |e::l,a,h,H=>by
  have E:=H e (Qi ..);obtain⟨I,J⟩:=o_be l (putP e one a) (Qjw h E.1 E.2) λx L=>H x (Qf _ L);refine⟨I,λk=>?_⟩;have:=J k;rw[putP_gv h E.1 E.2]at this;exact this
def foldP_nil {one:Bool}(l:List En)(E: ∀e,e∈l->0<=num e/\num e<=cap one):Bd one (foldP one l [])/\∀k,gv (foldP one l []) k=cs (cap one) l k:=
 o_be l [] ⟨List.Pairwise.nil,by simp⟩ E
end Go.Ent
end
section
namespace Go.Proofs.YtlhiofnikdppeaaGreatDoor
open Go.RowKit Go.Graph Go.Utf Go.Ent
def cI (a b:Int):Int:=if a<b then-1 else if b<a then 1 else 0
def Qgg (a b:Int):F.bP a b=some (cI a b):=by
 rw[F.bP];simp only[F.c0,Qa,ne_eq,not_true,decide_false,Qx,Wa];unfold cI;by_cases E:a<b;rw[Qc E,Qc E];rw[Qb E,Qb E];by_cases H:b<a;rw[Qc H,Qc H];rw[Qb H,Qb H]
def cmpi_eq (a b:Int):F.ej a b=some (cI a b):=Qgg a b
def cS (a b:ByteArray):Int:=if bl a b=true then-1 else if a=b then 0 else 1
def tl_eq {a b:ByteArray}:(a.toList==b.toList)=decide (a=b):=by
 rw[Lib.toList_data,Lib.toList_data];by_cases h:a=b;subst h;simp;rw[Q7 h];exact beq_eq_false_iff_ne.2 λe=>h (Qkq e)
def cmps_eq (a b:ByteArray):F.cg a b=some (cS a b):=by
 rw[F.cg];simp only[F.cL,Qa,ne_eq,not_true,decide_false,Qx,Wa,tl_eq];unfold cS bl;by_cases E:Op.bytesLess a.toList b.toList=true;rw[Qc E,Qc E];rw[Qb E,Qb E];rw[Yw]at E;by_cases H:a=b;subst H;rw[E];simp;rw[E,Q7 H];simp[H]
def cB_eq: ∀a b:List UInt8,Lib.compareBytes a b=if Op.bytesLess a b=true then-1 else if a=b then 0 else 1
 | [],[]=>rfl
 | [],_::_=>rfl
 |_::_,[]=>by simp[Lib.compareBytes,Op.bytesLess]
 |x::a,y::b=>by
  unfold Lib.compareBytes Op.bytesLess;by_cases E:x<y;simp[E];by_cases H:y<x;have I:x≠y:=λe=>by subst e;exact E H
  simp[E,H,I];have e:x=y:=UInt8.le_antisymm (UInt8.not_lt.1 H) (UInt8.not_lt.1 E);subst e;rw[Qb E,Qb E,cB_eq a b];simp[E]
def scmp_eq (a b:ByteArray):F.eh a b=some (cS a b):=by
 rw[F.eh,cB_eq];unfold cS bl;rw[Lib.toList_data,Lib.toList_data];by_cases h:a=b;subst h;simp;have:a.data.toList≠b.data.toList:=λe=>h (Qkq e);simp[h,this]
def or_eq (l:List Int)(J:l.length<=100):F.dK l=some ((l.find? λx=>decide (x≠0)).getD 0):=
 A.lp0 l (λf y=>F.cp l f y) (λ_ r=>some ((r.find? λx=>decide (x≠0)).getD 0))
  (λf=>by rw[F.cp,Qb (by omega)];rfl)
  (λf k x H hk I=>by
   rw[F.cp,Qc (by omega),A.ixn H,Qa,List.find?_cons];by_cases h:x=0;rw[Qb (λE=>E h),A.gd1 ⟨by omega,by omega⟩,I,Q7 (λE=>E h)];rw[Qc h,Qr h];rfl)
  (by have:=Qab;omega)
def or2 (a b:Int):F.dK [a,b]=some (if a≠0 then a else b):=by
 rw[or_eq _ (by simp)];by_cases h:a=0;subst h;by_cases E:b=0;subst E;rfl;simp[E];simp[h]
def or3 (a b c:Int):F.dK [a,b,c]=some (if a≠0 then a else if b≠0 then b else c):=by
 rw[or_eq _ (by simp)];by_cases h:a=0;subst h;by_cases E:b=0;subst E;by_cases H:c=0;subst H;rfl;simp[H];simp[E];simp[h]
abbrev rec (e:En):Int×ByteArray:=(e.2.1,e.2.2.1)
def cS_cases (a b:ByteArray):(bl a b=true/\cS a b= -1)\/(a=b/\bl a b=false/\cS a b=0)\/(a≠b/\bl a b=false/\bl b a=true/\cS a b=1):=by
 unfold cS;cases h:bl a b with
 |true=>exact .inl ⟨rfl,by simp⟩
 |false=>
  by_cases E:a=b;exact .inr (.inl ⟨E,rfl,by simp[E]⟩);refine .inr (.inr ⟨E,rfl,?_,by simp[E]⟩);cases H:bl b a with
  |true=>rfl
  |false=>exact absurd (bl_tri h H) E
def Qhq (a b:Int):(a<b/\cI a b= -1)\/(a=b/\cI a b=0)\/(b<a/\cI a b=1):=by
 unfold cI;by_cases h:a<b;exact .inl ⟨h,Qc h⟩;by_cases E:b<a;exact .inr (.inr ⟨E,by rw[Qb h,Qc E]⟩);exact .inr (.inl ⟨by omega,by rw[Qb h,Qb E]⟩)
def cR (a b:Int×ByteArray):Int:=if cI a.1 b.1≠0 then cI a.1 b.1 else cS a.2 b.2
def cR_lt (a b:Int×ByteArray):decide (cR a b<0)=rl a b:=by
 unfold cR rl;rcases Qhq a.1 b.1 with⟨h,e⟩|⟨h,e⟩|⟨h,e⟩
 rw[e];simp[h];rw[e,h];simp only[ne_eq,not_true,Wa,Int.lt_irrefl,decide_false,Xo,decide_true,Wy];rcases cS_cases a.2 b.2 with⟨E,e2⟩|⟨E,H,e2⟩|⟨E,H,J,e2⟩
 rw[e2,E];rfl;rw[e2,H];rfl;rw[e2,H];rfl;rw[e];have I: ¬a.1<b.1:=by omega
 have E: ¬a.1=b.1:=by omega
 simp[I,E]
def ahead_eq (a b:En):F.eF a b=some (rl (rec a) (rec b)):=by
 rw[F.eF,Qgg,Qa,scmp_eq,Qa,or2,Qa];exact Wn some (cR_lt (rec a) (rec b))
def Qfe (a b:Int×ByteArray):F.ed a b=some (cR a b):=by
 rw[F.ed];unfold cR;rcases Qhq a.1 b.1 with⟨h,e⟩|⟨h,e⟩|⟨h,e⟩
 rw[Qc h,e];rfl;rw[Qb (by omega),Qb (by omega),e];simp only[tl_eq];unfold cS bl;by_cases E:Op.bytesLess a.2.toList b.2.toList=true;rw[Qc E,Qc E];rfl;rw[Qb E,Qb E];rw[Yw]at E;rw[E];by_cases H:a.2=b.2;simp[H];simp[H];rw[Qb (by omega),Qc h,e];rfl
def Qiv (a b:En):F.fk a b=some (rl (rec a) (rec b)):=by
 rw[F.fk];show(F.ed (rec a) (rec b)).bind _=_;rw[Qfe,Qa,cR_lt]
def Qja (a b:En):F.fl a b=some (kl (key a) (key b)):=by
 rw[F.fl];unfold kl rl;by_cases h:a.1=b.1;rw[Qb (λE=>E h)];by_cases E:a.2.1<b.2.1;rw[Qc E];simp[h,E];rw[Qb E];show some (bif decide (a.2.1=b.2.1)then bl a.2.2.1 b.2.2.1 else false)=_;by_cases H:a.2.1=b.2.1;simp[h,H];simp[h,E,H];rw[Qc h];simp[h]
def list1_eq (a b:En): ∃c,F.ad a b=some c/\decide (c<0)=kl (key a) (key b):=by
 rw[F.ad,cmpi_eq,Qa,Qgg,Qa,cmps_eq,Qa,or3,Qa];refine⟨_,rfl,?_⟩;unfold kl;have:=cR_lt (rec a) (rec b);unfold cR at this;rcases Qhq a.1 b.1 with⟨h,e⟩|⟨h,e⟩|⟨h,e⟩
 rw[e];simp[h];rw[e,Qb (by omega),this];simp[h];rw[e];have E: ¬a.1<b.1:=by omega
 have H: ¬a.1=b.1:=by omega
 simp[E,H]
def cl0_eq:A.cl0 (λx y=>F.ad x y)=λx y=>kl (key x) (key y):=by
 funext x y;obtain⟨c,E,H⟩:=list1_eq x y;show(match F.ad x y with|some c=>decide (c<0)|none=>false)=_;rw[E];exact H
def Qbj (n:Nd)(x:En):Bool:=
 if x.1≠n.1 then false else if n.2.1=11 then decide (x.2.2.1=ByteArray.mk #[])&&decide (0<=x.2.2.2)&&decide (x.2.2.2<=1099511627776)else if n.2.1=16 then decide (x.2.2.2=1)&&okT x.2.2.1 else false
def stF (n:Nd):Option En->List En->Bool
 |_,[]=>true
 |none,e::l=>Qbj n e&&stF n (some e) l
 |some p,e::l=>Qbj n e&&rl (rec p) (rec e)&&stF n (some e) l
def stP (n:Nd)(l:List En):Bool:=stF n none l
def entry_eq (n:Nd)(x:En):F.eG n x=some (Qbj n x):=by
 rw[F.eG];unfold Qbj;by_cases J:x.1=n.1;have h0': ¬(x.1≠n.1):=λh=>h J;rw[Qb h0',Qb h0'];by_cases E:n.2.1=11;rw[Qc E,Qc E];congr 1;by_cases a1:x.2.2.1=ByteArray.mk #[]<;>by_cases a2:(0:Int)<=x.2.2.2<;>by_cases a3:x.2.2.2<=1099511627776<;>simp[a1,a2,a3];rw[Qb E,Qb E];by_cases H:n.2.1=16;rw[Qc H,Qc H];by_cases I:x.2.2.2=1;rw[Qc I];show(F.dG (rec x)).bind _=_;rw[Qdk,Qa,F.cW,Qr I,Wy];show some (decide ((if okT x.2.2.1=true then(0:Int)else 50)=0))=_;cases okT x.2.2.1<;>rfl;rw[Qb I,F.cW,Q7 I];rfl;rw[Qb H,Qb H];rw[Qc J,Qc J]
abbrev prv (l:List En) (k:Nat):Option En:=if k=0 then none else l[k-1]?
def prv_s (l:List En)(k:Nat){x:En}(h:l[k]?=some x):prv l (k+1)=some x:=by unfold prv;rw[Qb (by omega)];exact h
def Qcu (n:Nd)(l:List En)(N:l.length<=9223372036854775807):F.bB n l=some (if stP n l=true then 0 else 171):=
 A.lp0 l (λf y=>F.y n l f y) (λk r=>some (if stF n (prv l k) r=true then 0 else 171))
  (λf=>by
   rw[F.y,Qb (by omega)];cases prv l l.length<;>rfl)
  (λf k x I hk J=>by
   rw[F.y,Qc (by omega),A.ixn I,Qa];show(F.eG n x).bind _=_;rw[prv_s l k I]at J;have nx: ∀b:Bool,F.aT (F.y n l f) (k:Int) b=some (if(!b&&stF n (some x) (l.drop (k+1)))=true then 0 else 171):=λb=>by
    rw[F.aT];cases b with
    |true=>rw[Qc rfl];rfl
    |false=>rw[Qb (by simp),A.gd1 ⟨by omega,by omega⟩,J];rfl
   rw[entry_eq,Qa];by_cases E:k=0;subst E;show _=some (if(Qbj n x&&stF n (some x) (l.drop (0+1)))=true then 0 else 171);cases L:Qbj n x with
   |false=>rw[Xn,Qc rfl,nx];rfl
   |true=>rw[Wz,Qb (by simp),Qb (by omega),nx];rfl
   have hp:prv l k=l[k-1]?:=by unfold prv;rw[Qb E]
   obtain⟨p,H⟩: ∃p,l[k-1]?=some p:=⟨_,Qg (by omega)⟩;rw[hp,H];show _=some (if(Qbj n x&&rl (rec p) (rec x)&&stF n (some x) (l.drop (k+1)))=true then 0 else 171);cases L:Qbj n x with
   |false=>rw[Xn,Qc rfl,nx];rfl
   |true=>
    rw[Wz,Qb (by simp),Qc (by omega),A.gd1 ⟨by omega,by omega⟩,show(k:Int)-1=((k-1:Nat):Int) by omega,A.ixn H,Qa];show(F.eF p x).bind _=_;rw[ahead_eq,Qa,nx,Bool.not_not,Wy])
  (by have:=Qab;omega)
def Qbe (n:Nd)(l:List En)(hl:l.length<=9223372036854775807):F.b9 n l=some (if stP n l=true then 0 else 171):=
 A.lp0 l (λf y=>F.j n l f y) (λk r=>some (if stF n (prv l k) r=true then 0 else 171))
  (λf=>by
   rw[F.j,Qb (by omega)];cases prv l l.length<;>rfl)
  (λf k x W hk Y=>by
   rw[F.j,Qc (by omega),A.ixn W,Qa,F.ep,Qa];rw[prv_s l k W]at Y;have nx: ∀b:Bool,F.a9 (F.j n l f) (k:Int) b=some (if(b&&stF n (some x) (l.drop (k+1)))=true then 0 else 171):=λb=>by
    rw[F.a9];cases b with
    |false=>rw[Qc (show(!false)=true from rfl)];rfl
    |true=>rw[Qb (show ¬((!true)=true) by simp),A.gd1 ⟨by omega,by omega⟩,Y];rfl
   have j2: ∀a:Bool,(n.2.1=11\/n.2.1=16)->x.1=n.1->F.an (F.j n l f) n (k:Int) x a=some (if(Qbj n x&&a&&stF n (some x) (l.drop (k+1)))=true then 0 else 171):=λa O Q=>by
    rw[F.an];unfold Qbj;have hx1': ¬(x.1≠n.1):=λh=>h Q;rw[Qb hx1'];by_cases E:n.2.1=11;rw[Qc E,Qc E,nx];by_cases a1:x.2.2.1=ByteArray.mk #[]<;>by_cases a2:(0:Int)<=x.2.2.2<;>by_cases a3:x.2.2.2<=1099511627776<;>cases a<;>simp[a1,a2,a3];have V:n.2.1=16:=O.resolve_left E;rw[Qb E,Qb E,Qc V];cases a with
    |false=>rw[cond_false,Qb (by simp),nx];simp
    |true=>
     rw[cond_true];by_cases L:x.2.2.2=1;rw[Qc (Qr L)];show(F.dH (rec x)).bind _=_;rw[Qdg,Qa,nx,Qr L];show some (if(decide ((if okT x.2.2.1=true then(0:Int)else 50)=0)&&_)=true then _ else _)=_;cases okT x.2.2.1<;>rfl;rw[Qb (by simpa using L),nx,Q7 L];rfl
   simp only[A.bo,A.ba];have main: ∀a:Bool,(if decide ((n.2.1=11\/n.2.1=16)/\x.1=n.1)=true then F.an (F.j n l f) n (k:Int) x a else F.an (F.j n l f) n (k:Int) x false)=some (if(Qbj n x&&a&&stF n (some x) (l.drop (k+1)))=true then 0 else 171):=λa=>by
    by_cases H:(n.2.1=11\/n.2.1=16)/\x.1=n.1;rw[Qc (Qr H),j2 a H.1 H.2];rw[Qb (by simpa using H)];have he:Qbj n x=false:=by
     unfold Qbj;by_cases N:x.1=n.1;rw[Qb (λh=>h N),Qb (λh=>H ⟨.inl h,N⟩),Qb (λh=>H ⟨.inr h,N⟩)];rw[Qc N]
    rw[he,F.an];by_cases E:n.2.1=11;rw[Qc E,nx];rfl;rw[Qb E,Qb (by simp),nx];rfl
   by_cases I:k=0;subst I;have:=main true;rw[Ym]at this;refine Eq.trans ?_ this;rfl;have hp:prv l k=l[k-1]?:=by unfold prv;rw[Qb I]
   obtain⟨p,J⟩: ∃p,l[k-1]?=some p:=⟨_,Qg (by omega)⟩;rw[hp,J,Qb (show ¬((k:Int)=0) by omega),A.gd1 ⟨by omega,by omega⟩,show(k:Int)-1=((k-1:Nat):Int) by omega,A.ixn J,Qa];show(if _ then(F.fk p x).bind _ else _)=_;rw[Qiv,Qa];exact main _)
  (by have:=Qab;omega)
def Qkm {n:Nd}: ∀{p:Option En} {l:List En},stF n p l=true->∀e,e∈l->Qbj n e=true
 |_,[],_,e,h=>by cases h
 |none,x::l,h,e,E=>by
  unfold stF at h;rw[Qo]at h;exact(Qk.1 E).elim (λe=>e▸h.1) (Qkm h.2 e)
 |some p,x::l,h,e,E=>by
  unfold stF at h;rw[Qo,Qo]at h;exact(Qk.1 E).elim (λe=>e▸h.1.1) (Qkm h.2 e)
def stF_pw {n:Nd}: ∀{p:En} {l:List En},stF n (some p) l=true->(p::l).Pairwise λa b=>rl (rec a) (rec b)=true
 |p,[],_=>by simp
 |p,x::l,h=>by
  unfold stF at h;rw[Qo,Qo]at h;have H:=stF_pw h.2;exact Qu.2 ⟨λy E=>(Qk.1 E).elim (λe=>e▸h.1.2) λE=>rl_tr h.1.2 ((Qu.1 H).1 y E),H⟩
def Qkn {n:Nd}{l:List En}:stP n l=true↔(∀e,e∈l->Qbj n e=true)/\l.Pairwise λa b=>rl (rec a) (rec b)=true:=by
 constructor;intro h;refine⟨Qkm h,?_⟩;cases l with
 |nil=>exact List.Pairwise.nil
 |cons x l=>
  unfold stP stF at h;rw[Qo]at h;exact stF_pw h.2
 rintro⟨E,H⟩;have main: ∀(l:List En) (p:En),(∀e,e∈l->Qbj n e=true)->(p::l).Pairwise (λa b=>rl (rec a) (rec b)=true)->stF n (some p) l=true:=by
  intro l;induction l with
  |nil=>intro p _ _;rfl
  |cons x l J=>
   intro p E H;unfold stF;rw[E x (Qi ..),(Qu.1 H).1 x (Qi ..),J x (λe I=>E e (Qf _ I)) (Qu.1 H).2];rfl
 cases l with
 |nil=>rfl
 |cons x l=>
  unfold stP stF;rw[E x (Qi ..),main l x (λe I=>E e (Qf _ I)) H];rfl
def Same_eq (a b:List En)(J:a.length<=9223372036854775806):F.gi a b=some (decide (a=b)):=by
 rw[F.gi];by_cases h:a.length=b.length;rw[Qb (by omega)];have:=A.lp0 a (λf y=>F.de a b f y) (λk r=>some (decide (r=b.drop k)))
  (λf=>by
   rw[F.de,Qb (by omega),h,Xw];rfl)
  (λf k x H hk I=>by
   obtain⟨y,E⟩: ∃y,b[k]?=some y:=⟨_,Qg (by omega)⟩;rw[F.de,Qc (by omega),A.ixn H,Qa,A.ixn E,Qa,A.dropx E];show(if x≠y then _ else _)=_;by_cases e:x=y;rw[Qb (λh=>h e),A.gd1 ⟨by omega,by omega⟩,I];subst e;simp;rw[Qc e,Q7 (λh=>e (List.cons.inj h).1)])
  (by have:=Qab;omega)
 rw[this];simp;rw[Qc (by omega),Q7 (λe=>h (by rw[e]))]
def put_eq (l:List En)(e:En)(one:Bool)(hl:l.length<=100000)(hb:Bd one l)(h1:0<=num e)(h2:num e<=cap one):F.ee l e one=some (putP e one l):=by
 rw[F.ee];unfold putP;by_cases J:num e=0;rw[Qc J,Qc J];rw[Qb J,Qb J];have hc:cap one<=1099511627776:=by cases one<;>decide
 have kk: ∀x:En,(bif bif decide (x.1=e.1)then decide (x.2.1=e.2.1)else false then decide (x.2.2.1=e.2.2.1)else false)=decide (key x=key e):=λx=>by
  simp only[A.ba];congr 1;simp[key,and_assoc]
 have:=A.lp l (λf (s:List En×Bool) y=>F.aq l e one f s.1 s.2 y) (λk r s=>if s.2=true then some (s.1++r)else some (s.1++insP e one r)) (λk s=>s.1.length<=k+1/\(s.2=false->s.1.length<=k)/\(s.2=true->∀x,x∈l.drop k->key x≠key e))
  (λf s hp=>by
   show F.aq l e one (f+1) s.1 s.2 _=_;rw[F.aq,Qb (by omega)];cases hs:s.2 with
   |true=>rw[Wz,Qb (by simp),F.eQ,Qc rfl,Wh]
   |false=>rw[Xn,Qc rfl,A.gd1 (by simp only[Qe,Ql];omega),F.eQ,Qb (by simp)];rfl)
  (λf s k x H hk hp ih=>by
   show F.aq l e one (f+1) s.1 s.2 _=_;have N:=hb.b x (Qj H);have O:Srt (x::l.drop (k+1)):=by rw[<-A.dropx H];exact hb.srt.sublist (List.drop_sublist _ _)
   have hd:=(Qu.1 O).1;have L: ∀(xs:List En) (d:Bool) (v:Int),xs.length<=k+1->(d=false->xs.length<=k)->(d=true->∀y,y∈l.drop (k+1)->key y≠key e)->F.eN (F.aq l e one f) (k:Int) x v xs d=if d=true then some (xs++(x.1,x.2.1,x.2.2.1,v)::l.drop (k+1))else some (xs++(x.1,x.2.1,x.2.2.1,v)::insP e one (l.drop (k+1))):=λxs d v hxs hxs2 Q=>by
    rw[F.eN,A.gd1 (by simp only[Qe,Ql];omega),A.gd1 ⟨by omega,by omega⟩];have:=ih (xs++[(x.1,x.2.1,x.2.2.1,v)],d) ⟨by simp only[Qm,Qe,Ql];omega,λh=>by have:=hxs2 h;simp only[Qm,Qe,Ql];omega,Q⟩;refine Eq.trans this ?_;cases d<;>simp
   rw[F.aq,Qc (by omega),A.ixn H,Qa,kk];by_cases E:key x=key e;have V:s.2=false:=by
    cases h:s.2 with
    |false=>rfl
    |true=>exact absurd E (hp.2.2 h x (by rw[A.dropx H];exact Qi ..))
   have W: ∀y,y∈l.drop (k+1)->key y≠key e:=λy I Y=>kl_ne (hd y I) (E.trans Y.symm);have j4: ∀v:Int,F.eP (F.aq l e one f) e s.1 (k:Int) x v=some (s.1++(x.1,x.2.1,x.2.2.1,v)::l.drop (k+1)):=λv=>by
    rw[F.eP,F.eO,Wz,Qb (show ¬(false=true) by simp),F.c4,Qb (show ¬(false=true) by simp),L _ _ _ hp.1 (λh=>by cases h) (λ_=>W),Qc rfl]
   have r64:Z.R64 (x.2.2.2+e.2.2.2):=by
    have a1:1<=x.2.2.2/\x.2.2.2<=cap one:=N;have a2:0<=e.2.2.2:=h1;have a3:e.2.2.2<=cap one:=h2;exact⟨by omega,by omega⟩
   have hs3: ¬(s.2=true):=by rw[V];simp
   rw[Qc (Qr E),A.gd1 r64,Qb hs3];unfold insP;rw[Qc E];unfold upd;cases one with
   |true=>rw[Qc rfl,j4];rfl
   |false=>rw[Qb (show ¬(false=true) by simp),j4];rfl
   have hk1': ¬(decide (key x=key e)=true):=by simpa using E
   rw[Qb hk1',F.eO];cases hs:s.2 with
   |true=>
    rw[Wz,Qb (show ¬(false=true) by simp),F.c4,Qb (show ¬(false=true) by simp),L _ _ _ hp.1 (λh=>by cases h) (λ_ y I=>hp.2.2 hs y (by rw[A.dropx H];exact Qf _ I)),Qc rfl,Qc rfl]
   |false=>
    rw[Xn,Qc rfl];show(F.fl e x).bind _=_;rw[Qja,Qa,Qb (show ¬(false=true) by simp)];show F.c4 _ _ _ _ _ _ _ (kl (key e) (key x))=_;unfold insP;rw[Qb E,F.c4];have hl2:=hp.2.1 hs;cases hlt:kl (key e) (key x)with
    |true=>
     rw[Qc rfl,Qc rfl,A.gd1 (by simp only[Qe,Ql];omega),L _ _ _ (by simp only[Qm,Qe,Ql];omega) (λh=>by cases h) (λ_ y I Y=>kl_ne (kl_tr hlt (hd y I)) Y.symm),Qc rfl];simp
    |false=>
     rw[Qb (show ¬(false=true) by simp),Qb (show ¬(false=true) by simp),L _ _ _ hp.1 (λ_=>hl2) (λh=>by cases h),Qb (show ¬(false=true) by simp)])
  (by have:=Qab;omega) ([],false) ⟨by simp,λ_=>by simp,λh=>by cases h⟩
 exact this
end Go.Proofs.YtlhiofnikdppeaaGreatDoor
end
section
namespace Go.Proofs.YtlhiofnikdppeaaGreatDoor
open Go.RowKit Go.Graph
abbrev Mv:=Int×Int×Int×Int×Fun
end Go.Proofs.YtlhiofnikdppeaaGreatDoor
end
section
namespace Go.A
def dem_of {α β:Type}[DecidableEq β]{m:List α}{sn:List Nat}{e:Option β}{g:Nat->α->Option β}{r:β}(Q:(∀i,i<m.length->i∈sn)->e=some r)(I: ∀i p,m[i]?=some p->i∉sn->g i p=some r):dem m sn e g=some r:=by
 have hmem: ∀i,i∈(List.range m.length).filter (λi=> !(sn.contains i))↔i<m.length/\i∉sn:=λi=>by
  rw[Y0,Yt];simp
 unfold dem;split;rename_i J;rw[J]at hmem;refine Q λi E=>?_;cases N:decide (i∈sn)with
 |true=>exact Wb N
 |false=>exact absurd ((hmem i).2 ⟨E,of_decide_eq_false N⟩) (by simp)
 rename_i i js J;rw[J]at hmem;obtain⟨E,O⟩:=(hmem i).1 (Qi ..);rw[Qg E,Qa,Qc];exact I i _ (Qg E) O;rw[Wd];intro j V;obtain⟨H,L⟩:=(hmem j).1 (Qf _ V);rw[Qg H,Qa,I j _ (Qg H) L,I i _ (Qg E) O];exact Qr rfl
end Go.A
namespace Go.Proofs.YtlhiofnikdppeaaGreatDoor
open Go.RowKit Go.Graph Go.Utf Go.Ent
def entOf (p:Ky×Int):Option En:=if p.2≠0 then some (p.1.1,p.1.2.1,p.1.2.2,p.2)else none
def Qaq {p:Ky×Int}{e:En}(h:entOf p=some e):key e=p.1/\num e=p.2/\p.2≠0:=by
 unfold entOf at h;split at h;rename_i E;injection h with h;subst h;exact⟨rfl,rfl,E⟩
 cases h
abbrev hasK (k:Ky):Prop:=A.h6 k.1/\A.h6 k.2.1/\k.2.2.size<=maxLen
def list_eq (m:List (Ky×Int))(hn:(m.map Prod.fst).Nodup)(hk: ∀p,p∈m->hasK p.1)(hlen:m.length*40<=140737488355328): ∃L,F.az m=some L/\Nf L/\∀k,gv L k=Z.mget 0 m k:=by
 have hinj: ∀{i j:Nat} {p q:Ky×Int},m[i]?=some p->m[j]?=some q->p.1=q.1->i=j:=λ{i j p q} N V e=>by
  have H:(m.map Prod.fst)[i]?=some p.1:=by rw[Qq,N];rfl
  have E:(m.map Prod.fst)[j]?=some p.1:=by rw[Qq,V,e];rfl
  exact(List.getElem?_inj (by rw[Qw];exact(Qd.1 N).1) hn).1 (H.trans E.symm)
 have strict: ∀l:List En,(l.map key).Nodup->Srt (A.srtL (λx y=>kl (key x) (key y)) l):=λl J=>by
  have O:A.OrdOn (λx y:En=>kl (key x) (key y)) l:=⟨λx _ y _ h=>kl_asy h,λx hx y hy H E=>by
   have he:=kl_tri H E;obtain⟨i,N⟩:=Xe hx;obtain⟨j,V⟩:=Xe hy;have W:(l.map key)[i]?=some (key x):=by rw[Qq,N];rfl
   have Y:(l.map key)[j]?=some (key x):=by rw[Qq,V];exact Wn some he.symm
   have:=(List.getElem?_inj (by rw[Qw];exact(Qd.1 N).1) J).1 (W.trans Y.symm);subst this;rw[N]at V;exact Xg V,λx _ y _ z _ H E=>kl_tr H E⟩
  have H:=A.srtL_pw O l λa h=>h;have E:((A.srtL (λx y:En=>kl (key x) (key y)) l).map key).Nodup:=((A.srtL_perm _ l).map key).nodup_iff.2 J;have W:(A.srtL (λx y:En=>kl (key x) (key y)) l).Pairwise λa b=>key a≠key b:=Jr.1 E;exact(H.and W).imp λ{a b} ⟨Y,h5⟩=>by
   cases h6:kl (key a) (key b)with
   |true=>rfl
   |false=>exact absurd (kl_tri h6 Y) h5
 have ordB: ∀l:List En,(l.map key).Nodup->A.ordB (λx y=>F.ad x y) l=true:=λl J=>by
  unfold A.ordB;rw[Wd];intro x hx;rw[Wd];intro y hy;rw[cl0_eq,Qo,Qo];obtain⟨c,hc,_⟩:=list1_eq x y;refine⟨⟨by show(F.ad x y).isSome=true;rw[hc];rfl,?_⟩,?_⟩;show(bif kl (key x) (key y)then !kl (key y) (key x)else kl (key y) (key x)||decide (x=y))=true;cases H:kl (key x) (key y)with
  |true=>rw[kl_asy H];rfl
  |false=>
   cases E:kl (key y) (key x)with
   |true=>rfl
   |false=>
    have he:=kl_tri H E;obtain⟨i,N⟩:=Xe hx;obtain⟨j,V⟩:=Xe hy;have W:(l.map key)[i]?=some (key x):=by rw[Qq,N];rfl
    have Y:(l.map key)[j]?=some (key x):=by rw[Qq,V];exact Wn some he.symm
    have:=(List.getElem?_inj (by rw[Qw];exact(Qd.1 N).1) J).1 (W.trans Y.symm);subst this;rw[N]at V;rw[Qr (Xg V)];rfl
  rw[Wd];intro z hz;show(!(kl (key x) (key y)&&kl (key y) (key z))||kl (key x) (key z))=true;cases H:kl (key x) (key y)with
  |false=>rfl
  |true=>
   cases E:kl (key y) (key z)with
   |false=>rfl
   |true=>rw[kl_tr H E];rfl
 obtain⟨es,hes⟩: ∃es,es=m.filterMap entOf:=⟨_,rfl⟩;have hes_mem: ∀e,e∈es↔∃(i:Nat) (p:Ky×Int),m[i]?=some p/\entOf p=some e:=λe=>by
  rw[hes,List.mem_filterMap];exact⟨λ⟨p,H,E⟩=>by obtain⟨i,N⟩:=Xe H;exact⟨i,p,N,E⟩,λ⟨i,p,H,E⟩=>⟨p,Qj H,E⟩⟩
 have hes_nd:(es.map key).Nodup:=by
  rw[hes];have: ∀(l:List (Ky×Int)),(l.map Prod.fst).Nodup->((l.filterMap entOf).map key).Nodup:=by
   intro l;induction l with
   |nil=>intro _;simp
   |cons p l ih=>
    intro J;rw[Q1,Wm]at J;rw[List.filterMap_cons];cases hp:entOf p with
    |none=>exact ih J.2
    |some e=>
     simp only[Q1];refine Wm.2 ⟨λhm=>?_,ih J.2⟩;obtain⟨e2,H,E⟩:=Wr.1 hm;obtain⟨q,W,Y⟩:=List.mem_filterMap.1 H;refine J.1 (Wr.2 ⟨q,W,?_⟩);rw[<-(Qaq Y).1,E,(Qaq hp).1]
  exact this m hn
 obtain⟨L,hL⟩: ∃L,L=A.srtL (λx y:En=>kl (key x) (key y)) es:=⟨_,rfl⟩;have hLs:Srt L:=hL▸strict es hes_nd;have hLm: ∀e,e∈L↔e∈es:=λe=>by rw[hL];exact(A.srtL_perm _ es).mem_iff
 have main: ∀(f:Nat) (sn:List Nat) (xs:List En),sn.Nodup->(∀i,i∈sn->i<m.length)->m.length<f+sn.length->xs.length<=sn.length->(∀e,e∈xs↔∃(i:Nat) (p:Ky×Int),i∈sn/\m[i]?=some p/\entOf p=some e)->(xs.map key).Nodup->F.aF m f sn xs=some L:=by
  intro f;induction f with
  |zero=>intro sn xs H E W;have:=A.seen_lt H E;omega
  |succ f ih=>
   intro sn xs H E W Y h5 h6;have hsl:=A.seen_lt H E;rw[F.aF];refine A.dem_of (λhall=>?_) λi p hp N=>?_;have hm: ∀e,e∈xs↔e∈es:=λe=>by
    rw[h5,hes_mem];exact⟨λ⟨i,p,_,h⟩=>⟨i,p,h⟩,λ⟨i,p,Q,I⟩=>⟨i,p,hall i (Qd.1 Q).1,Q,I⟩⟩
   rw[F.x,A.gd1 (by omega),A.srtF,Qc (ordB xs h6),Qa,cl0_eq];congr 1;refine srt_ext (strict xs h6) hLs λe=>?_;rw[hLm,<-hm];exact(A.srtL_perm _ xs).mem_iff;have hk1:=hk p (Qj hp);have hlt:=(Qd.1 hp).1;have hsn:(i::sn).Nodup:=Wm.2 ⟨N,H⟩;have hsb: ∀j,j∈i::sn->j<m.length:=λj V=>(Qk.1 V).elim (λe=>e▸hlt) (E j);have hsl2:=A.seen_lt hsn hsb;rw[Qe]at hsl2;rw[A.gd1 ⟨Qr hk1.1,Qr hk1.2.1,hk1.2.2⟩];by_cases h0:p.2=0;rw[Qb (λh=>h h0)];refine ih _ _ hsn hsb (by rw[Qe];omega) (by rw[Qe];omega) (λe=>?_) h6;rw[h5];refine⟨λ⟨j,q,Q,I⟩=>⟨j,q,Qf _ Q,I⟩,λ⟨j,q,Q,I,hc⟩=>⟨j,q,?_,I,hc⟩⟩;rcases Qk.1 Q with rfl|Q
   rw[hp]at I;injection I with I;subst I
   exact absurd h0 (Qaq hc).2.2;exact Q;have hent:entOf p=some (p.1.1,p.1.2.1,p.1.2.2,p.2):=by unfold entOf;rw[Qc h0]
   rw[Qc h0,A.gd1 (by simp only[Qe,Ql];omega)];refine ih _ _ hsn hsb (by rw[Qe];omega) (by simp only[Qm,Qe,Ql];omega) (λe=>?_) ?_;rw[Q2,h5,Qn];constructor;rintro(⟨j,q,Q,I⟩|rfl);exact⟨j,q,Qf _ Q,I⟩;exact⟨i,p,Qi ..,hp,hent⟩;rintro⟨j,q,Q,I,hc⟩;rcases Qk.1 Q with rfl|Q
   rw[hp]at I;injection I with I;subst I
   rw[hent]at hc;exact .inr (Xg hc).symm;exact .inl ⟨j,q,Q,I,hc⟩;rw[Xm,Q1,Xk];refine W9.2 ⟨h6,by simp,λa Q b I=>?_⟩;rw[Qn]at I;subst I;intro e;subst e;obtain⟨e2,h7,h8⟩:=Wr.1 Q;obtain⟨j,q,h9,h10,h11⟩:=(h5 e2).1 h7;have:j=i:=hinj h10 hp (by rw[<-(Qaq h11).1,h8]);subst this;exact N h9
 refine⟨L,?_,⟨hLs,λe he=>?_⟩,λk=>?_⟩;exact main A.FU [] [] X5 (by simp) (by have:=Qab;simp;omega) (by simp) (by simp) (by simp);obtain⟨i,p,H,E⟩:=(hes_mem e).1 ((hLm e).1 he);rw[(Qaq E).2.1];exact(Qaq E).2.2;by_cases hm:Z.mget 0 m k=0;rw[hm];by_cases hg:gv L k=0;exact hg;obtain⟨e,H,E,W⟩:=gv_at hg;obtain⟨i,p,Y,h5⟩:=(hes_mem e).1 ((hLm e).1 H);have h6:=(Z.mget_get (z:=0) hn Y).1;obtain⟨a1,a2,a3⟩:=Qaq h5;rw[<-a1,E,hm]at h6;exact absurd h6.symm a3;have hh:Z.mhas m k=true:=by
  cases h:Z.mhas m k with
  |true=>rfl
  |false=>exact absurd (Z.mget_none h) hm
 have hmem:=Z.mget_mem (z:=0) hh;have H:entOf (k,Z.mget 0 m k)=some (k.1,k.2.1,k.2.2,Z.mget 0 m k):=by unfold entOf;rw[Qc hm]
 obtain⟨i,N⟩:=Xe hmem;have E:=gv_mem hLs ((hLm _).2 ((hes_mem _).2 ⟨i,_,N,H⟩));exact E
end Go.Proofs.YtlhiofnikdppeaaGreatDoor
end
section
namespace Go.Proofs.YtlhiofnikdppeaaGreatDoor
open Go.RowKit Go.Graph Go.Utf Go.Ent
abbrev MX:Int:=1099511627776
def scaled_eq {n a:Int}(L:0<=n)(H:n<=MX)(N:0<=a)(V:a<=1048576):F.dR n a=some (min MX (n*a)):=by
 have W:0<=n*a:=Int.mul_nonneg L N;have I:n*a<=MX*1048576:=Int.mul_le_mul H V N (by decide);have O:Z.R64 (n*a):=⟨by omega,by simp only[MX]at I;omega⟩;rw[F.dR];by_cases Q:0<n;have e:Int.tdiv 1099511627776 n=1099511627776 / n:=Int.tdiv_eq_ediv_of_nonneg (by decide);have b1:0<=1099511627776 / n:=Int.ediv_nonneg (by decide) L;have b2:1099511627776 / n<=1099511627776:=Int.ediv_le_self _ (by decide);have E:(1099511627776 / n<a)↔(1099511627776<n*a):=by
  rw[Int.ediv_lt_iff_lt_mul Q,Int.mul_comm]
 rw[A.gd1 ⟨λ_=>by omega,λ_=>by rw[e];exact⟨by omega,by omega⟩⟩,A.ba,e];by_cases h:1099511627776<n*a;rw[Qc (Qr ⟨Q,E.2 h⟩),Jv (by simp only[MX];omega)];rw[Qb (by simp only[Qs];exact λH=>h (E.1 H.2)),A.gd1 O,Js (by simp only[MX];omega)];have J:n=0:=by omega
 subst J;rw[A.gd1 ⟨λh=>absurd (Wb h) (by decide),λh=>absurd (Wb h) (by decide)⟩,A.ba,Qb (by simp),A.gd1 O,Int.zero_mul];rfl
def Qhm {n a:Int}(Q:0<=n)(H:n<=MX)(I:0<=a)(V:a<=1048576):F.fC n a=some (min MX (n*a)):=by
 have W:0<=n*a:=Int.mul_nonneg Q I;have J:n*a<=MX*1048576:=Int.mul_le_mul H V I (by decide);have O:Z.R64 (n*a):=⟨by omega,by simp only[MX]at J;omega⟩;rw[F.fC];by_cases L:a=0;subst L;rw[A.gd1 ⟨λh=>absurd (Wb h) (by simp),λh=>absurd (Wb h) (by simp)⟩,A.ba,Qb (by simp),A.gd1 O,Int.mul_zero];rfl;have N:0<a:=by omega
 have e:Int.tdiv 1099511627776 a=1099511627776 / a:=Int.tdiv_eq_ediv_of_nonneg (by decide);have b1:0<=1099511627776 / a:=Int.ediv_nonneg (by decide) I;have b2:1099511627776 / a<=1099511627776:=Int.ediv_le_self _ (by decide);have E:(1099511627776 / a<n)↔(1099511627776<n*a):=Int.ediv_lt_iff_lt_mul N;rw[A.gd1 ⟨λ_=>L,λ_=>by rw[e];exact⟨by omega,by omega⟩⟩,A.ba,e];by_cases h:1099511627776<n*a;rw[Qc (Qr ⟨L,E.2 h⟩),Jv (by simp only[MX];omega)];rw[Qb (by simp only[Qs];exact λH=>h (E.1 H.2)),A.gd1 O,Js (by simp only[MX];omega)]
def z0F:Fun:=(0,0,ByteArray.mk #[])
def Qfc (m:Mv):Bool:=if m.2.2.1=1 then decide (m.2.2.2.1=0/\m.2.2.2.2=z0F)else if m.2.2.1=2 then decide ((0<=m.2.2.2.1/\m.2.2.2.1<=1048576)/\m.2.2.2.2=z0F)else if m.2.2.1=3 then decide (m.2.2.2.1=0/\chk 2 m.2.2.2.2=0)else false
def formed_eq (m:Mv)(hs:m.2.2.2.2.2.2.size<=9223372036854775807):F.cV m=some (Qfc m):=by
 rw[F.cV];unfold Qfc;by_cases I:m.2.2.1=1;rw[Qc I,Qc I];by_cases E:m.2.2.2.1=0;rw[Qc E,F.b0];simp only[E,true_and];rfl;rw[Qb E,F.b0];simp[E];rw[Qb I,Qb I];by_cases E:m.2.2.1=2;rw[Qc E,Qc E,A.ba];by_cases H:0<=m.2.2.2.1/\m.2.2.2.1<=1048576;rw[Qc (Qr H),F.b1];simp only[H,true_and];rfl;rw[Qb (by simpa using H),F.b1];simp only[H,false_and];rfl;rw[Qb E,Qb E];by_cases H:m.2.2.1=3;rw[Qc H,Qc H];by_cases J:m.2.2.2.1=0;rw[Qc J];show(F.c9 2 m.2.2.2.2).bind _=_;rw[Qce _ _ hs,Qa,F.b2];simp only[J,true_and];rw[Qb J,F.b2];simp[J];rw[Qb H,Qb H]
def Qjx (m:Mv)(hs:m.2.2.2.2.2.2.size<=5000):F.fG m=some (Qfc m):=by
 rw[F.fG];unfold Qfc;by_cases I:m.2.2.1=1;rw[Qc I,Qc I];by_cases E:m.2.2.2.1=0;rw[Qc E,F.d9];simp only[E,true_and];rfl;rw[Qb E,F.d9];simp[E];rw[Qb I,Qb I];by_cases E:m.2.2.1=2;rw[Qc E,Qc E,A.ba];by_cases H:0<=m.2.2.2.1/\m.2.2.2.1<=1048576;rw[Qc (Qr H),F.ea];simp only[H,true_and];rfl;rw[Qb (by simpa using H),F.ea];simp only[H,false_and];rfl;rw[Qb E,Qb E];by_cases H:m.2.2.1=3;rw[Qc H,Qc H];by_cases J:m.2.2.2.1=0;rw[Qc J];show(F.cC 2 m.2.2.2.2).bind _=_;rw[Qbt _ _ hs,Qa,F.eb];simp only[J,true_and];rw[Qb J,F.eb];simp[J];rw[Qb H,Qb H]
def fresh:ByteArray:=ByteArray.mk #[102,114,101,115,104]
def tagP (n:Nd):ByteArray×Bool:=if n.2.1=16 then(fresh,true)else if n.2.1=11/\n.2.2.2.1.1=41 then(ByteArray.mk #[116,111,116,97,108,47,111,110,101],true)else if n.2.1=11/\n.2.2.2.1.1=42 then(ByteArray.mk #[116,111,116,97,108,47,115,105,122,101],true)else(ByteArray.mk #[],false)
def Tag_eq (n:Nd):F.cZ n=some (tagP n):=by
 rw[F.cZ];unfold tagP;simp only[A.ba,Qs];by_cases E:n.2.1=16;rw[Qc E,Qc E];rfl;rw[Qb E,Qb E];by_cases H:n.2.1=11/\n.2.2.2.1.1=41;rw[Qc H,Qc H];rw[Qb H,Qb H];by_cases I:n.2.1=11/\n.2.2.2.1.1=42;rw[Qc I,Qc I];rw[Qb I,Qb I]
def Qfp (n:Nd):F.fj n=some (tagP n):=by
 rw[F.fj];unfold tagP;simp only[A.ba,Qs];by_cases E:n.2.1=16;rw[Qb (show ¬(n.2.1=11/\n.2.2.2.1.1=41) by omega),Qb (show ¬(n.2.1=11/\n.2.2.2.1.1=42) by omega),Qc E,Qc E];rfl;by_cases H:n.2.1=11/\n.2.2.2.1.1=41;rw[Qc H,Qb E,Qc H];rw[Qb H,Qb E,Qb H];by_cases I:n.2.1=11/\n.2.2.2.1.1=42;rw[Qc I,Qb E,Qc I];rw[Qb I,Qb E,Qb I]
def Qbq (a b:Nd)(m:Mv):Int:=if m.1≠a.1\/m.2.1≠b.1\/Qfc m=false then 180 else if(tagP a).2=false\/(tagP b).2=false\/(tagP a).1≠(tagP b).1\/(m.2.2.1=2/\(tagP a).1=fresh)then 181 else 0
def Fits_eq (a b:Nd)(m:Mv)(hs:m.2.2.2.2.2.2.size<=9223372036854775807):F.cy a b m=some (Qbq a b m):=by
 have H: ∀y:Bool,F.cE a b m y=some (if y=true then 180 else if(tagP a).2=false\/(tagP b).2=false\/(tagP a).1≠(tagP b).1\/(m.2.2.1=2/\(tagP a).1=fresh)then 181 else 0):=λy=>by
  rw[F.cE];cases y with
  |true=>rfl
  |false=>
   rw[Qb (show ¬(false=true) by simp),Qb (show ¬(false=true) by simp)];show(F.cZ a).bind _=_;rw[Tag_eq,Qa];show(F.cZ b).bind _=_;rw[Tag_eq,Qa];cases L:(tagP a).2 with
   |false=>simp
   |true=>
    cases N:(tagP b).2 with
    |false=>simp
    |true=>
     by_cases h:(tagP a).1=(tagP b).1;by_cases E:m.2.2.1=2;by_cases I:(tagP a).1=fresh;have h3':(tagP b).1=fresh:=h.symm.trans I;have h3'':(tagP b).1=ByteArray.mk #[102,114,101,115,104]:=h3';simp[h,E,h3',h3''];rfl;have h3': ¬(tagP b).1=fresh:=λe=>I (h.trans e);have h3'': ¬(tagP b).1=ByteArray.mk #[102,114,101,115,104]:=h3';simp[h,E,h3',h3''];simp[h,E];simp[h]
 rw[F.cy,A.bo];unfold Qbq;by_cases h:m.1≠a.1\/m.2.1≠b.1;rw[Qc (Qr h),H,Qc rfl,Qc (by rcases h with h|h;exact .inl h;exact .inr (.inl h))];rw[Qb (by simpa using h)];show(F.cV m).bind _=_;rw[formed_eq m hs,Qa,H];cases J:Qfc m with
 |false=>rw[Qc (show(!false)=true from rfl),Qc (.inr (.inr rfl))]
 |true=>rw[Qb (show ¬((!true)=true) by simp),Qb (show ¬(m.1≠a.1\/m.2.1≠b.1\/true=false)from λE=>h (by rcases E with E|E|E;exact .inl E;exact .inr E;cases E))]
def Qel (a b:Nd)(m:Mv)(hs:m.2.2.2.2.2.2.size<=5000):F.eo a b m=some (Qbq a b m):=by
 have H: ∀y:Bool,F.ec a b m y=some (if y=true then 180 else if(tagP a).2=false\/(tagP b).2=false\/(tagP a).1≠(tagP b).1\/(m.2.2.1=2/\(tagP a).1=fresh)then 181 else 0):=λy=>by
  rw[F.ec];cases y with
  |true=>rfl
  |false=>
   rw[Qb (show ¬(false=true) by simp),Qb (show ¬(false=true) by simp)];show(F.fj a).bind _=_;rw[Qfp,Qa];show(F.fj b).bind _=_;rw[Qfp,Qa];cases L:(tagP a).2 with
   |false=>simp
   |true=>
    cases N:(tagP b).2 with
    |false=>simp
    |true=>
     by_cases h:(tagP a).1=(tagP b).1;by_cases E:m.2.2.1=2;by_cases I:(tagP a).1=fresh;have h3':(tagP b).1=fresh:=h.symm.trans I;have h3'':(tagP b).1=ByteArray.mk #[102,114,101,115,104]:=h3';simp[h,E,h3',h3''];rfl;have h3': ¬(tagP b).1=fresh:=λe=>I (h.trans e);have h3'': ¬(tagP b).1=ByteArray.mk #[102,114,101,115,104]:=h3';simp[h,E,h3',h3''];simp[h,E];simp[h]
 rw[F.eo,A.bo];unfold Qbq;by_cases h:m.1≠a.1\/m.2.1≠b.1;rw[Qc (Qr h),H,Qc rfl,Qc (by rcases h with h|h;exact .inl h;exact .inr (.inl h))];rw[Qb (by simpa using h)];show(F.fG m).bind _=_;rw[Qjx m hs,Qa,H];cases J:Qfc m with
 |false=>rw[Qc (show(!false)=true from rfl),Qc (.inr (.inr rfl))]
 |true=>rw[Qb (show ¬((!true)=true) by simp),Qb (show ¬(m.1≠a.1\/m.2.1≠b.1\/true=false)from λE=>h (by rcases E with E|E|E;exact .inl E;exact .inr E;cases E))]
def mvE (tn:Nd)(m:Mv)(e:En):En:=
 if m.2.2.1=2 then(tn.1,e.2.1,e.2.2.1,min MX (e.2.2.2*m.2.2.2.1))else if m.2.2.1=3 then(tn.1,(mapK m.2.2.2.2 (rec e)).1,if tn.2.1=16 then(mapK m.2.2.2.2 (rec e)).2 else e.2.2.1,e.2.2.2)else(tn.1,e.2.1,e.2.2.1,e.2.2.2)
structure Mok (tn:Nd) (m:Mv):Prop where
 kind:m.2.2.1=1\/m.2.2.1=2\/m.2.2.1=3
 sc:m.2.2.1=2->(0<=m.2.2.2.1/\m.2.2.2.1<=1048576)/\tn.2.1=11
 ks:m.2.2.1=3->chk 2 m.2.2.2.2=0
 tn:tn.2.1=11\/tn.2.1=16
def Qdp {n:Nd}(h:(tagP n).2=true):n.2.1=16/\(tagP n).1=fresh\/n.2.1=11:=by
 unfold tagP at h ⊢;by_cases E:n.2.1=16;rw[Qc E];exact .inl ⟨E,rfl⟩;rw[Qb E]at h ⊢;split at h;rename_i H;exact .inr H.1;split at h;rename_i H;exact .inr H.1;cases h
def Mok.of {a b:Nd}{m:Mv}(hk:a.2.1=b.2.1)(h:Qbq a b m=0):Mok b m:=by
 unfold Qbq at h;split at h;cases h;rename_i Q;split at h;cases h;rename_i J;have E:Qfc m=true:=by
  cases H:Qfc m with
  |true=>rfl
  |false=>exact absurd (.inr (.inr H)) Q
 have ta:(tagP a).2=true:=by
  cases H:(tagP a).2 with
  |true=>rfl
  |false=>exact absurd (.inl H) J
 have tb:(tagP b).2=true:=by
  cases H:(tagP b).2 with
  |true=>rfl
  |false=>exact absurd (.inr (.inl H)) J
 unfold Qfc at E;by_cases N:m.2.2.1=1;exact⟨.inl N,λh=>by omega,λh=>by omega,(Qdp tb).elim (λh=>.inr h.1) .inl⟩;rw[Qb N]at E;by_cases I:m.2.2.1=2;rw[Qc I]at E;have E:=Wb E;refine⟨.inr (.inl I),λ_=>⟨E.1,?_⟩,λh=>by omega,(Qdp tb).elim (λh=>.inr h.1) .inl⟩;rcases Qdp ta with⟨O,V⟩|O
 exact absurd (.inr (.inr (.inr ⟨I,V⟩))) J;rw[<-hk];exact O;rw[Qb I]at E;by_cases L:m.2.2.1=3;rw[Qc L]at E;exact⟨.inr (.inr L),λh=>by omega,λ_=>(Wb E).2,(Qdp tb).elim (λh=>.inr h.1) .inl⟩;rw[Qb L]at E;cases E
structure Eok (tn:Nd) (e:En):Prop where
 t:tn.2.1=11->e.2.2.1=ByteArray.mk #[]/\0<=e.2.2.2/\e.2.2.2<=MX
 f:tn.2.1=16->e.2.2.2=1/\okT e.2.2.1=true
def Eok.of {a b:Nd}(hk:a.2.1=b.2.1){e:En}(h:Qbj a e=true):Eok b e:=by
 unfold Qbj at h;split at h;cases h;constructor;intro E;rw[Qc (hk.trans E)]at h;simp only[Qo,Qs]at h;exact⟨h.1.1,h.1.2,h.2⟩;intro E;rw[Qb (by omega),Qc (hk.trans E)]at h;simp only[Qo,Qs]at h;exact h
def okT_nil:okT (ByteArray.mk #[])=true:=by decide
def Eok.txt {tn:Nd}{e:En}(h:Eok tn e)(E:tn.2.1=11\/tn.2.1=16):okT e.2.2.1=true:=by
 rcases E with E|E
 rw[(h.t E).1];exact okT_nil;exact(h.f E).2
def o_cv {f:Fun}{r:Rec}(h:chk 2 f=0)(E:okT r.2=true):mapP f r=(mapK f r,0):=by
 unfold mapP;rw[Qb (λH=>H h),Qc E]
def moved_eq (tn:Nd)(m:Mv)(e:En)(J:Mok tn m)(L:Eok tn e)(hs:m.2.2.2.2.2.2.size<=9223372036854775807):F.dh tn m e=some (mvE tn m e):=by
 rw[F.dh];unfold mvE;by_cases H:m.2.2.1=2;obtain⟨N,O⟩:=J.sc H;obtain⟨_,Q,V⟩:=L.t O;rw[Qc H,Qc H,scaled_eq Q V N.1 N.2];rfl;rw[Qb H,Qb H];by_cases I:m.2.2.1=3;rw[Qc I,Qc I];show(F.gs m.2.2.2.2 (rec e)).bind _=_;rw[fn_Map_eq _ _ hs,Qa,o_cv (J.ks I) (L.txt J.tn)];by_cases E:tn.2.1=16;rw[Qc E,Qc E];rfl;rw[Qb E,Qb E];rfl;rw[Qb I,Qb I];rfl
def Qih (tn:Nd)(m:Mv)(e:En)(J:Mok tn m)(L:Eok tn e)(hs:m.2.2.2.2.2.2.size<=5000):F.fi tn m e=some (mvE tn m e):=by
 rw[F.fi];unfold mvE;by_cases H:m.2.2.1=2;obtain⟨N,O⟩:=J.sc H;obtain⟨_,Q,V⟩:=L.t O;rw[Qc H,Qc H,Qhm Q V N.1 N.2];rfl;rw[Qb H,Qb H];by_cases I:m.2.2.1=3;rw[Qc I,Qc I];show(F.f4 m.2.2.2.2 (rec e)).bind _=_;rw[R06_Map_eq _ _ hs,Qa,o_cv (J.ks I) (L.txt J.tn)];by_cases E:tn.2.1=16;rw[Qc E,Qc E];rfl;rw[Qb E,Qb E];rfl;rw[Qb I,Qb I];rfl
abbrev oneK (tn:Nd):Bool:=decide (tn.2.1=16)
def Qfj {tn:Nd}{m:Mv}{e:En}(I:Mok tn m)(N:Eok tn e):0<=num (mvE tn m e)/\num (mvE tn m e)<=Ent.cap (oneK tn):=by
 rcases I.tn with E|E
 obtain⟨_,H,O⟩:=N.t E;have J:Ent.cap (oneK tn)=MX:=by unfold oneK;rw[E];rfl
 rw[J];unfold mvE;split;rename_i L;have:=(I.sc L).1;have Q:0<=e.2.2.2*m.2.2.2.1:=Int.mul_nonneg H this.1;show 0<=min MX (e.2.2.2*m.2.2.2.1)/\min MX (e.2.2.2*m.2.2.2.1)<=MX;simp only[MX];omega
 (split)
 exact⟨H,O⟩;exact⟨H,O⟩;obtain⟨H,_⟩:=N.f E;have J:Ent.cap (oneK tn)=1:=by unfold oneK;rw[E];rfl
 rw[J];unfold mvE;split;rename_i L;have:=(I.sc L).2;omega
 (split)
 show 0<=e.2.2.2/\e.2.2.2<=1;omega;show 0<=e.2.2.2/\e.2.2.2<=1;omega
def fresh_num {tn:Nd}{m:Mv}{e:En}(H:Mok tn m)(I:Eok tn e)(J:tn.2.1=16):num (mvE tn m e)=1:=by
 obtain⟨E,_⟩:=I.f J;unfold mvE;split;rename_i L;have:=(H.sc L).2;omega
 (split)
 exact E;exact E
def i64h {x:Int}(E: -9223372036854775808<=x)(H:x<=9223372036854775807):A.h6 x:=J2 ⟨E,H⟩
def mapK_has {f:Fun}{r:Rec}(h:chk 2 f=0)(H:okT r.2=true)(E:A.h6 r.1):A.h6 (mapK f r).1:=by
 obtain⟨I,J⟩:=Qbh.1 H;obtain⟨Q,L⟩:=Qcf J;have N:=Qjt r.2;unfold mapK;by_cases e2:f.1=2;rw[Qc e2];exact E;rw[Qb e2];by_cases e3:f.1=3;rw[Qc e3];exact E;rw[Qb e3];by_cases e4:f.1=4;rw[Qc e4];exact E;rw[Qb e4];by_cases e5:f.1=5;rw[Qc e5];exact E;rw[Qb e5];by_cases e6:f.1=6;rw[Qc e6];obtain⟨V,W⟩:=Qkj h e6;have Y:Int.tmod (Int.tmod r.1 f.2.1+f.2.1) f.2.1<f.2.1:=Yn _ (by omega);have t2: -f.2.1<Int.tmod (Int.tmod r.1 f.2.1+f.2.1) f.2.1:=by
  have:=Yn (-(Int.tmod r.1 f.2.1+f.2.1)) (show 0<f.2.1 by omega);rw[Int.neg_tmod]at this;omega
 exact i64h (by show _<=Int.tmod _ _;omega) (by show Int.tmod _ _<=_;omega);rw[Qb e6];by_cases e7:f.1=7;rw[Qc e7];exact i64h (by show _<=((cks r.2.data.toList).length:Int);omega) (by show((cks r.2.data.toList).length:Int)<=_;omega);rw[Qb e7];by_cases e8:f.1=8;rw[Qc e8];cases O:((cks r.2.data.toList).map (·.2))[0]? with
 |none=>exact i64h (show(-9223372036854775808:Int)<=0 by decide) (show(0:Int)<=9223372036854775807 by decide)
 |some x=>have:=Qfb L O;exact i64h (by show _<=x;omega) (by show x<=_;omega)
 rw[Qb e8];exact E
def mv_has {tn:Nd}{m:Mv}{e:En}(H:Mok tn m)(N:Eok tn e)(I:A.h6 tn.1)(h:hasK (key e)):hasK (key (mvE tn m e)):=by
 have E:=N.txt H.tn;have J: ∀s:ByteArray,okT s=true->s.size<=maxLen:=λs h=>by
  have:=(Qbh.1 h).1;simp only[maxLen];omega
 unfold mvE;split;exact⟨I,h.2⟩
 (split)
 rename_i L;refine⟨I,mapK_has (H.ks L) E h.2.1,?_⟩;show(if tn.2.1=16 then(mapK m.2.2.2.2 (rec e)).2 else e.2.2.1).size<=maxLen;split;exact J _ (o_cX (H.ks L) E);exact h.2.2;exact⟨I,h.2⟩
abbrev frm (tn:Nd) (m:Mv):Nd:=(m.1,tn.2)
def migP (tn:Nd)(m:Mv)(l:List En):List En×Int:=
 if m.2.1≠tn.1 then([],180)else if Qbq (frm tn m) tn m≠0 then([],180)else if stP (frm tn m) l=true then(foldP (oneK tn) (l.map (mvE tn m)) [],0)else([],171)
def st_eok {tn:Nd}{m:Mv}{l:List En}(h:stP (frm tn m) l=true): ∀e,e∈l->Eok tn e:=λe E=>Eok.of (a:=frm tn m) (b:=tn) rfl ((Qkn.1 h).1 e E)
def Migrate_eq (tn:Nd)(m:Mv)(l:List En)(hs:m.2.2.2.2.2.2.size<=9223372036854775807)(hl:l.length*40<=140737488355328)(ht:A.h6 tn.1)(hk: ∀e,e∈l->hasK (key e)):F.bs tn m l=some (migP tn m l):=by
 rw[F.bs];unfold migP;by_cases h1:m.2.1=tn.1;case neg=>rw[Qc h1,Qc h1]
 rw[Qb (λh=>h h1),Qb (show ¬(m.2.1≠tn.1)from λh=>h h1)];show(F.cy (frm tn m) tn m).bind _=_;rw[Fits_eq _ _ _ hs,Qa];by_cases J:Qbq (frm tn m) tn m=0;case neg=>rw[Qc J,Qc J]
 rw[Qb (show ¬(Qbq (frm tn m) tn m≠0)from λh=>h J),Qb (show ¬(Qbq (frm tn m) tn m≠0)from λh=>h J)];show(F.bB (frm tn m) l).bind _=_;rw[Qcu _ _ (by omega),Qa];have I:Mok tn m:=Mok.of (a:=frm tn m) (b:=tn) rfl J;by_cases N:stP (frm tn m) l=true;case neg=>rw[Qb N,Qb N];rfl
 rw[Qc N,Qc N,Qb (show ¬((0:Int)≠0)from λh=>h rfl)];have hE:=st_eok N;have hC:0<=Ent.cap (oneK tn):=by cases oneK tn<;>decide
 have hC2:Ent.cap (oneK tn)<=MX:=by cases oneK tn<;>decide
 have hnum: ∀e,e∈l.map (mvE tn m)->0<=num e/\num e<=Ent.cap (oneK tn):=λe he=>by
  obtain⟨x,O,rfl⟩:=Wr.1 he;exact Qfj I (hE x O)
 have csb: ∀(q:List En),(∀e,e∈q->0<=num e)->∀k,0<=cs (Ent.cap (oneK tn)) q k/\cs (Ent.cap (oneK tn)) q k<=Ent.cap (oneK tn):=λq hq k=>by
  rw[cs_sm hC q hq];have:=sm_nn hq k;omega
 have:=A.lp l (λf (mm:List (Ky×Int)) y=>F.am tn m l f mm y) (λ_ _ _=>some (foldP (oneK tn) (l.map (mvE tn m)) [],0)) (λk mm=>(mm.map Prod.fst).Nodup/\(∀q,Z.mget 0 mm q=cs (Ent.cap (oneK tn)) ((l.take k).map (mvE tn m)) q)/\(∀p,p∈mm->hasK p.1)/\mm.length<=k)
  (λf mm hp=>by
   show F.am tn m l (f+1) mm _=_;obtain⟨p1,Q,p3,p4⟩:=hp;obtain⟨L,e1,e2,e3⟩:=list_eq mm p1 p3 (by omega);rw[F.am,Qb (by omega),e1,Qa];obtain⟨f1,f2⟩:=foldP_nil (one:=oneK tn) (l.map (mvE tn m)) hnum;rw[Yv]at Q;rw[nf_ext e2 f1.nf λk=>by rw[e3,Q,f2]])
  (λf mm k x O hk2 hp ih=>by
   show F.am tn m l (f+1) mm _=_;obtain⟨p1,Q,p3,p4⟩:=hp;have V:=Qj O;have hxE:=hE x V;have hn:=Qfj I hxE;have hq: ∀e,e∈(l.take k).map (mvE tn m)->0<=num e:=λe he=>by
    obtain⟨z,hz,rfl⟩:=Wr.1 he;exact(Qfj I (hE z (X3 hz))).1
   have hb:=csb _ hq (key (mvE tn m x));have hr:Z.R64 ((k:Int)+1):=⟨by omega,by omega⟩;have htk:(l.take (k+1)).map (mvE tn m)=(l.take k).map (mvE tn m)++[mvE tn m x]:=by rw[Xy,O];simp
   rw[F.am,Qc (by omega),A.ixn O,Qa];show(F.dh tn m x).bind _=_;rw[moved_eq tn m x I hxE hs,Qa];show(F.ai mm tn.2.1 (mvE tn m x)).bind _=_;have goal: ∀v:Int,v=min (Ent.cap (oneK tn)) (cs (Ent.cap (oneK tn)) ((l.take k).map (mvE tn m)) (key (mvE tn m x))+num (mvE tn m x))->A.gd (Z.R64 ((k:Int)+1)) (F.am tn m l f (Z.mins mm (key (mvE tn m x)) v) ((k:Int)+1))=some (foldP (oneK tn) (l.map (mvE tn m)) [],0):=λv hv=>by
    rw[A.gd1 hr];refine ih _ ⟨Z.mins_nodup p1 _ _,λq=>?_,λp hp2=>?_,?_⟩;rw[Uz,htk,cs_snoc];by_cases H:q=key (mvE tn m x);rw[Qc H,Qc H.symm,H];exact hv;rw[Qb H,Qb (λh=>H h.symm)];exact Q q;have E:p.1∈(Z.mins mm (key (mvE tn m x)) v).map Prod.fst:=Wr.2 ⟨p,hp2,rfl⟩;rw[Z.mins_keys]at E;have hxk:=mv_has I hxE ht (hk x V);split at E;obtain⟨p',h6,h7⟩:=Wr.1 E;rw[<-h7];exact p3 p' h6;rcases Q2.1 E with E|E
    obtain⟨p',h6,h7⟩:=Wr.1 E;rw[<-h7];exact p3 p' h6;rw[Qn]at E;rw[E];exact hxk;have E:=Wn List.length (Z.mins_keys mm (key (mvE tn m x)) v);rw[Qw]at E;split at E;rw[Qw]at E;omega;rw[Qm,Qw]at E;simp only[Qe,Ql]at E;omega
   rw[F.ai];rcases I.tn with W|Y
   have hc:Ent.cap (oneK tn)=MX:=by unfold oneK;rw[W];rfl
   rw[hc]at hn hb goal;have hg:Z.mget 0 mm (key (mvE tn m x))=cs MX ((l.take k).map (mvE tn m)) (key (mvE tn m x)):=by rw[Q,hc]
   rw[Qc W];show(A.gd (Z.R64 (Z.mget 0 mm (key (mvE tn m x))+num (mvE tn m x))) (some (Z.mins mm (key (mvE tn m x)) (min 1099511627776 (Z.mget 0 mm (key (mvE tn m x))+num (mvE tn m x)))))).bind _=_;rw[hg,A.gd1 ⟨by omega,by simp only[MX]at hn hb ⊢;omega⟩,Qa];exact goal _ rfl;have hc:Ent.cap (oneK tn)=1:=by unfold oneK;rw[Y];rfl
   have h1n:=fresh_num I hxE Y;rw[Qb (by omega)];show(some (Z.mins mm (key (mvE tn m x)) (num (mvE tn m x)))).bind _=_;rw[Qa];exact goal _ (by rw[hc,h1n];rw[hc]at hb;omega))
  (by have:=Qab;omega) [] ⟨X5,λq=>rfl,(λp hp=>(Y9 hp).elim),Qt _⟩
 exact this
def Qai (one:Bool): ∀(l a:List En),(foldP one l a).length<=a.length+l.length
 | [],a=>Qt _
 |e::l,a=>by
  have H:=Qai one l (putP e one a);have E: ∀(a:List En),(insP e one a).length<=a.length+1:=λa=>by
   induction a with
   |nil=>simp[insP]
   |cons x a I=>
    unfold insP;split;simp
    (split)
    simp;simp only[Qe];omega
  have J:(putP e one a).length<=a.length+1:=by
   unfold putP;split;omega;exact E a
  show(foldP one l (putP e one a)).length<=_;rw[Qe];omega
def foldP_snoc (one:Bool)(l:List En)(e:En)(a:List En):foldP one (l++[e]) a=putP e one (foldP one l a):=by
 unfold foldP;rw[Jq];rfl
def Qfd (tn:Nd)(m:Mv)(l:List En)(hs:m.2.2.2.2.2.2.size<=5000)(hl:l.length<=900):F.ef tn m l=some (migP tn m l):=by
 rw[F.ef];unfold migP;by_cases I:m.2.1=tn.1;case neg=>rw[Qc (λh=>I h.symm),Qc I,F.cJ,Qc rfl]
 rw[Qb (λh=>h I.symm),Qb (show ¬(m.2.1≠tn.1)from λh=>h I)];show(F.eo (frm tn m) tn m).bind _=_;rw[Qel _ _ _ hs,Qa,F.cJ];by_cases E:Qbq (frm tn m) tn m=0;case neg=>rw[Qc (Qr E),Qc E]
 rw[Qb (show ¬(decide (Qbq (frm tn m) tn m≠0)=true) by simp[E]),Qb (show ¬(Qbq (frm tn m) tn m≠0)from λh=>h E)];show(F.b9 (frm tn m) l).bind _=_;rw[Qbe _ _ (by omega),Qa];have J:Mok tn m:=Mok.of (a:=frm tn m) (b:=tn) rfl E;by_cases H:stP (frm tn m) l=true;case neg=>rw[Qb H,Qb H];rfl
 rw[Qc H,Qc H,Qb (show ¬((0:Int)≠0)from λh=>h rfl)];have N:=st_eok H;have:=A.lp l (λf (xs:List En) y=>F.a7 tn m l f xs y) (λ_ _ _=>some (foldP (oneK tn) (l.map (mvE tn m)) [],0)) (λk xs=>xs=foldP (oneK tn) ((l.take k).map (mvE tn m)) [])
  (λf xs hp=>by
   show F.a7 tn m l (f+1) xs _=_;rw[F.a7,Qb (by omega),hp,Yv])
  (λf xs k x L Q hp V=>by
   show F.a7 tn m l (f+1) xs _=_;have hxE:=N x (Qj L);have O:=Qfj J hxE;have hq: ∀e,e∈(l.take k).map (mvE tn m)->0<=num e/\num e<=Ent.cap (oneK tn):=λe W=>by
    obtain⟨z,Y,rfl⟩:=Wr.1 W;exact Qfj J (N z (X3 Y))
   have hlen:=Qai (oneK tn) ((l.take k).map (mvE tn m)) [];rw[Qw,Qy]at hlen;simp only[Ql]at hlen;rw[F.a7,Qc (by omega),A.ixn L,Qa];show(F.fi tn m x).bind _=_;rw[Qih tn m x J hxE hs,Qa];show(F.ee xs (mvE tn m x) (oneK tn)).bind _=_;rw[hp,put_eq _ _ _ (by omega) (foldP_nil _ hq).1 O.1 O.2,Qa,A.gd1 ⟨by omega,by omega⟩];refine V _ ?_;rw[Xy,L];simp only[Option.toList_some,Xm,Q1,Xk];rw[foldP_snoc])
  (by have:=Qab;omega) [] rfl
 exact this
def begun_eq:F.fO=some true:=by kernel_rfl
def finN:Int->List En->Int
 |y,[]=>y
 |y,x::r=>finN (min (y+min (x.2.2.1.size:Int) 1048576) 1048576) r
def o_cZ (l:List En)(H:l.length<=maxLen): ∃b,F.gt l=some b/\(b=true->l.length<=200):=by
 have hl':l.length<=9223372036854775807:=by simpa[maxLen] using H
 have I:(min (l.length:Int) 300).toNat<=l.length:=by omega
 refine⟨bif decide ((l.length:Int)<=200)then decide (finN 0 (List.take (min (l.length:Int) 300).toNat l)<=9000)else false,?_,λh=>?_⟩;have:=A.lp (List.take (min (l.length:Int) 300).toNat l) (λf (y:Int) k=>F.cu l f y k) (λ_ r y=>some (bif decide ((l.length:Int)<=200)then decide (finN y r<=9000)else false)) (λ_ y=>0<=y/\y<=1048576)
  (λf y hp=>by
   show F.cu l (f+1) y _=_;rw[F.cu,Qb (by omega)];rfl)
  (λf y k x J hk hp L=>by
   show F.cu l (f+1) y _=_;have E:k<300:=by rw[Qy]at hk;omega
   have N:(0:Int)<=(x.2.2.1.size:Int):=by omega
   rw[F.cu,Qc (by omega),A.ixn J,Qa,A.gd1 ⟨by omega,by omega⟩,A.gd1 ⟨by omega,by omega⟩];exact L _ ⟨by omega,by omega⟩)
  (by have:=Qab;rw[Qy];omega) 0 ⟨by omega,by omega⟩
 rw[F.gt,A.gd1 ⟨by omega,I⟩];exact this;by_cases E:(l.length:Int)<=200;omega;rw[Q7 E]at h;cases h
def Qio {one:Bool}: ∀(l a:List En) {e:En},e∈foldP one l a->(∃x,x∈a/\key e=key x)\/∃x,x∈l/\key e=key x
 | [],a,e,h=>.inl ⟨e,h,rfl⟩
 |x::l,a,e,h=>by
  rcases Qio l (putP x one a) h with⟨y,E,H⟩|⟨y,E,H⟩
  unfold putP at E;split at E;exact .inl ⟨y,E,H⟩;rcases insP_key E with I|⟨z,I,J⟩
  exact .inr ⟨x,Qi ..,H.trans I⟩;exact .inl ⟨z,I,H.trans J⟩;exact .inr ⟨y,Qf _ E,H⟩
def mv_nums {tn:Nd}{m:Mv}{l:List En}(E:Mok tn m)(H: ∀e,e∈l->Eok tn e): ∀e,e∈l.map (mvE tn m)->0<=num e/\num e<=Ent.cap (oneK tn):=λe I=>by
 obtain⟨x,J,rfl⟩:=Wr.1 I;exact Qfj E (H x J)
def mv_node (tn:Nd)(m:Mv)(e:En):(mvE tn m e).1=tn.1:=by
 unfold mvE;split;rfl;split<;>rfl
def ofP (l:List En)(id:Int):List En:=l.filter λe=>decide (e.1=id)
def Qkb {l:List En}{id:Int}{e:En}:e∈ofP l id↔e∈l/\e.1=id:=by simp[ofP]
def Qba (l:List En)(id:Int):(ofP l id).length<=l.length:=X1 _ _
abbrev Dk (X:List En):Prop:=X.Pairwise λa b=>key a≠key b
def dk_st {n:Nd}{l:List En}(h:stP n l=true):Dk l:=(Qkn.1 h).2.imp λ{a b} h e=>by
 have e2:rec a=rec b:=Wn Prod.snd e;rw[e2,rl_irr]at h;cases h
def dk_srt {l:List En}(h:Srt l):Dk l:=h.imp λh=>kl_ne h
def insM (mm:List (Go.Ent.Ky×Int))(X:List En):List (Go.Ent.Ky×Int):=X.foldl (λm e=>Z.mins m (key e) (num e)) mm
def Qfq: ∀(X:List En) (mm:List (Go.Ent.Ky×Int)),(mm.map Prod.fst).Nodup->((insM mm X).map Prod.fst).Nodup
 | [],_,h=>h
 |e::X,mm,h=>Qfq X _ (Z.mins_nodup h _ _)
def Qik: ∀(X:List En) (mm:List (Go.Ent.Ky×Int)) (k:Go.Ent.Ky),k∈(insM mm X).map Prod.fst->k∈mm.map Prod.fst\/∃e,e∈X/\k=key e
 | [],_,_,h=>.inl h
 |e::X,mm,k,h=>by
  rcases Qik X _ k h with E|⟨x,E,H⟩
  rw[Z.mins_keys]at E;split at E;exact .inl E;rcases Q2.1 E with E|E
  exact .inl E;rw[Qn]at E;exact .inr ⟨e,Qi ..,E⟩;exact .inr ⟨x,Qf _ E,H⟩
def insM_len: ∀(X:List En) (mm:List (Go.Ent.Ky×Int)),(insM mm X).length<=mm.length+X.length
 | [],_=>Qt _
 |e::X,mm=>by
  have H:=insM_len X (Z.mins mm (key e) (num e));have E:=Wn List.length (Z.mins_keys mm (key e) (num e));rw[Qw]at E;have I:(Z.mins mm (key e) (num e)).length<=mm.length+1:=by
   split at E;rw[Qw]at E;omega;rw[Qm,Qw,List.length_singleton]at E;omega
  show(insM (Z.mins mm (key e) (num e)) X).length<=_;rw[Qe];omega
def insM_get (k:Go.Ent.Ky): ∀(X:List En) (mm:List (Go.Ent.Ky×Int)),Z.mget 0 (insM mm X) k=X.foldl (λv e=>if key e=k then num e else v) (Z.mget 0 mm k)
 | [],_=>rfl
 |e::X,mm=>by
  show Z.mget 0 (insM (Z.mins mm (key e) (num e)) X) k=_;rw[insM_get k X,Uz,Jh];by_cases h:key e=k;rw[Qc h,Qc h.symm];rw[Qb h,Qb (λe=>h e.symm)]
def Qgo (mm:List (Go.Ent.Ky×Int))(X Y:List En):insM mm (X++Y)=insM (insM mm X) Y:=by unfold insM;rw[Jq]
structure Nm (X:List En):Prop where
 dk:Dk X
 b: ∀e,e∈X->0<=num e/\num e<=MX
def Qkh {k:Go.Ent.Ky}: ∀(X:List En) (v:Int),Nm X->(v=0\/∀e,e∈X->key e≠k)->X.foldl (λv e=>if key e=k then num e else v) v=X.foldl (λa e=>if key e=k then min MX (a+num e)else a) v
 | [],_,_,_=>rfl
 |e::X,v,H,N=>by
  obtain⟨d1,d2⟩:=Qu.1 H.dk;have E:Nm X:=⟨d2,λe I=>H.b e (Qf _ I)⟩;rw[Jh,Jh];by_cases h:key e=k;have J:v=0:=N.resolve_right (λL=>L e (Qi ..) h);have:=H.b e (Qi ..);rw[Qc h,Qc h,J,show min MX (0+num e)=num e by omega];exact Qkh X _ E (.inr λe' he' h'=>d1 e' he' (h.trans h'.symm));rw[Qb h,Qb h];exact Qkh X v E (N.imp_right λL e I=>L e (Qf _ I))
def put_cs {X:List En}(h:Nm X)(k:Go.Ent.Ky):gv (foldP false X []) k=X.foldl (λv e=>if key e=k then num e else v) 0:=by
 obtain⟨f1,f2⟩:=foldP_nil (one:=false) X (λe E=>h.b e E);rw[f2];exact(Qkh X 0 h (.inl rfl)).symm
def list_put (X:List En)(h:Nm X)(hk: ∀e,e∈X->hasK (key e))(I:X.length*40<=140737488355328):F.az (insM [] X)=some (foldP false X []):=by
 obtain⟨L,e1,e2,e3⟩:=list_eq (insM [] X) (Qfq X [] X5) (λp hp=>by
  rcases Qik X [] p.1 (Wr.2 ⟨p,hp,rfl⟩)with E|⟨e,H,E⟩
  cases E;rw[E];exact hk e H) (by have:=insM_len X [];simp only[Ql]at this;omega)
 rw[e1];obtain⟨f1,f2⟩:=foldP_nil (one:=false) X (λe H=>h.b e H);rw[nf_ext e2 f1.nf λk=>by rw[e3,insM_get,put_cs h];rfl]
def mvs (T:Mv->Nd)(l:List En):List Mv->Int×List En
 | []=>(0,[])
 |m::r=>if(migP (T m) m (ofP l m.1)).2≠0 then((migP (T m) m (ofP l m.1)).2,[])else((mvs T l r).1,(migP (T m) m (ofP l m.1)).1++(mvs T l r).2)
def mvs_bad {T:Mv->Nd}{l:List En}{m:Mv}{r:List Mv}(h:(migP (T m) m (ofP l m.1)).2≠0):mvs T l (m::r)=((migP (T m) m (ofP l m.1)).2,[]):=by rw[mvs,Qc h]
def mvs_good {T:Mv->Nd}{l:List En}{m:Mv}{r:List Mv}(h:(migP (T m) m (ofP l m.1)).2=0):mvs T l (m::r)=((mvs T l r).1,(migP (T m) m (ofP l m.1)).1++(mvs T l r).2):=by rw[mvs,Qb (λE=>E h)]
def o_cP {T:Mv->Nd}{l:List En}: ∀{r:List Mv},(mvs T l r).1=0->(mvs T l r).2=r.flatMap (λm=>(migP (T m) m (ofP l m.1)).1)/\∀m,m∈r->(migP (T m) m (ofP l m.1)).2=0
 | [],_=>⟨rfl,λ_ h=>by cases h⟩
 |m::r,h=>by
  unfold mvs at h ⊢;by_cases E:(migP (T m) m (ofP l m.1)).2=0;rw[Qb (λh=>h E)]at h ⊢;obtain⟨I,J⟩:=o_cP (r:=r) h;refine⟨by rw[Y5];exact Wn _ I,λx H=>?_⟩;rcases Qk.1 H with rfl|H
  exact E;exact J x H;rw[Qc E]at h;exact absurd h E
structure Og (id:Int) (o:List En):Prop where
 dk:Dk o
 e: ∀e,e∈o->e.1=id/\(0<=num e/\num e<=MX)/\hasK (key e)
def mig_og {tn:Nd}{m:Mv}{q:List En}(h:(migP tn m q).2=0)(hk: ∀e,e∈q->hasK (key e))(W:A.h6 tn.1):Og tn.1 (migP tn m q).1/\(migP tn m q).1.length<=q.length:=by
 unfold migP at h ⊢;by_cases J:m.2.1=tn.1;case neg=>rw[Qc J]at h;cases h
 rw[Qb (λh=>h J)]at h ⊢;by_cases E:Qbq (frm tn m) tn m=0;case neg=>rw[Qc E]at h;cases h
 rw[Qb (λh=>h E)]at h ⊢;by_cases H:stP (frm tn m) q=true;case neg=>rw[Qb H]at h;cases h
 rw[Qc H];have L:Mok tn m:=Mok.of (a:=frm tn m) (b:=tn) rfl E;have N:=st_eok H;obtain⟨f1,_⟩:=foldP_nil (one:=oneK tn) (q.map (mvE tn m)) (mv_nums L N);have Y:Ent.cap (oneK tn)<=MX:=by cases oneK tn<;>decide
 refine⟨⟨dk_srt f1.srt,λe O=>?_⟩,?_⟩;have hb:=f1.b e O;rcases Qio _ _ O with⟨x,I,_⟩|⟨x,I,Q⟩
 cases I;obtain⟨y,V,rfl⟩:=Wr.1 I;refine⟨?_,⟨by omega,by omega⟩,by rw[Q];exact mv_has L (N y V) W (hk y V)⟩;have:e.1=(mvE tn m y).1:=Wn (λk:Go.Ent.Ky=>k.1) Q;rw[this,mv_node];have:=Qai (oneK tn) (q.map (mvE tn m)) [];rw[Qw]at this;simpa using this
def og_flat {α:Type}{f:α->List En}{c:α->Int}{A:List α}(h: ∀a,a∈A->Og (c a) (f a))(I:A.Pairwise λa b=>c a≠c b):Dk (A.flatMap f):=by
 refine List.pairwise_flatMap.2 ⟨λa E=>(h a E).dk,I.imp_of_mem λ{a b} E J H x L y N hk=>H ?_⟩;rw[<-((h a E).e x L).1,<-((h b J).e y N).1];exact Wn (λk:Go.Ent.Ky=>k.1) hk
end Go.Proofs.YtlhiofnikdppeaaGreatDoor
end
section
namespace Go.Proofs.YtlhiofnikdppeaaGreatDoor
open Go.RowKit Go.Graph
def Ins_eq (k:Int):F.fc k=F.eR k:=rfl
def Qfu (k:Int):F.eR k=some (insK k):=by
 unfold F.eR insK;simp only[Bool.cond_decide];by_cases H:k<1<;>by_cases I:16<k<;>simp[H,I];by_cases E:k=1;simp[E];by_cases J:k=5<;>by_cases L:k=9<;>simp[E,J,L]
def Qif (c:UInt8):F.eS c=some (Qay c):=by
 unfold F.eS Qay;by_cases E:(97:Int)<=(c.toNat:Int)<;>by_cases H:(c.toNat:Int)<=122<;>simp[E,H]
def digit_eq (c:UInt8):F.fS c=some (Qge c):=by
 unfold F.fS Qge;by_cases E:(48:Int)<=(c.toNat:Int)<;>by_cases H:(c.toNat:Int)<=57<;>simp[E,H]
def name_eq (s:ByteArray)(hs:s.size<=5000):F.ge s=some (named s):=by
 have loop:F.bA s A.FU 0=some (Qda s.data.toList):=A.lp0 s.data.toList (λf y=>F.bA s f y) (λ_ l=>some (Qda l))
  (λf=>by rw[F.bA,Qb (by rw[Qac];omega)];rfl)
  (λf k x I hk J=>by
   have hk':k<s.size:=hk;rw[F.bA,Qc (by omega),A.ixn I,Qa,Qif,Qa];cases H:Qay x with
   |true=>
    simp only[Wz,Qx,Wa,F.eg];rw[A.gd1 (A.r64n (by omega)),J];simp[Qda,H]
   |false=>
    simp only[Xn,W8,A.ixn I,Qa,digit_eq,F.eg];cases L:Qge x with
    |true=>simp only[Wz,Qx,Wa];rw[A.gd1 (A.r64n (by omega)),J];simp[Qda,H,L]
    |false=>simp[Qda,H,L])
  (by rw[Qac];have:=Qab;omega)
 unfold F.ge named;by_cases E:s=ByteArray.mk #[];simp[E,F.dd];by_cases N:(16:Int)<(s.size:Int);have h2': ¬(s.size:Int)<=16:=by omega
 simp[E,N,h2',F.dd];have h2':(s.size:Int)<=16:=by omega
 have O:=Qgp E;have e0:A.ix s.data.toList 0=some (Z.bat s 0):=ixb O;simp only[E,N,h2',decide_false,cond_false,Qx,Wa,e0,Qa,Qif,F.dd,loop,decide_true,ne_eq,not_false_eq_true,Ym,Wy];cases Qay (Z.bat s 0)<;>simp
def named_eq (s:ByteArray)(hs:s.size<=9223372036854775807):F.cA s=some (named s):=by
 have loop: ∀(n p f:Nat),s.size-p<=n->n<f->F.aL s f p=some ((if p=0/\0<s.size then Qay (Z.bat s 0)else true)&&Qda (s.data.toList.drop p)&&(decide (s≠ByteArray.mk #[])&&decide ((s.size:Int)<=16))):=by
  intro n;induction n with
  |zero=>
   intro p f hp Q;obtain⟨f,rfl⟩: ∃f',f=f'+1:=⟨f-1,by omega⟩;rw[F.aL,Qb (by omega),Qhs (by omega),Qb (by omega)];by_cases E:s=ByteArray.mk #[]<;>simp[E,Qda]
  |succ n V=>
   intro p f hp Q;obtain⟨f,rfl⟩: ∃f',f=f'+1:=⟨f-1,by omega⟩;by_cases H:p<s.size;rw[F.aL,Qc H,Qhe H];rcases Yy (Z.bat s p).toNat 128 with O|O
   rw[dec_lt O];have L:=V (p+1) f (by omega) (by omega);rw[Qb (λh=>by omega)]at L;simp only[L];have e1:(bif decide ((97:Int)<=((Z.bat s p).toNat:Int))then decide (((Z.bat s p).toNat:Int)<=122)else false)=decide ((97:Int)<=((Z.bat s p).toNat:Int)/\((Z.bat s p).toNat:Int)<=122):=by by_cases h:(97:Int)<=((Z.bat s p).toNat:Int)<;>simp[h]
   have e2:(bif decide ((65:Int)<=((Z.bat s p).toNat:Int))then decide (((Z.bat s p).toNat:Int)<=90)else false)=decide ((65:Int)<=((Z.bat s p).toNat:Int)/\((Z.bat s p).toNat:Int)<=90):=by by_cases h:(65:Int)<=((Z.bat s p).toNat:Int)<;>simp[h]
   rw[e1,e2];by_cases I:Qay (Z.bat s p)=true;have hL':=I;simp only[Qay,Qs]at hL';have e3:(if p=0/\0<s.size then Qay (Z.bat s 0)else true)=true:=by split;rename_i h;rw[<-h.1];exact I;rfl
   rw[e3];simp only[Qda,Xl,I,Bool.true_or,Wy];by_cases E:(97:Int)<=((Z.bat s p).toNat:Int)/\((Z.bat s p).toNat:Int)<=122;simp[E];have W:=hL'.resolve_left E;simp[E,W];have hL':=I;simp only[Qay,Qs,not_or]at hL';rw[Yw]at I;simp only[hL'.1,hL'.2,decide_false,Qx,Wa,Xn,W8];simp only[Qda,Xl,I,Xo];by_cases N:p=0;subst N;simp[H,I];have h0': ¬(p:Int)=0:=by omega
   simp only[N,h0',decide_false,cond_false,false_and,Wa,Wy];by_cases J:Qge (Z.bat s p)=true;have hd':=J;simp only[Qge,Qs]at hd';have a1: ¬((Z.bat s p).toNat:Int)<48:=by omega
   have a2: ¬(57:Int)<((Z.bat s p).toNat:Int):=by omega
   simp[a1,a2,J];have hd':=J;simp only[Qge,Qs]at hd';rw[Yw]at J;by_cases a1:((Z.bat s p).toNat:Int)<48;simp[a1,J];have a2:(57:Int)<((Z.bat s p).toNat:Int):=by omega
   simp[a1,a2,J];have J:=dec_ge O;have I:Qay (Z.bat s p)=false:=by unfold Qay;rw[decide_eq_false_iff_not];omega
   have Y:Qge (Z.bat s p)=false:=by unfold Qge;rw[decide_eq_false_iff_not];omega
   have b1: ¬((Utf8.decode s p).1:Int)<=122:=by omega
   have b2: ¬((Utf8.decode s p).1:Int)<=90:=by omega
   have b3:(57:Int)<((Utf8.decode s p).1:Int):=by omega
   have b4: ¬((Utf8.decode s p).1:Int)<48:=by omega
   simp[b1,b2,b3,b4,Qda,I,Y];rw[F.aL,Qb H,Qhs H,Qb (by omega)];by_cases E:s=ByteArray.mk #[]<;>simp[E,Qda]
 unfold F.cA;rw[loop s.size 0 A.FU (by omega) (by have:=Qab;omega)];unfold named;by_cases E:s=ByteArray.mk #[];simp[E];have N:=Qgp E;simp only[N,and_self,W8,W6,ne_eq,E,not_false_eq_true,decide_true,Wy];congr 1;cases Qay (Z.bat s 0)<;>cases Qda s.data.toList<;>simp
end Go.Proofs.YtlhiofnikdppeaaGreatDoor
end
section
end
section
end
section
namespace Go.Proofs.YtlhiofnikdppeaaGreatDoor
open Go.RowKit Go.Graph
def mapOf (g:List Nd):List (Int×Nd):=g.map λn=>(n.1,n)
def Inc (g:List Nd):Prop:=g.Pairwise λa b=>a.1<b.1
def Qft (z:Nd)(id:Int): ∀(k:Nat) (l:List Nd),(idxF id k l= -1/\(∀n∈l,n.1≠id)/\Z.mget z (mapOf l) id=z/\Z.mhas (mapOf l) id=false)\/(∃j n,idxF id k l=((k+j:Nat):Int)/\l[j]?=some n/\n.1=id/\Z.mget z (mapOf l) id=n/\Z.mhas (mapOf l) id=true)
 |k,[]=>.inl ⟨rfl,by simp,rfl,rfl⟩
 |k,x::r=>by
  unfold idxF mapOf;simp only[Q1,Z.mget,Z.mhas];by_cases h:x.1=id;rw[Qc h,Qc h.symm,Qc h.symm];exact .inr ⟨0,x,rfl,rfl,h,rfl,rfl⟩;rw[Qb h,Qb (λe=>h e.symm),Qb (λe=>h e.symm)];rcases Qft z id (k+1) r with⟨E,H,I,J⟩|⟨j,n,E,H,I,J,N⟩
  refine .inl ⟨E,λn L=>?_,I,J⟩;rcases Qk.1 L with rfl|L
  exact h;exact H n L;exact .inr ⟨j+1,n,by rw[E];congr 1;omega,H,I,J,N⟩
def Qam (z:Nd)(g:List Nd)(id:Int):(idx g id= -1/\(∀n∈g,n.1≠id)/\Z.mget z (mapOf g) id=z/\Z.mhas (mapOf g) id=false)\/(∃(j:Nat) (n:Nd),idx g id=(j:Int)/\g[j]?=some n/\n.1=id/\Z.mget z (mapOf g) id=n/\Z.mhas (mapOf g) id=true):=by
 have:=Qft z id 0 g;simp only[Xc]at this;exact this
def Inc.lt {g:List Nd}(h:Inc g){i j:Nat}{a b:Nd}(H:g[i]?=some a)(I:g[j]?=some b)(E:i<j):a.1<b.1:=by
 obtain⟨J,rfl⟩:=Qd.1 H;obtain⟨L,rfl⟩:=Qd.1 I;exact Jd.1 h i j J L E
def Inc.inj {g:List Nd}(h:Inc g){i j:Nat}{a b:Nd}(H:g[i]?=some a)(I:g[j]?=some b)(e:a.1=b.1):i=j:=by
 rcases Jp i j with E|E|E
 have:=h.lt H I E;omega;exact E;have:=h.lt I H E;omega
def Inc.idx {g:List Nd}(h:Inc g){j:Nat}{n:Nd}(H:g[j]?=some n):Graph.idx g n.1=(j:Int):=by
 rcases Qam z0 g n.1 with⟨_,E,_⟩|⟨i,m,I,E,J,_⟩
 exact absurd rfl (E n (Qj H));rw[I,h.inj E H J]
def Inc.mget {g:List Nd}(h:Inc g){j:Nat}{n z:Nd}(E:g[j]?=some n):Z.mget z (mapOf g) n.1=n:=by
 rcases Qam z g n.1 with⟨_,H,_⟩|⟨i,m,L,H,I,J,_⟩
 exact absurd rfl (H n (Qj E));have:=h.inj H E I;subst this;rw[H]at E;injection E with E;rw[J,E]
def Qbg (g:List Nd)(id:Int)(I:g.length<=100):F.c2 g id=some (idx g id):=
 A.lp0 g (λf y=>F.cP g id f y) (λk l=>some (idxF id k l))
  (λf=>by rw[F.cP,Qb (by omega)];rfl)
  (λf k x E hk H=>by
   rw[F.cP,Qc (by omega),A.ixn E,Qa,idxF];by_cases h:x.1=id;rw[Qc h,Qc h];rw[Qb h,Qb h,A.gd1 (A.r64n (by omega)),H])
  (by have:=Qab;omega)
def ownQ (n:Nd):Bool:=if n.1<1\/255<n.1\/insK n.2.1<0\/(n.2.2.1.length:Int)≠insK n.2.1 then false else if ownC n then false else if n.2.1=1\/n.2.1=15 then named n.2.2.2.2.1 else decide (n.2.2.2.2.1=ByteArray.mk #[])
def Qfv (k:Int):F.bj k=some (decide (k=1\/k=15)):=by
 unfold F.bj;rw[A.bo]
def gIns_eq (k:Int):F.fc k=some (insK k):=(Ins_eq k).trans (Qfu k)
def own_eq (n:Nd)(hs:n.2.2.2.2.1.size<=9223372036854775807):F.fd n=some (ownQ n):=by
 have O: ∀y,F.dj n y=some (if y=true then false else if ownC n then false else if n.2.1=1\/n.2.1=15 then named n.2.2.2.2.1 else decide (n.2.2.2.2.1=ByteArray.mk #[])):=by
  intro y;unfold F.dj F.di ownC;cases y with
  |true=>simp
  |false=>
   simp only[Qx,Wa,A.bo,Qs,Qfv,Qa,named_eq _ hs,A.bn];by_cases H:n.2.1=14;simp only[H,W8,true_and,not_true_eq_false,ne_eq,false_and,or_false,Wa];by_cases E:n.2.2.2.2.2.1<1\/8<n.2.2.2.2.2.1\/n.2.2.2.2.2.2<1\/4<n.2.2.2.2.2.2;have hc':((n.2.2.2.2.2.1<1\/8<n.2.2.2.2.2.1)\/n.2.2.2.2.2.2<1)\/4<n.2.2.2.2.2.2:=by omega
   rw[Qc hc',Qc E];have hc': ¬(((n.2.2.2.2.2.1<1\/8<n.2.2.2.2.2.1)\/n.2.2.2.2.2.2<1)\/4<n.2.2.2.2.2.2):=by omega
   rw[Qb hc',Qb E];simp;simp only[H,Wa,false_and,not_false_eq_true,ne_eq,true_and,false_or,W8];by_cases E: ¬n.2.2.2.2.2.1=0\/¬n.2.2.2.2.2.2=0;rw[Qc E,Qc E];rw[Qb E,Qb E];by_cases I:n.2.1=1\/n.2.1=15;rw[Qc I,Qc I];rw[Qb I,Qb I]
 unfold F.fd ownQ;simp only[gIns_eq,Qa,O,A.bo,Qs,F.di];by_cases J:n.1<1\/255<n.1;rw[Qc J,Qc (by omega)];rw[Qb J];by_cases L:insK n.2.1<0;rw[Qc L,Qc trivial,Qc (by omega)];rw[Qb L];by_cases N:(n.2.2.1.length:Int)≠insK n.2.1;rw[Qc N,Qc (by omega)];have Q: ¬(n.1<1\/255<n.1\/insK n.2.1<0\/(n.2.2.1.length:Int)≠insK n.2.1):=by omega
 rw[Qb N,Qb Q]
def twiceF (l:List Nd)(n:Nd):Bool:=l.any λx=>decide (x.2.1=n.2.1)&&decide (x.2.2.2.2.1=n.2.2.2.2.1)
def twice_eq (l:List Nd)(n:Nd)(N:l.length<=100):F.d l n=some (twiceF l n):=by
 have loop:F.a l n A.FU 0=some (if twiceF l n=true then(0:Int)else-1)\/∃i:Nat,F.a l n A.FU 0=some (i:Int)/\twiceF l n=true:=by
  have key: ∀(m k f:Nat),k+m=l.length->m<f->(twiceF (l.drop k) n=true/\∃i:Nat,F.a l n f (k:Int)=some (i:Int))\/(twiceF (l.drop k) n=false/\F.a l n f (k:Int)=some (-1)):=by
   intro m;induction m with
   |zero=>
    intro k f hk J;obtain⟨f,rfl⟩: ∃f',f=f'+1:=⟨f-1,by omega⟩;rw[F.a,Qb (by omega),Q6 (by omega)];exact .inr ⟨rfl,rfl⟩
   |succ m L=>
    intro k f hk J;obtain⟨f,rfl⟩: ∃f',f=f'+1:=⟨f-1,by omega⟩;have I:l[k]?=some l[k]:=Qg (by omega);generalize l[k]=x at I;rw[F.a,Qc (by omega),A.ixn I,Qa,F.e7,Qa,A.ba,A.dropx I];by_cases h:x.2.1=n.2.1/\x.2.2.2.2.1=n.2.2.2.2.1;left;exact⟨by simp[twiceF,h.1,h.2],k,by rw[Qc (by simpa using h)]⟩;rw[Qb (by simpa using h),A.gd1 (A.r64n (by omega))];have e:twiceF (x::l.drop (k+1)) n=twiceF (l.drop (k+1)) n:=by
     simp only[twiceF,Yd];rw[<-Bool.decide_and,Q7 h,Xo]
    rw[e];exact L (k+1) f (by omega) (by omega)
  rcases key l.length 0 A.FU (by omega) (by have:=Qab;omega)with⟨E,i,H⟩|⟨E,H⟩
  rw[W6]at E;exact .inr ⟨i,H,E⟩;rw[W6]at E;left;rw[E];exact H
 unfold F.d F.u;rcases loop with h|⟨i,h,H⟩
 rw[show F.a l n A.FU 0=_ from h,Qa];cases twiceF l n<;>simp;rw[show F.a l n A.FU 0=_ from h,Qa,H];simp
def Qcv {κ α:Type}[DecidableEq κ]: ∀{m:List (κ×α)} {k:κ} {x:α},Z.mhas m k=false->Z.mins m k x=m++[(k,x)]
 | [],_,_,_=>rfl
 |(a,y)::r,k,x,h=>by
  simp only[Z.mhas]at h;by_cases hk:k=a;rw[Qc hk]at h;cases h;rw[Qb hk]at h;unfold Z.mins;rw[Qb hk,Qcv h];rfl
def Qdb {l:List Nd}{k:Int}(h: ∀n∈l,n.1≠k):Z.mhas (mapOf l) k=false:=by
 rcases Qam z0 l k with⟨_,_,_,E⟩|⟨j,n,_,H,E,_⟩
 exact E;exact absurd E (h n (Qj H))
def Qbs {α:Type}{l:List α}{k:Nat}{x:α}(h:l[k]?=some x):l.take (k+1)=l.take k++[x]:=by rw[Xy,h];rfl
def okL (g:List Nd):Nat->Int->List Nd->Bool
 |_,_,[]=>true
 |k,last,n::r=>if n.1<=last\/ownQ n=false\/((n.2.1=1\/n.2.1=15)/\twiceF (g.take k) n=true)then false else okL g (k+1) n.1 r
def whole_l6 (g:List Nd)(hg:g.length<=100)(W: ∀x,x∈g->x.2.2.2.2.1.size<=9223372036854775807):F.aa g A.FU [] 0 0=if okL g 0 0 g=true then F.aA g (mapOf g) A.FU 0 else some (none,80):=
 A.lp g (λf (s:List (Int×Nd)×Int) y=>F.aa g f s.1 s.2 y) (λk l s=>if okL g k s.2 l=true then F.aA g (mapOf g) A.FU 0 else some (none,80)) (λk s=>s.1=mapOf (g.take k)/\∀n∈g.take k,n.1<=s.2)
  (λf s hp=>by
   rw[F.aa,Qb (by omega),okL,Qc rfl,hp.1,Q3 (Qt _)])
  (λf s k x L hk hp Y=>by
   obtain⟨hm,I⟩:=hp;have hown:=own_eq x (W x (Qj L));have V: ∀y,F.cG (F.aa g f) s.1 s.2 (k:Int) x y=if x.1<=s.2\/ownQ x=false\/y=true then some (none,80)else F.aa g f (Z.mins s.1 x.1 x) x.1 ((k:Int)+1):=by
    intro y;rw[F.cG];simp only[F.dm,W8];by_cases J:x.1<=s.2;rw[Qc J,Qc (.inl J)];rw[Qb J,show F.fd x=_ from hown,Qa,A.gd1 (A.r64n (by omega))];cases ownQ x<;>cases y<;>simp[J]
   have hnew: ¬x.1<=s.2->F.aa g f (Z.mins s.1 x.1 x) x.1 ((k:Int)+1)=if okL g (k+1) x.1 (g.drop (k+1))=true then F.aA g (mapOf g) A.FU 0 else some (none,80):=λJ=>by
    rw[hm,Qcv (Qdb λn N e=>by have:=I n N;omega)];refine Y (mapOf (g.take k)++[(x.1,x)],x.1) ⟨?_,λn N=>?_⟩;rw[Qbs L];simp[mapOf];rw[Qbs L]at N;rcases Q2.1 N with O|O
    have:=I n O;simp only[];omega;rw[Qn]at O;subst O;exact Y7 _
   rw[F.aa,Qc (by omega),A.ixn L,Qa,Qfv,Qa,okL];by_cases Q:x.2.1=1\/x.2.1=15;rw[Qc (by simpa using Q),A.gd1 ⟨by omega,by omega⟩,show((k:Int)).toNat=k from Qv k,
    show F.d (List.take k g) x=_ from twice_eq (g.take k) x (by rw[Qy];omega),Qa,V]
   by_cases E:x.1<=s.2\/ownQ x=false\/twiceF (g.take k) x=true;have H:x.1<=s.2\/ownQ x=false\/((x.2.1=1\/x.2.1=15)/\twiceF (g.take k) x=true):=by rcases E with h|h|h;exact .inl h;exact .inr (.inl h);exact .inr (.inr ⟨Q,h⟩)
   rw[Qc E,Qc H,Qb Q5];have H: ¬(x.1<=s.2\/ownQ x=false\/((x.2.1=1\/x.2.1=15)/\twiceF (g.take k) x=true)):=λh=>E (by rcases h with h|h|h;exact .inl h;exact .inr (.inl h);exact .inr (.inr h.2));rw[Qb E,Qb H];exact hnew λh=>E (.inl h);rw[Qb (by simpa using Q),V];by_cases E:x.1<=s.2\/ownQ x=false;have H:x.1<=s.2\/ownQ x=false\/((x.2.1=1\/x.2.1=15)/\twiceF (g.take k) x=true):=by rcases E with h|h;exact .inl h;exact .inr (.inl h)
   rw[Qc (by rcases E with h|h;exact .inl h;exact .inr (.inl h)),Qc H,Qb Q5];have H: ¬(x.1<=s.2\/ownQ x=false\/((x.2.1=1\/x.2.1=15)/\twiceF (g.take k) x=true)):=λh=>E (by rcases h with h|h|h;exact .inl h;exact .inr h;exact absurd h.1 Q);rw[Qb (λh=>E (by rcases h with h|h|h;exact .inl h;exact .inr h;cases h)),Qb H];exact hnew λh=>E (.inl h))
  (by have:=Qab;omega) ([],0) ⟨rfl,by simp⟩
def whole_l5 (g:List Nd)(m:List (Int×Nd))(L:g.length<=100)(H: ∀x,x∈g->x.2.2.2.1.2.2.size<=9223372036854775807):F.aA g m A.FU 0=if g.all (λn=>decide (chk n.2.1 n.2.2.2.1=0))=true then F.ag g m A.FU 0 else some (none,60):=
 A.lp0 g (λf y=>F.aA g m f y) (λ_ l=>if l.all (λn=>decide (chk n.2.1 n.2.2.2.1=0))=true then F.ag g m A.FU 0 else some (none,60))
  (λf=>by rw[F.aA,Qb (by omega)];rfl)
  (λf k x E hk I=>by
   have h6:chk x.2.1 x.2.2.2.1≠0->chk x.2.1 x.2.2.2.1=60:=by
    intro h;unfold chk anyF at h ⊢;repeat' split
    all_goals first|rfl|(exfalso;simp_all;done)
   rw[F.aA,Qc (by omega),A.ixn E,Qa,show F.c9 x.2.1 x.2.2.2.1=_ from Qce x.2.1 x.2.2.2.1 (H x (Qj E)),Qa,Xl];by_cases h:chk x.2.1 x.2.2.2.1=0;rw[Qb (λJ=>J h),A.gd1 (A.r64n (by omega)),I,Qr h,Wy];rw[Qc h,Q7 h,Y8,Qb (by simp),h6 h])
  (by have:=Qab;omega)
def inOk (g:List Nd)(k:Int):Bool:=if idx g k<0 then false else decide ((at_ g (idx g k)).2.1≠15)
def sortP (g:List Nd)(m:List (Int×Nd)):Option ((Option ((List (Int×Nd))×(List Int)×(List (Int×Int))))×Int):=
 (F.ba (m,[],[]) g).bind λr73=>(if(!r73.1)=true then(some (none,81))else((F.a8 r73.2).bind λr79=>(if(!r79.1)=true then(some (none,80))else((F.b4 r79.2 g).bind λr85=>(if r85=true then(some (none,81))else(some (some r79.2,0)))))))
def whole_l4 (g:List Nd)(hg:g.length<=100)(O: ∀x,x∈g->x.2.2.1.length<=5000):F.ag g (mapOf g) A.FU 0=if g.all (λn=>n.2.2.1.all (inOk g))=true then sortP g (mapOf g)else some (none,80):=
 A.lp0 g (λf y=>F.ag g (mapOf g) f y) (λ_ l=>if l.all (λn=>n.2.2.1.all (inOk g))=true then sortP g (mapOf g)else some (none,80))
  (λf=>by rw[F.ag,Qb (by omega)];rfl)
  (λf k x J hk Q=>by
   rw[F.ag,Qc (by omega),A.ixn J,Qa];have hlen:=O x (Qj J);have loop:=A.lp0 x.2.2.1 (λf2 y=>F.b5 (F.ag g (mapOf g) f) (mapOf g) (k:Int) x f2 y) (λ_ l=>if l.all (inOk g)=true then F.ag g (mapOf g) f ((k:Int)+1)else some (none,80))
    (λf2=>by rw[F.b5,Qb (by omega),A.gd1 (A.r64n (by omega))];rfl)
    (λf2 j y V W E=>by
     rw[F.b5,Qc (by omega),A.ixn V,Qa,A.lt,Xl];rcases Qam ((0,0,[],(0,0,(ByteArray.mk #[])),(ByteArray.mk #[]),0,0):Nd) g y with⟨L,_,N,H⟩|⟨i,n,L,Y,N,H,h5⟩
     rw[N,H];have:inOk g y=false:=by unfold inOk;rw[Qc (by omega)]
     rw[this];simp;rw[H,h5];have e:inOk g y=decide (n.2.1≠15):=by unfold inOk;rw[Qb (by omega),Qbi L Y]
     rw[e,A.gd1 (A.r64n (by omega)),E];by_cases I:n.2.1=15<;>simp[I])
    (by have:=Qab;omega)
   rw[loop,Q,Xl];cases x.2.2.1.all (inOk g)with
   |true=>rw[Qc rfl,Wy]
   |false=>rw[Qb Q5,Y8,Qb Q5])
  (by have:=Qab;omega)
def whole_P (g:List Nd)(H:Few g):F.cB g=if(32:Int)<(g.length:Int)then some (none,80)else if okL g 0 0 g=true then(if g.all (λn=>decide (chk n.2.1 n.2.2.2.1=0))=true then(if g.all (λn=>n.2.2.1.all (inOk g))=true then sortP g (mapOf g)else some (none,80))else some (none,60))else some (none,80):=by
 have I:=H.1;unfold F.cB;rw[whole_l6 g (by omega) (λx E=>Wq (H.2 x E).2.1 (by decide)),whole_l5 g _ (by omega) (λx E=>Wq (H.2 x E).2.2 (by decide)),whole_l4 g (by omega) (λx E=>(H.2 x E).1)]
def Named_eq (g:List Nd)(kd:Int)(s:ByteArray)(L:g.length<=100):F.gn g kd s=some (Qcl kd s g):=
 A.lp0 g (λf y=>F.bK g kd s f y) (λ_ l=>some (Qcl kd s l))
  (λf=>by rw[F.bK,Qb (by omega)];rfl)
  (λf k x E hk I=>by
   rw[F.bK,Qc (by omega),A.ixn E,Qa,Qcl];simp only[F.er,A.ixn E,Qa,A.gd1 (A.r64n (n:=k) (by omega)),I,Qs,kind,name];by_cases H:x.2.1=kd;by_cases J:x.2.2.2.2.1=s<;>simp[H,J];simp[H])
  (by have:=Qab;omega)
def R_own_eq (g:List Nd)(i:Nat)(n:Nd)(Q:g[i]?=some n)(W:g.length<=100)(hs:n.2.2.2.2.1.size<=5000):F.gv g (i:Int)=some (own g (i:Int) n):=by
 have Y:=(Qd.1 Q).1;have N:F.eT g n=some (ownT g n):=by
  unfold F.eT ownT;simp only[A.ba,Qs,Named_eq g _ _ W,name_eq _ hs,Qa];by_cases h:n.2.1≠1/\n.2.1≠15;rw[Qc h,Qc h];rw[Qb h,Qb h];cases named n.2.2.2.2.1<;>rfl
 have O: ∀y,F.bm g n y=some (if y=true then false else if ownC n then false else ownT g n):=by
  intro y;unfold F.bm ownC;cases y with
  |true=>simp
  |false=>
   simp only[Qx,Wa,A.bo,Qs,N];by_cases L:n.2.1=14;simp only[L,W8,true_and,not_true_eq_false,ne_eq,false_and,or_false];by_cases E:n.2.2.2.2.2.1<1\/8<n.2.2.2.2.2.1\/n.2.2.2.2.2.2<1\/4<n.2.2.2.2.2.2;rw[Qc (by omega),Qc E];rw[Qb (by omega),Qb E];simp only[L,Wa,false_and,not_false_eq_true,ne_eq,true_and,false_or];by_cases E: ¬n.2.2.2.2.2.1=0\/¬n.2.2.2.2.2.2=0;rw[Qc E,Qc E];rw[Qb E,Qb E]
 have tail:(if insK n.2.1<0 then F.bm g n true else F.bm g n (decide ((n.2.2.1.length:Int)≠insK n.2.1)))=some (if insK n.2.1<0\/(n.2.2.1.length:Int)≠insK n.2.1 then false else if ownC n then false else ownT g n):=by
  simp only[O,Qs];by_cases H:insK n.2.1<0;rw[Qc H,Qc trivial,Qc (.inl H)];by_cases I:(n.2.2.1.length:Int)≠insK n.2.1;rw[Qb H,Qc I,Qc (.inr I)];have J: ¬(insK n.2.1<0\/(n.2.2.1.length:Int)≠insK n.2.1):=λh=>h.elim H I;rw[Qb H,Qb I,Qb J]
 unfold F.gv own;rw[A.ixn Q,Qa];simp only[Qfu,Qa,A.bo,Qs];by_cases H:n.1<1\/255<n.1;rw[Qc H,O,Qc rfl,Qc (by omega)];rw[Qb H];by_cases V:(0:Int)<(i:Int);rw[Qc V,A.gd1 ⟨by omega,by omega⟩];have hp:g[i-1]?=some g[i-1]:=Qg (by omega);generalize g[i-1]=q at hp;have e:(i:Int)-1=((i-1:Nat):Int):=by omega
 rw[e,A.ixn hp,Qa,Qbi rfl hp];by_cases I:n.1<=q.1;rw[Qc I,O,Qc rfl,Qc (by omega)];rw[Qb I,tail];by_cases J:insK n.2.1<0\/(n.2.2.1.length:Int)≠insK n.2.1;rw[Qc J,Qc (by omega)];have E: ¬(n.1<1\/255<n.1\/(0:Int)<(i:Int)/\n.1<=q.1\/insK n.2.1<0\/(n.2.2.1.length:Int)≠insK n.2.1):=by omega
 rw[Qb J,Qb E];rw[Qb V,tail];by_cases J:insK n.2.1<0\/(n.2.2.1.length:Int)≠insK n.2.1;rw[Qc J,Qc (by omega)];have E: ¬(n.1<1\/255<n.1\/(0:Int)<(i:Int)/\n.1<=(at_ g ((i:Int)-1)).1\/insK n.2.1<0\/(n.2.2.1.length:Int)≠insK n.2.1):=by omega
 rw[Qb J,Qb E]
def okR (g:List Nd):Nat->List Nd->Bool
 |_,[]=>true
 |k,n::r=>own g (k:Int) n&&okR g (k+1) r
def parts_l5 (g:List Nd)(H:g.length<=100)(I: ∀x,x∈g->x.2.2.2.2.1.size<=5000):F.cj g A.FU 0=if okR g 0 g=true then F.bf g A.FU 0 else some 80:=
 A.lp0 g (λf y=>F.cj g f y) (λk l=>if okR g k l=true then F.bf g A.FU 0 else some 80)
  (λf=>by rw[F.cj,Qb (by omega)];rfl)
  (λf k x E hk J=>by
   rw[F.cj,Qc (by omega),R_own_eq g k x E H (I x (Qj E)),Qa,A.gd1 (A.r64n (by omega)),J,okR];cases own g (k:Int) x<;>simp)
  (by have:=Qab;omega)
def parts_l4 (g:List Nd)(L:g.length<=100)(H: ∀x,x∈g->x.2.2.2.1.2.2.size<=5000):F.bf g A.FU 0=if g.all (λn=>decide (chk n.2.1 n.2.2.2.1=0))=true then F.ar g A.FU 0 else some 60:=
 A.lp0 g (λf y=>F.bf g f y) (λ_ l=>if l.all (λn=>decide (chk n.2.1 n.2.2.2.1=0))=true then F.ar g A.FU 0 else some 60)
  (λf=>by rw[F.bf,Qb (by omega)];rfl)
  (λf k x E hk I=>by
   rw[F.bf,Qc (by omega),A.ixn E,Qa,Qa,show F.cC x.2.1 x.2.2.2.1=_ from Qbt x.2.1 x.2.2.2.1 (H x (Qj E)),Qa,Xl];by_cases h:chk x.2.1 x.2.2.2.1=0;rw[Qb (λJ=>J h),A.gd1 (A.r64n (by omega)),I,Qr h,Wy];rw[Qc h,Q7 h,Y8,Qb (by simp)])
  (by have:=Qab;omega)
def idx_get {g:List Nd}{id:Int}(h:0<=idx g id): ∃n,g[(idx g id).toNat]?=some n/\at_ g (idx g id)=n/\n.1=id:=by
 rcases Qam z0 g id with⟨E,_⟩|⟨i,n,E,H,I,_⟩
 omega;exact⟨n,by rw[E];exact H,Qbi E H,I⟩
def parts_l3 (g:List Nd)(L:g.length<=100)(N: ∀x,x∈g->x.2.2.1.length<=5000):F.ar g A.FU 0=if g.all (λn=>n.2.2.1.all (inOk g))=true then some 0 else some 80:=
 A.lp0 g (λf y=>F.ar g f y) (λ_ l=>if l.all (λn=>n.2.2.1.all (inOk g))=true then some 0 else some 80)
  (λf=>by rw[F.ar,Qb (by omega)];rfl)
  (λf k x H hk O=>by
   rw[F.ar,Qc (by omega)];have hlen:=N x (Qj H);have loop:=A.lp0 x.2.2.1 (λf2 y=>F.bL (F.ar g f) g (k:Int) f2 y) (λ_ l=>if l.all (inOk g)=true then F.ar g f ((k:Int)+1)else some 80)
    (λf2=>by rw[F.bL,A.ixn H,Qa,Qb (by omega),A.gd1 (A.r64n (by omega))];rfl)
    (λf2 j y Q V I=>by
     rw[F.bL,A.ixn H,Qa,Qc (by omega),Qa,A.ixn Q,Qa,Qbg g y L,Qa,Xl];simp only[F.es,W8,Qs,A.gd1 (A.r64n (n:=j) (by omega)),I];by_cases E:idx g y<0;have:inOk g y=false:=by unfold inOk;rw[Qc E]
     rw[Qc E,this];simp;obtain⟨n,W,Y,_⟩:=idx_get (g:=g) (id:=y) (by omega);have e:inOk g y=decide (n.2.1≠15):=by unfold inOk;rw[Qb E,Y]
     rw[Qb E,A.ixg (by omega) W,Qa,e];by_cases J:n.2.1=15<;>simp[J])
    (by have:=Qab;omega)
   rw[loop,O,Xl];cases x.2.2.1.all (inOk g)with
   |true=>rw[Qc rfl,Wy]
   |false=>rw[Qb Q5,Y8,Qb Q5])
  (by have:=Qab;omega)
def lastOf (g:List Nd)(k:Nat):Int:=if k=0 then 0 else(at_ g ((k:Int)-1)).1
def BadP (g:List Nd)(k:Nat)(n:Nd):Prop:=n.1<=lastOf g k\/ownQ n=false\/((n.2.1=1\/n.2.1=15)/\twiceF (g.take k) n=true)
def Qgu {g:List Nd}{k:Nat}{n:Nd}(h:g[k]?=some n):lastOf g (k+1)=n.1:=by
 unfold lastOf;rw[Qb (by omega),Qbi (k:=k) (by omega) h]
def Qko (g:List Nd): ∀(m k:Nat),k+m=g.length->(okL g k (lastOf g k) (g.drop k)=true↔∀i n,k<=i->g[i]?=some n->¬BadP g i n)
 |0,k,h=>by
  rw[Q6 (by omega),okL];exact⟨λ_ i n J E=>by have:=(Qd.1 E).1;omega,λ_=>rfl⟩
 |m+1,k,h=>by
  have H:g[k]?=some g[k]:=Qg (by omega);generalize g[k]=x at H;have L:=Qko g m (k+1) (by omega);rw[Qgu H]at L;rw[A.dropx H,okL];by_cases I:BadP g k x;have hb':x.1<=lastOf g k\/ownQ x=false\/((x.2.1=1\/x.2.1=15)/\twiceF (g.take k) x=true):=I;rw[Qc hb'];exact⟨λh=>(by cases h),λh=>absurd I (h k x (Qt _) H)⟩;have hb': ¬(x.1<=lastOf g k\/ownQ x=false\/((x.2.1=1\/x.2.1=15)/\twiceF (g.take k) x=true)):=I;rw[Qb hb',L];refine⟨λh i n J E=>?_,λh i n J E=>h i n (by omega) E⟩;rcases Nat.eq_or_lt_of_le J with rfl|N
  rw[H]at E;injection E with E;subst E;exact I
  exact h i n N E
def Qka (g:List Nd): ∀(m k:Nat),k+m=g.length->(okR g k (g.drop k)=true↔∀i n,k<=i->g[i]?=some n->own g (i:Int) n=true)
 |0,k,h=>by
  rw[Q6 (by omega),okR];exact⟨λ_ i n I E=>by have:=(Qd.1 E).1;omega,λ_=>rfl⟩
 |m+1,k,h=>by
  have H:g[k]?=some g[k]:=Qg (by omega);generalize g[k]=x at H;have J:=Qka g m (k+1) (by omega);rw[A.dropx H,okR,Qo,J];refine⟨λh i n I E=>?_,λh=>⟨h k x (Qt _) H,λi n I E=>h i n (by omega) E⟩⟩;rcases Nat.eq_or_lt_of_le I with rfl|L
  rw[H]at E;injection E with E;subst E;exact h.1
  exact h.2 i n L E
def inc_of {g:List Nd}(h: ∀i n,g[i]?=some n->lastOf g i<n.1):Inc g:=by
 unfold Inc;have key: ∀(d i:Nat) (a b:Nd),g[i]?=some a->g[i+d+1]?=some b->a.1<b.1:=by
  intro d;induction d with
  |zero=>intro i a b H E;have:=h _ b E;rw[Qgu H]at this;exact this
  |succ d J=>
   intro i a b H E;have V:=(Qd.1 E).1;have I:g[i+d+1]?=some g[i+d+1]:=Qg (by omega);have W:=J i a _ H I;have L:=h _ b E;rw[show i+(d+1)+1=(i+d+1)+1 by omega,Qgu I]at L;omega
 refine Jd.2 λi j N O Q=>?_;refine key (j-i-1) i _ _ (Qg N) ?_;rw[show i+(j-i-1)+1=j by omega];exact Qg O
def Qdi (kd:Int)(s:ByteArray): ∀(l:List Nd),(∃(j:Nat) (n:Nd),l[j]?=some n/\n.2.1=kd/\n.2.2.2.2.1=s/\(Qcl kd s l)=(n.1,true)/\∀(i:Nat) (m:Nd),i<j->l[i]?=some m->¬(m.2.1=kd/\m.2.2.2.2.1=s))\/(Qcl kd s l=(0,false)/\∀m∈l,¬(m.2.1=kd/\m.2.2.2.2.1=s))
 | []=>.inr ⟨rfl,by simp⟩
 |x::r=>by
  unfold Qcl;by_cases h:x.2.1=kd/\x.2.2.2.2.1=s;rw[Qc h];exact .inl ⟨0,x,rfl,h.1,h.2,rfl,λi m J=>by omega⟩;have h': ¬(kind x=kd/\name x=s):=h;rw[Qb h'];rcases Qdi kd s r with⟨j,n,H,I,L,N,O⟩|⟨H,I⟩
  refine .inl ⟨j+1,n,H,I,L,N,λi m J E=>?_⟩;cases i with
  |zero=>injection E with E;subst E;exact h
  |succ i=>exact O i m (by omega) E
  refine .inr ⟨H,λm E=>?_⟩;rcases Qk.1 E with rfl|E
  exact h;exact I m E
def Qiz {l:List Nd}{n:Nd}:twiceF l n=true↔∃m∈l,m.2.1=n.2.1/\m.2.2.2.2.1=n.2.2.2.2.1:=by
 simp only[twiceF,Jb,Qo,Qs]
def own_iff {g:List Nd}(W:Inc g){k:Nat}{n:Nd}(N:g[k]?=some n)(Q:lastOf g k<n.1):own g (k:Int) n=true↔¬BadP g k n:=by
 have hname:(n.2.1=1\/n.2.1=15)->((Qcl n.2.1 n.2.2.2.2.1 g).1=n.1↔¬twiceF (g.take k) n=true):=λ_=>by
  rcases Qdi n.2.1 n.2.2.2.2.1 g with⟨j,m,E,I,J,Y,V⟩|⟨_,I⟩
  rw[Y];have hjk:j<=k:=by
   rcases Yy k j with h|h
   exact absurd ⟨rfl,rfl⟩ (V k n h N);exact h
  constructor;intro he L;have:j=k:=W.inj E N he;subst this;obtain⟨q,hq,h6⟩:=Qiz.1 L;obtain⟨i,H⟩:=W7.1 hq;rw[Xp]at H;split at H;rename_i O;exact V i q O H h6;cases H;intro L;rcases Yy j k with h|h
  exact absurd (Qiz.2 ⟨m,W7.2 ⟨j,by rw[Xp,Qc h];exact E⟩,I,J⟩) L;obtain rfl:j=k:=by omega
  rw[N]at E;injection E with E;rw[E]
  exact absurd ⟨rfl,rfl⟩ (I n (Qj N))
 have hprev: ¬((0:Int)<(k:Int)/\n.1<=(at_ g ((k:Int)-1)).1):=λh=>by
  unfold lastOf at Q;rw[Qb (by omega)]at Q;omega
 unfold own BadP ownQ;by_cases E:n.1<1\/255<n.1\/insK n.2.1<0\/(n.2.2.1.length:Int)≠insK n.2.1;rw[Qc (by omega),Qc E];exact⟨λh=>(by cases h),λh=>absurd (.inr (.inl rfl)) h⟩;have hc: ¬(n.1<1\/255<n.1\/(0:Int)<(k:Int)/\n.1<=(at_ g ((k:Int)-1)).1\/insK n.2.1<0\/(n.2.2.1.length:Int)≠insK n.2.1):=by omega
 rw[Qb hc,Qb E];by_cases I:ownC n;rw[Qc I,Qc I];exact⟨λh=>(by cases h),λh=>absurd (.inr (.inl rfl)) h⟩;rw[Qb I,Qb I];unfold ownT;by_cases J:n.2.1=1\/n.2.1=15;rw[Qb (by omega),Qc J,Qo,Qs,hname J];constructor;rintro⟨a,b⟩ (h|h|h);omega;rw[a]at h;cases h;exact b h.2;intro h;refine⟨?_,λL=>h (.inr (.inr ⟨J,L⟩))⟩;cases hq:named n.2.2.2.2.1 with
 |true=>rfl
 |false=>exact absurd (.inr (.inl hq)) h
 rw[Qc (by omega),Qb J];constructor;rintro a (h|h|h);omega;rw[a]at h;cases h;exact J h.1;intro h;cases hq:decide (n.2.2.2.2.1=ByteArray.mk #[])with
 |true=>rfl
 |false=>exact absurd (.inr (.inl hq)) h
def own_last {g:List Nd}{k:Nat}{n:Nd}(h:own g (k:Int) n=true):lastOf g k<n.1:=by
 unfold own at h;by_cases E:n.1<1\/255<n.1\/(0:Int)<(k:Int)/\n.1<=(at_ g ((k:Int)-1)).1\/insK n.2.1<0\/(n.2.2.1.length:Int)≠insK n.2.1;rw[Qc E]at h;cases h;unfold lastOf;split<;>omega
def ok_eq (g:List Nd):okL g 0 0 g=okR g 0 g:=by
 have I:=Qko g g.length 0 (by omega);have J:=Qka g g.length 0 (by omega);rw[W6]at I J;rw[show lastOf g 0=0 from rfl]at I;rw[Jg,I,J];constructor;intro h i n _ E;have H: ∀i n,g[i]?=some n->lastOf g i<n.1:=λi n E=>by
  have:=h i n (by omega) E;exact Int.lt_of_not_ge λL=>this (.inl L)
 exact(own_iff (inc_of H) E (H i n E)).2 (h i n (by omega) E);intro h i n _ E;have H: ∀i n,g[i]?=some n->lastOf g i<n.1:=λi n E=>own_last (h i n (by omega) E);exact(own_iff (inc_of H) E (H i n E)).1 (h i n (by omega) E)
def ok_inc {g:List Nd}(h:okR g 0 g=true):Inc g:=by
 have E:=Qka g g.length 0 (by omega);rw[W6]at E;exact inc_of λi n H=>own_last (E.1 h i n (by omega) H)
def parts_eq (g:List Nd)(H:Few g):F.fo g=if(32:Int)<(g.length:Int)then some 80 else if okR g 0 g=true then(if g.all (λn=>decide (chk n.2.1 n.2.2.2.1=0))=true then(if g.all (λn=>n.2.2.1.all (inOk g))=true then some 0 else some 80)else some 60)else some 80:=by
 have I:=H.1;unfold F.fo;rw[parts_l5 g (by omega) (λx E=>(H.2 x E).2.1),parts_l4 g (by omega) (λx E=>(H.2 x E).2.2),parts_l3 g (by omega) (λx E=>(H.2 x E).1)]
def fed_of {g:List Nd}(h:g.all (λn=>n.2.2.1.all (inOk g))=true):Fed g:=λx H k hk=>by
 have E:=Wd.1 (Wd.1 h x H) k hk;unfold inOk at E;by_cases I:idx g k<0;rw[Qc I]at E;cases E;omega
def bset_len {l:List Bool}{i:Nat}:(l.set i true).length=l.length:=Xd
def bget_get {l:List Bool}{i:Nat}(h:i<l.length):l[i]?=some (bget l (i:Int)):=by
 unfold bget;rw[Qv,Qg h];rfl
def bix {l:List Bool}{i:Int}(E:0<=i)(h:i<l.length):A.ix l i=some (bget l i):=by
 have e:i=((i.toNat:Nat):Int):=by omega
 rw[e];exact A.ixn (bget_get (by omega))
def iix {l:List Int}{i:Int}(E:0<=i)(h:i<l.length):A.ix l i=some (iget l i):=by
 refine A.ixg E ?_;unfold iget;rw[Qg (by omega)];rfl
def ready_eq (g:List Nd)(n:Nd)(done:List Bool)(I:g.length<=100)(O:done.length=g.length)(Q:n.2.2.1.length<=5000)(J: ∀k∈n.2.2.1,0<=idx g k):F.fT g n done=some (ready g done n):=
 A.lp0 n.2.2.1 (λf y=>F.bM g n done f y) (λk l=>some (Qie g done n.2.1 l))
  (λf=>by rw[F.bM,Qb (by omega)];rfl)
  (λf k x H hk L=>by
   have N:=J x (Qj H);have V:=(idx_le g x).2;rw[F.bM,Qc (by omega),Qie];simp only[F.et,A.gd1 (A.r64n (n:=k) (by omega)),L];by_cases E:n.2.1=14;simp[E]
   ·rw[Qc E,A.ixn H,Qa,Qbg g x I,Qa,bix N (by omega),Qa]
    cases bget done (idx g x)<;>simp[E])
  (by have:=Qab;omega)
def order_l3 (g:List Nd)(O:Few g)(hfed:Fed g)(I:List Bool->List Int->Option (List Int×Bool))(done:List Bool)(l:List Int)(V:done.length=g.length)(W:l.length<=100):
  F.aI I g done l A.FU (-1) 0=if Qad g done 0 g (-1)<0 then some ([],false)else I (done.set (Qad g done 0 g (-1)).toNat true) (l++[Qad g done 0 g (-1)]):=
 A.lp g (λf (a:Int) y=>F.aI I g done l f a y) (λk t a=>if Qad g done k t a<0 then some ([],false)else I (done.set (Qad g done k t a).toNat true) (l++[Qad g done k t a])) (λk a=> -1<=a/\a<g.length)
  (λf a hp=>by
   rw[F.aI,A.ba,Qb (by simp),Qad];by_cases h:a<0;rw[Qc h,Qc h];rw[Qb h,Qb h,bix (by omega) (by omega),Qa,A.gd1 (by simp only[Qe,Ql];omega)])
  (λf a k x J hk hp L=>by
   have hlen:=O.1;rw[F.aI,A.ba,Qc (by simp;omega),Qad];simp only[F.dy,F.eu,A.gd1 (A.r64n (n:=k) (by omega)),Qx,Wa];by_cases h:a<0
   ·by_cases E:bget done (k:Int)=true
    ·have e:(if(a<0/\bget done (k:Int)=false)/\ready g done x=true then(k:Int)else a)=a:=Qb (by rw[E];simp)
     rw[e,Qc h,bix (by omega) (by omega),Qa,E];simp only[Wz,Qx,Wa];exact L a hp
    ·rw[Yw]at E
     have H:F.fT g x done=some (ready g done x):=ready_eq g x done (by omega) V (O.in J) (hfed x (Qj J));by_cases N:ready g done x=true
     ·have e:(if(a<0/\bget done (k:Int)=false)/\ready g done x=true then(k:Int)else a)=k:=Qc ⟨⟨h,E⟩,N⟩
      rw[e,Qc h,bix (by omega) (by omega),Qa,E];simp only[Xn,W8,A.ixn J,Qa];rw[H,Qa,Qc N];exact L k (by omega)
     ·have e:(if(a<0/\bget done (k:Int)=false)/\ready g done x=true then(k:Int)else a)=a:=Qb (λQ=>N Q.2)
      rw[e,Qc h,bix (by omega) (by omega),Qa,E];simp only[Xn,W8,A.ixn J,Qa];rw[H,Qa,Qb N];exact L a hp
   ·have e:(if(a<0/\bget done (k:Int)=false)/\ready g done x=true then(k:Int)else a)=a:=Qb (λQ=>h Q.1.1)
    rw[e,Qb h];exact L a hp)
  (by have:=Qab;have:=O.1;omega) (-1) (by omega)
def ordR (g:List Nd)(r:Nat)(done:List Bool)(l:List Int):List Int×Bool:=match Qbn g r done l with
 |some l'=>(l',true)
 |none=>([],false)
def order_l4 (g:List Nd)(E:Few g)(hfed:Fed g): ∀(r f:Nat) (done:List Bool) (l:List Int),r<f->l.length+r=g.length->done.length=g.length->F.bg g f done l=some (ordR g r done l)
 |0,f,done,l,I,J,H=>by
  obtain⟨f,rfl⟩: ∃f',f=f'+1:=⟨f-1,by omega⟩;rw[F.bg,Qb (by omega)];rfl
 |r+1,f,done,l,I,J,H=>by
  obtain⟨f,rfl⟩: ∃f',f=f'+1:=⟨f-1,by omega⟩;have:=E.1;rw[F.bg,Qc (by omega),order_l3 g E hfed _ done l H (by omega),ordR,Qbn];by_cases h:Qad g done 0 g (-1)<0;rw[Qc h,Qc h];rw[Qb h,Qb h,order_l4 g E hfed r f _ _ (by omega) (by simp only[Qm,Qe,Ql];omega) (by rw[bset_len];exact H)];rfl
def R_order_eq (g:List Nd)(E:Few g)(hfed:Fed g):F.ev g=some (ordR g g.length (List.replicate g.length false) []):=by
 have:=E.1;unfold F.ev;rw[A.gd1 (by omega),order_l4 g E hfed g.length A.FU _ [] (by have:=Qab;omega) (by simp) (by simp)]
def Qee (m:List (Int×Bool))(n:Nd):Bool:=n.2.2.1.all λk=>Z.mget false m k||decide (n.2.1=14)
def Qhf (m:List (Int×Bool)):List Nd->Option Nd
 | []=>none
 |n::r=>if Z.mget false m n.1=false/\Qee m n=true then some n else Qhf m r
def sortS (g:List Nd):Nat->List (Int×Bool)->List Int->List Int
 |0,_,xs=>xs
 |r+1,m,xs=>match Qhf m g with
  |some n=>sortS g r (Z.mins m n.1 true) (xs++[n.1])
  |none=>sortS g r m xs
abbrev PlR:=Option (Bool×((List (Int×Nd))×(List Int)×(List (Int×Int))))
def sort_l4 (g:List Nd)(H:Few g)(k29:List Int->List (Int×Bool)->Int->PlR)(xs:List Int)(m:List (Int×Bool))(y:Int)(N:xs.length<=100)(Y:0<=y/\y<=100):
  F.l k29 g xs m y A.FU 0=match Qhf m g with
   |some n=>k29 (xs++[n.1]) (Z.mins m n.1 true) (y+1)
   |none=>k29 xs m (y+1):=
 A.lp0 g (λf i=>F.l k29 g xs m y f i) (λ_ l=>match Qhf m l with
   |some n=>k29 (xs++[n.1]) (Z.mins m n.1 true) (y+1)
   |none=>k29 xs m (y+1))
  (λf=>by rw[F.l,Qb (by omega),F.bt,A.gd1 ⟨by omega,by omega⟩];rfl)
  (λf k x L hk O=>by
   have hlen:=H.1;have Q:=H.in L;rw[F.l,Qc (by omega),A.ixn L,Qa,A.lt,Qhf];have loop:=A.lp0 x.2.2.1 (λf2 j=>F.aV k29 (F.l k29 g xs m y f) xs m y (k:Int) x f2 j) (λ_ l=>if l.all (λk=>Z.mget false m k||decide (x.2.1=14))=true then k29 (xs++[x.1]) (Z.mins m x.1 true) (y+1)else F.l k29 g xs m y f ((k:Int)+1))
    (λf2=>by rw[F.aV,Qb (by omega),A.gd1 (by simp only[Qe,Ql];omega),F.bt,A.gd1 ⟨by omega,by omega⟩];rfl)
    (λf2 j z V hj I=>by
     rw[F.aV,Qc (by omega),A.ixn V,Qa,A.lt,A.gd1 (A.r64n (by omega)),I,F.bu,A.gd1 (A.r64n (by omega)),Xl];cases W:Z.mget false m z<;>by_cases J:x.2.1=14<;>simp[J])
    (by have:=Qab;omega)
   rw[loop,F.bu,A.gd1 (A.r64n (by omega)),O];cases W:Z.mget false m x.1 with
   |true=>
    have e: ¬((true:Bool)=false/\Qee m x=true):=λh=>by cases h.1
    rw[Qc rfl,Qb e]
   |false=>
    rw[Qb Q5];by_cases E:Qee m x=true;have e:(false:Bool)=false/\Qee m x=true:=⟨rfl,E⟩;rw[Qc (show(x.2.2.1.all λk=>Z.mget false m k||decide (x.2.1=14))=true from E),Qc e];have e: ¬((false:Bool)=false/\Qee m x=true):=λh=>E h.2;rw[Qb (show ¬(x.2.2.1.all λk=>Z.mget false m k||decide (x.2.1=14))=true from E),Qb e])
  (by have:=Qab;have:=H.1;omega)
def Qkx (g:List Nd)(E:Few g)(a0:(List (Int×Nd))×(List Int)×(List (Int×Int))): ∀(r f:Nat) (m:List (Int×Bool)) (xs:List Int) (y:Nat),r<f->y+r=g.length->xs.length<=y->F.w a0 g f xs m (y:Int)=some (decide (((sortS g r m xs).length:Int)=(g.length:Int)),(a0.1,sortS g r m xs,a0.2.2))
 |0,f,m,xs,y,H,I,J=>by
  obtain⟨f,rfl⟩: ∃f',f=f'+1:=⟨f-1,by omega⟩;rw[F.w,Qb (by omega)];rfl
 |r+1,f,m,xs,y,H,I,J=>by
  obtain⟨f,rfl⟩: ∃f',f=f'+1:=⟨f-1,by omega⟩;have:=E.1;rw[F.w,Qc (by omega),sort_l4 g E _ xs m y (by omega) (by omega),sortS];have e:(y:Int)+1=((y+1:Nat):Int):=by omega
  cases Qhf m g with
  |none=>simp only[];rw[e,Qkx g E a0 r f m xs (y+1) (by omega) (by omega) (by omega)]
  |some n=>simp only[];rw[e,Qkx g E a0 r f _ _ (y+1) (by omega) (by omega) (by simp only[Qm,Qe,Ql];omega)]
def sort_eq (g:List Nd)(E:Few g)(m:List (Int×Nd)):F.ba (m,[],[]) g=some (decide (((sortS g g.length [] []).length:Int)=(g.length:Int)),(m,sortS g g.length [] [],[])):=by
 unfold F.ba;exact Qkx g E (m,[],[]) g.length A.FU [] [] 0 (by have:=Qab;have:=E.1;omega) (by omega) (by simp)
def Rel (g:List Nd)(done:List Bool)(m:List (Int×Bool)):Prop:=∀(i:Nat) (n:Nd),g[i]?=some n->Z.mget false m n.1=bget done (i:Int)
def ready_rel {g:List Nd}{done:List Bool}{m:List (Int×Bool)}(h:Rel g done m){n:Nd}(E: ∀k∈n.2.2.1,0<=idx g k):Qee m n=ready g done n:=by
 unfold Qee ready;generalize n.2.2.1=l at E;induction l with
 |nil=>rfl
 |cons k r L=>
  rw[Xl,L λx N=>E x (Qf _ N),Qie];have I:=E k (Qi ..);obtain⟨q,O,V,Q⟩:=idx_get I;have J:=h _ q O;rw[Q,Xb I]at J;rw[J];cases bget done (idx g k)<;>by_cases H:n.2.1=14<;>simp[H]
def Qdz (g:List Nd)(done:List Bool): ∀(k:Nat) (l:List Nd) (a:Int),0<=a->Qad g done k l a=a
 |_,[],_,_=>rfl
 |k,x::r,a,h=>by
  unfold Qad;rw[Qb (λE=>by omega)];exact Qdz g done (k+1) r a h
def Qfy {g:List Nd}{done:List Bool}{m:List (Int×Bool)}(h:Rel g done m)(I:Fed g): ∀(r k:Nat),k+r=g.length->(Qad g done k (g.drop k) (-1)= -1/\Qhf m (g.drop k)=none)\/(∃(i:Nat) (n:Nd),Qad g done k (g.drop k) (-1)=(i:Int)/\g[i]?=some n/\Qhf m (g.drop k)=some n/\bget done (i:Int)=false)
 |0,k,hk=>by
  rw[Q6 (by omega)];exact .inl ⟨rfl,rfl⟩
 |r+1,k,hk=>by
  have H:g[k]?=some g[k]:=Qg (by omega);generalize g[k]=x at H;rw[A.dropx H,Qad,Qhf,h k x H,ready_rel h (I x (Qj H))];by_cases E:bget done (k:Int)=false/\ready g done x=true;rw[Qc E,Qc ⟨⟨by omega,E.1⟩,E.2⟩,Qdz _ _ _ _ _ (by omega)];exact .inr ⟨k,x,rfl,H,rfl,E.1⟩;rw[Qb E,Qb (λJ=>E ⟨J.1.2,J.2⟩)];exact Qfy h I r (k+1) (by omega)
def idAt (g:List Nd)(i:Int):Int:=(at_ g i).1
def rel_set {g:List Nd}(I:Inc g){done:List Bool}{m:List (Int×Bool)}(h:Rel g done m)(L:done.length=g.length){i:Nat}{n:Nd}(E:g[i]?=some n):Rel g (done.set i true) (Z.mins m n.1 true):=λj q hq=>by
 rw[Uz];have N:=(Qd.1 E).1;by_cases e:q.1=n.1;have:=I.inj hq E e;subst this;rw[Qc e];unfold bget;rw[Qv,Yz (by omega)];rfl;rw[Qb e,h j q hq];have H:i≠j:=λJ=>e (by subst J;rw[E]at hq;injection hq with hq;rw[hq]);unfold bget;rw[Qv,List.getElem?_set_ne H]
def Qfg {g:List Nd}(J:Inc g)(L:Fed g): ∀(r:Nat) (done:List Bool) (m:List (Int×Bool)) (l:List Int),Rel g done m->done.length=g.length->(∃l',Qbn g r done l=some l'/\sortS g r m (l.map (idAt g))=l'.map (idAt g)/\l'.length=l.length+r)\/(Qbn g r done l=none/\(sortS g r m (l.map (idAt g))).length <l.length+r)
 |0,done,m,l,_,_=>.inl ⟨l,rfl,rfl,rfl⟩
 |r+1,done,m,l,h,N=>by
  rw[Qbn,sortS];rcases Qfy h L g.length 0 (by omega)with⟨H,E⟩|⟨i,n,H,E,O,W⟩
  rw[W6]at H E;rw[H,Qc (by omega),E];refine .inr ⟨rfl,?_⟩;simp only[];have stay: ∀(r:Nat) (xs:List Int),sortS g r m xs=xs:=by
   intro r;induction r with
   |zero=>intro xs;rfl
   |succ r Q=>intro xs;rw[sortS,E];exact Q xs
  rw[stay,Qw];omega
  ·rw[W6]at H O
   rw[H,Qb (by omega),O,Qv];simp only[];have e:l.map (idAt g)++[n.1]=(l++[(i:Int)]).map (idAt g):=by
    rw[Xm];simp only[Q1,Xk,idAt,Qbi rfl E]
   rw[e];rcases Qfg J L r (done.set i true) (Z.mins m n.1 true) (l++[(i:Int)]) (rel_set J h N E) (by rw[bset_len];exact N)with⟨l',I,h6,V⟩|⟨I,h6⟩
   exact .inl ⟨l',I,h6,by rw[V];simp only[Qm,Qe,Ql];omega⟩;exact .inr ⟨I,by simp only[Qm,Qe,Ql]at h6;omega⟩
def rel_0 (g:List Nd):Rel g (List.replicate g.length false) []:=λi n E=>by
 unfold bget;rw[Qv,Yg];split<;>rfl
def order_sort {g:List Nd}(I:Few g)(N:Inc g)(J:Fed g)(m:List (Int×Nd)):(∃l,F.ev g=some (l,true)/\F.ba (m,[],[]) g=some (true,(m,l.map (idAt g),[]))/\l.length=g.length/\Qbn g g.length (List.replicate g.length false) []=some l)\/(F.ev g=some ([],false)/\∃p,F.ba (m,[],[]) g=some (false,p)):=by
 rw[R_order_eq g I J,sort_eq g I m,ordR];rcases Qfg N J g.length (List.replicate g.length false) [] [] (rel_0 g) (by simp)with⟨l,H,E,L⟩|⟨H,E⟩
 rw[Xk]at E;rw[H,E];left;refine⟨l,rfl,?_,by simpa using L,rfl⟩;rw[Qw,Qr (by simp at L;omega)];rw[Xk]at E;rw[H];right;refine⟨rfl,(m,sortS g g.length [] [],[]),?_⟩;rw[Q7 (by simp at E;omega)]
end Go.Proofs.YtlhiofnikdppeaaGreatDoor
end
section
namespace Go.A
def mrg_any {α β:Type}[DecidableEq β]{body:α->Option (Option β)}{rest:Option β}{y:β}{p:α->Bool}: ∀{l:List α},(∀x∈l,body x=if p x=true then some (some y)else some none)->mrg body rest l=if l.any p=true then some y else rest
 | [],_=>rfl
 |x::l,h=>by
  have I:=h x (Qi ..);have J:=mrg_any (rest:=rest) (l:=l) λz E=>h z (Qf _ E);unfold mrg;rw[I,Yd];cases hp:p x with
  |true=>
   simp only[Qa,W8,Bool.true_or];rw[Qc];rw[Wd];intro z E;have H:=h z (Qf _ E);refine Qr ?_;rw[H];cases p z<;>simp
  |false=>
   simp only[Qa,Qx,Wa,Xo];exact J
end Go.A
namespace Go.Proofs.YtlhiofnikdppeaaGreatDoor
open Go.RowKit Go.Graph
def R_depth_eq (n:Nd)(l:List Int)(Y:n.2.1=5\/n.2.1=9->2<=l.length)(hb: -1<=d0 l/\d0 l<=4):F.fp n l=some (depthOf n l):=by
 have J:F.dB n l (d0 l)=some (depthOf n l):=by
  unfold F.dB depthOf Qhy;have L: ∀y,F.aJ y=some (capd y):=λy=>by unfold F.aJ F.ew capd;split<;>rfl
  have N: ∀y,(y=true↔n.2.1=5\/n.2.1=9)->F.dA n l (d0 l) y=some (capd (if n.2.1=5\/n.2.1=9 then(if iget l 0≠iget l 1 then-1 else d0 l)else if n.2.1=11\/n.2.1=16\/n.2.1=15 then(if d0 l≠0 then-1 else d0 l)else d0 l)):=λy W=>by
   unfold F.dA F.dz;simp only[L,Qs];by_cases h:n.2.1=5\/n.2.1=9;have:=Y h;rw[Qc (W.2 h),Qc h,iix (i:=0) (by omega) (by omega),Qa,iix (i:=1) (by omega) (by omega),Qa];by_cases e:iget l 0=iget l 1;rw[Qb (λh=>h e),Qb (λh=>h e)];rw[Qc e,Qc e];rw[Qb (λh2=>h (W.1 h2)),Qb h];by_cases O:n.2.1=11;simp only[O,W8,true_or];split<;>rfl;by_cases Q:n.2.1=16;simp only[Q,W8,true_or,or_true,Wa,Int.reduceEq];split<;>rfl;by_cases V:n.2.1=15;simp only[V,W8,or_true,Wa,Int.reduceEq];split<;>rfl;simp only[O,Q,V,Wa,or_self]
  simp only[L];by_cases E:n.2.1=14;rw[Qc E,Qc E];rw[Qb E,Qb E];by_cases H:n.2.1=12;rw[Qc H,Qc H,A.gd1 ⟨by omega,by omega⟩];rw[Qb H,Qb H];by_cases I:n.2.1=13;rw[Qc I,Qc I,A.gd1 ⟨by omega,by omega⟩];rw[Qb I,Qb I];by_cases h5':n.2.1=5;rw[Qc h5',N _ (by simp[h5'])];rw[Qb h5',N _ (by simp[h5'])]
 unfold F.fp;by_cases h:(0:Int)<(l.length:Int);rw[Qc h,iix (i:=0) (by omega) (by omega),Qa,d0_iget];exact J;rw[Qb h,d0_nil (l:=l) (by omega)];exact J
def Own (g:List Nd):Prop:=∀n,n∈g->ownQ n=true
def own_ins {n:Nd}(h:ownQ n=true):0<=insK n.2.1/\(n.2.2.1.length:Int)=insK n.2.1:=by
 unfold ownQ at h;by_cases E:n.1<1\/255<n.1\/insK n.2.1<0\/(n.2.2.1.length:Int)≠insK n.2.1;rw[Qc E]at h;cases h;omega
def own_id {n:Nd}(h:ownQ n=true):1<=n.1/\n.1<=255:=by
 unfold ownQ at h;by_cases E:n.1<1\/255<n.1\/insK n.2.1<0\/(n.2.2.1.length:Int)≠insK n.2.1;rw[Qc E]at h;cases h;omega
def own_D {n:Nd}(h:ownQ n=true):(n.2.1=14->1<=n.2.2.2.2.2.2/\n.2.2.2.2.2.2<=4)/\(n.2.1≠14->n.2.2.2.2.2.2=0):=by
 unfold ownQ at h;by_cases E:n.1<1\/255<n.1\/insK n.2.1<0\/(n.2.2.1.length:Int)≠insK n.2.1;rw[Qc E]at h;cases h;rw[Qb E]at h;by_cases H:ownC n;rw[Qc H]at h;cases h;unfold ownC at H;omega
def insK_cases (k:Int)(h:0<=insK k):(k=1/\insK k=0)\/((k=5\/k=9)/\insK k=2)\/(k≠1/\k≠5/\k≠9/\insK k=1):=by
 unfold insK at h ⊢;by_cases E:k<1\/16<k;rw[Qc E]at h;omega;rw[Qb E];by_cases H:k=1;rw[Qc H];omega;rw[Qb H];by_cases I:k=5\/k=9;rw[Qc I];omega;rw[Qb I];omega
def own_len {n:Nd}(h:ownQ n=true):(n.2.1=1/\n.2.2.1.length=0)\/((n.2.1=5\/n.2.1=9)/\n.2.2.1.length=2)\/(n.2.1≠1/\n.2.1≠5/\n.2.1≠9/\n.2.2.1.length=1):=by
 have H:=own_ins h;rcases insK_cases n.2.1 H.1 with E|E|E<;>omega
def Qgw {l:List Int}{i:Nat}{v:Int}:(l.set i v).length=l.length:=Xd
def depths_l1 (g:List Nd)(l d:List Int)(y:Nat)(p:Nat)(x:Nd)(H:List Int->Int->Option (List Int×Bool))(Q:Few g)(hfed:Fed g)(V:Own g)(hd:d.length=g.length)(I:InB d)(hp:l[y]?=some (p:Int))(hy:y<100)(J:g[p]?=some x):
  F.bW H g l d (y:Int) x A.FU [] 0=if depthOf x (inD g d x.2.2.1)<0 then some ([],false)else H (d.set p (depthOf x (inD g d x.2.2.1))) ((y:Int)+1):=by
 have hlen:=Q.1;have W:=Q.in J;have Y:=(Qd.1 J).1;have E:=Qj J;have loop:=A.lp x.2.2.1 (λf (s:List Int) i=>F.bW H g l d (y:Int) x f s i) (λ_ t s=>if depthOf x (s++inD g d t)<0 then some ([],false)else H (d.set p (depthOf x (s++inD g d t))) ((y:Int)+1)) (λk s=>s=inD g d (x.2.2.1.take k))
  (λf s hs=>by
   rw[Q3 (Qt _)]at hs;subst hs;have hdep:F.fp x (inD g d x.2.2.1)=some (depthOf x (inD g d x.2.2.1)):=R_depth_eq x (inD g d x.2.2.1) (λh=>by rcases own_len (V x E)with L|L|L<;>simp only[inD,Qw]<;>omega) (I.d0 g _);have e:(inD g d x.2.2.1++inD g d ([]:List Int))=inD g d x.2.2.1:=by simp[inD]
   rw[F.bW,Qb (by omega),A.ixn hp,Qa,hdep,Qa,iix (by omega) (by omega),Qa,Qa,e,iix (by omega) (by rw[Qgw];omega),Qa,A.gd1 (A.r64n (by omega)),Qv];have e2:iget (d.set p (depthOf x (inD g d x.2.2.1))) (p:Int)=depthOf x (inD g d x.2.2.1):=by
    unfold iget;rw[Qv,Yz (by omega)];rfl
   rw[e2])
  (λf s k z N hk hs ih=>by
   have h1:=hfed x E z (Qj N);have L:=(idx_le g z).2;rw[F.bW,Qc (by omega),A.ixn N,Qa,Qbg g z (by omega),Qa,iix h1 (by omega),Qa];have O:s++[iget d (idx g z)]=inD g d (x.2.2.1.take (k+1)):=by rw[hs];exact inD_take N
   rw[A.gd1 (by rw[hs];simp only[inD,Qw,Qy,Qe,Ql];omega),A.gd1 (A.r64n (by omega)),ih _ O];simp only[inD,Q1,Q0,X2])
  (by have:=Qab;omega) [] (by simp[inD])
 rw[loop];rfl
def depths_l3 (g:List Nd)(d:List Int)(L:Few g)(hfed:Fed g)(O:Own g)(W:d.length=g.length):F.a5 g d A.FU 0=if Qbo g d g=true then some (d,true)else some ([],false):=
 A.lp0 g (λf y=>F.a5 g d f y) (λ_ t=>if Qbo g d t=true then some (d,true)else some ([],false))
  (λf=>by rw[F.a5,Qb (by omega)];rfl)
  (λf k x N hk Q=>by
   have hlen:=L.1;have H:=Qj N;rw[F.a5,Qc (by omega),A.ixn N,Qa,Qbo];simp only[F.dW,A.gd1 (A.r64n (n:=k) (by omega)),Q,Qs];by_cases E:x.2.1=14;have Y:x.2.2.1.length=1:=by rcases own_len (O x H)with J|J|J<;>omega
   have I:x.2.2.1[0]?=some (iget x.2.2.1 0):=by
    unfold iget;rw[show(0:Int).toNat=0 from rfl,Qg (by omega)];rfl
   have V:=hfed x H _ (Qj I);have J:=(idx_le g (iget x.2.2.1 0)).2;rw[Qc E,show A.ix x.2.2.1 0=_ from A.ixn I,Qa,Qbg g _ (by omega),Qa,iix V (by omega),Qa];by_cases e:iget d (idx g (iget x.2.2.1 0))≠x.2.2.2.2.2.2;rw[Qc e];have e2:x.2.1=14/\iget d (idx g (iget x.2.2.1 0))≠x.2.2.2.2.2.2:=⟨E,e⟩;rw[Qc e2,Qb Q5];rw[Qb e];have e2: ¬(x.2.1=14/\iget d (idx g (iget x.2.2.1 0))≠x.2.2.2.2.2.2):=λh=>e h.2;rw[Qb e2];have e2: ¬(x.2.1=14/\iget d (idx g (iget x.2.2.1 0))≠x.2.2.2.2.2.2):=λh=>E h.1;rw[Qb E,Qb Q5,Qb e2])
  (by have:=Qab;have:=L.1;omega)
def Plc (g:List Nd)(l:List Int):Prop:=∀(i:Nat) (p:Int),l[i]?=some p->∃(k:Nat) (n:Nd),p=(k:Int)/\g[k]?=some n
def depths_l4 (g:List Nd)(l:List Int)(E:Few g)(hfed:Fed g)(J:Own g)(N:l.length<=60)(hp:Plc g l):F.dQ g l=some (depths g l):=by
 have hlen:=E.1;have loop:=A.lp l (λf (s:List Int) i=>F.bX g l f s i) (λ_ t s=>match Qbc g t s with
  |some d=>if Qbo g d g=true then some (d,true)else some ([],false)
  |none=>some ([],false)) (λk s=>s.length=g.length/\InB s)
  (λf s hs=>by rw[F.bX,Qb (by omega),depths_l3 g s E hfed J hs.1];rfl)
  (λf s k x H hk hs L=>by
   obtain⟨q,n,rfl,I⟩:=hp k x H;rw[F.bX,Qc (by omega),A.ixn H,Qa,A.ixn I,Qa,depths_l1 g l s k q n _ E hfed J hs.1 hs.2 H (by omega) I,Qbc,Qbi rfl I];by_cases h:depthOf n (inD g s n.2.2.1)<0;rw[Qc h,Qc h];rw[Qb h,Qb h,Qv];exact L _ ⟨by rw[Qgw];exact hs.1,hs.2.set q (by omega) (Qfz n _)⟩)
  (by have:=Qab;omega) (List.replicate g.length 0) ⟨by simp,InB.rep _⟩
 unfold F.dQ depths;rw[A.gd1 (by omega),loop];cases Qbc g l (List.replicate g.length 0)with
 |none=>rfl
 |some d=>simp only[];cases Qbo g d g<;>rfl
end Go.Proofs.YtlhiofnikdppeaaGreatDoor
end
