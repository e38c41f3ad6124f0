/- Functions on data, what they tell, and that the code computes them. -/
import Derived.Test.YtlhiofnikdppeaaGreatDoorK4
import Derived.Test.YtlhiofnikdppeaaGreatDoorK0
import Derived.Lib.MapLaws
import Derived.Lib.ValidU
import Derived.Laws.Cover4
set_option maxRecDepth 20000
set_option linter.unusedVariables false
set_option linter.unusedSimpArgs false
set_option synthInstance.maxSize 1000000
set_option synthInstance.maxHeartbeats 400000
section
namespace Go.Proofs.YtlhiofnikdppeaaGreatDoor
open Go.RowKit Go.Graph
theorem tail_eq (c:UInt8):F.da c=some (tail5 c):=by
 unfold F.da tail5
 by_cases E:(128:Int)≤(c.toNat:Int)<;>by_cases H:(c.toNat:Int)≤191<;>simp[E,H]
theorem ixk (s:ByteArray)(p k:Nat):A.ix s.data.toList ((p:Int)+(k:Int))=if p+k<s.size then some (Z.bat s (p+k))else none:=by
 have e:(p:Int)+(k:Int)=((p+k:Nat):Int):=by omega
 rw[e]
 by_cases h:p+k<s.size
 ·rw[if_pos h];exact ixb h
 ·rw[if_neg h,A.ix_nat];exact Wk (by rw[Qac];omega)
def wid (s:ByteArray)(p:Nat):Nat:=if Utf8.decode s p=(65533,1)then 0 else(Utf8.decode s p).2
theorem wid_le {s:ByteArray}{p:Nat}(h:p<s.size):p+wid s p≤s.size:=by
 unfold wid
 split
 ·omega
 ·rw[dec_at]
  unfold Lib.decodeN
  repeat' split
  all_goals simp only[]
  all_goals omega
def widN (n a b c d:Nat):Nat:=
 if a<128 then 1
 else if(194≤a∧a≤223)∧2≤n∧(128≤b∧b≤191)then 2
 else if(224≤a∧a≤239)∧3≤n∧(128≤b∧b≤191)∧(128≤c∧c≤191)∧¬(a=224∧b<160)∧¬(a=237∧159<b)then 3
 else if(240≤a∧a≤244)∧4≤n∧(128≤b∧b≤191)∧(128≤c∧c≤191)∧(128≤d∧d≤191)∧¬(a=240∧b<144)∧¬(a=244∧143<b)then 4
 else 0
theorem pq (c:Prop)[Decidable c](x w:Nat)(E:w≠1):(if(if c then(x,w)else(65533,1))=(65533,1)then 0 else(if c then(x,w)else(65533,1)).2)=if c then w else 0:=by
 by_cases h:c<;>simp[h,E]
theorem widN_eq (n a b c d:Nat)(L:a<256)(N:b<256)(O:c<256)(Q:d<256):(if Lib.decodeN n a b c d=(65533,1)then 0 else(Lib.decodeN n a b c d).2)=widN n a b c d:=by
 unfold Lib.decodeN widN
 by_cases E:a<128
 ·simp only[E,if_true,Ye];rw[if_neg (by omega)]
 ·simp only[E,if_false]
  by_cases H:a / 32=6∧1<n∧b / 64=2
  ·simp only[if_pos H]
   rw[pq _ _ _ (by decide)]
   repeat' split
   all_goals omega
  ·simp only[if_neg H]
   by_cases I:a / 16=14∧(1<n∧b / 64=2)∧2<n∧c / 64=2
   ·simp only[if_pos I]
    rw[pq _ _ _ (by decide)]
    repeat' split
    all_goals omega
   ·simp only[if_neg I]
    by_cases J:a / 8=30∧(1<n∧b / 64=2)∧(2<n∧c / 64=2)∧3<n∧d / 64=2
    ·simp only[if_pos J]
     rw[pq _ _ _ (by decide)]
     repeat' split
     all_goals omega
    ·simp only[if_neg J,if_true]
     repeat' split
     all_goals omega
theorem wid_N (s:ByteArray)(p:Nat):wid s p=widN (s.size-p) (Z.bat s p).toNat (Z.bat s (p+1)).toNat (Z.bat s (p+2)).toNat (Z.bat s (p+3)).toNat:=by
 rw[←widN_eq _ _ _ _ _ (UInt8.toNat_lt _) (UInt8.toNat_lt _) (UInt8.toNat_lt _) (UInt8.toNat_lt _),←dec_at];rfl
theorem cnd {α:Type}{p:Prop}[Decidable p](x y:α):(bif decide p then x else y)=if p then x else y:=by by_cases h:p<;>simp[h]
set_option maxHeartbeats 4000000 in
theorem width_eq (s:ByteArray)(p:Nat)(hp:p<s.size)(hs:s.size≤5000):F.eg s p=some (wid s p:Int):=by
 have i1:A.ix s.data.toList ((p:Int)+1)=if p+1<s.size then some (Z.bat s (p+1))else none:=ixk s p 1
 have i2:A.ix s.data.toList ((p:Int)+2)=if p+2<s.size then some (Z.bat s (p+2))else none:=ixk s p 2
 have i3:A.ix s.data.toList ((p:Int)+3)=if p+3<s.size then some (Z.bat s (p+3))else none:=ixk s p 3
 have r1:Z.R64 ((p:Int)+1):=⟨by omega,by omega⟩
 have r2:Z.R64 ((p:Int)+2):=⟨by omega,by omega⟩
 have r3:Z.R64 ((p:Int)+3):=⟨by omega,by omega⟩
 unfold F.eg
 rw[A.gd1 ⟨by omega,by omega⟩,ixb hp,Qa,A.gd1 r1,i1,wid_N]
 generalize Z.bat s p=c0 at*
 generalize Z.bat s (p+1)=c1 at*
 generalize Z.bat s (p+2)=c2 at*
 generalize Z.bat s (p+3)=c3 at*
 have t (c:UInt8):tail5 c=decide (128≤c.toNat∧c.toNat≤191):=by unfold tail5;congr 1;exact propext ⟨fun h=>by omega,fun h=>by omega⟩
 by_cases W:(1:Int)<(s.size:Int)-(p:Int)
 ·rw[if_pos W,if_pos (by omega),Qa]
  simp only[F.dc,F.db,F.cA,F.cb,tail_eq,Qa,t,A.gd1 r2,A.gd1 r3,i2,i3]
  unfold widN
  generalize hn:s.size-p=n
  have e2:((2:Int)≤(s.size:Int)-(p:Int))=(2≤n):=propext ⟨fun h=>by omega,fun h=>by omega⟩
  have e3:((3:Int)≤(s.size:Int)-(p:Int))=(3≤n):=propext ⟨fun h=>by omega,fun h=>by omega⟩
  have e4:((4:Int)≤(s.size:Int)-(p:Int))=(4≤n):=propext ⟨fun h=>by omega,fun h=>by omega⟩
  have f2:(p+2<s.size)=(3≤n):=propext ⟨fun h=>by omega,fun h=>by omega⟩
  have f3:(p+3<s.size)=(4≤n):=propext ⟨fun h=>by omega,fun h=>by omega⟩
  have V:2≤n:=by omega
  simp only[e2,e3,e4,f2,f3,A.ba,decide_eq_true_eq,V,and_true,true_and]
  have q0:((c0.toNat:Int)<128)=(c0.toNat<128):=propext ⟨fun h=>by omega,fun h=>by omega⟩
  have q1:((194:Int)≤(c0.toNat:Int)∧(c0.toNat:Int)≤223)=(194≤c0.toNat∧c0.toNat≤223):=propext ⟨fun h=>by omega,fun h=>by omega⟩
  have q2:((224:Int)≤(c0.toNat:Int)∧(c0.toNat:Int)≤239)=(224≤c0.toNat∧c0.toNat≤239):=propext ⟨fun h=>by omega,fun h=>by omega⟩
  have q3:((240:Int)≤(c0.toNat:Int)∧(c0.toNat:Int)≤244)=(240≤c0.toNat∧c0.toNat≤244):=propext ⟨fun h=>by omega,fun h=>by omega⟩
  have q4:((c0.toNat:Int)=224∧(c1.toNat:Int)<160)=(c0.toNat=224∧c1.toNat<160):=propext ⟨fun h=>by omega,fun h=>by omega⟩
  have q5:((c0.toNat:Int)=237∧(159:Int)<(c1.toNat:Int))=(c0.toNat=237∧159<c1.toNat):=propext ⟨fun h=>by omega,fun h=>by omega⟩
  have q6:((c0.toNat:Int)=240∧(c1.toNat:Int)<144)=(c0.toNat=240∧c1.toNat<144):=propext ⟨fun h=>by omega,fun h=>by omega⟩
  have q7:((c0.toNat:Int)=244∧(143:Int)<(c1.toNat:Int))=(c0.toNat=244∧143<c1.toNat):=propext ⟨fun h=>by omega,fun h=>by omega⟩
  simp only[q0,q1,q2,q3,q4,q5,q6,q7]
  have x1:240≤c0.toNat∧c0.toNat≤244→¬(224≤c0.toNat∧c0.toNat≤239):=fun h O=>by omega
  have x2:240≤c0.toNat∧c0.toNat≤244→¬(194≤c0.toNat∧c0.toNat≤223):=fun h O=>by omega
  have x3:224≤c0.toNat∧c0.toNat≤239→¬(194≤c0.toNat∧c0.toNat≤223):=fun h O=>by omega
  by_cases K0:c0.toNat<128
  ·simp[K0]
  by_cases H:128≤c1.toNat∧c1.toNat≤191
  ·by_cases K1:194≤c0.toNat∧c0.toNat≤223
   ·simp only[if_neg K0,if_pos K1,if_pos H,K1,H,and_self,if_true];rfl
   ·by_cases K2:224≤c0.toNat∧c0.toNat≤239
    ·have K3: ¬(240≤c0.toNat∧c0.toNat≤244):=fun h=>x1 h K2
     by_cases E:3≤n
     ·by_cases I:128≤c2.toNat∧c2.toNat≤191
      ·by_cases J:c0.toNat=224∧c1.toNat<160
       ·simp only[if_neg K0,if_neg K1,if_pos (And.intro K2 E),if_pos H,if_pos E,Qa,if_pos I,eq_true J,if_true,false_and,K1,K3,eq_true J,not_true_eq_false,and_false,if_false];rfl
       ·by_cases N:c0.toNat=237∧159<c1.toNat
        ·simp only[if_neg K0,if_neg K1,if_pos (And.intro K2 E),if_pos H,if_pos E,Qa,if_pos I,if_neg J,eq_true N,if_true,false_and,K1,K3,eq_true N,not_true_eq_false,and_false,if_false];rfl
        ·simp only[if_neg K0,if_neg K1,if_pos (And.intro K2 E),if_pos H,if_pos E,Qa,if_pos I,if_neg J,if_neg N,false_and,K1,K2,E,H,I,J,N,not_false_eq_true,and_self,if_true,if_false];rfl
      ·simp only[if_neg K0,if_neg K1,if_pos (And.intro K2 E),if_pos H,if_pos E,Qa,if_neg I,if_neg K3,false_and,K1,K3,I,and_false,if_false,Qs];rfl
     ·simp only[if_neg K0,if_neg K1,E,and_false,if_neg K3,false_and,K1,K3,if_false];rfl
    ·by_cases K3:240≤c0.toNat∧c0.toNat≤244
     ·by_cases L:4≤n
      ·have E:3≤n:=by omega
       by_cases I:128≤c2.toNat∧c2.toNat≤191
       ·by_cases Q:128≤c3.toNat∧c3.toNat≤191
        ·by_cases J:c0.toNat=240∧c1.toNat<144
         ·simp only[if_neg K0,if_neg K1,if_neg K2,K2,false_and,if_pos (And.intro K3 L),if_pos H,if_pos E,if_pos L,Qa,if_pos I,if_pos Q,eq_true J,if_true,K1,eq_true J,not_true_eq_false,and_false,if_false];rfl
         ·by_cases N:c0.toNat=244∧143<c1.toNat
          ·simp only[if_neg K0,if_neg K1,if_neg K2,K2,false_and,if_pos (And.intro K3 L),if_pos H,if_pos E,if_pos L,Qa,if_pos I,if_pos Q,if_neg J,eq_true N,if_true,K1,eq_true N,not_true_eq_false,and_false,if_false];rfl
          ·simp only[if_neg K0,if_neg K1,if_neg K2,K2,false_and,if_pos (And.intro K3 L),if_pos H,if_pos E,if_pos L,Qa,if_pos I,if_pos Q,if_neg J,if_neg N,K1,K3,L,H,I,Q,J,N,not_false_eq_true,and_self,if_true,if_false];rfl
        ·simp only[if_neg K0,if_neg K1,if_neg K2,K2,false_and,if_pos (And.intro K3 L),if_pos H,if_pos E,if_pos L,Qa,if_pos I,if_neg Q,K1,Q,and_false,if_false,Qs];rfl
       ·simp only[if_neg K0,if_neg K1,if_neg K2,K2,false_and,if_pos (And.intro K3 L),if_pos H,if_pos E,Qa,if_neg I,K1,I,and_false,if_false,Qs];rfl
      ·simp only[if_neg K0,if_neg K1,if_neg K2,K2,false_and,L,and_false,K1,if_false];rfl
     ·simp only[if_neg K0,if_neg K1,if_neg K2,if_neg K3,K1,K2,K3,false_and,if_false];rfl
  ·simp[K0,H]
 ·rw[if_neg W]
  simp only[F.dc,F.db,F.cA,F.cb,A.ba,decide_eq_true_eq]
  unfold widN
  have Y:(c0.toNat:Int)<128↔c0.toNat<128:=⟨fun h=>by omega,fun h=>by omega⟩
  by_cases O:c0.toNat<128
  ·rw[if_pos (Y.2 O),if_pos O];rfl
  ·have a1: ¬((194≤c0.toNat∧c0.toNat≤223)∧2≤s.size-p∧128≤c1.toNat∧c1.toNat≤191):=fun h=>by omega
   have a2: ¬((224≤c0.toNat∧c0.toNat≤239)∧3≤s.size-p∧(128≤c1.toNat∧c1.toNat≤191)∧(128≤c2.toNat∧c2.toNat≤191)∧¬(c0.toNat=224∧c1.toNat<160)∧¬(c0.toNat=237∧159<c1.toNat)):=fun h=>by omega
   have a3: ¬((240≤c0.toNat∧c0.toNat≤244)∧4≤s.size-p∧(128≤c1.toNat∧c1.toNat≤191)∧(128≤c2.toNat∧c2.toNat≤191)∧(128≤c3.toNat∧c3.toNat≤191)∧¬(c0.toNat=240∧c1.toNat<144)∧¬(c0.toNat=244∧143<c1.toNat)):=fun h=>by omega
   rw[if_neg (fun h=>O (Y.1 h)),if_neg O,if_neg a1,if_neg a2,if_neg a3]
   simp only[Qs,if_false]
   rw[if_neg (fun h=>by omega),if_neg (fun h=>by omega),if_neg (fun h=>by omega)];rfl
def vld (s:ByteArray):Nat→Nat→Bool
 |0,_=>true
 |n+1,p=>if p<s.size then(if wid s p=0 then false else vld s n (p+wid s p))else true
def cnt (s:ByteArray):Nat→Nat→Nat
 |0,_=>0
 |n+1,p=>if p<s.size then 1+cnt s n (p+(Utf8.decode s p).2)else 0
theorem wid_4 (s:ByteArray)(p:Nat):wid s p≤4:=by
 rw[wid_N];unfold widN;repeat' split
 all_goals omega
theorem wid_dec {s:ByteArray}{p:Nat}(h:wid s p≠0):(Utf8.decode s p).2=wid s p:=by
 unfold wid at h ⊢;split at h
 ·exact absurd rfl h
 ·rename_i E;rw[if_neg E]
theorem Valid_eq (s:ByteArray)(hs:s.size≤5000):F.e6 s=some (vld s s.size 0):=by
 have loop: ∀(n p f:Nat),s.size-p≤n→n<f→p≤5010→F.dd s f (p:Int)=some (vld s n p):=by
  intro n
  induction n with
  |zero=>
   intro p f hp H _
   obtain⟨f,rfl⟩: ∃f',f=f'+1:=⟨f-1,by omega⟩
   rw[F.dd,if_neg (by omega)];rfl
  |succ n I=>
   intro p f hp H J
   obtain⟨f,rfl⟩: ∃f',f=f'+1:=⟨f-1,by omega⟩
   rw[F.dd,vld]
   by_cases h:p<s.size
   ·rw[if_pos (by omega),if_pos h,width_eq s p h hs,Qa]
    have:=wid_le h
    by_cases E:wid s p=0
    ·rw[if_pos (by omega),if_pos E]
    ·rw[if_neg (by omega),if_neg E,A.gd1 ⟨by omega,by omega⟩]
     have e:(p:Int)+(wid s p:Int)=((p+wid s p:Nat):Int):=by omega
     rw[e];exact I _ f (by omega) (by omega) (by omega)
   ·rw[if_neg (by omega),if_neg h]
 exact loop s.size 0 A.FU (by omega) (by have:=Qab;omega) (by omega)
theorem Qax (s:ByteArray):Lib.validD s.data.toList=vld s s.size 0:=by
 have loop: ∀(n p:Nat),Lib.validGoD n (s.data.toList.drop p)=vld s n p:=by
  intro n
  induction n with
  |zero=>intro p;rfl
  |succ n J=>
   intro p
   rw[Lib.validGoD,vld]
   by_cases h:p<s.size
   ·have H:s.data.toList.drop p≠[]:=by rw[Qgj h];simp
    rw[if_neg H,if_pos h,Lib.decodeL_drop,Y6]
    by_cases E:Utf8.decode s p=(65533,1)
    ·rw[if_pos (by rw[E];exact⟨rfl,rfl⟩),if_pos (by unfold wid;rw[if_pos E])]
    ·have e:wid s p=(Utf8.decode s p).2:=by unfold wid;rw[if_neg E]
     rw[if_neg (fun I=>E (Prod.ext I.1 I.2)),if_neg (by rw[e];have:=Qhy s p;omega),J,e]
   ·rw[if_pos (Qfx h),if_neg h]
 have:=loop s.size 0
 rw[Wq]at this
 exact this
theorem Runes_eq (s:ByteArray)(hs:s.size≤5000)(E:vld s s.size 0=true): ∃l,F.fo s=some l∧l.length=cnt s s.size 0:=by
 have loop: ∀(n p f:Nat) (xs:List (Int×Int)),s.size-p≤n→n<f→xs.length≤p→p≤5010→vld s n p=true→∃l,F.aY s f xs (p:Int)=some l∧l.length=xs.length+cnt s n p:=by
  intro n
  induction n with
  |zero=>
   intro p f xs hp hf _ _ _
   obtain⟨f,rfl⟩: ∃f',f=f'+1:=⟨f-1,by omega⟩
   rw[F.aY,if_neg (by omega)];exact⟨_,rfl,rfl⟩
  |succ n ih=>
   intro p f xs hp hf hxs hp5 E
   obtain⟨f,rfl⟩: ∃f',f=f'+1:=⟨f-1,by omega⟩
   rw[F.aY]
   rw[vld]at E
   rw[cnt]
   by_cases h:p<s.size
   ·rw[if_pos h]at E
    have hl:=wid_le h
    have h4:=wid_4 s p
    by_cases J:wid s p=0
    ·rw[if_pos J]at E;cases E
    rw[if_neg J]at E
    have H: ∀(w c:Int),w=(wid s p:Int)→∃l,F.bH (F.aY s f) xs (p:Int) w c=some l∧l.length=xs.length+(1+cnt s n (p+(Utf8.decode s p).2)):=fun w c L=>by
     subst L
     rw[F.bH,A.gd1 (by simp only[Qd,Qm];omega),A.gd1 ⟨by omega,by omega⟩,wid_dec J]
     have e:(p:Int)+(wid s p:Int)=((p+wid s p:Nat):Int):=by omega
     rw[e]
     obtain⟨l,N,O⟩:=ih (p+wid s p) f (xs++[((p:Int),c)]) (by omega) (by omega) (by simp only[Qj,Qd,Qm];omega) (by omega) E
     exact⟨l,N,by rw[O,Qj];simp only[Qd,Qm];omega⟩
    have I:=ixb (s:=s) h
    have Q:A.ix s.data.toList ((p:Int)+1)=if p+1<s.size then some (Z.bat s (p+1))else none:=ixk s p 1
    have W:A.ix s.data.toList ((p:Int)+2)=if p+2<s.size then some (Z.bat s (p+2))else none:=ixk s p 2
    have i3:A.ix s.data.toList ((p:Int)+3)=if p+3<s.size then some (Z.bat s (p+3))else none:=ixk s p 3
    have V:Z.R64 ((p:Int)+1):=⟨by omega,by omega⟩
    have Y:Z.R64 ((p:Int)+2):=⟨by omega,by omega⟩
    have r3:Z.R64 ((p:Int)+3):=⟨by omega,by omega⟩
    rw[if_pos (by omega),if_pos h,width_eq s p h hs,Qa]
    by_cases w1:wid s p=1
    ·rw[if_pos (by omega),I,Qa];exact H _ _ rfl
    rw[if_neg (by omega)]
    by_cases w2:wid s p=2
    ·rw[if_pos (by omega),A.gd1 V,I,Qa,A.gd1 (by decide),Q,if_pos (by omega),Qa,A.gd1 (by decide)];exact H _ _ rfl
    rw[if_neg (by omega)]
    by_cases w3:wid s p=3
    ·rw[if_pos (by omega),A.gd1 ⟨V,Y⟩,I,Qa,A.gd1 (by decide),Q,if_pos (by omega),Qa,A.gd1 (by decide),W,if_pos (by omega),Qa,A.gd1 (by decide)];exact H _ _ rfl
    rw[if_neg (by omega),if_pos (by omega),A.gd1 ⟨V,Y,r3⟩,I,Qa,A.gd1 (by decide),Q,if_pos (by omega),Qa,A.gd1 (by decide),W,if_pos (by omega),Qa,A.gd1 (by decide),i3,if_pos (by omega),Qa,A.gd1 (by decide)];exact H _ _ rfl
   ·rw[if_neg (by omega),if_neg h];exact⟨_,rfl,rfl⟩
 obtain⟨l,N,O⟩:=loop s.size 0 A.FU [] (by omega) (by have:=Qab;omega) (by simp) (by omega) E
 exact⟨l,N,by simpa using O⟩
theorem single_eq (s:ByteArray)(hs:s.size≤9223372036854775807):F.ec s=some (if cnt s s.size 0=1 then vld s s.size 0 else false):=by
 have loop: ∀(n p f:Nat) (y:Int),s.size-p≤n→n<f→0≤y→y+n≤9223372036854775807→F.b6 s f p y=some (if y+(cnt s n p:Int)=1 then vld s s.size 0 else false):=by
  intro n
  induction n with
  |zero=>
   intro p f y hp E _ _
   obtain⟨f,rfl⟩: ∃f',f=f'+1:=⟨f-1,by omega⟩
   rw[F.b6,if_neg (by omega),F.aJ,Qax,Qa]
   simp only[F.cr]
   have e:y+(cnt s 0 p:Int)=y:=by rw[cnt];omega
   by_cases h:y=1
   ·rw[if_pos h,if_pos (by omega)]
   ·rw[if_neg h,if_neg (by omega)]
  |succ n H=>
   intro p f y hp E I J
   obtain⟨f,rfl⟩: ∃f',f=f'+1:=⟨f-1,by omega⟩
   rw[F.b6,cnt]
   by_cases h:p<s.size
   ·rw[if_pos h,if_pos h,A.gd1 ⟨by omega,by omega⟩]
    have L:=Qhy s p
    rw[H _ f (y+1) (by omega) (by omega) (by omega) (by omega)]
    congr 2
    exact propext ⟨fun h=>by omega,fun h=>by omega⟩
   ·rw[if_neg h,if_neg h,F.aJ,Qax,Qa]
    simp only[F.cr]
    by_cases h:y=1
    ·rw[if_pos h,if_pos (by omega)]
    ·rw[if_neg h,if_neg (by omega)]
 unfold F.ec
 rw[loop s.size 0 A.FU 0 (by omega) (by have:=Qab;omega) (by omega) (by omega)]
 congr 2
 exact propext ⟨fun h=>by omega,fun h=>by omega⟩
theorem one_small {s:ByteArray}(E:cnt s s.size 0=1)(H:vld s s.size 0=true):s.size≤4:=by
 generalize L:s.size=n at E H
 cases n with
 |zero=>omega
 |succ n=>
  rw[cnt,if_pos (by omega)]at E
  rw[vld,if_pos (by omega)]at H
  by_cases I:wid s 0=0
  ·rw[if_pos I]at H;cases H
  rw[wid_dec I]at E
  have:=wid_4 s 0
  cases n with
  |zero=>omega
  |succ n=>
   rw[cnt]at E
   by_cases J:0+wid s 0<s.size
   ·rw[if_pos J]at E;omega
   ·omega
def Qfm (f:Fun):Bool:=if f.1=5 then decide (f.2.2≠ByteArray.mk #[])&&decide ((f.2.2.size:Int)≤16)&&vld f.2.2 f.2.2.size 0 else if f.1=12∨f.1=22 then decide (cnt f.2.2 f.2.2.size 0=1)&&vld f.2.2 f.2.2.size 0 else decide (f.2.2=ByteArray.mk #[])
theorem Qht (f:Fun):F.eb f=some (Qay f):=by
 unfold F.eb F.c5 F.c4 Qay
 simp only[A.ba,decide_eq_true_eq]
 by_cases I:f.1=3
 ·simp[I]
 ·by_cases E:f.1=13
  ·simp[E]
  ·by_cases h6:f.1=6
   ·simp[h6]
   ·by_cases H:f.1=11<;>simp[I,E,h6,H]
theorem Qfj (f:Fun):F.fl f=some (Qay f):=Qht f
theorem text_eq (f:Fun)(hs:f.2.2.size≤9223372036854775807):F.eV f=some (Qfm f):=by
 unfold F.eV Qfm
 simp only[F.dM,F.dN,A.ba,single_eq _ hs,F.aJ,Qax,Qa,decide_eq_true_eq]
 by_cases I:f.1=5
 ·simp only[I,if_true]
  by_cases J:f.2.2=ByteArray.mk #[]<;>by_cases L:(f.2.2.size:Int)≤16<;>simp[J,L]
 ·by_cases E:f.1=12
  ·simp[E]
  ·by_cases H:f.1=22<;>simp[I,E,H]
theorem one_le {s:ByteArray}:(1:Int)≤(s.size:Int)↔s≠ByteArray.mk #[]:=by
 constructor
 ·intro h e;subst e;exact absurd h (by decide)
 ·intro h;have:=Qfl h;omega
theorem Qjg (f:Fun)(hs:f.2.2.size≤5000):F.e1 f=some (Qfm f):=by
 have Q: ∀y,F.dB f y=some (if y=true then decide (cnt f.2.2 f.2.2.size 0=1)&&vld f.2.2 f.2.2.size 0 else decide (f.2.2=ByteArray.mk #[])):=by
  intro y
  unfold F.dB
  simp only[F.d8,Valid_eq _ hs,Qa]
  cases y with
  |false=>simp
  |true=>
   simp only[if_true]
   by_cases N:(f.2.2.size:Int)≤4
   ·rw[if_pos N]
    cases I:vld f.2.2 f.2.2.size 0 with
    |true=>
     obtain⟨l,E,J⟩:=Runes_eq f.2.2 hs I
     rw[if_pos rfl,E,Qa,Yf]
     congr 2
     rw[J];exact propext ⟨fun h=>by omega,fun h=>by omega⟩
    |false=>simp
   ·rw[if_neg N]
    congr 1
    cases I:vld f.2.2 f.2.2.size 0 with
    |false=>simp
    |true=>
     by_cases E:cnt f.2.2 f.2.2.size 0=1
     ·have:=one_small E I;omega
     ·simp[E]
 unfold F.e1 Qfm
 simp only[F.eQ,Q,A.ba,Valid_eq _ hs,Qa,decide_eq_true_eq,one_le]
 by_cases O:f.1=5
 ·simp only[O,if_true]
  by_cases E:f.2.2=ByteArray.mk #[]<;>by_cases J:(f.2.2.size:Int)≤16<;>simp[E,J]
 ·by_cases H:f.1=12
  ·simp[H]
  ·by_cases L:f.1=22<;>simp[O,H,L]
def anyF (f:Fun)(l:List Int):Int:=if l.any (fun y=>decide (y=f.1)&&(Qay f&&Qfm f))=true then 0 else 60
def kinds (k:Int):List Int:=if k=2 then [1,2,3,4,5,6,7,8]else if k=3 then [11,12,13]else if k=4 then [21,22]else if k=8 then [31,32,33,34]else if k=11 then [41,42]else []
def chk (k:Int)(f:Fun):Int:=if kinds k=[]then(if f=(0,0,ByteArray.mk #[])then 0 else 60)else anyF f (kinds k)
theorem chk_l (f:Fun)(hs:f.2.2.size≤9223372036854775807): ∀l,F.bb f l=some (anyF f l)
 | []=>rfl
 |y::l=>by
  have E:=chk_l f hs l
  unfold F.bb
  simp only[F.cT,Qht,text_eq _ hs,Qa,E,anyF,Xu]
  by_cases h:y=f.1
  ·subst h
   cases H:Qay f<;>cases I:Qfm f<;>simp
  ·simp[h]
theorem Qbt (k:Int)(f:Fun)(hs:f.2.2.size≤9223372036854775807):F.cn k f=some (chk k f):=by
 have O:F.bD 1 8=some [1,2,3,4,5,6,7,8]:=by kernel_rfl
 have Q:F.bD 11 13=some [11,12,13]:=by kernel_rfl
 have V:F.bD 21 22=some [21,22]:=by kernel_rfl
 have W:F.bD 31 34=some [31,32,33,34]:=by kernel_rfl
 have u11:F.bD 41 42=some [41,42]:=by kernel_rfl
 unfold F.cn F.fe F.eU chk kinds
 by_cases I:k=2
 ·simp[I,O,chk_l f hs]
 ·by_cases J:k=3
  ·simp[J,Q,chk_l f hs]
  ·by_cases L:k=4
   ·simp[L,V,chk_l f hs]
   ·by_cases N:k=8
    ·simp[N,W,chk_l f hs]
    ·by_cases E:k=11
     ·simp[E,u11,chk_l f hs]
     ·simp only[I,J,L,N,E,if_false,Qa]
      rw[if_pos (by decide),if_pos trivial]
      by_cases H:f=(0,0,ByteArray.mk #[])
      ·rw[if_neg (fun h=>h H),if_pos H]
      ·rw[if_pos H,if_neg H]
theorem R06_l (f:Fun)(hs:f.2.2.size≤5000)(l:List Int)(I:l.length≤100):F.bI f l A.FU 0=some (anyF f l):=
 A.lp0 l (fun n y=>F.bI f l n y) (fun _ t=>some (anyF f t))
  (fun n=>by rw[F.bI,if_neg (by omega)];rfl)
  (fun n k x E hk H=>by
   rw[F.bI,if_pos (by omega),A.ixn E,Qa]
   simp only[F.dU,Qfj,Qjg _ hs,Qa,H,A.gd1 (A.r64n (n:=k) (by omega)),anyF,Xu]
   by_cases h:x=f.1
   ·subst h
    cases J:Qay f<;>cases L:Qfm f<;>simp
   ·simp[h])
  (by have:=Qab;omega)
theorem Qhp (k:Int)(f:Fun)(hs:f.2.2.size≤5000):F.eI k f=some (chk k f):=by
 have O:F.de 2=some [1,2,3,4,5,6,7,8]:=by kernel_rfl
 have Q:F.de 3=some [11,12,13]:=by kernel_rfl
 have V:F.de 4=some [21,22]:=by kernel_rfl
 have W:F.de 8=some [31,32,33,34]:=by kernel_rfl
 have u11:F.de 11=some [41,42]:=by kernel_rfl
 have Y:F.cp 1 0=some []:=by kernel_rfl
 unfold F.eI chk kinds
 by_cases I:k=2
 ·subst I;rw[O,Qa,if_neg (by simp),F.bJ,if_neg (by simp),R06_l f hs _ (by simp)];simp
 ·by_cases J:k=3
  ·subst J;rw[Q,Qa,if_neg (by simp),F.bJ,if_neg (by simp),R06_l f hs _ (by simp)];simp
  ·by_cases L:k=4
   ·subst L;rw[V,Qa,if_neg (by simp),F.bJ,if_neg (by simp),R06_l f hs _ (by simp)];simp
   ·by_cases N:k=8
    ·subst N;rw[W,Qa,if_neg (by simp),F.bJ,if_neg (by simp),R06_l f hs _ (by simp)];simp
    ·by_cases E:k=11
     ·subst E;rw[u11,Qa,if_neg (by simp),F.bJ,if_neg (by simp),R06_l f hs _ (by simp)];simp
     ·have u:F.de k=some []:=by unfold F.de;simp only[I,J,L,N,E,if_false,Y]
      rw[u,Qa,if_pos (by simp),F.bJ,R06_l f hs _ (by simp)]
      simp only[I,J,L,N,E,if_false,if_true,decide_eq_true_eq,anyF,List.any_nil,Qs]
      by_cases H:f=(0,0,ByteArray.mk #[])
      ·rw[if_pos H,if_pos H]
      ·rw[if_neg H,if_neg H]
end Go.Proofs.YtlhiofnikdppeaaGreatDoor
end
section
namespace Go.Utf
open Go.Lib
abbrev Rn:=List UInt8×Int
theorem enc_eq (r:Int):(Utf8.encode r).data.toList=encodeRune r:=by
 unfold Utf8.encode encodeRune
 by_cases L:0≤r∧r≤127
 ·rw[encodeRuneZ_one L.1 L.2]
  have H:Utf8.valid r=true:=by simp[Utf8.valid];omega
  rw[if_pos H]
  have I:r.toNat<128:=by omega
  simp only[I,if_true]
  simp
 by_cases N:128≤r∧r≤2047
 ·rw[encodeRuneZ_two N.1 N.2]
  have H:Utf8.valid r=true:=by simp[Utf8.valid];omega
  rw[if_pos H]
  obtain⟨n,rfl⟩: ∃n:Nat,r=n:=⟨r.toNat,by omega⟩
  have I: ¬(n<128):=by omega
  have E:n<2048:=by omega
  simp only[Qt,I,if_false,E,if_true,Qv,W8]
  have e1:(192+(n:Int) / 64).toNat=192+n / 64:=by omega
  have e2:(128+(n:Int)%64).toNat=128+n%64:=by omega
  rw[e1,e2]
 by_cases Q:(2048≤r∧r<55296)∨(57343<r∧r≤65535)
 ·rw[encodeRuneZ_three Q]
  have H:Utf8.valid r=true:=by simp[Utf8.valid];omega
  rw[if_pos H]
  obtain⟨n,rfl⟩: ∃n:Nat,r=n:=⟨r.toNat,by omega⟩
  have I: ¬(n<128):=by omega
  have E: ¬n<2048:=by omega
  have J:n<65536:=by omega
  simp only[Qt,I,if_false,E,J,if_true,Qv,W8]
  have e1:(224+(n:Int) / 4096).toNat=224+n / 4096:=by omega
  have e2:(128+(n:Int) / 64%64).toNat=128+n / 64%64:=by omega
  have e3:(128+(n:Int)%64).toNat=128+n%64:=by omega
  rw[e1,e2,e3]
 by_cases O:65536≤r∧r≤1114111
 ·rw[encodeRuneZ_four O.1 O.2]
  have H:Utf8.valid r=true:=by simp[Utf8.valid];omega
  rw[if_pos H]
  obtain⟨n,rfl⟩: ∃n:Nat,r=n:=⟨r.toNat,by omega⟩
  have I: ¬(n<128):=by omega
  have E: ¬n<2048:=by omega
  have J: ¬n<65536:=by omega
  simp only[Qt,I,if_false,E,J,Qv,W8]
  have e0:(240+(n:Int) / 262144).toNat=240+n / 262144:=by omega
  have e1:(128+(n:Int) / 4096%64).toNat=128+n / 4096%64:=by omega
  have e2:(128+(n:Int) / 64%64).toNat=128+n / 64%64:=by omega
  have e3:(128+(n:Int)%64).toNat=128+n%64:=by omega
  rw[e0,e1,e2,e3]
 ·rw[encodeRuneZ_bad (by omega)]
  have H: ¬Utf8.valid r=true:=by simp[Utf8.valid];omega
  rw[if_neg H]
  rfl
theorem decN_ext {n n' b0 b1 b2 b3 c1 c2 c3:Nat}{r k:Nat}(h:decodeN n b0 b1 b2 b3=(r,k))(N: ¬(r=65533∧k=1))(V:k≤n')(H:1<k→c1=b1)(J:2<k→c2=b2)(O:3<k→c3=b3):decodeN n' b0 c1 c2 c3=(r,k):=by
 rcases decodeN_shape n b0 b1 b2 b3 with⟨q,e⟩|⟨q1,L,E,qv,e⟩|⟨q1,L,E,I,qv,qs,e⟩|⟨q1,L,E,I,Q,qv,qw,e⟩|e
 ·rw[e]at h;injection h with e1 e2;subst e1;subst e2
  unfold decodeN;rw[if_pos q]
 ·rw[e]at h;injection h with e1 e2;subst e1;subst e2
  obtain rfl:=H (by omega)
  unfold decodeN
  rw[if_neg (by omega),if_pos ⟨q1,by omega,E⟩,if_pos qv]
 ·rw[e]at h;injection h with e1 e2;subst e1;subst e2
  obtain rfl:=H (by omega)
  obtain rfl:=J (by omega)
  unfold decodeN
  rw[if_neg (by omega),if_neg (by omega),if_pos ⟨q1,⟨by omega,E⟩,by omega,I⟩,if_pos ⟨qv,by omega⟩]
 ·rw[e]at h;injection h with e1 e2;subst e1;subst e2
  obtain rfl:=H (by omega)
  obtain rfl:=J (by omega)
  obtain rfl:=O (by omega)
  unfold decodeN
  rw[if_neg (by omega),if_neg (by omega),if_neg (by omega),if_pos ⟨q1,⟨by omega,E⟩,⟨by omega,I⟩,by omega,Q⟩,if_pos ⟨qv,.inr ⟨by omega,qw⟩⟩]
 ·rw[e]at h;injection h with e1 e2;subst e1;subst e2
  exact absurd ⟨rfl,rfl⟩ N
structure Ck (c:Rn):Prop where
 ne:c.1≠[]
 four:c.1.length≤4
 enc:(Utf8.encode c.2).data.toList=c.1
 dec: ∀rest,decodeL (c.1++rest)=(c.2.toNat,c.1.length)
 nn:0≤c.2
 top:c.2≤1114111
 ok: ¬(c.2.toNat=65533∧c.1.length=1)
theorem Qhb (l:List UInt8):(decodeL l).2≤4:=by
 rw[decodeL_N]
 rcases decodeN_shape l.length (l.getD 0 0).toNat (l.getD 1 0).toNat (l.getD 2 0).toNat (l.getD 3 0).toNat with⟨c,e⟩|⟨c1,c2,c3,cv,e⟩|⟨c1,c2,c3,c4,cv,cs,e⟩|⟨c1,c2,c3,c4,c5,cv,cw,e⟩|e
 all_goals (rw[e];simp)
theorem Ck.of {l:List UInt8}(E:l≠[])(H: ¬((decodeL l).1=65533∧(decodeL l).2=1)):Ck (l.take (decodeL l).2,((decodeL l).1:Int)):=by
 have N:=decodeL_width l
 have I:=decodeL_le l E
 have hlen:(l.take (decodeL l).2).length=(decodeL l).2:=by rw[Qz];omega
 refine⟨fun h=>?_,by show(l.take _).length≤4;rw[hlen];exact Qhb l,?_,fun rest=>?_,by simp,?_,?_⟩
 ·have:=congrArg List.length h
  simp only[Qm]at this
  rw[hlen]at this;omega
 ·exact(enc_eq _).trans (encode_decode l E H)
 ·show decodeL (l.take (decodeL l).2++rest)=((((decodeL l).1:Nat):Int).toNat,(l.take (decodeL l).2).length)
  rw[hlen,Qt]
  have e:decodeL l=decodeN l.length (l.getD 0 0).toNat (l.getD 1 0).toNat (l.getD 2 0).toNat (l.getD 3 0).toNat:=decodeL_N l
  obtain⟨r,k,J⟩: ∃r k,decodeL l=(r,k):=⟨_,_,rfl⟩
  rw[J]at H N I hlen ⊢
  rw[J]at e
  simp only at H N I hlen ⊢
  have L: ∀i,i<k→(l.take k++rest).getD i 0=l.getD i 0:=fun i O=>by
   simp only[List.getD]
   rw[Q5 (by rw[hlen];exact O),Wf O]
  rw[decodeL_N,L 0 (by omega)]
  refine decN_ext e.symm H (by rw[Qj,hlen];omega) (fun h=>by rw[L 1 h]) (fun h=>by rw[L 2 h]) (fun h=>by rw[L 3 h])
 ·have:=decodeL_rune l
  show((decodeL l).1:Int)≤1114111
  omega
 ·show ¬((((decodeL l).1:Nat):Int).toNat=65533∧(l.take (decodeL l).2).length=1)
  rw[hlen,Qt];exact H
theorem Ck.len {c:Rn}(h:Ck c):1≤c.1.length:=by
 cases E:c.1 with
 |nil=>exact absurd E h.ne
 |cons a b=>simp
def ckF:Nat→List UInt8→List Rn
 |0,_=>[]
 |n+1,l=>if l=[]then []else(l.take (decodeL l).2,((decodeL l).1:Int))::ckF n (l.drop (decodeL l).2)
def cks (l:List UInt8):List Rn:=ckF l.length l
abbrev flat (cs:List Rn):List UInt8:=cs.flatMap (·.1)
theorem Qaj (c:Rn)(cs:List Rn):flat (c::cs)=c.1++flat cs:=rfl
theorem Qfq: ∀(n:Nat) (l:List UInt8),l.length≤n→flat (ckF n l)=l
 |0,l,h=>by rw[Q6 (Nat.le_zero.1 h)];rfl
 |n+1,l,h=>by
  unfold ckF
  by_cases E:l=[]
  ·rw[if_pos E,E];rfl
  ·rw[if_neg E,Qaj,Qfq n _ (by have:=decodeL_width l;rw[Xm];have:=List.length_pos_iff.2 E;omega)]
   exact Xf _ _
theorem Qhv: ∀(n:Nat) (l:List UInt8),l.length≤n→validGoD n l=true→∀c,c∈ckF n l→Ck c
 |0,l,h,_,c,E=>by cases E
 |n+1,l,h,H,c,E=>by
  unfold ckF at E
  unfold validGoD at H
  by_cases I:l=[]
  ·rw[if_pos I]at E;cases E
  ·rw[if_neg I]at E H
   split at H
   ·cases H
   ·rename_i J
    rcases Qg.1 E with rfl|E
    ·exact Ck.of I J
    ·exact Qhv n _ (by have:=decodeL_width l;rw[Xm];have:=List.length_pos_iff.2 I;omega) H c E
theorem Qgb: ∀(cs:List Rn) (n:Nat),(∀c,c∈cs→Ck c)→(flat cs).length≤n→ckF n (flat cs)=cs∧validGoD n (flat cs)=true
 | [],n,_,_=>by cases n with
  |zero=>exact⟨rfl,rfl⟩
  |succ n=>exact⟨by unfold ckF;rw[if_pos (show flat ([]:List Rn)=[]from rfl)],by unfold validGoD;rw[if_pos (show flat ([]:List Rn)=[]from rfl)]⟩
 |c::cs,n,h,I=>by
  have E:=h c (Qf ..)
  have O:=E.len
  rw[Qaj]at I ⊢
  rw[Qj]at I
  obtain⟨n,rfl⟩: ∃m,n=m+1:=⟨n-1,by omega⟩
  have H:c.1++flat cs≠[]:=fun e=>E.ne (List.append_eq_nil_iff.1 e).1
  obtain⟨J,L⟩:=Qgb cs n (fun x N=>h x (Qb _ N)) (by omega)
  unfold ckF validGoD
  rw[if_neg H,if_neg H,E.dec]
  simp only[Y4,List.drop_left]
  rw[if_neg E.ok,J,Wu E.nn]
  exact⟨rfl,L⟩
theorem cks_flat {cs:List Rn}(h: ∀c,c∈cs→Ck c):cks (flat cs)=cs:=(Qgb cs _ h (Qq _)).1
theorem valid_flat {cs:List Rn}(h: ∀c,c∈cs→Ck c):validD (flat cs)=true:=(Qgb cs _ h (Qq _)).2
theorem valid_cks {l:List UInt8}(h:validD l=true):flat (cks l)=l∧∀c,c∈cks l→Ck c:=⟨Qfq _ _ (Qq _),Qhv _ _ (Qq _) h⟩
theorem Qgy (ns:List Int): ∀s:ByteArray,(ns.foldl (fun r n=>r++Utf8.encode n) s).data.toList=s.data.toList++ns.flatMap fun n=>(Utf8.encode n).data.toList:=by
 induction ns with
 |nil=>intro s;simp
 |cons n ns E=>intro s;rw[X5,E];simp[ByteArray.data_append]
theorem runes_flat {cs:List Rn}(h: ∀c,c∈cs→Ck c):(runesBytes (cs.map (·.2))).data.toList=flat cs:=by
 unfold runesBytes
 rw[Qgy]
 have:ByteArray.empty.data.toList=[]:=rfl
 rw[this,Wo,List.flatMap_map]
 induction cs with
 |nil=>rfl
 |cons c cs E=>
  rw[Y8,Qaj,E fun x H=>h x (Qb _ H),(h c (Qf ..)).enc]
theorem ba_eq {s t:ByteArray}(h:s.data.toList=t.data.toList):s=t:=by
 cases s;cases t;congr;exact Array.toList_inj.1 h
def ats:Int→List Rn→List (Int×Int)
 |_,[]=>[]
 |p,c::cs=>(p,c.2)::ats (p+c.1.length) cs
def bd (n:Nat):Nat→List Rn→Nat
 |p,[]=>p
 |p,c::cs=>if p+c.1.length≤n then bd n (p+c.1.length) cs else p
theorem bd_pre (n:Nat): ∀(cs:List Rn) (p:Nat),p≤n→∃k,bd n p cs=p+(flat (cs.take k)).length∧bd n p cs≤n
 | [],p,h=>⟨0,by simp[bd],by simpa[bd] using h⟩
 |c::cs,p,h=>by
  unfold bd
  split
  ·rename_i hp
   obtain⟨k,E,H⟩:=bd_pre n cs _ hp
   exact⟨k+1,by rw[E,List.take_succ_cons,Qaj,Qj];omega,H⟩
  ·exact⟨0,by simp,h⟩
theorem flat_take (cs:List Rn)(k:Nat):(flat cs).take (flat (cs.take k)).length=flat (cs.take k):=by
 have:flat cs=flat (cs.take k)++flat (cs.drop k):=by rw[←List.flatMap_append,Xf]
 rw[this,Y4]
end Go.Utf
end
section
namespace Go.Proofs.YtlhiofnikdppeaaGreatDoor
open Go.RowKit Go.Graph Go.Utf
theorem drop_ne {s:ByteArray}{p:Nat}(h:p<s.size):s.data.toList.drop p≠[]:=fun e=>by
 have:=congrArg List.length e
 rw[Xm,Qac]at this
 simp only[Qm]at this;omega
theorem drop_nil {s:ByteArray}{p:Nat}(h: ¬p<s.size):s.data.toList.drop p=[]:=Q2 (by rw[Qac];omega)
theorem ck_step {s:ByteArray}{n p:Nat}(h:p<s.size):ckF (n+1) (s.data.toList.drop p)=((s.data.toList.drop p).take (Utf8.decode s p).2,((Utf8.decode s p).1:Int))::ckF n (s.data.toList.drop (p+(Utf8.decode s p).2)):=by
 rw[ckF,if_neg (drop_ne h),Lib.decodeL_drop,Y6]
theorem ck_end {s:ByteArray}{n p:Nat}(h: ¬p<s.size):ckF n (s.data.toList.drop p)=[]:=by
 rw[drop_nil h]
 cases n with
 |zero=>rfl
 |succ n=>rw[ckF,if_pos rfl]
theorem cks_0 (s:ByteArray):cks s.data.toList=ckF s.size (s.data.toList.drop 0):=rfl
theorem dec_fits {s:ByteArray}{p:Nat}(h:p<s.size):1≤(Utf8.decode s p).2∧p+(Utf8.decode s p).2≤s.size:=by
 rw[←Lib.decodeL_drop]
 have H:=Lib.decodeL_width (s.data.toList.drop p)
 have E:=Lib.decodeL_le _ (drop_ne h)
 rw[Xm,Qac]at E
 omega
theorem runes_F (s:ByteArray)(hs:s.size≤1099511627776):F.eo s=some ((cks s.data.toList).map (·.2)):=by
 have loop: ∀(n p f:Nat) (xs:List Int),s.size-p≤n→n<f→xs.length≤p→F.bY s f p xs=some (xs++(ckF n (s.data.toList.drop p)).map (·.2)):=by
  intro n
  induction n with
  |zero=>
   intro p f xs hp E _
   obtain⟨f,rfl⟩: ∃f',f=f'+1:=⟨f-1,by omega⟩
   rw[F.bY,if_neg (by omega),ck_end (by omega)];simp
  |succ n H=>
   intro p f xs hp E I
   obtain⟨f,rfl⟩: ∃f',f=f'+1:=⟨f-1,by omega⟩
   by_cases h:p<s.size
   ·have J:=dec_fits h
    rw[F.bY,if_pos h,A.gd1 (by simp only[Qd,Qm];omega),H _ _ _ (by omega) (by omega) (by simp only[Qj,Qd,Qm];omega),ck_step h]
    simp
   ·rw[F.bY,if_neg h,ck_end h];simp
 have:=loop s.size 0 A.FU [] (by omega) (by have:=Qab;omega) (by simp)
 rw[F.eo,this,cks_0];simp
theorem Qaz (a b:List Rn):flat (a++b)=flat a++flat b:=List.flatMap_append
theorem iter_F (s:ByteArray):F.dr s=some (ats 0 (cks s.data.toList))∨9223372036854775807<s.size:=by
 by_cases hs:s.size≤9223372036854775807
 ·left
  have loop: ∀(n p f:Nat),s.size-p≤n→n<f→F.aG s f p=some (ats p (ckF n (s.data.toList.drop p))):=by
   intro n
   induction n with
   |zero=>
    intro p f hp E
    obtain⟨f,rfl⟩: ∃f',f=f'+1:=⟨f-1,by omega⟩
    rw[F.aG,if_neg (by omega),ck_end (by omega)];rfl
   |succ n H=>
    intro p f hp E
    obtain⟨f,rfl⟩: ∃f',f=f'+1:=⟨f-1,by omega⟩
    by_cases h:p<s.size
    ·have I:=dec_fits h
     rw[F.aG,if_pos h,H _ _ (by omega) (by omega),ck_step h,ats]
     have e2:((s.data.toList.drop p).take (Utf8.decode s p).2).length=(Utf8.decode s p).2:=by
      rw[Qz,Xm,Qac];omega
     rw[e2]
     simp[A.cns]
    ·rw[F.aG,if_neg h,ck_end h];rfl
  exact loop s.size 0 A.FU (by omega) (by have:=Qab;omega)
 ·right;omega
theorem ext_all (s:ByteArray):s.extract 0 s.size=s:=by
 refine ba_eq ?_
 rw[ByteArray.data_extract,Array.toList_extract]
 simp[List.extract_eq_take_drop]
 exact Q3 (Nat.le_of_eq (Qac s))
theorem rcut_l (s:ByteArray)(n:Nat): ∀(cs:List Rn) (p e:Nat),p+(flat cs).length=s.size→e≤s.size→F.bU s n (ats p cs) e=some (s.extract 0 (if p≤n then bd n p cs else e))
 | [],p,e,hp,E=>by
  simp only[List.flatMap_nil,Qm,Nat.add_zero]at hp
  subst hp
  rw[ats,F.bU,bd]
  by_cases h:s.size≤n
  ·rw[if_pos (by omega),if_pos h,ext_all]
  ·rw[if_neg (by omega),if_neg h,A.gd1 ⟨by omega,by omega⟩,Qt]
 |c::cs,p,e,hp,E=>by
  rw[Qaj,Qj]at hp
  rw[ats,F.bU,bd]
  by_cases h:p≤n
  ·rw[if_neg (by simp;omega),if_pos h]
   have e1:(p:Int)+(c.1.length:Int)=((p+c.1.length:Nat):Int):=by omega
   show F.bU s n (ats ((p:Int)+(c.1.length:Int)) cs) (p:Int)=_
   rw[e1]
   exact rcut_l s n cs (p+c.1.length) p (by omega) (by omega)
  ·rw[if_pos (by simp;omega),if_neg h,A.gd1 ⟨by omega,by omega⟩,Qt]
theorem rec_Cut_eq (s:ByteArray)(n:Nat)(hs:s.size≤9223372036854775807):F.eW s n=some (s.extract 0 (bd n 0 (cks s.data.toList))):=by
 rw[F.eW,F.eF,Qa]
 rcases iter_F s with h|h
 ·rw[h,Qa]
  have E:(flat (cks s.data.toList)).length=s.size:=by
   have:flat (cks s.data.toList)=s.data.toList:=Qfq _ _ (Qq _)
   rw[this,Qac]
  have:=rcut_l s n (cks s.data.toList) 0 0 (by omega) (by omega)
  rw[if_pos (Xe _)]at this
  exact this
 ·omega
theorem Reverse_eq (l:List Int)(hl:l.length≤4611686018427387904):F.aL l=some l.reverse:=by
 have loop: ∀(m f:Nat) (X0 M B:List Int),M.length≤m→m<f→X0.length+M.length≤4611686018427387904→F.p f (X0++M++B) (X0.length:Int) ((X0.length:Int)+(M.length:Int)-1)=some (X0++M.reverse++B):=by
  intro m
  induction m with
  |zero=>
   intro f X0 M B N O _
   obtain⟨f,rfl⟩: ∃f',f=f'+1:=⟨f-1,by omega⟩
   obtain rfl:M=[]:=Q6 (by omega)
   rw[F.p,if_neg (by simp only[Qm];omega)];simp
  |succ m Q=>
   intro f X0 M B N O hlen
   obtain⟨f,rfl⟩: ∃f',f=f'+1:=⟨f-1,by omega⟩
   by_cases H:M.length<2
   ·have V:M.reverse=M:=by
     match M,H with
     | [],_=>rfl
     | [x],_=>rfl
    rw[F.p,if_neg (by omega),V]
   ·obtain⟨x,M1,rfl⟩: ∃x M1,M=x::M1:=by
     cases M with
     |nil=>simp at H
     |cons x M1=>exact⟨x,M1,rfl⟩
    obtain⟨M2,y,rfl⟩: ∃M2 y,M1=M2++[y]:=by
     have E:M1≠[]:=fun e=>by subst e;simp at H
     exact⟨M1.dropLast,M1.getLast E,(List.dropLast_concat_getLast E).symm⟩
    simp only[Qd,Qj,Qm]at N hlen H ⊢
    have ei:(X0.length:Int)+((M2.length+(0+1)+1:Nat):Int)-1=((X0.length+M2.length+1:Nat):Int):=by omega
    rw[ei]
    have W:(X0++(x::(M2++[y]))++B)[X0.length+M2.length+1]?=some y:=by
     rw[Qx,Q1 (by omega),show X0.length+M2.length+1-X0.length=M2.length+1 by omega,W5,Wc,Qx,Q1 (Qq _)]
     simp
    have Y:(X0++(x::(M2++[y]))++B)[X0.length]?=some x:=by
     rw[Qx,Q1 (Qq _)];simp
    have I:(X0++(x::(M2++[y]))++B).set X0.length y=X0++(y::(M2++[y]))++B:=by
     rw[Qx,Yj _ _ (Qq _)];simp
    have J:(X0++(y::(M2++[y]))++B)[X0.length+M2.length+1]?=some y:=by
     rw[Qx,Q1 (by omega),show X0.length+M2.length+1-X0.length=M2.length+1 by omega,W5,Wc,Qx,Q1 (Qq _)]
     simp
    have L:(X0++(y::(M2++[y]))++B).set (X0.length+M2.length+1) x=(X0++[y])++M2++([x]++B):=by
     rw[Qx,Yj _ _ (by omega),show X0.length+M2.length+1-X0.length=M2.length+1 by omega,W5,List.set_cons_succ,Qx,Yj _ _ (Qq _)]
     simp
    rw[F.p,if_pos (by omega),A.ixn W,Qa,A.ixn Y,Qa,Qa,Qt,I,A.ixn J,Qa,A.gd1 ⟨⟨by omega,by omega⟩,by omega,by omega⟩,Qt,L]
    have:=Q f (X0++[y]) M2 ([x]++B) (by omega) (by omega) (by simp only[Qj,Qd,Qm];omega)
    simp only[Qj,Qd,Qm]at this
    rw[show((X0.length:Nat):Int)+1=((X0.length+(0+1):Nat):Int) by omega,show((X0.length+M2.length+1:Nat):Int)-1=((X0.length+(0+1):Nat):Int)+(M2.length:Int)-1 by omega,this]
    simp
 have:=loop l.length A.FU [] l [] (Qq _) (by have:=Qab;omega) (by simp;omega)
 rw[F.aL,A.gd1 ⟨by omega,by omega⟩]
 simpa using this
def upB (b:UInt8):UInt8:=if 97≤b.toNat∧b.toNat≤122 then UInt8.ofNat (b.toNat-32)else b
def upper (s:ByteArray):ByteArray:=⟨(s.data.toList.map upB).toArray⟩
theorem up_set {l:List UInt8}{k:Nat}{x:UInt8}(h:l[k]?=some x):((l.take k).map upB++l.drop k).set k (upB x)=(l.take (k+1)).map upB++l.drop (k+1):=by
 have E:=(Qc.1 h).1
 have hk:((l.take k).map upB).length=k:=by rw[Qr,Qz];omega
 rw[Yj _ _ (by omega),hk,Nat.sub_self,A.dropx h,X7,h]
 simp
theorem up_get {l:List UInt8}{k:Nat}{x:UInt8}(h:l[k]?=some x):((l.take k).map upB++l.drop k)[k]?=some x:=by
 have E:=(Qc.1 h).1
 have hk:((l.take k).map upB).length=k:=by rw[Qr,Qz];omega
 rw[Q1 (by omega),hk,Nat.sub_self,A.dropx h];rfl
theorem up_same {l:List UInt8}{k:Nat}{x:UInt8}(h:l[k]?=some x)(E:upB x=x):(l.take k).map upB++l.drop k=(l.take (k+1)).map upB++l.drop (k+1):=by
 rw[←up_set h,E]
 refine(Wx fun i=>?_)
 rw[X6]
 split
 ·rename_i e;subst e
  rw[up_get h]
  split
  ·rfl
  ·rename_i H
   have:=up_get h
   rw[Wk (by omega)]at this;cases this
 ·rfl
theorem b8_up {x:UInt8}(h:97≤x.toNat∧x.toNat≤122):A.b8 ((x.toNat:Int)-32)=upB x:=by
 unfold A.b8 upB
 rw[if_pos h]
 congr 1;omega
theorem wrap8 {x:Int}(E:0≤x)(H:x<256):IntKind.u8.wrap x=x:=by
 simp[IntKind.wrap,IntKind.bits,IntKind.signed];omega
theorem upper_F (s:ByteArray)(hs:s.size≤9223372036854775806):F.ep s=some (upper s):=by
 have:=A.lp s.data.toList (fun f (xs:List UInt8) y=>F.aX s f xs y) (fun _ _ _=>some (upper s)) (fun k xs=>xs=(s.data.toList.take k).map upB++s.data.toList.drop k)
  (fun f xs hp=>by
   show F.aX s (f+1) xs _=_
   rw[F.aX,if_neg (by omega),hp,List.take_length,X2,Q9];rfl)
  (fun f xs k x E hk hp I=>by
   subst hp
   have J:k<s.size:=by rw[←Qac];exact hk
   show F.aX s (f+1) _ _=_
   rw[F.aX,if_pos (by omega),A.ixn (up_get E),Qa]
   simp only[A.ba]
   by_cases h:97≤x.toNat∧x.toNat≤122
   ·rw[if_pos (by simp;omega),Qa,F.cU,A.gd1 ⟨by omega,by omega⟩,wrap8 (by omega) (by omega),show(x.toNat:Int)-97+65=(x.toNat:Int)-32 by omega,b8_up h,Qt,up_set E]
    exact I _ rfl
   ·have H:upB x=x:=by unfold upB;rw[if_neg h]
    rw[if_neg (by simp;omega),F.cU,A.gd1 ⟨by omega,by omega⟩,up_same E H]
    exact I _ rfl)
  (by have:=Qab;rw[Qac];omega) s.data.toList (by simp)
 rw[F.ep];exact this
abbrev pos (cs:List Rn) (k:Nat):Nat:=(flat (cs.take k)).length
theorem pos_le (cs:List Rn){a b:Nat}(h:a≤b):pos cs a≤pos cs b:=by
 have:cs.take b=cs.take a++(cs.take b).drop a:=by
  rw[List.drop_take]
  have:=Xf a (cs.take b)
  rw[Y2,Xr h,List.drop_take]at this
  exact this.symm
 show(flat _).length≤(flat _).length
 rw[this,Qaz,Qj];omega
theorem ext_flat {s:ByteArray}{cs:List Rn}(E:flat cs=s.data.toList)(a b:Nat):(s.extract (pos cs a) (pos cs b)).data.toList=flat ((cs.take b).drop a):=by
 rw[ByteArray.data_extract,Array.toList_extract,List.extract_eq_take_drop,←E]
 by_cases h:a≤b
 ·have e1:cs.take b=cs.take a++(cs.take b).drop a:=by
   have:=Xf a (cs.take b)
   rw[Y2,Xr h]at this
   exact this.symm
  have e2:flat (cs.take b)=flat (cs.take a)++flat ((cs.take b).drop a):=by rw[←Qaz,←e1]
  have e3:flat cs=flat (cs.take a)++(flat ((cs.take b).drop a)++flat (cs.drop b)):=by
   rw[←Qx,←e2,←Qaz,Xf]
  have e4:pos cs b-pos cs a=(flat ((cs.take b).drop a)).length:=by
   show(flat (cs.take b)).length -(flat (cs.take a)).length=_
   rw[e2,Qj];omega
  rw[e3,show pos cs a=(flat (cs.take a)).length from rfl,List.drop_left]
  rw[show(flat (cs.take b)).length -(flat (cs.take a)).length=(flat ((cs.take b).drop a)).length from e4,Y4]
 ·have I:=pos_le cs (show b≤a by omega)
  have H:(cs.take b).drop a=[]:=Q2 (by rw[Qz];omega)
  rw[show pos cs b-pos cs a=0 by omega,H,List.take_zero];rfl
abbrev Rec:=Int×ByteArray
def okT (s:ByteArray):Bool:=decide (s.size≤64)&&vld s s.size 0
theorem Qcx (r:Rec):F.cI r=some (if okT r.2=true then 0 else 50):=by
 rw[F.cI]
 unfold okT
 by_cases h:r.2.size≤64
 ·rw[if_neg (by omega),F.aJ,Qax,Qa,F.cs,decide_eq_true h,Wn]
  cases vld r.2 r.2.size 0<;>rfl
 ·rw[if_pos (by omega),F.cs,if_pos rfl,decide_eq_false h];rfl
theorem Qbk {s:ByteArray}:okT s=true↔s.size≤64∧vld s s.size 0=true:=by unfold okT;simp
theorem Qcr {s:ByteArray}(h:vld s s.size 0=true):flat (cks s.data.toList)=s.data.toList∧∀c,c∈cks s.data.toList→Ck c:=valid_cks (by rw[Qax];exact h)
theorem Qhl {s:ByteArray}{cs:List Rn}(h:s.data.toList=flat cs)(E: ∀c,c∈cs→Ck c):vld s s.size 0=true:=by
 rw[←Qax,h];exact valid_flat E
theorem cks_of {s:ByteArray}{cs:List Rn}(h:s.data.toList=flat cs)(E: ∀c,c∈cs→Ck c):cks s.data.toList=cs:=by rw[h];exact cks_flat E
theorem app_list (s t:ByteArray):(s++t).data.toList=s.data.toList++t.data.toList:=by rw[ByteArray.data_append,Array.toList_append]
theorem vld_app {s t:ByteArray}(hs:vld s s.size 0=true)(H:vld t t.size 0=true):vld (s++t) (s++t).size 0=true∧cks (s++t).data.toList=cks s.data.toList++cks t.data.toList:=by
 obtain⟨I,J⟩:=Qcr hs
 obtain⟨L,N⟩:=Qcr H
 have e:(s++t).data.toList=flat (cks s.data.toList++cks t.data.toList):=by rw[Qaz,I,L,app_list]
 have E: ∀c,c∈cks s.data.toList++cks t.data.toList→Ck c:=fun c E=>(Qu.1 E).elim (J c) (N c)
 exact⟨Qhl e E,cks_of e E⟩
theorem cks_len (s:ByteArray):(cks s.data.toList).length≤s.size:=by
 have: ∀(n:Nat) (l:List UInt8),(ckF n l).length≤n:=by
  intro n
  induction n with
  |zero=>intro l;simp[ckF]
  |succ n E=>intro l;unfold ckF;split<;>simp;exact E _
 exact this _ _
def mapK (f:Fun)(r:Rec):Rec:=
 if f.1=2 then(r.1,upper r.2)else if f.1=3 then(r.1,⟨(flat ((cks r.2.data.toList).take f.2.1.toNat)).toArray⟩)else if f.1=4 then(r.1,⟨(flat (cks r.2.data.toList).reverse).toArray⟩)
 else if f.1=5 then(r.1,(r.2++f.2.2).extract 0 (bd 64 0 (cks (r.2++f.2.2).data.toList)))else if f.1=6 then(Int.tmod (Int.tmod r.1 f.2.1+f.2.1) f.2.1,r.2)
 else if f.1=7 then(((cks r.2.data.toList).length:Int),r.2)else if f.1=8 then((((cks r.2.data.toList).map (·.2))[0]?).getD 0,r.2)else r
def mapP (f:Fun)(r:Rec):Rec×Int:=if chk 2 f≠0 then((0,ByteArray.mk #[]),chk 2 f)else if okT r.2=true then(mapK f r,0)else((0,ByteArray.mk #[]),50)
theorem Qib {f:Fun}(h:chk 2 f=0):(1≤f.1∧f.1≤8)∧Qay f=true∧Qfm f=true:=by
 have hk:chk 2 f=anyF f [1,2,3,4,5,6,7,8]:=rfl
 rw[hk]at h
 unfold anyF at h
 split at h
 ·rename_i E
  rw[Yt]at E
  obtain⟨y,I,H⟩:=E
  simp only[Qk,decide_eq_true_eq]at H
  obtain⟨rfl,J,L⟩:=H
  refine⟨?_,J,L⟩
  simp only[Qg,Ja,or_false]at I
  omega
 ·cases h
theorem num_cut {f:Fun}(h:chk 2 f=0)(E:f.1=3):0≤f.2.1∧f.2.1≤64:=by
 have:=(Qib h).2.1
 unfold Qay at this
 rw[if_pos (.inl E)]at this
 simpa using this
theorem num_mod {f:Fun}(h:chk 2 f=0)(E:f.1=6):1≤f.2.1∧f.2.1≤1048576:=by
 have:=(Qib h).2.1
 unfold Qay at this
 rw[if_neg (by omega),if_pos (.inl E)]at this
 simpa using this
theorem Qez {f:Fun}(h:chk 2 f=0)(E:f.1=5):f.2.2.size≤16∧vld f.2.2 f.2.2.size 0=true:=by
 have:=(Qib h).2.2
 unfold Qfm at this
 rw[if_pos E]at this
 simp only[Qk,decide_eq_true_eq]at this
 exact⟨by omega,this.2⟩
theorem runes_mk {cs:List Rn}(h: ∀c,c∈cs→Ck c):runesBytes (cs.map (·.2))=⟨(flat cs).toArray⟩:=ba_eq (by rw[runes_flat h])
theorem Qdo (l:List UInt8):(ByteArray.mk l.toArray).size=l.length:=by show l.toArray.size=_;simp
theorem flat_sub {cs:List Rn}(k:Nat):(flat (cs.take k)).length≤(flat cs).length:=by
 have:=congrArg List.length (flat_take cs k)
 rw[Qz]at this;omega
theorem flat_rev (cs:List Rn):(flat cs.reverse).length=(flat cs).length:=by
 show(cs.reverse.flatMap (·.1)).length=(cs.flatMap (·.1)).length
 simp only[List.length_flatMap]
 rw[List.map_reverse,List.sum_reverse]
theorem rest_eq {n b:Int}(H:1≤b)(I:b≤1048576):F.eX n b=some (Int.tmod (Int.tmod n b+b) b):=by
 have E:Int.tmod n b<b:=Yy n (by omega)
 have J: -b<Int.tmod n b:=by
  have:=Yy (-n) (show 0<b by omega)
  rw[Int.neg_tmod]at this;omega
 rw[F.eX,A.gd1 (by omega)]
 by_cases h:Int.tmod n b<0
 ·rw[if_pos h,A.gd1 ⟨by omega,by omega⟩,F.ds,Int.tmod_eq_of_lt (a:=Int.tmod n b+b) (by omega) (by omega)]
 ·rw[if_neg h,F.ds]
  congr 1
  rw[Int.tmod_eq_emod_of_nonneg (a:=Int.tmod n b+b) (by omega),Int.add_emod_right,Int.emod_eq_of_lt (by omega) E]
theorem Qgx {cs:List Rn}(h: ∀c,c∈cs→Ck c){x:Int}(E:(cs.map (·.2))[0]?=some x):0≤x∧x≤1114111:=by
 rw[Qp,X1]at E
 obtain⟨c,H,rfl⟩:=E
 have:=h c (Qh H)
 exact⟨this.nn,this.top⟩
theorem fn_both_eq (f:Fun)(r:Rec)(hs:f.2.2.size≤9223372036854775807):F.em 2 f r=some (if chk 2 f≠0 then chk 2 f else if okT r.2=true then 0 else 50):=by
 rw[F.em]
 show(F.cn 2 f).bind _=_
 rw[Qbt 2 f hs,Qa]
 by_cases h:chk 2 f=0
 ·rw[if_neg (fun E=>E h),if_neg (fun E=>E h)]
  show(F.cI r).bind _=_
  rw[Qcx];rfl
 ·rw[if_pos h,if_pos h]
theorem fn_Map_eq (f:Fun)(r:Rec)(hs:f.2.2.size≤9223372036854775807):F.eY f r=some (mapP f r):=by
 rw[F.eY]
 show(F.em 2 f r).bind _=_
 rw[fn_both_eq f r hs,Qa]
 unfold mapP
 by_cases h:chk 2 f=0
 case neg=>rw[show(if chk 2 f≠0 then chk 2 f else if okT r.2=true then 0 else 50)=chk 2 f from if_pos h,if_pos h,if_pos h]
 rw[show(if chk 2 f≠0 then chk 2 f else if okT r.2=true then 0 else 50)=if okT r.2=true then 0 else 50 from if_neg (fun H=>H h),if_neg (show ¬(chk 2 f≠0)from fun H=>H h)]
 by_cases I:okT r.2=true
 case neg=>rw[show(if okT r.2=true then(0:Int)else 50)=50 from if_neg I,if_neg I];rfl
 rw[show(if okT r.2=true then(0:Int)else 50)=0 from if_pos I,if_pos I,if_neg (show ¬((0:Int)≠0)from fun H=>H rfl)]
 obtain⟨Q,V⟩:=Qbk.1 I
 obtain⟨W,L⟩:=Qcr V
 have Y:(flat (cks r.2.data.toList)).length=r.2.size:=by rw[W,Qac]
 have hcl:=cks_len r.2
 rw[runes_F _ (by omega),Qa]
 unfold mapK
 by_cases e2:f.1=2
 ·rw[if_pos e2,if_pos e2,upper_F _ (by omega)];rfl
 rw[if_neg e2,if_neg e2]
 by_cases e3:f.1=3
 ·obtain⟨N,O⟩:=num_cut h e3
  have e:List.take (min (((cks r.2.data.toList).map (·.2)).length:Int) f.2.1).toNat ((cks r.2.data.toList).map (·.2))=((cks r.2.data.toList).take f.2.1.toNat).map (·.2):=by
   rw[List.map_take,Qr]
   by_cases hm:((cks r.2.data.toList).length:Int)≤f.2.1
   ·rw[Int.min_eq_left hm,Qt,Q3 (by rw[Qr];omega),Q3 (by rw[Qr];omega)]
   ·rw[Int.min_eq_right (by omega)]
  have hsub:=flat_sub (cs:=cks r.2.data.toList) f.2.1.toNat
  rw[if_pos e3,if_pos e3,A.gd1 ⟨by omega,by rw[Qr];omega⟩,e,runes_mk fun c E=>L c (Xw E),A.gd1 (by rw[Qdo];omega)]
  rfl
 rw[if_neg e3,if_neg e3]
 by_cases e4:f.1=4
 ·have hr:=flat_rev (cks r.2.data.toList)
  rw[if_pos e4,if_pos e4,Reverse_eq _ (by rw[Qr];omega),Qa,←List.map_reverse,runes_mk fun c E=>L c (List.mem_reverse.1 E),A.gd1 (by rw[Qdo];omega)]
  rfl
 rw[if_neg e4,if_neg e4]
 by_cases e5:f.1=5
 ·obtain⟨N,O⟩:=Qez h e5
  have:=rec_Cut_eq (r.2++f.2.2) 64 (by rw[ByteArray.size_append];omega)
  rw[if_pos e5,if_pos e5,A.gd1 (by omega),show(64:Int)=((64:Nat):Int)from rfl,this]
  rfl
 rw[if_neg e5,if_neg e5]
 by_cases e6:f.1=6
 ·obtain⟨N,O⟩:=num_mod h e6
  rw[if_pos e6,if_pos e6,rest_eq N O];rfl
 rw[if_neg e6,if_neg e6]
 by_cases e7:f.1=7
 ·rw[if_pos e7,if_pos e7,Qr];rfl
 rw[if_neg e7,if_neg e7]
 by_cases e8:f.1=8
 ·rw[if_pos e8,if_pos e8]
  cases J:((cks r.2.data.toList).map (·.2))[0]? with
  |none=>
   have:((cks r.2.data.toList).map (·.2)).length=0:=by
    have:=Yv.1 J;omega
   rw[if_neg (by omega)];rfl
  |some x=>
   have hlt:=(Qc.1 J).1
   have hr:=Qgx L J
   rw[if_pos (by omega),show A.ix ((cks r.2.data.toList).map (·.2)) 0=some x from A.ixn (k:=0) J,Qa,A.gd1 ⟨by omega,by omega⟩];rfl
 rw[if_neg e8,if_neg e8];rfl
theorem Ck.one {b:UInt8}(h:b.toNat<128):Ck ([b],(b.toNat:Int)):=by
 have E:Lib.decodeL [b]=(b.toNat,1):=by
  rw[Lib.decodeL_N]
  unfold Lib.decodeN
  rw[if_pos (by simpa using h)];rfl
 have:=Ck.of (l:=[b]) (by simp) (by rw[E];intro H;have:=H.1;simp only at this;omega)
 rw[E]at this
 exact this
theorem Ck.kinds {c:Rn}(h:Ck c):(∃b:UInt8,b.toNat<128∧c=([b],(b.toNat:Int)))∨∀b,b∈c.1→128≤b.toNat:=by
 have H:=h.dec []
 rw[Q9]at H
 have N:=h.ok
 have hlen:=h.len
 rw[Lib.decodeL_N]at H
 have k0:=(c.1.getD 0 0).toNat_lt
 rcases Lib.decodeN_shape c.1.length (c.1.getD 0 0).toNat (c.1.getD 1 0).toNat (c.1.getD 2 0).toNat (c.1.getD 3 0).toNat with⟨q,e⟩|⟨c1,c2,c3,cv,e⟩|⟨c1,c2,c3,c4,cv,cs,e⟩|⟨c1,c2,c3,c4,c5,cv,cw,e⟩|e
 ·left
  rw[e]at H
  injection H with J L
  have E:=Lib.takeA c.1 (by omega)
  rw[Q3 (by omega)]at E
  refine⟨c.1.getD 0 0,q,?_⟩
  have O:=h.nn
  refine Prod.ext E ?_
  show c.2=_
  rw[J];omega
 ·right
  rw[e]at H
  injection H with J L
  have E:=Lib.takeB c.1 (by omega)
  rw[Q3 (by omega)]at E
  intro b I
  rw[E]at I
  simp only[Qg,Ja,or_false]at I
  rcases I with rfl|rfl<;>omega
 ·right
  rw[e]at H
  injection H with J L
  have E:=Lib.takeC c.1 (by omega)
  rw[Q3 (by omega)]at E
  intro b I
  rw[E]at I
  simp only[Qg,Ja,or_false]at I
  rcases I with rfl|rfl|rfl<;>omega
 ·right
  rw[e]at H
  injection H with J L
  have E:=Lib.takeD c.1 (by omega)
  rw[Q3 (by omega)]at E
  intro b I
  rw[E]at I
  simp only[Qg,Ja,or_false]at I
  rcases I with rfl|rfl|rfl|rfl<;>omega
 ·rw[e]at H
  injection H with J L
  exact absurd ⟨J.symm,L.symm⟩ N
theorem upB_lt {b:UInt8}(h:b.toNat<128):(upB b).toNat <128:=by
 unfold upB
 split
 ·rename_i E
  have e:(UInt8.ofNat (b.toNat-32)).toNat=b.toNat-32:=by
   rw[UInt8.toNat_ofNat'];omega
  rw[e];omega
 ·exact h
theorem upB_ge {b:UInt8}(h:128≤b.toNat):upB b=b:=by unfold upB;rw[if_neg (by omega)]
theorem up_ck {cs:List Rn}(h: ∀c,c∈cs→Ck c): ∃cs',(∀c,c∈cs'→Ck c)∧flat cs'=(flat cs).map upB:=by
 induction cs with
 |nil=>exact⟨[],by simp,rfl⟩
 |cons c cs O=>
  obtain⟨cs',J,L⟩:=O fun x E=>h x (Qb _ E)
  have N:=h c (Qf ..)
  rcases Ck.kinds N with⟨b,H,rfl⟩|H
  ·exact⟨([upB b],((upB b).toNat:Int))::cs',fun x E=>(Qg.1 E).elim (fun e=>e▸Ck.one (upB_lt H)) (J x),by rw[Qaj,Qaj,L];simp⟩
  ·refine⟨c::cs',fun x E=>(Qg.1 E).elim (fun e=>e▸N) (J x),?_⟩
   rw[Qaj,Qaj,L,Xb]
   congr 1
   refine((List.map_congr_left fun b I=>upB_ge (H b I)).trans ?_).symm
   simp
theorem o_bO {f:Fun}{r:Rec}(h:chk 2 f=0)(H:okT r.2=true):okT (mapK f r).2=true:=by
 obtain⟨I,L⟩:=Qbk.1 H
 obtain⟨N,J⟩:=Qcr L
 have Q:(flat (cks r.2.data.toList)).length=r.2.size:=by rw[N,Qac]
 unfold mapK
 by_cases e2:f.1=2
 ·rw[if_pos e2]
  obtain⟨cs',V,O⟩:=up_ck J
  rw[N]at O
  refine Qbk.2 ⟨?_,Qhl (cs:=cs') (by rw[O];rfl) V⟩
  show(upper r.2).size≤64
  unfold upper
  rw[Qdo,Qr,Qac];exact I
 rw[if_neg e2]
 by_cases e3:f.1=3
 ·rw[if_pos e3]
  have hsub:=flat_sub (cs:=cks r.2.data.toList) f.2.1.toNat
  exact Qbk.2 ⟨by show(ByteArray.mk _).size≤64;rw[Qdo];omega,Qhl (cs:=(cks r.2.data.toList).take f.2.1.toNat) rfl fun c E=>J c (Xw E)⟩
 rw[if_neg e3]
 by_cases e4:f.1=4
 ·rw[if_pos e4]
  have hr:=flat_rev (cks r.2.data.toList)
  exact Qbk.2 ⟨by show(ByteArray.mk _).size≤64;rw[Qdo];omega,Qhl (cs:=(cks r.2.data.toList).reverse) rfl fun c E=>J c (List.mem_reverse.1 E)⟩
 rw[if_neg e4]
 by_cases e5:f.1=5
 ·rw[if_pos e5]
  obtain⟨n1,W⟩:=Qez h e5
  obtain⟨Y,v2⟩:=vld_app L W
  obtain⟨g1,g2⟩:=Qcr Y
  obtain⟨k,b1,b2⟩:=bd_pre 64 (cks (r.2++f.2.2).data.toList) 0 (Xe _)
  have e:((r.2++f.2.2).extract 0 (bd 64 0 (cks (r.2++f.2.2).data.toList))).data.toList=flat ((cks (r.2++f.2.2).data.toList).take k):=by
   have:=ext_flat g1 0 k
   rw[Wq]at this
   rw[b1,Ws]
   exact this
  refine Qbk.2 ⟨?_,Qhl e fun c E=>g2 c (Xw E)⟩
  show((r.2++f.2.2).extract 0 _).size≤64
  rw[ByteArray.size_extract];omega
 rw[if_neg e5]
 by_cases e6:f.1=6
 ·rw[if_pos e6];exact H
 rw[if_neg e6]
 by_cases e7:f.1=7
 ·rw[if_pos e7];exact H
 rw[if_neg e7]
 by_cases e8:f.1=8
 ·rw[if_pos e8];exact H
 rw[if_neg e8];exact H
end Go.Proofs.YtlhiofnikdppeaaGreatDoor
end
section
namespace Go.Ent
open Go.Utf
abbrev En:=Int×Int×ByteArray×Int
abbrev Ky:=Int×Int×ByteArray
abbrev key (e:En):Ky:=(e.1,e.2.1,e.2.2.1)
abbrev num (e:En):Int:=e.2.2.2
theorem bL_irr: ∀a:List UInt8,Op.bytesLess a a=false
 | []=>rfl
 |x::a=>by unfold Op.bytesLess;rw[bL_irr a];simp
theorem bL_tr: ∀{a b c:List UInt8},Op.bytesLess a b=true→Op.bytesLess b c=true→Op.bytesLess a c=true
 |_,_,[],_,h=>by cases h':(‹List UInt8›)<;>simp_all [Op.bytesLess]
 |_,[],_::_,h,_=>by simp_all [Op.bytesLess]
 | [],_::_,_::_,_,_=>rfl
 |x::a,y::b,z::c,H,E=>by
  unfold Op.bytesLess at H E ⊢
  simp only[Xx,Qk,decide_eq_true_eq,beq_iff_eq]at H E ⊢
  rcases H with H|⟨rfl,H⟩
  ·rcases E with E|⟨rfl,E⟩
   ·exact .inl (UInt8.lt_trans H E)
   ·exact .inl H
  ·rcases E with E|⟨rfl,E⟩
   ·exact .inl E
   ·exact .inr ⟨rfl,bL_tr H E⟩
theorem bL_tri: ∀{a b:List UInt8},Op.bytesLess a b=false→Op.bytesLess b a=false→a=b
 | [],[],_,_=>rfl
 | [],_::_,h,_=>by simp[Op.bytesLess]at h
 |_::_,[],_,h=>by simp[Op.bytesLess]at h
 |x::a,y::b,E,H=>by
  unfold Op.bytesLess at E H
  simp only[Bool.or_eq_false_iff,decide_eq_false_iff_not,Yi]at E H
  have e:x=y:=UInt8.le_antisymm (UInt8.not_lt.1 H.1) (UInt8.not_lt.1 E.1)
  subst e
  have I:Op.bytesLess a b=false:=by rcases E.2 with h|h;simp at h;exact h
  have J:Op.bytesLess b a=false:=by rcases H.2 with h|h;simp at h;exact h
  rw[bL_tri I J]
def bl (s t:ByteArray):Bool:=Op.bytesLess s.toList t.toList
theorem bl_irr (s:ByteArray):bl s s=false:=bL_irr _
theorem bl_tr {s t u:ByteArray}(E:bl s t=true)(H:bl t u=true):bl s u=true:=bL_tr E H
theorem bl_tri {s t:ByteArray}(E:bl s t=false)(H:bl t s=false):s=t:=by
 have:=bL_tri E H
 rw[Lib.toList_data,Lib.toList_data]at this
 exact ba_eq this
def rl (a b:Int×ByteArray):Bool:=decide (a.1<b.1)||(decide (a.1=b.1)&&bl a.2 b.2)
theorem rl_irr (a:Int×ByteArray):rl a a=false:=by unfold rl;rw[bl_irr];simp
theorem rl_tr {a b c:Int×ByteArray}(H:rl a b=true)(E:rl b c=true):rl a c=true:=by
 unfold rl at H E ⊢
 simp only[Xx,Qk,decide_eq_true_eq]at H E ⊢
 rcases H with H|⟨H,h1'⟩
 ·rcases E with E|⟨E,h2'⟩
  ·left;omega
  ·left;omega
 ·rcases E with E|⟨E,h2'⟩
  ·left;omega
  ·exact .inr ⟨H.trans E,bl_tr h1' h2'⟩
theorem rl_tri {a b:Int×ByteArray}(E:rl a b=false)(H:rl b a=false):a=b:=by
 unfold rl at E H
 simp only[Bool.or_eq_false_iff,decide_eq_false_iff_not,Yi]at E H
 have e:a.1=b.1:=by omega
 have I:bl a.2 b.2=false:=by rcases E.2 with h|h;exact absurd e h;exact h
 have J:bl b.2 a.2=false:=by rcases H.2 with h|h;exact absurd e.symm h;exact h
 exact Prod.ext e (bl_tri I J)
def kl (a b:Ky):Bool:=decide (a.1<b.1)||(decide (a.1=b.1)&&rl a.2 b.2)
theorem kl_irr (a:Ky):kl a a=false:=by unfold kl;rw[rl_irr];simp
theorem kl_tr {a b c:Ky}(H:kl a b=true)(E:kl b c=true):kl a c=true:=by
 unfold kl at H E ⊢
 simp only[Xx,Qk,decide_eq_true_eq]at H E ⊢
 rcases H with H|⟨H,h1'⟩
 ·rcases E with E|⟨E,h2'⟩
  ·left;omega
  ·left;omega
 ·rcases E with E|⟨E,h2'⟩
  ·left;omega
  ·exact .inr ⟨H.trans E,rl_tr h1' h2'⟩
theorem kl_tri {a b:Ky}(E:kl a b=false)(H:kl b a=false):a=b:=by
 unfold kl at E H
 simp only[Bool.or_eq_false_iff,decide_eq_false_iff_not,Yi]at E H
 have e:a.1=b.1:=by omega
 have I:rl a.2 b.2=false:=by rcases E.2 with h|h;exact absurd e h;exact h
 have J:rl b.2 a.2=false:=by rcases H.2 with h|h;exact absurd e.symm h;exact h
 exact Prod.ext e (rl_tri I J)
theorem kl_ne {a b:Ky}(h:kl a b=true):a≠b:=fun e=>by subst e;rw[kl_irr]at h;cases h
theorem kl_asy {a b:Ky}(h:kl a b=true):kl b a=false:=by
 cases E:kl b a with
 |false=>rfl
 |true=>have:=kl_tr h E;rw[kl_irr]at this;cases this
abbrev Srt (l:List En):Prop:=l.Pairwise fun a b=>kl (key a) (key b)=true
def gv:List En→Ky→Int
 | [],_=>0
 |e::l,k=>if key e=k then num e else gv l k
theorem gv_none: ∀{l:List En} {k:Ky},(∀e,e∈l→key e≠k)→gv l k=0
 | [],_,_=>rfl
 |e::l,k,h=>by unfold gv;rw[if_neg (h e (Qf ..))];exact gv_none fun x E=>h x (Qb _ E)
theorem gv_mem: ∀{l:List En} {e:En},Srt l→e∈l→gv l (key e)=num e
 |x::l,e,h,E=>by
  unfold gv
  rcases Qg.1 E with rfl|E
  ·rw[if_pos rfl]
  ·rw[if_neg (kl_ne ((Qo.1 h).1 e E))];exact gv_mem (Qo.1 h).2 E
theorem gv_at {l:List En}{k:Ky}(h:gv l k≠0): ∃e,e∈l∧key e=k∧num e=gv l k:=by
 induction l with
 |nil=>exact absurd rfl h
 |cons x l H=>
  unfold gv at h ⊢
  by_cases E:key x=k
  ·rw[if_pos E];exact⟨x,Qf ..,E,rfl⟩
  ·rw[if_neg E]at h ⊢
   obtain⟨e,I,J⟩:=H h
   exact⟨e,Qb _ I,J⟩
theorem en_ext {a b:En}(h:key a=key b)(E:num a=num b):a=b:=by
 obtain⟨a1,a2,a3,a4⟩:=a
 obtain⟨b1,b2,b3,b4⟩:=b
 simp only[key,num,Ye]at h E
 obtain⟨rfl,rfl,rfl⟩:=h
 subst E;rfl
theorem srt_ext: ∀{l m:List En},Srt l→Srt m→(∀e,e∈l↔e∈m)→l=m
 | [],[],_,_,_=>rfl
 | [],y::m,_,_,h=>by have:=(h y).2 (Qf ..);cases this
 |x::l,[],_,_,h=>by have:=(h x).1 (Qf ..);cases this
 |x::l,y::m,H,I,h=>by
  have e:x=y:=by
   rcases Qg.1 ((h x).1 (Qf ..))with e|N
   ·exact e
   ·rcases Qg.1 ((h y).2 (Qf ..))with e|O
    ·exact e.symm
    ·have Q:=(Qo.1 I).1 x N
     have L:=(Qo.1 H).1 y O
     rw[kl_asy Q]at L;cases L
  subst e
  congr 1
  refine srt_ext (Qo.1 H).2 (Qo.1 I).2 fun e=>?_
  have nl: ∀z,z∈l→z≠x:=fun z J e=>by subst e;have:=(Qo.1 H).1 z J;rw[kl_irr]at this;cases this
  have nm: ∀z,z∈m→z≠x:=fun z J e=>by subst e;have:=(Qo.1 I).1 z J;rw[kl_irr]at this;cases this
  exact⟨fun E=>((Qg.1 ((h e).1 (Qb _ E))).resolve_left (nl e E)),fun E=>((Qg.1 ((h e).2 (Qb _ E))).resolve_left (nm e E))⟩
structure Nf (l:List En):Prop where
 srt:Srt l
 nz: ∀e,e∈l→num e≠0
theorem nf_mem {l m:List En}(H:Nf l)(O:Nf m)(h: ∀k,gv l k=gv m k){e:En}(I:e∈l):e∈m:=by
 have E:=gv_mem H.srt I
 rw[h]at E
 obtain⟨e',L,N,J⟩:=gv_at (l:=m) (k:=key e) (by rw[E];exact H.nz e I)
 rw[E]at J
 rw[←en_ext N J];exact L
theorem nf_ext {l m:List En}(E:Nf l)(H:Nf m)(h: ∀k,gv l k=gv m k):l=m:=
 srt_ext E.srt H.srt fun e=>⟨nf_mem E H h,nf_mem H E fun k=>(h k).symm⟩
def upd (x e:En)(one:Bool):En:=(x.1,x.2.1,x.2.2.1,if one=true then 1 else min (num x+num e) 1099511627776)
def insP (e:En)(one:Bool):List En→List En
 | []=>[e]
 |x::l=>if key x=key e then upd x e one::l else if kl (key e) (key x)=true then e::x::l else x::insP e one l
def putP (e:En)(one:Bool)(l:List En):List En:=if num e=0 then l else insP e one l
abbrev cap (one:Bool):Int:=if one=true then 1 else 1099511627776
structure Bd (one:Bool) (l:List En):Prop where
 srt:Srt l
 b: ∀e,e∈l→1≤num e∧num e≤cap one
theorem Bd.nf {one:Bool}{l:List En}(h:Bd one l):Nf l:=⟨h.srt,fun e E=>by have:=(h.b e E).1;omega⟩
theorem Bd.gv {one:Bool}{l:List En}(h:Bd one l)(k:Ky):0≤gv l k∧gv l k≤cap one:=by
 by_cases E:Ent.gv l k=0
 ·rw[E];cases one<;>decide
 ·obtain⟨e,H,_,I⟩:=gv_at E
  have:=h.b e H
  rw[I]at this
  exact⟨by omega,this.2⟩
theorem Qgf {e:En}{one:Bool}: ∀{l:List En} {x:En},x∈insP e one l→x=e∨x∈l∨∃y,y∈l∧key y=key e∧x=upd y e one
 | [],x,h=>by simp only[insP,Qi]at h;exact .inl h
 |y::l,x,h=>by
  unfold insP at h
  split at h
  ·rename_i hk
   rcases Qg.1 h with rfl|h
   ·exact .inr (.inr ⟨y,Qf ..,hk,rfl⟩)
   ·exact .inr (.inl (Qb _ h))
  ·split at h
   ·rcases Qg.1 h with rfl|h
    ·exact .inl rfl
    ·exact .inr (.inl h)
   ·rcases Qg.1 h with rfl|h
    ·exact .inr (.inl (Qf ..))
    ·rcases Qgf h with E|E|⟨z,E,H⟩
     ·exact .inl E
     ·exact .inr (.inl (Qb _ E))
     ·exact .inr (.inr ⟨z,Qb _ E,H⟩)
theorem insP_key {e:En}{one:Bool}{l:List En}{x:En}(h:x∈insP e one l):key x=key e∨∃y,y∈l∧key x=key y:=by
 rcases Qgf h with rfl|h|⟨y,E,H,rfl⟩
 ·exact .inl rfl
 ·exact .inr ⟨x,h,rfl⟩
 ·exact .inr ⟨y,E,rfl⟩
theorem insP_srt {e:En}{one:Bool}: ∀{l:List En},Srt l→Srt (insP e one l)
 | [],_=>by simp[insP]
 |x::l,h=>by
  obtain⟨J,N⟩:=Qo.1 h
  unfold insP
  split
  ·rename_i hk
   exact Qo.2 ⟨fun y H=>J y H,N⟩
  ·rename_i hk
   split
   ·rename_i E
    exact Qo.2 ⟨fun y H=>(Qg.1 H).elim (fun e=>e▸E) fun H=>kl_tr E (J y H),h⟩
   ·rename_i E
    refine Qo.2 ⟨fun y H=>?_,insP_srt N⟩
    rcases insP_key H with I|⟨z,O,I⟩
    ·rw[I]
     cases L:kl (key x) (key e)with
     |true=>rfl
     |false=>exact absurd (kl_tri L (by simpa using E)) hk
    ·rw[I];exact J z O
theorem insP_gv {e:En}{one:Bool}{k:Ky}: ∀{l:List En},Bd one l→1≤num e→num e≤cap one→gv (insP e one l) k=if k=key e then min (cap one) (gv l k+num e)else gv l k
 | [],_,L,J=>by
  unfold insP gv gv
  by_cases hk:k=key e
  ·rw[if_pos hk.symm,if_pos hk];omega
  ·rw[if_neg (fun h=>hk h.symm),if_neg hk]
 |x::l,h,L,J=>by
  obtain⟨O,Q⟩:=Qo.1 h.srt
  have V:Bd one l:=⟨Q,fun y H=>h.b y (Qb _ H)⟩
  have N:=h.b x (Qf ..)
  unfold insP
  split
  ·rename_i E
   unfold gv
   by_cases hk:k=key e
   ·rw[if_pos (show key (upd x e one)=k from E.trans hk.symm),if_pos hk,if_pos (E.trans hk.symm)]
    unfold num at L J N
    unfold upd num
    cases one with
    |true=>simp only[if_true];simp only[cap,if_true]at J N ⊢;omega
    |false=>simp only[Qs,if_false];simp only[cap,Qs,if_false];omega
   ·rw[if_neg (show key (upd x e one)≠k from fun h=>hk (h.symm.trans E)),if_neg hk,if_neg (fun h=>hk (h.symm.trans E))]
  ·rename_i E
   split
   ·rename_i I
    by_cases hk:k=key e
    ·have W:gv (x::l) k=0:=gv_none fun y H Y=>by
      have:kl (key e) (key y)=true:=(Qg.1 H).elim (fun e=>e▸I) fun H=>kl_tr I (O y H)
      exact kl_ne this (Y.trans hk).symm
     rw[if_pos hk,W]
     conv=>lhs;unfold gv
     rw[if_pos hk.symm];omega
    ·conv=>lhs;unfold gv
     rw[if_neg (fun h=>hk h.symm),if_neg hk]
   ·unfold gv
    by_cases hk:key x=k
    ·rw[if_pos hk,if_pos hk,if_neg (fun h=>E (hk.trans h))]
    ·rw[if_neg hk,if_neg hk];exact insP_gv V L J
theorem putP_bd {e:En}{one:Bool}{l:List En}(h:Bd one l)(I:0≤num e)(H:num e≤cap one):Bd one (putP e one l):=by
 unfold putP
 split
 ·exact h
 ·rename_i L
  refine⟨insP_srt h.srt,fun x E=>?_⟩
  rcases Qgf E with rfl|E|⟨y,J,_,rfl⟩
  ·exact⟨by omega,H⟩
  ·exact h.b x E
  ·have:=h.b y J
   unfold num at this I H
   unfold upd num
   cases one with
   |true=>simp[cap]
   |false=>simp only[Qs,if_false];simp only[cap,Qs,if_false];omega
theorem putP_gv {e:En}{one:Bool}{l:List En}(h:Bd one l)(I:0≤num e)(E:num e≤cap one)(k:Ky):gv (putP e one l) k=if key e=k then min (cap one) (gv l k+num e)else gv l k:=by
 have:=h.gv k
 unfold putP
 split
 ·rename_i H
  rw[H,Int.add_zero]
  split
  ·omega
  ·rfl
 ·rw[insP_gv h (by omega) E]
  by_cases hk:k=key e
  ·rw[if_pos hk,if_pos hk.symm]
  ·rw[if_neg hk,if_neg (fun h=>hk h.symm)]
def cs (C:Int)(l:List En)(k:Ky):Int:=l.foldl (fun a e=>if key e=k then min C (a+num e)else a) 0
theorem cs_snoc (C:Int)(l:List En)(e:En)(k:Ky):cs C (l++[e]) k=if key e=k then min C (cs C l k+num e)else cs C l k:=by
 unfold cs;rw[List.foldl_append];rfl
def sm:List En→Ky→Int
 | [],_=>0
 |e::l,k=>(if key e=k then num e else 0)+sm l k
theorem sm_nn {l:List En}(h: ∀e,e∈l→0≤num e)(k:Ky):0≤sm l k:=by
 induction l with
 |nil=>simp[sm]
 |cons x l E=>
  have I:=E fun e H=>h e (Qb _ H)
  have J:=h x (Qf ..)
  unfold sm
  split<;>omega
theorem cs_sm {C:Int}(L:0≤C): ∀(l:List En),(∀e,e∈l→0≤num e)→∀k,cs C l k=min C (sm l k):=by
 intro l h k
 have main: ∀(l:List En) (a:Int),(∀e,e∈l→0≤num e)→0≤a→a≤C→l.foldl (fun a e=>if key e=k then min C (a+num e)else a) a=min C (a+sm l k):=by
  intro l
  induction l with
  |nil=>intro a _ H I;simp[sm];omega
  |cons x l J=>
   intro a h H I
   have N:=h x (Qf ..)
   have O:=sm_nn (fun e E=>h e (Qb _ E)) k
   rw[X5,sm]
   split
   ·rw[J _ (fun e E=>h e (Qb _ E)) (by omega) (by omega)];omega
   ·rw[J _ (fun e E=>h e (Qb _ E)) H I];omega
 have:=main l 0 h (Yo _) L
 rw[Int.zero_add]at this
 exact this
def foldP (one:Bool)(l:List En)(a:List En):List En:=l.foldl (fun a e=>putP e one a) a
theorem o_bp {one:Bool}: ∀(l a:List En),Bd one a→(∀e,e∈l→0≤num e∧num e≤cap one)→Bd one (foldP one l a)∧∀k,gv (foldP one l a) k=l.foldl (fun v e=>if key e=k then min (cap one) (v+num e)else v) (gv a k)
 | [],a,h,_=>⟨h,fun _=>rfl⟩
 |e::l,a,h,H=>by
  have E:=H e (Qf ..)
  obtain⟨I,J⟩:=o_bp l (putP e one a) (putP_bd h E.1 E.2) fun x L=>H x (Qb _ L)
  refine⟨I,fun k=>?_⟩
  have:=J k
  rw[putP_gv h E.1 E.2]at this
  exact this
theorem foldP_nil {one:Bool}(l:List En)(E: ∀e,e∈l→0≤num e∧num e≤cap one):Bd one (foldP one l [])∧∀k,gv (foldP one l []) k=cs (cap one) l k:=
 o_bp l [] ⟨List.Pairwise.nil,by simp⟩ E
end Go.Ent
end
section
namespace Go.Proofs.YtlhiofnikdppeaaGreatDoor
open Go.RowKit Go.Graph Go.Utf Go.Ent
def cI (a b:Int):Int:=if a<b then-1 else if b<a then 1 else 0
theorem Qfp (a b:Int):F.bk a b=some (cI a b):=by
 rw[F.bk]
 simp only[F.cl,Qa,ne_eq,not_true,decide_false,Qs,if_false]
 unfold cI
 by_cases E:a<b
 ·rw[if_pos E,if_pos E]
 ·rw[if_neg E,if_neg E]
  by_cases H:b<a
  ·rw[if_pos H,if_pos H]
  ·rw[if_neg H,if_neg H]
theorem cmpi_eq (a b:Int):F.c3 a b=some (cI a b):=Qfp a b
def cS (a b:ByteArray):Int:=if bl a b=true then-1 else if a=b then 0 else 1
theorem tl_eq {a b:ByteArray}:(a.toList==b.toList)=decide (a=b):=by
 rw[Lib.toList_data,Lib.toList_data]
 by_cases h:a=b
 ·subst h;simp
 ·rw[decide_eq_false h]
  exact beq_eq_false_iff_ne.2 fun e=>h (ba_eq e)
theorem cmps_eq (a b:ByteArray):F.bF a b=some (cS a b):=by
 rw[F.bF]
 simp only[F.b7,Qa,ne_eq,not_true,decide_false,Qs,if_false,tl_eq]
 unfold cS bl
 by_cases E:Op.bytesLess a.toList b.toList=true
 ·rw[if_pos E,if_pos E]
 ·rw[if_neg E,if_neg E]
  rw[Yu]at E
  by_cases H:a=b
  ·subst H;rw[E];simp
  ·rw[E,decide_eq_false H];simp[H]
theorem cB_eq: ∀a b:List UInt8,Lib.compareBytes a b=if Op.bytesLess a b=true then-1 else if a=b then 0 else 1
 | [],[]=>rfl
 | [],_::_=>rfl
 |_::_,[]=>by simp[Lib.compareBytes,Op.bytesLess]
 |x::a,y::b=>by
  unfold Lib.compareBytes Op.bytesLess
  by_cases E:x<y
  ·simp[E]
  ·by_cases H:y<x
   ·have I:x≠y:=fun e=>by subst e;exact E H
    simp[E,H,I]
   ·have e:x=y:=UInt8.le_antisymm (UInt8.not_lt.1 H) (UInt8.not_lt.1 E)
    subst e
    rw[if_neg E,if_neg E,cB_eq a b]
    simp[E]
theorem scmp_eq (a b:ByteArray):F.c1 a b=some (cS a b):=by
 rw[F.c1,cB_eq]
 unfold cS bl
 rw[Lib.toList_data,Lib.toList_data]
 by_cases h:a=b
 ·subst h;simp
 ·have:a.data.toList≠b.data.toList:=fun e=>h (ba_eq e)
  simp[h,this]
theorem or_eq (l:List Int)(J:l.length≤100):F.cJ l=some ((l.find? fun x=>decide (x≠0)).getD 0):=
 A.lp0 l (fun f y=>F.bP l f y) (fun _ r=>some ((r.find? fun x=>decide (x≠0)).getD 0))
  (fun f=>by rw[F.bP,if_neg (by omega)];rfl)
  (fun f k x H hk I=>by
   rw[F.bP,if_pos (by omega),A.ixn H,Qa,List.find?_cons]
   by_cases h:x=0
   ·rw[if_neg (fun E=>E h),A.gd1 ⟨by omega,by omega⟩,I,decide_eq_false (fun E=>E h)]
   ·rw[if_pos h,decide_eq_true h];rfl)
  (by have:=Qab;omega)
theorem or2 (a b:Int):F.cJ [a,b]=some (if a≠0 then a else b):=by
 rw[or_eq _ (by simp)]
 by_cases h:a=0
 ·subst h
  by_cases E:b=0
  ·subst E;rfl
  ·simp[E]
 ·simp[h]
theorem or3 (a b c:Int):F.cJ [a,b,c]=some (if a≠0 then a else if b≠0 then b else c):=by
 rw[or_eq _ (by simp)]
 by_cases h:a=0
 ·subst h
  by_cases E:b=0
  ·subst E
   by_cases H:c=0
   ·subst H;rfl
   ·simp[H]
  ·simp[E]
 ·simp[h]
abbrev rec (e:En):Int×ByteArray:=(e.2.1,e.2.2.1)
theorem cS_cases (a b:ByteArray):(bl a b=true∧cS a b= -1)∨(a=b∧bl a b=false∧cS a b=0)∨(a≠b∧bl a b=false∧bl b a=true∧cS a b=1):=by
 unfold cS
 cases h:bl a b with
 |true=>exact .inl ⟨rfl,by simp⟩
 |false=>
  by_cases E:a=b
  ·exact .inr (.inl ⟨E,rfl,by simp[E]⟩)
  ·refine .inr (.inr ⟨E,rfl,?_,by simp[E]⟩)
   cases H:bl b a with
   |true=>rfl
   |false=>exact absurd (bl_tri h H) E
theorem cI_cases (a b:Int):(a<b∧cI a b= -1)∨(a=b∧cI a b=0)∨(b<a∧cI a b=1):=by
 unfold cI
 by_cases h:a<b
 ·exact .inl ⟨h,if_pos h⟩
 ·by_cases E:b<a
  ·exact .inr (.inr ⟨E,by rw[if_neg h,if_pos E]⟩)
  ·exact .inr (.inl ⟨by omega,by rw[if_neg h,if_neg E]⟩)
def cR (a b:Int×ByteArray):Int:=if cI a.1 b.1≠0 then cI a.1 b.1 else cS a.2 b.2
theorem cR_lt (a b:Int×ByteArray):decide (cR a b<0)=rl a b:=by
 unfold cR rl
 rcases cI_cases a.1 b.1 with⟨h,e⟩|⟨h,e⟩|⟨h,e⟩
 ·rw[e];simp[h]
 ·rw[e,h]
  simp only[ne_eq,not_true,if_false,Int.lt_irrefl,decide_false,Xd,decide_true,Wn]
  rcases cS_cases a.2 b.2 with⟨E,e2⟩|⟨E,H,e2⟩|⟨E,H,J,e2⟩
  ·rw[e2,E];rfl
  ·rw[e2,H];rfl
  ·rw[e2,H];rfl
 ·rw[e]
  have I: ¬a.1<b.1:=by omega
  have E: ¬a.1=b.1:=by omega
  simp[I,E]
theorem ahead_eq (a b:En):F.dp a b=some (rl (rec a) (rec b)):=by
 rw[F.dp,Qfp,Qa,scmp_eq,Qa,or2,Qa]
 exact congrArg some (cR_lt (rec a) (rec b))
theorem list1_eq (a b:En): ∃c,F.aa a b=some c∧decide (c<0)=kl (key a) (key b):=by
 rw[F.aa,cmpi_eq,Qa,Qfp,Qa,cmps_eq,Qa,or3,Qa]
 refine⟨_,rfl,?_⟩
 unfold kl
 have:=cR_lt (rec a) (rec b)
 unfold cR at this
 rcases cI_cases a.1 b.1 with⟨h,e⟩|⟨h,e⟩|⟨h,e⟩
 ·rw[e];simp[h]
 ·rw[e,if_neg (by omega),this];simp[h]
 ·rw[e]
  have E: ¬a.1<b.1:=by omega
  have H: ¬a.1=b.1:=by omega
  simp[E,H]
theorem cl0_eq:A.cl0 (fun x y=>F.aa x y)=fun x y=>kl (key x) (key y):=by
 funext x y
 obtain⟨c,E,H⟩:=list1_eq x y
 show(match F.aa x y with|some c=>decide (c<0)|none=>false)=_
 rw[E];exact H
def Qcg (n:Nd)(x:En):Bool:=
 if x.1≠n.1 then false else if n.2.1=11 then decide (x.2.2.1=ByteArray.mk #[])&&decide (0≤x.2.2.2)&&decide (x.2.2.2≤1099511627776)else if n.2.1=16 then decide (x.2.2.2=1)&&okT x.2.2.1 else false
def stF (n:Nd):Option En→List En→Bool
 |_,[]=>true
 |none,e::l=>Qcg n e&&stF n (some e) l
 |some p,e::l=>Qcg n e&&rl (rec p) (rec e)&&stF n (some e) l
def stP (n:Nd)(l:List En):Bool:=stF n none l
theorem entry_eq (n:Nd)(x:En):F.dq n x=some (Qcg n x):=by
 rw[F.dq]
 unfold Qcg
 by_cases J:x.1=n.1
 ·have h0': ¬(x.1≠n.1):=fun h=>h J
  rw[if_neg h0',if_neg h0']
  by_cases E:n.2.1=11
  ·rw[if_pos E,if_pos E]
   congr 1
   by_cases a1:x.2.2.1=ByteArray.mk #[]<;>by_cases a2:(0:Int)≤x.2.2.2<;>by_cases a3:x.2.2.2≤1099511627776<;>simp[a1,a2,a3]
  ·rw[if_neg E,if_neg E]
   by_cases H:n.2.1=16
   ·rw[if_pos H,if_pos H]
    by_cases I:x.2.2.2=1
    ·rw[if_pos I]
     show(F.cI (rec x)).bind _=_
     rw[Qcx,Qa,F.cg,decide_eq_true I,Wn]
     show some (decide ((if okT x.2.2.1=true then(0:Int)else 50)=0))=_
     cases okT x.2.2.1<;>rfl
    ·rw[if_neg I,F.cg,decide_eq_false I];rfl
   ·rw[if_neg H,if_neg H]
 ·rw[if_pos J,if_pos J]
abbrev prv (l:List En) (k:Nat):Option En:=if k=0 then none else l[k-1]?
theorem prv_s (l:List En)(k:Nat){x:En}(h:l[k]?=some x):prv l (k+1)=some x:=by unfold prv;rw[if_neg (by omega)];exact h
theorem Qcm (n:Nd)(l:List En)(N:l.length≤9223372036854775807):F.bc n l=some (if stP n l=true then 0 else 171):=
 A.lp0 l (fun f y=>F.w n l f y) (fun k r=>some (if stF n (prv l k) r=true then 0 else 171))
  (fun f=>by
   rw[F.w,if_neg (by omega)]
   cases prv l l.length<;>rfl)
  (fun f k x I hk J=>by
   rw[F.w,if_pos (by omega),A.ixn I,Qa]
   show(F.dq n x).bind _=_
   rw[prv_s l k I]at J
   have nx: ∀b:Bool,F.aK (F.w n l f) (k:Int) b=some (if(!b&&stF n (some x) (l.drop (k+1)))=true then 0 else 171):=fun b=>by
    rw[F.aK]
    cases b with
    |true=>rw[if_pos rfl];rfl
    |false=>rw[if_neg (by simp),A.gd1 ⟨by omega,by omega⟩,J];rfl
   rw[entry_eq,Qa]
   by_cases E:k=0
   ·subst E
    show _=some (if(Qcg n x&&stF n (some x) (l.drop (0+1)))=true then 0 else 171)
    cases L:Qcg n x with
    |false=>rw[Xl,if_pos rfl,nx];rfl
    |true=>rw[Wt,if_neg (by simp),if_neg (by omega),nx];rfl
   ·have hp:prv l k=l[k-1]?:=by unfold prv;rw[if_neg E]
    obtain⟨p,H⟩: ∃p,l[k-1]?=some p:=⟨_,Qe (by omega)⟩
    rw[hp,H]
    show _=some (if(Qcg n x&&rl (rec p) (rec x)&&stF n (some x) (l.drop (k+1)))=true then 0 else 171)
    cases L:Qcg n x with
    |false=>rw[Xl,if_pos rfl,nx];rfl
    |true=>
     rw[Wt,if_neg (by simp),if_pos (by omega),A.gd1 ⟨by omega,by omega⟩,show(k:Int)-1=((k-1:Nat):Int) by omega,A.ixn H,Qa]
     show(F.dp p x).bind _=_
     rw[ahead_eq,Qa,nx,Bool.not_not,Wn])
  (by have:=Qab;omega)
theorem Qil {n:Nd}: ∀{p:Option En} {l:List En},stF n p l=true→∀e,e∈l→Qcg n e=true
 |_,[],_,e,h=>by cases h
 |none,x::l,h,e,E=>by
  unfold stF at h
  rw[Qk]at h
  exact(Qg.1 E).elim (fun e=>e▸h.1) (Qil h.2 e)
 |some p,x::l,h,e,E=>by
  unfold stF at h
  rw[Qk,Qk]at h
  exact(Qg.1 E).elim (fun e=>e▸h.1.1) (Qil h.2 e)
theorem stF_pw {n:Nd}: ∀{p:En} {l:List En},stF n (some p) l=true→(p::l).Pairwise fun a b=>rl (rec a) (rec b)=true
 |p,[],_=>by simp
 |p,x::l,h=>by
  unfold stF at h
  rw[Qk,Qk]at h
  have H:=stF_pw h.2
  exact Qo.2 ⟨fun y E=>(Qg.1 E).elim (fun e=>e▸h.1.2) fun E=>rl_tr h.1.2 ((Qo.1 H).1 y E),H⟩
theorem Qir {n:Nd}{l:List En}:stP n l=true↔(∀e,e∈l→Qcg n e=true)∧l.Pairwise fun a b=>rl (rec a) (rec b)=true:=by
 constructor
 ·intro h
  refine⟨Qil h,?_⟩
  cases l with
  |nil=>exact List.Pairwise.nil
  |cons x l=>
   unfold stP stF at h
   rw[Qk]at h
   exact stF_pw h.2
 ·rintro⟨E,H⟩
  have main: ∀(l:List En) (p:En),(∀e,e∈l→Qcg n e=true)→(p::l).Pairwise (fun a b=>rl (rec a) (rec b)=true)→stF n (some p) l=true:=by
   intro l
   induction l with
   |nil=>intro p _ _;rfl
   |cons x l J=>
    intro p E H
    unfold stF
    rw[E x (Qf ..),(Qo.1 H).1 x (Qf ..),J x (fun e I=>E e (Qb _ I)) (Qo.1 H).2];rfl
  cases l with
  |nil=>rfl
  |cons x l=>
   unfold stP stF
   rw[E x (Qf ..),main l x (fun e I=>E e (Qb _ I)) H];rfl
end Go.Proofs.YtlhiofnikdppeaaGreatDoor
end
section
namespace Go.Proofs.YtlhiofnikdppeaaGreatDoor
open Go.RowKit Go.Graph
abbrev Mv:=Int×Int×Int×Int×Fun
end Go.Proofs.YtlhiofnikdppeaaGreatDoor
end
section
namespace Go.A
theorem dem_of {α β:Type}[DecidableEq β]{m:List α}{sn:List Nat}{e:Option β}{g:Nat→α→Option β}{r:β}(Q:(∀i,i<m.length→i∈sn)→e=some r)(I: ∀i p,m[i]?=some p→i∉sn→g i p=some r):dem m sn e g=some r:=by
 have hmem: ∀i,i∈(List.range m.length).filter (fun i=> !(sn.contains i))↔i<m.length∧i∉sn:=fun i=>by
  rw[Yd,List.mem_range];simp
 unfold dem
 split
 ·rename_i J
  rw[J]at hmem
  refine Q fun i E=>?_
  cases N:decide (i∈sn)with
  |true=>exact of_decide_eq_true N
  |false=>exact absurd ((hmem i).2 ⟨E,of_decide_eq_false N⟩) (by simp)
 ·rename_i i js J
  rw[J]at hmem
  obtain⟨E,O⟩:=(hmem i).1 (Qf ..)
  rw[Qe E,Qa,if_pos]
  ·exact I i _ (Qe E) O
  ·rw[Q7]
   intro j V
   obtain⟨H,L⟩:=(hmem j).1 (Qb _ V)
   rw[Qe H,Qa,I j _ (Qe H) L,I i _ (Qe E) O]
   exact decide_eq_true rfl
end Go.A
namespace Go.Proofs.YtlhiofnikdppeaaGreatDoor
open Go.RowKit Go.Graph Go.Utf Go.Ent
def entOf (p:Ky×Int):Option En:=if p.2≠0 then some (p.1.1,p.1.2.1,p.1.2.2,p.2)else none
theorem Qan {p:Ky×Int}{e:En}(h:entOf p=some e):key e=p.1∧num e=p.2∧p.2≠0:=by
 unfold entOf at h
 split at h
 ·rename_i E
  injection h with h;subst h;exact⟨rfl,rfl,E⟩
 ·cases h
abbrev hasK (k:Ky):Prop:=A.h6 k.1∧A.h6 k.2.1∧k.2.2.size≤maxLen
theorem list_eq (m:List (Ky×Int))(hn:(m.map Prod.fst).Nodup)(hk: ∀p,p∈m→hasK p.1)(hlen:m.length*40≤140737488355328): ∃L,F.au m=some L∧Nf L∧∀k,gv L k=Z.mget 0 m k:=by
 have hinj: ∀{i j:Nat} {p q:Ky×Int},m[i]?=some p→m[j]?=some q→p.1=q.1→i=j:=fun {i j p q} N V e=>by
  have H:(m.map Prod.fst)[i]?=some p.1:=by rw[Qp,N];rfl
  have E:(m.map Prod.fst)[j]?=some p.1:=by rw[Qp,V,e];rfl
  exact(List.getElem?_inj (by rw[Qr];exact(Qc.1 N).1) hn).1 (H.trans E.symm)
 have strict: ∀l:List En,(l.map key).Nodup→Srt (A.srtL (fun x y=>kl (key x) (key y)) l):=fun l J=>by
  have O:A.OrdOn (fun x y:En=>kl (key x) (key y)) l:=⟨fun x _ y _ h=>kl_asy h,fun x hx y hy H E=>by
   have he:=kl_tri H E
   obtain⟨i,N⟩:=Wv hx
   obtain⟨j,V⟩:=Wv hy
   have W:(l.map key)[i]?=some (key x):=by rw[Qp,N];rfl
   have Y:(l.map key)[j]?=some (key x):=by rw[Qp,V];exact congrArg some he.symm
   have:=(List.getElem?_inj (by rw[Qr];exact(Qc.1 N).1) J).1 (W.trans Y.symm)
   subst this
   rw[N]at V;exact Wz V,fun x _ y _ z _ H E=>kl_tr H E⟩
  have H:=A.srtL_pw O l fun a h=>h
  have E:((A.srtL (fun x y:En=>kl (key x) (key y)) l).map key).Nodup:=((A.srtL_perm _ l).map key).nodup_iff.2 J
  have W:(A.srtL (fun x y:En=>kl (key x) (key y)) l).Pairwise fun a b=>key a≠key b:=Y9.1 E
  exact(H.and W).imp fun {a b} ⟨Y,h5⟩=>by
   cases h6:kl (key a) (key b)with
   |true=>rfl
   |false=>exact absurd (kl_tri h6 Y) h5
 have ordB: ∀l:List En,(l.map key).Nodup→A.ordB (fun x y=>F.aa x y) l=true:=fun l J=>by
  unfold A.ordB
  rw[Q7]
  intro x hx
  rw[Q7]
  intro y hy
  rw[cl0_eq,Qk,Qk]
  obtain⟨c,hc,_⟩:=list1_eq x y
  refine⟨⟨by show(F.aa x y).isSome=true;rw[hc];rfl,?_⟩,?_⟩
  ·show(bif kl (key x) (key y)then !kl (key y) (key x)else kl (key y) (key x)||decide (x=y))=true
   cases H:kl (key x) (key y)with
   |true=>rw[kl_asy H];rfl
   |false=>
    cases E:kl (key y) (key x)with
    |true=>rfl
    |false=>
     have he:=kl_tri H E
     obtain⟨i,N⟩:=Wv hx
     obtain⟨j,V⟩:=Wv hy
     have W:(l.map key)[i]?=some (key x):=by rw[Qp,N];rfl
     have Y:(l.map key)[j]?=some (key x):=by rw[Qp,V];exact congrArg some he.symm
     have:=(List.getElem?_inj (by rw[Qr];exact(Qc.1 N).1) J).1 (W.trans Y.symm)
     subst this
     rw[N]at V
     rw[decide_eq_true (Wz V)];rfl
  ·rw[Q7]
   intro z hz
   show(!(kl (key x) (key y)&&kl (key y) (key z))||kl (key x) (key z))=true
   cases H:kl (key x) (key y)with
   |false=>rfl
   |true=>
    cases E:kl (key y) (key z)with
    |false=>rfl
    |true=>rw[kl_tr H E];rfl
 obtain⟨es,hes⟩: ∃es,es=m.filterMap entOf:=⟨_,rfl⟩
 have hes_mem: ∀e,e∈es↔∃(i:Nat) (p:Ky×Int),m[i]?=some p∧entOf p=some e:=fun e=>by
  rw[hes,List.mem_filterMap]
  exact⟨fun⟨p,H,E⟩=>by obtain⟨i,N⟩:=Wv H;exact⟨i,p,N,E⟩,fun⟨i,p,H,E⟩=>⟨p,Qh H,E⟩⟩
 have hes_nd:(es.map key).Nodup:=by
  rw[hes]
  have: ∀(l:List (Ky×Int)),(l.map Prod.fst).Nodup→((l.filterMap entOf).map key).Nodup:=by
   intro l
   induction l with
   |nil=>intro _;simp
   |cons p l ih=>
    intro J
    rw[Qv,Q8]at J
    rw[List.filterMap_cons]
    cases hp:entOf p with
    |none=>exact ih J.2
    |some e=>
     simp only[Qv]
     refine Q8.2 ⟨fun hm=>?_,ih J.2⟩
     obtain⟨e2,H,E⟩:=Wh.1 hm
     obtain⟨q,W,Y⟩:=List.mem_filterMap.1 H
     refine J.1 (Wh.2 ⟨q,W,?_⟩)
     rw[←(Qan Y).1,E,(Qan hp).1]
  exact this m hn
 obtain⟨L,hL⟩: ∃L,L=A.srtL (fun x y:En=>kl (key x) (key y)) es:=⟨_,rfl⟩
 have hLs:Srt L:=hL▸strict es hes_nd
 have hLm: ∀e,e∈L↔e∈es:=fun e=>by rw[hL];exact(A.srtL_perm _ es).mem_iff
 have main: ∀(f:Nat) (sn:List Nat) (xs:List En),sn.Nodup→(∀i,i∈sn→i<m.length)→m.length<f+sn.length→xs.length≤sn.length→(∀e,e∈xs↔∃(i:Nat) (p:Ky×Int),i∈sn∧m[i]?=some p∧entOf p=some e)→(xs.map key).Nodup→F.ay m f sn xs=some L:=by
  intro f
  induction f with
  |zero=>intro sn xs H E W;have:=A.seen_lt H E;omega
  |succ f ih=>
   intro sn xs H E W Y h5 h6
   have hsl:=A.seen_lt H E
   rw[F.ay]
   refine A.dem_of (fun hall=>?_) fun i p hp N=>?_
   ·have hm: ∀e,e∈xs↔e∈es:=fun e=>by
     rw[h5,hes_mem]
     exact⟨fun⟨i,p,_,h⟩=>⟨i,p,h⟩,fun⟨i,p,Q,I⟩=>⟨i,p,hall i (Qc.1 Q).1,Q,I⟩⟩
    rw[F.v,A.gd1 (by omega),A.srtF,if_pos (ordB xs h6),Qa,cl0_eq]
    congr 1
    refine srt_ext (strict xs h6) hLs fun e=>?_
    rw[hLm,←hm]
    exact(A.srtL_perm _ xs).mem_iff
   ·have hk1:=hk p (Qh hp)
    have hlt:=(Qc.1 hp).1
    have hsn:(i::sn).Nodup:=Q8.2 ⟨N,H⟩
    have hsb: ∀j,j∈i::sn→j<m.length:=fun j V=>(Qg.1 V).elim (fun e=>e▸hlt) (E j)
    have hsl2:=A.seen_lt hsn hsb
    rw[Qd]at hsl2
    rw[A.gd1 ⟨decide_eq_true hk1.1,decide_eq_true hk1.2.1,hk1.2.2⟩]
    by_cases h0:p.2=0
    ·rw[if_neg (fun h=>h h0)]
     refine ih _ _ hsn hsb (by rw[Qd];omega) (by rw[Qd];omega) (fun e=>?_) h6
     rw[h5]
     refine⟨fun⟨j,q,Q,I⟩=>⟨j,q,Qb _ Q,I⟩,fun⟨j,q,Q,I,hc⟩=>⟨j,q,?_,I,hc⟩⟩
     rcases Qg.1 Q with rfl|Q
     ·rw[hp]at I;injection I with I;subst I
      exact absurd h0 (Qan hc).2.2
     ·exact Q
    ·have hent:entOf p=some (p.1.1,p.1.2.1,p.1.2.2,p.2):=by unfold entOf;rw[if_pos h0]
     rw[if_pos h0,A.gd1 (by simp only[Qd,Qm];omega)]
     refine ih _ _ hsn hsb (by rw[Qd];omega) (by simp only[Qj,Qd,Qm];omega) (fun e=>?_) ?_
     ·rw[Qu,h5,Qi]
      constructor
      ·rintro(⟨j,q,Q,I⟩|rfl)
       ·exact⟨j,q,Qb _ Q,I⟩
       ·exact⟨i,p,Qf ..,hp,hent⟩
      ·rintro⟨j,q,Q,I,hc⟩
       rcases Qg.1 Q with rfl|Q
       ·rw[hp]at I;injection I with I;subst I
        rw[hent]at hc;exact .inr (Wz hc).symm
       ·exact .inl ⟨j,q,Q,I,hc⟩
     ·rw[Xb,Qv,W8]
      refine Wr.2 ⟨h6,by simp,fun a Q b I=>?_⟩
      rw[Qi]at I
      subst I
      intro e
      subst e
      obtain⟨e2,h7,h8⟩:=Wh.1 Q
      obtain⟨j,q,h9,h10,h11⟩:=(h5 e2).1 h7
      have:j=i:=hinj h10 hp (by rw[←(Qan h11).1,h8])
      subst this
      exact N h9
 refine⟨L,?_,⟨hLs,fun e he=>?_⟩,fun k=>?_⟩
 ·exact main A.FU [] [] Xq (by simp) (by have:=Qab;simp;omega) (by simp) (by simp) (by simp)
 ·obtain⟨i,p,H,E⟩:=(hes_mem e).1 ((hLm e).1 he)
  rw[(Qan E).2.1];exact(Qan E).2.2
 ·by_cases hm:Z.mget 0 m k=0
  ·rw[hm]
   by_cases hg:gv L k=0
   ·exact hg
   ·obtain⟨e,H,E,W⟩:=gv_at hg
    obtain⟨i,p,Y,h5⟩:=(hes_mem e).1 ((hLm e).1 H)
    have h6:=(Z.mget_get (z:=0) hn Y).1
    obtain⟨a1,a2,a3⟩:=Qan h5
    rw[←a1,E,hm]at h6
    exact absurd h6.symm a3
  ·have hh:Z.mhas m k=true:=by
    cases h:Z.mhas m k with
    |true=>rfl
    |false=>exact absurd (Z.mget_none h) hm
   have hmem:=Z.mget_mem (z:=0) hh
   have H:entOf (k,Z.mget 0 m k)=some (k.1,k.2.1,k.2.2,Z.mget 0 m k):=by unfold entOf;rw[if_pos hm]
   obtain⟨i,N⟩:=Wv hmem
   have E:=gv_mem hLs ((hLm _).2 ((hes_mem _).2 ⟨i,_,N,H⟩))
   exact E
end Go.Proofs.YtlhiofnikdppeaaGreatDoor
end
section
namespace Go.Proofs.YtlhiofnikdppeaaGreatDoor
open Go.RowKit Go.Graph Go.Utf Go.Ent
abbrev MX:Int:=1099511627776
theorem scaled_eq {n a:Int}(L:0≤n)(H:n≤MX)(N:0≤a)(V:a≤1048576):F.cM n a=some (min MX (n*a)):=by
 have W:0≤n*a:=Int.mul_nonneg L N
 have I:n*a≤MX*1048576:=Int.mul_le_mul H V N (by decide)
 have O:Z.R64 (n*a):=⟨by omega,by simp only[MX]at I;omega⟩
 rw[F.cM]
 by_cases Q:0<n
 ·have e:Int.tdiv 1099511627776 n=1099511627776 / n:=Int.tdiv_eq_ediv_of_nonneg (by decide)
  have b1:0≤1099511627776 / n:=Int.ediv_nonneg (by decide) L
  have b2:1099511627776 / n≤1099511627776:=Int.ediv_le_self _ (by decide)
  have E:(1099511627776 / n<a)↔(1099511627776<n*a):=by
   rw[Int.ediv_lt_iff_lt_mul Q,Int.mul_comm]
  rw[A.gd1 ⟨fun _=>by omega,fun _=>by rw[e];exact⟨by omega,by omega⟩⟩,A.ba,e]
  by_cases h:1099511627776<n*a
  ·rw[if_pos (decide_eq_true ⟨Q,E.2 h⟩),Int.min_eq_left (by simp only[MX];omega)]
  ·rw[if_neg (by simp only[decide_eq_true_eq];exact fun H=>h (E.1 H.2)),A.gd1 O,Int.min_eq_right (by simp only[MX];omega)]
 ·have J:n=0:=by omega
  subst J
  rw[A.gd1 ⟨fun h=>absurd (of_decide_eq_true h) (by decide),fun h=>absurd (of_decide_eq_true h) (by decide)⟩,A.ba,if_neg (by simp),A.gd1 O,Int.zero_mul];rfl
def z0F:Fun:=(0,0,ByteArray.mk #[])
def Qiq (m:Mv):Bool:=if m.2.2.1=1 then decide (m.2.2.2.1=0∧m.2.2.2.2=z0F)else if m.2.2.1=2 then decide ((0≤m.2.2.2.1∧m.2.2.2.1≤1048576)∧m.2.2.2.2=z0F)else if m.2.2.1=3 then decide (m.2.2.2.1=0∧chk 2 m.2.2.2.2=0)else false
theorem formed_eq (m:Mv)(hs:m.2.2.2.2.2.2.size≤9223372036854775807):F.cf m=some (Qiq m):=by
 rw[F.cf]
 unfold Qiq
 by_cases I:m.2.2.1=1
 ·rw[if_pos I,if_pos I]
  by_cases E:m.2.2.2.1=0
  ·rw[if_pos E,F.bt];simp only[E,true_and];rfl
  ·rw[if_neg E,F.bt];simp[E]
 rw[if_neg I,if_neg I]
 by_cases E:m.2.2.1=2
 ·rw[if_pos E,if_pos E,A.ba]
  by_cases H:0≤m.2.2.2.1∧m.2.2.2.1≤1048576
  ·rw[if_pos (decide_eq_true H),F.bu];simp only[H,true_and];rfl
  ·rw[if_neg (by simpa using H),F.bu];simp only[H,false_and];rfl
 rw[if_neg E,if_neg E]
 by_cases H:m.2.2.1=3
 ·rw[if_pos H,if_pos H]
  by_cases J:m.2.2.2.1=0
  ·rw[if_pos J]
   show(F.cn 2 m.2.2.2.2).bind _=_
   rw[Qbt _ _ hs,Qa,F.bv];simp only[J,true_and]
  ·rw[if_neg J,F.bv];simp[J]
 rw[if_neg H,if_neg H]
def fresh:ByteArray:=ByteArray.mk #[102,114,101,115,104]
def tagP (n:Nd):ByteArray×Bool:=if n.2.1=16 then(fresh,true)else if n.2.1=11∧n.2.2.2.1.1=41 then(ByteArray.mk #[116,111,116,97,108,47,111,110,101],true)else if n.2.1=11∧n.2.2.2.1.1=42 then(ByteArray.mk #[116,111,116,97,108,47,115,105,122,101],true)else(ByteArray.mk #[],false)
theorem Tag_eq (n:Nd):F.ck n=some (tagP n):=by
 rw[F.ck]
 unfold tagP
 simp only[A.ba,decide_eq_true_eq]
 by_cases E:n.2.1=16
 ·rw[if_pos E,if_pos E];rfl
 rw[if_neg E,if_neg E]
 by_cases H:n.2.1=11∧n.2.2.2.1.1=41
 ·rw[if_pos H,if_pos H]
 rw[if_neg H,if_neg H]
 by_cases I:n.2.1=11∧n.2.2.2.1.1=42
 ·rw[if_pos I,if_pos I]
 rw[if_neg I,if_neg I]
def Qec (a b:Nd)(m:Mv):Int:=if m.1≠a.1∨m.2.1≠b.1∨Qiq m=false then 180 else if(tagP a).2=false∨(tagP b).2=false∨(tagP a).1≠(tagP b).1∨(m.2.2.1=2∧(tagP a).1=fresh)then 181 else 0
theorem Fits_eq (a b:Nd)(m:Mv)(hs:m.2.2.2.2.2.2.size≤9223372036854775807):F.bX a b m=some (Qec a b m):=by
 have H: ∀y:Bool,F.b1 a b m y=some (if y=true then 180 else if(tagP a).2=false∨(tagP b).2=false∨(tagP a).1≠(tagP b).1∨(m.2.2.1=2∧(tagP a).1=fresh)then 181 else 0):=fun y=>by
  rw[F.b1]
  cases y with
  |true=>rfl
  |false=>
   rw[if_neg (show ¬(false=true) by simp),if_neg (show ¬(false=true) by simp)]
   show(F.ck a).bind _=_
   rw[Tag_eq,Qa]
   show(F.ck b).bind _=_
   rw[Tag_eq,Qa]
   cases L:(tagP a).2 with
   |false=>simp
   |true=>
    cases N:(tagP b).2 with
    |false=>simp
    |true=>
     by_cases h:(tagP a).1=(tagP b).1
     ·by_cases E:m.2.2.1=2
      ·by_cases I:(tagP a).1=fresh
       ·have h3':(tagP b).1=fresh:=h.symm.trans I
        have h3'':(tagP b).1=ByteArray.mk #[102,114,101,115,104]:=h3'
        simp[h,E,h3',h3'']
        rfl
       ·have h3': ¬(tagP b).1=fresh:=fun e=>I (h.trans e)
        have h3'': ¬(tagP b).1=ByteArray.mk #[102,114,101,115,104]:=h3'
        simp[h,E,h3',h3'']
      ·simp[h,E]
     ·simp[h]
 rw[F.bX,A.bo]
 unfold Qec
 by_cases h:m.1≠a.1∨m.2.1≠b.1
 ·rw[if_pos (decide_eq_true h),H,if_pos rfl,if_pos (by rcases h with h|h;exact .inl h;exact .inr (.inl h))]
 ·rw[if_neg (by simpa using h)]
  show(F.cf m).bind _=_
  rw[formed_eq m hs,Qa,H]
  cases J:Qiq m with
  |false=>rw[if_pos (show(!false)=true from rfl),if_pos (.inr (.inr rfl))]
  |true=>rw[if_neg (show ¬((!true)=true) by simp),if_neg (show ¬(m.1≠a.1∨m.2.1≠b.1∨true=false)from fun E=>h (by rcases E with E|E|E;exact .inl E;exact .inr E;cases E))]
def mvE (tn:Nd)(m:Mv)(e:En):En:=
 if m.2.2.1=2 then(tn.1,e.2.1,e.2.2.1,min MX (e.2.2.2*m.2.2.2.1))else if m.2.2.1=3 then(tn.1,(mapK m.2.2.2.2 (rec e)).1,if tn.2.1=16 then(mapK m.2.2.2.2 (rec e)).2 else e.2.2.1,e.2.2.2)else(tn.1,e.2.1,e.2.2.1,e.2.2.2)
structure Mok (tn:Nd) (m:Mv):Prop where
 kind:m.2.2.1=1∨m.2.2.1=2∨m.2.2.1=3
 sc:m.2.2.1=2→(0≤m.2.2.2.1∧m.2.2.2.1≤1048576)∧tn.2.1=11
 ks:m.2.2.1=3→chk 2 m.2.2.2.2=0
 tn:tn.2.1=11∨tn.2.1=16
theorem Qdh {n:Nd}(h:(tagP n).2=true):n.2.1=16∧(tagP n).1=fresh∨n.2.1=11:=by
 unfold tagP at h ⊢
 by_cases E:n.2.1=16
 ·rw[if_pos E];exact .inl ⟨E,rfl⟩
 ·rw[if_neg E]at h ⊢
  split at h
  ·rename_i H;exact .inr H.1
  ·split at h
   ·rename_i H;exact .inr H.1
   ·cases h
theorem Mok.of {a b:Nd}{m:Mv}(hk:a.2.1=b.2.1)(h:Qec a b m=0):Mok b m:=by
 unfold Qec at h
 split at h
 ·cases h
 ·rename_i Q
  split at h
  ·cases h
  ·rename_i J
   have E:Qiq m=true:=by
    cases H:Qiq m with
    |true=>rfl
    |false=>exact absurd (.inr (.inr H)) Q
   have ta:(tagP a).2=true:=by
    cases H:(tagP a).2 with
    |true=>rfl
    |false=>exact absurd (.inl H) J
   have tb:(tagP b).2=true:=by
    cases H:(tagP b).2 with
    |true=>rfl
    |false=>exact absurd (.inr (.inl H)) J
   unfold Qiq at E
   by_cases N:m.2.2.1=1
   ·exact⟨.inl N,fun h=>by omega,fun h=>by omega,(Qdh tb).elim (fun h=>.inr h.1) .inl⟩
   rw[if_neg N]at E
   by_cases I:m.2.2.1=2
   ·rw[if_pos I]at E
    have E:=of_decide_eq_true E
    refine⟨.inr (.inl I),fun _=>⟨E.1,?_⟩,fun h=>by omega,(Qdh tb).elim (fun h=>.inr h.1) .inl⟩
    rcases Qdh ta with⟨O,V⟩|O
    ·exact absurd (.inr (.inr (.inr ⟨I,V⟩))) J
    ·rw[←hk];exact O
   rw[if_neg I]at E
   by_cases L:m.2.2.1=3
   ·rw[if_pos L]at E
    exact⟨.inr (.inr L),fun h=>by omega,fun _=>(of_decide_eq_true E).2,(Qdh tb).elim (fun h=>.inr h.1) .inl⟩
   ·rw[if_neg L]at E;cases E
structure Eok (tn:Nd) (e:En):Prop where
 t:tn.2.1=11→e.2.2.1=ByteArray.mk #[]∧0≤e.2.2.2∧e.2.2.2≤MX
 f:tn.2.1=16→e.2.2.2=1∧okT e.2.2.1=true
theorem Eok.of {a b:Nd}(hk:a.2.1=b.2.1){e:En}(h:Qcg a e=true):Eok b e:=by
 unfold Qcg at h
 split at h
 ·cases h
 ·constructor
  ·intro E
   rw[if_pos (hk.trans E)]at h
   simp only[Qk,decide_eq_true_eq]at h
   exact⟨h.1.1,h.1.2,h.2⟩
  ·intro E
   rw[if_neg (by omega),if_pos (hk.trans E)]at h
   simp only[Qk,decide_eq_true_eq]at h
   exact h
theorem okT_nil:okT (ByteArray.mk #[])=true:=by decide
theorem Eok.txt {tn:Nd}{e:En}(h:Eok tn e)(E:tn.2.1=11∨tn.2.1=16):okT e.2.2.1=true:=by
 rcases E with E|E
 ·rw[(h.t E).1];exact okT_nil
 ·exact(h.f E).2
theorem o_bP {f:Fun}{r:Rec}(h:chk 2 f=0)(E:okT r.2=true):mapP f r=(mapK f r,0):=by
 unfold mapP
 rw[if_neg (fun H=>H h),if_pos E]
theorem moved_eq (tn:Nd)(m:Mv)(e:En)(J:Mok tn m)(L:Eok tn e)(hs:m.2.2.2.2.2.2.size≤9223372036854775807):F.ct tn m e=some (mvE tn m e):=by
 rw[F.ct]
 unfold mvE
 by_cases H:m.2.2.1=2
 ·obtain⟨N,O⟩:=J.sc H
  obtain⟨_,Q,V⟩:=L.t O
  rw[if_pos H,if_pos H,scaled_eq Q V N.1 N.2];rfl
 rw[if_neg H,if_neg H]
 by_cases I:m.2.2.1=3
 ·rw[if_pos I,if_pos I]
  show(F.eY m.2.2.2.2 (rec e)).bind _=_
  rw[fn_Map_eq _ _ hs,Qa,o_bP (J.ks I) (L.txt J.tn)]
  by_cases E:tn.2.1=16
  ·rw[if_pos E,if_pos E];rfl
  ·rw[if_neg E,if_neg E];rfl
 rw[if_neg I,if_neg I];rfl
abbrev oneK (tn:Nd):Bool:=decide (tn.2.1=16)
theorem mv_num {tn:Nd}{m:Mv}{e:En}(I:Mok tn m)(N:Eok tn e):0≤num (mvE tn m e)∧num (mvE tn m e)≤Ent.cap (oneK tn):=by
 rcases I.tn with E|E
 ·obtain⟨_,H,O⟩:=N.t E
  have J:Ent.cap (oneK tn)=MX:=by unfold oneK;rw[E];rfl
  rw[J]
  unfold mvE
  split
  ·rename_i L
   have:=(I.sc L).1
   have Q:0≤e.2.2.2*m.2.2.2.1:=Int.mul_nonneg H this.1
   show 0≤min MX (e.2.2.2*m.2.2.2.1)∧min MX (e.2.2.2*m.2.2.2.1)≤MX
   simp only[MX];omega
  ·(split)
   ·exact⟨H,O⟩
   ·exact⟨H,O⟩
 ·obtain⟨H,_⟩:=N.f E
  have J:Ent.cap (oneK tn)=1:=by unfold oneK;rw[E];rfl
  rw[J]
  unfold mvE
  split
  ·rename_i L
   have:=(I.sc L).2;omega
  ·(split)
   ·show 0≤e.2.2.2∧e.2.2.2≤1;omega
   ·show 0≤e.2.2.2∧e.2.2.2≤1;omega
theorem fresh_num {tn:Nd}{m:Mv}{e:En}(H:Mok tn m)(I:Eok tn e)(J:tn.2.1=16):num (mvE tn m e)=1:=by
 obtain⟨E,_⟩:=I.f J
 unfold mvE
 split
 ·rename_i L
  have:=(H.sc L).2;omega
 ·(split)
  ·exact E
  ·exact E
theorem i64h {x:Int}(E: -9223372036854775808≤x)(H:x≤9223372036854775807):A.h6 x:=Jj ⟨E,H⟩
theorem mapK_has {f:Fun}{r:Rec}(h:chk 2 f=0)(H:okT r.2=true)(E:A.h6 r.1):A.h6 (mapK f r).1:=by
 obtain⟨I,J⟩:=Qbk.1 H
 obtain⟨Q,L⟩:=Qcr J
 have N:=cks_len r.2
 unfold mapK
 by_cases e2:f.1=2
 ·rw[if_pos e2];exact E
 rw[if_neg e2]
 by_cases e3:f.1=3
 ·rw[if_pos e3];exact E
 rw[if_neg e3]
 by_cases e4:f.1=4
 ·rw[if_pos e4];exact E
 rw[if_neg e4]
 by_cases e5:f.1=5
 ·rw[if_pos e5];exact E
 rw[if_neg e5]
 by_cases e6:f.1=6
 ·rw[if_pos e6]
  obtain⟨V,W⟩:=num_mod h e6
  have Y:Int.tmod (Int.tmod r.1 f.2.1+f.2.1) f.2.1<f.2.1:=Yy _ (by omega)
  have t2: -f.2.1<Int.tmod (Int.tmod r.1 f.2.1+f.2.1) f.2.1:=by
   have:=Yy (-(Int.tmod r.1 f.2.1+f.2.1)) (show 0<f.2.1 by omega)
   rw[Int.neg_tmod]at this;omega
  exact i64h (by show _≤Int.tmod _ _;omega) (by show Int.tmod _ _≤_;omega)
 rw[if_neg e6]
 by_cases e7:f.1=7
 ·rw[if_pos e7];exact i64h (by show _≤((cks r.2.data.toList).length:Int);omega) (by show((cks r.2.data.toList).length:Int)≤_;omega)
 rw[if_neg e7]
 by_cases e8:f.1=8
 ·rw[if_pos e8]
  cases O:((cks r.2.data.toList).map (·.2))[0]? with
  |none=>exact i64h (show(-9223372036854775808:Int)≤0 by decide) (show(0:Int)≤9223372036854775807 by decide)
  |some x=>have:=Qgx L O;exact i64h (by show _≤x;omega) (by show x≤_;omega)
 rw[if_neg e8];exact E
theorem mv_has {tn:Nd}{m:Mv}{e:En}(H:Mok tn m)(N:Eok tn e)(I:A.h6 tn.1)(h:hasK (key e)):hasK (key (mvE tn m e)):=by
 have E:=N.txt H.tn
 have J: ∀s:ByteArray,okT s=true→s.size≤maxLen:=fun s h=>by
  have:=(Qbk.1 h).1
  simp only[maxLen];omega
 unfold mvE
 split
 ·exact⟨I,h.2⟩
 ·(split)
  ·rename_i L
   refine⟨I,mapK_has (H.ks L) E h.2.1,?_⟩
   show(if tn.2.1=16 then(mapK m.2.2.2.2 (rec e)).2 else e.2.2.1).size≤maxLen
   split
   ·exact J _ (o_bO (H.ks L) E)
   ·exact h.2.2
  ·exact⟨I,h.2⟩
abbrev frm (tn:Nd) (m:Mv):Nd:=(m.1,tn.2)
def migP (tn:Nd)(m:Mv)(l:List En):List En×Int:=
 if m.2.1≠tn.1 then([],180)else if Qec (frm tn m) tn m≠0 then([],180)else if stP (frm tn m) l=true then(foldP (oneK tn) (l.map (mvE tn m)) [],0)else([],171)
theorem st_eok {tn:Nd}{m:Mv}{l:List En}(h:stP (frm tn m) l=true): ∀e,e∈l→Eok tn e:=fun e E=>Eok.of (a:=frm tn m) (b:=tn) rfl ((Qir.1 h).1 e E)
theorem Migrate_eq (tn:Nd)(m:Mv)(l:List En)(hs:m.2.2.2.2.2.2.size≤9223372036854775807)(hl:l.length*40≤140737488355328)(ht:A.h6 tn.1)(hk: ∀e,e∈l→hasK (key e)):F.a5 tn m l=some (migP tn m l):=by
 rw[F.a5]
 unfold migP
 by_cases h1:m.2.1=tn.1
 case neg=>rw[if_pos h1,if_pos h1]
 rw[if_neg (fun h=>h h1),if_neg (show ¬(m.2.1≠tn.1)from fun h=>h h1)]
 show(F.bX (frm tn m) tn m).bind _=_
 rw[Fits_eq _ _ _ hs,Qa]
 by_cases J:Qec (frm tn m) tn m=0
 case neg=>rw[if_pos J,if_pos J]
 rw[if_neg (show ¬(Qec (frm tn m) tn m≠0)from fun h=>h J),if_neg (show ¬(Qec (frm tn m) tn m≠0)from fun h=>h J)]
 show(F.bc (frm tn m) l).bind _=_
 rw[Qcm _ _ (by omega),Qa]
 have I:Mok tn m:=Mok.of (a:=frm tn m) (b:=tn) rfl J
 by_cases N:stP (frm tn m) l=true
 case neg=>rw[if_neg N,if_neg N];rfl
 rw[if_pos N,if_pos N,if_neg (show ¬((0:Int)≠0)from fun h=>h rfl)]
 have hE:=st_eok N
 have hC:0≤Ent.cap (oneK tn):=by cases oneK tn<;>decide
 have hC2:Ent.cap (oneK tn)≤MX:=by cases oneK tn<;>decide
 have hnum: ∀e,e∈l.map (mvE tn m)→0≤num e∧num e≤Ent.cap (oneK tn):=fun e he=>by
  obtain⟨x,O,rfl⟩:=Wh.1 he
  exact mv_num I (hE x O)
 have csb: ∀(q:List En),(∀e,e∈q→0≤num e)→∀k,0≤cs (Ent.cap (oneK tn)) q k∧cs (Ent.cap (oneK tn)) q k≤Ent.cap (oneK tn):=fun q hq k=>by
  rw[cs_sm hC q hq]
  have:=sm_nn hq k
  omega
 have:=A.lp l (fun f (mm:List (Ky×Int)) y=>F.aj tn m l f mm y) (fun _ _ _=>some (foldP (oneK tn) (l.map (mvE tn m)) [],0)) (fun k mm=>(mm.map Prod.fst).Nodup∧(∀q,Z.mget 0 mm q=cs (Ent.cap (oneK tn)) ((l.take k).map (mvE tn m)) q)∧(∀p,p∈mm→hasK p.1)∧mm.length≤k)
  (fun f mm hp=>by
   show F.aj tn m l (f+1) mm _=_
   obtain⟨p1,Q,p3,p4⟩:=hp
   obtain⟨L,e1,e2,e3⟩:=list_eq mm p1 p3 (by omega)
   rw[F.aj,if_neg (by omega),e1,Qa]
   obtain⟨f1,f2⟩:=foldP_nil (one:=oneK tn) (l.map (mvE tn m)) hnum
   rw[List.take_length]at Q
   rw[nf_ext e2 f1.nf fun k=>by rw[e3,Q,f2]])
  (fun f mm k x O hk2 hp ih=>by
   show F.aj tn m l (f+1) mm _=_
   obtain⟨p1,Q,p3,p4⟩:=hp
   have V:=Qh O
   have hxE:=hE x V
   have hn:=mv_num I hxE
   have hq: ∀e,e∈(l.take k).map (mvE tn m)→0≤num e:=fun e he=>by
    obtain⟨z,hz,rfl⟩:=Wh.1 he
    exact(mv_num I (hE z (Xw hz))).1
   have hb:=csb _ hq (key (mvE tn m x))
   have hr:Z.R64 ((k:Int)+1):=⟨by omega,by omega⟩
   have htk:(l.take (k+1)).map (mvE tn m)=(l.take k).map (mvE tn m)++[mvE tn m x]:=by rw[X7,O];simp
   rw[F.aj,if_pos (by omega),A.ixn O,Qa]
   show(F.ct tn m x).bind _=_
   rw[moved_eq tn m x I hxE hs,Qa]
   show(F.af mm tn.2.1 (mvE tn m x)).bind _=_
   have goal: ∀v:Int,v=min (Ent.cap (oneK tn)) (cs (Ent.cap (oneK tn)) ((l.take k).map (mvE tn m)) (key (mvE tn m x))+num (mvE tn m x))→A.gd (Z.R64 ((k:Int)+1)) (F.aj tn m l f (Z.mins mm (key (mvE tn m x)) v) ((k:Int)+1))=some (foldP (oneK tn) (l.map (mvE tn m)) [],0):=fun v hv=>by
    rw[A.gd1 hr]
    refine ih _ ⟨Z.mins_nodup p1 _ _,fun q=>?_,fun p hp2=>?_,?_⟩
    ·rw[Vl,htk,cs_snoc]
     by_cases H:q=key (mvE tn m x)
     ·rw[if_pos H,if_pos H.symm,H];exact hv
     ·rw[if_neg H,if_neg (fun h=>H h.symm)];exact Q q
    ·have E:p.1∈(Z.mins mm (key (mvE tn m x)) v).map Prod.fst:=Wh.2 ⟨p,hp2,rfl⟩
     rw[Z.mins_keys]at E
     have hxk:=mv_has I hxE ht (hk x V)
     split at E
     ·obtain⟨p',h6,h7⟩:=Wh.1 E
      rw[←h7];exact p3 p' h6
     ·rcases Qu.1 E with E|E
      ·obtain⟨p',h6,h7⟩:=Wh.1 E
       rw[←h7];exact p3 p' h6
      ·rw[Qi]at E;rw[E];exact hxk
    ·have E:=congrArg List.length (Z.mins_keys mm (key (mvE tn m x)) v)
     rw[Qr]at E
     split at E
     ·rw[Qr]at E;omega
     ·rw[Qj,Qr]at E
      simp only[Qd,Qm]at E
      omega
   rw[F.af]
   rcases I.tn with W|Y
   ·have hc:Ent.cap (oneK tn)=MX:=by unfold oneK;rw[W];rfl
    rw[hc]at hn hb goal
    have hg:Z.mget 0 mm (key (mvE tn m x))=cs MX ((l.take k).map (mvE tn m)) (key (mvE tn m x)):=by rw[Q,hc]
    rw[if_pos W]
    show(A.gd (Z.R64 (Z.mget 0 mm (key (mvE tn m x))+num (mvE tn m x))) (some (Z.mins mm (key (mvE tn m x)) (min 1099511627776 (Z.mget 0 mm (key (mvE tn m x))+num (mvE tn m x)))))).bind _=_
    rw[hg,A.gd1 ⟨by omega,by simp only[MX]at hn hb ⊢;omega⟩,Qa]
    exact goal _ rfl
   ·have hc:Ent.cap (oneK tn)=1:=by unfold oneK;rw[Y];rfl
    have h1n:=fresh_num I hxE Y
    rw[if_neg (by omega)]
    show(some (Z.mins mm (key (mvE tn m x)) (num (mvE tn m x)))).bind _=_
    rw[Qa]
    exact goal _ (by rw[hc,h1n];rw[hc]at hb;omega))
  (by have:=Qab;omega) [] ⟨Xq,fun q=>rfl,(fun p hp=>(Yr hp).elim),Qq _⟩
 exact this
theorem Qdu (one:Bool): ∀(l a:List En),(foldP one l a).length≤a.length+l.length
 | [],a=>Qq _
 |e::l,a=>by
  have H:=Qdu one l (putP e one a)
  have E: ∀(a:List En),(insP e one a).length≤a.length+1:=fun a=>by
   induction a with
   |nil=>simp[insP]
   |cons x a I=>
    unfold insP
    split
    ·simp
    ·(split)
     ·simp
     ·simp only[Qd];omega
  have J:(putP e one a).length≤a.length+1:=by
   unfold putP
   split
   ·omega
   ·exact E a
  show(foldP one l (putP e one a)).length≤_
  rw[Qd];omega
theorem begun_eq:F.ed=some true:=by kernel_rfl
def finN:Int→List En→Int
 |y,[]=>y
 |y,x::r=>finN (min (y+min (x.2.2.1.size:Int) 1048576) 1048576) r
theorem o_bQ (l:List En)(H:l.length≤maxLen): ∃b,F.eZ l=some b∧(b=true→l.length≤200):=by
 have hl':l.length≤9223372036854775807:=by simpa[maxLen] using H
 have I:(min (l.length:Int) 300).toNat≤l.length:=by omega
 refine⟨bif decide ((l.length:Int)≤200)then decide (finN 0 (List.take (min (l.length:Int) 300).toNat l)≤9000)else false,?_,fun h=>?_⟩
 ·have:=A.lp (List.take (min (l.length:Int) 300).toNat l) (fun f (y:Int) k=>F.bV l f y k) (fun _ r y=>some (bif decide ((l.length:Int)≤200)then decide (finN y r≤9000)else false)) (fun _ y=>0≤y∧y≤1048576)
   (fun f y hp=>by
    show F.bV l (f+1) y _=_
    rw[F.bV,if_neg (by omega)];rfl)
   (fun f y k x J hk hp L=>by
    show F.bV l (f+1) y _=_
    have E:k<300:=by rw[Qz]at hk;omega
    have N:(0:Int)≤(x.2.2.1.size:Int):=by omega
    rw[F.bV,if_pos (by omega),A.ixn J,Qa,A.gd1 ⟨by omega,by omega⟩,A.gd1 ⟨by omega,by omega⟩]
    exact L _ ⟨by omega,by omega⟩)
   (by have:=Qab;rw[Qz];omega) 0 ⟨by omega,by omega⟩
  rw[F.eZ,A.gd1 ⟨by omega,I⟩]
  exact this
 ·by_cases E:(l.length:Int)≤200
  ·omega
  ·rw[decide_eq_false E]at h;cases h
theorem Qgo {one:Bool}: ∀(l a:List En) {e:En},e∈foldP one l a→(∃x,x∈a∧key e=key x)∨∃x,x∈l∧key e=key x
 | [],a,e,h=>.inl ⟨e,h,rfl⟩
 |x::l,a,e,h=>by
  rcases Qgo l (putP x one a) h with⟨y,E,H⟩|⟨y,E,H⟩
  ·unfold putP at E
   split at E
   ·exact .inl ⟨y,E,H⟩
   ·rcases insP_key E with I|⟨z,I,J⟩
    ·exact .inr ⟨x,Qf ..,H.trans I⟩
    ·exact .inl ⟨z,I,H.trans J⟩
  ·exact .inr ⟨y,Qb _ E,H⟩
theorem mv_nums {tn:Nd}{m:Mv}{l:List En}(E:Mok tn m)(H: ∀e,e∈l→Eok tn e): ∀e,e∈l.map (mvE tn m)→0≤num e∧num e≤Ent.cap (oneK tn):=fun e I=>by
 obtain⟨x,J,rfl⟩:=Wh.1 I
 exact mv_num E (H x J)
theorem mv_node (tn:Nd)(m:Mv)(e:En):(mvE tn m e).1=tn.1:=by
 unfold mvE
 split
 ·rfl
 ·split<;>rfl
def ofP (l:List En)(id:Int):List En:=l.filter fun e=>decide (e.1=id)
theorem Qdq {l:List En}{id:Int}{e:En}:e∈ofP l id↔e∈l∧e.1=id:=by simp[ofP]
theorem Qcu (l:List En)(id:Int):(ofP l id).length≤l.length:=Xj _ _
theorem cnt_of (l:List En): ∀(ids:List Int),ids.Nodup→(ids.map fun i=>(ofP l i).length).sum=(l.filter fun e=>decide (e.1∈ids)).length
 | [],_=>by rw[List.filter_eq_nil_iff.2 (by simp)];rfl
 |i::r,h=>by
  obtain⟨I,E⟩:=Q8.1 h
  rw[Qv,List.sum_cons,cnt_of l r E]
  clear E h
  unfold ofP
  induction l with
  |nil=>rfl
  |cons e l H=>
   simp only[Ww,Qg,decide_eq_true_eq]at H ⊢
   by_cases a:e.1=i
   ·have J:e.1∉r:=fun h=>I (a▸h)
    rw[if_pos a,if_neg J,if_pos (.inl a),Qd,Qd];omega
   ·by_cases b:e.1∈r
    ·rw[if_neg a,if_pos b,if_pos (.inr b),Qd,Qd];omega
    ·rw[if_neg a,if_neg b,if_neg (fun h=>h.elim a b)];exact H
theorem all_of {l:List En}{ids:List Int}(E:ids.Nodup)(h:(ids.map fun i=>(ofP l i).length).sum=l.length): ∀e∈l,e.1∈ids:=fun e H=>by
 have:=List.length_filter_eq_length_iff.1 ((cnt_of l ids E).symm.trans h) e H
 simpa using this
abbrev Dk (X:List En):Prop:=X.Pairwise fun a b=>key a≠key b
theorem dk_st {n:Nd}{l:List En}(h:stP n l=true):Dk l:=(Qir.1 h).2.imp fun {a b} h e=>by
 have e2:rec a=rec b:=congrArg Prod.snd e
 rw[e2,rl_irr]at h;cases h
theorem dk_srt {l:List En}(h:Srt l):Dk l:=h.imp fun h=>kl_ne h
def insM (mm:List (Go.Ent.Ky×Int))(X:List En):List (Go.Ent.Ky×Int):=X.foldl (fun m e=>Z.mins m (key e) (num e)) mm
theorem Qen: ∀(X:List En) (mm:List (Go.Ent.Ky×Int)),(mm.map Prod.fst).Nodup→((insM mm X).map Prod.fst).Nodup
 | [],_,h=>h
 |e::X,mm,h=>Qen X _ (Z.mins_nodup h _ _)
theorem Qgs: ∀(X:List En) (mm:List (Go.Ent.Ky×Int)) (k:Go.Ent.Ky),k∈(insM mm X).map Prod.fst→k∈mm.map Prod.fst∨∃e,e∈X∧k=key e
 | [],_,_,h=>.inl h
 |e::X,mm,k,h=>by
  rcases Qgs X _ k h with E|⟨x,E,H⟩
  ·rw[Z.mins_keys]at E
   split at E
   ·exact .inl E
   ·rcases Qu.1 E with E|E
    ·exact .inl E
    ·rw[Qi]at E;exact .inr ⟨e,Qf ..,E⟩
  ·exact .inr ⟨x,Qb _ E,H⟩
theorem insM_len: ∀(X:List En) (mm:List (Go.Ent.Ky×Int)),(insM mm X).length≤mm.length+X.length
 | [],_=>Qq _
 |e::X,mm=>by
  have H:=insM_len X (Z.mins mm (key e) (num e))
  have E:=congrArg List.length (Z.mins_keys mm (key e) (num e))
  rw[Qr]at E
  have I:(Z.mins mm (key e) (num e)).length≤mm.length+1:=by
   split at E
   ·rw[Qr]at E;omega
   ·rw[Qj,Qr,List.length_singleton]at E;omega
  show(insM (Z.mins mm (key e) (num e)) X).length≤_
  rw[Qd];omega
theorem insM_get (k:Go.Ent.Ky): ∀(X:List En) (mm:List (Go.Ent.Ky×Int)),Z.mget 0 (insM mm X) k=X.foldl (fun v e=>if key e=k then num e else v) (Z.mget 0 mm k)
 | [],_=>rfl
 |e::X,mm=>by
  show Z.mget 0 (insM (Z.mins mm (key e) (num e)) X) k=_
  rw[insM_get k X,Vl,X5]
  by_cases h:key e=k
  ·rw[if_pos h,if_pos h.symm]
  ·rw[if_neg h,if_neg (fun e=>h e.symm)]
theorem Qfh (mm:List (Go.Ent.Ky×Int))(X Y:List En):insM mm (X++Y)=insM (insM mm X) Y:=by unfold insM;rw[List.foldl_append]
theorem Qjc {k:Go.Ent.Ky}: ∀(X:List En) (v:Int),(∀e,e∈X→key e≠k)→X.foldl (fun v e=>if key e=k then num e else v) v=v
 | [],_,_=>rfl
 |e::X,v,h=>by rw[X5,if_neg (h e (Qf ..))];exact Qjc X v fun e E=>h e (Qb _ E)
theorem Qji {x:En}: ∀(X:List En) (v:Int),Dk X→x∈X→X.foldl (fun v e=>if key e=key x then num e else v) v=num x
 |e::X,v,H,E=>by
  rw[X5]
  rcases Qg.1 E with rfl|E
  ·rw[if_pos rfl];exact Qjc X _ fun e' he' h=>(Qo.1 H).1 e' he' h.symm
  ·exact Qji X _ (Qo.1 H).2 E
structure Nm (X:List En):Prop where
 dk:Dk X
 b: ∀e,e∈X→0≤num e∧num e≤MX
theorem Qiw {k:Go.Ent.Ky}: ∀(X:List En) (v:Int),Nm X→(v=0∨∀e,e∈X→key e≠k)→X.foldl (fun v e=>if key e=k then num e else v) v=X.foldl (fun a e=>if key e=k then min MX (a+num e)else a) v
 | [],_,_,_=>rfl
 |e::X,v,H,N=>by
  obtain⟨d1,d2⟩:=Qo.1 H.dk
  have E:Nm X:=⟨d2,fun e I=>H.b e (Qb _ I)⟩
  rw[X5,X5]
  by_cases h:key e=k
  ·have J:v=0:=N.resolve_right (fun L=>L e (Qf ..) h)
   have:=H.b e (Qf ..)
   rw[if_pos h,if_pos h,J,show min MX (0+num e)=num e by omega]
   exact Qiw X _ E (.inr fun e' he' h'=>d1 e' he' (h.trans h'.symm))
  ·rw[if_neg h,if_neg h];exact Qiw X v E (N.imp_right fun L e I=>L e (Qb _ I))
theorem put_cs {X:List En}(h:Nm X)(k:Go.Ent.Ky):gv (foldP false X []) k=X.foldl (fun v e=>if key e=k then num e else v) 0:=by
 obtain⟨I,E⟩:=foldP_nil (one:=false) X (fun e H=>h.b e H)
 rw[E];exact(Qiw X 0 h (.inl rfl)).symm
theorem list_put (X:List En)(h:Nm X)(hk: ∀e,e∈X→hasK (key e))(J:X.length*40≤140737488355328):F.au (insM [] X)=some (foldP false X []):=by
 obtain⟨L,e1,e2,e3⟩:=list_eq (insM [] X) (Qen X [] Xq) (fun p hp=>by
  rcases Qgs X [] p.1 (Wh.2 ⟨p,hp,rfl⟩)with E|⟨e,H,E⟩
  ·cases E
  ·rw[E];exact hk e H) (by have:=insM_len X [];simp only[Qm]at this;omega)
 rw[e1]
 obtain⟨I,N⟩:=foldP_nil (one:=false) X (fun e H=>h.b e H)
 rw[nf_ext e2 I.nf fun k=>by rw[e3,insM_get,put_cs h];rfl]
theorem put_mem {X:List En}(h:Nm X)(e:En):e∈foldP false X []↔e∈X∧num e≠0:=by
 obtain⟨N,W⟩:=foldP_nil (one:=false) X (fun e I=>h.b e I)
 constructor
 ·intro I
  have J:=(N.b e I).1
  have E:=gv_mem N.srt I
  rw[put_cs h]at E
  by_cases H: ∃x,x∈X∧key x=key e
  ·obtain⟨x,H,hk⟩:=H
   rw[←hk,Qji X 0 h.dk H]at E
   rw[←en_ext hk E]
   have O:1≤num x:=by rw[E];exact J
   exact⟨H,by omega⟩
  ·rw[Qjc X 0 fun x L hk=>H ⟨x,L,hk⟩]at E
   have O:1≤num e:=J
   omega
 ·rintro⟨H,J⟩
  have E:=put_cs h (key e)
  rw[Qji X 0 h.dk H]at E
  obtain⟨y,Q,hk,V⟩:=gv_at (l:=foldP false X []) (k:=key e) (by rw[E];exact J)
  rw[←en_ext hk (V.trans E)];exact Q
def mvs (T:Mv→Nd)(l:List En):List Mv→Int×List En
 | []=>(0,[])
 |m::r=>if(migP (T m) m (ofP l m.1)).2≠0 then((migP (T m) m (ofP l m.1)).2,[])else((mvs T l r).1,(migP (T m) m (ofP l m.1)).1++(mvs T l r).2)
theorem mvs_bad {T:Mv→Nd}{l:List En}{m:Mv}{r:List Mv}(h:(migP (T m) m (ofP l m.1)).2≠0):mvs T l (m::r)=((migP (T m) m (ofP l m.1)).2,[]):=by rw[mvs,if_pos h]
theorem mvs_good {T:Mv→Nd}{l:List En}{m:Mv}{r:List Mv}(h:(migP (T m) m (ofP l m.1)).2=0):mvs T l (m::r)=((mvs T l r).1,(migP (T m) m (ofP l m.1)).1++(mvs T l r).2):=by rw[mvs,if_neg (fun E=>E h)]
theorem o_bF {T:Mv→Nd}{l:List En}: ∀{r:List Mv},(mvs T l r).1=0→(mvs T l r).2=r.flatMap (fun m=>(migP (T m) m (ofP l m.1)).1)∧∀m,m∈r→(migP (T m) m (ofP l m.1)).2=0
 | [],_=>⟨rfl,fun _ h=>by cases h⟩
 |m::r,h=>by
  unfold mvs at h ⊢
  by_cases E:(migP (T m) m (ofP l m.1)).2=0
  ·rw[if_neg (fun h=>h E)]at h ⊢
   obtain⟨I,J⟩:=o_bF (r:=r) h
   refine⟨by rw[Y8];exact congrArg _ I,fun x H=>?_⟩
   rcases Qg.1 H with rfl|H
   ·exact E
   ·exact J x H
  ·rw[if_pos E]at h;exact absurd h E
structure Og (id:Int) (o:List En):Prop where
 dk:Dk o
 e: ∀e,e∈o→e.1=id∧(0≤num e∧num e≤MX)∧hasK (key e)
theorem mig_og {tn:Nd}{m:Mv}{q:List En}(h:(migP tn m q).2=0)(hk: ∀e,e∈q→hasK (key e))(Y:A.h6 tn.1):Og tn.1 (migP tn m q).1∧(migP tn m q).1.length≤q.length:=by
 unfold migP at h ⊢
 by_cases J:m.2.1=tn.1
 case neg=>rw[if_pos J]at h;cases h
 rw[if_neg (fun h=>h J)]at h ⊢
 by_cases E:Qec (frm tn m) tn m=0
 case neg=>rw[if_pos E]at h;cases h
 rw[if_neg (fun h=>h E)]at h ⊢
 by_cases H:stP (frm tn m) q=true
 case neg=>rw[if_neg H]at h;cases h
 rw[if_pos H]
 have L:Mok tn m:=Mok.of (a:=frm tn m) (b:=tn) rfl E
 have N:=st_eok H
 obtain⟨O,_⟩:=foldP_nil (one:=oneK tn) (q.map (mvE tn m)) (mv_nums L N)
 have hc:Ent.cap (oneK tn)≤MX:=by cases oneK tn<;>decide
 refine⟨⟨dk_srt O.srt,fun e Q=>?_⟩,?_⟩
 ·have hb:=O.b e Q
  rcases Qgo _ _ Q with⟨x,I,_⟩|⟨x,I,V⟩
  ·cases I
  ·obtain⟨y,W,rfl⟩:=Wh.1 I
   refine⟨?_,⟨by omega,by omega⟩,by rw[V];exact mv_has L (N y W) Y (hk y W)⟩
   have:e.1=(mvE tn m y).1:=congrArg (fun k:Go.Ent.Ky=>k.1) V
   rw[this,mv_node]
 ·have:=Qdu (oneK tn) (q.map (mvE tn m)) []
  rw[Qr]at this;simpa using this
theorem og_flat {α:Type}{f:α→List En}{c:α→Int}{A:List α}(h: ∀a,a∈A→Og (c a) (f a))(I:A.Pairwise fun a b=>c a≠c b):Dk (A.flatMap f):=by
 refine List.pairwise_flatMap.2 ⟨fun a E=>(h a E).dk,I.imp_of_mem fun {a b} E J H x L y N hk=>H ?_⟩
 rw[←((h a E).e x L).1,←((h b J).e y N).1]
 exact congrArg (fun k:Go.Ent.Ky=>k.1) hk
end Go.Proofs.YtlhiofnikdppeaaGreatDoor
end
section
namespace Go.Proofs.YtlhiofnikdppeaaGreatDoor
open Go.RowKit Go.Graph
theorem Ins_eq (k:Int):F.dH k=F.d7 k:=rfl
theorem Qff (k:Int):F.d7 k=some (insK k):=by
 unfold F.d7 insK
 simp only[Bool.cond_decide]
 by_cases H:k<1<;>by_cases I:16<k<;>simp[H,I]
 by_cases E:k=1
 ·simp[E]
 ·by_cases J:k=5<;>by_cases L:k=9<;>simp[E,J,L]
theorem Qhf (c:UInt8):F.el c=some (Qas c):=by
 unfold F.el Qas
 by_cases E:(97:Int)≤(c.toNat:Int)<;>by_cases H:(c.toNat:Int)≤122<;>simp[E,H]
theorem digit_eq (c:UInt8):F.e9 c=some (Qgd c):=by
 unfold F.e9 Qgd
 by_cases E:(48:Int)≤(c.toNat:Int)<;>by_cases H:(c.toNat:Int)≤57<;>simp[E,H]
theorem name_eq (s:ByteArray)(hs:s.size≤5000):F.fj s=some (named s):=by
 have loop:F.cq s A.FU 0=some (Qcv s.data.toList):=A.lp0 s.data.toList (fun f y=>F.cq s f y) (fun _ l=>some (Qcv l))
  (fun f=>by rw[F.cq,if_neg (by rw[Qac];omega)];rfl)
  (fun f k x I hk J=>by
   have hk':k<s.size:=hk
   rw[F.cq,if_pos (by omega),A.ixn I,Qa,Qhf,Qa]
   cases H:Qas x with
   |true=>
    simp only[Wt,Qs,if_false,F.ea]
    rw[A.gd1 (A.r64n (by omega)),J];simp[Qcv,H]
   |false=>
    simp only[Xl,if_true,A.ixn I,Qa,digit_eq,F.ea]
    cases L:Qgd x with
    |true=>simp only[Wt,Qs,if_false];rw[A.gd1 (A.r64n (by omega)),J];simp[Qcv,H,L]
    |false=>simp[Qcv,H,L])
  (by rw[Qac];have:=Qab;omega)
 unfold F.fj named
 by_cases E:s=ByteArray.mk #[]
 ·simp[E,F.dD]
 ·by_cases N:(16:Int)<(s.size:Int)
  ·have h2': ¬(s.size:Int)≤16:=by omega
   simp[E,N,h2',F.dD]
  ·have h2':(s.size:Int)≤16:=by omega
   have O:=Qfl E
   have e0:A.ix s.data.toList 0=some (Z.bat s 0):=ixb O
   simp only[E,N,h2',decide_false,cond_false,Qs,if_false,e0,Qa,Qhf,F.dD,loop,decide_true,ne_eq,not_false_eq_true,Yf,Wn]
   cases Qas (Z.bat s 0)<;>simp
theorem named_eq (s:ByteArray)(hs:s.size≤9223372036854775807):F.bZ s=some (named s):=by
 have loop: ∀(n p f:Nat),s.size-p≤n→n<f→F.aC s f p=some ((if p=0∧0<s.size then Qas (Z.bat s 0)else true)&&Qcv (s.data.toList.drop p)&&(decide (s≠ByteArray.mk #[])&&decide ((s.size:Int)≤16))):=by
  intro n
  induction n with
  |zero=>
   intro p f hp Q
   obtain⟨f,rfl⟩: ∃f',f=f'+1:=⟨f-1,by omega⟩
   rw[F.aC,if_neg (by omega),Qfx (by omega),if_neg (by omega)]
   by_cases E:s=ByteArray.mk #[]<;>simp[E,Qcv]
  |succ n V=>
   intro p f hp Q
   obtain⟨f,rfl⟩: ∃f',f=f'+1:=⟨f-1,by omega⟩
   by_cases H:p<s.size
   ·rw[F.aC,if_pos H,Qgj H]
    rcases Yq (Z.bat s p).toNat 128 with O|O
    ·rw[dec_lt O]
     have L:=V (p+1) f (by omega) (by omega)
     rw[if_neg (fun h=>by omega)]at L
     simp only[L]
     have e1:(bif decide ((97:Int)≤((Z.bat s p).toNat:Int))then decide (((Z.bat s p).toNat:Int)≤122)else false)=decide ((97:Int)≤((Z.bat s p).toNat:Int)∧((Z.bat s p).toNat:Int)≤122):=by by_cases h:(97:Int)≤((Z.bat s p).toNat:Int)<;>simp[h]
     have e2:(bif decide ((65:Int)≤((Z.bat s p).toNat:Int))then decide (((Z.bat s p).toNat:Int)≤90)else false)=decide ((65:Int)≤((Z.bat s p).toNat:Int)∧((Z.bat s p).toNat:Int)≤90):=by by_cases h:(65:Int)≤((Z.bat s p).toNat:Int)<;>simp[h]
     rw[e1,e2]
     by_cases I:Qas (Z.bat s p)=true
     ·have hL':=I
      simp only[Qas,decide_eq_true_eq]at hL'
      have e3:(if p=0∧0<s.size then Qas (Z.bat s 0)else true)=true:=by split;rename_i h;rw[←h.1];exact I;rfl
      rw[e3]
      simp only[Qcv,W6,I,Bool.true_or,Wn]
      by_cases E:(97:Int)≤((Z.bat s p).toNat:Int)∧((Z.bat s p).toNat:Int)≤122
      ·simp[E]
      ·have W:=hL'.resolve_left E
       simp[E,W]
     ·have hL':=I
      simp only[Qas,decide_eq_true_eq,not_or]at hL'
      rw[Yu]at I
      simp only[hL'.1,hL'.2,decide_false,Qs,if_false,Xl,if_true]
      simp only[Qcv,W6,I,Xd]
      by_cases N:p=0
      ·subst N;simp[H,I]
      ·have h0': ¬(p:Int)=0:=by omega
       simp only[N,h0',decide_false,cond_false,false_and,if_false,Wn]
       by_cases J:Qgd (Z.bat s p)=true
       ·have hd':=J
        simp only[Qgd,decide_eq_true_eq]at hd'
        have a1: ¬((Z.bat s p).toNat:Int)<48:=by omega
        have a2: ¬(57:Int)<((Z.bat s p).toNat:Int):=by omega
        simp[a1,a2,J]
       ·have hd':=J
        simp only[Qgd,decide_eq_true_eq]at hd'
        rw[Yu]at J
        by_cases a1:((Z.bat s p).toNat:Int)<48
        ·simp[a1,J]
        ·have a2:(57:Int)<((Z.bat s p).toNat:Int):=by omega
         simp[a1,a2,J]
    ·have J:=dec_ge O
     have I:Qas (Z.bat s p)=false:=by unfold Qas;rw[decide_eq_false_iff_not];omega
     have Y:Qgd (Z.bat s p)=false:=by unfold Qgd;rw[decide_eq_false_iff_not];omega
     have b1: ¬((Utf8.decode s p).1:Int)≤122:=by omega
     have b2: ¬((Utf8.decode s p).1:Int)≤90:=by omega
     have b3:(57:Int)<((Utf8.decode s p).1:Int):=by omega
     have b4: ¬((Utf8.decode s p).1:Int)<48:=by omega
     simp[b1,b2,b3,b4,Qcv,I,Y]
   ·rw[F.aC,if_neg H,Qfx H,if_neg (by omega)]
    by_cases E:s=ByteArray.mk #[]<;>simp[E,Qcv]
 unfold F.bZ
 rw[loop s.size 0 A.FU (by omega) (by have:=Qab;omega)]
 unfold named
 by_cases E:s=ByteArray.mk #[]
 ·simp[E]
 ·have N:=Qfl E
  simp only[N,and_self,if_true,Wq,ne_eq,E,not_false_eq_true,decide_true,Wn]
  congr 1
  cases Qas (Z.bat s 0)<;>cases Qcv s.data.toList<;>simp
end Go.Proofs.YtlhiofnikdppeaaGreatDoor
end
section
end
section
end
section
namespace Go.Proofs.YtlhiofnikdppeaaGreatDoor
open Go.RowKit Go.Graph
def mapOf (g:List Nd):List (Int×Nd):=g.map fun n=>(n.1,n)
def Inc (g:List Nd):Prop:=g.Pairwise fun a b=>a.1<b.1
theorem Qet (z:Nd)(id:Int): ∀(k:Nat) (l:List Nd),(idxF id k l= -1∧(∀n∈l,n.1≠id)∧Z.mget z (mapOf l) id=z∧Z.mhas (mapOf l) id=false)∨(∃j n,idxF id k l=((k+j:Nat):Int)∧l[j]?=some n∧n.1=id∧Z.mget z (mapOf l) id=n∧Z.mhas (mapOf l) id=true)
 |k,[]=>.inl ⟨rfl,by simp,rfl,rfl⟩
 |k,x::r=>by
  unfold idxF mapOf
  simp only[Qv,Z.mget,Z.mhas]
  by_cases h:x.1=id
  ·rw[if_pos h,if_pos h.symm,if_pos h.symm]
   exact .inr ⟨0,x,rfl,rfl,h,rfl,rfl⟩
  ·rw[if_neg h,if_neg (fun e=>h e.symm),if_neg (fun e=>h e.symm)]
   rcases Qet z id (k+1) r with⟨E,H,I,J⟩|⟨j,n,E,H,I,J,N⟩
   ·refine .inl ⟨E,fun n L=>?_,I,J⟩
    rcases Qg.1 L with rfl|L
    ·exact h
    ·exact H n L
   ·exact .inr ⟨j+1,n,by rw[E];congr 1;omega,H,I,J,N⟩
theorem Qap (z:Nd)(g:List Nd)(id:Int):(idx g id= -1∧(∀n∈g,n.1≠id)∧Z.mget z (mapOf g) id=z∧Z.mhas (mapOf g) id=false)∨(∃(j:Nat) (n:Nd),idx g id=(j:Int)∧g[j]?=some n∧n.1=id∧Z.mget z (mapOf g) id=n∧Z.mhas (mapOf g) id=true):=by
 have:=Qet z id 0 g
 simp only[Ws]at this
 exact this
theorem Inc.lt {g:List Nd}(h:Inc g){i j:Nat}{a b:Nd}(H:g[i]?=some a)(I:g[j]?=some b)(E:i<j):a.1<b.1:=by
 obtain⟨J,rfl⟩:=Qc.1 H
 obtain⟨L,rfl⟩:=Qc.1 I
 exact X4.1 h i j J L E
theorem Inc.inj {g:List Nd}(h:Inc g){i j:Nat}{a b:Nd}(H:g[i]?=some a)(I:g[j]?=some b)(e:a.1=b.1):i=j:=by
 rcases Y7 i j with E|E|E
 ·have:=h.lt H I E;omega
 ·exact E
 ·have:=h.lt I H E;omega
theorem Inc.idx {g:List Nd}(h:Inc g){j:Nat}{n:Nd}(H:g[j]?=some n):Graph.idx g n.1=(j:Int):=by
 rcases Qap z0 g n.1 with⟨_,E,_⟩|⟨i,m,I,E,J,_⟩
 ·exact absurd rfl (E n (Qh H))
 ·rw[I,h.inj E H J]
theorem Inc.mget {g:List Nd}(h:Inc g){j:Nat}{n z:Nd}(E:g[j]?=some n):Z.mget z (mapOf g) n.1=n:=by
 rcases Qap z g n.1 with⟨_,H,_⟩|⟨i,m,L,H,I,J,_⟩
 ·exact absurd rfl (H n (Qh E))
 ·have:=h.inj H E I
  subst this
  rw[H]at E;injection E with E;rw[J,E]
theorem Qbl (g:List Nd)(id:Int)(I:g.length≤100):F.c9 g id=some (idx g id):=
 A.lp0 g (fun f y=>F.c8 g id f y) (fun k l=>some (idxF id k l))
  (fun f=>by rw[F.c8,if_neg (by omega)];rfl)
  (fun f k x E hk H=>by
   rw[F.c8,if_pos (by omega),A.ixn E,Qa,idxF]
   by_cases h:x.1=id
   ·rw[if_pos h,if_pos h]
   ·rw[if_neg h,if_neg h,A.gd1 (A.r64n (by omega)),H])
  (by have:=Qab;omega)
def ownQ (n:Nd):Bool:=if n.1<1∨255<n.1∨insK n.2.1<0∨(n.2.2.1.length:Int)≠insK n.2.1 then false else if ownC n then false else if n.2.1=1∨n.2.1=15 then named n.2.2.2.2.1 else decide (n.2.2.2.2.1=ByteArray.mk #[])
theorem Qfg (k:Int):F.a1 k=some (decide (k=1∨k=15)):=by
 unfold F.a1;rw[A.bo]
theorem gIns_eq (k:Int):F.dH k=some (insK k):=(Ins_eq k).trans (Qff k)
theorem own_eq (n:Nd)(hs:n.2.2.2.2.1.size≤9223372036854775807):F.dI n=some (ownQ n):=by
 have O: ∀y,F.cv n y=some (if y=true then false else if ownC n then false else if n.2.1=1∨n.2.1=15 then named n.2.2.2.2.1 else decide (n.2.2.2.2.1=ByteArray.mk #[])):=by
  intro y
  unfold F.cv F.cu ownC
  cases y with
  |true=>simp
  |false=>
   simp only[Qs,if_false,A.bo,decide_eq_true_eq,Qfg,Qa,named_eq _ hs,A.bn]
   by_cases H:n.2.1=14
   ·simp only[H,if_true,true_and,not_true_eq_false,ne_eq,false_and,or_false,if_false]
    by_cases E:n.2.2.2.2.2.1<1∨8<n.2.2.2.2.2.1∨n.2.2.2.2.2.2<1∨4<n.2.2.2.2.2.2
    ·have hc':((n.2.2.2.2.2.1<1∨8<n.2.2.2.2.2.1)∨n.2.2.2.2.2.2<1)∨4<n.2.2.2.2.2.2:=by omega
     rw[if_pos hc',if_pos E]
    ·have hc': ¬(((n.2.2.2.2.2.1<1∨8<n.2.2.2.2.2.1)∨n.2.2.2.2.2.2<1)∨4<n.2.2.2.2.2.2):=by omega
     rw[if_neg hc',if_neg E]
     simp
   ·simp only[H,if_false,false_and,not_false_eq_true,ne_eq,true_and,false_or,if_true]
    by_cases E: ¬n.2.2.2.2.2.1=0∨¬n.2.2.2.2.2.2=0
    ·rw[if_pos E,if_pos E]
    ·rw[if_neg E,if_neg E]
     by_cases I:n.2.1=1∨n.2.1=15
     ·rw[if_pos I,if_pos I]
     ·rw[if_neg I,if_neg I]
 unfold F.dI ownQ
 simp only[gIns_eq,Qa,O,A.bo,decide_eq_true_eq,F.cu]
 by_cases J:n.1<1∨255<n.1
 ·rw[if_pos J,if_pos (by omega)]
 ·rw[if_neg J]
  by_cases L:insK n.2.1<0
  ·rw[if_pos L,if_pos trivial,if_pos (by omega)]
  ·rw[if_neg L]
   by_cases N:(n.2.2.1.length:Int)≠insK n.2.1
   ·rw[if_pos N,if_pos (by omega)]
   ·have Q: ¬(n.1<1∨255<n.1∨insK n.2.1<0∨(n.2.2.1.length:Int)≠insK n.2.1):=by omega
    rw[if_neg N,if_neg Q]
def twiceF (l:List Nd)(n:Nd):Bool:=l.any fun x=>decide (x.2.1=n.2.1)&&decide (x.2.2.2.2.1=n.2.2.2.2.1)
theorem twice_eq (l:List Nd)(n:Nd)(N:l.length≤100):F.c l n=some (twiceF l n):=by
 have loop:F.a l n A.FU 0=some (if twiceF l n=true then(0:Int)else-1)∨∃i:Nat,F.a l n A.FU 0=some (i:Int)∧twiceF l n=true:=by
  have key: ∀(m k f:Nat),k+m=l.length→m<f→(twiceF (l.drop k) n=true∧∃i:Nat,F.a l n f (k:Int)=some (i:Int))∨(twiceF (l.drop k) n=false∧F.a l n f (k:Int)=some (-1)):=by
   intro m
   induction m with
   |zero=>
    intro k f hk J
    obtain⟨f,rfl⟩: ∃f',f=f'+1:=⟨f-1,by omega⟩
    rw[F.a,if_neg (by omega),Q2 (by omega)]
    exact .inr ⟨rfl,rfl⟩
   |succ m L=>
    intro k f hk J
    obtain⟨f,rfl⟩: ∃f',f=f'+1:=⟨f-1,by omega⟩
    have I:l[k]?=some l[k]:=Qe (by omega)
    generalize l[k]=x at I
    rw[F.a,if_pos (by omega),A.ixn I,Qa,F.dG,Qa,A.ba,A.dropx I]
    by_cases h:x.2.1=n.2.1∧x.2.2.2.2.1=n.2.2.2.2.1
    ·left
     exact⟨by simp[twiceF,h.1,h.2],k,by rw[if_pos (by simpa using h)]⟩
    ·rw[if_neg (by simpa using h),A.gd1 (A.r64n (by omega))]
     have e:twiceF (x::l.drop (k+1)) n=twiceF (l.drop (k+1)) n:=by
      simp only[twiceF,Xu]
      rw[←Bool.decide_and,decide_eq_false h,Xd]
     rw[e]
     exact L (k+1) f (by omega) (by omega)
  rcases key l.length 0 A.FU (by omega) (by have:=Qab;omega)with⟨E,i,H⟩|⟨E,H⟩
  ·rw[Wq]at E;exact .inr ⟨i,H,E⟩
  ·rw[Wq]at E;left;rw[E];exact H
 unfold F.c F.s
 rcases loop with h|⟨i,h,H⟩
 ·rw[show F.a l n A.FU 0=_ from h,Qa]
  cases twiceF l n<;>simp
 ·rw[show F.a l n A.FU 0=_ from h,Qa,H]
  simp
theorem Qbz {κ α:Type}[DecidableEq κ]: ∀{m:List (κ×α)} {k:κ} {x:α},Z.mhas m k=false→Z.mins m k x=m++[(k,x)]
 | [],_,_,_=>rfl
 |(a,y)::r,k,x,h=>by
  simp only[Z.mhas]at h
  by_cases hk:k=a
  ·rw[if_pos hk]at h;cases h
  ·rw[if_neg hk]at h
   unfold Z.mins
   rw[if_neg hk,Qbz h];rfl
theorem Qco {l:List Nd}{k:Int}(h: ∀n∈l,n.1≠k):Z.mhas (mapOf l) k=false:=by
 rcases Qap z0 l k with⟨_,_,_,E⟩|⟨j,n,_,H,E,_⟩
 ·exact E
 ·exact absurd E (h n (Qh H))
theorem Qbj {α:Type}{l:List α}{k:Nat}{x:α}(h:l[k]?=some x):l.take (k+1)=l.take k++[x]:=by rw[X7,h];rfl
def okL (g:List Nd):Nat→Int→List Nd→Bool
 |_,_,[]=>true
 |k,last,n::r=>if n.1≤last∨ownQ n=false∨((n.2.1=1∨n.2.1=15)∧twiceF (g.take k) n=true)then false else okL g (k+1) n.1 r
theorem whole_l6 (g:List Nd)(hg:g.length≤100)(W: ∀x,x∈g→x.2.2.2.2.1.size≤9223372036854775807):F.y g A.FU [] 0 0=if okL g 0 0 g=true then F.av g (mapOf g) A.FU 0 else some (none,80):=
 A.lp g (fun f (s:List (Int×Nd)×Int) y=>F.y g f s.1 s.2 y) (fun k l s=>if okL g k s.2 l=true then F.av g (mapOf g) A.FU 0 else some (none,80)) (fun k s=>s.1=mapOf (g.take k)∧∀n∈g.take k,n.1≤s.2)
  (fun f s hp=>by
   rw[F.y,if_neg (by omega),okL,if_pos rfl,hp.1,Q3 (Qq _)])
  (fun f s k x L hk hp Y=>by
   obtain⟨hm,I⟩:=hp
   have hown:=own_eq x (W x (Qh L))
   have V: ∀y,F.b3 (F.y g f) s.1 s.2 (k:Int) x y=if x.1≤s.2∨ownQ x=false∨y=true then some (none,80)else F.y g f (Z.mins s.1 x.1 x) x.1 ((k:Int)+1):=by
    intro y
    rw[F.b3]
    simp only[F.cy,if_true]
    by_cases J:x.1≤s.2
    ·rw[if_pos J,if_pos (.inl J)]
    ·rw[if_neg J,show F.dI x=_ from hown,Qa,A.gd1 (A.r64n (by omega))]
     cases ownQ x<;>cases y<;>simp[J]
   have hnew: ¬x.1≤s.2→F.y g f (Z.mins s.1 x.1 x) x.1 ((k:Int)+1)=if okL g (k+1) x.1 (g.drop (k+1))=true then F.av g (mapOf g) A.FU 0 else some (none,80):=fun J=>by
    rw[hm,Qbz (Qco fun n N e=>by have:=I n N;omega)]
    refine Y (mapOf (g.take k)++[(x.1,x)],x.1) ⟨?_,fun n N=>?_⟩
    ·rw[Qbj L];simp[mapOf]
    ·rw[Qbj L]at N
     rcases Qu.1 N with O|O
     ·have:=I n O;simp only[];omega
     ·rw[Qi]at O;subst O;exact Yo _
   rw[F.y,if_pos (by omega),A.ixn L,Qa,Qfg,Qa,okL]
   by_cases Q:x.2.1=1∨x.2.1=15
   ·rw[if_pos (by simpa using Q),A.gd1 ⟨by omega,by omega⟩,show((k:Int)).toNat=k from Qt k,
     show F.c (List.take k g) x=_ from twice_eq (g.take k) x (by rw[Qz];omega),Qa,V]
    by_cases E:x.1≤s.2∨ownQ x=false∨twiceF (g.take k) x=true
    ·have H:x.1≤s.2∨ownQ x=false∨((x.2.1=1∨x.2.1=15)∧twiceF (g.take k) x=true):=by rcases E with h|h|h;exact .inl h;exact .inr (.inl h);exact .inr (.inr ⟨Q,h⟩)
     rw[if_pos E,if_pos H,if_neg Q4]
    ·have H: ¬(x.1≤s.2∨ownQ x=false∨((x.2.1=1∨x.2.1=15)∧twiceF (g.take k) x=true)):=fun h=>E (by rcases h with h|h|h;exact .inl h;exact .inr (.inl h);exact .inr (.inr h.2))
     rw[if_neg E,if_neg H]
     exact hnew fun h=>E (.inl h)
   ·rw[if_neg (by simpa using Q),V]
    by_cases E:x.1≤s.2∨ownQ x=false
    ·have H:x.1≤s.2∨ownQ x=false∨((x.2.1=1∨x.2.1=15)∧twiceF (g.take k) x=true):=by rcases E with h|h;exact .inl h;exact .inr (.inl h)
     rw[if_pos (by rcases E with h|h;exact .inl h;exact .inr (.inl h)),if_pos H,if_neg Q4]
    ·have H: ¬(x.1≤s.2∨ownQ x=false∨((x.2.1=1∨x.2.1=15)∧twiceF (g.take k) x=true)):=fun h=>E (by rcases h with h|h|h;exact .inl h;exact .inr h;exact absurd h.1 Q)
     rw[if_neg (fun h=>E (by rcases h with h|h|h;exact .inl h;exact .inr h;cases h)),if_neg H]
     exact hnew fun h=>E (.inl h))
  (by have:=Qab;omega) ([],0) ⟨rfl,by simp⟩
theorem whole_l5 (g:List Nd)(m:List (Int×Nd))(L:g.length≤100)(H: ∀x,x∈g→x.2.2.2.1.2.2.size≤9223372036854775807):F.av g m A.FU 0=if g.all (fun n=>decide (chk n.2.1 n.2.2.2.1=0))=true then F.ad g m A.FU 0 else some (none,60):=
 A.lp0 g (fun f y=>F.av g m f y) (fun _ l=>if l.all (fun n=>decide (chk n.2.1 n.2.2.2.1=0))=true then F.ad g m A.FU 0 else some (none,60))
  (fun f=>by rw[F.av,if_neg (by omega)];rfl)
  (fun f k x E hk I=>by
   have h6:chk x.2.1 x.2.2.2.1≠0→chk x.2.1 x.2.2.2.1=60:=by
    intro h;unfold chk anyF at h ⊢;repeat' split
    all_goals first|rfl|(exfalso;simp_all;done)
   rw[F.av,if_pos (by omega),A.ixn E,Qa,show F.cn x.2.1 x.2.2.2.1=_ from Qbt x.2.1 x.2.2.2.1 (H x (Qh E)),Qa,W6]
   by_cases h:chk x.2.1 x.2.2.2.1=0
   ·rw[if_neg (fun J=>J h),A.gd1 (A.r64n (by omega)),I,decide_eq_true h,Wn]
   ·rw[if_pos h,decide_eq_false h,Yp,if_neg (by simp),h6 h])
  (by have:=Qab;omega)
def inOk (g:List Nd)(k:Int):Bool:=if idx g k<0 then false else decide ((at_ g (idx g k)).2.1≠15)
def sortP (g:List Nd)(m:List (Int×Nd)):Option ((Option ((List (Int×Nd))×(List Int)×(List (Int×Int))))×Int):=
 (F.aV (m,[],[]) g).bind fun r73=>(if(!r73.1)=true then(some (none,81))else((F.aU r73.2).bind fun r79=>(if(!r79.1)=true then(some (none,80))else((F.bx r79.2 g).bind fun r85=>(if r85=true then(some (none,81))else(some (some r79.2,0)))))))
theorem whole_l4 (g:List Nd)(hg:g.length≤100)(Q: ∀x,x∈g→x.2.2.1.length≤5000):F.ad g (mapOf g) A.FU 0=if g.all (fun n=>n.2.2.1.all (inOk g))=true then sortP g (mapOf g)else some (none,80):=
 A.lp0 g (fun f y=>F.ad g (mapOf g) f y) (fun _ l=>if l.all (fun n=>n.2.2.1.all (inOk g))=true then sortP g (mapOf g)else some (none,80))
  (fun f=>by rw[F.ad,if_neg (by omega)];rfl)
  (fun f k x L hk V=>by
   rw[F.ad,if_pos (by omega),A.ixn L,Qa]
   have hlen:=Q x (Qh L)
   have loop:=A.lp0 x.2.2.1 (fun E y=>F.bz (F.ad g (mapOf g) f) (mapOf g) (k:Int) x E y) (fun _ l=>if l.all (inOk g)=true then F.ad g (mapOf g) f ((k:Int)+1)else some (none,80))
    (fun E=>by rw[F.bz,if_neg (by omega),A.gd1 (A.r64n (by omega))];rfl)
    (fun E j y W Y H=>by
     rw[F.bz,if_pos (by omega),A.ixn W,Qa,A.lt,W6]
     rcases Qap ((0,0,[],(0,0,(ByteArray.mk #[])),(ByteArray.mk #[]),0,0):Nd) g y with⟨N,_,O,I⟩|⟨i,n,N,h2,O,I,h5⟩
     ·rw[O,I]
      have:inOk g y=false:=by unfold inOk;rw[if_pos (by omega)]
      rw[this];simp
     ·rw[I,h5]
      have e:inOk g y=decide (n.2.1≠15):=by unfold inOk;rw[if_neg (by omega),Qbb N h2]
      rw[e,A.gd1 (A.r64n (by omega)),H]
      by_cases J:n.2.1=15<;>simp[J])
    (by have:=Qab;omega)
   rw[loop,V,W6]
   cases x.2.2.1.all (inOk g)with
   |true=>rw[if_pos rfl,Wn]
   |false=>rw[if_neg Q4,Yp,if_neg Q4])
  (by have:=Qab;omega)
theorem whole_P (g:List Nd)(H:Few g):F.b0 g=if(32:Int)<(g.length:Int)then some (none,80)else if okL g 0 0 g=true then(if g.all (fun n=>decide (chk n.2.1 n.2.2.2.1=0))=true then(if g.all (fun n=>n.2.2.1.all (inOk g))=true then sortP g (mapOf g)else some (none,80))else some (none,60))else some (none,80):=by
 have I:=H.1
 unfold F.b0
 rw[whole_l6 g (by omega) (fun x E=>Wl (H.2 x E).2.1 (by decide)),whole_l5 g _ (by omega) (fun x E=>Wl (H.2 x E).2.2 (by decide)),whole_l4 g (by omega) (fun x E=>(H.2 x E).1)]
theorem Named_eq (g:List Nd)(kd:Int)(s:ByteArray)(L:g.length≤100):F.fq g kd s=some (Qcl kd s g):=
 A.lp0 g (fun f y=>F.cB g kd s f y) (fun _ l=>some (Qcl kd s l))
  (fun f=>by rw[F.cB,if_neg (by omega)];rfl)
  (fun f k x E hk I=>by
   rw[F.cB,if_pos (by omega),A.ixn E,Qa,Qcl]
   simp only[F.ev,A.ixn E,Qa,A.gd1 (A.r64n (n:=k) (by omega)),I,decide_eq_true_eq,kind,name]
   by_cases H:x.2.1=kd
   ·by_cases J:x.2.2.2.2.1=s<;>simp[H,J]
   ·simp[H])
  (by have:=Qab;omega)
theorem R_own_eq (g:List Nd)(i:Nat)(n:Nd)(Q:g[i]?=some n)(W:g.length≤100)(hs:n.2.2.2.2.1.size≤5000):F.fg g (i:Int)=some (own g (i:Int) n):=by
 have Y:=(Qc.1 Q).1
 have N:F.dZ g n=some (ownT g n):=by
  unfold F.dZ ownT
  simp only[A.ba,decide_eq_true_eq,Named_eq g _ _ W,name_eq _ hs,Qa]
  by_cases h:n.2.1≠1∧n.2.1≠15
  ·rw[if_pos h,if_pos h]
  ·rw[if_neg h,if_neg h];cases named n.2.2.2.2.1<;>rfl
 have O: ∀y,F.bi g n y=some (if y=true then false else if ownC n then false else ownT g n):=by
  intro y
  unfold F.bi ownC
  cases y with
  |true=>simp
  |false=>
   simp only[Qs,if_false,A.bo,decide_eq_true_eq,N]
   by_cases L:n.2.1=14
   ·simp only[L,if_true,true_and,not_true_eq_false,ne_eq,false_and,or_false]
    by_cases E:n.2.2.2.2.2.1<1∨8<n.2.2.2.2.2.1∨n.2.2.2.2.2.2<1∨4<n.2.2.2.2.2.2
    ·rw[if_pos (by omega),if_pos E]
    ·rw[if_neg (by omega),if_neg E]
   ·simp only[L,if_false,false_and,not_false_eq_true,ne_eq,true_and,false_or]
    by_cases E: ¬n.2.2.2.2.2.1=0∨¬n.2.2.2.2.2.2=0
    ·rw[if_pos E,if_pos E]
    ·rw[if_neg E,if_neg E]
 have tail:(if insK n.2.1<0 then F.bi g n true else F.bi g n (decide ((n.2.2.1.length:Int)≠insK n.2.1)))=some (if insK n.2.1<0∨(n.2.2.1.length:Int)≠insK n.2.1 then false else if ownC n then false else ownT g n):=by
  simp only[O,decide_eq_true_eq]
  by_cases H:insK n.2.1<0
  ·rw[if_pos H,if_pos trivial,if_pos (.inl H)]
  ·by_cases I:(n.2.2.1.length:Int)≠insK n.2.1
   ·rw[if_neg H,if_pos I,if_pos (.inr I)]
   ·have J: ¬(insK n.2.1<0∨(n.2.2.1.length:Int)≠insK n.2.1):=fun h=>h.elim H I
    rw[if_neg H,if_neg I,if_neg J]
 unfold F.fg own
 rw[A.ixn Q,Qa]
 simp only[Qff,Qa,A.bo,decide_eq_true_eq]
 by_cases H:n.1<1∨255<n.1
 ·rw[if_pos H,O,if_pos rfl,if_pos (by omega)]
 ·rw[if_neg H]
  by_cases V:(0:Int)<(i:Int)
  ·rw[if_pos V,A.gd1 ⟨by omega,by omega⟩]
   have hp:g[i-1]?=some g[i-1]:=Qe (by omega)
   generalize g[i-1]=q at hp
   have e:(i:Int)-1=((i-1:Nat):Int):=by omega
   rw[e,A.ixn hp,Qa,Qbb rfl hp]
   by_cases I:n.1≤q.1
   ·rw[if_pos I,O,if_pos rfl,if_pos (by omega)]
   ·rw[if_neg I,tail]
    by_cases J:insK n.2.1<0∨(n.2.2.1.length:Int)≠insK n.2.1
    ·rw[if_pos J,if_pos (by omega)]
    ·have E: ¬(n.1<1∨255<n.1∨(0:Int)<(i:Int)∧n.1≤q.1∨insK n.2.1<0∨(n.2.2.1.length:Int)≠insK n.2.1):=by omega
     rw[if_neg J,if_neg E]
  ·rw[if_neg V,tail]
   by_cases J:insK n.2.1<0∨(n.2.2.1.length:Int)≠insK n.2.1
   ·rw[if_pos J,if_pos (by omega)]
   ·have E: ¬(n.1<1∨255<n.1∨(0:Int)<(i:Int)∧n.1≤(at_ g ((i:Int)-1)).1∨insK n.2.1<0∨(n.2.2.1.length:Int)≠insK n.2.1):=by omega
    rw[if_neg J,if_neg E]
def okR (g:List Nd):Nat→List Nd→Bool
 |_,[]=>true
 |k,n::r=>own g (k:Int) n&&okR g (k+1) r
theorem parts_l5 (g:List Nd)(H:g.length≤100)(I: ∀x,x∈g→x.2.2.2.2.1.size≤5000):F.cD g A.FU 0=if okR g 0 g=true then F.bL g A.FU 0 else some 80:=
 A.lp0 g (fun f y=>F.cD g f y) (fun k l=>if okR g k l=true then F.bL g A.FU 0 else some 80)
  (fun f=>by rw[F.cD,if_neg (by omega)];rfl)
  (fun f k x E hk J=>by
   rw[F.cD,if_pos (by omega),R_own_eq g k x E H (I x (Qh E)),Qa,A.gd1 (A.r64n (by omega)),J,okR]
   cases own g (k:Int) x<;>simp)
  (by have:=Qab;omega)
theorem parts_l4 (g:List Nd)(L:g.length≤100)(H: ∀x,x∈g→x.2.2.2.1.2.2.size≤5000):F.bL g A.FU 0=if g.all (fun n=>decide (chk n.2.1 n.2.2.2.1=0))=true then F.aZ g A.FU 0 else some 60:=
 A.lp0 g (fun f y=>F.bL g f y) (fun _ l=>if l.all (fun n=>decide (chk n.2.1 n.2.2.2.1=0))=true then F.aZ g A.FU 0 else some 60)
  (fun f=>by rw[F.bL,if_neg (by omega)];rfl)
  (fun f k x E hk I=>by
   rw[F.bL,if_pos (by omega),A.ixn E,Qa,Qa,show F.eI x.2.1 x.2.2.2.1=_ from Qhp x.2.1 x.2.2.2.1 (H x (Qh E)),Qa,W6]
   by_cases h:chk x.2.1 x.2.2.2.1=0
   ·rw[if_neg (fun J=>J h),A.gd1 (A.r64n (by omega)),I,decide_eq_true h,Wn]
   ·rw[if_pos h,decide_eq_false h,Yp,if_neg (by simp)])
  (by have:=Qab;omega)
theorem idx_get {g:List Nd}{id:Int}(h:0≤idx g id): ∃n,g[(idx g id).toNat]?=some n∧at_ g (idx g id)=n∧n.1=id:=by
 rcases Qap z0 g id with⟨E,_⟩|⟨i,n,E,H,I,_⟩
 ·omega
 ·exact⟨n,by rw[E];exact H,Qbb E H,I⟩
theorem parts_l3 (g:List Nd)(N:g.length≤100)(O: ∀x,x∈g→x.2.2.1.length≤5000):F.aZ g A.FU 0=if g.all (fun n=>n.2.2.1.all (inOk g))=true then some 0 else some 80:=
 A.lp0 g (fun f y=>F.aZ g f y) (fun _ l=>if l.all (fun n=>n.2.2.1.all (inOk g))=true then some 0 else some 80)
  (fun f=>by rw[F.aZ,if_neg (by omega)];rfl)
  (fun f k x H hk Q=>by
   rw[F.aZ,if_pos (by omega)]
   have hlen:=O x (Qh H)
   have loop:=A.lp0 x.2.2.1 (fun I y=>F.cC (F.aZ g f) g (k:Int) I y) (fun _ l=>if l.all (inOk g)=true then F.aZ g f ((k:Int)+1)else some 80)
    (fun I=>by rw[F.cC,A.ixn H,Qa,if_neg (by omega),A.gd1 (A.r64n (by omega))];rfl)
    (fun I j y V W J=>by
     rw[F.cC,A.ixn H,Qa,if_pos (by omega),Qa,A.ixn V,Qa,Qbl g y N,Qa,W6]
     simp only[F.ew,if_true,decide_eq_true_eq,A.gd1 (A.r64n (n:=j) (by omega)),J]
     by_cases E:idx g y<0
     ·have:inOk g y=false:=by unfold inOk;rw[if_pos E]
      rw[if_pos E,this];simp
     ·obtain⟨n,Y,h2,_⟩:=idx_get (g:=g) (id:=y) (by omega)
      have e:inOk g y=decide (n.2.1≠15):=by unfold inOk;rw[if_neg E,h2]
      rw[if_neg E,A.ixg (by omega) Y,Qa,e]
      by_cases L:n.2.1=15<;>simp[L])
    (by have:=Qab;omega)
   rw[loop,Q,W6]
   cases x.2.2.1.all (inOk g)with
   |true=>rw[if_pos rfl,Wn]
   |false=>rw[if_neg Q4,Yp,if_neg Q4])
  (by have:=Qab;omega)
def lastOf (g:List Nd)(k:Nat):Int:=if k=0 then 0 else(at_ g ((k:Int)-1)).1
def BadP (g:List Nd)(k:Nat)(n:Nd):Prop:=n.1≤lastOf g k∨ownQ n=false∨((n.2.1=1∨n.2.1=15)∧twiceF (g.take k) n=true)
theorem Qgi {g:List Nd}{k:Nat}{n:Nd}(h:g[k]?=some n):lastOf g (k+1)=n.1:=by
 unfold lastOf;rw[if_neg (by omega),Qbb (k:=k) (by omega) h]
theorem Qif (g:List Nd): ∀(m k:Nat),k+m=g.length→(okL g k (lastOf g k) (g.drop k)=true↔∀i n,k≤i→g[i]?=some n→¬BadP g i n)
 |0,k,h=>by
  rw[Q2 (by omega),okL]
  exact⟨fun _ i n J E=>by have:=(Qc.1 E).1;omega,fun _=>rfl⟩
 |m+1,k,h=>by
  have H:g[k]?=some g[k]:=Qe (by omega)
  generalize g[k]=x at H
  have L:=Qif g m (k+1) (by omega)
  rw[Qgi H]at L
  rw[A.dropx H,okL]
  by_cases I:BadP g k x
  ·have hb':x.1≤lastOf g k∨ownQ x=false∨((x.2.1=1∨x.2.1=15)∧twiceF (g.take k) x=true):=I
   rw[if_pos hb']
   exact⟨fun h=>(by cases h),fun h=>absurd I (h k x (Qq _) H)⟩
  ·have hb': ¬(x.1≤lastOf g k∨ownQ x=false∨((x.2.1=1∨x.2.1=15)∧twiceF (g.take k) x=true)):=I
   rw[if_neg hb',L]
   refine⟨fun h i n J E=>?_,fun h i n J E=>h i n (by omega) E⟩
   rcases Nat.eq_or_lt_of_le J with rfl|N
   ·rw[H]at E;injection E with E;subst E;exact I
   ·exact h i n N E
theorem Qiv (g:List Nd): ∀(m k:Nat),k+m=g.length→(okR g k (g.drop k)=true↔∀i n,k≤i→g[i]?=some n→own g (i:Int) n=true)
 |0,k,h=>by
  rw[Q2 (by omega),okR]
  exact⟨fun _ i n I E=>by have:=(Qc.1 E).1;omega,fun _=>rfl⟩
 |m+1,k,h=>by
  have H:g[k]?=some g[k]:=Qe (by omega)
  generalize g[k]=x at H
  have J:=Qiv g m (k+1) (by omega)
  rw[A.dropx H,okR,Qk,J]
  refine⟨fun h i n I E=>?_,fun h=>⟨h k x (Qq _) H,fun i n I E=>h i n (by omega) E⟩⟩
  rcases Nat.eq_or_lt_of_le I with rfl|L
  ·rw[H]at E;injection E with E;subst E;exact h.1
  ·exact h.2 i n L E
theorem inc_of {g:List Nd}(h: ∀i n,g[i]?=some n→lastOf g i<n.1):Inc g:=by
 unfold Inc
 have key: ∀(d i:Nat) (a b:Nd),g[i]?=some a→g[i+d+1]?=some b→a.1<b.1:=by
  intro d
  induction d with
  |zero=>intro i a b H E;have:=h _ b E;rw[Qgi H]at this;exact this
  |succ d J=>
   intro i a b H E
   have V:=(Qc.1 E).1
   have I:g[i+d+1]?=some g[i+d+1]:=Qe (by omega)
   have W:=J i a _ H I
   have L:=h _ b E
   rw[show i+(d+1)+1=(i+d+1)+1 by omega,Qgi I]at L
   omega
 refine X4.2 fun i j N O Q=>?_
 refine key (j-i-1) i _ _ (Qe N) ?_
 rw[show i+(j-i-1)+1=j by omega]
 exact Qe O
theorem Qdb (kd:Int)(s:ByteArray): ∀(l:List Nd),(∃(j:Nat) (n:Nd),l[j]?=some n∧n.2.1=kd∧n.2.2.2.2.1=s∧(Qcl kd s l)=(n.1,true)∧∀(i:Nat) (m:Nd),i<j→l[i]?=some m→¬(m.2.1=kd∧m.2.2.2.2.1=s))∨(Qcl kd s l=(0,false)∧∀m∈l,¬(m.2.1=kd∧m.2.2.2.2.1=s))
 | []=>.inr ⟨rfl,by simp⟩
 |x::r=>by
  unfold Qcl
  by_cases h:x.2.1=kd∧x.2.2.2.2.1=s
  ·rw[if_pos h]
   exact .inl ⟨0,x,rfl,h.1,h.2,rfl,fun i m J=>by omega⟩
  ·have h': ¬(kind x=kd∧name x=s):=h
   rw[if_neg h']
   rcases Qdb kd s r with⟨j,n,H,I,L,N,O⟩|⟨H,I⟩
   ·refine .inl ⟨j+1,n,H,I,L,N,fun i m J E=>?_⟩
    cases i with
    |zero=>injection E with E;subst E;exact h
    |succ i=>exact O i m (by omega) E
   ·refine .inr ⟨H,fun m E=>?_⟩
    rcases Qg.1 E with rfl|E
    ·exact h
    ·exact I m E
theorem Qhw {l:List Nd}{n:Nd}:twiceF l n=true↔∃m∈l,m.2.1=n.2.1∧m.2.2.2.2.1=n.2.2.2.2.1:=by
 simp only[twiceF,Yt,Qk,decide_eq_true_eq]
theorem own_iff {g:List Nd}(W:Inc g){k:Nat}{n:Nd}(N:g[k]?=some n)(Q:lastOf g k<n.1):own g (k:Int) n=true↔¬BadP g k n:=by
 have hname:(n.2.1=1∨n.2.1=15)→((Qcl n.2.1 n.2.2.2.2.1 g).1=n.1↔¬twiceF (g.take k) n=true):=fun _=>by
  rcases Qdb n.2.1 n.2.2.2.2.1 g with⟨j,m,E,I,J,Y,V⟩|⟨_,I⟩
  ·rw[Y]
   have hjk:j≤k:=by
    rcases Yq k j with h|h
    ·exact absurd ⟨rfl,rfl⟩ (V k n h N)
    ·exact h
   constructor
   ·intro he L
    have:j=k:=W.inj E N he
    subst this
    obtain⟨q,hq,h6⟩:=Qhw.1 L
    obtain⟨i,H⟩:=Wm.1 hq
    rw[Xa]at H
    split at H
    ·rename_i O;exact V i q O H h6
    ·cases H
   ·intro L
    rcases Yq j k with h|h
    ·exact absurd (Qhw.2 ⟨m,Wm.2 ⟨j,by rw[Xa,if_pos h];exact E⟩,I,J⟩) L
    ·obtain rfl:j=k:=by omega
     rw[N]at E;injection E with E;rw[E]
  ·exact absurd ⟨rfl,rfl⟩ (I n (Qh N))
 have hprev: ¬((0:Int)<(k:Int)∧n.1≤(at_ g ((k:Int)-1)).1):=fun h=>by
  unfold lastOf at Q;rw[if_neg (by omega)]at Q;omega
 unfold own BadP ownQ
 by_cases E:n.1<1∨255<n.1∨insK n.2.1<0∨(n.2.2.1.length:Int)≠insK n.2.1
 ·rw[if_pos (by omega),if_pos E]
  exact⟨fun h=>(by cases h),fun h=>absurd (.inr (.inl rfl)) h⟩
 ·have hc: ¬(n.1<1∨255<n.1∨(0:Int)<(k:Int)∧n.1≤(at_ g ((k:Int)-1)).1∨insK n.2.1<0∨(n.2.2.1.length:Int)≠insK n.2.1):=by omega
  rw[if_neg hc,if_neg E]
  by_cases I:ownC n
  ·rw[if_pos I,if_pos I]
   exact⟨fun h=>(by cases h),fun h=>absurd (.inr (.inl rfl)) h⟩
  ·rw[if_neg I,if_neg I]
   unfold ownT
   by_cases J:n.2.1=1∨n.2.1=15
   ·rw[if_neg (by omega),if_pos J,Qk,decide_eq_true_eq,hname J]
    constructor
    ·rintro⟨a,b⟩ (h|h|h)
     ·omega
     ·rw[a]at h;cases h
     ·exact b h.2
    ·intro h
     refine⟨?_,fun L=>h (.inr (.inr ⟨J,L⟩))⟩
     cases hq:named n.2.2.2.2.1 with
     |true=>rfl
     |false=>exact absurd (.inr (.inl hq)) h
   ·rw[if_pos (by omega),if_neg J]
    constructor
    ·rintro a (h|h|h)
     ·omega
     ·rw[a]at h;cases h
     ·exact J h.1
    ·intro h
     cases hq:decide (n.2.2.2.2.1=ByteArray.mk #[])with
     |true=>rfl
     |false=>exact absurd (.inr (.inl hq)) h
theorem own_last {g:List Nd}{k:Nat}{n:Nd}(h:own g (k:Int) n=true):lastOf g k<n.1:=by
 unfold own at h
 by_cases E:n.1<1∨255<n.1∨(0:Int)<(k:Int)∧n.1≤(at_ g ((k:Int)-1)).1∨insK n.2.1<0∨(n.2.2.1.length:Int)≠insK n.2.1
 ·rw[if_pos E]at h;cases h
 ·unfold lastOf;split<;>omega
theorem ok_eq (g:List Nd):okL g 0 0 g=okR g 0 g:=by
 have I:=Qif g g.length 0 (by omega)
 have J:=Qiv g g.length 0 (by omega)
 rw[Wq]at I J
 rw[show lastOf g 0=0 from rfl]at I
 rw[Yx,I,J]
 constructor
 ·intro h i n _ E
  have H: ∀i n,g[i]?=some n→lastOf g i<n.1:=fun i n E=>by
   have:=h i n (by omega) E
   exact Int.lt_of_not_ge fun L=>this (.inl L)
  exact(own_iff (inc_of H) E (H i n E)).2 (h i n (by omega) E)
 ·intro h i n _ E
  have H: ∀i n,g[i]?=some n→lastOf g i<n.1:=fun i n E=>own_last (h i n (by omega) E)
  exact(own_iff (inc_of H) E (H i n E)).1 (h i n (by omega) E)
theorem ok_inc {g:List Nd}(h:okR g 0 g=true):Inc g:=by
 have E:=Qiv g g.length 0 (by omega)
 rw[Wq]at E
 exact inc_of fun i n H=>own_last (E.1 h i n (by omega) H)
theorem parts_eq (g:List Nd)(H:Few g):F.eJ g=if(32:Int)<(g.length:Int)then some 80 else if okR g 0 g=true then(if g.all (fun n=>decide (chk n.2.1 n.2.2.2.1=0))=true then(if g.all (fun n=>n.2.2.1.all (inOk g))=true then some 0 else some 80)else some 60)else some 80:=by
 have I:=H.1
 unfold F.eJ
 rw[parts_l5 g (by omega) (fun x E=>(H.2 x E).2.1),parts_l4 g (by omega) (fun x E=>(H.2 x E).2.2),parts_l3 g (by omega) (fun x E=>(H.2 x E).1)]
theorem fed_of {g:List Nd}(h:g.all (fun n=>n.2.2.1.all (inOk g))=true):Fed g:=fun x H k hk=>by
 have E:=Q7.1 (Q7.1 h x H) k hk
 unfold inOk at E
 by_cases I:idx g k<0
 ·rw[if_pos I]at E;cases E
 ·omega
theorem bset_len {l:List Bool}{i:Nat}:(l.set i true).length=l.length:=Xc
theorem bget_get {l:List Bool}{i:Nat}(h:i<l.length):l[i]?=some (bget l (i:Int)):=by
 unfold bget;rw[Qt,Qe h];rfl
theorem bix {l:List Bool}{i:Int}(E:0≤i)(h:i<l.length):A.ix l i=some (bget l i):=by
 have e:i=((i.toNat:Nat):Int):=by omega
 rw[e];exact A.ixn (bget_get (by omega))
theorem iix {l:List Int}{i:Int}(E:0≤i)(h:i<l.length):A.ix l i=some (iget l i):=by
 refine A.ixg E ?_
 unfold iget;rw[Qe (by omega)];rfl
theorem ready_eq (g:List Nd)(n:Nd)(done:List Bool)(I:g.length≤100)(O:done.length=g.length)(Q:n.2.2.1.length≤5000)(J: ∀k∈n.2.2.1,0≤idx g k):F.fa g n done=some (ready g done n):=
 A.lp0 n.2.2.1 (fun f y=>F.cE g n done f y) (fun k l=>some (Qhx g done n.2.1 l))
  (fun f=>by rw[F.cE,if_neg (by omega)];rfl)
  (fun f k x H hk L=>by
   have N:=J x (Qh H)
   have V:=(idx_le g x).2
   rw[F.cE,if_pos (by omega),Qhx]
   simp only[F.ex,A.gd1 (A.r64n (n:=k) (by omega)),L]
   by_cases E:n.2.1=14
   ·simp[E]
   ·rw[if_pos E,A.ixn H,Qa,Qbl g x I,Qa,bix N (by omega),Qa]
    cases bget done (idx g x)<;>simp[E])
  (by have:=Qab;omega)
theorem order_l3 (g:List Nd)(O:Few g)(hfed:Fed g)(I:List Bool→List Int→Option (List Int×Bool))(done:List Bool)(l:List Int)(V:done.length=g.length)(W:l.length≤100):
  F.bM I g done l A.FU (-1) 0=if Qad g done 0 g (-1)<0 then some ([],false)else I (done.set (Qad g done 0 g (-1)).toNat true) (l++[Qad g done 0 g (-1)]):=
 A.lp g (fun f (a:Int) y=>F.bM I g done l f a y) (fun k t a=>if Qad g done k t a<0 then some ([],false)else I (done.set (Qad g done k t a).toNat true) (l++[Qad g done k t a])) (fun k a=> -1≤a∧a<g.length)
  (fun f a hp=>by
   rw[F.bM,A.ba,if_neg (by simp),Qad]
   by_cases h:a<0
   ·rw[if_pos h,if_pos h]
   ·rw[if_neg h,if_neg h,bix (by omega) (by omega),Qa,A.gd1 (by simp only[Qd,Qm];omega)])
  (fun f a k x J hk hp L=>by
   have hlen:=O.1
   rw[F.bM,A.ba,if_pos (by simp;omega),Qad]
   simp only[F.d0,F.ey,A.gd1 (A.r64n (n:=k) (by omega)),Qs,if_false]
   by_cases h:a<0
   ·by_cases E:bget done (k:Int)=true
    ·have e:(if(a<0∧bget done (k:Int)=false)∧ready g done x=true then(k:Int)else a)=a:=if_neg (by rw[E];simp)
     rw[e,if_pos h,bix (by omega) (by omega),Qa,E]
     simp only[Wt,Qs,if_false]
     exact L a hp
    ·rw[Yu]at E
     have H:F.fa g x done=some (ready g done x):=ready_eq g x done (by omega) V (O.in J) (hfed x (Qh J))
     by_cases N:ready g done x=true
     ·have e:(if(a<0∧bget done (k:Int)=false)∧ready g done x=true then(k:Int)else a)=k:=if_pos ⟨⟨h,E⟩,N⟩
      rw[e,if_pos h,bix (by omega) (by omega),Qa,E]
      simp only[Xl,if_true,A.ixn J,Qa]
      rw[H,Qa,if_pos N];exact L k (by omega)
     ·have e:(if(a<0∧bget done (k:Int)=false)∧ready g done x=true then(k:Int)else a)=a:=if_neg (fun Q=>N Q.2)
      rw[e,if_pos h,bix (by omega) (by omega),Qa,E]
      simp only[Xl,if_true,A.ixn J,Qa]
      rw[H,Qa,if_neg N];exact L a hp
   ·have e:(if(a<0∧bget done (k:Int)=false)∧ready g done x=true then(k:Int)else a)=a:=if_neg (fun Q=>h Q.1.1)
    rw[e,if_neg h];exact L a hp)
  (by have:=Qab;have:=O.1;omega) (-1) (by omega)
def ordR (g:List Nd)(r:Nat)(done:List Bool)(l:List Int):List Int×Bool:=match Qbh g r done l with
 |some l'=>(l',true)
 |none=>([],false)
theorem order_l4 (g:List Nd)(E:Few g)(hfed:Fed g): ∀(r f:Nat) (done:List Bool) (l:List Int),r<f→l.length+r=g.length→done.length=g.length→F.dh g f done l=some (ordR g r done l)
 |0,f,done,l,I,J,H=>by
  obtain⟨f,rfl⟩: ∃f',f=f'+1:=⟨f-1,by omega⟩
  rw[F.dh,if_neg (by omega)];rfl
 |r+1,f,done,l,I,J,H=>by
  obtain⟨f,rfl⟩: ∃f',f=f'+1:=⟨f-1,by omega⟩
  have:=E.1
  rw[F.dh,if_pos (by omega),order_l3 g E hfed _ done l H (by omega),ordR,Qbh]
  by_cases h:Qad g done 0 g (-1)<0
  ·rw[if_pos h,if_pos h]
  ·rw[if_neg h,if_neg h,order_l4 g E hfed r f _ _ (by omega) (by simp only[Qj,Qd,Qm];omega) (by rw[bset_len];exact H)]
   rfl
theorem R_order_eq (g:List Nd)(E:Few g)(hfed:Fed g):F.eh g=some (ordR g g.length (List.replicate g.length false) []):=by
 have:=E.1
 unfold F.eh
 rw[A.gd1 (by omega),order_l4 g E hfed g.length A.FU _ [] (by have:=Qab;omega) (by simp) (by simp)]
def Qeg (m:List (Int×Bool))(n:Nd):Bool:=n.2.2.1.all fun k=>Z.mget false m k||decide (n.2.1=14)
def Qga (m:List (Int×Bool)):List Nd→Option Nd
 | []=>none
 |n::r=>if Z.mget false m n.1=false∧Qeg m n=true then some n else Qga m r
def sortS (g:List Nd):Nat→List (Int×Bool)→List Int→List Int
 |0,_,xs=>xs
 |r+1,m,xs=>match Qga m g with
  |some n=>sortS g r (Z.mins m n.1 true) (xs++[n.1])
  |none=>sortS g r m xs
abbrev PlR:=Option (Bool×((List (Int×Nd))×(List Int)×(List (Int×Int))))
theorem sort_l4 (g:List Nd)(H:Few g)(k29:List Int→List (Int×Bool)→Int→PlR)(xs:List Int)(m:List (Int×Bool))(y:Int)(O:xs.length≤100)(hy:0≤y∧y≤100):
  F.j k29 g xs m y A.FU 0=match Qga m g with
   |some n=>k29 (xs++[n.1]) (Z.mins m n.1 true) (y+1)
   |none=>k29 xs m (y+1):=
 A.lp0 g (fun f i=>F.j k29 g xs m y f i) (fun _ l=>match Qga m l with
   |some n=>k29 (xs++[n.1]) (Z.mins m n.1 true) (y+1)
   |none=>k29 xs m (y+1))
  (fun f=>by rw[F.j,if_neg (by omega),F.a6,A.gd1 ⟨by omega,by omega⟩];rfl)
  (fun f k x N hk Q=>by
   have hlen:=H.1
   have V:=H.in N
   rw[F.j,if_pos (by omega),A.ixn N,Qa,A.lt,Qga]
   have loop:=A.lp0 x.2.2.1 (fun I j=>F.aM k29 (F.j k29 g xs m y f) xs m y (k:Int) x I j) (fun _ l=>if l.all (fun k=>Z.mget false m k||decide (x.2.1=14))=true then k29 (xs++[x.1]) (Z.mins m x.1 true) (y+1)else F.j k29 g xs m y f ((k:Int)+1))
    (fun I=>by rw[F.aM,if_neg (by omega),A.gd1 (by simp only[Qd,Qm];omega),F.a6,A.gd1 ⟨by omega,by omega⟩];rfl)
    (fun I j z W hj J=>by
     rw[F.aM,if_pos (by omega),A.ixn W,Qa,A.lt,A.gd1 (A.r64n (by omega)),J,F.a7,A.gd1 (A.r64n (by omega)),W6]
     cases Y:Z.mget false m z<;>by_cases L:x.2.1=14<;>simp[L])
    (by have:=Qab;omega)
   rw[loop,F.a7,A.gd1 (A.r64n (by omega)),Q]
   cases Y:Z.mget false m x.1 with
   |true=>
    have e: ¬((true:Bool)=false∧Qeg m x=true):=fun h=>by cases h.1
    rw[if_pos rfl,if_neg e]
   |false=>
    rw[if_neg Q4]
    by_cases E:Qeg m x=true
    ·have e:(false:Bool)=false∧Qeg m x=true:=⟨rfl,E⟩
     rw[if_pos (show(x.2.2.1.all fun k=>Z.mget false m k||decide (x.2.1=14))=true from E),if_pos e]
    ·have e: ¬((false:Bool)=false∧Qeg m x=true):=fun h=>E h.2
     rw[if_neg (show ¬(x.2.2.1.all fun k=>Z.mget false m k||decide (x.2.1=14))=true from E),if_neg e])
  (by have:=Qab;have:=H.1;omega)
theorem Qih (g:List Nd)(E:Few g)(a0:(List (Int×Nd))×(List Int)×(List (Int×Int))): ∀(r f:Nat) (m:List (Int×Bool)) (xs:List Int) (y:Nat),r<f→y+r=g.length→xs.length≤y→F.u a0 g f xs m (y:Int)=some (decide (((sortS g r m xs).length:Int)=(g.length:Int)),(a0.1,sortS g r m xs,a0.2.2))
 |0,f,m,xs,y,H,I,J=>by
  obtain⟨f,rfl⟩: ∃f',f=f'+1:=⟨f-1,by omega⟩
  rw[F.u,if_neg (by omega)];rfl
 |r+1,f,m,xs,y,H,I,J=>by
  obtain⟨f,rfl⟩: ∃f',f=f'+1:=⟨f-1,by omega⟩
  have:=E.1
  rw[F.u,if_pos (by omega),sort_l4 g E _ xs m y (by omega) (by omega),sortS]
  have e:(y:Int)+1=((y+1:Nat):Int):=by omega
  cases Qga m g with
  |none=>simp only[];rw[e,Qih g E a0 r f m xs (y+1) (by omega) (by omega) (by omega)]
  |some n=>simp only[];rw[e,Qih g E a0 r f _ _ (y+1) (by omega) (by omega) (by simp only[Qj,Qd,Qm];omega)]
theorem sort_eq (g:List Nd)(E:Few g)(m:List (Int×Nd)):F.aV (m,[],[]) g=some (decide (((sortS g g.length [] []).length:Int)=(g.length:Int)),(m,sortS g g.length [] [],[])):=by
 unfold F.aV
 exact Qih g E (m,[],[]) g.length A.FU [] [] 0 (by have:=Qab;have:=E.1;omega) (by omega) (by simp)
def Rel (g:List Nd)(done:List Bool)(m:List (Int×Bool)):Prop:=∀(i:Nat) (n:Nd),g[i]?=some n→Z.mget false m n.1=bget done (i:Int)
theorem ready_rel {g:List Nd}{done:List Bool}{m:List (Int×Bool)}(h:Rel g done m){n:Nd}(E: ∀k∈n.2.2.1,0≤idx g k):Qeg m n=ready g done n:=by
 unfold Qeg ready
 generalize n.2.2.1=l at E
 induction l with
 |nil=>rfl
 |cons k r L=>
  rw[W6,L fun x N=>E x (Qb _ N),Qhx]
  have I:=E k (Qf ..)
  obtain⟨q,O,V,Q⟩:=idx_get I
  have J:=h _ q O
  rw[Q,Wu I]at J
  rw[J]
  cases bget done (idx g k)<;>by_cases H:n.2.1=14<;>simp[H]
theorem Qdl (g:List Nd)(done:List Bool): ∀(k:Nat) (l:List Nd) (a:Int),0≤a→Qad g done k l a=a
 |_,[],_,_=>rfl
 |k,x::r,a,h=>by
  unfold Qad
  rw[if_neg (fun E=>by omega)]
  exact Qdl g done (k+1) r a h
theorem Qfd {g:List Nd}{done:List Bool}{m:List (Int×Bool)}(h:Rel g done m)(I:Fed g): ∀(r k:Nat),k+r=g.length→(Qad g done k (g.drop k) (-1)= -1∧Qga m (g.drop k)=none)∨(∃(i:Nat) (n:Nd),Qad g done k (g.drop k) (-1)=(i:Int)∧g[i]?=some n∧Qga m (g.drop k)=some n∧bget done (i:Int)=false)
 |0,k,hk=>by
  rw[Q2 (by omega)];exact .inl ⟨rfl,rfl⟩
 |r+1,k,hk=>by
  have H:g[k]?=some g[k]:=Qe (by omega)
  generalize g[k]=x at H
  rw[A.dropx H,Qad,Qga,h k x H,ready_rel h (I x (Qh H))]
  by_cases E:bget done (k:Int)=false∧ready g done x=true
  ·rw[if_pos E,if_pos ⟨⟨by omega,E.1⟩,E.2⟩,Qdl _ _ _ _ _ (by omega)]
   exact .inr ⟨k,x,rfl,H,rfl,E.1⟩
  ·rw[if_neg E,if_neg (fun J=>E ⟨J.1.2,J.2⟩)]
   exact Qfd h I r (k+1) (by omega)
def idAt (g:List Nd)(i:Int):Int:=(at_ g i).1
theorem rel_set {g:List Nd}(I:Inc g){done:List Bool}{m:List (Int×Bool)}(h:Rel g done m)(L:done.length=g.length){i:Nat}{n:Nd}(E:g[i]?=some n):Rel g (done.set i true) (Z.mins m n.1 true):=fun j q hq=>by
 rw[Vl]
 have N:=(Qc.1 E).1
 by_cases e:q.1=n.1
 ·have:=I.inj hq E e
  subst this
  rw[if_pos e]
  unfold bget
  rw[Qt,Yc (by omega)];rfl
 ·rw[if_neg e,h j q hq]
  have H:i≠j:=fun J=>e (by subst J;rw[E]at hq;injection hq with hq;rw[hq])
  unfold bget
  rw[Qt,List.getElem?_set_ne H]
theorem Qer {g:List Nd}(J:Inc g)(L:Fed g): ∀(r:Nat) (done:List Bool) (m:List (Int×Bool)) (l:List Int),Rel g done m→done.length=g.length→(∃l',Qbh g r done l=some l'∧sortS g r m (l.map (idAt g))=l'.map (idAt g)∧l'.length=l.length+r)∨(Qbh g r done l=none∧(sortS g r m (l.map (idAt g))).length <l.length+r)
 |0,done,m,l,_,_=>.inl ⟨l,rfl,rfl,rfl⟩
 |r+1,done,m,l,h,N=>by
  rw[Qbh,sortS]
  rcases Qfd h L g.length 0 (by omega)with⟨H,E⟩|⟨i,n,H,E,O,W⟩
  ·rw[Wq]at H E
   rw[H,if_pos (by omega),E]
   refine .inr ⟨rfl,?_⟩
   simp only[]
   have stay: ∀(r:Nat) (xs:List Int),sortS g r m xs=xs:=by
    intro r
    induction r with
    |zero=>intro xs;rfl
    |succ r Q=>intro xs;rw[sortS,E];exact Q xs
   rw[stay,Qr];omega
  ·rw[Wq]at H O
   rw[H,if_neg (by omega),O,Qt]
   simp only[]
   have e:l.map (idAt g)++[n.1]=(l++[(i:Int)]).map (idAt g):=by
    rw[Xb];simp only[Qv,W8,idAt,Qbb rfl E]
   rw[e]
   rcases Qer J L r (done.set i true) (Z.mins m n.1 true) (l++[(i:Int)]) (rel_set J h N E) (by rw[bset_len];exact N)with⟨l',I,h6,V⟩|⟨I,h6⟩
   ·exact .inl ⟨l',I,h6,by rw[V];simp only[Qj,Qd,Qm];omega⟩
   ·exact .inr ⟨I,by simp only[Qj,Qd,Qm]at h6;omega⟩
theorem rel_0 (g:List Nd):Rel g (List.replicate g.length false) []:=fun i n E=>by
 unfold bget
 rw[Qt,Y1]
 split<;>rfl
theorem order_sort {g:List Nd}(I:Few g)(N:Inc g)(J:Fed g)(m:List (Int×Nd)):(∃l,F.eh g=some (l,true)∧F.aV (m,[],[]) g=some (true,(m,l.map (idAt g),[]))∧l.length=g.length∧Qbh g g.length (List.replicate g.length false) []=some l)∨(F.eh g=some ([],false)∧∃p,F.aV (m,[],[]) g=some (false,p)):=by
 rw[R_order_eq g I J,sort_eq g I m,ordR]
 rcases Qer N J g.length (List.replicate g.length false) [] [] (rel_0 g) (by simp)with⟨l,H,E,L⟩|⟨H,E⟩
 ·rw[W8]at E
  rw[H,E]
  left
  refine⟨l,rfl,?_,by simpa using L,rfl⟩
  rw[Qr,decide_eq_true (by simp at L;omega)]
 ·rw[W8]at E
  rw[H]
  right
  refine⟨rfl,(m,sortS g g.length [] [],[]),?_⟩
  rw[decide_eq_false (by simp at E;omega)]
end Go.Proofs.YtlhiofnikdppeaaGreatDoor
end
section
namespace Go.A
theorem mrg_any {α β:Type}[DecidableEq β]{body:α→Option (Option β)}{rest:Option β}{y:β}{p:α→Bool}: ∀{l:List α},(∀x∈l,body x=if p x=true then some (some y)else some none)→mrg body rest l=if l.any p=true then some y else rest
 | [],_=>rfl
 |x::l,h=>by
  have I:=h x (Qf ..)
  have J:=mrg_any (rest:=rest) (l:=l) fun z E=>h z (Qb _ E)
  unfold mrg
  rw[I,Xu]
  cases hp:p x with
  |true=>
   simp only[Qa,if_true,Bool.true_or]
   rw[if_pos]
   rw[Q7]
   intro z E
   have H:=h z (Qb _ E)
   refine decide_eq_true ?_
   rw[H]
   cases p z<;>simp
  |false=>
   simp only[Qa,Qs,if_false,Xd]
   exact J
end Go.A
namespace Go.Proofs.YtlhiofnikdppeaaGreatDoor
open Go.RowKit Go.Graph
theorem R_depth_eq (n:Nd)(l:List Int)(Y:n.2.1=5∨n.2.1=9→2≤l.length)(hb: -1≤d0 l∧d0 l≤4):F.eK n l=some (depthOf n l):=by
 have J:F.dj n l (d0 l)=some (depthOf n l):=by
  unfold F.dj depthOf Qgt
  have L: ∀y,F.a0 y=some (capd y):=fun y=>by unfold F.a0 F.ez capd;split<;>rfl
  have N: ∀y,(y=true↔n.2.1=5∨n.2.1=9)→F.di n l (d0 l) y=some (capd (if n.2.1=5∨n.2.1=9 then(if iget l 0≠iget l 1 then-1 else d0 l)else if n.2.1=11∨n.2.1=16∨n.2.1=15 then(if d0 l≠0 then-1 else d0 l)else d0 l)):=fun y W=>by
   unfold F.di F.d1
   simp only[L,decide_eq_true_eq]
   by_cases h:n.2.1=5∨n.2.1=9
   ·have:=Y h
    rw[if_pos (W.2 h),if_pos h,iix (i:=0) (by omega) (by omega),Qa,iix (i:=1) (by omega) (by omega),Qa]
    by_cases e:iget l 0=iget l 1
    ·rw[if_neg (fun h=>h e),if_neg (fun h=>h e)]
    ·rw[if_pos e,if_pos e]
   ·rw[if_neg (fun h2=>h (W.1 h2)),if_neg h]
    by_cases O:n.2.1=11
    ·simp only[O,if_true,true_or];split<;>rfl
    ·by_cases Q:n.2.1=16
     ·simp only[Q,if_true,true_or,or_true,if_false,Int.reduceEq];split<;>rfl
     ·by_cases V:n.2.1=15
      ·simp only[V,if_true,or_true,if_false,Int.reduceEq];split<;>rfl
      ·simp only[O,Q,V,if_false,or_self]
  simp only[L]
  by_cases E:n.2.1=14
  ·rw[if_pos E,if_pos E]
  ·rw[if_neg E,if_neg E]
   by_cases H:n.2.1=12
   ·rw[if_pos H,if_pos H,A.gd1 ⟨by omega,by omega⟩]
   ·rw[if_neg H,if_neg H]
    by_cases I:n.2.1=13
    ·rw[if_pos I,if_pos I,A.gd1 ⟨by omega,by omega⟩]
    ·rw[if_neg I,if_neg I]
     by_cases h5':n.2.1=5
     ·rw[if_pos h5',N _ (by simp[h5'])]
     ·rw[if_neg h5',N _ (by simp[h5'])]
 unfold F.eK
 by_cases h:(0:Int)<(l.length:Int)
 ·rw[if_pos h,iix (i:=0) (by omega) (by omega),Qa,d0_iget];exact J
 ·rw[if_neg h,d0_nil (l:=l) (by omega)];exact J
def Own (g:List Nd):Prop:=∀n,n∈g→ownQ n=true
theorem own_ins {n:Nd}(h:ownQ n=true):0≤insK n.2.1∧(n.2.2.1.length:Int)=insK n.2.1:=by
 unfold ownQ at h
 by_cases E:n.1<1∨255<n.1∨insK n.2.1<0∨(n.2.2.1.length:Int)≠insK n.2.1
 ·rw[if_pos E]at h;cases h
 ·omega
theorem own_id {n:Nd}(h:ownQ n=true):1≤n.1∧n.1≤255:=by
 unfold ownQ at h
 by_cases E:n.1<1∨255<n.1∨insK n.2.1<0∨(n.2.2.1.length:Int)≠insK n.2.1
 ·rw[if_pos E]at h;cases h
 ·omega
theorem own_D {n:Nd}(h:ownQ n=true):(n.2.1=14→1≤n.2.2.2.2.2.2∧n.2.2.2.2.2.2≤4)∧(n.2.1≠14→n.2.2.2.2.2.2=0):=by
 unfold ownQ at h
 by_cases E:n.1<1∨255<n.1∨insK n.2.1<0∨(n.2.2.1.length:Int)≠insK n.2.1
 ·rw[if_pos E]at h;cases h
 ·rw[if_neg E]at h
  by_cases H:ownC n
  ·rw[if_pos H]at h;cases h
  ·unfold ownC at H;omega
theorem insK_cases (k:Int)(h:0≤insK k):(k=1∧insK k=0)∨((k=5∨k=9)∧insK k=2)∨(k≠1∧k≠5∧k≠9∧insK k=1):=by
 unfold insK at h ⊢
 by_cases E:k<1∨16<k
 ·rw[if_pos E]at h;omega
 ·rw[if_neg E]
  by_cases H:k=1
  ·rw[if_pos H];omega
  ·rw[if_neg H]
   by_cases I:k=5∨k=9
   ·rw[if_pos I];omega
   ·rw[if_neg I];omega
theorem own_len {n:Nd}(h:ownQ n=true):(n.2.1=1∧n.2.2.1.length=0)∨((n.2.1=5∨n.2.1=9)∧n.2.2.1.length=2)∨(n.2.1≠1∧n.2.1≠5∧n.2.1≠9∧n.2.2.1.length=1):=by
 have H:=own_ins h
 rcases insK_cases n.2.1 H.1 with E|E|E<;>omega
theorem Qfv {l:List Int}{i:Nat}{v:Int}:(l.set i v).length=l.length:=Xc
theorem depths_l1 (g:List Nd)(l d:List Int)(y:Nat)(p:Nat)(x:Nd)(H:List Int→Int→Option (List Int×Bool))(Q:Few g)(hfed:Fed g)(V:Own g)(hd:d.length=g.length)(I:InB d)(hp:l[y]?=some (p:Int))(hy:y<100)(J:g[p]?=some x):
  F.cj H g l d (y:Int) x A.FU [] 0=if depthOf x (inD g d x.2.2.1)<0 then some ([],false)else H (d.set p (depthOf x (inD g d x.2.2.1))) ((y:Int)+1):=by
 have hlen:=Q.1
 have W:=Q.in J
 have Y:=(Qc.1 J).1
 have E:=Qh J
 have loop:=A.lp x.2.2.1 (fun f (s:List Int) i=>F.cj H g l d (y:Int) x f s i) (fun _ t s=>if depthOf x (s++inD g d t)<0 then some ([],false)else H (d.set p (depthOf x (s++inD g d t))) ((y:Int)+1)) (fun k s=>s=inD g d (x.2.2.1.take k))
  (fun f s hs=>by
   rw[Q3 (Qq _)]at hs
   subst hs
   have hdep:F.eK x (inD g d x.2.2.1)=some (depthOf x (inD g d x.2.2.1)):=R_depth_eq x (inD g d x.2.2.1) (fun h=>by rcases own_len (V x E)with L|L|L<;>simp only[inD,Qr]<;>omega) (I.d0 g _)
   have e:(inD g d x.2.2.1++inD g d ([]:List Int))=inD g d x.2.2.1:=by simp[inD]
   rw[F.cj,if_neg (by omega),A.ixn hp,Qa,hdep,Qa,iix (by omega) (by omega),Qa,Qa,e,iix (by omega) (by rw[Qfv];omega),Qa,A.gd1 (A.r64n (by omega)),Qt]
   have e2:iget (d.set p (depthOf x (inD g d x.2.2.1))) (p:Int)=depthOf x (inD g d x.2.2.1):=by
    unfold iget;rw[Qt,Yc (by omega)];rfl
   rw[e2])
  (fun f s k z N hk hs ih=>by
   have h1:=hfed x E z (Qh N)
   have L:=(idx_le g z).2
   rw[F.cj,if_pos (by omega),A.ixn N,Qa,Qbl g z (by omega),Qa,iix h1 (by omega),Qa]
   have O:s++[iget d (idx g z)]=inD g d (x.2.2.1.take (k+1)):=by rw[hs];exact inD_take N
   rw[A.gd1 (by rw[hs];simp only[inD,Qr,Qz,Qd,Qm];omega),A.gd1 (A.r64n (by omega)),ih _ O]
   simp only[inD,Qv,Qx,Xk])
  (by have:=Qab;omega) [] (by simp[inD])
 rw[loop]
 rfl
theorem depths_l3 (g:List Nd)(d:List Int)(L:Few g)(hfed:Fed g)(O:Own g)(W:d.length=g.length):F.bS g d A.FU 0=if Qbd g d g=true then some (d,true)else some ([],false):=
 A.lp0 g (fun f y=>F.bS g d f y) (fun _ t=>if Qbd g d t=true then some (d,true)else some ([],false))
  (fun f=>by rw[F.bS,if_neg (by omega)];rfl)
  (fun f k x N hk Q=>by
   have hlen:=L.1
   have H:=Qh N
   rw[F.bS,if_pos (by omega),A.ixn N,Qa,Qbd]
   simp only[F.ek,A.gd1 (A.r64n (n:=k) (by omega)),Q,decide_eq_true_eq]
   by_cases E:x.2.1=14
   ·have Y:x.2.2.1.length=1:=by rcases own_len (O x H)with J|J|J<;>omega
    have I:x.2.2.1[0]?=some (iget x.2.2.1 0):=by
     unfold iget
     rw[show(0:Int).toNat=0 from rfl,Qe (by omega)];rfl
    have V:=hfed x H _ (Qh I)
    have J:=(idx_le g (iget x.2.2.1 0)).2
    rw[if_pos E,show A.ix x.2.2.1 0=_ from A.ixn I,Qa,Qbl g _ (by omega),Qa,iix V (by omega),Qa]
    by_cases e:iget d (idx g (iget x.2.2.1 0))≠x.2.2.2.2.2.2
    ·rw[if_pos e]
     have e2:x.2.1=14∧iget d (idx g (iget x.2.2.1 0))≠x.2.2.2.2.2.2:=⟨E,e⟩
     rw[if_pos e2,if_neg Q4]
    ·rw[if_neg e]
     have e2: ¬(x.2.1=14∧iget d (idx g (iget x.2.2.1 0))≠x.2.2.2.2.2.2):=fun h=>e h.2
     rw[if_neg e2]
   ·have e2: ¬(x.2.1=14∧iget d (idx g (iget x.2.2.1 0))≠x.2.2.2.2.2.2):=fun h=>E h.1
    rw[if_neg E,if_neg Q4,if_neg e2])
  (by have:=Qab;have:=L.1;omega)
def Plc (g:List Nd)(l:List Int):Prop:=∀(i:Nat) (p:Int),l[i]?=some p→∃(k:Nat) (n:Nd),p=(k:Int)∧g[k]?=some n
theorem depths_l4 (g:List Nd)(l:List Int)(E:Few g)(hfed:Fed g)(J:Own g)(N:l.length≤60)(hp:Plc g l):F.d2 g l=some (depths g l):=by
 have hlen:=E.1
 have loop:=A.lp l (fun f (s:List Int) i=>F.cR g l f s i) (fun _ t s=>match Qat g t s with
  |some d=>if Qbd g d g=true then some (d,true)else some ([],false)
  |none=>some ([],false)) (fun k s=>s.length=g.length∧InB s)
  (fun f s hs=>by rw[F.cR,if_neg (by omega),depths_l3 g s E hfed J hs.1];rfl)
  (fun f s k x H hk hs L=>by
   obtain⟨q,n,rfl,I⟩:=hp k x H
   rw[F.cR,if_pos (by omega),A.ixn H,Qa,A.ixn I,Qa,depths_l1 g l s k q n _ E hfed J hs.1 hs.2 H (by omega) I,Qat,Qbb rfl I]
   by_cases h:depthOf n (inD g s n.2.2.1)<0
   ·rw[if_pos h,if_pos h]
   ·rw[if_neg h,if_neg h,Qt]
    exact L _ ⟨by rw[Qfv];exact hs.1,hs.2.set q (by omega) (Qfb n _)⟩)
  (by have:=Qab;omega) (List.replicate g.length 0) ⟨by simp,InB.rep _⟩
 unfold F.d2 depths
 rw[A.gd1 (by omega),loop]
 cases Qat g l (List.replicate g.length 0)with
 |none=>rfl
 |some d=>simp only[];cases Qbd g d g<;>rfl
end Go.Proofs.YtlhiofnikdppeaaGreatDoor
end
section
namespace Go.Proofs.YtlhiofnikdppeaaGreatDoor
open Go.RowKit Go.Graph
def RelD (g:List Nd)(d:List Int)(dm:List (Int×Int)):Prop:=∀(i:Nat) (n:Nd),g[i]?=some n→Z.mget 0 dm n.1=iget d (i:Int)
theorem RelD.in {g:List Nd}{d:List Int}{dm:List (Int×Int)}(h:RelD g d dm){k:Int}(E:0≤idx g k):Z.mget 0 dm k=iget d (idx g k):=by
 obtain⟨q,I,_,J⟩:=idx_get E
 have H:=h _ q I
 rw[J,Wu E]at H
 exact H
theorem iget_nat {l:List Int}{i:Nat}(h:i<l.length):l[i]?=some (iget l (i:Int)):=by
 unfold iget;rw[Qt,Qe h];rfl
theorem inD_at {g:List Nd}{d l:List Int}{i:Nat}{k:Int}(h:l[i]?=some k):iget (inD g d l) (i:Int)=iget d (idx g k):=by
 unfold iget
 rw[Qt,inD,Qp,h];rfl
theorem out_eq (g:List Nd)(d:List Int)(a0:(List (Int×Nd))×(List Int)×(List (Int×Int)))(n:Nd)(hr:RelD g d a0.2.2)(hib:InB d)(ho:ownQ n=true)(hf: ∀k∈n.2.2.1,0≤idx g k):
  ∃v b,F.b2 a0 n=some (v,b)∧((b=false∧depthOf n (inD g d n.2.2.1)<0)∨(b=true∧v=depthOf n (inD g d n.2.2.1)∧0≤v)):=by
 have hlen:=own_len ho
 have hD:=own_D ho
 unfold F.b2
 by_cases h1:n.2.1=1
 ·have hl:n.2.2.1=[]:=Q6 (by omega)
  rw[if_pos h1]
  refine⟨0,true,rfl,.inr ⟨rfl,?_,Yo _⟩⟩
  unfold depthOf Qgt capd
  simp only[h1,hl,inD,W8,d0];simp
 ·rw[if_neg h1]
  by_cases E:n.2.1=14
  ·rw[if_pos E]
   have:=hD.1 E
   refine⟨_,true,rfl,.inr ⟨rfl,?_,by omega⟩⟩
   unfold depthOf Qgt capd
   rw[if_pos E,if_neg (by omega)]
  ·rw[if_neg E]
   have hpos:0<n.2.2.1.length:=by omega
   obtain⟨k0,H⟩: ∃k0,n.2.2.1[0]?=some k0:=⟨_,Qe hpos⟩
   have f0:=hf k0 (Qh H)
   have b0:=hib (idx g k0)
   have e0:d0 (inD g d n.2.2.1)=iget d (idx g k0):=by rw[←d0_iget];exact inD_at H
   rw[show A.ix n.2.2.1 0=_ from A.ixn H,Qa,A.lt,hr.in f0]
   have Y: ∀y,(y=true↔(n.2.1=5∨n.2.1=9)∧iget (inD g d n.2.2.1) 0≠iget (inD g d n.2.2.1) 1)→∃v b,F.bn n (iget d (idx g k0)) y=some (v,b)∧((b=false∧depthOf n (inD g d n.2.2.1)<0)∨(b=true∧v=depthOf n (inD g d n.2.2.1)∧0≤v)):=fun y hy=>by
    unfold F.bn depthOf Qgt
    rw[if_neg E,e0]
    by_cases I:y=true
    ·have N:=hy.1 I
     rw[if_pos I]
     refine⟨0,false,rfl,.inl ⟨rfl,?_⟩⟩
     rw[if_neg (by omega),if_neg (by omega),if_pos N.1,if_pos N.2];decide
    ·have N: ¬((n.2.1=5∨n.2.1=9)∧iget (inD g d n.2.2.1) 0≠iget (inD g d n.2.2.1) 1):=fun h=>I (hy.2 h)
     rw[if_neg I]
     simp only[F.bl,F.bm,A.ba]
     by_cases J:n.2.1=12
     ·rw[if_pos J,if_pos J,A.gd1 ⟨by omega,by omega⟩]
      unfold capd
      by_cases h4:4<iget d (idx g k0)+1
      ·exact⟨_,_,rfl,.inl ⟨decide_eq_false (by omega),by rw[if_pos h4];decide⟩⟩
      ·exact⟨_,_,rfl,.inr ⟨decide_eq_true (by omega),by rw[if_neg h4],by omega⟩⟩
     ·rw[if_neg J,if_neg J]
      by_cases L:n.2.1=13
      ·rw[if_pos L,if_pos L,A.gd1 ⟨by omega,by omega⟩]
       unfold capd
       rw[if_neg (by omega)]
       by_cases h4:0≤iget d (idx g k0)-1
       ·exact⟨_,_,rfl,.inr ⟨decide_eq_true (by omega),rfl,h4⟩⟩
       ·exact⟨_,_,rfl,.inl ⟨decide_eq_false (by omega),by omega⟩⟩
      ·rw[if_neg L,if_neg L]
       have hz: ∀x:Int,n.2.1=11∨n.2.1=16∨n.2.1=15→∃v b,(some (iget d (idx g k0),decide (iget d (idx g k0)=0)):Option (Int×Bool))=some (v,b)∧((b=false∧capd (if n.2.1=5∨n.2.1=9 then if iget (inD g d n.2.2.1) 0≠iget (inD g d n.2.2.1) 1 then-1 else iget d (idx g k0)else if n.2.1=11∨n.2.1=16∨n.2.1=15 then if iget d (idx g k0)≠0 then-1 else iget d (idx g k0)else iget d (idx g k0))<0)∨(b=true∧v=capd (if n.2.1=5∨n.2.1=9 then if iget (inD g d n.2.2.1) 0≠iget (inD g d n.2.2.1) 1 then-1 else iget d (idx g k0)else if n.2.1=11∨n.2.1=16∨n.2.1=15 then if iget d (idx g k0)≠0 then-1 else iget d (idx g k0)else iget d (idx g k0))∧0≤v)):=fun _ hk=>by
        rw[if_neg (by omega),if_pos hk]
        by_cases h0:iget d (idx g k0)=0
        ·rw[h0];exact⟨_,_,rfl,.inr ⟨rfl,rfl,Yo _⟩⟩
        ·rw[if_pos h0];exact⟨_,_,rfl,.inl ⟨decide_eq_false h0,by decide⟩⟩
       by_cases O:n.2.1=11
       ·rw[if_pos O];exact hz 0 (.inl O)
       ·rw[if_neg O]
        by_cases Q:n.2.1=16
        ·rw[if_pos Q];exact hz 0 (.inr (.inl Q))
        ·rw[if_neg Q]
         by_cases V:n.2.1=15
         ·rw[if_pos V];exact hz 0 (.inr (.inr V))
         ·rw[if_neg V]
          refine⟨_,_,rfl,.inr ⟨decide_eq_true (by omega),?_,by omega⟩⟩
          by_cases h5:n.2.1=5∨n.2.1=9
          ·rw[if_pos h5,if_neg (fun h=>N ⟨h5,h⟩)];unfold capd;rw[if_neg (by omega)]
          ·rw[if_neg h5,if_neg (by omega)];unfold capd;rw[if_neg (by omega)]
   by_cases N:(1:Int)<(n.2.2.1.length:Int)
   ·have h5:n.2.1=5∨n.2.1=9:=by omega
    obtain⟨k1,W⟩: ∃k1,n.2.2.1[1]?=some k1:=⟨_,Qe (by omega)⟩
    have f1:=hf k1 (Qh W)
    rw[if_pos N,show A.ix n.2.2.1 1=_ from A.ixn W,Qa,A.lt,hr.in f1]
    refine Y _ ?_
    rw[decide_eq_true_eq,show iget (inD g d n.2.2.1) 0=_ from inD_at H,show iget (inD g d n.2.2.1) 1=_ from inD_at W]
    exact⟨fun h=>⟨h5,fun e=>h e.symm⟩,fun h e=>h.2 e.symm⟩
   ·rw[if_neg N]
    exact Y false ⟨fun h=>(by cases h),fun h=>by omega⟩
theorem relD_set {g:List Nd}(I:Inc g){d:List Int}{dm:List (Int×Int)}(h:RelD g d dm)(L:d.length=g.length){i:Nat}{n:Nd}(E:g[i]?=some n)(v:Int):RelD g (d.set i v) (Z.mins dm n.1 v):=fun j q hq=>by
 rw[Vl]
 have N:=(Qc.1 E).1
 by_cases e:q.1=n.1
 ·have:=I.inj hq E e
  subst this
  rw[if_pos e]
  unfold iget
  rw[Qt,Yc (by omega)];rfl
 ·rw[if_neg e,h j q hq]
  have H:i≠j:=fun J=>e (by subst J;rw[E]at hq;injection hq with hq;rw[hq])
  unfold iget
  rw[Qt,List.getElem?_set_ne H]
def KeyD (g:List Nd)(l:List Int)(dm:List (Int×Int)):Prop:=∀id,Z.mhas dm id=l.any fun p=>decide (idAt g p=id)
theorem Qes (g:List Nd)(l:List Int)(hb:Few g)(Q:Inc g)(hfed:Fed g)(ho:Own g)(hl:l.length≤60)(hp:Plc g l): ∀(r k f:Nat) (d:List Int) (dm:List (Int×Int)),k+r=l.length→r<f→RelD g d dm→InB d→d.length=g.length→KeyD g (l.take k) dm→
  (∃d' dm',Qat g (l.drop k) d=some d'∧F.r (mapOf g,l.map (idAt g),[]) f dm (k:Int)=A.mrg (F.aS (mapOf g,l.map (idAt g),[]) dm') (some (true,(mapOf g,l.map (idAt g),dm'))) (mapOf g)∧RelD g d' dm'∧InB d'∧d'.length=g.length∧KeyD g l dm')∨
  (Qat g (l.drop k) d=none∧∃p,F.r (mapOf g,l.map (idAt g),[]) f dm (k:Int)=some (false,p))
 |0,k,f,d,dm,hk,hf,J,L,N,O=>by
  obtain⟨f,rfl⟩: ∃f',f=f'+1:=⟨f-1,by omega⟩
  left
  rw[Q3 (by omega)]at O
  refine⟨d,dm,by rw[Q2 (by omega)];rfl,?_,J,L,N,O⟩
  rw[F.r,if_neg (by simp only[Qr];omega)]
 |r+1,k,f,d,dm,hk,hf,J,L,N,O=>by
  obtain⟨f,rfl⟩: ∃f',f=f'+1:=⟨f-1,by omega⟩
  have E:l[k]?=some l[k]:=Qe (by omega)
  generalize l[k]=x at E
  obtain⟨q,n,rfl,H⟩:=hp k x E
  have hng:=Qh H
  have I:idAt g (q:Int)=n.1:=by unfold idAt;rw[Qbb rfl H]
  have e1:A.ix (l.map (idAt g)) (k:Int)=some n.1:=A.ixn (by rw[Qp,E,Wb,I])
  obtain⟨v,b,V,W⟩:=out_eq g d (mapOf g,l.map (idAt g),dm) n J L (ho n hng) (hfed n hng)
  have eF:F.r (mapOf g,l.map (idAt g),[]) (f+1) dm (k:Int)=if(!b)=true then some (false,(mapOf g,l.map (idAt g),dm))else A.gd (Z.R64 ((k:Int)+1)) (F.r (mapOf g,l.map (idAt g),[]) f (Z.mins dm n.1 v) ((k:Int)+1)):=by
   rw[F.r,if_pos (by simp only[Qr];omega)]
   simp only[e1,Qa,A.lt,Q.mget H]
   rw[show F.b2 (mapOf g,l.map (idAt g),dm) n=_ from V,Qa]
  rw[A.dropx E,Qat,Qbb rfl H,eF]
  rcases W with⟨rfl,Y⟩|⟨rfl,Y,h6⟩
  ·right
   rw[if_pos (show depthOf n (n.2.2.1.map fun k=>iget d (idx g k))<0 from Y)]
   exact⟨rfl,_,if_pos rfl⟩
  ·subst Y
   rw[if_neg (show ¬depthOf n (n.2.2.1.map fun k=>iget d (idx g k))<0 by simp only[inD]at h6;omega),if_neg (by simp),A.gd1 (A.r64n (by omega)),Qt]
   have:=Qes g l hb Q hfed ho hl hp r (k+1) f (d.set q (depthOf n (inD g d n.2.2.1))) (Z.mins dm n.1 (depthOf n (inD g d n.2.2.1))) (by omega) (by omega) (relD_set Q J N H _) (L.set q h6 (Qfb n _)) (by rw[Qfv];exact N) (fun id=>by
    rw[Z.mhas_ins,Qbj E,List.any_append,O id,Xu,List.any_nil,Bool.or_false,I,Bool.or_comm]
    congr 1
    exact decide_eq_decide.2 ⟨fun h=>h.symm,fun h=>h.symm⟩)
   exact this
theorem Qcp (g:List Nd)(d:List Int): ∀l,Qbd g d l= !(l.any fun x=>decide (x.2.1=14∧iget d (idx g (iget x.2.2.1 0))≠x.2.2.2.2.2.2))
 | []=>rfl
 |x::r=>by
  unfold Qbd
  rw[Xu]
  by_cases h:x.2.1=14∧iget d (idx g (iget x.2.2.1 0))≠x.2.2.2.2.2.2
  ·rw[if_pos h,decide_eq_true h];rfl
  ·rw[if_neg h,decide_eq_false h,Xd];exact Qcp g d r
theorem Qio (g:List Nd)(l:List Int)(O:Few g)(W:Inc g)(hfed:Fed g)(L:Own g)(Q:l.length≤60)(hp:Plc g l):
  (∃d dm,F.d2 g l=some (d,true)∧F.aU (mapOf g,l.map (idAt g),[])=some (true,(mapOf g,l.map (idAt g),dm))∧RelD g d dm∧InB d∧d.length=g.length∧KeyD g l dm∧Qbd g d g=true∧Qat g l (List.replicate g.length 0)=some d)∨
  (F.d2 g l=some ([],false)∧∃p,F.aU (mapOf g,l.map (idAt g),[])=some (false,p)):=by
 have Y:RelD g (List.replicate g.length 0) []:=fun i n N=>by
  unfold iget;rw[Qt,Y1];split<;>rfl
 rw[depths_l4 g l O hfed L Q hp]
 unfold F.aU depths
 rcases Qes g l O W hfed L Q hp l.length 0 A.FU (List.replicate g.length 0) [] (by omega) (by have:=Qab;omega) Y (InB.rep _) (by simp) (fun id=>by simp[Z.mhas])with⟨d,dm,I,H,V,h4,h5,h6⟩|⟨I,p,H⟩
 ·rw[Wq]at I
  rw[I]
  simp only[]
  have hm:A.mrg (F.aS (mapOf g,l.map (idAt g),[]) dm) (some (true,(mapOf g,l.map (idAt g),dm))) (mapOf g)=if(mapOf g).any (fun p=>decide (p.2.2.1=14∧iget d (idx g (iget p.2.2.2.1 0))≠p.2.2.2.2.2.2.2))=true then some (false,(mapOf g,l.map (idAt g),dm))else some (true,(mapOf g,l.map (idAt g),dm)):=by
   refine A.mrg_any fun p hp=>?_
   obtain⟨n,N,rfl⟩:=Wh.1 hp
   unfold F.aS F.bd
   by_cases E:n.2.1=14
   ·have hl1:n.2.2.1.length=1:=by rcases own_len (L n N)with H|H|H<;>omega
    have J:n.2.2.1[0]?=some (iget n.2.2.1 0):=iget_nat (i:=0) (by omega)
    have f0:=hfed n N _ (Qh J)
    rw[if_pos E,show A.ix n.2.2.1 0=_ from A.ixn J,Qa,A.lt,V.in f0]
    by_cases e:iget d (idx g (iget n.2.2.1 0))≠n.2.2.2.2.2.2
    ·rw[decide_eq_true e,if_pos rfl,decide_eq_true (And.intro E e),if_pos rfl]
    ·rw[decide_eq_false e,if_neg Q4,decide_eq_false (fun h=>e h.2),if_neg Q4]
   ·rw[if_neg E,if_neg Q4,decide_eq_false (fun h=>E h.1),if_neg Q4]
  have hany:(mapOf g).any (fun p=>decide (p.2.2.1=14∧iget d (idx g (iget p.2.2.2.1 0))≠p.2.2.2.2.2.2.2))=g.any fun x=>decide (x.2.1=14∧iget d (idx g (iget x.2.2.1 0))≠x.2.2.2.2.2.2):=by
   unfold mapOf;rw[List.any_map];rfl
  have h2':F.r (mapOf g,l.map (idAt g),[]) A.FU [] 0=_:=H.trans hm
  rw[h2',hany,Qcp]
  cases hc:g.any fun x=>decide (x.2.1=14∧iget d (idx g (iget x.2.2.1 0))≠x.2.2.2.2.2.2)with
  |true=>right;exact⟨rfl,_,rfl⟩
  |false=>left;exact⟨d,dm,rfl,rfl,V,h4,h5,h6,by rw[Qcp,hc];rfl,rfl⟩
 ·rw[Wq]at I
  rw[I]
  right
  exact⟨rfl,p,H⟩
theorem Qdf (g:List Nd)(d:List Int)(id:Int): ∀(k:Nat) (l:List Int),(insS g d id k l).length=l.length
 |_,[]=>rfl
 |k,x::r=>by unfold insS;rw[Qd,Qd,Qdf g d id (k+1) r]
theorem Qgm (n:Nd)(v:Int):(outS n v).length≤1:=by unfold outS;split<;>simp
theorem in2 {g:List Nd}(E:Own g){n:Nd}(H:n∈g):n.2.2.1.length≤2:=by rcases own_len (E n H)with h|h|h<;>omega
theorem spots_l2P (g:List Nd)(d:List Int)(a0:(List (Int×Nd))×(List Int)×(List (Int×Int)))(E:List Sp→Int→Option (List Sp))(y:Nat)(x:Nd)(xs:List Sp)(H:RelD g d a0.2.2)(J:g[y]?=some x)(V:x.2.2.1.length≤2)(L: ∀k∈x.2.2.1,0≤idx g k)(N:xs.length≤1000)(W:y≤100):
  F.aq E a0 (y:Int) x A.FU xs 0=E (xs++(insS g d x.1 0 x.2.2.1++outS x (iget d (y:Int)))) ((y:Int)+1):=
 A.lp x.2.2.1 (fun f (s:List Sp) i=>F.aq E a0 (y:Int) x f s i) (fun k t s=>E (s++(insS g d x.1 k t++outS x (iget d (y:Int)))) ((y:Int)+1)) (fun k s=>s.length≤1000+k)
  (fun f s hs=>by
   rw[F.aq,if_neg (by omega),insS,Wo,outS,A.lt,H y x J]
   simp only[F.bs,A.gd1 (A.r64n (n:=y) (by omega))]
   by_cases h:x.2.1≠15
   ·rw[if_pos h,if_pos h,A.gd1 (by simp only[Qd,Qm];omega)]
   ·rw[if_neg h,if_neg h,Q9])
  (fun f s k z I hk hs O=>by
   have Q:=L z (Qh I)
   rw[F.aq,if_pos (by omega),A.ixn I,Qa,A.lt,H.in Q,A.gd1 (by simp only[Qd,Qm];omega),A.gd1 (A.r64n (by omega)),O _ (by simp only[Qj,Qd,Qm];omega),insS]
   simp only[Qx,Xk,W5,Wo])
  (by have:=Qab;omega) xs (by omega)
theorem spotsP_eq (g:List Nd)(d:List Int)(a0:(List (Int×Nd))×(List Int)×(List (Int×Int)))(I:Few g)(hfed:Fed g)(J:Own g)(L:RelD g d a0.2.2):F.bw a0 g=some (spots g d):=by
 have hlen:=I.1
 have loop:=A.lp g (fun f (s:List Sp) i=>F.ai a0 g f s i) (fun k t s=>some (s++spotsF g d k t)) (fun k s=>s.length≤3*k)
  (fun f s hs=>by rw[F.ai,if_neg (by omega),spotsF,Q9])
  (fun f s k x H hk hs N=>by
   have E:=Qh H
   have O:=in2 J E
   have Q:=Qgm x (iget d (k:Int))
   rw[F.ai,if_pos (by omega),A.ixn H,Qa,spots_l2P g d a0 _ k x s L H O (hfed x E) (by omega) (by omega),N _ (by rw[Qj,Qj,Qdf];omega),spotsF]
   simp only[Qx])
  (by have:=Qab;omega) [] (by simp)
 unfold F.bw
 rw[loop];rfl
theorem spots_l2R (g:List Nd)(d:List Int)(E:List Sp→Int→Option (List Sp))(y:Nat)(x:Nd)(xs:List Sp)(I:g.length≤100)(W:d.length=g.length)(J:g[y]?=some x)(Y:x.2.2.1.length≤2)(L: ∀k∈x.2.2.1,0≤idx g k)(N:xs.length≤1000)(hy:y≤100):
  F.cF E g d (y:Int) x A.FU xs 0=E (xs++(insS g d x.1 0 x.2.2.1++outS x (iget d (y:Int)))) ((y:Int)+1):=
 A.lp x.2.2.1 (fun f (s:List Sp) i=>F.cF E g d (y:Int) x f s i) (fun k t s=>E (s++(insS g d x.1 k t++outS x (iget d (y:Int)))) ((y:Int)+1)) (fun k s=>s.length≤1000+k)
  (fun f s hs=>by
   have O:=(Qc.1 J).1
   rw[F.cF,if_neg (by omega),insS,Wo,outS]
   simp only[F.eA,A.gd1 (A.r64n (n:=y) (by omega))]
   by_cases h:x.2.1≠15
   ·rw[if_pos h,if_pos h,iix (by omega) (by omega),Qa,A.gd1 (by simp only[Qd,Qm];omega)]
   ·rw[if_neg h,if_neg h,Q9])
  (fun f s k z H hk hs Q=>by
   have V:=L z (Qh H)
   have h2:=(idx_le g z).2
   rw[F.cF,if_pos (by omega),A.ixn H,Qa,Qbl g z I,Qa,iix V (by omega),Qa,A.gd1 (by simp only[Qd,Qm];omega),A.gd1 (A.r64n (by omega)),Q _ (by simp only[Qj,Qd,Qm];omega),insS]
   simp only[Qx,Xk,W5,Wo])
  (by have:=Qab;omega) xs (by omega)
theorem spotsR_eq (g:List Nd)(d:List Int)(I:Few g)(hfed:Fed g)(J:Own g)(L:d.length=g.length):F.fb g d=some (spots g d):=by
 have hlen:=I.1
 have loop:=A.lp g (fun f (s:List Sp) i=>F.dk g d f s i) (fun k t s=>some (s++spotsF g d k t)) (fun k s=>s.length≤3*k)
  (fun f s hs=>by rw[F.dk,A.ba,if_neg (by simp),spotsF,Q9])
  (fun f s k x H hk hs N=>by
   have E:=Qh H
   have O:=in2 J E
   have Q:=Qgm x (iget d (k:Int))
   rw[F.dk,A.ba,if_pos (by simp only[decide_eq_true_eq];omega),A.ixn H,Qa,spots_l2R g d _ k x s (by omega) L H O (hfed x E) (by omega) (by omega),N _ (by rw[Qj,Qj,Qdf];omega),spotsF]
   simp only[Qx])
  (by have:=Qab;omega) [] (by simp)
 unfold F.fb
 rw[loop];rfl
abbrev Ed:=Pl×Pl×Sm
theorem five {P:Int→Prop}(E:P 0)(H:P 1)(I:P 2)(J:P 3)(L:P 4)(d:Int)(N:0≤d∧d≤4):P d:=by
 have:d=0∨d=1∨d=2∨d=3∨d=4:=by omega
 rcases this with rfl|rfl|rfl|rfl|rfl<;>assumption
theorem Id_eqP (d:Int)(E:0≤d∧d≤4):F.en d=some (idP d):=five (P:=fun d=>F.en d=some (idP d)) (by kernel_rfl) (by kernel_rfl) (by kernel_rfl) (by kernel_rfl) (by kernel_rfl) d E
theorem Enter_eqP (d:Int)(E:0≤d∧d≤4):F.dO d=some (Qgq d):=five (P:=fun d=>F.dO d=some (Qgq d)) (by kernel_rfl) (by kernel_rfl) (by kernel_rfl) (by kernel_rfl) (by kernel_rfl) d E
theorem Leave_eqP (d:Int)(E:0≤d∧d≤4):F.dP d=some (Qgv d):=five (P:=fun d=>F.dP d=some (Qgv d)) (by kernel_rfl) (by kernel_rfl) (by kernel_rfl) (by kernel_rfl) (by kernel_rfl) d E
theorem Next_eqP (d:Int)(E:0≤d∧d≤4):F.ef d=some (nextP d):=five (P:=fun d=>F.ef d=some (nextP d)) (by kernel_rfl) (by kernel_rfl) (by kernel_rfl) (by kernel_rfl) (by kernel_rfl) d E
theorem Id_eqR (d:Int)(E:0≤d∧d≤4):F.fm d=some (idP d):=five (P:=fun d=>F.fm d=some (idP d)) (by kernel_rfl) (by kernel_rfl) (by kernel_rfl) (by kernel_rfl) (by kernel_rfl) d E
theorem Enter_eqR (d:Int)(E:0≤d∧d≤4):F.fc d=some (Qgq d):=five (P:=fun d=>F.fc d=some (Qgq d)) (by kernel_rfl) (by kernel_rfl) (by kernel_rfl) (by kernel_rfl) (by kernel_rfl) d E
theorem Leave_eqR (d:Int)(E:0≤d∧d≤4):F.eL d=some (Qgv d):=five (P:=fun d=>F.eL d=some (Qgv d)) (by kernel_rfl) (by kernel_rfl) (by kernel_rfl) (by kernel_rfl) (by kernel_rfl) d E
theorem Next_eqR (d:Int)(E:0≤d∧d≤4):F.fk d=some (nextP d):=five (P:=fun d=>F.fk d=some (nextP d)) (by kernel_rfl) (by kernel_rfl) (by kernel_rfl) (by kernel_rfl) (by kernel_rfl) d E
theorem within_eqP (n:Nd)(d:Int)(E:0≤d∧d≤4):F.cw n d=some (Qcw n d):=by
 unfold F.cw Qcw
 simp only[Id_eqP d E,Enter_eqP d E,Leave_eqP d E,Next_eqP d E,Qa,F.be]
 repeat' split
 all_goals rfl
theorem within_eqR (n:Nd)(d:Int)(E:0≤d∧d≤4):F.d4 n d=some (Qcw n d):=by
 unfold F.d4 Qcw
 simp only[Id_eqR d E,Enter_eqR d E,Leave_eqR d E,Next_eqR d E,Qa,F.cS]
 repeat' split
 all_goals rfl
def useN (id nd:Int):Nat→List Int→List Pl
 |_,[]=>[]
 |k,z::r=>if z=id then(nd,(k:Int))::useN id nd (k+1) r else useN id nd (k+1) r
def Qbc (id:Int):List Nd→List Pl
 | []=>[]
 |n::r=>useN id n.1 0 n.2.2.1++Qbc id r
theorem Qdg (id nd:Int): ∀(k:Nat) (l:List Int),(useN id nd k l).length≤l.length
 |_,[]=>Qq 0
 |k,z::r=>by
  unfold useN
  have:=Qdg id nd (k+1) r
  split<;>simp only[Qd]<;>omega
theorem Qbg (id:Int): ∀(l:List Nd),(∀n∈l,n.2.2.1.length≤2)→(Qbc id l).length≤2*l.length
 | [],_=>Qq 0
 |n::r,h=>by
  unfold Qbc
  have H:=Qbg id r fun x E=>h x (Qb _ E)
  have I:=Qdg id n.1 0 n.2.2.1
  have J:=h n (Qf ..)
  rw[Qj,Qd];omega
theorem Values_eq (g:List Nd)(I:g.length≤100):F.al g=some g:=
 A.lp0 g (fun f y=>F.e g f y) (fun _ l=>some l)
  (fun f=>by rw[F.e,if_neg (by omega)])
  (fun f k x E hk H=>by rw[F.e,if_pos (by omega),A.ixn E,Qa,A.gd1 (A.r64n (by omega)),H];rfl)
  (by have:=Qab;omega)
theorem users_l2 (id:Int)(n:Nd)(E:List Pl→Option (List Pl))(xs:List Pl)(L:n.2.2.1.length≤2)(I:xs.length≤1000):F.aD E id n A.FU xs 0=E (xs++useN id n.1 0 n.2.2.1):=
 A.lp n.2.2.1 (fun f (s:List Pl) i=>F.aD E id n f s i) (fun k t s=>E (s++useN id n.1 k t)) (fun k s=>s.length≤1000+k)
  (fun f s hs=>by rw[F.aD,if_neg (by omega),useN,Q9])
  (fun f s k z J hk hs H=>by
   rw[F.aD,if_pos (by omega),A.ixn J,Qa,useN]
   simp only[F.cx,A.gd1 (A.r64n (n:=k) (by omega))]
   by_cases h:z=id
   ·rw[if_pos h,if_pos h,A.gd1 (by simp only[Qd,Qm];omega),H _ (by simp only[Qj,Qd,Qm];omega)]
    simp only[Qx,Xk,W5,Wo]
   ·rw[if_neg h,if_neg h,H _ (by omega)])
  (by have:=Qab;omega) xs (by omega)
theorem users_l3 (id:Int): ∀(l:List Nd) (xs:List Pl),(∀n∈l,n.2.2.1.length≤2)→xs.length+2*l.length≤900→F.aE id l xs=some (xs++Qbc id l)
 | [],xs,_,_=>by rw[F.aE,Qbc,Q9]
 |n::r,xs,h,E=>by
  have H:=h n (Qf ..)
  have I:=Qdg id n.1 0 n.2.2.1
  rw[Qd]at E
  rw[F.aE,users_l2 id n _ xs H (by omega),users_l3 id r _ (fun x E=>h x (Qb _ E)) (by rw[Qj];omega),Qbc,Qx]
theorem users_eq (g:List Nd)(id:Int)(E:Few g)(H: ∀n∈g,n.2.2.1.length≤2):F.dy g id=some (Qbc id g):=by
 have:=E.1
 unfold F.dy F.aB
 rw[Qa,Values_eq g (by omega),Qa,users_l3 id g [] H (by simp;omega)];rfl
def inE (g:List Nd)(d:List Int)(n:Nd):Nat→List Int→List Ed
 |_,[]=>[]
 |k,z::r=>((n.1,(k:Int)),(n.1,2),Qcw n (iget d (idx g z)))::inE g d n (k+1) r
def outE (g:List Nd)(n:Nd)(v:Int):List Ed:=(Qbc n.1 g).map fun u=>((n.1,2),u,(idP v).1)
def Qaw (g:List Nd)(d:List Int):Nat→List Nd→List Ed
 |_,[]=>[]
 |i,n::r=>if n.2.1=15 then Qaw g d (i+1) r else inE g d n 0 n.2.2.1++(outE g n (iget d (i:Int))++Qaw g d (i+1) r)
def edges (g:List Nd)(d:List Int):List Ed:=Qaw g d 0 g
theorem Qid (g:List Nd)(d:List Int)(n:Nd): ∀(k:Nat) (l:List Int),(inE g d n k l).length=l.length
 |_,[]=>rfl
 |k,x::r=>by unfold inE;rw[Qd,Qd,Qid g d n (k+1) r]
theorem edges_l2P (k30:List Ed→Int→Option (List Ed))(y:Nat)(n:Nd)(s:Sm)(us:List Pl)(xs:List Ed)(L:y≤100)(N:us.length≤1000)(E:xs.length≤10000):
  F.ah k30 (y:Int) n s.1 s.2.1 s.2.2.1 s.2.2.2.1 s.2.2.2.2.1 s.2.2.2.2.2.1 s.2.2.2.2.2.2.1 s.2.2.2.2.2.2.2 us A.FU xs 0=k30 (xs++us.map fun u=>((n.1,2),u,s)) ((y:Int)+1):=
 A.lp us (fun f (t:List Ed) i=>F.ah k30 (y:Int) n s.1 s.2.1 s.2.2.1 s.2.2.2.1 s.2.2.2.2.1 s.2.2.2.2.2.1 s.2.2.2.2.2.2.1 s.2.2.2.2.2.2.2 us f t i) (fun k t e=>k30 (e++t.map fun u=>((n.1,2),u,s)) ((y:Int)+1)) (fun k t=>t.length≤10000+k)
  (fun f t H=>by rw[F.ah,if_neg (by omega),F.aW,A.gd1 (A.r64n (by omega)),W8,Q9])
  (fun f t k z I hk H J=>by
   rw[F.ah,if_pos (by omega),A.ixn I,Qa,A.gd1 (by simp only[Qd,Qm];omega),A.gd1 (A.r64n (by omega)),J _ (by simp only[Qj,Qd,Qm];omega)]
   simp only[Qx,Xk,W5,Wo,Qv])
  (by have:=Qab;omega) xs (by omega)
theorem edges_l4P (g:List Nd)(d:List Int)(a0:(List (Int×Nd))×(List Int)×(List (Int×Int)))(k30:List Ed→Int→Option (List Ed))(y:Nat)(n:Nd)(xs:List Ed)(L:Few g)(E:Own g)(H:InB d)(N:RelD g d a0.2.2)(I:g[y]?=some n)(Q: ∀k∈n.2.2.1,0≤idx g k)(V:xs.length≤9000):
  F.ap k30 a0 g (y:Int) n A.FU xs 0=k30 (xs++(inE g d n 0 n.2.2.1++outE g n (iget d (y:Int)))) ((y:Int)+1):=
 A.lp n.2.2.1 (fun f (t:List Ed) i=>F.ap k30 a0 g (y:Int) n f t i) (fun k t e=>k30 (e++(inE g d n k t++outE g n (iget d (y:Int)))) ((y:Int)+1)) (fun k t=>t.length≤9000+k)
  (fun f t W=>by
   have hlen:=L.1
   have Y:=(Qc.1 I).1
   have h2:=in2 E (Qh I)
   have hu:=Qbg n.1 g fun x J=>in2 E J
   rw[F.ap,if_neg (by omega),A.lt,N y n I,Id_eqP _ (H _),Qa,F.ce,users_eq g n.1 L (fun x J=>in2 E J),Qa,
    show F.ah k30 (y:Int) n _ _ _ _ _ _ _ _ (Qbc n.1 g) A.FU t 0=_ from edges_l2P k30 y n (idP (iget d (y:Int))).1 (Qbc n.1 g) t (by omega) (by omega) (by omega),inE,Wo]
   rfl)
  (fun f t k z O hk W ih=>by
   have h1:=Q z (Qh O)
   have h2:=in2 E (Qh I)
   rw[F.ap,if_pos (by omega),A.ixn O,Qa,A.lt,N.in h1,show F.cw n _=_ from within_eqP n _ (H _),Qa,A.gd1 (by simp only[Qd,Qm];omega),A.gd1 (A.r64n (by omega)),ih _ (by simp only[Qj,Qd,Qm];omega),inE]
   simp only[Qx,Xk,W5,Wo])
  (by have:=Qab;have:=in2 E (Qh I);omega) xs (by omega)
theorem edgesP_eq (g:List Nd)(d:List Int)(a0:(List (Int×Nd))×(List Int)×(List (Int×Int)))(L:Few g)(hfed:Fed g)(I:Own g)(J:InB d)(O:RelD g d a0.2.2):F.a4 a0 g=some (edges g d):=by
 have hlen:=L.1
 have loop:=A.lp g (fun f (s:List Ed) i=>F.n a0 g f s i) (fun k t s=>some (s++Qaw g d k t)) (fun k s=>s.length≤83*k)
  (fun f s hs=>by rw[F.n,if_neg (by omega),Qaw,Q9])
  (fun f s k x E hk hs N=>by
   have H:=Qh E
   have Q:=in2 I H
   have V:=Qbg x.1 g fun x E=>in2 I E
   rw[F.n,if_pos (by omega),A.ixn E,Qa,Qaw]
   by_cases h:x.2.1=15
   ·rw[if_pos h,if_pos h,F.aW,A.gd1 (A.r64n (by omega)),N _ (by omega)]
   ·rw[if_neg h,if_neg h,edges_l4P g d a0 _ k x s L I J O E (hfed x H) (by omega),N _ (by rw[Qj,Qj,Qid,outE,Qr];omega)]
    simp only[Qx])
  (by have:=Qab;omega) [] (by simp)
 unfold F.a4
 rw[loop];rfl
theorem Find_eq (g:List Nd)(H:Few g){j:Nat}{n:Nd}(I:Inc g)(E:g[j]?=some n):F.er g n.1=some (n,true):=by
 have:=H.1
 have J:=H.in E
 unfold F.er
 rw[Qbl g _ (by omega),Qa,I.idx E,if_neg (by omega),A.ixn E,Qa,A.gd1 (by simp only[Qm];omega)]
 rfl
theorem edges_l4R (g:List Nd)(k37:List Ed→Int→Option (List Ed))(sp:Sp)(r18:Nd×Bool)(r59:Sm×Int)(j:Nat)(m:Nd)(xs:List Ed)(O:g.length≤100)(E:g[j]?=some m)(Q:m.2.2.1.length≤2)(I:xs.length≤20000):
  F.cc k37 g sp r18 r59 (j:Int) A.FU xs 0=k37 (xs++(useN r18.1.1 m.1 0 m.2.2.1).map fun u=>(sp.1,u,r59.1)) ((j:Int)+1):=
 A.lp m.2.2.1 (fun f (t:List Ed) i=>F.cc k37 g sp r18 r59 (j:Int) f t i) (fun k t e=>k37 (e++(useN r18.1.1 m.1 k t).map fun u=>(sp.1,u,r59.1)) ((j:Int)+1)) (fun k t=>t.length≤20000+k)
  (fun f t J=>by
   have L:=(Qc.1 E).1
   rw[F.cc,A.ixn E,Qa,if_neg (by omega),A.gd1 (A.r64n (by omega)),useN,W8,Q9])
  (fun f t k z N hk J H=>by
   rw[F.cc,A.ixn E,Qa,if_pos (by omega),Qa,A.ixn N,Qa,useN]
   simp only[F.eC,A.gd1 (A.r64n (n:=k) (by omega)),Qa]
   by_cases h:z=r18.1.1
   ·rw[if_pos h,if_pos h,A.gd1 (by simp only[Qd,Qm];omega),H _ (by simp only[Qj,Qd,Qm];omega)]
    simp only[Qx,Xk,W5,Wo,Qv]
   ·rw[if_neg h,if_neg h,H _ (by omega)])
  (by have:=Qab;omega) xs (by omega)
theorem edges_l5R (g:List Nd)(k30:List Ed→Int→Option (List Ed))(y:Nat)(sp:Sp)(r18:Nd×Bool)(r59:Sm×Int)(xs:List Ed)(E:Few g)(I:Own g)(J:xs.length≤15000)(Q:y≤1000):
  F.cG k30 g (y:Int) sp r18 r59 A.FU xs 0=k30 (xs++(Qbc r18.1.1 g).map fun u=>(sp.1,u,r59.1)) ((y:Int)+1):=
 A.lp g (fun f (t:List Ed) i=>F.cG k30 g (y:Int) sp r18 r59 f t i) (fun k t e=>k30 (e++(Qbc r18.1.1 t).map fun u=>(sp.1,u,r59.1)) ((y:Int)+1)) (fun k t=>t.length≤15000+2*k)
  (fun f t L=>by rw[F.cG,if_neg (by omega),F.d5,A.gd1 (A.r64n (by omega)),Qbc,W8,Q9])
  (fun f t k m H hk L N=>by
   have hlen:=E.1
   have O:=in2 I (Qh H)
   have V:=Qdg r18.1.1 m.1 0 m.2.2.1
   rw[F.cG,if_pos (by omega),edges_l4R g _ sp r18 r59 k m t (by omega) H O (by omega),N _ (by rw[Qj,Qr];omega),Qbc,Xb,Qx])
  (by have:=Qab;have:=E.1;omega) xs (by omega)
def edOf (g:List Nd)(sp:Sp):List Ed:=if sp.1.2≠2 then(if(find g sp.1.1).1.2.1≠15 then [(sp.1,((find g sp.1.1).1.1,2),Qcw (find g sp.1.1).1 sp.2)]else [])else(Qbc (find g sp.1.1).1.1 g).map fun u=>(sp.1,u,(idP sp.2).1)
def edS (g:List Nd):List Sp→List Ed
 | []=>[]
 |sp::r=>edOf g sp++edS g r
def SpOk (g:List Nd)(sp:Sp):Prop:=(∃(j:Nat) (n:Nd),g[j]?=some n∧n.1=sp.1.1)∧0≤sp.2∧sp.2≤4
theorem Qeh {g:List Nd}(H:Inc g){j:Nat}{n:Nd}(E:g[j]?=some n):find g n.1=(n,true):=by
 unfold find
 rw[H.idx E,if_neg (by omega),Qbb rfl E]
theorem edgesR_l6 (g:List Nd)(l:List Sp)(L:Few g)(O:Inc g)(Q:Own g)(Y:l.length≤130)(hs: ∀sp∈l,SpOk g sp):F.eM g l=some (edS g l):=by
 have hlen:=L.1
 have loop:=A.lp l (fun f (s:List Ed) i=>F.cd g l f s i) (fun k t s=>some (s++edS g t)) (fun k s=>s.length≤83*k)
  (fun f s hs=>by rw[F.cd,if_neg (by omega),edS,Q9])
  (fun f s k x I hk hp N=>by
   obtain⟨⟨j,n,V,H⟩,W⟩:=hs x (Qh I)
   have hu:=Qbg n.1 g fun x I=>in2 Q I
   rw[F.cd,if_pos (by omega),A.ixn I,Qa,←H,Find_eq g L O V,Qa,edS,edOf,←H,Qeh O V]
   simp only[F.eB,F.d5,A.gd1 (A.r64n (n:=k) (by omega)),Qa]
   by_cases J:x.1.2≠2
   ·rw[if_pos J,if_pos J]
    by_cases E:n.2.1≠15
    ·rw[if_pos E,if_pos E,show F.d4 n x.2=_ from within_eqR n x.2 W,Qa,A.gd1 (by simp only[Qd,Qm];omega),N _ (by simp only[Qj,Qd,Qm];omega),H]
     simp only[Qx]
    ·rw[if_neg E,if_neg E,N _ (by omega),Wo]
   ·rw[if_neg J,if_neg J,Id_eqR x.2 W,Qa,edges_l5R g _ k x (n,true) (idP x.2) s L Q (by omega) (by omega),N _ (by rw[Qj,Qr];show s.length+(Qbc n.1 g).length≤_;omega),Qx])
  (by have:=Qab;omega) [] (by simp)
 unfold F.eM
 rw[loop];rfl
theorem Qix (g:List Nd): ∀(a b:List Sp),edS g (a++b)=edS g a++edS g b
 | [],_=>rfl
 |x::a,b=>by rw[W5,edS,edS,Qix g a b,Qx]
theorem edS_ins {g:List Nd}(H:Inc g)(d:List Int){j:Nat}{n:Nd}(I:g[j]?=some n): ∀(k:Nat) (l:List Int),k+l.length≤2→edS g (insS g d n.1 k l)=if n.2.1=15 then []else inE g d n k l
 |k,[],_=>by unfold insS inE edS;split<;>rfl
 |k,z::r,h=>by
  rw[Qd]at h
  have J:((k:Int):Int)≠2:=by omega
  unfold insS inE
  rw[edS,edS_ins H d I (k+1) r (by omega),edOf]
  simp only[Qeh H I]
  rw[if_pos J]
  by_cases E:n.2.1=15
  ·simp[E]
  ·rw[if_neg E,if_neg E,if_pos E];rfl
theorem Qhq {g:List Nd}(I:Inc g)(J:Own g)(d:List Int): ∀(m k:Nat),k+m=g.length→edS g (spotsF g d k (g.drop k))=Qaw g d k (g.drop k)
 |0,k,h=>by rw[Q2 (by omega)];rfl
 |m+1,k,h=>by
  have H:g[k]?=some g[k]:=Qe (by omega)
  generalize g[k]=x at H
  have L:=in2 J (Qh H)
  rw[A.dropx H,spotsF,Qaw,Qix,Qix,Qhq I J d m (k+1) (by omega),edS_ins I d H 0 _ (by omega)]
  by_cases E:x.2.1=15
  ·rw[if_pos E,if_pos E,outS,if_neg (fun h=>h E),edS];rfl
  ·rw[if_neg E,if_neg E,outS,if_pos E,edS,edOf]
   simp only[Qeh I H]
   rw[if_neg (fun h=>h rfl),edS,Q9];rfl
theorem o_bs {g:List Nd}{d:List Int}(E:InB d){j:Nat}{n:Nd}(H:g[j]?=some n): ∀(k:Nat) (l:List Int),∀sp∈insS g d n.1 k l,SpOk g sp
 |_,[],sp,h=>by cases h
 |k,z::r,sp,h=>by
  unfold insS at h
  rcases Qg.1 h with rfl|h
  ·exact⟨⟨j,n,H,rfl⟩,E _⟩
  ·exact o_bs E H (k+1) r sp h
theorem o_aQ {g:List Nd}{d:List Int}(E:InB d): ∀(m k:Nat),k+m=g.length→∀sp∈spotsF g d k (g.drop k),SpOk g sp
 |0,k,h,sp,hs=>by rw[Q2 (by omega)]at hs;cases hs
 |m+1,k,h,sp,hs=>by
  have H:g[k]?=some g[k]:=Qe (by omega)
  generalize g[k]=x at H
  rw[A.dropx H,spotsF]at hs
  rcases Qu.1 hs with hs|hs
  ·exact o_bs E H 0 _ sp hs
  ·rcases Qu.1 hs with hs|hs
   ·unfold outS at hs
    split at hs
    ·rw[Qi]at hs;subst hs;exact⟨⟨k,x,H,rfl⟩,E _⟩
    ·cases hs
   ·exact o_aQ E m (k+1) (by omega) sp hs
theorem Qdp {g:List Nd}(H:Own g)(d:List Int): ∀(m k:Nat),k+m=g.length→(spotsF g d k (g.drop k)).length≤3*m
 |0,k,h=>by rw[Q2 (by omega)];exact Qq 0
 |m+1,k,h=>by
  have E:g[k]?=some g[k]:=Qe (by omega)
  generalize g[k]=x at E
  have I:=in2 H (Qh E)
  have J:=Qgm x (iget d (k:Int))
  have L:=Qdp H d m (k+1) (by omega)
  rw[A.dropx E,spotsF,Qj,Qj,Qdf];omega
theorem edgesR_eq (g:List Nd)(d:List Int)(I:Few g)(J:Inc g)(E:Own g)(H:InB d):F.eM g (spots g d)=some (edges g d):=by
 have O:=Qdp E d g.length 0 (by omega)
 have L:=o_aQ (d:=d) (g:=g) H g.length 0 (by omega)
 have N:=Qhq J E d g.length 0 (by omega)
 rw[Wq]at O L N
 have:=I.1
 rw[edgesR_l6 g (spots g d) I J E (by unfold spots;omega) L]
 exact congrArg some N
end Go.Proofs.YtlhiofnikdppeaaGreatDoor
end
