import Derived.Test.YtpoabedecgeamaaGreatM4
import Derived.OpenShut
import Derived.ShutString
import Derived.ChangeOld
import Derived.ChangeArms
import Derived.DataReads
import Derived.Test.YtpoabedecgeamaaGreatRows
import Derived.WalkKit
import Derived.ProofKit
set_option linter.defProp false
set_option linter.unusedVariables false
set_option linter.unusedSimpArgs false
set_option synthInstance.maxSize 1000000
set_option synthInstance.maxHeartbeats 400000
section
namespace Go.Proofs.YtpoabedecgeamaaGreat
open Go.RowKit Go.Codec
def rNum (w:List UInt8){n:Int}(H:okInt n)(h:(w++encInt n).length<=BB):F.b (w,0) n=some (w++encInt n,0):=by
 unfold F.b;unfold BB at h;rw[rInt n H,Qa,A.gd1 (by simp only[Qb]at h ⊢;omega)]
def Qdj (w:List UInt8){n:Nat}(H:n<=65536)(h:(w++encInt (n:Int)).length<=BB):F.ax (w,0) (n:Int)=some (w++encInt (n:Int),0):=by
 unfold F.ax F.bj;rw[Qc (by omega)]
 (try dsimp only)
 rw[rNum w (okN (by omega)) h,Qa]
def rText (w:List UInt8)(s:ByteArray)(H:Qbu s)(h:(w++Qao s).length<=BB):F.aP (w,0) s=some (w++Qao s,0):=by
 unfold Qbu at H;have J:=(encInt_length (s.size:Int)).2;have e:F.cW s=some (Qao s,0):=by
  unfold F.cW;rw[Qc (by omega),rInt _ (by unfold okInt;omega),Qa,A.gd1 (by omega)];rfl
 unfold F.aP F.bu;unfold BB at h;rw[e,Qa,Qc (by simp),A.gd1 (by simp only[Qb]at h ⊢;omega)]
def rFn (w:List UInt8)(f:Codec.Fn)(H:okFn f)(J:gFn f)(h:(w++Qdb f).length<=BB):F.b3 (w,0) f=some (w++Qdb f,0):=by
 unfold Qdb at h ⊢;unfold F.b3
 (try dsimp only)
 rw[rNum w H.1 (by simp only[Qb]at h ⊢;omega),Qa]
 (try dsimp only)
 rw[rNum _ H.2.1 (by simp only[Qb]at h ⊢;omega),Qa]
 (try dsimp only)
 rw[rText _ _ J (by simp only[Qb]at h ⊢;omega),Qa];simp only[Qh]
def stopR (k n:Nat):(bif decide ((k:Int)<(n:Int))then decide ((0:Int)=0)else false)=decide (k<n):=by
 by_cases h:k<n;rw[Wf h,Wf (by omega)];rfl;rw[W2 h,W2 (by omega)];rfl
def goR {k n:Nat}(h:k<n):(bif decide ((k:Int)<(n:Int))then decide ((0:Int)=0)else false)=true:=by rw[stopR];exact Wf h
def enR (n:Nat): ¬(bif decide ((n:Int)<(n:Int))then decide ((0:Int)=0)else false)=true:=by rw[stopR];simp
def rInts (w:List UInt8)(l:List Int)(H:l.length<=65536)(L: ∀n∈l,okInt n)(h:(w++Qab encInt l).length<=BB):F.bD (w,0) l=some (w++Qab encInt l,0):=by
 obtain⟨N,O⟩:=Qcc encInt l H w h;unfold F.bD
 (try dsimp only)
 rw[Qdj w H N,Qa]
 (try dsimp only)
 rw[Qes encInt l (λf s e y=>F.aN l f s e y) _ (λf s=>by rw[F.aN,Qc (enR _)])
  (λf s k x J hk U=>by
   rw[F.aN,Qe (goR hk),A.ixn J,Qa,rNum s (L x (Qi J)) U,Qa,A.gd1 (A.r64n (by omega))]) O H]
 unfold Qab;simp only[Qh]
def rNodes (w:List UInt8)(l:List Codec.Node)(J:l.length<=65536)(N: ∀n∈l,okNode n)(O: ∀n∈l,gNode n)(h:(w++Qab Qaj l).length<=BB):F.bU (w,0) l=some (w++Qab Qaj l,0):=by
 obtain⟨U,V⟩:=Qcc Qaj l J w h;unfold F.bU
 (try dsimp only)
 rw[Qdj w J U,Qa]
 (try dsimp only)
 rw[Qes Qaj l (λf s e y=>F.aG l f s e y) _ (λf s=>by rw[F.aG,Qc (enR _)])
  (λf s k x L hk H=>by
   have o:=N x (Qi L);have g:=O x (Qi L);unfold Qaj at H ⊢;rw[F.aG,Qe (goR hk),A.ixn L,Qa,rNum s o.1 (by simp only[Qb]at H ⊢;omega),Qa]
   (try dsimp only)
   rw[rNum _ o.2.1 (by simp only[Qb]at H ⊢;omega),Qa]
   (try dsimp only)
   rw[rInts _ _ g.1 o.2.2.1.2 (by simp only[Qb]at H ⊢;omega),Qa]
   (try dsimp only)
   rw[rFn _ _ o.2.2.2.1 g.2.1 (by simp only[Qb]at H ⊢;omega),Qa]
   (try dsimp only)
   rw[rText _ _ g.2.2 (by simp only[Qb]at H ⊢;omega),Qa]
   (try dsimp only)
   rw[rNum _ o.2.2.2.2.2.1 (by simp only[Qb]at H ⊢;omega),Qa]
   (try dsimp only)
   rw[rNum _ o.2.2.2.2.2.2 (by simp only[Qb]at H ⊢;omega),Qa,A.gd1 (A.r64n (by omega))];simp only[Qh]) V J]
 unfold Qab;simp only[Qh]
theorem rDone (w:List UInt8):F.a5 (w,0)=some (w,0,(w,0)):=by
 unfold F.a5;rw[Qc (by simp)]
def Qdc (m:Codec.Msg)(J:okMsg m)(L:sMsg m):F.ce m.2.2.2.2.2.2.1=some (Qaq m.2.2.2.2.2.2.1,0):=by
 obtain⟨N,H⟩:=Qdh L;obtain⟨U,V,W,X,Y,o6,O,o8,o9,_,o11⟩:=J;unfold F.ce F.ak;show(((F.aK [] m.2.2.2.2.2.2.1).bind _).bind _)=_;rw[pDelta [] _ O N.2.2.1 (by unfold Qbd at H;unfold BB;simp only[Qb,Ql]at H ⊢;omega),Qa];rfl
def rPlace (w:List UInt8)(p:Codec.Place)(H:okPlace p)(h:(w++Qar p).length<=BB):F.bn (w,0) p=some (w++Qar p,0):=by
 unfold Qar at h ⊢;unfold F.bn
 (try dsimp only)
 rw[rNum w H.1 (by simp only[Qb]at h ⊢;omega),Qa]
 (try dsimp only)
 rw[rNum _ H.2 (by simp only[Qb]at h ⊢;omega),Qa];simp only[Qh]
def rTime (w:List UInt8)(t:Codec.Time)(H:okTime t)(h:(w++Qaw t).length<=BB):F.bC (w,0) t=some (w++Qaw t,0):=by
 unfold Qaw Qdy at h ⊢;unfold F.bC
 (try dsimp only)
 rw[rNum w H.1 (by simp only[Qb]at h ⊢;omega),Qa]
 (try dsimp only)
 rw[rNum _ H.2.1 (by simp only[Qb]at h ⊢;omega),Qa]
 (try dsimp only)
 have J:(((w++encInt t.1)++encInt t.2.1)++[t.2.2.1,t.2.2.2.1,t.2.2.2.2.1,t.2.2.2.2.2].flatMap encInt).length<=BB:=by
  simp only[List.flatMap_cons,List.flatMap_nil,Wp,Qb]at h ⊢;omega
 have L: ∀x∈[t.2.2.1,t.2.2.2.1,t.2.2.2.2.1,t.2.2.2.2.2],okInt x:=by
  have:=H.2.2;simp only[Qq,W5,or_false];rintro x (rfl|rfl|rfl|rfl);exact this.1;exact this.2.1;exact this.2.2.1;exact this.2.2.2
 rw[Qes encInt [t.2.2.1,t.2.2.2.1,t.2.2.2.2.1,t.2.2.2.2.2] (λf s e y=>F.aL t f s e y) _ (λf s=>by rw[F.aL,Qc (by simp)])
  (λf s k x N hk J=>by
   rw[F.aL,Qe (by simp only[Q5,Qo]at hk;omega),A.ixn N,Qa,rNum s (L x (Qi N)) J,Qa];rw[A.gd1 (A.r64n (by simp only[Q5,Qo]at hk;omega))]) J (by simp)]
 simp only[List.flatMap_cons,List.flatMap_nil,Wp,Qh]
def rRecs (w:List UInt8)(l:List Codec.Rec)(H:l.length<=65536)(N: ∀n∈l,okRec n)(O: ∀n∈l,gRec n)(h:(w++Qab Qav l).length<=BB):F.b5 (w,0) l=some (w++Qab Qav l,0):=by
 obtain⟨U,V⟩:=Qcc Qav l H w h;unfold F.b5
 (try dsimp only)
 rw[Qdj w H U,Qa]
 (try dsimp only)
 rw[Qes Qav l (λf s e y=>F.aM l f s e y) _ (λf s=>by rw[F.aM,Qc (enR _)])
  (λf s k x J hk L=>by
   have o:=N x (Qi J);have g:=O x (Qi J);unfold Qav at L ⊢;rw[F.aM,Qe (goR hk),A.ixn J,Qa,rNum s o.1 (by simp only[Qb]at L ⊢;omega),Qa]
   (try dsimp only)
   rw[Qa,rText _ _ g (by simp only[Qb]at L ⊢;omega),Qa,A.gd1 (A.r64n (by omega))];simp only[Qh]) V H]
 unfold Qab;simp only[Qh]
def rEntries (w:List UInt8)(l:List Codec.Entry)(J:l.length<=65536)(N: ∀n∈l,okEntry n)(O: ∀n∈l,Qec n)(h:(w++Qab Qae l).length<=BB):F.aZ (w,0) l=some (w++Qab Qae l,0):=by
 obtain⟨U,V⟩:=Qcc Qae l J w h;unfold F.aZ
 (try dsimp only)
 rw[Qdj w J U,Qa]
 (try dsimp only)
 rw[Qes Qae l (λf s e y=>F.az l f s e y) _ (λf s=>by rw[F.az,Qc (enR _)])
  (λf s k x L hk H=>by
   have o:=N x (Qi L);have g:=O x (Qi L);unfold Qae at H ⊢;rw[F.az,Qe (goR hk),A.ixn L,Qa,rNum s o.1 (by simp only[Qb]at H ⊢;omega),Qa]
   (try dsimp only)
   rw[Qa,rNum _ o.2.1 (by simp only[Qb]at H ⊢;omega),Qa]
   (try dsimp only)
   rw[Qa,rText _ _ g (by simp only[Qb]at H ⊢;omega),Qa]
   (try dsimp only)
   rw[Qa,rNum _ o.2.2.2 (by simp only[Qb]at H ⊢;omega),Qa,A.gd1 (A.r64n (by omega))];simp only[Qh]) V J]
 unfold Qab;simp only[Qh]
def rChanges (w:List UInt8)(l:List Codec.Change)(J:l.length<=65536)(N: ∀n∈l,okChange n)(h:(w++Qab Qac l).length<=BB):F.bv (w,0) l=some (w++Qab Qac l,0):=by
 obtain⟨O,U⟩:=Qcc Qac l J w h;unfold F.bv
 (try dsimp only)
 rw[Qdj w J O,Qa]
 (try dsimp only)
 rw[Qes Qac l (λf s e y=>F.aA l f s e y) _ (λf s=>by rw[F.aA,Qc (enR _)])
  (λf s k x L hk H=>by
   have o:=N x (Qi L);unfold Qac at H ⊢;rw[F.aA,Qe (goR hk),A.ixn L,Qa];rw[show(x.1:Codec.Place)=x.1 from rfl,rPlace s _ o.1 (by simp only[Qb]at H ⊢;omega),Qa]
   (try dsimp only)
   rw[Qa];rw[show(x.2.1:Codec.Time)=x.2.1 from rfl,rTime _ _ o.2.1 (by simp only[Qb]at H ⊢;omega),Qa]
   (try dsimp only)
   rw[Qa,rNum _ o.2.2 (by simp only[Qb]at H ⊢;omega),Qa,A.gd1 (A.r64n (by omega))];simp only[Qh]) U J]
 unfold Qab;simp only[Qh]
def rDelta (w:List UInt8)(d:Codec.Delta)(L:okDelta d)(H:gDelta d)(h:(w++Qaq d).length<=BB):F.bo (w,0) d=some (w++Qaq d,0):=by
 unfold Qaq at h ⊢;unfold F.bo
 (try dsimp only)
 rw[rInts w _ H.1 L.1.2 (by simp only[Qb]at h ⊢;omega),Qa]
 (try dsimp only)
 rw[rNodes _ _ H.2.1.1 L.2.1.2 H.2.1.2 (by simp only[Qb]at h ⊢;omega),Qa]
 (try dsimp only)
 obtain⟨O,U⟩:=Qcc Qap d.2.2 H.2.2.1 ((w++Qab encInt d.1)++Qab Qaj d.2.1) (by simp only[Qb]at h ⊢;omega);rw[Qdj _ H.2.2.1 O,Qa]
 (try dsimp only)
 rw[Qes Qap d.2.2 (λf s e y=>F.aH d f s e y) _ (λf s=>by rw[F.aH,Qc (enR _)])
  (λf s k x N hk J=>by
   have o:=L.2.2.2 x (Qi N);have g:=H.2.2.2 x (Qi N);have V:=H.2.2.1;unfold Qap at J ⊢;rw[F.aH,Qe (goR hk),A.ixn N,Qa,rNum s o.1 (by simp only[Qb]at J ⊢;omega),Qa]
   (try dsimp only)
   rw[rNum _ o.2.1 (by simp only[Qb]at J ⊢;omega),Qa]
   (try dsimp only)
   rw[rNum _ o.2.2.1 (by simp only[Qb]at J ⊢;omega),Qa]
   (try dsimp only)
   rw[rNum _ o.2.2.2.1 (by simp only[Qb]at J ⊢;omega),Qa]
   (try dsimp only)
   rw[rFn _ _ o.2.2.2.2 g (by simp only[Qb]at J ⊢;omega),Qa,A.gd1 (A.r64n (by omega))];simp only[Qh]) U H.2.2.1]
 unfold Qab;simp only[Qh]
def R12_Msg_eq (m:Codec.Msg)(L:okMsg m)(N:sMsg m):F.cO m=some (Qbd m,0):=by
 obtain⟨H,h⟩:=Qdh N;obtain⟨O,U,V,W,X,Y,o7,o8,o9,_,o11⟩:=L;unfold Qbd at h ⊢;unfold F.cO;rw[rNum [] O (by unfold BB;simp only[Qb,Ql]at h ⊢;omega),Qa]
 (try dsimp only)
 rw[rNum _ U (by unfold BB;simp only[Qb,Ql]at h ⊢;omega),Qa]
 (try dsimp only)
 rw[rPlace _ _ V (by unfold BB;simp only[Qb,Ql]at h ⊢;omega),Qa]
 (try dsimp only)
 rw[show(m.2.2.2.1:Codec.Time)=m.2.2.2.1 from rfl,rTime _ _ W (by unfold BB;simp only[Qb,Ql]at h ⊢;omega),Qa]
 (try dsimp only)
 rw[rRecs _ _ H.1.1 X.2 H.1.2 (by unfold BB;simp only[Qb,Ql]at h ⊢;omega),Qa]
 (try dsimp only)
 rw[rChanges _ _ H.2.1 Y.2 (by unfold BB;simp only[Qb,Ql]at h ⊢;omega),Qa]
 (try dsimp only)
 rw[rDelta _ _ o7 H.2.2.1 (by unfold BB;simp only[Qb,Ql]at h ⊢;omega),Qa]
 (try dsimp only)
 rw[rNum _ o8 (by unfold BB;simp only[Qb,Ql]at h ⊢;omega),Qa]
 (try dsimp only)
 rw[rEntries _ _ H.2.2.2.1 o9.2 H.2.2.2.2 (by unfold BB;simp only[Qb,Ql]at h ⊢;omega),Qa];simp only[F.cL];by_cases J:m.2.2.2.2.2.2.2.2.2.1=true
 ·rw[Qe J]
  rw[J]at h ⊢;have e:encInt (b01 true)=encInt 1:=rfl;rw[e]at h ⊢;rw[rNum _ (n:=1) (by unfold okInt;omega) (by unfold BB;simp only[Qb,Ql]at h ⊢;omega),Qa]
  (try dsimp only)
  rw[rNum _ o11 (by unfold BB;simp only[Qb,Ql]at h ⊢;omega),Qa]
  (try dsimp only)
  rw[rDone,Qa];simp only[Ql,Qh]
 ·have J:m.2.2.2.2.2.2.2.2.2.1=false:=by simpa using J
  rw[Qc (by rw[J];simp)];rw[J]at h ⊢;have e:encInt (b01 false)=encInt 0:=rfl;rw[e]at h ⊢;rw[rNum _ (n:=0) (by unfold okInt;omega) (by unfold BB;simp only[Qb,Ql]at h ⊢;omega),Qa]
  (try dsimp only)
  rw[rNum _ o11 (by unfold BB;simp only[Qb,Ql]at h ⊢;omega),Qa]
  (try dsimp only)
  rw[rDone,Qa];simp only[Ql,Qh]
def Qem (m:Codec.Msg)(J:okMsg m)(L:sMsg m):F.cF m.2.2.2.2.2.2.1=some (Qaq m.2.2.2.2.2.2.1,0):=by
 obtain⟨N,H⟩:=Qdh L;obtain⟨U,V,W,X,Y,o6,O,o8,o9,_,o11⟩:=J;unfold F.cF;rw[rDelta [] _ O N.2.2.1 (by unfold Qbd at H;unfold BB;simp only[Qb,Ql]at H ⊢;omega),Qa]
 (try dsimp only)
 rw[rDone];rfl
def Qcz (m:Codec.Msg)(L:okMsg m)(N:sMsg m):F.cJ m.2.2.2.2.2.2.2.2.1=some (Qab Qae m.2.2.2.2.2.2.2.2.1,0):=by
 obtain⟨H,J⟩:=Qdh N;obtain⟨U,V,W,X,Y,o6,o7,o8,O,_,o11⟩:=L;unfold F.cJ;rw[rEntries [] _ H.2.2.2.1 O.2 H.2.2.2.2 (by unfold Qbd at J;unfold BB;simp only[Qb,Ql]at J ⊢;omega),Qa]
 (try dsimp only)
 rw[rDone];rfl
abbrev Pz (α:Type):=List UInt8->Int ⊕ (α×Nat)
def pr {α:Type}(x:α):Pz α:=λ_=>.inr (x,0)
def pe {α:Type}(e:Int):Pz α:=λ_=>.inl e
def pb {α β:Type}(p:Pz α)(q:α->Pz β):Pz β:=λbs=>match p bs with
 | .inl e=>.inl e
 | .inr (x,k)=>match q x (bs.drop k)with
  | .inl e=>.inl e
  | .inr (y,j)=>.inr (y,k+j)
def PF {α:Type}(p:Pz α):Prop:=∀bs,(∀e,p bs=.inl e->e≠0)/\∀x k,p bs=.inr (x,k)->k<=bs.length
def Qca {α:Type}(x:α):PF (pr x):=λbs=>⟨λe h=>(by cases h),λy k h=>by cases h;omega⟩
def PF_pe {α:Type}{e:Int}(H:e≠0):PF (pe e:Pz α):=λbs=>⟨λe' h=>by cases h;exact H,λy k h=>by cases h⟩
def Qad {α β:Type}{p:Pz α}{q:α->Pz β}(hp:PF p)(hq: ∀x,PF (q x)):PF (pb p q):=λbs=>by
 unfold pb;cases h:p bs with
 |inl e=>exact⟨λe' h'=>by cases h';exact(hp bs).1 e h,λy k h'=>by cases h'⟩
 |inr v=>
  obtain⟨x,k⟩:=v;have hk:=(hp bs).2 x k h
  (try dsimp only)
  cases H:q x (bs.drop k)with
  |inl e=>exact⟨λe' h'=>by cases h';exact(hq x _).1 e H,λy k h'=>by cases h'⟩
  |inr J=>
   obtain⟨y,j⟩:=J;have L:=(hq x _).2 y j H;rw[Qk]at L;exact⟨λe' h'=>(by cases h'),λy k h'=>by cases h';omega⟩
def PQ {α:Type}(p:Pz α)(Q:α->Prop):Prop:=∀bs x k,p bs=.inr (x,k)->Q x
def PQ_pr {α:Type}{x:α}{Q:α->Prop}(h:Q x):PQ (pr x) Q:=λbs y k h'=>by cases h';exact h
def PQ_pb {α β:Type}{p:Pz α}{q:α->Pz β}{P:α->Prop}{Q:β->Prop}(hp:PQ p P)(hq: ∀x,P x->PQ (q x) Q):PQ (pb p q) Q:=λbs y k h=>by
 unfold pb at h;cases H:p bs with
 |inl e=>rw[H]at h;cases h
 |inr v=>
  obtain⟨x,k0⟩:=v;rw[H]at h;dsimp only at h;cases J:q x (bs.drop k0)with
  |inl e=>rw[J]at h;cases h
  |inr L=>
   obtain⟨N,j⟩:=L;rw[J]at h;cases h;exact hq x (hp _ _ _ H) _ _ _ J
def PQ_t {α:Type}(p:Pz α):PQ p λ_=>True:=λ_ _ _ _=>trivial
def pI:Pz Int:=λbs=>if(takeI bs).2.2≠0 then .inl (takeI bs).2.2 else .inr ((takeI bs).1,(takeI bs).2.1)
def pT:Pz ByteArray:=λbs=>if(takeT bs).2.2≠0 then .inl (takeT bs).2.2 else .inr ((takeT bs).1,(takeT bs).2.1)
def pC:Pz Int:=λbs=>if(takeI bs).2.2≠0 then .inl (takeI bs).2.2 else if(takeI bs).1<0 then .inl 70 else if 65536<(takeI bs).1 then .inl 3 else .inr ((takeI bs).1,(takeI bs).2.1)
def PF_I:PF pI:=λbs=>by
 unfold pI;rcases Qaz bs with⟨H,L,J,_⟩|⟨H,_⟩
 rw[Qc (by simp[H])];exact⟨λe h=>(by cases h),λx k h=>by cases h;exact J⟩;rw[Qe H];exact⟨λe h=>by cases h;exact H,λx k h=>by cases h⟩
def PF_T:PF pT:=λbs=>by
 unfold pT;rcases takeT_all bs with⟨H,L,J,_⟩|⟨H,_⟩
 rw[Qc (by simp[H])];exact⟨λe h=>(by cases h),λx k h=>by cases h;exact J⟩;rw[Qe H];exact⟨λe h=>by cases h;exact H,λx k h=>by cases h⟩
def PF_C:PF pC:=λbs=>by
 unfold pC;rcases Qaz bs with⟨H,L,J,_⟩|⟨H,_⟩
 rw[Qc (by simp[H])];split;exact⟨λe h=>by cases h;decide,λx k h=>by cases h⟩;split;exact⟨λe h=>by cases h;decide,λx k h=>by cases h⟩;exact⟨λe h=>(by cases h),λx k h=>by cases h;exact J⟩;rw[Qe H];exact⟨λe h=>by cases h;exact H,λx k h=>by cases h⟩
def PQ_C:PQ pC λn=>0<=n/\n<=65536:=λbs x k h=>by
 unfold pC at h;split at h;cases h;split at h;cases h;split at h;cases h;cases h;omega
def pn {α:Type}(p:Pz α):Nat->Pz (List α)
 |0=>pr []
 |n+1=>pb p λx=>pb (pn p n) λxs=>pr (x::xs)
def PF_n {α:Type}{p:Pz α}(hp:PF p): ∀n,PF (pn p n)
 |0=>Qca []
 |n+1=>Qad hp λx=>Qad (PF_n hp n) λxs=>Qca _
def PQ_n {α:Type}{p:Pz α}{P:α->Prop}(hp:PQ p P): ∀n,PQ (pn p n) λxs=>xs.length=n/\∀x∈xs,P x
 |0=>PQ_pr ⟨rfl,λx J=>by cases J⟩
 |n+1=>PQ_pb hp λx J=>PQ_pb (PQ_n hp n) λxs H=>PQ_pr ⟨by rw[Q5,H.1],λy L=>by
   rcases Qq.1 L with rfl|L
   exact J;exact H.2 y L⟩
def pL {α:Type}(p:Pz α):Pz (List α):=pb pC λn=>pn p n.toNat
def PF_L {α:Type}{p:Pz α}(hp:PF p):PF (pL p):=Qad PF_C λn=>PF_n hp _
def PQ_L {α:Type}{p:Pz α}{P:α->Prop}(hp:PQ p P):PQ (pL p) λxs=>xs.length<=65536/\∀x∈xs,P x:=
 PQ_pb PQ_C λn H bs xs k h=>by
  have:=PQ_n hp _ bs xs k h;exact⟨by omega,this.2⟩
abbrev Rd:=Bool×List UInt8×Int
def ot {α:Type}(bs:List UInt8)(at_:Nat):Int ⊕ (α×Nat)->Int ⊕ (α×Rd)
 | .inl e=>.inl e
 | .inr (x,k)=>.inr (x,(true,bs,((at_+k:Nat):Int)))
def PA {α:Type}(f:Rd->Option (Int ⊕ (α×Rd)))(p:Pz α):Prop:=∀bs (at_:Nat),at_<=bs.length->bs.length<=70368744177664->f (true,bs,(at_:Int))=some (ot bs at_ (p (bs.drop at_)))
def Qda {α:Type}(x:α):PA (λs=>some (.inr (x,s))) (pr x):=λbs at_ h H=>by simp[pr,ot]
def Qag {α β:Type}{f:Rd->Option (Int ⊕ (α×Rd))}{g:α->Rd->Option (Int ⊕ (β×Rd))}{p:Pz α}{q:α->Pz β}(J:PA f p)(hp:PF p)(L: ∀x,PA (g x) (q x)):
  PA (λs=>(f s).bind λr=>A.sm r λx=>g x.1 x.2) (pb p q):=λbs at_ h H=>by
 unfold pb
 (try dsimp only)
 rw[J bs at_ h H,Qa];cases N:p (bs.drop at_)with
 |inl e=>rfl
 |inr v=>
  obtain⟨x,k⟩:=v;have hk:=(hp _).2 x k N;rw[Qk]at hk;show g x (true,bs,((at_+k:Nat):Int))=_;rw[L x bs (at_+k) (by omega) H]
  (try dsimp only)
  rw[Q9];cases q x (bs.drop (at_+k))with
  |inl e=>rfl
  |inr O=>obtain⟨y,j⟩:=O;simp only[ot,Wn]
def wRI (bs:List UInt8)(at_:Nat)(h:at_<=bs.length)(L:bs.length<=70368744177664):F.bE (true,bs,(at_:Int))=some ((takeI (bs.drop at_)).1,(takeI (bs.drop at_)).2.2,(true,bs,((at_+(takeI (bs.drop at_)).2.1:Nat):Int))):=by
 have hk:(takeI (bs.drop at_)).2.1<=1048576:=by
  rcases Qaz (bs.drop at_)with⟨H,J,N,O,_⟩|⟨H,J,_⟩
  omega;omega
 unfold F.bE F.ah;rw[Qa,Qc (by simp),A.gd1 ⟨by dsimp only;omega,by dsimp only;omega⟩]
 (try dsimp only)
 rw[show((at_:Int)).toNat=at_ by omega,wTake _ (by rw[Qk];omega),Qa];unfold tr
 (try dsimp only)
 rw[A.gd1 ⟨by omega,by omega⟩];rw[show((at_:Int)+((takeI (bs.drop at_)).2.1:Int))=((at_+(takeI (bs.drop at_)).2.1:Nat):Int) by omega]
def Qan:PA F.d pI:=λbs at_ h J=>by
 unfold F.d
 (try dsimp only)
 rw[wRI bs at_ h J,Qa];unfold pI F.l
 (try dsimp only)
 by_cases H:(takeI (bs.drop at_)).2.2≠0;rw[Qe H,Qe H,Qa];rfl;rw[Qc H,Qc H,Qa];rfl
def Qax:PA F.j pI:=λbs at_ h H=>by
 unfold F.j
 (try dsimp only)
 rw[Qan bs at_ h H,Qa];cases J:pI (bs.drop at_)with
 |inl e=>rfl
 |inr v=>obtain⟨x,k⟩:=v;rfl
def wLen (bs:List UInt8)(at_:Nat)(h:at_<=bs.length)(N:bs.length<=70368744177664):
  F.a0 (true,bs,(at_:Int)) 65536=some (match pC (bs.drop at_)with
   | .inl e=>(0,e,(true,bs,(at_:Int)))
   | .inr (n,k)=>(n,0,(true,bs,((at_+k:Nat):Int)))):=by
 unfold F.a0 F.bK F.ah;rw[Qa,Qc (by simp),Qa]
 (try dsimp only)
 rw[wRI bs at_ h N,Qa];unfold pC F.aB F.bW F.bk F.ah
 (try dsimp only)
 by_cases H:(takeI (bs.drop at_)).2.2≠0;rw[Qe H,Qe H];rw[Qa,Qe (by simp[H]),Qa,Qe H];rw[Qc H,Qc H];by_cases J:(takeI (bs.drop at_)).1<0;rw[Qe J,Qe J,Qa];rfl;rw[Qc J,Qc J];by_cases L:65536<(takeI (bs.drop at_)).1;rw[Qe L,Qe L,Qa];rfl;rw[Qc L,Qc L,Qa,Qc (by simp[H]),Qa,Qc H]
def Qdo:PA F.aF pT:=λbs at_ h U=>by
 unfold F.aF F.cn F.bK F.ah
 (try dsimp only)
 rw[Qa,Qc (by simp),Qa,wLen bs at_ h U,Qa];unfold pT pC;by_cases H:(takeI (bs.drop at_)).2.2≠0
 ·rw[Qe H,Qcu H]
  (try dsimp only)
  rw[Qe H,Qa,Qe H];unfold F.l;rw[Qe H];rfl
 rw[Qc H];by_cases J:(takeI (bs.drop at_)).1<0;rw[Qe J,Qco H J];rfl;rw[Qc J];by_cases L:65536<(takeI (bs.drop at_)).1;rw[Qe L,Qcl H L];rfl;rw[Qc L]
 (try dsimp only)
 have hk:(takeI (bs.drop at_)).2.1<=bs.length-at_:=by
  rcases Qaz (bs.drop at_)with⟨_,N,J,_⟩|⟨N,_⟩
  rw[Qk]at J;omega;exact absurd N H
 rw[Qc (by simp),A.gd1 ⟨by omega,by omega⟩];by_cases O:((bs.length:Int)-((at_+(takeI (bs.drop at_)).2.1:Nat):Int))<(takeI (bs.drop at_)).1;rw[Qe O,Qbl H J L (by rw[Qk];omega)];rfl;rw[Qc O,o_bu H J L (by rw[Qk];omega),A.gd1 ⟨⟨by omega,by omega⟩,by omega,by omega⟩,A.gd1 ⟨by omega,by omega,by omega⟩,A.gd1 ⟨by omega,by omega⟩,Qa];unfold F.l;simp only[ne_eq,not_true_eq_false,Xs,Qa,ot];simp only[A.sm];obtain⟨n,V⟩:=Wo (show 0<=(takeI (bs.drop at_)).1 by omega);rw[V,show(((at_+(takeI (bs.drop at_)).2.1:Nat):Int)).toNat=at_+(takeI (bs.drop at_)).2.1 by omega,show(((at_+(takeI (bs.drop at_)).2.1:Nat):Int)+(n:Int)).toNat=(at_+(takeI (bs.drop at_)).2.1)+n by omega];rw[Xg,Nat.add_sub_cancel_left,Q9,show((n:Int)).toNat=n by omega];rw[show(((at_+(takeI (bs.drop at_)).2.1:Nat):Int)+(n:Int))=((at_+((takeI (bs.drop at_)).2.1+n):Nat):Int) by omega]
def PA_rows {α:Type}(c:Nat)(U:c<=1000){f:Rd->Option (Int ⊕ (α×Rd))}{p:Pz α}(V:PA f p)(hp:PF p)(L:(Int×Int×Rd)->Nat->List UInt8->List α->Bool->Int->Int->Option (Int ⊕ (List α×Rd)))
  (O: ∀(n:Int×Int×Rd) m bs acc b at_ y,L n (m+1) bs acc b at_ y=if y<n.1 then(f (b,bs,at_)).bind λr=>A.sm r λx=>A.gd ((acc.length+[x.1].length)*c<=140737488355328) (A.gd (Z.R64 (y+1)) (L n m x.2.2.1 (acc++[x.1]) x.2.1 x.2.2.2 (y+1)))else some (.inr (acc,(b,bs,at_)))):
  ∀(n:Nat) (H:Int×Int×Rd),n<=65536->H.1=(n:Int)->∀(m fu:Nat) (acc:List α) (bs:List UInt8) (at_:Nat),acc.length+m=n->m<fu->at_<=bs.length->bs.length<=70368744177664->
   L H fu bs acc true (at_:Int) (acc.length:Int)=some (ot bs at_ (match pn p m (bs.drop at_)with| .inl e=>.inl e| .inr (xs,k)=>.inr (acc++xs,k))):=by
 intro n H hn hr m;induction m with
 |zero=>
  intro fu acc bs at_ W J h N;obtain⟨fu,rfl⟩: ∃f',fu=f'+1:=⟨fu-1,by omega⟩;rw[O,Qc (by omega)];simp[pn,pr,ot]
 |succ m X=>
  intro fu acc bs at_ W J h N;obtain⟨fu,rfl⟩: ∃f',fu=f'+1:=⟨fu-1,by omega⟩;rw[O,Qe (by omega),V bs at_ h N,Qa];unfold pn pb;cases Y:p (bs.drop at_)with
  |inl e=>rfl
  |inr v=>
   obtain⟨x,k⟩:=v;have hk:=(hp _).2 x k Y;rw[Qk]at hk;have hx:((acc.length+[x].length)*c<=140737488355328):=by
    have:(acc.length+[x].length)*c<=65536*1000:=Nat.mul_le_mul (by simp only[Qy];omega) U;omega
   simp only[ot,A.sm];rw[A.gd1 hx,A.gd1 (A.r64n (by omega))];have:=X fu (acc++[x]) bs (at_+k) (by simp only[Qb,Qy];omega) (by omega) (by omega) N;rw[show(((acc++[x]).length:Nat):Int)=(acc.length:Int)+1 by simp]at this;rw[this];rw[Q9];cases h3:pn p m (bs.drop (at_+k))with
   |inl e=>rfl
   |inr v2=>obtain⟨xs,j⟩:=v2;simp[ot,pr,Wn]
def PA_L {α:Type}(c:Nat)(O:c<=1000){f:Rd->Option (Int ⊕ (α×Rd))}{p:Pz α}(U:PA f p)(hp:PF p)(L:(Int×Int×Rd)->Nat->List UInt8->List α->Bool->Int->Int->Option (Int ⊕ (List α×Rd)))
  (V: ∀(n:Int×Int×Rd) m bs acc b at_ y,L n (m+1) bs acc b at_ y=if y<n.1 then(f (b,bs,at_)).bind λr=>A.sm r λx=>A.gd ((acc.length+[x.1].length)*c<=140737488355328) (A.gd (Z.R64 (y+1)) (L n m x.2.2.1 (acc++[x.1]) x.2.1 x.2.2.2 (y+1)))else some (.inr (acc,(b,bs,at_))))
  (G:Rd->Option (Int ⊕ (List α×Rd))) (W: ∀s,G s=(F.av s).bind λH=>(F.l H.2.1).bind λX=>A.sm X λx10=>L H A.FU H.2.2.2.1 [] H.2.2.1 H.2.2.2.2 0):PA G (pL p):=λbs at_ h N=>by
 rw[W];unfold F.av
 (try dsimp only)
 rw[wLen bs at_ h N,Qa];unfold pL pb;cases J:pC (bs.drop at_)with
 |inl e=>
  have Y:=(PF_C _).1 e J
  (try dsimp only)
  rw[Qa];unfold F.l;rw[Qe Y];rfl
 |inr v=>
  obtain⟨n,k⟩:=v;have hk:=(PF_C _).2 n k J;have hn:=PQ_C _ _ _ J;rw[Qk]at hk
  (try dsimp only)
  rw[Qa];unfold F.l;simp only[ne_eq,not_true_eq_false,Xs,Qa,A.sm];have:=PA_rows c O U hp L V n.toNat (n,0,(true,bs,((at_+k:Nat):Int))) (by omega) (by dsimp only;omega) n.toNat A.FU [] bs (at_+k) (by simp) (by have:=Qas;omega) (by omega) N;rw[show(([]:List α).length:Int)=0 from rfl]at this;rw[this,Q9];cases pn p n.toNat (bs.drop (at_+k))with
  |inl e=>rfl
  |inr v2=>obtain⟨xs,j⟩:=v2;simp[ot,Wn]
def pPl:Pz Codec.Place:=pb pI λa=>pb pI λb=>pr (a,b)
def pTm:Pz Codec.Time:=pb pI λa=>pb pI λb=>pb pI λc=>pb pI λd=>pb pI λe=>pb pI λf=>pr (a,b,c,d,e,f)
def pRc:Pz Codec.Rec:=pb pI λa=>pb pT λb=>pr (a,b)
def pCh:Pz Codec.Change:=pb pPl λa=>pb pTm λb=>pb pI λc=>pr (a,b,c)
def pFc:Pz Codec.Fn:=pb pI λa=>pb pI λb=>pb pT λc=>pr (a,b,c)
def pNd:Pz Codec.Node:=pb pI λa=>pb pI λb=>pb (pL pI) λc=>pb pFc λd=>pb pT λe=>pb pI λf=>pb pI λg=>pr (a,b,c,d,e,f,g)
def pMv:Pz Codec.Move:=pb pI λa=>pb pI λb=>pb pI λc=>pb pI λd=>pb pFc λe=>pr (a,b,c,d,e)
def pDl:Pz Codec.Delta:=pb (pL pI) λa=>pb (pL pNd) λb=>pb (pL pMv) λc=>pr (a,b,c)
def pEn:Pz Codec.Entry:=pb pI λa=>pb pI λb=>pb pT λc=>pb pI λd=>pr (a,b,c,d)
def pYs:Pz Bool:=pb pI λn=>if n=0\/n=1 then pr (decide (n=1))else pe 70
def pMs:Pz Codec.Msg:=pb pI λa=>pb pI λb=>pb pPl λc=>pb pTm λd=>pb (pL pRc) λe=>pb (pL pCh) λf=>pb pDl λg=>pb pI λh=>pb (pL pEn) λi=>pb pYs λj=>pb pI λk=>pr (a,b,c,d,e,f,g,h,i,j,k)
def PF_Pl:PF pPl:=Qad PF_I λ_=>Qad PF_I λ_=>Qca _
def PF_Tm:PF pTm:=Qad PF_I λ_=>Qad PF_I λ_=>Qad PF_I λ_=>Qad PF_I λ_=>Qad PF_I λ_=>Qad PF_I λ_=>Qca _
def PF_Rc:PF pRc:=Qad PF_I λ_=>Qad PF_T λ_=>Qca _
def PF_Ch:PF pCh:=Qad PF_Pl λ_=>Qad PF_Tm λ_=>Qad PF_I λ_=>Qca _
def PF_Fc:PF pFc:=Qad PF_I λ_=>Qad PF_I λ_=>Qad PF_T λ_=>Qca _
def PF_Nd:PF pNd:=Qad PF_I λ_=>Qad PF_I λ_=>Qad (PF_L PF_I) λ_=>Qad PF_Fc λ_=>Qad PF_T λ_=>Qad PF_I λ_=>Qad PF_I λ_=>Qca _
def PF_Mv:PF pMv:=Qad PF_I λ_=>Qad PF_I λ_=>Qad PF_I λ_=>Qad PF_I λ_=>Qad PF_Fc λ_=>Qca _
def PF_Dl:PF pDl:=Qad (PF_L PF_I) λ_=>Qad (PF_L PF_Nd) λ_=>Qad (PF_L PF_Mv) λ_=>Qca _
def Qfc:PF pEn:=Qad PF_I λ_=>Qad PF_I λ_=>Qad PF_T λ_=>Qad PF_I λ_=>Qca _
def PF_Ys:PF pYs:=Qad PF_I λn=>by
 split;exact Qca _;exact PF_pe (by decide)
def PF_Ms:PF pMs:=Qad PF_I λ_=>Qad PF_I λ_=>Qad PF_Pl λ_=>Qad PF_Tm λ_=>Qad (PF_L PF_Rc) λ_=>Qad (PF_L PF_Ch) λ_=>Qad PF_Dl λ_=>Qad PF_I λ_=>Qad (PF_L Qfc) λ_=>Qad PF_Ys λ_=>Qad PF_I λ_=>Qca _
def PA_cg {α:Type}{f g:Rd->Option (Int ⊕ (α×Rd))}{p:Pz α}(h: ∀s,f s=g s)(H:PA g p):PA f p:=λbs at_ J L=>by rw[h];exact H bs at_ J L
def PA_Pl:PA F.bw pPl:=Qag Qax PF_I λa=>Qag Qax PF_I λb=>Qda ((a,b):Codec.Place)
def PA_Rc:PA F.co pRc:=Qag Qan PF_I λa=>Qag Qdo PF_T λb=>Qda ((a,b):Codec.Rec)
def PA_Fc:PA F.b6 pFc:=Qag Qax PF_I λa=>Qag Qan PF_I λb=>Qag Qdo PF_T λc=>Qda ((a,b,c):Codec.Fn)
def PA_Ti:PA F.ap (pL pI):=PA_L 8 (by decide) Qax PF_I F.z (λn m bs acc b at_ y=>by rw[F.z]) _ (λs=>rfl)
def PA_Nd:PA F.cf pNd:=Qag Qax PF_I λa=>Qag Qax PF_I λb=>Qag PA_Ti (PF_L PF_I) λc=>Qag PA_Fc PF_Fc λd=>Qag Qdo PF_T λe=>Qag Qan PF_I λf=>Qag Qax PF_I λg=>Qda ((a,b,c,d,e,f,g):Codec.Node)
def PA_Mv:PA F.cg pMv:=Qag Qax PF_I λa=>Qag Qax PF_I λb=>Qag Qax PF_I λc=>Qag Qan PF_I λd=>Qag PA_Fc PF_Fc λe=>Qda ((a,b,c,d,e):Codec.Move)
def PA_En:PA F.b7 pEn:=Qag Qax PF_I λa=>Qag Qan PF_I λb=>Qag Qdo PF_T λc=>Qag Qan PF_I λd=>Qda ((a,b,c,d):Codec.Entry)
def PA_Tn:PA F.ar (pL pNd):=PA_L 104 (by decide) PA_Nd PF_Nd F.p (λn m bs acc b at_ y=>by rw[F.p]) _ (λs=>rfl)
def PA_Tm:PA F.au (pL pMv):=PA_L 64 (by decide) PA_Mv PF_Mv F.q (λn m bs acc b at_ y=>by rw[F.q]) _ (λs=>rfl)
def PA_Te:PA F.e (pL pEn):=PA_L 40 (by decide) PA_En Qfc F.n (λn m bs acc b at_ y=>by rw[F.n]) _ (λs=>rfl)
def PA_Tr:PA F.aw (pL pRc):=PA_L 24 (by decide) PA_Rc PF_Rc F.s (λn m bs acc b at_ y=>by rw[F.s]) _ (λs=>rfl)
def PA_Dl:PA F.bx pDl:=Qag PA_Ti (PF_L PF_I) λa=>Qag PA_Tn (PF_L PF_Nd) λb=>Qag PA_Tm (PF_L PF_Mv) λc=>Qda ((a,b,c):Codec.Delta)
def PA_Es:PA F.a9 (pL pEn):=PA_cg (g:=F.e) (λs=>by
 unfold F.a9;show(F.e s).bind _=_;cases F.e s with
 |none=>rfl
 |some v=>cases v<;>rfl) PA_Te
def Qdt (f:Nat)(y23 y25 a b c d:Int)(i:Int)(H:0<=i/\i<4){q:Int->Pz Codec.Time}
  (hq: ∀x,PA (λs=>F.o f s.2.1 s.1 s.2.2 y23 y25 (if i=0 then x else a) (if i=1 then x else b) (if i=2 then x else c) (if i=3 then x else d) (i+1)) (q x)):
  PA (λs=>F.o (f+1) s.2.1 s.1 s.2.2 y23 y25 a b c d i) (pb pI q):=
 PA_cg (λs=>by
  rw[F.o,Qe H.2];have J: ∃v,A.ix [a,b,c,d] i=some v:=by
   obtain⟨k,rfl⟩:=Wo H.1;have hk:k<[a,b,c,d].length:=by simp only[Q5,Qo];omega
   exact⟨_,A.ixn (Qf hk)⟩
  obtain⟨v,L⟩:=J;rw[L];simp only[Qa];rw[show(λx40:Int×Rd=>A.gd (Z.R64 (i+1)) (F.o f x40.2.2.1 x40.2.1 x40.2.2.2 y23 y25 (if i=0 then x40.1 else a) (if i=1 then x40.1 else b) (if i=2 then x40.1 else c) (if i=3 then x40.1 else d) (i+1)))=λx40=>F.o f x40.2.2.1 x40.2.1 x40.2.2.2 y23 y25 (if i=0 then x40.1 else a) (if i=1 then x40.1 else b) (if i=2 then x40.1 else c) (if i=3 then x40.1 else d) (i+1)from funext λx=>A.gd1 (show Z.R64 (i+1)from⟨by omega,by omega⟩) _]) (Qag Qan PF_I hq)
def PA_Tim:PA F.bI pTm:=by
 have H: ∃f,A.FU=f+5:=⟨A.FU-5,by have:=Qas;omega⟩;obtain⟨f,H⟩:=H;refine PA_cg (g:=λs=>(F.d s).bind λr=>A.sm r λx=>(F.j x.2).bind λr=>A.sm r λy=>F.o (f+5) y.2.2.1 y.2.1 y.2.2.2 x.1 y.1 0 0 0 0 0) (λs=>by rw[<-H];rfl) ?_;refine Qag (g:=λn s=>(F.j s).bind λr=>A.sm r λy=>F.o (f+5) y.2.2.1 y.2.1 y.2.2.2 n y.1 0 0 0 0 0) Qan PF_I λn=>?_;refine Qag (g:=λm s=>F.o (f+5) s.2.1 s.1 s.2.2 n m 0 0 0 0 0) Qax PF_I λm=>?_;refine Qdt (f+4) n m 0 0 0 0 0 (by omega) λa=>?_;refine Qdt (f+3) n m a 0 0 0 1 (by omega) λb=>?_;refine Qdt (f+2) n m a b 0 0 2 (by omega) λc=>?_;refine Qdt (f+1) n m a b c 0 3 (by omega) λd=>?_;refine PA_cg (λs=>?_) (Qda ((n,m,a,b,c,d):Codec.Time));show F.o (f+1) s.2.1 s.1 s.2.2 n m a b c d 4=_;rw[F.o,Qc (by omega)]
def PA_Ch:PA F.b1 pCh:=Qag PA_Pl PF_Pl λa=>Qag PA_Tim PF_Tm λb=>Qag Qan PF_I λc=>Qda ((a,b,c):Codec.Change)
def PA_Tc:PA F.aj (pL pCh):=PA_L 72 (by decide) PA_Ch PF_Ch F.k (λn m bs acc b at_ y=>by rw[F.k]) _ (λs=>rfl)
def PA_Ys {β:Type}{G:Int->Rd->Option (Int ⊕ (β×Rd))}{q:Bool->Pz β}(N: ∀n,PA (G n) (q (decide (n=1)))):
  PA (λs=>(F.d s).bind λr=>A.sm r λx=>if(bif decide (x.1<0)then true else decide ((1:Int)<x.1))=true then((F.l 70).bind λr94=>A.sm r94 λx96=>G x.1 x.2)else G x.1 x.2) (pb pYs q):=λbs at_ h J=>by
 (try dsimp only)
 rw[Qan bs at_ h J,Qa];unfold pYs pb;cases O:pI (bs.drop at_)with
 |inl e=>rfl
 |inr v=>
  obtain⟨n,k⟩:=v;have hk:=PF_I _ |>.2 n k O;rw[Qk]at hk;simp only[ot,A.sm];by_cases H:n=0\/n=1;rw[Qe H,Qc (by rcases H with rfl|rfl<;>simp)];have:=N n bs (at_+k) (by omega) J;rw[this];simp only[pr,Xq,Q9];cases q (decide (n=1)) (bs.drop (at_+k))with
  |inl e=>rfl
  |inr U=>obtain⟨y,j⟩:=U;simp only[ot,Wn]
  rw[Qc H,Qe (by
   by_cases L:n<0;simp[L];simp only[L,decide_false,cond_false,W3];omega)]
  rfl
def PA_Ms:PA F.bX pMs:=by
 have H:=Qag Qax PF_I λa=>Qag Qan PF_I λb=>Qag PA_Pl PF_Pl λc=>Qag PA_Tim PF_Tm λd=>Qag PA_Tr (PF_L PF_Rc) λe=>Qag PA_Tc (PF_L PF_Ch) λf=>Qag PA_Dl PF_Dl λg=>Qag Qan PF_I λh=>Qag PA_Te (PF_L Qfc) λi=>PA_Ys (G:=λn s=>(F.d s).bind λr=>A.sm r λx=>some (.inr (((a,b,c,d,e,f,g,h,i,decide (n=1),x.1):Codec.Msg),x.2))) (q:=λj=>pb pI λk=>pr (a,b,c,d,e,f,g,h,i,j,k)) λj=>Qag Qan PF_I λk=>Qda ((a,b,c,d,e,f,g,h,i,decide (j=1),k):Codec.Msg);refine PA_cg (λs=>?_) H;unfold F.bX F.bl;rfl
abbrev Rr:=List UInt8×Int
def RA {α:Type}(g:Rr->Option (α×Rr))(p:Pz α):Prop:=∀bs,bs.length<=70368744177664->
 (∀e,p bs=.inl e->∃x b,g (bs,0)=some (x,(b,e))/\b.length<=70368744177664)/\(∀x k,p bs=.inr (x,k)->g (bs,0)=some (x,(bs.drop k,0)))/\∀e,e≠0->∃x b,g (bs,e)=some (x,(b,e))/\b.length<=70368744177664
def RA_cg {α:Type}{f g:Rr->Option (α×Rr)}{p:Pz α}(h: ∀s,f s=g s)(H:RA g p):RA f p:=λbs J=>by
 have e:f=g:=funext h;rw[e];exact H bs J
def Qcy {α:Type}(x:α):RA (λs=>some (x,s)) (pr x):=λbs h=>⟨λe h=>(by cases h),λy k h=>(by cases h;rfl),λe H=>⟨x,bs,rfl,h⟩⟩
def Qaf {α β:Type}{g:Rr->Option (α×Rr)}{h:α->Rr->Option (β×Rr)}{p:Pz α}{q:α->Pz β}(hg:RA g p)(hp:PF p)(O: ∀x,RA (h x) (q x)):
  RA (λs=>(g s).bind λr=>h r.1 r.2) (pb p q):=λbs hb=>by
 obtain⟨g1,g2,g3⟩:=hg bs hb;refine⟨λe H=>?_,λy k hk=>?_,λe H=>?_⟩
 ·unfold pb at H
  cases J:p bs with
  |inl U=>
   rw[J]at H;cases H;obtain⟨x,b,V,L⟩:=g1 e J
   (try dsimp only)
   rw[V,Qa];exact(O x b L).2.2 e ((hp bs).1 e J)
  |inr v=>
   obtain⟨x,k⟩:=v;rw[J]at H;dsimp only at H ⊢;rw[g2 x k J,Qa];have W:(bs.drop k).length<=70368744177664:=by rw[Qk];omega
   cases N:q x (bs.drop k)with
   |inl U=>
    rw[N]at H;cases H;exact(O x _ W).1 e N
   |inr X=>obtain⟨y,j⟩:=X;rw[N]at H;cases H
 unfold pb at hk;cases J:p bs with
 |inl U=>rw[J]at hk;cases hk
 |inr v=>
  obtain⟨x,Y⟩:=v;rw[J]at hk;dsimp only at hk ⊢;rw[g2 x Y J,Qa];have W:(bs.drop Y).length<=70368744177664:=by rw[Qk];omega
  cases N:q x (bs.drop Y)with
  |inl U=>rw[N]at hk;cases hk
  |inr X=>
   obtain⟨y2,j⟩:=X;rw[N]at hk;cases hk;have:=(O x _ W).2.1 _ _ N;rw[this,Q9]
 ·obtain⟨x,b,V,L⟩:=g3 e H
  (try dsimp only)
  rw[V,Qa];exact(O x b L).2.2 e H
def Qah:RA F.a pI:=λbs L=>by
 have N:F.a (bs,0)=if(takeI bs).2.2≠0 then some (0,(bs,(takeI bs).2.2))else A.gd (0<=(((takeI bs).2.1:Nat):Int)/\(((takeI bs).2.1:Nat):Int).toNat<=bs.length) (some ((takeI bs).1,(bs.drop (((takeI bs).2.1:Nat):Int).toNat,0))):=by
  unfold F.a;rw[Qc (by simp)]
  (try dsimp only)
  rw[rTake bs (by omega),Qa];rfl
 refine⟨λe H=>?_,λx k hk=>?_,λe H=>?_⟩;unfold pI at H;by_cases J:(takeI bs).2.2≠0;rw[Qe J]at H;cases H;rw[N,Qe J];exact⟨_,_,rfl,L⟩;rw[Qc J]at H;cases H;have O:=(PF_I bs).2 x k hk;unfold pI at hk;by_cases J:(takeI bs).2.2≠0;rw[Qe J]at hk;cases hk;rw[Qc J]at hk;cases hk;rw[N,Qc J,A.gd1 ⟨by omega,by omega⟩];rfl;unfold F.a;rw[Qe H];exact⟨_,_,rfl,L⟩
def RA_count:RA F.ad pC:=λbs N=>by
 have U:F.cs bs=some (if(takeI bs).2.2≠0 then(0,0,(takeI bs).2.2)else if(takeI bs).1<0 then(0,0,70)else if 65536<(takeI bs).1 then(0,0,3)else((takeI bs).1,(((takeI bs).2.1:Nat):Int),0)):=by
  unfold F.cs;rw[rTake bs (by omega),Qa];unfold tr
  (try dsimp only)
  split;rfl;split;rfl;split<;>rfl
 refine⟨λe H=>?_,λx k hk=>?_,λe H=>?_⟩
 ·have V:=(PF_C bs).1 e H
  unfold F.ad;rw[Qc (by simp)]
  (try dsimp only)
  rw[U,Qa];unfold pC at H;split at H;cases H;rename_i J;rw[Qe J];dsimp only;rw[Qe J];exact⟨_,_,rfl,N⟩;rename_i J;rw[Qc J];split at H;cases H;rename_i L;rw[Qe L];exact⟨_,_,rfl,N⟩;rename_i L;rw[Qc L];split at H;cases H;rename_i O;rw[Qe O];exact⟨_,_,rfl,N⟩;cases H
 ·have W:=(PF_C bs).2 x k hk
  unfold F.ad;rw[Qc (by simp)]
  (try dsimp only)
  rw[U,Qa];unfold pC at hk;split at hk;cases hk;rename_i J;rw[Qc J];split at hk;cases hk;rename_i L;rw[Qc L];split at hk;cases hk;rename_i O;rw[Qc O];cases hk
  (try dsimp only)
  rw[Qc (by simp),A.gd1 ⟨by omega,by omega⟩];rfl
 unfold F.ad;rw[Qe H];exact⟨_,_,rfl,N⟩
def Qdw:RA F.aC pT:=λbs U=>by
 have V:F.cD bs=some (tt (takeT bs)):=by
  unfold F.cD;rw[rTake bs (by omega),Qa];unfold tr
  (try dsimp only)
  by_cases H:(takeI bs).2.2≠0;rw[Qe H,Qcu H];rfl;rw[Qc H];by_cases J:(takeI bs).1<0;rw[Qe J,Qco H J];rfl;rw[Qc J];by_cases N:65536<(takeI bs).1;rw[Qe N,Qcl H N];rfl;rw[Qc N];have hk:(takeI bs).2.1<=bs.length:=by
   rcases Qaz bs with⟨_,W,J,_⟩|⟨W,_⟩
   exact J;exact absurd W H
  rw[A.gd1 ⟨by omega,by omega⟩];by_cases O:((bs.length:Int)-(takeI bs).2.1)<(takeI bs).1;rw[Qe O,Qbl H J N O];rfl;rw[Qc O,o_bu H J N O,A.gd1 ⟨by omega,by omega⟩,A.gd1 ⟨by omega,by omega,by omega⟩,A.gd1 ⟨by omega,by omega⟩];unfold tt
  (try dsimp only)
  obtain⟨n,X⟩:=Wo (show 0<=(takeI bs).1 by omega);rw[X,show(((takeI bs).2.1:Int)).toNat=(takeI bs).2.1 by omega,show(((takeI bs).2.1:Int)+(n:Int)).toNat=(takeI bs).2.1+n by omega];rw[Xg,Nat.add_sub_cancel_left,show((n:Int)).toNat=n by omega,show(((takeI bs).2.1:Int)+(n:Int))=(((takeI bs).2.1+n:Nat):Int) by omega]
 refine⟨λe L=>?_,λx k hk=>?_,λe L=>?_⟩
 ·unfold F.aC
  rw[Qc (by simp)]
  (try dsimp only)
  rw[V,Qa];unfold pT at L;split at L;cases L;rename_i H;unfold tt;dsimp only;rw[Qe H];exact⟨_,_,rfl,U⟩;cases L
 ·have Y:=(PF_T bs).2 x k hk
  unfold F.aC;rw[Qc (by simp)]
  (try dsimp only)
  rw[V,Qa];unfold pT at hk;split at hk;cases hk;rename_i H;cases hk;unfold tt;dsimp only;rw[Qc H,A.gd1 ⟨by omega,by omega⟩];rfl
 unfold F.aC;rw[Qe L];exact⟨_,_,rfl,U⟩
def RA_rows {α:Type}(c:Nat)(X:c<=1000){g:Rr->Option (α×Rr)}{p:Pz α}(Y:RA g p)(hp:PF p)(L:Nat->List UInt8->List α->Int->Int->Option (List α×Rr))
  (J: ∀m bs acc e y,L (m+1) bs acc e y=if(bif decide ((0:Int)<y)then decide (e=0)else false)=true then(g (bs,e)).bind λx=>A.gd ((acc.length+[x.1].length)*c<=140737488355328) (A.gd (Z.R64 (y-1)) (L m x.2.1 (acc++[x.1]) x.2.2 (y-1)))else some (acc,(bs,e))):
  ∀(m fu:Nat) (acc:List α) (bs:List UInt8),acc.length+m<=65536->m<fu->bs.length<=70368744177664->
   (∀e,pn p m bs=.inl e->∃xs b,L fu bs acc 0 (m:Int)=some (xs,(b,e))/\b.length<=70368744177664)/\∀xs k,pn p m bs=.inr (xs,k)->L fu bs acc 0 (m:Int)=some (acc++xs,(bs.drop k,0)):=by
 have stop: ∀fu bs acc e y,e≠0->L (fu+1) bs acc e y=some (acc,(bs,e)):=λfu bs acc e y H=>by
  rw[J,Qc (by simp[H])]
 intro m;induction m with
 |zero=>
  intro fu acc bs hm N V;obtain⟨fu,rfl⟩: ∃f',fu=f'+1:=⟨fu-1,by omega⟩;refine⟨λe H=>(by cases H),λxs k hk=>?_⟩;cases hk;rw[J,Qc (by simp)];simp
 |succ m ih=>
  intro fu acc bs hm N V;obtain⟨fu,rfl⟩: ∃f',fu=f'+1+1:=⟨fu-2,by omega⟩;have hx: ∀x:α,((acc.length+[x].length)*c<=140737488355328):=λx=>by
   have:(acc.length+[x].length)*c<=65536*1000:=Nat.mul_le_mul (by simp only[Qy];omega) X;omega
  have go:L (fu+1+1) bs acc 0 ((m+1:Nat):Int)=(g (bs,0)).bind λx=>L (fu+1) x.2.1 (acc++[x.1]) x.2.2 (m:Int):=by
   rw[J,Qe (by rw[Wf (show(0:Int)<((m+1:Nat):Int) by omega)];rfl)];congr 1;funext x;rw[A.gd1 (hx x.1),A.gd1 ⟨by omega,by omega⟩,show(((m+1:Nat):Int)-1)=(m:Int) by omega]
  rw[go];obtain⟨g1,g2,g3⟩:=Y bs V;unfold pn pb;cases O:p bs with
  |inl e1=>
   refine⟨λe H=>?_,λxs k hk=>(by cases hk)⟩;cases H;obtain⟨x,b,e2,U⟩:=g1 e1 O;rw[e2,Qa];exact⟨_,_,stop _ _ _ _ _ ((hp bs).1 _ O),U⟩
  |inr v=>
   obtain⟨x,k0⟩:=v;rw[g2 x k0 O,Qa];have hl:(bs.drop k0).length<=70368744177664:=by rw[Qk];omega
   obtain⟨i1,i2⟩:=ih (fu+1) (acc++[x]) (bs.drop k0) (by simp only[Qb,Qy];omega) (by omega) hl
   (try dsimp only)
   cases W:pn p m (bs.drop k0)with
   |inl e=>
    refine⟨λe' H=>?_,λxs k hk=>(by cases hk)⟩;cases H;exact i1 e W
   |inr v2=>
    obtain⟨xs,j⟩:=v2;refine⟨λe' H=>(by cases H),λxs' k hk=>?_⟩;cases hk;rw[i2 xs j W];simp[Q9]
def RA_L {α:Type}(c:Nat)(hc:c<=1000){g:Rr->Option (α×Rr)}{p:Pz α}(hg:RA g p)(hp:PF p)(L:Nat->List UInt8->List α->Int->Int->Option (List α×Rr))
  (U: ∀m bs acc e y,L (m+1) bs acc e y=if(bif decide ((0:Int)<y)then decide (e=0)else false)=true then(g (bs,e)).bind λx=>A.gd ((acc.length+[x.1].length)*c<=140737488355328) (A.gd (Z.R64 (y-1)) (L m x.2.1 (acc++[x.1]) x.2.2 (y-1)))else some (acc,(bs,e)))
  (G:Rr->Option (List α×Rr)) (V: ∀s,G s=(F.ad s).bind λW=>L A.FU W.2.1 [] W.2.2 W.1):RA G (pL p):=λbs hb=>by
 obtain⟨f,hF⟩: ∃f,A.FU=f+1:=⟨A.FU-1,by have:=Qas;omega⟩;have stop: ∀bs e y,e≠0->L A.FU bs [] e y=some ([],(bs,e)):=λbs e y H=>by
  rw[hF,U,Qc (by simp[H])]
 obtain⟨c1,c2,c3⟩:=RA_count bs hb;refine⟨λe H=>?_,λxs k hk=>?_,λe H=>?_⟩;unfold pL pb at H;rw[V];cases J:pC bs with
 |inl X=>
  rw[J]at H;cases H;obtain⟨x,b,Y,N⟩:=c1 e J;rw[Y,Qa];exact⟨_,_,stop _ _ _ ((PF_C bs).1 _ J),N⟩
 |inr v=>
  obtain⟨n,k⟩:=v;have hn:=PQ_C _ _ _ J;rw[J]at H;dsimp only at H;rw[c2 n k J,Qa];have hl:(bs.drop k).length<=70368744177664:=by rw[Qk];omega
  have:=RA_rows c hc hg hp L U n.toNat A.FU [] (bs.drop k) (by simp;omega) (by have:=Qas;omega) hl;rw[show((n.toNat:Nat):Int)=n by omega]at this;cases O:pn p n.toNat (bs.drop k)with
  |inl X=>rw[O]at H;cases H;exact this.1 e O
  |inr v2=>rw[O]at H;cases H
 unfold pL pb at hk;rw[V];cases J:pC bs with
 |inl X=>rw[J]at hk;cases hk
 |inr v=>
  obtain⟨n,k0⟩:=v;have hn:=PQ_C _ _ _ J;rw[J]at hk;dsimp only at hk;rw[c2 n k0 J,Qa];have hl:(bs.drop k0).length<=70368744177664:=by rw[Qk];omega
  have:=RA_rows c hc hg hp L U n.toNat A.FU [] (bs.drop k0) (by simp;omega) (by have:=Qas;omega) hl;rw[show((n.toNat:Nat):Int)=n by omega]at this;cases O:pn p n.toNat (bs.drop k0)with
  |inl X=>rw[O]at hk;cases hk
  |inr v2=>
   obtain⟨y,j⟩:=v2;rw[O]at hk;cases hk;rw[this.2 _ _ O,Q9];rfl
 rw[V];obtain⟨x,b,Y,N⟩:=c3 e H;rw[Y,Qa];exact⟨_,_,stop _ _ _ H,N⟩
def RA_Fc:RA F.ct pFc:=Qaf Qah PF_I λa=>Qaf Qah PF_I λb=>Qaf Qdw PF_T λc=>Qcy ((a,b,c):Codec.Fn)
def RA_Is:RA F.ca (pL pI):=RA_L 8 (by decide) Qah PF_I F.a2 (λm bs acc e y=>by
 rw[F.a2]) _ (λs=>rfl)
def RA_Nn:RA F.cp (pL pNd):=RA_L 104 (by decide) (Qaf Qah PF_I λa=>Qaf Qah PF_I λb=>Qaf RA_Is (PF_L PF_I) λc=>Qaf RA_Fc PF_Fc λd=>Qaf Qdw PF_T λe=>Qaf Qah PF_I λf=>Qaf Qah PF_I λg=>Qcy ((a,b,c,d,e,f,g):Codec.Node)) PF_Nd F.aQ (λm bs acc e y=>by
 rw[F.aQ];simp only[Wt,Qa]) _ (λs=>rfl)
def fin {α:Type}(p:Pz α)(z:α)(bs:List UInt8):α×Int:=match p bs with
 | .inl e=>(z,e)
 | .inr (x,k)=>if k<bs.length then(z,72)else(x,0)
def R_fin {α:Type}{g:Rr->Option (α×Rr)}{p:Pz α}(L:RA g p)(hp:PF p)(z:α)(bs:List UInt8)(N:bs.length<=70368744177664):
  ((g (bs,0)).bind λr=>(F.a3 r.2).bind λy=>if y≠0 then some (z,y)else some (r.1,0))=some (fin p z bs):=by
 obtain⟨O,U,_⟩:=L bs N;unfold fin;cases J:p bs with
 |inl e=>
  obtain⟨x,b,V,_⟩:=O e J;have H:=(hp bs).1 e J;rw[V,Qa]
  (try dsimp only)
  unfold F.a3;rw[Qc (by simp[H]),Qa,Qe H]
 |inr v=>
  obtain⟨x,k⟩:=v;rw[U x k J,Qa]
  (try dsimp only)
  unfold F.a3
  (try dsimp only)
  by_cases hk:k<bs.length;rw[Qe (by rw[Qk];simp;omega),Qa,Qe (by decide),Qe hk];rw[Qc (by rw[Qk];simp;omega),Qa,Qc (by decide),Qc hk]
def P_fin {α:Type}{f:Rd->Option (Int ⊕ (α×Rd))}{p:Pz α}(O:PA f p)(hp:PF p)(z:α)(bs:List UInt8)(U:bs.length<=70368744177664)(R1:Int->α->α->Option α)(H: ∀e x y,R1 e x y=if e≠0 then some x else some y):
  ((F.cC bs).bind λV=>A.om V none λW=>(f W).bind λr13=>A.se r13 (λe=>(R1 e z z).bind λr=>some (r,e)) λx15=>(F.a7 x15.2).bind λr25=>(R1 r25 z x15.1).bind λr=>some (r,r25))=some (fin p z bs):=by
 have X:F.cC bs=some (some (true,bs,0)):=by
  unfold F.cC F.cP;rw[A.gd1 (by simp;omega),Qa,A.gd1 ⟨by omega,by simp⟩];simp
 rw[X,Qa];have:=O bs 0 (by omega) U;simp only[A.om];rw[show((true,bs,0):Rd)=(true,bs,((0:Nat):Int))from rfl,this,Qa];unfold fin;rw[Xm];cases L:p bs with
 |inl e=>
  have J:=(hp bs).1 e L;simp only[ot,A.se];rw[H,Qe J];rfl
 |inr v=>
  obtain⟨x,k⟩:=v;have hk:=(hp bs).2 x k L;simp only[ot,A.se];unfold F.a7 F.ah;rw[Qa,Qc (by simp)]
  (try dsimp only)
  by_cases N:k<bs.length;rw[Qe (by omega),Qe N,Qa,H,Qe (by decide)];rfl;rw[Qc (by omega),Qc N,Qa,H,Qc (by decide)];rfl
def RA_Pl:RA F.bY pPl:=Qaf Qah PF_I λa=>Qaf Qah PF_I λb=>Qcy ((a,b):Codec.Place)
def RA_Rs:RA F.cw (pL pRc):=RA_L 24 (by decide) (Qaf Qah PF_I λa=>Qaf Qdw PF_T λb=>Qcy ((a,b):Codec.Rec)) PF_Rc F.a1 (λm bs acc e y=>by
 rw[F.a1];simp only[Wt,Qa]) _ (λs=>rfl)
def RA_Mm:RA F.cq (pL pMv):=RA_L 64 (by decide) (Qaf Qah PF_I λa=>Qaf Qah PF_I λb=>Qaf Qah PF_I λc=>Qaf Qah PF_I λd=>Qaf RA_Fc PF_Fc λe=>Qcy ((a,b,c,d,e):Codec.Move)) PF_Mv F.aR (λm bs acc e y=>by
 rw[F.aR];simp only[Wt,Qa]) _ (λs=>rfl)
def RA_Ee:RA F.bz (pL pEn):=RA_L 40 (by decide) (Qaf Qah PF_I λa=>Qaf Qah PF_I λb=>Qaf Qdw PF_T λc=>Qaf Qah PF_I λd=>Qcy ((a,b,c,d):Codec.Entry)) Qfc F.aJ (λm bs acc e y=>by
 rw[F.aJ];simp only[Wt,Qa]) _ (λs=>rfl)
def RA_Dl:RA F.bZ pDl:=Qaf RA_Is (PF_L PF_I) λa=>Qaf RA_Nn (PF_L PF_Nd) λb=>Qaf RA_Mm (PF_L PF_Mv) λc=>Qcy ((a,b,c):Codec.Delta)
def Qcf (f:Nat)(y20 y22 a b c d:Int)(i:Int)(H:0<=i/\i<4){q:Int->Pz Codec.Time}
  (hq: ∀x,RA (λs=>F.v f s.1 s.2 y20 y22 (if i=0 then x else a) (if i=1 then x else b) (if i=2 then x else c) (if i=3 then x else d) (i+1)) (q x)):
  RA (λs=>F.v (f+1) s.1 s.2 y20 y22 a b c d i) (pb pI q):=
 RA_cg (λs=>by
  rw[F.v,Qe H.2];have J: ∃v,A.ix [a,b,c,d] i=some v:=by
   obtain⟨k,rfl⟩:=Wo H.1;have hk:k<[a,b,c,d].length:=by simp only[Q5,Qo];omega
   exact⟨_,A.ixn (Qf hk)⟩
  obtain⟨v,L⟩:=J;rw[L];simp only[Qa];rw[show(λr35:Int×Rr=>A.gd (Z.R64 (i+1)) (F.v f r35.2.1 r35.2.2 y20 y22 (if i=0 then r35.1 else a) (if i=1 then r35.1 else b) (if i=2 then r35.1 else c) (if i=3 then r35.1 else d) (i+1)))=λr35=>F.v f r35.2.1 r35.2.2 y20 y22 (if i=0 then r35.1 else a) (if i=1 then r35.1 else b) (if i=2 then r35.1 else c) (if i=3 then r35.1 else d) (i+1)from funext λx=>A.gd1 (show Z.R64 (i+1)from⟨by omega,by omega⟩) _]) (Qaf Qah PF_I hq)
def RA_Tim:RA F.b8 pTm:=by
 have H: ∃f,A.FU=f+5:=⟨A.FU-5,by have:=Qas;omega⟩;obtain⟨f,H⟩:=H;refine RA_cg (g:=λs=>(F.a s).bind λr=>(F.a r.2).bind λy=>F.v (f+5) y.2.1 y.2.2 r.1 y.1 0 0 0 0 0) (λs=>by rw[<-H];rfl) ?_;refine Qaf (h:=λn s=>(F.a s).bind λy=>F.v (f+5) y.2.1 y.2.2 n y.1 0 0 0 0 0) Qah PF_I λn=>?_;refine Qaf (h:=λm s=>F.v (f+5) s.1 s.2 n m 0 0 0 0 0) Qah PF_I λm=>?_;refine Qcf (f+4) n m 0 0 0 0 0 (by omega) λa=>?_;refine Qcf (f+3) n m a 0 0 0 1 (by omega) λb=>?_;refine Qcf (f+2) n m a b 0 0 2 (by omega) λc=>?_;refine Qcf (f+1) n m a b c 0 3 (by omega) λd=>?_;refine RA_cg (λs=>?_) (Qcy ((n,m,a,b,c,d):Codec.Time));show F.v (f+1) s.1 s.2 n m a b c d 4=_;rw[F.v,Qc (by omega)]
def RA_Cc:RA F.b9 (pL pCh):=RA_L 72 (by decide) (Qaf RA_Pl PF_Pl λa=>Qaf RA_Tim PF_Tm λb=>Qaf Qah PF_I λc=>Qcy ((a,b,c):Codec.Change)) PF_Ch F.aI (λm bs acc e y=>by
 rw[F.aI];simp only[Wt,Qa]) _ (λs=>rfl)
def RA_Ys:RA F.bq pYs:=λbs W=>by
 obtain⟨X,V,Y⟩:=Qah bs W;refine⟨λe H=>?_,λy k hk=>?_,λe H=>?_⟩
 ·unfold pYs pb at H
  unfold F.bq
  (try dsimp only)
  cases J:pI bs with
  |inl e1=>
   rw[J]at H;cases H;obtain⟨x,b,O,L⟩:=X e J;have U:=(PF_I bs).1 e J;rw[O,Qa]
   (try dsimp only)
   rw[Qc (by simp[U])];exact⟨_,_,rfl,L⟩
  |inr v=>
   obtain⟨n,k⟩:=v;rw[J]at H;dsimp only at H;rw[V n k J,Qa]
   (try dsimp only)
   have hl:(bs.drop k).length<=70368744177664:=by rw[Qk];omega
   by_cases N:n=0\/n=1;rw[Qe N]at H;cases H;rw[Qc N]at H;cases H;rw[Qe (by simp only[decide_true,cond_true];rw[Wf (show n≠0 by omega),Wf (show n≠1 by omega)];rfl)];exact⟨_,_,rfl,hl⟩
 ·unfold pYs pb at hk
  unfold F.bq
  (try dsimp only)
  cases J:pI bs with
  |inl e1=>rw[J]at hk;cases hk
  |inr v=>
   obtain⟨n,k0⟩:=v;rw[J]at hk;dsimp only at hk;rw[V n k0 J,Qa]
   (try dsimp only)
   by_cases N:n=0\/n=1;rw[Qe N]at hk;cases hk;rw[Qc (by rcases N with rfl|rfl<;>simp)];rfl;rw[Qc N]at hk;cases hk
 ·obtain⟨x,b,O,L⟩:=Y e H
  unfold F.bq
  (try dsimp only)
  rw[O,Qa]
  (try dsimp only)
  rw[Qc (by simp[H])];exact⟨_,_,rfl,L⟩
def zD:Codec.Delta:=([],[],[])
def zM:Codec.Msg:=(0,0,(0,0),(0,0,(0,0,0,0)),[],[],([],[],[]),0,[],false,0)
def Qeu (bs:List UInt8)(H:bs.length<=70368744177664):F.bA bs=some (fin (pL pEn) [] bs):=by
 have J:F.al bs=some (fin (pL pEn) [] bs):=P_fin PA_Es (PF_L Qfc) [] bs H F.aV (λe x y=>rfl);unfold F.bA;rw[J,Qa]
def pMsg_eq (bs:List UInt8)(H:bs.length<=70368744177664):F.ck bs=some (fin pMs zM bs):=by
 have J:F.ay bs=some (fin pMs zM bs):=P_fin PA_Ms PF_Ms zM bs H F.a6 (λe x y=>rfl);unfold F.ck;rw[J,Qa]
def lD (d:Codec.Delta):Prop:=d.1.length<=65536/\(d.2.1.length<=65536/\∀n∈d.2.1,n.2.2.1.length<=65536)/\d.2.2.length<=65536
def lM (m:Codec.Msg):Prop:=m.2.2.2.2.1.length<=65536/\m.2.2.2.2.2.1.length<=65536/\lD m.2.2.2.2.2.2.1/\m.2.2.2.2.2.2.2.2.1.length<=65536
def PQ_mono {α:Type}{p:Pz α}{P Q:α->Prop}(h:PQ p P)(hq: ∀x,P x->Q x):PQ p Q:=λbs x k H=>hq x (h bs x k H)
def PQ_Nd:PQ pNd λn=>n.2.2.1.length<=65536:=PQ_pb (PQ_t _) λ_ _=>PQ_pb (PQ_t _) λ_ _=>PQ_pb (PQ_L (PQ_t _)) λc H=>PQ_pb (PQ_t _) λ_ _=>PQ_pb (PQ_t _) λ_ _=>PQ_pb (PQ_t _) λ_ _=>PQ_pb (PQ_t _) λ_ _=>PQ_pr H.1
def PQ_Dl:PQ pDl lD:=PQ_pb (PQ_L (PQ_t _)) λa H=>PQ_pb (PQ_L PQ_Nd) λb J=>PQ_pb (PQ_L (PQ_t _)) λc L=>PQ_pr ⟨H.1,J,L.1⟩
def PQ_Ms:PQ pMs lM:=PQ_pb (PQ_t _) λ_ _=>PQ_pb (PQ_t _) λ_ _=>PQ_pb (PQ_t _) λ_ _=>PQ_pb (PQ_t _) λ_ _=>PQ_pb (PQ_L (PQ_t _)) λe H=>PQ_pb (PQ_L (PQ_t _)) λf J=>PQ_pb PQ_Dl λg L=>PQ_pb (PQ_t _) λ_ _=>PQ_pb (PQ_L (PQ_t _)) λi N=>PQ_pb (PQ_t _) λ_ _=>PQ_pb (PQ_t _) λ_ _=>PQ_pr ⟨H.1,J.1,L,N.1⟩
def fin_Q {α:Type}{p:Pz α}{Q:α->Prop}{z:α}(H:Q z)(hp:PQ p Q)(bs:List UInt8):Q (fin p z bs).1:=by
 unfold fin;cases h:p bs with
 |inl e=>exact H
 |inr v=>
  obtain⟨x,k⟩:=v
  (try dsimp only)
  split;exact H;exact hp _ _ _ h
def Qfb {α:Type}(xs:List α)(U:xs.length<=65536)(L:Nat->Int->Option Bool)(r:Option Bool)(H: ∀f,L (f+1) (xs.length:Int)=r)
  (J: ∀f (k:Nat) x,xs[k]?=some x->k<xs.length->L (f+1) (k:Int)=L f ((k:Int)+1)):L A.FU 0=r:=
 A.lp xs (λf (_:Unit) y=>L f y) (λ_ _ _=>r) (λ_ _=>True) (λf s _=>H f) (λf s k x N hk _ O=>by rw[J f k x N hk];exact O () trivial) (by have:=Qas;omega) () trivial
def sameMoves (l:List Codec.Move)(H:l.length<=65536):F.cu l l=some true:=by
 unfold F.cu;rw[Qc (by simp)];exact Qfb l H (F.aW l l) _ (λf=>by rw[F.aW,Qc (by omega)]) (λf k x J hk=>by
  rw[F.aW,Qe (by omega),A.ixn J,Qa,Qa,Qc (by simp),A.gd1 (A.r64n (by omega))])
def sameEntries (l:List Codec.Entry)(H:l.length<=65536):F.bF l l=some true:=by
 unfold F.bF;rw[Qc (by simp)];exact Qfb l H (F.aO l l) _ (λf=>by rw[F.aO,Qc (by omega)]) (λf k x J hk=>by
  rw[F.aO,Qe (by omega),A.ixn J,Qa,Qa,Qc (by simp),A.gd1 (A.r64n (by omega))])
def sameRecs (l:List Codec.Rec)(H:l.length<=65536):F.cE l l=some true:=by
 unfold F.cE;rw[Qc (by simp)];exact Qfb l H (F.a8 l l) _ (λf=>by rw[F.a8,Qc (by omega)]) (λf k x J hk=>by
  rw[F.a8,Qe (by omega),A.ixn J,Qa,Qa,Qc (by simp),A.gd1 (A.r64n (by omega))])
def sameNodes (l:List Codec.Node)(L:l.length<=65536)(J: ∀n∈l,n.2.2.1.length<=65536):F.cX l l=some true:=by
 unfold F.cX;rw[Qc (by simp)];exact Qfb l L (F.aT l l) _ (λf=>by rw[F.aT,Qc (by omega)]) (λf k x H hk=>by
  rw[F.aT,Qe (by omega),A.ixn H,Qa,Qa];unfold F.cQ;rw[Qc (by simp)];unfold F.cI;rw[Qc (by simp)];exact Qfb x.2.2.1 (J x (Qi H)) (F.cc (F.aT l l f) (k:Int) x.2.2.1 x.2.2.1) _ (λf=>by
    rw[F.cc,Qc (by omega),A.gd1 (A.r64n (by omega))]) (λf j y N U=>by
   have O:=J x (Qi H);rw[F.cc,Qe (by omega),A.ixn N,Qa,Qa,Qc (by simp),A.gd1 (A.r64n (by omega))]))
def Qej (d:Codec.Delta)(h:lD d):F.bg d d=some true:=by
 unfold F.bg F.br;rw[Qc (by simp),sameNodes _ h.2.1.1 h.2.1.2,Qa,Qc (by simp),sameMoves _ h.2.2,Qa,Qc (by simp)];exact Qfb d.1 h.1 (F.aX d d) _ (λf=>by rw[F.aX,Qc (by omega)]) (λf k x H hk=>by
  have:=h.1;rw[F.aX,Qe (by omega),A.ixn H,Qa,Qa,Qc (by simp),A.gd1 (A.r64n (by omega))])
def sameMsg (m:Codec.Msg)(h:lM m):F.cd m m=some true:=by
 obtain⟨H,J,L,N⟩:=h;unfold F.cd F.bN;rw[Qc (by simp),Qc (by simp),Qc (by simp)];exact Qfb m.2.2.2.2.2.1 J (F.bs m m) _ (λf=>by
   rw[F.bs,Qc (by omega),sameRecs _ H,Qa,Qe rfl];rw[show(m.2.2.2.2.2.2.1:Codec.Delta)=m.2.2.2.2.2.2.1 from rfl,Qej _ L,Qa,Qe rfl,sameEntries _ N];rfl) (λf k x O hk=>by
  rw[F.bs,Qe (by omega),A.ixn O,Qa,Qa,Qc (by simp),A.gd1 (A.r64n (by omega))])
def sumL {α:Type}(ys:List α)(f:α->Nat)(L:Nat->Int->Int->Option Bool)(K:Int->Option Bool)(T:Option Bool->Prop)(hy:ys.length<=300)(H:Int)(X:0<=H/\H<=1048576)
  (Y: ∀fu u,L (fu+1) u (ys.length:Int)=K u)
  (h1: ∀fu u (k:Nat) x,ys[k]?=some x->k<ys.length->0<=u->u<=1048576->∃v,L (fu+1) u (k:Int)=L fu v ((k:Int)+1)/\u<=v/\v<=1048576/\min (u+min (f x:Int) 1048576) 1048576<=v)
  (hK: ∀u,H<=u->u<=1048576->Codec.seen f ys u->T (K u)):T (L A.FU H 0):=by
 have main: ∀n k fu u,k+n=ys.length->n<fu->H<=u->u<=1048576->Codec.seen f (ys.take k) u->T (L fu u ((k:Nat):Int)):=by
  intro n;induction n with
  |zero=>
   intro k fu u hk V N J U;obtain⟨fu,rfl⟩: ∃f',fu=f'+1:=⟨fu-1,by omega⟩;obtain rfl:k=ys.length:=by omega
   rw[Y];rw[Wi]at U;exact hK u N J U
  |succ n ih=>
   intro k fu u hk V N J U;obtain⟨fu,rfl⟩: ∃f',fu=f'+1:=⟨fu-1,by omega⟩;have O:k<ys.length:=by omega
   have W:ys[k]?=some ys[k]:=Qf O;obtain⟨v,e,h2,h3,h4⟩:=h1 fu u k _ W O (by omega) J;rw[e];exact ih (k+1) fu v (by omega) (by omega) (by omega) h3 (Codec.seen_step U W (by omega) h4)
 have:=main ys.length 0 A.FU H (by omega) (by have:=Qas;omega) (by omega) X.2 (Codec.seen_nil f H);exact this
def all_of_seen {α:Type}{f:α->Nat}{xs:List α}{u:Int}{c m:Nat}(h:Codec.seen f (xs.take c) u)(H:xs.length<=c)(L:u<=m)(N:m<1048576): ∀a∈xs,f a<=m:=λa J=>by
 rw[Q8 H]at h;have:=h (by omega) a J;omega
def tk300 {α:Type}(xs:List α):xs.take ((min (xs.length:Int) 300).toNat)=xs.take 300:=by
 by_cases h:xs.length<=300;rw[show(min (xs.length:Int) 300).toNat=xs.length by omega,Wi,Q8 h];rw[show(min (xs.length:Int) 300).toNat=300 by omega]
def tk99 {α:Type}(xs:List α):xs.take ((min (xs.length:Int) 99).toNat)=xs.take 99:=by
 by_cases h:xs.length<=99;rw[show(min (xs.length:Int) 99).toNat=xs.length by omega,Wi,Q8 h];rw[show(min (xs.length:Int) 99).toNat=99 by omega]
def Qfd (l:List Codec.Node): ∃b,F.cU l=some b/\(b=true->l.length<=40/\∀a∈l,sNode a):=by
 unfold F.cU;rw[A.gd1 ⟨by omega,by omega⟩];refine sumL (l.take 99) (λn:Codec.Node=>n.2.2.1.length+n.2.2.2.1.2.2.size+n.2.2.2.2.1.size) (F.bP l) (λu=>some (bif decide ((l.length:Int)<=40)then decide (u<=5000)else false)) (λo=>∃b,o=some b/\(b=true->l.length<=40/\∀a∈l,sNode a))
  (by rw[Qj];omega) 0 (by omega) (λfu u=>by rw[F.bP,tk99,Qc (by omega)]) (λfu u k x H hk J L=>?_) (λu J L N=>⟨_,rfl,λO=>?_⟩)
 have U:k<99:=by rw[Qj]at hk;omega
 refine⟨_,by rw[F.bP,tk99,Qe (by omega),A.ixn H,Qa,A.gd1 ⟨⟨by omega,by omega⟩,⟨by omega,by omega⟩,by omega,by omega⟩,A.gd1 (A.r64n (by omega))],by omega,by omega,by omega⟩;have:=Qbc.1 O;refine⟨by omega,λa V=>?_⟩;have:=all_of_seen (m:=5000) N (by omega) (by omega) (by omega) a V;unfold sNode;omega
def o_bY (m:Codec.Msg): ∃b,F.cA m=some b/\(b=true->sMsg m):=by
 unfold F.cA;rw[A.gd1 ⟨by omega,by omega⟩];refine sumL (m.2.2.2.2.1.take 300) (λr:Codec.Rec=>r.2.size) (F.bS m) _ (λo=>∃b,o=some b/\(b=true->sMsg m)) (by rw[Qj];omega) 0 (by omega)
  (λfu u=>by rw[F.bS,tk300,Qc (by omega),A.gd1 ⟨by omega,by omega⟩]) (λfu u k x H hk V W=>?_) (λX a1 b1 L=>?_)
 have J:k<300:=by rw[Qj]at hk;omega
 refine⟨_,by rw[F.bS,tk300,Qe (by omega),A.ixn H,Qa,A.gd1 ⟨by omega,by omega⟩,A.gd1 (A.r64n (by omega))],by omega,by omega,by omega⟩;refine sumL (m.2.2.2.2.2.2.2.2.1.take 300) (λr:Codec.Entry=>r.2.2.1.size) (F.bR m) _ (λo=>∃b,o=some b/\(b=true->sMsg m)) (by rw[Qj];omega) X (by omega)
  (λfu u=>by rw[F.bR,tk300,Qc (by omega),A.gd1 ⟨by omega,by omega⟩]) (λfu u k x H hk V W=>?_) (λY a2 b2 N=>?_)
 have J:k<300:=by rw[Qj]at hk;omega
 refine⟨_,by rw[F.bR,tk300,Qe (by omega),A.ixn H,Qa,A.gd1 ⟨by omega,by omega⟩,A.gd1 (A.r64n (by omega))],by omega,by omega,by omega⟩;refine sumL (m.2.2.2.2.2.2.1.2.2.take 300) (λr:Codec.Move=>r.2.2.2.2.2.2.size) (F.bQ m) _ (λo=>∃b,o=some b/\(b=true->sMsg m)) (by rw[Qj];omega) Y (by omega)
  (λfu u=>by rw[F.bQ,tk300,Qc (by omega)]) (λfu u k x H hk V W=>?_) (λu3 a3 b3 O=>?_)
 have J:k<300:=by rw[Qj]at hk;omega
 refine⟨_,by rw[F.bQ,tk300,Qe (by omega),A.ixn H,Qa,A.gd1 ⟨by omega,by omega⟩,A.gd1 (A.r64n (by omega))],by omega,by omega,by omega⟩;unfold F.cz;split;rename_i U;obtain⟨b,hb,hn⟩:=Qfd m.2.2.2.2.2.2.1.2.1;refine⟨b,by rw[hb];rfl,λe=>?_⟩;obtain⟨n1,n2⟩:=hn e;have U:(((((m.2.2.2.2.1.length:Int)<=200/\(m.2.2.2.2.2.1.length:Int)<=200)/\(m.2.2.2.2.2.2.2.2.1.length:Int)<=200)/\(m.2.2.2.2.2.2.1.2.2.length:Int)<=200)/\(m.2.2.2.2.2.2.1.1.length:Int)<=200)/\u3<=9000:=by
  revert U;simp only[A.ba,W3];exact id
 obtain⟨⟨⟨⟨⟨c1,c2⟩,c3⟩,c4⟩,c5⟩,c6⟩:=U;exact⟨⟨by omega,all_of_seen (m:=9000) L (by omega) (by omega) (by omega)⟩,by omega,⟨by omega,all_of_seen (m:=9000) N (by omega) (by omega) (by omega)⟩,⟨by omega,all_of_seen (m:=9000) O (by omega) (by omega) (by omega)⟩,by omega,n1,n2⟩;exact⟨false,rfl,λe=>by cases e⟩
def o_bQ:F.cT=some true:=by kernel_rfl
def pDelta_eq (bs:List UInt8)(H:bs.length<=70368744177664):F.b0 bs=some (fin pDl zD bs):=by
 have J:F.ao bs=some (fin pDl zD bs):=P_fin PA_Dl PF_Dl zD bs H F.aU (λe x y=>rfl);unfold F.b0;rw[J,Qa]
def rDelta_eq (bs:List UInt8)(H:bs.length<=70368744177664):F.cG bs=some (fin pDl zD bs):=R_fin RA_Dl PF_Dl zD bs H
def Qez (bs:List UInt8)(H:bs.length<=70368744177664):F.cr bs=some (fin (pL pEn) [] bs):=R_fin RA_Ee (PF_L Qfc) [] bs H
def rMsg_eq (bs:List UInt8)(J:bs.length<=70368744177664):F.cM bs=some (fin pMs zM bs):=by
 have H:=Qaf Qah PF_I λa=>Qaf Qah PF_I λb=>Qaf RA_Pl PF_Pl λc=>Qaf RA_Tim PF_Tm λd=>Qaf RA_Rs (PF_L PF_Rc) λe=>Qaf RA_Cc (PF_L PF_Ch) λf=>Qaf RA_Dl PF_Dl λg=>Qaf Qah PF_I λh=>Qaf RA_Ee (PF_L Qfc) λi=>Qaf RA_Ys PF_Ys λj=>Qaf Qah PF_I λk=>Qcy ((a,b,c,d,e,f,g,h,i,j,k):Codec.Msg);have H2:=R_fin H PF_Ms zM bs J;refine Eq.trans ?_ H2;simp only[Wt,Qa];rfl
def Qbn (m:Codec.Msg)(bs:List UInt8)(L:okMsg m):F.bf m bs=some true:=by
 unfold F.bf;rw[o_bQ,Qa,Qc (by simp)];rw[show F.cA _=F.cA m from rfl];obtain⟨b,O,J⟩:=o_bY m;rw[O,Qa];unfold F.bd;by_cases N:b=true/\bs.length<=3000;have J:=J N.1;have H:bs.length<=70368744177664:=by omega
 rw[Qc (by rw[N.1,W2 (show ¬(3000:Int)<bs.length by omega)];simp)];rw[show F.cB _=F.cB m from rfl,Qen m L J,Qa];rw[show F.cO _=F.cO m from rfl,R12_Msg_eq m L J,Qa];rw[pMsg_eq bs H,Qa,rMsg_eq bs H,Qa];rw[Qci,Qa,Qc (by simp)];rw[show F.cd _ _=F.cd (fin pMs zM bs).1 (fin pMs zM bs).1 from rfl,sameMsg _ (fin_Q (Q:=lM) (z:=zM) ⟨by simp[zM],by simp[zM],⟨by simp[zM],⟨by simp[zM],by simp[zM]⟩,by simp[zM]⟩,by simp[zM]⟩ PQ_Ms bs),Qa];unfold F.bc;rw[Qc (by simp)];rw[show F.ce _=F.ce m.2.2.2.2.2.2.1 from rfl,Qdc m L J,Qa];rw[show F.cF _=F.cF m.2.2.2.2.2.2.1 from rfl,Qem m L J,Qa];rw[pDelta_eq bs H,Qa,rDelta_eq bs H,Qa];rw[Qci,Qa,Qc (by simp)];rw[show F.bg _ _=F.bg (fin pDl zD bs).1 (fin pDl zD bs).1 from rfl,Qej _ (fin_Q (Q:=lD) (z:=zD) ⟨by simp[zD],⟨by simp[zD],by simp[zD]⟩,by simp[zD]⟩ PQ_Dl bs),Qa];unfold F.bb;rw[Qc (by simp)];rw[Qcd m L J,Qa,Qcz m L J,Qa];rw[Qeu bs H,Qa,Qez bs H,Qa];rw[Qci,Qa,Qe (by simp)];rw[sameEntries _ (fin_Q (Q:=λl:List Codec.Entry=>l.length<=65536) (by simp) (PQ_mono (PQ_L (PQ_t _)) λx h=>h.1) bs),Qa];unfold F.ba;simp;rw[Qe (by
  cases b with
  |false=>rfl
  |true=>
   have: ¬bs.length<=3000:=λh=>N ⟨rfl,h⟩;simp only[Bool.not_true,cond_false,W3];omega),o_bQ];rfl
def codecMessages_all (m:Codec.Msg)(bs:List UInt8)(h:Z.tyMsg.ok m)(H:(Z.Ty.slice Z.Ty.byte).ok bs):F.bf m bs=some true:=Qbn m bs (Z.ok_msg h)
end Go.Proofs.YtpoabedecgeamaaGreat
end
section
namespace Go.Z
open Go.RowKit
def OpenT (P:Program)(T:TypeId)(t:Ty):Prop:=
 P.cellsOf T=t.size/\∀(H:Type) (enc:TypeId×Value->H) (w:World) (base:Nat) (spare:Nat->Bool) (held:Bool) (fuel:Nat) (cs:List Value) (x:DataW H×List MemPlace),
  DataW.trod enc P w base spare held fuel T cs=some x->∃y:t.den,t.rep w (nt []) cs y
section
variable {P:Program}{T e:TypeId}
def ot_int {k:IntKind}(L:P.cellsOf T=1)(N:P.underlying T=some (.int k)):OpenT P T (.int k):=⟨L,λH enc w base spare held fuel cs x h=>by
 obtain⟨n,rfl,_,J⟩:=DataW.trod_int N h;refine⟨n,rfl,?_⟩;simp only[Lit.wf,Qm,W3]at J;exact J⟩
def ot_byte (J:P.cellsOf T=1)(L:P.underlying T=some (.int .u8)):OpenT P T .byte:=⟨J,λH enc w base spare held fuel cs x h=>by
 obtain⟨n,rfl,_,N⟩:=DataW.trod_int L h;simp[Lit.wf,IntKind.min,IntKind.max,IntKind.signed,IntKind.bits]at N;exact⟨UInt8.ofNat n.toNat,Wl (λz=>[Value.int .u8 z]) (u8_of (by omega))⟩⟩
def ot_bool (J:P.cellsOf T=1)(L:P.underlying T=some .bool):OpenT P T .bool:=⟨J,λH enc w base spare held fuel cs x h=>by
 obtain⟨b,rfl,_⟩:=DataW.trod_bool L h;exact⟨b,rfl⟩⟩
def ot_str (J:P.cellsOf T=1)(L:P.underlying T=some .string):OpenT P T .str:=⟨J,λH enc w base spare held fuel cs x h=>by
 obtain⟨s,rfl,_,N⟩:=DataW.trod_string L h;exact⟨s,rfl,N⟩⟩
def OpenPs (P:Program):List (TypeId×Nat)->Nat->Ty->Prop
 | [],_,_=>False
 | [(T,o')],o,t=>o'=o/\OpenT P T t
 |(T,o')::p::ps,o,.pair a b=>o'=o/\OpenT P T a/\OpenPs P (p::ps) (o+a.size) b
 |_::_::_,_,_=>False
def Qex {H:Type}{enc:TypeId×Value->H}{w:World}{base:Nat}{spare:Nat->Bool}{held:Bool}{fuel:Nat}{cs:List Value}:
  ∀(ps:List (TypeId×Nat)) (o:Nat) (t:Ty),OpenPs P ps o t->(∀p∈ps,∃x,DataW.trod enc P w base spare held fuel p.1 ((cs.drop p.2).take (P.cellsOf p.1))=some x)->∃y:t.den,t.rep w (nt []) ((cs.drop o).take t.size) y
 | [],_,_,h,_=>h.elim
 | [(T,o')],o,t,h,J=>by
  obtain⟨rfl,⟨L,N⟩⟩:=h;obtain⟨x,J⟩:=J (T,o') (Qz.2 rfl);rw[<-L];exact N _ _ _ _ _ _ _ _ _ J
 |(T,o')::p::ps,o,.pair a b,h,J=>by
  obtain⟨rfl,⟨L,N⟩,V⟩:=h;obtain⟨x,W⟩:=J (T,o') (Qx ..);obtain⟨ya,O⟩:=N _ _ _ _ _ _ _ _ _ W;obtain⟨yb,U⟩:=Qex (p::ps) _ b V λq hq=>J q (Qp _ hq);refine⟨(ya,yb),_,_,?_,O,U⟩;show(cs.drop o').take (a.size+b.size)=_;rw[L,List.take_add,Q9]
 |_::_::_,_,.int _,h,_=>h.elim
 |_::_::_,_,.byte,h,_=>h.elim
 |_::_::_,_,.bool,h,_=>h.elim
 |_::_::_,_,.str,h,_=>h.elim
 |_::_::_,_,.slice _,h,_=>h.elim
def ot_struct {fs:List Field}{t:Ty}(O:P.cellsOf T=t.size)(U:P.underlying T=some (.struct fs.toArray))(h:OpenPs P (fs.map λf=>(f.type,f.offset)) 0 t):OpenT P T t:=⟨O,λH enc w base spare held fuel cs x V=>by
 obtain⟨xs,n,_,_,hl,W,X⟩:=DataW.trod_struct U V;have J:cs=(cs.drop 0).take t.size:=by rw[Xm,Q8 (by omega)]
 rw[J];refine Qex (fuel:=n) (enc:=enc) (base:=base) (spare:=spare) (held:=held) _ 0 t h λp hp=>?_;obtain⟨f,L,rfl⟩:=Xl.1 hp;obtain⟨i,N,Y⟩:=Ww L;have h1:=X i f (by rw[List.getElem?_toArray,Qf N,Y]);rw[h1,Qf (by rw[W];simpa using N)];exact⟨_,rfl⟩⟩
def ot_array {n c:Nat}{t:Ty}(L:P.cellsOf T=t.size)(N:P.underlying T=some (.array n e))(O:P.cellsOf e=c)(h:OpenPs P ((List.range n).map λi=>(e,i*c)) 0 t):OpenT P T t:=⟨L,λH enc w base spare held fuel cs x U=>by
 subst O;obtain⟨xs,m,_,_,X,Y,V⟩:=DataW.trod_array N U;have J:cs=(cs.drop 0).take t.size:=by rw[Xm,Q8 (by omega)]
 rw[J];refine Qex (fuel:=m) (enc:=enc) (base:=base) (spare:=spare) (held:=held) _ 0 t h λp hp=>?_;obtain⟨i,W,rfl⟩:=Xl.1 hp;have hi':=List.mem_range.1 W;rw[V i hi',Qf (by omega)];exact⟨_,rfl⟩⟩
def rows_of {t:Ty}{w:World}{g:Addr}: ∀(n:Nat),(∀i,i<n->∃(cs:List Value) (y:t.den),cs.length=t.size/\(∀j u,cs[j]?=some u->w.cell? (g.add (i*t.size+j))=some u)/\t.rep w (nt []) cs y)->
  ∃(cells:List Value) (ys:List t.den),ys.length=n/\cells.length=n*t.size/\(∀j u,cells[j]?=some u->w.cell? (g.add j)=some u)/\∀(i:Nat) (y:t.den),ys[i]?=some y->t.rep w (nt []) ((cells.drop (i*t.size)).take t.size) y
 |0,_=>⟨[],[],rfl,by simp,by simp,by simp⟩
 |n+1,h=>by
  obtain⟨cells,ys,O,L,U,V⟩:=rows_of n λi H=>h i (by omega);obtain⟨cs,y,W,X,Y⟩:=h n (by omega);refine⟨cells++cs,ys++[y],by simp[O],by rw[Qb,L,W,Nat.succ_mul],λj u J=>?_,?_⟩;by_cases N:j<cells.length;rw[W7 N]at J;exact U j u J;rw[List.getElem?_append_right (by omega)]at J;have:=X _ u J;rwa[L,show n*t.size+(j-n*t.size)=j by omega]at this;refine Qbf (xs:=ys) (ys:=[y]) (by rw[L,O]) V λi y' H=>?_;have:i=0:=by have:=(Qd.1 H).1;simp at this;omega
  subst this;simp at H;subst H;rw[Nat.zero_mul,Xm,Q8 (by omega)];exact Y
def ot_slice {t:Ty}(hc:P.cellsOf T=1)(ht:P.underlying T=some (.slice e))(h:OpenT P e t):OpenT P T (.slice t):=⟨hc,λH enc w base spare held fuel cs x hx=>by
 rcases DataW.trod_slice ht hx with⟨rfl,_⟩|⟨ad,len,cap,elems,rest,n,_,rfl,_,hb,hl,X,hlen,W,_,_⟩
 exact⟨[],rep_nil _⟩;have each: ∀i,i<len->∃(cs:List Value) (y:t.den),cs.length=t.size/\(∀j u,cs[j]?=some u->w.cell? (ad.add (i*t.size+j))=some u)/\t.rep w (nt []) cs y:=λi hi=>by
  have J:=W i hi;rw[Qf (by omega),Xf]at J;obtain⟨cs',N,O⟩:=J;obtain⟨_,U,Y⟩:=World.cells?_some N;obtain⟨y,hy⟩:=h.2 _ _ _ _ _ _ _ _ _ O;rw[h.1]at U Y;refine⟨cs',y,U,λj u V=>?_,hy⟩;have L:=(Qd.1 V).1;have:=Y j (by omega);rw[add_add]at this;rw[this,V]
 obtain⟨cells,ys,J,N,O,U⟩:=rows_of len each;by_cases hz:len=0;subst hz;have:ys=[]:=Qt J;subst this;exact⟨[],some ad,cap,[],rfl,by simp,X,by simp,.inl rfl,by simp⟩;have hp:=Qat t;have L:0<cells.length:=by rw[N];exact Nat.mul_pos (by omega) hp
 have h0:=O 0 _ (Qf L);have hspot:=World.cell?_spot h0;obtain⟨b,off,spot⟩:=ad;simp only[Addr.add]at hspot;subst hspot;refine⟨ys,some ⟨b,off,none⟩,cap,cells,by rw[J],by omega,X,by rw[J];exact N,.inr ⟨b,off,rfl,by simp[nt],λj u V=>?_⟩,U⟩;have:=O j u V;rwa[Addr.add_lit]at this⟩
end
end Go.Z
end
section
namespace Go.Proofs.YtpoabedecgeamaaGreat.codecMessagesDone
open Go.ChangeShapes Go.WideShapes Go.ChangeAt Go.RowKit
def own:ownKnob Tryz.prog.godebug=none:=by kernel_rfl
def laidOut:laidOutB Tryz.prog=true:=by kernel_rfl
def ot3:Z.OpenT Tryz.prog 3 A.ti:=Z.ot_int (by kernel_rfl) Tryz.underlying3
def ot2:Z.OpenT Tryz.prog 2 A.ti:=Z.ot_int (by kernel_rfl) Tryz.underlying2
def ot23:Z.OpenT Tryz.prog 23 T22:=Z.ot_struct (by kernel_rfl) Tryz.underlying23 ⟨rfl,ot3,rfl,ot3⟩
def ot24:Z.OpenT Tryz.prog 24 T24:=Z.ot_array (c:=1) (by kernel_rfl) Tryz.underlying24 (by kernel_rfl) (show Z.OpenPs _ [(2,0),(2,1),(2,2),(2,3)] 0 _ from⟨rfl,ot2,rfl,ot2,rfl,ot2,rfl,ot2⟩)
def ot26:Z.OpenT Tryz.prog 26 T25:=Z.ot_struct (by kernel_rfl) Tryz.underlying26 ⟨rfl,ot2,rfl,ot3,rfl,ot24⟩
def ot9:Z.OpenT Tryz.prog 9 Z.Ty.str:=Z.ot_str (by kernel_rfl) Tryz.underlying9
def ot61:Z.OpenT Tryz.prog 61 T60:=Z.ot_struct (by kernel_rfl) Tryz.underlying61 ⟨rfl,ot2,rfl,ot9⟩
def ot27:Z.OpenT Tryz.prog 27 (Z.Ty.slice T60):=Z.ot_slice (by kernel_rfl) Tryz.underlying27 ot61
def ot97:Z.OpenT Tryz.prog 97 T96:=Z.ot_struct (by kernel_rfl) Tryz.underlying97 ⟨rfl,ot23,rfl,ot26,rfl,ot2⟩
def ot28:Z.OpenT Tryz.prog 28 (Z.Ty.slice T96):=Z.ot_slice (by kernel_rfl) Tryz.underlying28 ot97
def ot29:Z.OpenT Tryz.prog 29 A.TI:=Z.ot_slice (by kernel_rfl) Tryz.underlying29 ot3
def ot63:Z.OpenT Tryz.prog 63 T62:=Z.ot_struct (by kernel_rfl) Tryz.underlying63 ⟨rfl,ot3,rfl,ot2,rfl,ot9⟩
def ot116:Z.OpenT Tryz.prog 116 T115:=Z.ot_struct (by kernel_rfl) Tryz.underlying116 ⟨rfl,ot3,rfl,ot3,rfl,ot29,rfl,ot63,rfl,ot9,rfl,ot2,rfl,ot3⟩
def ot30:Z.OpenT Tryz.prog 30 (Z.Ty.slice T115):=Z.ot_slice (by kernel_rfl) Tryz.underlying30 ot116
def ot65:Z.OpenT Tryz.prog 65 T64:=Z.ot_struct (by kernel_rfl) Tryz.underlying65 ⟨rfl,ot3,rfl,ot3,rfl,ot3,rfl,ot2,rfl,ot63⟩
def ot31:Z.OpenT Tryz.prog 31 (Z.Ty.slice T64):=Z.ot_slice (by kernel_rfl) Tryz.underlying31 ot65
def ot33:Z.OpenT Tryz.prog 33 T32:=Z.ot_struct (by kernel_rfl) Tryz.underlying33 ⟨rfl,ot29,rfl,ot30,rfl,ot31⟩
def ot58:Z.OpenT Tryz.prog 58 T57:=Z.ot_struct (by kernel_rfl) Tryz.underlying58 ⟨rfl,ot3,rfl,ot2,rfl,ot9,rfl,ot2⟩
def ot34:Z.OpenT Tryz.prog 34 (Z.Ty.slice T57):=Z.ot_slice (by kernel_rfl) Tryz.underlying34 ot58
def ot4:Z.OpenT Tryz.prog 4 Z.Ty.bool:=Z.ot_bool (by kernel_rfl) Tryz.underlying4
def ot35:Z.OpenT Tryz.prog 35 A.ti:=Z.ot_int (by kernel_rfl) Tryz.underlying35
def ot37:Z.OpenT Tryz.prog 37 T36:=Z.ot_struct (by kernel_rfl) Tryz.underlying37 ⟨rfl,ot3,rfl,ot2,rfl,ot23,rfl,ot26,rfl,ot27,rfl,ot28,rfl,ot33,rfl,ot2,rfl,ot34,rfl,ot4,rfl,ot35⟩
def ot5:Z.OpenT Tryz.prog 5 Z.Ty.byte:=Z.ot_byte (by kernel_rfl) Tryz.underlying5
def ot38:Z.OpenT Tryz.prog 38 (Z.Ty.slice Z.Ty.byte):=Z.ot_slice (by kernel_rfl) Tryz.underlying38 ot5
set_option maxHeartbeats 1000000 in
set_option maxRecDepth 100000 in
def lifted (os:Os)(started:os.Started)(H:Type)(enc:TypeId×Value->H):
  ReturnsInHanded {} Tryz.checked os 3 .any (Rows.codecMessagesSpec.pre6 enc Tryz.prog Tryz.f3 Rows.codecMessagesRow.domain false) (Rows.codecMessagesSpec.post enc Tryz.prog Tryz.f3 false true false false):=by
 refine returnsInHanded_of_change (C:=Tryz.checked) own started (by kernel_rfl) Tryz.func3
  (ChangeSpec.witness6 (enc:=enc) (C:=Tryz.checked) false ⟨#[],#[.agg #[A.i 0,A.i 0,A.i 0,A.i 0,A.i 0,A.i 0,A.i 0,A.i 0,A.i 0,A.i 0,.slice none 0 0,.slice none 0 0,.slice none 0 0,.slice none 0 0,.slice none 0 0,A.i 0,.slice none 0 0,.bool false,A.i 0],.slice none 0 0],[]⟩ 16 (by kernel_rfl) (by kernel_rfl) (by kernel_rfl) (by kernel_rfl)) ?_
 intro W base args ds gs before hval0 hW hcnd _;have hval: ∀(j:Nat) t v,Tryz.f3.params[j]?=some t->args[j]?=some v->Value.okWide Tryz.prog W .any base t v:=hval0;have hW':=hW;obtain⟨p,q,O,hV,rfl,hfz,hnd⟩:=hW;have hA:DataW.TrodAll enc Tryz.prog W 0 (λ_=>true) true Tryz.f3.params.toList args.toList ds p:=O;rw[Tryz.params3]at hA hval;obtain⟨v0,vs0,d0,ds0,p0,q0,hargs,rfl,rfl,h0,r0⟩:=trodAll_cons hA;obtain⟨v1,vs1,d1,ds1,p1,q1,rfl,rfl,rfl,h1,r1⟩:=trodAll_cons r0;obtain⟨rfl,rfl,rfl⟩:=trodAll_nil r1;obtain rfl:args=#[v0,v1]:=by cases args;simp_all
 obtain⟨rfl,rfl⟩:=trodVars_none hV;have k0:=h0;have lt0: ∀x∈p0,x.block<W.heap.size:=by obtain⟨m,V⟩:=k0;exact DataW.trod_lt m _ _ _ V
 obtain⟨fu0,X⟩:=h0;obtain⟨J,N⟩:=ot37.2 _ _ _ _ _ _ _ _ _ X;obtain⟨cs0,rfl,_⟩:=okWide_struct Tryz.underlying37 (hval 0 37 v0 rfl rfl);replace N:T36.rep W (Z.nt []) cs0.toList J:=N;have hok0:=Z.rep_ok _ N;obtain⟨ca1,cb2,Y,hr4,hr5⟩:=N;have he6:=hr4.1;obtain⟨ca7,cb8,he9,hr10,hr11⟩:=hr5;have he12:=hr10.1;obtain⟨ca13,cb14,he15,hr16,hr17⟩:=hr11;obtain⟨ca18,cb19,he20,hr21,hr22⟩:=hr16;have he23:=hr21.1;have he24:=hr22.1;obtain⟨ca25,cb26,he27,hr28,hr29⟩:=hr17;obtain⟨ca30,cb31,he32,hr33,hr34⟩:=hr28;have he35:=hr33.1;obtain⟨ca36,cb37,he38,hr39,hr40⟩:=hr34;have he41:=hr39.1;obtain⟨ca42,cb43,he44,hr45,hr46⟩:=hr40;have he47:=hr45.1;obtain⟨ca48,cb49,he50,hr51,hr52⟩:=hr46;have he53:=hr51.1;obtain⟨ca54,cb55,he56,hr57,hr58⟩:=hr52;have he59:=hr57.1;have he60:=hr58.1;obtain⟨ca61,cb62,he63,hr64,hr65⟩:=hr29;obtain⟨A66,c67,he68,hn69,hn70⟩:=J2 hr64;rw[he68]at hr64;have hle_A66:=Z.rep_le hr64;obtain⟨ca71,cb72,he73,hr74,hr75⟩:=hr65;obtain⟨A76,c77,he78,hn79,hn80⟩:=J2 hr74;rw[he78]at hr74;have hle_A76:=Z.rep_le hr74;obtain⟨ca81,cb82,he83,hr84,hr85⟩:=hr75;obtain⟨ca86,cb87,he88,hr89,hr90⟩:=hr84;obtain⟨A91,c92,he93,hn94,hn95⟩:=J2 hr89;rw[he93]at hr89;have hle_A91:=Z.rep_le hr89;obtain⟨ca96,cb97,he98,hr99,hr100⟩:=hr90;obtain⟨A101,c102,he103,hn104,hn105⟩:=J2 hr99;rw[he103]at hr99;have hle_A101:=Z.rep_le hr99;obtain⟨A106,c107,he108,hn109,hn110⟩:=J2 hr100;rw[he108]at hr100;have hle_A106:=Z.rep_le hr100;obtain⟨ca111,cb112,he113,hr114,hr115⟩:=hr85;have he116:=hr114.1;obtain⟨ca117,cb118,he119,hr120,hr121⟩:=hr115;obtain⟨A122,c123,he124,hn125,hn126⟩:=J2 hr120;rw[he124]at hr120;have hle_A122:=Z.rep_le hr120;obtain⟨ca127,cb128,he129,hr130,hr131⟩:=hr121;have he132:_=_:=hr130;have he133:=hr131.1;have he0:cs0.toList=(A.rai J A66 c67 A76 c77 A91 c92 A101 c102 A106 c107 A122 c123):=by simp only[Y,he6,he9,he12,he15,he20,he23,he24,he27,he32,he35,he38,he41,he44,he47,he50,he53,he56,he59,he60,he63,he68,he73,he78,he83,he88,he93,he98,he103,he108,he113,he116,he119,he124,he129,he132,he133,W6,Ql]
 obtain rfl:cs0=#[A.i J.1,A.i J.2.1,A.i J.2.2.1.1,A.i J.2.2.1.2,A.i J.2.2.2.1.1,A.i J.2.2.2.1.2.1,A.i J.2.2.2.1.2.2.1,A.i J.2.2.2.1.2.2.2.1,A.i J.2.2.2.1.2.2.2.2.1,A.i J.2.2.2.1.2.2.2.2.2,.slice A66 J.2.2.2.2.1.length c67,.slice A76 J.2.2.2.2.2.1.length c77,.slice A91 J.2.2.2.2.2.2.1.1.length c92,.slice A101 J.2.2.2.2.2.2.1.2.1.length c102,.slice A106 J.2.2.2.2.2.2.1.2.2.length c107,A.i J.2.2.2.2.2.2.2.1,.slice A122 J.2.2.2.2.2.2.2.2.1.length c123,.bool J.2.2.2.2.2.2.2.2.2.1,A.i J.2.2.2.2.2.2.2.2.2.2]:=by rw[<-Q0 (xs:=cs0),he0]
 have k1:=h1;have lt1: ∀x∈p1,x.block<W.heap.size:=by obtain⟨m,V⟩:=k1;exact DataW.trod_lt m _ _ _ V
 obtain⟨fu1,hf1⟩:=h1;obtain⟨U,L⟩:=ot38.2 _ _ _ _ _ _ _ _ _ hf1;obtain⟨a1,n1,c1,rfl⟩:=okWide_slice Tryz.underlying38 (hval 1 38 v1 rfl rfl);replace L:(Z.Ty.slice Z.Ty.byte).rep W (Z.nt []) [.slice a1 n1 c1] U:=L;have hn1:=(Z.rep_slice_len L).1;subst hn1;clear O hval0;have hF:F.bf J U=some true:=codecMessages_all J U hok0 (Z.rep_ok _ L);have hct:=o_a9 A66 A76 A91 A101 A106 A122 a1 c67 c77 c92 c102 c107 c123 c1 J U hok0.1 hok0.2.1 hok0.2.2.1.1 hok0.2.2.1.2 hok0.2.2.2.1.1 hok0.2.2.2.1.2.1 hok0.2.2.2.1.2.2.1 hok0.2.2.2.1.2.2.2.1 hok0.2.2.2.1.2.2.2.2.1 hok0.2.2.2.1.2.2.2.2.2 hok0.2.2.2.2.2.2.2.1 hok0.2.2.2.2.2.2.2.2.2.2 true hF;refine(hct W (λ_=>True) (A.Hp.start ⟨A.Hall.sh hr64,A.Hall.sh hr74,A.Hall.sh hr89,A.Hall.sh hr99,A.Hall.sh hr100,A.Hall.sh hr120,A.Hall.sh L,trivial⟩)).mono ?_;rintro e W' ⟨v,H',rfl,⟨rfl,rfl⟩,hh⟩;have bel:=hh.ch.below;exact⟨_,rfl,_,_,_,[],_,[],hW',trodAll_mk1 (shut_bool Tryz.underlying4 _),(trodAll_cons_mk (Below.trod laidOut (by kernel_rfl) (Wu (by kernel_rfl)) k0 bel lt0) (trodAll_cons_mk (Below.trod laidOut (by kernel_rfl) (Wu (by kernel_rfl)) k1 bel lt1) trodAll_mk0)),rfl,bel.frame _,λh=>by cases h⟩
def over:Rows.codecMessagesRow.holds Tryz.pinned (OpenSpec.ofChange Rows.codecMessagesSpec):=
 OpenClaim.holds_of_wide 3 Tryz.f3 rfl rfl rfl rfl rfl rfl rfl ⟨rfl,rfl,rfl,rfl,rfl⟩ rfl rfl rfl rfl rfl (by kernel_rfl) Tryz.func3 (by kernel_rfl)
  (Wu (by kernel_rfl)) (by unfold Func.isWrapper;first|(rw[Qe (by decide+kernel)];kernel_rfl)|(rw[Qc (by decide+kernel)];exact⟨rfl,rfl⟩))
  (λos started H enc _=>lifted os started H enc)
def proved:Rows.CodecMessagesSaid:=over
#print axioms proved
end Go.Proofs.YtpoabedecgeamaaGreat.codecMessagesDone
end
