import Derived.Test.YtpoabedecgeamaaGreatDoorG5
import Derived.Lib.TrimUEq
set_option linter.defProp false
set_option linter.unusedVariables false
set_option linter.unusedSimpArgs false
set_option synthInstance.maxSize 1000000
set_option synthInstance.maxHeartbeats 400000
set_option maxRecDepth 20000
section
namespace Go.Proofs.YtpoabedecgeamaaGreatDoor
open Go.RowKit Go.Codec
abbrev BB:Nat:=70368744177664
def puts {α:Type}(enc:α->Bytes)(xs:List α)(L:Nat->List UInt8->Int->Option (Int ⊕ List UInt8))(w:List UInt8)(N: ∀f s,L (f+1) s (xs.length:Int)=some (.inr s))
  (O: ∀f s (k:Nat) x,xs[k]?=some x->k<xs.length->(s++enc x).length<=BB->L (f+1) s (k:Int)=L f (s++enc x) ((k:Int)+1)) (V:(w++xs.flatMap enc).length<=BB) (hl:xs.length<=65536):L A.FU w 0=some (.inr (w++xs.flatMap enc)):=
 A.lp xs L (λ_ _ _=>some (.inr (w++xs.flatMap enc))) (λk s=>s=w++(xs.take k).flatMap enc)
  (λf s H=>by rw[N,H,Xv])
  (λf s k x J hk H W=>by
   have e:=Qif enc J;have Y:=fm_le enc xs (k+1);rw[O f s k x J hk (by rw[H,Qs,<-e];simp only[Qe]at V ⊢;omega)];exact W _ (by rw[H,Qs,<-e]))
  (by have:=Qab;omega) w (by simp)
def putsR {α:Type}(enc:α->Bytes)(xs:List α)(L:Nat->List UInt8->Int->Int->Option (List UInt8×Int))(w:List UInt8)(N: ∀f s,L (f+1) s 0 (xs.length:Int)=some (s,0))
  (O: ∀f s (k:Nat) x,xs[k]?=some x->k<xs.length->(s++enc x).length<=BB->L (f+1) s 0 (k:Int)=L f (s++enc x) 0 ((k:Int)+1)) (V:(w++xs.flatMap enc).length<=BB) (hl:xs.length<=65536):L A.FU w 0 0=some (w++xs.flatMap enc,0):=
 A.lp xs (λf s y=>L f s 0 y) (λ_ _ _=>some (w++xs.flatMap enc,0)) (λk s=>s=w++(xs.take k).flatMap enc)
  (λf s H=>by rw[N,H,Xv])
  (λf s k x J hk H W=>by
   have e:=Qif enc J;have Y:=fm_le enc xs (k+1);rw[O f s k x J hk (by rw[H,Qs,<-e];simp only[Qe]at V ⊢;omega)];exact W _ (by rw[H,Qs,<-e]))
  (by have:=Qab;omega) w (by simp)
def wInts (l:List Int)(W:l.length<=1000)(L: ∀n∈l,okInt n):F.dX l=some (l.flatMap encInt):=by
 unfold F.dX;exact A.lp l (λf (s:List UInt8) y=>F.b8 l f s y) (λ_ _ _=>some (l.flatMap encInt)) (λk s=>s=(l.take k).flatMap encInt)
  (λf s H=>by rw[F.b8,Qb (by omega),H,Xv])
  (λf s k x J hk H N=>by
   have e:=Qif encInt J;have O:=ints_len (l.take k);have V:=(encInt_length x).2;rw[Qo]at O;rw[F.b8,Qc (by omega),A.ixn J,Qa,wInt x (L x (Qg J)),Qa,A.gd1 (by rw[H];omega),A.gd1 (A.r64n (by omega))];exact N _ (by rw[H,<-e]))
  (by have:=Qab;omega) [] rfl
def wJoin (a b:List UInt8)(h:(a++b).length<=BB):F.cN [a,b]=some (a++b):=by
 unfold F.cN F.es;have e:[a,b].flatten=a++b:=by simp
 rw[e,A.gd1 h];rfl
def pInts (w:List UInt8)(l:List Int)(H:l.length<=1000)(J: ∀n∈l,okInt n)(h:(w++l.flatMap encInt).length<=BB):F.r w l=some (w++l.flatMap encInt):=by
 unfold F.r;rw[wInts l H J,Qa,wJoin _ _ h];rfl
def pI1 (w:List UInt8){a:Int}(H:okInt a)(h:(w++encInt a).length<=BB):F.r w [a]=some (w++encInt a):=by
 have:=pInts w [a] (by simp) (by simpa using H) (by simpa using h);rw[this];simp
def pI2 (w:List UInt8){a b:Int}(H:okInt a)(J:okInt b)(h:(w++(encInt a++encInt b)).length<=BB):F.r w [a,b]=some (w++(encInt a++encInt b)):=by
 have:=pInts w [a,b] (by simp) (by simp[H,J]) (by simpa using h);rw[this];simp
def wText (s:ByteArray)(H:Qfo s):F.dY s=some (encText s,0):=by
 unfold Qfo at H;unfold F.dY;have J:=(encInt_length (s.size:Int)).2;rw[Qb (by omega),wInt _ (by unfold okInt;omega),Qa,A.gd1 (by omega)];rfl
def pText (w:List UInt8)(s:ByteArray)(H:Qfo s)(h:(w++encText s).length<=BB):F.aP w s=some (.inr (w++encText s)):=by
 unfold F.aP;rw[wText s H,Qa];show((F.w 0).bind _)=_;rw[show F.w 0=some (.inr ())from rfl,Qa];show((F.cN [w,encText s]).bind _)=_;rw[wJoin _ _ h];rfl
def okN {n:Nat}(h:n<=9223372036854775807):okInt (n:Int):=by unfold okInt;omega
def pFn (w:List UInt8)(f:Codec.Fn)(H:okFn f)(J:gFn f)(h:(w++encFn f).length<=BB):F.ci w f=some (.inr (w++encFn f)):=by
 unfold encFn at h ⊢;unfold F.ci;rw[pI2 w H.1 H.2.1 (by simp only[Qe]at h ⊢;omega),Qa,pText _ _ J (by simp only[Qe]at h ⊢;omega),Qa];simp only[A.sm,Qs]
def pList {α:Type}(enc:α->Bytes)(xs:List α)(H:xs.length<=65536)(w:List UInt8)(h:(w++Qad enc xs).length<=BB):(w++encInt (xs.length:Int)).length<=BB/\((w++encInt (xs.length:Int))++xs.flatMap enc).length<=BB:=by
 unfold Qad at h;simp only[Qe]at h ⊢;omega
def pNums (w:List UInt8)(l:List Int)(H:l.length<=65536)(L: ∀n∈l,okInt n)(h:(w++Qad encInt l).length<=BB):F.ae w l=some (.inr (w++Qad encInt l)):=by
 obtain⟨N,O⟩:=pList encInt l H w h;unfold F.ae F.y F.ar;rw[Qb (by omega),pI1 w (okN (by omega)) N,Qa,Qa];rw[puts encInt l (λf s y=>F.g l f s y) _ (λf s=>by rw[F.g,Qb (by omega)])
  (λf s k x J hk V=>by
   rw[F.g,Qc (by omega),A.ixn J,Qa,F.ar,pI1 s (L x (Qg J)) V,Qa,Qa,A.gd1 (A.r64n (by omega))]) O H]
 unfold Qad;simp only[Qs]
def pNode (w:List UInt8)(n:Codec.Node)(H:okNode n)(J:gNode n)(h:(w++Qae n).length<=BB):F.bX w n=some (.inr (w++Qae n)):=by
 unfold Qae at h ⊢;unfold F.bX;rw[pI2 w H.1 H.2.1 (by simp only[Qe]at h ⊢;omega),Qa,pNums _ _ J.1 H.2.2.1.2 (by simp only[Qe]at h ⊢;omega),Qa];simp only[A.sm];rw[show(n.2.2.2.1:Codec.Fn)=n.2.2.2.1 from rfl,pFn _ _ H.2.2.2.1 J.2.1 (by simp only[Qe]at h ⊢;omega),Qa];simp only[];rw[pText _ _ J.2.2 (by simp only[Qe]at h ⊢;omega),Qa];simp only[];rw[pI2 _ H.2.2.2.2.2.1 H.2.2.2.2.2.2 (by simp only[Qe]at h ⊢;omega),Qa];simp only[Qs]
def smr {α β:Type}(x:α)(k:α->Option (Int ⊕ β)):A.sm (.inr x) k=k x:=rfl
def pNodes (w:List UInt8)(l:List Codec.Node)(J:l.length<=65536)(L: ∀n∈l,okNode n)(N: ∀n∈l,gNode n)(h:(w++Qad Qae l).length<=BB):F.q w l=some (.inr (w++Qad Qae l)):=by
 obtain⟨O,V⟩:=pList Qae l J w h;unfold F.q F.o F.ar;rw[Qb (by omega),pI1 w (okN (by omega)) O,Qa,Qa];rw[puts Qae l (λf s y=>F.c l f s y) _ (λf s=>by rw[F.c,Qb (by omega)])
  (λf s k x H hk W=>by
   rw[F.c,Qc (by omega),A.ixn H,Qa];rw[show(x:Codec.Node)=x from rfl,pNode s x (L x (Qg H)) (N x (Qg H)) W,Qa];rw[smr,A.gd1 (A.r64n (by omega))]) V J]
 unfold Qad;simp only[Qs]
abbrev Pz (α:Type):=List UInt8->Int ⊕ (α×Nat)
def pr {α:Type}(x:α):Pz α:=λ_=>.inr (x,0)
def pe {α:Type}(e:Int):Pz α:=λ_=>.inl e
def pb {α β:Type}(p:Pz α)(q:α->Pz β):Pz β:=λbs=>match p bs with
 | .inl e=>.inl e
 | .inr (x,k)=>match q x (bs.drop k)with
  | .inl e=>.inl e
  | .inr (y,j)=>.inr (y,k+j)
def PF {α:Type}(p:Pz α):Prop:=∀bs,(∀e,p bs=.inl e->e≠0)/\∀x k,p bs=.inr (x,k)->k<=bs.length
def PF_pr {α:Type}(x:α):PF (pr x):=λbs=>⟨λe h=>(by cases h),λy k h=>by cases h;omega⟩
def Qcl {α β:Type}{p:Pz α}{q:α->Pz β}(hp:PF p)(hq: ∀x,PF (q x)):PF (pb p q):=λbs=>by
 unfold pb;cases h:p bs with
 |inl e=>exact⟨λe' h'=>by cases h';exact(hp bs).1 e h,λy k h'=>by cases h'⟩
 |inr v=>
  obtain⟨x,k⟩:=v;have hk:=(hp bs).2 x k h
  (try dsimp only)
  cases H:q x (bs.drop k)with
  |inl e=>exact⟨λe' h'=>by cases h';exact(hq x _).1 e H,λy k h'=>by cases h'⟩
  |inr J=>
   obtain⟨y,j⟩:=J;have L:=(hq x _).2 y j H;rw[Qu]at L;exact⟨λe' h'=>(by cases h'),λy k h'=>by cases h';omega⟩
def PQ {α:Type}(p:Pz α)(Q:α->Prop):Prop:=∀bs x k,p bs=.inr (x,k)->Q x
def PQ_pr {α:Type}{x:α}{Q:α->Prop}(h:Q x):PQ (pr x) Q:=λbs y k h'=>by cases h';exact h
def PQ_pb {α β:Type}{p:Pz α}{q:α->Pz β}{P:α->Prop}{Q:β->Prop}(hp:PQ p P)(hq: ∀x,P x->PQ (q x) Q):PQ (pb p q) Q:=λbs y k h=>by
 unfold pb at h;cases H:p bs with
 |inl e=>rw[H]at h;cases h
 |inr v=>
  obtain⟨x,k0⟩:=v;rw[H]at h;dsimp only at h;cases J:q x (bs.drop k0)with
  |inl e=>rw[J]at h;cases h
  |inr L=>
   obtain⟨N,j⟩:=L;rw[J]at h;cases h;exact hq x (hp _ _ _ H) _ _ _ J
def PQ_t {α:Type}(p:Pz α):PQ p λ_=>True:=λ_ _ _ _=>trivial
def pI:Pz Int:=λbs=>if(takeI bs).2.2≠0 then .inl (takeI bs).2.2 else .inr ((takeI bs).1,(takeI bs).2.1)
def pT:Pz ByteArray:=λbs=>if(takeT bs).2.2≠0 then .inl (takeT bs).2.2 else .inr ((takeT bs).1,(takeT bs).2.1)
def pC:Pz Int:=λbs=>if(takeI bs).2.2≠0 then .inl (takeI bs).2.2 else if(takeI bs).1<0 then .inl 70 else if 65536<(takeI bs).1 then .inl 3 else .inr ((takeI bs).1,(takeI bs).2.1)
def PF_I:PF pI:=λbs=>by
 unfold pI;rcases Qan bs with⟨H,L,J,_⟩|⟨H,_⟩
 rw[Qb (by simp[H])];exact⟨λe h=>(by cases h),λx k h=>by cases h;exact J⟩;rw[Qc H];exact⟨λe h=>by cases h;exact H,λx k h=>by cases h⟩
def PF_T:PF pT:=λbs=>by
 unfold pT;rcases takeT_all bs with⟨H,L,J,_⟩|⟨H,_⟩
 rw[Qb (by simp[H])];exact⟨λe h=>(by cases h),λx k h=>by cases h;exact J⟩;rw[Qc H];exact⟨λe h=>by cases h;exact H,λx k h=>by cases h⟩
def PF_C:PF pC:=λbs=>by
 unfold pC;rcases Qan bs with⟨H,L,J,_⟩|⟨H,_⟩
 rw[Qb (by simp[H])];split;exact⟨λe h=>by cases h;decide,λx k h=>by cases h⟩;split;exact⟨λe h=>by cases h;decide,λx k h=>by cases h⟩;exact⟨λe h=>(by cases h),λx k h=>by cases h;exact J⟩;rw[Qc H];exact⟨λe h=>by cases h;exact H,λx k h=>by cases h⟩
def PQ_C:PQ pC λn=>0<=n/\n<=65536:=λbs x k h=>by
 unfold pC at h;split at h;cases h;split at h;cases h;split at h;cases h;cases h;omega
def pn {α:Type}(p:Pz α):Nat->Pz (List α)
 |0=>pr []
 |n+1=>pb p λx=>pb (pn p n) λxs=>pr (x::xs)
def PF_n {α:Type}{p:Pz α}(hp:PF p): ∀n,PF (pn p n)
 |0=>PF_pr []
 |n+1=>Qcl hp λx=>Qcl (PF_n hp n) λxs=>PF_pr _
def PQ_n {α:Type}{p:Pz α}{P:α->Prop}(hp:PQ p P): ∀n,PQ (pn p n) λxs=>xs.length=n/\∀x∈xs,P x
 |0=>PQ_pr ⟨rfl,λx J=>by cases J⟩
 |n+1=>PQ_pb hp λx J=>PQ_pb (PQ_n hp n) λxs H=>PQ_pr ⟨by rw[Qi,H.1],λy L=>by
   rcases Qn.1 L with rfl|L
   exact J;exact H.2 y L⟩
def pL {α:Type}(p:Pz α):Pz (List α):=pb pC λn=>pn p n.toNat
def PF_L {α:Type}{p:Pz α}(hp:PF p):PF (pL p):=Qcl PF_C λn=>PF_n hp _
def PQ_L {α:Type}{p:Pz α}{P:α->Prop}(hp:PQ p P):PQ (pL p) λxs=>xs.length<=65536/\∀x∈xs,P x:=
 PQ_pb PQ_C λn H bs xs k h=>by
  have:=PQ_n hp _ bs xs k h;exact⟨by omega,this.2⟩
abbrev Rd:=Bool×List UInt8×Int
def ot {α:Type}(bs:List UInt8)(at_:Nat):Int ⊕ (α×Nat)->Int ⊕ (α×Rd)
 | .inl e=>.inl e
 | .inr (x,k)=>.inr (x,(true,bs,((at_+k:Nat):Int)))
def PA {α:Type}(f:Rd->Option (Int ⊕ (α×Rd)))(p:Pz α):Prop:=∀bs (at_:Nat),at_<=bs.length->bs.length<=70368744177664->f (true,bs,(at_:Int))=some (ot bs at_ (p (bs.drop at_)))
def PA_pr {α:Type}(x:α):PA (λs=>some (.inr (x,s))) (pr x):=λbs at_ h H=>by simp[pr,ot]
def Qee {α β:Type}{f:Rd->Option (Int ⊕ (α×Rd))}{g:α->Rd->Option (Int ⊕ (β×Rd))}{p:Pz α}{q:α->Pz β}(J:PA f p)(hp:PF p)(L: ∀x,PA (g x) (q x)):
  PA (λs=>(f s).bind λr=>A.sm r λx=>g x.1 x.2) (pb p q):=λbs at_ h H=>by
 unfold pb
 (try dsimp only)
 rw[J bs at_ h H,Qa];cases N:p (bs.drop at_)with
 |inl e=>rfl
 |inr v=>
  obtain⟨x,k⟩:=v;have hk:=(hp _).2 x k N;rw[Qu]at hk;show g x (true,bs,((at_+k:Nat):Int))=_;rw[L x bs (at_+k) (by omega) H]
  (try dsimp only)
  rw[Xi];cases q x (bs.drop (at_+k))with
  |inl e=>rfl
  |inr O=>obtain⟨y,j⟩:=O;simp only[ot,Xx]
def wRI (bs:List UInt8)(at_:Nat)(h:at_<=bs.length)(L:bs.length<=70368744177664):F.bU (true,bs,(at_:Int))=some ((takeI (bs.drop at_)).1,(takeI (bs.drop at_)).2.2,(true,bs,((at_+(takeI (bs.drop at_)).2.1:Nat):Int))):=by
 have hk:(takeI (bs.drop at_)).2.1<=1048576:=by
  rcases Qan (bs.drop at_)with⟨H,J,N,O,_⟩|⟨H,J,_⟩
  omega;omega
 unfold F.bU F.s;rw[Qa,Qb (by simp),A.gd1 ⟨by dsimp only;omega,by dsimp only;omega⟩]
 (try dsimp only)
 rw[show((at_:Int)).toNat=at_ by omega,wTake _ (by rw[Qu];omega),Qa];unfold tr
 (try dsimp only)
 rw[A.gd1 ⟨by omega,by omega⟩];rw[show((at_:Int)+((takeI (bs.drop at_)).2.1:Int))=((at_+(takeI (bs.drop at_)).2.1:Nat):Int) by omega]
def Qie:PA F.aR pI:=λbs at_ h J=>by
 unfold F.aR
 (try dsimp only)
 rw[wRI bs at_ h J,Qa];unfold pI F.w
 (try dsimp only)
 by_cases H:(takeI (bs.drop at_)).2.2≠0;rw[Qc H,Qc H,Qa];rfl;rw[Qb H,Qb H,Qa];rfl
def Qgo:PA F.au pI:=λbs at_ h H=>by
 unfold F.au
 (try dsimp only)
 rw[Qie bs at_ h H,Qa];cases J:pI (bs.drop at_)with
 |inl e=>rfl
 |inr v=>obtain⟨x,k⟩:=v;rfl
def wLen (bs:List UInt8)(at_:Nat)(h:at_<=bs.length)(N:bs.length<=70368744177664):
  F.bc (true,bs,(at_:Int)) 65536=some (match pC (bs.drop at_)with
   | .inl e=>(0,e,(true,bs,(at_:Int)))
   | .inr (n,k)=>(n,0,(true,bs,((at_+k:Nat):Int)))):=by
 unfold F.bc F.b4 F.s;rw[Qa,Qb (by simp),Qa]
 (try dsimp only)
 rw[wRI bs at_ h N,Qa];unfold pC F.ao F.cb F.bx F.s
 (try dsimp only)
 by_cases H:(takeI (bs.drop at_)).2.2≠0;rw[Qc H,Qc H];rw[Qa,Qc (by simp[H]),Qa,Qc H];rw[Qb H,Qb H];by_cases J:(takeI (bs.drop at_)).1<0;rw[Qc J,Qc J,Qa];rfl;rw[Qb J,Qb J];by_cases L:65536<(takeI (bs.drop at_)).1;rw[Qc L,Qc L,Qa];rfl;rw[Qb L,Qb L,Qa,Qb (by simp[H]),Qa,Qb H]
def PA_text:PA F.bs pT:=λbs at_ h V=>by
 unfold F.bs F.cO F.b4 F.s
 (try dsimp only)
 rw[Qa,Qb (by simp),Qa,wLen bs at_ h V,Qa];unfold pT pC;by_cases H:(takeI (bs.drop at_)).2.2≠0
 ·rw[Qc H,Qcd H]
  (try dsimp only)
  rw[Qc H,Qa,Qc H];unfold F.w;rw[Qc H];rfl
 rw[Qb H];by_cases J:(takeI (bs.drop at_)).1<0;rw[Qc J,Qbx H J];rfl;rw[Qb J];by_cases L:65536<(takeI (bs.drop at_)).1;rw[Qc L,Qch H L];rfl;rw[Qb L]
 (try dsimp only)
 have hk:(takeI (bs.drop at_)).2.1<=bs.length-at_:=by
  rcases Qan (bs.drop at_)with⟨_,N,J,_⟩|⟨N,_⟩
  rw[Qu]at J;omega;exact absurd N H
 rw[Qb (by simp),A.gd1 ⟨by omega,by omega⟩];by_cases O:((bs.length:Int)-((at_+(takeI (bs.drop at_)).2.1:Nat):Int))<(takeI (bs.drop at_)).1;rw[Qc O,Qaw H J L (by rw[Qu];omega)];rfl;rw[Qb O,o_aE H J L (by rw[Qu];omega),A.gd1 ⟨⟨by omega,by omega⟩,by omega,by omega⟩,A.gd1 ⟨by omega,by omega,by omega⟩,A.gd1 ⟨by omega,by omega⟩,Qa];unfold F.w;simp only[ne_eq,not_true_eq_false,Wb,Qa,ot];simp only[A.sm];obtain⟨n,W⟩:=Yx (show 0<=(takeI (bs.drop at_)).1 by omega);rw[W,show(((at_+(takeI (bs.drop at_)).2.1:Nat):Int)).toNat=at_+(takeI (bs.drop at_)).2.1 by omega,show(((at_+(takeI (bs.drop at_)).2.1:Nat):Int)+(n:Int)).toNat=(at_+(takeI (bs.drop at_)).2.1)+n by omega];rw[Yy,Nat.add_sub_cancel_left,Xi,show((n:Int)).toNat=n by omega];rw[show(((at_+(takeI (bs.drop at_)).2.1:Nat):Int)+(n:Int))=((at_+((takeI (bs.drop at_)).2.1+n):Nat):Int) by omega]
def PA_rows {α:Type}(c:Nat)(V:c<=1000){f:Rd->Option (Int ⊕ (α×Rd))}{p:Pz α}(W:PA f p)(hp:PF p)(L:(Int×Int×Rd)->Nat->List UInt8->List α->Bool->Int->Int->Option (Int ⊕ (List α×Rd)))
  (O: ∀(n:Int×Int×Rd) m bs acc b at_ y,L n (m+1) bs acc b at_ y=if y<n.1 then(f (b,bs,at_)).bind λr=>A.sm r λx=>A.gd ((acc.length+[x.1].length)*c<=140737488355328) (A.gd (Z.R64 (y+1)) (L n m x.2.2.1 (acc++[x.1]) x.2.1 x.2.2.2 (y+1)))else some (.inr (acc,(b,bs,at_)))):
  ∀(n:Nat) (H:Int×Int×Rd),n<=65536->H.1=(n:Int)->∀(m fu:Nat) (acc:List α) (bs:List UInt8) (at_:Nat),acc.length+m=n->m<fu->at_<=bs.length->bs.length<=70368744177664->
   L H fu bs acc true (at_:Int) (acc.length:Int)=some (ot bs at_ (match pn p m (bs.drop at_)with| .inl e=>.inl e| .inr (xs,k)=>.inr (acc++xs,k))):=by
 intro n H hn hr m;induction m with
 |zero=>
  intro fu acc bs at_ Y J h N;obtain⟨fu,rfl⟩: ∃f',fu=f'+1:=⟨fu-1,by omega⟩;rw[O,Qb (by omega)];simp[pn,pr,ot]
 |succ m ih=>
  intro fu acc bs at_ Y J h N;obtain⟨fu,rfl⟩: ∃f',fu=f'+1:=⟨fu-1,by omega⟩;rw[O,Qc (by omega),W bs at_ h N,Qa];unfold pn pb;cases h1:p (bs.drop at_)with
  |inl e=>rfl
  |inr v=>
   obtain⟨x,k⟩:=v;have hk:=(hp _).2 x k h1;rw[Qu]at hk;have hx:((acc.length+[x].length)*c<=140737488355328):=by
    have:(acc.length+[x].length)*c<=65536*1000:=Nat.mul_le_mul (by simp only[Wo];omega) V;omega
   simp only[ot,A.sm];rw[A.gd1 hx,A.gd1 (A.r64n (by omega))];have:=ih fu (acc++[x]) bs (at_+k) (by simp only[Qe,Wo];omega) (by omega) (by omega) N;rw[show(((acc++[x]).length:Nat):Int)=(acc.length:Int)+1 by simp]at this;rw[this];rw[Xi];cases h3:pn p m (bs.drop (at_+k))with
   |inl e=>rfl
   |inr v2=>obtain⟨xs,j⟩:=v2;simp[ot,pr,Xx]
def PA_L {α:Type}(c:Nat)(O:c<=1000){f:Rd->Option (Int ⊕ (α×Rd))}{p:Pz α}(V:PA f p)(hp:PF p)(L:(Int×Int×Rd)->Nat->List UInt8->List α->Bool->Int->Int->Option (Int ⊕ (List α×Rd)))
  (W: ∀(n:Int×Int×Rd) m bs acc b at_ y,L n (m+1) bs acc b at_ y=if y<n.1 then(f (b,bs,at_)).bind λr=>A.sm r λx=>A.gd ((acc.length+[x.1].length)*c<=140737488355328) (A.gd (Z.R64 (y+1)) (L n m x.2.2.1 (acc++[x.1]) x.2.1 x.2.2.2 (y+1)))else some (.inr (acc,(b,bs,at_))))
  (G:Rd->Option (Int ⊕ (List α×Rd))) (Y: ∀s,G s=(F.br s).bind λH=>(F.w H.2.1).bind λr8=>A.sm r8 λx10=>L H A.FU H.2.2.2.1 [] H.2.2.1 H.2.2.2.2 0):PA G (pL p):=λbs at_ h N=>by
 rw[Y];unfold F.br
 (try dsimp only)
 rw[wLen bs at_ h N,Qa];unfold pL pb;cases J:pC (bs.drop at_)with
 |inl e=>
  have he:=(PF_C _).1 e J
  (try dsimp only)
  rw[Qa];unfold F.w;rw[Qc he];rfl
 |inr v=>
  obtain⟨n,k⟩:=v;have hk:=(PF_C _).2 n k J;have hn:=PQ_C _ _ _ J;rw[Qu]at hk
  (try dsimp only)
  rw[Qa];unfold F.w;simp only[ne_eq,not_true_eq_false,Wb,Qa,A.sm];have:=PA_rows c O V hp L W n.toNat (n,0,(true,bs,((at_+k:Nat):Int))) (by omega) (by dsimp only;omega) n.toNat A.FU [] bs (at_+k) (by simp) (by have:=Qab;omega) (by omega) N;rw[show(([]:List α).length:Int)=0 from rfl]at this;rw[this,Xi];cases pn p n.toNat (bs.drop (at_+k))with
  |inl e=>rfl
  |inr v2=>obtain⟨xs,j⟩:=v2;simp[ot,Xx]
def pFc:Pz Codec.Fn:=pb pI λa=>pb pI λb=>pb pT λc=>pr (a,b,c)
def pNd:Pz Codec.Node:=pb pI λa=>pb pI λb=>pb (pL pI) λc=>pb pFc λd=>pb pT λe=>pb pI λf=>pb pI λg=>pr (a,b,c,d,e,f,g)
def PF_Fc:PF pFc:=Qcl PF_I λ_=>Qcl PF_I λ_=>Qcl PF_T λ_=>PF_pr _
def PF_Nd:PF pNd:=Qcl PF_I λ_=>Qcl PF_I λ_=>Qcl (PF_L PF_I) λ_=>Qcl PF_Fc λ_=>Qcl PF_T λ_=>Qcl PF_I λ_=>Qcl PF_I λ_=>PF_pr _
def PA_cg {α:Type}{f g:Rd->Option (Int ⊕ (α×Rd))}{p:Pz α}(h: ∀s,f s=g s)(H:PA g p):PA f p:=λbs at_ J L=>by rw[h];exact H bs at_ J L
def PA_Fc:PA F.cZ pFc:=Qee Qgo PF_I λa=>Qee Qie PF_I λb=>Qee PA_text PF_T λc=>PA_pr ((a,b,c):Codec.Fn)
def PA_Ti:PA F.av (pL pI):=PA_L 8 (by decide) Qgo PF_I F.l (λn m bs acc b at_ y=>by rw[F.l]) _ (λs=>rfl)
def PA_Nd:PA F.cu pNd:=Qee Qgo PF_I λa=>Qee Qgo PF_I λb=>Qee PA_Ti (PF_L PF_I) λc=>Qee PA_Fc PF_Fc λd=>Qee PA_text PF_T λe=>Qee Qie PF_I λf=>Qee Qgo PF_I λg=>PA_pr ((a,b,c,d,e,f,g):Codec.Node)
def PA_Tn:PA F.e (pL pNd):=PA_L 104 (by decide) PA_Nd PF_Nd F.f (λn m bs acc b at_ y=>by rw[F.f]) _ (λs=>rfl)
abbrev Rr:=List UInt8×Int
def RA {α:Type}(g:Rr->Option (α×Rr))(p:Pz α):Prop:=∀bs,bs.length<=70368744177664->
 (∀e,p bs=.inl e->∃x b,g (bs,0)=some (x,(b,e))/\b.length<=70368744177664)/\(∀x k,p bs=.inr (x,k)->g (bs,0)=some (x,(bs.drop k,0)))/\∀e,e≠0->∃x b,g (bs,e)=some (x,(b,e))/\b.length<=70368744177664
def RA_pr {α:Type}(x:α):RA (λs=>some (x,s)) (pr x):=λbs h=>⟨λe h=>(by cases h),λy k h=>(by cases h;rfl),λe H=>⟨x,bs,rfl,h⟩⟩
def Qec {α β:Type}{g:Rr->Option (α×Rr)}{h:α->Rr->Option (β×Rr)}{p:Pz α}{q:α->Pz β}(hg:RA g p)(hp:PF p)(O: ∀x,RA (h x) (q x)):
  RA (λs=>(g s).bind λr=>h r.1 r.2) (pb p q):=λbs hb=>by
 obtain⟨g1,g2,g3⟩:=hg bs hb;refine⟨λe H=>?_,λy k hk=>?_,λe H=>?_⟩
 ·unfold pb at H
  cases J:p bs with
  |inl V=>
   rw[J]at H;cases H;obtain⟨x,b,W,L⟩:=g1 e J
   (try dsimp only)
   rw[W,Qa];exact(O x b L).2.2 e ((hp bs).1 e J)
  |inr v=>
   obtain⟨x,k⟩:=v;rw[J]at H;dsimp only at H ⊢;rw[g2 x k J,Qa];have Y:(bs.drop k).length<=70368744177664:=by rw[Qu];omega
   cases N:q x (bs.drop k)with
   |inl V=>
    rw[N]at H;cases H;exact(O x _ Y).1 e N
   |inr v2=>obtain⟨y,j⟩:=v2;rw[N]at H;cases H
 unfold pb at hk;cases J:p bs with
 |inl V=>rw[J]at hk;cases hk
 |inr v=>
  obtain⟨x,k1⟩:=v;rw[J]at hk;dsimp only at hk ⊢;rw[g2 x k1 J,Qa];have Y:(bs.drop k1).length<=70368744177664:=by rw[Qu];omega
  cases N:q x (bs.drop k1)with
  |inl V=>rw[N]at hk;cases hk
  |inr v2=>
   obtain⟨y2,j⟩:=v2;rw[N]at hk;cases hk;have:=(O x _ Y).2.1 _ _ N;rw[this,Xi]
 ·obtain⟨x,b,W,L⟩:=g3 e H
  (try dsimp only)
  rw[W,Qa];exact(O x b L).2.2 e H
def Qdu:RA F.aa pI:=λbs L=>by
 have N:F.aa (bs,0)=if(takeI bs).2.2≠0 then some (0,(bs,(takeI bs).2.2))else A.gd (0<=(((takeI bs).2.1:Nat):Int)/\(((takeI bs).2.1:Nat):Int).toNat<=bs.length) (some ((takeI bs).1,(bs.drop (((takeI bs).2.1:Nat):Int).toNat,0))):=by
  unfold F.aa;rw[Qb (by simp)]
  (try dsimp only)
  rw[rTake bs (by omega),Qa];rfl
 refine⟨λe H=>?_,λx k hk=>?_,λe H=>?_⟩;unfold pI at H;by_cases J:(takeI bs).2.2≠0;rw[Qc J]at H;cases H;rw[N,Qc J];exact⟨_,_,rfl,L⟩;rw[Qb J]at H;cases H;have O:=(PF_I bs).2 x k hk;unfold pI at hk;by_cases J:(takeI bs).2.2≠0;rw[Qc J]at hk;cases hk;rw[Qb J]at hk;cases hk;rw[N,Qb J,A.gd1 ⟨by omega,by omega⟩];rfl;unfold F.aa;rw[Qc H];exact⟨_,_,rfl,L⟩
def RA_count:RA F.aw pC:=λbs N=>by
 have V:F.cT bs=some (if(takeI bs).2.2≠0 then(0,0,(takeI bs).2.2)else if(takeI bs).1<0 then(0,0,70)else if 65536<(takeI bs).1 then(0,0,3)else((takeI bs).1,(((takeI bs).2.1:Nat):Int),0)):=by
  unfold F.cT;rw[rTake bs (by omega),Qa];unfold tr
  (try dsimp only)
  split;rfl;split;rfl;split<;>rfl
 refine⟨λe H=>?_,λx k hk=>?_,λe H=>?_⟩
 ·have W:=(PF_C bs).1 e H
  unfold F.aw;rw[Qb (by simp)]
  (try dsimp only)
  rw[V,Qa];unfold pC at H;split at H;cases H;rename_i J;rw[Qc J];dsimp only;rw[Qc J];exact⟨_,_,rfl,N⟩;rename_i J;rw[Qb J];split at H;cases H;rename_i L;rw[Qc L];exact⟨_,_,rfl,N⟩;rename_i L;rw[Qb L];split at H;cases H;rename_i O;rw[Qc O];exact⟨_,_,rfl,N⟩;cases H
 ·have Y:=(PF_C bs).2 x k hk
  unfold F.aw;rw[Qb (by simp)]
  (try dsimp only)
  rw[V,Qa];unfold pC at hk;split at hk;cases hk;rename_i J;rw[Qb J];split at hk;cases hk;rename_i L;rw[Qb L];split at hk;cases hk;rename_i O;rw[Qb O];cases hk
  (try dsimp only)
  rw[Qb (by simp),A.gd1 ⟨by omega,by omega⟩];rfl
 unfold F.aw;rw[Qc H];exact⟨_,_,rfl,N⟩
def RA_text:RA F.aT pT:=λbs V=>by
 have W:F.dj bs=some (tt (takeT bs)):=by
  unfold F.dj;rw[rTake bs (by omega),Qa];unfold tr
  (try dsimp only)
  by_cases H:(takeI bs).2.2≠0;rw[Qc H,Qcd H];rfl;rw[Qb H];by_cases J:(takeI bs).1<0;rw[Qc J,Qbx H J];rfl;rw[Qb J];by_cases N:65536<(takeI bs).1;rw[Qc N,Qch H N];rfl;rw[Qb N];have hk:(takeI bs).2.1<=bs.length:=by
   rcases Qan bs with⟨_,Y,J,_⟩|⟨Y,_⟩
   exact J;exact absurd Y H
  rw[A.gd1 ⟨by omega,by omega⟩];by_cases O:((bs.length:Int)-(takeI bs).2.1)<(takeI bs).1;rw[Qc O,Qaw H J N O];rfl;rw[Qb O,o_aE H J N O,A.gd1 ⟨by omega,by omega⟩,A.gd1 ⟨by omega,by omega,by omega⟩,A.gd1 ⟨by omega,by omega⟩];unfold tt
  (try dsimp only)
  obtain⟨n,hn⟩:=Yx (show 0<=(takeI bs).1 by omega);rw[hn,show(((takeI bs).2.1:Int)).toNat=(takeI bs).2.1 by omega,show(((takeI bs).2.1:Int)+(n:Int)).toNat=(takeI bs).2.1+n by omega];rw[Yy,Nat.add_sub_cancel_left,show((n:Int)).toNat=n by omega,show(((takeI bs).2.1:Int)+(n:Int))=(((takeI bs).2.1+n:Nat):Int) by omega]
 refine⟨λe L=>?_,λx k hk=>?_,λe L=>?_⟩
 ·unfold F.aT
  rw[Qb (by simp)]
  (try dsimp only)
  rw[W,Qa];unfold pT at L;split at L;cases L;rename_i H;unfold tt;dsimp only;rw[Qc H];exact⟨_,_,rfl,V⟩;cases L
 ·have hle:=(PF_T bs).2 x k hk
  unfold F.aT;rw[Qb (by simp)]
  (try dsimp only)
  rw[W,Qa];unfold pT at hk;split at hk;cases hk;rename_i H;cases hk;unfold tt;dsimp only;rw[Qb H,A.gd1 ⟨by omega,by omega⟩];rfl
 unfold F.aT;rw[Qc L];exact⟨_,_,rfl,V⟩
def RA_rows {α:Type}(c:Nat)(hc:c<=1000){g:Rr->Option (α×Rr)}{p:Pz α}(hg:RA g p)(hp:PF p)(L:Nat->List UInt8->List α->Int->Int->Option (List α×Rr))
  (J: ∀m bs acc e y,L (m+1) bs acc e y=if(bif decide ((0:Int)<y)then decide (e=0)else false)=true then(g (bs,e)).bind λx=>A.gd ((acc.length+[x.1].length)*c<=140737488355328) (A.gd (Z.R64 (y-1)) (L m x.2.1 (acc++[x.1]) x.2.2 (y-1)))else some (acc,(bs,e))):
  ∀(m fu:Nat) (acc:List α) (bs:List UInt8),acc.length+m<=65536->m<fu->bs.length<=70368744177664->
   (∀e,pn p m bs=.inl e->∃xs b,L fu bs acc 0 (m:Int)=some (xs,(b,e))/\b.length<=70368744177664)/\∀xs k,pn p m bs=.inr (xs,k)->L fu bs acc 0 (m:Int)=some (acc++xs,(bs.drop k,0)):=by
 have stop: ∀fu bs acc e y,e≠0->L (fu+1) bs acc e y=some (acc,(bs,e)):=λfu bs acc e y H=>by
  rw[J,Qb (by simp[H])]
 intro m;induction m with
 |zero=>
  intro fu acc bs hm N W;obtain⟨fu,rfl⟩: ∃f',fu=f'+1:=⟨fu-1,by omega⟩;refine⟨λe H=>(by cases H),λxs k hk=>?_⟩;cases hk;rw[J,Qb (by simp)];simp
 |succ m ih=>
  intro fu acc bs hm N W;obtain⟨fu,rfl⟩: ∃f',fu=f'+1+1:=⟨fu-2,by omega⟩;have hx: ∀x:α,((acc.length+[x].length)*c<=140737488355328):=λx=>by
   have:(acc.length+[x].length)*c<=65536*1000:=Nat.mul_le_mul (by simp only[Wo];omega) hc;omega
  have go:L (fu+1+1) bs acc 0 ((m+1:Nat):Int)=(g (bs,0)).bind λx=>L (fu+1) x.2.1 (acc++[x.1]) x.2.2 (m:Int):=by
   rw[J,Qc (by rw[Wc (show(0:Int)<((m+1:Nat):Int) by omega)];rfl)];congr 1;funext x;rw[A.gd1 (hx x.1),A.gd1 ⟨by omega,by omega⟩,show(((m+1:Nat):Int)-1)=(m:Int) by omega]
  rw[go];obtain⟨g1,g2,g3⟩:=hg bs W;unfold pn pb;cases O:p bs with
  |inl e1=>
   refine⟨λe H=>?_,λxs k hk=>(by cases hk)⟩;cases H;obtain⟨x,b,e2,V⟩:=g1 e1 O;rw[e2,Qa];exact⟨_,_,stop _ _ _ _ _ ((hp bs).1 _ O),V⟩
  |inr v=>
   obtain⟨x,k0⟩:=v;rw[g2 x k0 O,Qa];have hl:(bs.drop k0).length<=70368744177664:=by rw[Qu];omega
   obtain⟨i1,i2⟩:=ih (fu+1) (acc++[x]) (bs.drop k0) (by simp only[Qe,Wo];omega) (by omega) hl
   (try dsimp only)
   cases Y:pn p m (bs.drop k0)with
   |inl e=>
    refine⟨λe' H=>?_,λxs k hk=>(by cases hk)⟩;cases H;exact i1 e Y
   |inr v2=>
    obtain⟨xs,j⟩:=v2;refine⟨λe' H=>(by cases H),λxs' k hk=>?_⟩;cases hk;rw[i2 xs j Y];simp[Xi]
def RA_L {α:Type}(c:Nat)(hc:c<=1000){g:Rr->Option (α×Rr)}{p:Pz α}(hg:RA g p)(hp:PF p)(L:Nat->List UInt8->List α->Int->Int->Option (List α×Rr))
  (V: ∀m bs acc e y,L (m+1) bs acc e y=if(bif decide ((0:Int)<y)then decide (e=0)else false)=true then(g (bs,e)).bind λx=>A.gd ((acc.length+[x.1].length)*c<=140737488355328) (A.gd (Z.R64 (y-1)) (L m x.2.1 (acc++[x.1]) x.2.2 (y-1)))else some (acc,(bs,e)))
  (G:Rr->Option (List α×Rr)) (W: ∀s,G s=(F.aw s).bind λY=>L A.FU Y.2.1 [] Y.2.2 Y.1):RA G (pL p):=λbs hb=>by
 obtain⟨f,hF⟩: ∃f,A.FU=f+1:=⟨A.FU-1,by have:=Qab;omega⟩;have stop: ∀bs e y,e≠0->L A.FU bs [] e y=some ([],(bs,e)):=λbs e y H=>by
  rw[hF,V,Qb (by simp[H])]
 obtain⟨c1,c2,c3⟩:=RA_count bs hb;refine⟨λe H=>?_,λxs k hk=>?_,λe H=>?_⟩;unfold pL pb at H;rw[W];cases J:pC bs with
 |inl e1=>
  rw[J]at H;cases H;obtain⟨x,b,e2,N⟩:=c1 e J;rw[e2,Qa];exact⟨_,_,stop _ _ _ ((PF_C bs).1 _ J),N⟩
 |inr v=>
  obtain⟨n,k⟩:=v;have hn:=PQ_C _ _ _ J;rw[J]at H;dsimp only at H;rw[c2 n k J,Qa];have hl:(bs.drop k).length<=70368744177664:=by rw[Qu];omega
  have:=RA_rows c hc hg hp L V n.toNat A.FU [] (bs.drop k) (by simp;omega) (by have:=Qab;omega) hl;rw[show((n.toNat:Nat):Int)=n by omega]at this;cases O:pn p n.toNat (bs.drop k)with
  |inl e1=>rw[O]at H;cases H;exact this.1 e O
  |inr v2=>rw[O]at H;cases H
 unfold pL pb at hk;rw[W];cases J:pC bs with
 |inl e1=>rw[J]at hk;cases hk
 |inr v=>
  obtain⟨n,k0⟩:=v;have hn:=PQ_C _ _ _ J;rw[J]at hk;dsimp only at hk;rw[c2 n k0 J,Qa];have hl:(bs.drop k0).length<=70368744177664:=by rw[Qu];omega
  have:=RA_rows c hc hg hp L V n.toNat A.FU [] (bs.drop k0) (by simp;omega) (by have:=Qab;omega) hl;rw[show((n.toNat:Nat):Int)=n by omega]at this;cases O:pn p n.toNat (bs.drop k0)with
  |inl e1=>rw[O]at hk;cases hk
  |inr v2=>
   obtain⟨y,j⟩:=v2;rw[O]at hk;cases hk;rw[this.2 _ _ O,Xi];rfl
 rw[W];obtain⟨x,b,e2,N⟩:=c3 e H;rw[e2,Qa];exact⟨_,_,stop _ _ _ H,N⟩
def RA_Fc:RA F.dy pFc:=Qec Qdu PF_I λa=>Qec Qdu PF_I λb=>Qec RA_text PF_T λc=>RA_pr ((a,b,c):Codec.Fn)
def RA_Is:RA F.c0 (pL pI):=RA_L 8 (by decide) Qdu PF_I F.bd (λm bs acc e y=>by
 rw[F.bd]) _ (λs=>rfl)
def RA_Nn:RA F.cQ (pL pNd):=RA_L 104 (by decide) (Qec Qdu PF_I λa=>Qec Qdu PF_I λb=>Qec RA_Is (PF_L PF_I) λc=>Qec RA_Fc PF_Fc λd=>Qec RA_text PF_T λe=>Qec Qdu PF_I λf=>Qec Qdu PF_I λg=>RA_pr ((a,b,c,d,e,f,g):Codec.Node)) PF_Nd F.aV (λm bs acc e y=>by
 rw[F.aV];simp only[Option.bind_assoc,Qa]) _ (λs=>rfl)
def fin {α:Type}(p:Pz α)(z:α)(bs:List UInt8):α×Int:=match p bs with
 | .inl e=>(z,e)
 | .inr (x,k)=>if k<bs.length then(z,72)else(x,0)
def R_fin {α:Type}{g:Rr->Option (α×Rr)}{p:Pz α}(L:RA g p)(hp:PF p)(z:α)(bs:List UInt8)(N:bs.length<=70368744177664):
  ((g (bs,0)).bind λr=>(F.b7 r.2).bind λy=>if y≠0 then some (z,y)else some (r.1,0))=some (fin p z bs):=by
 obtain⟨O,V,_⟩:=L bs N;unfold fin;cases J:p bs with
 |inl e=>
  obtain⟨x,b,W,_⟩:=O e J;have H:=(hp bs).1 e J;rw[W,Qa]
  (try dsimp only)
  unfold F.b7;rw[Qb (by simp[H]),Qa,Qc H]
 |inr v=>
  obtain⟨x,k⟩:=v;rw[V x k J,Qa]
  (try dsimp only)
  unfold F.b7
  (try dsimp only)
  by_cases hk:k<bs.length;rw[Qc (by rw[Qu];simp;omega),Qa,Qc (by decide),Qc hk];rw[Qb (by rw[Qu];simp;omega),Qa,Qb (by decide),Qb hk]
def P_fin {α:Type}{f:Rd->Option (Int ⊕ (α×Rd))}{p:Pz α}(O:PA f p)(hp:PF p)(z:α)(bs:List UInt8)(V:bs.length<=70368744177664)(R1:Int->α->α->Option α)(H: ∀e x y,R1 e x y=if e≠0 then some x else some y):
  ((F.dP bs).bind λW=>A.om W none λY=>(f Y).bind λr13=>A.se r13 (λe=>(R1 e z z).bind λr=>some (r,e)) λx15=>(F.cj x15.2).bind λr25=>(R1 r25 z x15.1).bind λr=>some (r,r25))=some (fin p z bs):=by
 have e0:F.dP bs=some (some (true,bs,0)):=by
  unfold F.dP F.dU;rw[A.gd1 (by simp;omega),Qa,A.gd1 ⟨by omega,by simp⟩];simp
 rw[e0,Qa];have:=O bs 0 (by omega) V;simp only[A.om];rw[show((true,bs,0):Rd)=(true,bs,((0:Nat):Int))from rfl,this,Qa];unfold fin;rw[Wu];cases L:p bs with
 |inl e=>
  have J:=(hp bs).1 e L;simp only[ot,A.se];rw[H,Qc J];rfl
 |inr v=>
  obtain⟨x,k⟩:=v;have hk:=(hp bs).2 x k L;simp only[ot,A.se];unfold F.cj F.s;rw[Qa,Qb (by simp)]
  (try dsimp only)
  by_cases N:k<bs.length;rw[Qc (by omega),Qc N,Qa,H,Qc (by decide)];rfl;rw[Qb (by omega),Qb N,Qa,H,Qb (by decide)];rfl
def PQ_Nd:PQ pNd λn=>n.2.2.1.length<=65536:=PQ_pb (PQ_t _) λ_ _=>PQ_pb (PQ_t _) λ_ _=>PQ_pb (PQ_L (PQ_t _)) λc H=>PQ_pb (PQ_t _) λ_ _=>PQ_pb (PQ_t _) λ_ _=>PQ_pb (PQ_t _) λ_ _=>PQ_pb (PQ_t _) λ_ _=>PQ_pr H.1
def fin_Q {α:Type}{p:Pz α}{Q:α->Prop}{z:α}(H:Q z)(hp:PQ p Q)(bs:List UInt8):Q (fin p z bs).1:=by
 unfold fin;cases h:p bs with
 |inl e=>exact H
 |inr v=>
  obtain⟨x,k⟩:=v
  (try dsimp only)
  split;exact H;exact hp _ _ _ h
def sameL {α:Type}(xs:List α)(V:xs.length<=65536)(L:Nat->Int->Option Bool)(r:Option Bool)(H: ∀f,L (f+1) (xs.length:Int)=r)
  (J: ∀f (k:Nat) x,xs[k]?=some x->k<xs.length->L (f+1) (k:Int)=L f ((k:Int)+1)):L A.FU 0=r:=
 A.lp xs (λf (_:Unit) y=>L f y) (λ_ _ _=>r) (λ_ _=>True) (λf s _=>H f) (λf s k x N hk _ O=>by rw[J f k x N hk];exact O () trivial) (by have:=Qab;omega) () trivial
def sameNodes (l:List Codec.Node)(L:l.length<=65536)(J: ∀n∈l,n.2.2.1.length<=65536):F.ef l l=some true:=by
 unfold F.ef;rw[Qb (by simp)];exact sameL l L (F.aZ l l) _ (λf=>by rw[F.aZ,Qb (by omega)]) (λf k x H hk=>by
  rw[F.aZ,Qc (by omega),A.ixn H,Qa,Qa];unfold F.dV;rw[Qb (by simp)];unfold F.ds;rw[Qb (by simp)];exact sameL x.2.2.1 (J x (Qg H)) (F.cp (F.aZ l l f) (k:Int) x.2.2.1 x.2.2.1) _ (λf=>by
    rw[F.cp,Qb (by omega),A.gd1 (A.r64n (by omega))]) (λf j y N V=>by
   have O:=J x (Qg H);rw[F.cp,Qc (by omega),A.ixn N,Qa,Qa,Qb (by simp),A.gd1 (A.r64n (by omega))]))
def sumL {α:Type}(ys:List α)(f:α->Nat)(L:Nat->Int->Int->Option Bool)(K:Int->Option Bool)(T:Option Bool->Prop)(hy:ys.length<=300)(H:Int)(hu:0<=H/\H<=1048576)
  (h0: ∀fu u,L (fu+1) u (ys.length:Int)=K u)
  (h1: ∀fu u (k:Nat) x,ys[k]?=some x->k<ys.length->0<=u->u<=1048576->∃v,L (fu+1) u (k:Int)=L fu v ((k:Int)+1)/\u<=v/\v<=1048576/\min (u+min (f x:Int) 1048576) 1048576<=v)
  (hK: ∀u,H<=u->u<=1048576->Codec.seen f ys u->T (K u)):T (L A.FU H 0):=by
 have main: ∀n k fu u,k+n=ys.length->n<fu->H<=u->u<=1048576->Codec.seen f (ys.take k) u->T (L fu u ((k:Nat):Int)):=by
  intro n;induction n with
  |zero=>
   intro k fu u hk W N J V;obtain⟨fu,rfl⟩: ∃f',fu=f'+1:=⟨fu-1,by omega⟩;obtain rfl:k=ys.length:=by omega
   rw[h0];rw[Xv]at V;exact hK u N J V
  |succ n ih=>
   intro k fu u hk W N J V;obtain⟨fu,rfl⟩: ∃f',fu=f'+1:=⟨fu-1,by omega⟩;have O:k<ys.length:=by omega
   have Y:ys[k]?=some ys[k]:=Qf O;obtain⟨v,e,h2,h3,h4⟩:=h1 fu u k _ Y O (by omega) J;rw[e];exact ih (k+1) fu v (by omega) (by omega) (by omega) h3 (Codec.seen_step V Y (by omega) h4)
 have:=main ys.length 0 A.FU H (by omega) (by have:=Qab;omega) (by omega) hu.2 (Codec.seen_nil f H);exact this
def all_of_seen {α:Type}{f:α->Nat}{xs:List α}{u:Int}{c m:Nat}(h:Codec.seen f (xs.take c) u)(H:xs.length<=c)(L:u<=m)(N:m<1048576): ∀a∈xs,f a<=m:=λa J=>by
 rw[Wf H]at h;have:=h (by omega) a J;omega
def tk99 {α:Type}(xs:List α):xs.take ((min (xs.length:Int) 99).toNat)=xs.take 99:=by
 by_cases h:xs.length<=99;rw[show(min (xs.length:Int) 99).toNat=xs.length by omega,Xv,Wf h];rw[show(min (xs.length:Int) 99).toNat=99 by omega]
def Qhx (l:List Codec.Node): ∃b,F.d0 l=some b/\(b=true->l.length<=40/\∀a∈l,sNode a):=by
 unfold F.d0;rw[A.gd1 ⟨by omega,by omega⟩];refine sumL (l.take 99) (λn:Codec.Node=>n.2.2.1.length+n.2.2.2.1.2.2.size+n.2.2.2.2.1.size) (F.b9 l) (λu=>some (bif decide ((l.length:Int)<=40)then decide (u<=5000)else false)) (λo=>∃b,o=some b/\(b=true->l.length<=40/\∀a∈l,sNode a))
  (by rw[Qo];omega) 0 (by omega) (λfu u=>by rw[F.b9,tk99,Qb (by omega)]) (λfu u k x H hk J L=>?_) (λu J L N=>⟨_,rfl,λO=>?_⟩)
 have V:k<99:=by rw[Qo]at hk;omega
 refine⟨_,by rw[F.b9,tk99,Qc (by omega),A.ixn H,Qa,A.gd1 ⟨⟨by omega,by omega⟩,⟨by omega,by omega⟩,by omega,by omega⟩,A.gd1 (A.r64n (by omega))],by omega,by omega,by omega⟩;have:=Qax.1 O;refine⟨by omega,λa W=>?_⟩;have:=all_of_seen (m:=5000) N (by omega) (by omega) (by omega) a W;unfold sNode;omega
def o_bX:F.dZ=some true:=by kernel_rfl
end Go.Proofs.YtpoabedecgeamaaGreatDoor
end
section
namespace Go.Codec
def fr (b:Bytes):Bytes:=encInt (b.length:Int)++b
def frs (l:List Bytes):Bytes:=(l.map fr).flatten
end Go.Codec
end
section
namespace Go.Proofs.YtpoabedecgeamaaGreatDoor
open Go.RowKit Go.Codec
def Qdd (bs:List UInt8)(h:(takeI bs).2.2=0):encInt (takeI bs).1=bs.take (takeI bs).2.1:=by
 have body: ∀n neg bs,(intBody n neg bs).2.2=0->encInt (intBody n neg bs).1=bs.take (intBody n neg bs).2.1:=by
  intro n neg bs h;by_cases H:bs.length<=n;rw[Qat H]at h;simp at h;by_cases L:9223372036854775808<=val ((bs.drop 1).take n);rw[Qcc H L]at h;simp at h;by_cases J:encInt (if neg then-1-(val ((bs.drop 1).take n):Int)else(val ((bs.drop 1).take n):Int))=bs.take (n+1);rw[o_a2 H L rfl J];exact J;rw[Qcw H rfl J]at h;simp at h
 cases bs with
 |nil=>simp[takeI]at h
 |cons b r=>
  have V:=b.toNat_lt;simp only[takeI]at h ⊢;by_cases H:b.toNat<50
  ·rw[Qc H]
   (try dsimp only)
   unfold encInt;rw[Qb (by omega),Qc (by omega),show(50+((b.toNat:Int)-50)).toNat=b.toNat by omega,UInt8.ofNat_toNat];rfl
  rw[Qb H]at h ⊢;by_cases L:b.toNat<100;rw[Qc L]at h;simp at h;rw[Qb L]at h ⊢;by_cases J:b.toNat<=199
  ·rw[Qc J]
   (try dsimp only)
   unfold encInt;rw[Qc (by omega),show 100+((b.toNat:Int)-100).toNat=b.toNat by omega,UInt8.ofNat_toNat];rfl
  rw[Qb J]at h ⊢;by_cases N:215<b.toNat;rw[Qc N]at h;simp at h;rw[Qb N]at h ⊢;by_cases O:207<b.toNat;rw[Qc O]at h ⊢;exact body _ _ _ h;rw[Qb O]at h ⊢;exact body _ _ _ h
def IV {α:Type}(p:Pz α)(E:α->List UInt8):Prop:=∀bs x k,p bs=.inr (x,k)->E x=bs.take k
def IW {β:Type}(p:Pz β)(pre:List UInt8)(E:β->List UInt8):Prop:=∀bs y k,p bs=.inr (y,k)->E y=pre++bs.take k
def IW_pb {α β:Type}{p:Pz α}{q:α->Pz β}{Ea:α->List UInt8}{E:β->List UInt8}{pre:List UInt8}(hp:IV p Ea)(hq: ∀x,IW (q x) (pre++Ea x) E):IW (pb p q) pre E:=λbs y k h=>by
 unfold pb at h;cases H:p bs with
 |inl e=>rw[H]at h;cases h
 |inr v=>
  obtain⟨x,k0⟩:=v;rw[H]at h;dsimp only at h;cases J:q x (bs.drop k0)with
  |inl e=>rw[J]at h;cases h
  |inr L=>
   obtain⟨N,j⟩:=L;rw[J]at h;cases h;rw[hq x _ _ _ J,hp _ _ _ H,Qs,List.take_add]
def IW_pr {β:Type}{y:β}{pre:List UInt8}{E:β->List UInt8}(h:E y=pre):IW (pr y) pre E:=λbs y' k h'=>by
 cases h';rw[h];simp
def IV_of {β:Type}{p:Pz β}{E:β->List UInt8}(h:IW p [] E):IV p E:=λbs y k hk=>by simpa using h bs y k hk
def IV_I:IV pI encInt:=λbs x k h=>by
 unfold pI at h;split at h;cases h;rename_i H;cases h;exact Qdd bs (by simpa using H)
def IV_C:IV pC encInt:=λbs x k h=>by
 unfold pC at h;split at h;cases h;rename_i H;split at h;cases h;split at h;cases h;cases h;exact Qdd bs (by simpa using H)
def IV_T:IV pT encText:=λbs x k h=>by
 unfold pT at h;split at h;cases h;rename_i J;cases h;have H:(takeI bs).2.2=0:=by
  by_cases H:(takeI bs).2.2≠0;rw[Qcd H]at J;exact absurd H (by simpa using J);simpa using H
 by_cases L:(takeI bs).1<0;rw[Qbx (by simp[H]) L]at J;simp at J;by_cases N:65536<(takeI bs).1;rw[Qch (by simp[H]) N]at J;simp at J;by_cases V:((bs.length:Int)-(takeI bs).2.1)<(takeI bs).1;rw[Qaw (by simp[H]) L N V]at J;simp at J;rw[o_aE (by simp[H]) L N V]
 (try dsimp only)
 have hk:(takeI bs).2.1<=bs.length:=by
  rcases Qan bs with⟨_,_,O,_⟩|⟨O,_⟩
  exact O;exact absurd H O
 have W:((bs.drop (takeI bs).2.1).take (takeI bs).1.toNat).length=(takeI bs).1.toNat:=by rw[Qo,Qu];omega
 unfold encText;show encInt ((((bs.drop (takeI bs).2.1).take (takeI bs).1.toNat).toArray.size:Nat):Int)++((bs.drop (takeI bs).2.1).take (takeI bs).1.toNat).toArray.toList=_;rw[Xj,W,show(((takeI bs).1.toNat:Nat):Int)=(takeI bs).1 by omega,Qdd bs H,List.take_add]
def IW_n {α:Type}{p:Pz α}{enc:α->List UInt8}(hp:IV p enc): ∀n pre,IW (pn p n) pre λxs=>pre++xs.flatMap enc
 |0,pre=>IW_pr (by simp)
 |n+1,pre=>IW_pb hp λx=>IW_pb (Ea:=λxs=>xs.flatMap enc) (λbs xs k h=>by simpa using IW_n hp n [] bs xs k h) λxs=>IW_pr (by simp[Qs])
def IV_L {α:Type}{p:Pz α}{enc:α->List UInt8}(hp:IV p enc):IV (pL p) (Qad enc):=λbs xs k h=>by
 unfold pL pb at h;cases H:pC bs with
 |inl e=>rw[H]at h;cases h
 |inr v=>
  obtain⟨n,k0⟩:=v;rw[H]at h;dsimp only at h;have O:=PQ_C _ _ _ H;cases J:pn p n.toNat (bs.drop k0)with
  |inl e=>rw[J]at h;cases h
  |inr L=>
   obtain⟨V,j⟩:=L;rw[J]at h;cases h;have e:=IW_n hp n.toNat [] _ _ _ J;have N:=(PQ_n (PQ_t p) n.toNat _ _ _ J).1;simp only[Q5]at e;unfold Qad;rw[e,N,show((n.toNat:Nat):Int)=n by omega,IV_C _ _ _ H,List.take_add]
def IV_Fc:IV pFc encFn:=IV_of (IW_pb IV_I λa=>IW_pb IV_I λb=>IW_pb IV_T λc=>IW_pr (by simp[encFn]))
def IV_Nd:IV pNd Qae:=IV_of (IW_pb IV_I λa=>IW_pb IV_I λb=>IW_pb (IV_L IV_I) λc=>IW_pb IV_Fc λd=>IW_pb IV_T λe=>IW_pb IV_I λf=>IW_pb IV_I λg=>IW_pr (by simp[Qae]))
def fin_IV {α:Type}{p:Pz α}{E:α->List UInt8}(h:IV p E)(hp:PF p){z:α}{b:List UInt8}(H:(fin p z b).2=0):E (fin p z b).1=b/\∃x k,p b=.inr (x,k)/\(fin p z b).1=x:=by
 unfold fin at H ⊢;cases J:p b with
 |inl e=>
  rw[J]at H;dsimp only at H;exact absurd H ((hp b).1 e J)
 |inr v=>
  obtain⟨x,k⟩:=v;rw[J]at H;dsimp only at H ⊢;have hk:=(hp b).2 x k J;by_cases L:k<b.length;rw[Qc L]at H;simp at H;rw[Qb L];refine⟨?_,x,k,rfl,rfl⟩;rw[h b x k J,Wf (by omega)]
end Go.Proofs.YtpoabedecgeamaaGreatDoor
end
section
namespace Go.Proofs.YtpoabedecgeamaaGreatDoor
open Go.RowKit Go.Graph
def Ins_eq (k:Int):F.dz k=F.dk k:=rfl
def Qei (k:Int):F.dk k=some (insK k):=by
 unfold F.dk insK;simp only[Bool.cond_decide];by_cases J:k<1<;>by_cases L:16<k<;>simp[J,L];by_cases H:k=1;simp[H];by_cases N:k=5<;>by_cases O:k=9<;>simp[H,N,O]
def Qgx (c:UInt8):F.dl c=some (Qao c):=by
 unfold F.dl Qao;by_cases H:(97:Int)<=(c.toNat:Int)<;>by_cases J:(c.toNat:Int)<=122<;>simp[H,J]
def digit_eq (c:UInt8):F.d5 c=some (Qfc c):=by
 unfold F.d5 Qfc;by_cases H:(48:Int)<=(c.toNat:Int)<;>by_cases J:(c.toNat:Int)<=57<;>simp[H,J]
def name_eq (s:ByteArray)(hs:s.size<=5000):F.eg s=some (named s):=by
 have loop:F.bf s A.FU 0=some (Qco s.data.toList):=A.lp0 s.data.toList (λf y=>F.bf s f y) (λ_ l=>some (Qco l))
  (λf=>by rw[F.bf,Qb (by rw[Qdl];omega)];rfl)
  (λf k x L hk N=>by
   have hk':k<s.size:=hk;rw[F.bf,Qc (by omega),A.ixn L,Qa,Qgx,Qa];cases J:Qao x with
   |true=>
    simp only[Xe,Qw,Wb,F.cV];rw[A.gd1 (A.r64n (by omega)),N];simp[Qco,J]
   |false=>
    simp only[X1,W8,A.ixn L,Qa,digit_eq,F.cV];cases O:Qfc x with
    |true=>simp only[Xe,Qw,Wb];rw[A.gd1 (A.r64n (by omega)),N];simp[Qco,J,O]
    |false=>simp[Qco,J,O])
  (by rw[Qdl];have:=Qab;omega)
 unfold F.eg named;by_cases H:s=ByteArray.mk #[];simp[H,F.cq];by_cases V:(16:Int)<(s.size:Int);have h2': ¬(s.size:Int)<=16:=by omega
 simp[H,V,h2',F.cq];have h2':(s.size:Int)<=16:=by omega
 have W:=Qfj H;have Y:A.ix s.data.toList 0=some (Z.bat s 0):=ixb W;simp only[H,V,h2',decide_false,cond_false,Qw,Wb,Y,Qa,Qgx,F.cq,loop,decide_true,ne_eq,not_false_eq_true,Bool.and_true,Xz];cases Qao (Z.bat s 0)<;>simp
def Qfi (s:ByteArray)(i:Nat):(s.get! i)=Z.bat s i:=by
 cases s;simp[ByteArray.get!,Z.bat,getElem!_def,Option.getD];rfl
def dec_at (s:ByteArray)(i:Nat):Utf8.decode s i=Lib.decodeN (s.size-i) (Z.bat s i).toNat (Z.bat s (i+1)).toNat (Z.bat s (i+2)).toNat (Z.bat s (i+3)).toNat:=by
 rw[Lib.decode_at,Qfi,Qfi,Qfi,Qfi]
def dec_lt {s:ByteArray}{i:Nat}(h:(Z.bat s i).toNat <128):Utf8.decode s i=((Z.bat s i).toNat,1):=by
 rw[dec_at];unfold Lib.decodeN;rw[Qc h]
def dec_ge {s:ByteArray}{i:Nat}(h:128<=(Z.bat s i).toNat):128<=(Utf8.decode s i).1:=by
 rw[dec_at];unfold Lib.decodeN;rw[Qb (by omega)];repeat' split
 all_goals first|(simp only[];omega)|decide
def named_eq (s:ByteArray)(hs:s.size<=9223372036854775807):F.b0 s=some (named s):=by
 have loop: ∀(n p f:Nat),s.size-p<=n->n<f->F.aC s f p=some ((if p=0/\0<s.size then Qao (Z.bat s 0)else true)&&Qco (s.data.toList.drop p)&&(decide (s≠ByteArray.mk #[])&&decide ((s.size:Int)<=16))):=by
  intro n;induction n with
  |zero=>
   intro p f hp Y;obtain⟨f,rfl⟩: ∃f',f=f'+1:=⟨f-1,by omega⟩;rw[F.aC,Qb (by omega),Qfa (by omega),Qb (by omega)];by_cases H:s=ByteArray.mk #[]<;>simp[H,Qco]
  |succ n ih=>
   intro p f hp Y;obtain⟨f,rfl⟩: ∃f',f=f'+1:=⟨f-1,by omega⟩;by_cases J:p<s.size;rw[F.aC,Qc J,Qgb J];rcases Yn (Z.bat s p).toNat 128 with W|W
   rw[dec_lt W];have O:=ih (p+1) f (by omega) (by omega);rw[Qb (λh=>by omega)]at O;simp only[O];have e1:(bif decide ((97:Int)<=((Z.bat s p).toNat:Int))then decide (((Z.bat s p).toNat:Int)<=122)else false)=decide ((97:Int)<=((Z.bat s p).toNat:Int)/\((Z.bat s p).toNat:Int)<=122):=by by_cases h:(97:Int)<=((Z.bat s p).toNat:Int)<;>simp[h]
   have e2:(bif decide ((65:Int)<=((Z.bat s p).toNat:Int))then decide (((Z.bat s p).toNat:Int)<=90)else false)=decide ((65:Int)<=((Z.bat s p).toNat:Int)/\((Z.bat s p).toNat:Int)<=90):=by by_cases h:(65:Int)<=((Z.bat s p).toNat:Int)<;>simp[h]
   rw[e1,e2];by_cases L:Qao (Z.bat s p)=true;have hL':=L;simp only[Qao,Qt]at hL';have e3:(if p=0/\0<s.size then Qao (Z.bat s 0)else true)=true:=by split;rename_i h;rw[<-h.1];exact L;rfl
   rw[e3];simp only[Qco,Xo,L,Bool.true_or,Xz];by_cases H:(97:Int)<=((Z.bat s p).toNat:Int)/\((Z.bat s p).toNat:Int)<=122;simp[H];have h2:=hL'.resolve_left H;simp[H,h2];have hL':=L;simp only[Qao,Qt,not_or]at hL';rw[Bool.not_eq_true]at L;simp only[hL'.1,hL'.2,decide_false,Qw,Wb,X1,W8];simp only[Qco,Xo,L,Xn];by_cases V:p=0;subst V;simp[J,L];have h0': ¬(p:Int)=0:=by omega
   simp only[V,h0',decide_false,cond_false,false_and,Wb,Xz];by_cases N:Qfc (Z.bat s p)=true;have hd':=N;simp only[Qfc,Qt]at hd';have a1: ¬((Z.bat s p).toNat:Int)<48:=by omega
   have a2: ¬(57:Int)<((Z.bat s p).toNat:Int):=by omega
   simp[a1,a2,N];have hd':=N;simp only[Qfc,Qt]at hd';rw[Bool.not_eq_true]at N;by_cases a1:((Z.bat s p).toNat:Int)<48;simp[a1,N];have a2:(57:Int)<((Z.bat s p).toNat:Int):=by omega
   simp[a1,a2,N];have N:=dec_ge W;have L:Qao (Z.bat s p)=false:=by unfold Qao;rw[decide_eq_false_iff_not];omega
   have hD:Qfc (Z.bat s p)=false:=by unfold Qfc;rw[decide_eq_false_iff_not];omega
   have b1: ¬((Utf8.decode s p).1:Int)<=122:=by omega
   have b2: ¬((Utf8.decode s p).1:Int)<=90:=by omega
   have b3:(57:Int)<((Utf8.decode s p).1:Int):=by omega
   have b4: ¬((Utf8.decode s p).1:Int)<48:=by omega
   simp[b1,b2,b3,b4,Qco,L,hD];rw[F.aC,Qb J,Qfa J,Qb (by omega)];by_cases H:s=ByteArray.mk #[]<;>simp[H,Qco]
 unfold F.b0;rw[loop s.size 0 A.FU (by omega) (by have:=Qab;omega)];unfold named;by_cases H:s=ByteArray.mk #[];simp[H];have V:=Qfj H;simp only[V,and_self,W8,Wu,ne_eq,H,not_false_eq_true,decide_true,Xz];congr 1;cases Qao (Z.bat s 0)<;>cases Qco s.data.toList<;>simp
def tail_eq (c:UInt8):F.cr c=some (tail5 c):=by
 unfold F.cr tail5;by_cases H:(128:Int)<=(c.toNat:Int)<;>by_cases J:(c.toNat:Int)<=191<;>simp[H,J]
def ixk (s:ByteArray)(p k:Nat):A.ix s.data.toList ((p:Int)+(k:Int))=if p+k<s.size then some (Z.bat s (p+k))else none:=by
 have e:(p:Int)+(k:Int)=((p+k:Nat):Int):=by omega
 rw[e];by_cases h:p+k<s.size;rw[Qc h];exact ixb h;rw[Qb h,A.ix_nat];exact Wn (by rw[Qdl];omega)
def wid (s:ByteArray)(p:Nat):Nat:=if Utf8.decode s p=(65533,1)then 0 else(Utf8.decode s p).2
def wid_le {s:ByteArray}{p:Nat}(h:p<s.size):p+wid s p<=s.size:=by
 unfold wid;split;omega
 ·rw[dec_at]
  unfold Lib.decodeN;repeat' split
  all_goals simp only[]
  all_goals omega
def widN (n a b c d:Nat):Nat:=
 if a<128 then 1
 else if(194<=a/\a<=223)/\2<=n/\(128<=b/\b<=191)then 2
 else if(224<=a/\a<=239)/\3<=n/\(128<=b/\b<=191)/\(128<=c/\c<=191)/\¬(a=224/\b<160)/\¬(a=237/\159<b)then 3
 else if(240<=a/\a<=244)/\4<=n/\(128<=b/\b<=191)/\(128<=c/\c<=191)/\(128<=d/\d<=191)/\¬(a=240/\b<144)/\¬(a=244/\143<b)then 4
 else 0
def pq (c:Prop)[Decidable c](x w:Nat)(H:w≠1):(if(if c then(x,w)else(65533,1))=(65533,1)then 0 else(if c then(x,w)else(65533,1)).2)=if c then w else 0:=by
 by_cases h:c<;>simp[h,H]
def widN_eq (n a b c d:Nat)(O:a<256)(V:b<256)(W:c<256)(Y:d<256):(if Lib.decodeN n a b c d=(65533,1)then 0 else(Lib.decodeN n a b c d).2)=widN n a b c d:=by
 unfold Lib.decodeN widN;by_cases H:a<128;simp only[H,W8,Yq];rw[Qb (by omega)]
 ·simp only[H,Wb]
  by_cases J:a / 32=6/\1<n/\b / 64=2
  ·simp only[Qc J]
   rw[pq _ _ _ (by decide)];repeat' split
   all_goals omega
  ·simp only[Qb J]
   by_cases L:a / 16=14/\(1<n/\b / 64=2)/\2<n/\c / 64=2
   ·simp only[Qc L]
    rw[pq _ _ _ (by decide)];repeat' split
    all_goals omega
   ·simp only[Qb L]
    by_cases N:a / 8=30/\(1<n/\b / 64=2)/\(2<n/\c / 64=2)/\3<n/\d / 64=2
    ·simp only[Qc N]
     rw[pq _ _ _ (by decide)];repeat' split
     all_goals omega
    ·simp only[Qb N,W8]
     repeat' split
     all_goals omega
def wid_N (s:ByteArray)(p:Nat):wid s p=widN (s.size-p) (Z.bat s p).toNat (Z.bat s (p+1)).toNat (Z.bat s (p+2)).toNat (Z.bat s (p+3)).toNat:=by
 rw[<-widN_eq _ _ _ _ _ (UInt8.toNat_lt _) (UInt8.toNat_lt _) (UInt8.toNat_lt _) (UInt8.toNat_lt _),<-dec_at];rfl
def cnd {α:Type}{p:Prop}[Decidable p](x y:α):(bif decide p then x else y)=if p then x else y:=by by_cases h:p<;>simp[h]
set_option maxHeartbeats 4000000 in
def width_eq (s:ByteArray)(p:Nat)(hp:p<s.size)(hs:s.size<=5000):F.dC s p=some (wid s p:Int):=by
 have i1:A.ix s.data.toList ((p:Int)+1)=if p+1<s.size then some (Z.bat s (p+1))else none:=ixk s p 1;have i2:A.ix s.data.toList ((p:Int)+2)=if p+2<s.size then some (Z.bat s (p+2))else none:=ixk s p 2;have i3:A.ix s.data.toList ((p:Int)+3)=if p+3<s.size then some (Z.bat s (p+3))else none:=ixk s p 3;have r1:Z.R64 ((p:Int)+1):=⟨by omega,by omega⟩;have r2:Z.R64 ((p:Int)+2):=⟨by omega,by omega⟩;have r3:Z.R64 ((p:Int)+3):=⟨by omega,by omega⟩;unfold F.dC;rw[A.gd1 ⟨by omega,by omega⟩,ixb hp,Qa,A.gd1 r1,i1,wid_N];generalize Z.bat s p=c0 at*;generalize Z.bat s (p+1)=c1 at*;generalize Z.bat s (p+2)=c2 at*;generalize Z.bat s (p+3)=c3 at*;have t (c:UInt8):tail5 c=decide (128<=c.toNat/\c.toNat<=191):=by unfold tail5;congr 1;exact propext ⟨λh=>by omega,λh=>by omega⟩
 by_cases h1:(1:Int)<(s.size:Int)-(p:Int);rw[Qc h1,Qc (by omega),Qa];simp only[F.cE,F.cD,F.cd,F.bM,tail_eq,Qa,t,A.gd1 r2,A.gd1 r3,i2,i3];unfold widN;generalize hn:s.size-p=n;have e2:((2:Int)<=(s.size:Int)-(p:Int))=(2<=n):=propext ⟨λh=>by omega,λh=>by omega⟩;have e3:((3:Int)<=(s.size:Int)-(p:Int))=(3<=n):=propext ⟨λh=>by omega,λh=>by omega⟩;have e4:((4:Int)<=(s.size:Int)-(p:Int))=(4<=n):=propext ⟨λh=>by omega,λh=>by omega⟩;have f2:(p+2<s.size)=(3<=n):=propext ⟨λh=>by omega,λh=>by omega⟩;have f3:(p+3<s.size)=(4<=n):=propext ⟨λh=>by omega,λh=>by omega⟩;have hn2:2<=n:=by omega
 simp only[e2,e3,e4,f2,f3,A.ba,Qt,hn2,and_true,true_and];have q0:((c0.toNat:Int)<128)=(c0.toNat<128):=propext ⟨λh=>by omega,λh=>by omega⟩;have q1:((194:Int)<=(c0.toNat:Int)/\(c0.toNat:Int)<=223)=(194<=c0.toNat/\c0.toNat<=223):=propext ⟨λh=>by omega,λh=>by omega⟩;have q2:((224:Int)<=(c0.toNat:Int)/\(c0.toNat:Int)<=239)=(224<=c0.toNat/\c0.toNat<=239):=propext ⟨λh=>by omega,λh=>by omega⟩;have q3:((240:Int)<=(c0.toNat:Int)/\(c0.toNat:Int)<=244)=(240<=c0.toNat/\c0.toNat<=244):=propext ⟨λh=>by omega,λh=>by omega⟩;have q4:((c0.toNat:Int)=224/\(c1.toNat:Int)<160)=(c0.toNat=224/\c1.toNat<160):=propext ⟨λh=>by omega,λh=>by omega⟩;have q5:((c0.toNat:Int)=237/\(159:Int)<(c1.toNat:Int))=(c0.toNat=237/\159<c1.toNat):=propext ⟨λh=>by omega,λh=>by omega⟩;have q6:((c0.toNat:Int)=240/\(c1.toNat:Int)<144)=(c0.toNat=240/\c1.toNat<144):=propext ⟨λh=>by omega,λh=>by omega⟩;have q7:((c0.toNat:Int)=244/\(143:Int)<(c1.toNat:Int))=(c0.toNat=244/\143<c1.toNat):=propext ⟨λh=>by omega,λh=>by omega⟩;simp only[q0,q1,q2,q3,q4,q5,q6,q7];have x1:240<=c0.toNat/\c0.toNat<=244->¬(224<=c0.toNat/\c0.toNat<=239):=λh W=>by omega
 have x2:240<=c0.toNat/\c0.toNat<=244->¬(194<=c0.toNat/\c0.toNat<=223):=λh W=>by omega
 have x3:224<=c0.toNat/\c0.toNat<=239->¬(194<=c0.toNat/\c0.toNat<=223):=λh W=>by omega
 by_cases K0:c0.toNat<128;simp[K0];by_cases J:128<=c1.toNat/\c1.toNat<=191;by_cases K1:194<=c0.toNat/\c0.toNat<=223;simp only[Qb K0,Qc K1,Qc J,K1,J,and_self,W8];rfl;by_cases K2:224<=c0.toNat/\c0.toNat<=239;have K3: ¬(240<=c0.toNat/\c0.toNat<=244):=λh=>x1 h K2;by_cases H:3<=n;by_cases L:128<=c2.toNat/\c2.toNat<=191;by_cases N:c0.toNat=224/\c1.toNat<160;simp only[Qb K0,Qb K1,Qc (And.intro K2 H),Qc J,Qc H,Qa,Qc L,eq_true N,W8,false_and,K1,K3,eq_true N,not_true_eq_false,and_false,Wb];rfl;by_cases V:c0.toNat=237/\159<c1.toNat;simp only[Qb K0,Qb K1,Qc (And.intro K2 H),Qc J,Qc H,Qa,Qc L,Qb N,eq_true V,W8,false_and,K1,K3,eq_true V,not_true_eq_false,and_false,Wb];rfl;simp only[Qb K0,Qb K1,Qc (And.intro K2 H),Qc J,Qc H,Qa,Qc L,Qb N,Qb V,false_and,K1,K2,H,J,L,N,V,not_false_eq_true,and_self,W8,Wb];rfl;simp only[Qb K0,Qb K1,Qc (And.intro K2 H),Qc J,Qc H,Qa,Qb L,Qb K3,false_and,K1,K3,L,and_false,Wb,Qw];rfl;simp only[Qb K0,Qb K1,H,and_false,Qb K3,false_and,K1,K3,Wb];rfl;by_cases K3:240<=c0.toNat/\c0.toNat<=244;by_cases O:4<=n;have H:3<=n:=by omega
 by_cases L:128<=c2.toNat/\c2.toNat<=191;by_cases Y:128<=c3.toNat/\c3.toNat<=191;by_cases N:c0.toNat=240/\c1.toNat<144;simp only[Qb K0,Qb K1,Qb K2,K2,false_and,Qc (And.intro K3 O),Qc J,Qc H,Qc O,Qa,Qc L,Qc Y,eq_true N,W8,K1,eq_true N,not_true_eq_false,and_false,Wb];rfl;by_cases V:c0.toNat=244/\143<c1.toNat;simp only[Qb K0,Qb K1,Qb K2,K2,false_and,Qc (And.intro K3 O),Qc J,Qc H,Qc O,Qa,Qc L,Qc Y,Qb N,eq_true V,W8,K1,eq_true V,not_true_eq_false,and_false,Wb];rfl;simp only[Qb K0,Qb K1,Qb K2,K2,false_and,Qc (And.intro K3 O),Qc J,Qc H,Qc O,Qa,Qc L,Qc Y,Qb N,Qb V,K1,K3,O,J,L,Y,N,V,not_false_eq_true,and_self,W8,Wb];rfl;simp only[Qb K0,Qb K1,Qb K2,K2,false_and,Qc (And.intro K3 O),Qc J,Qc H,Qc O,Qa,Qc L,Qb Y,K1,Y,and_false,Wb,Qw];rfl;simp only[Qb K0,Qb K1,Qb K2,K2,false_and,Qc (And.intro K3 O),Qc J,Qc H,Qa,Qb L,K1,L,and_false,Wb,Qw];rfl;simp only[Qb K0,Qb K1,Qb K2,K2,false_and,O,and_false,K1,Wb];rfl;simp only[Qb K0,Qb K1,Qb K2,Qb K3,K1,K2,K3,false_and,Wb];rfl;simp[K0,J];rw[Qb h1];simp only[F.cE,F.cD,F.cd,F.bM,A.ba,Qt];unfold widN;have w0:(c0.toNat:Int)<128↔c0.toNat<128:=⟨λh=>by omega,λh=>by omega⟩;by_cases W:c0.toNat<128;rw[Qc (w0.2 W),Qc W];rfl;have a1: ¬((194<=c0.toNat/\c0.toNat<=223)/\2<=s.size-p/\128<=c1.toNat/\c1.toNat<=191):=λh=>by omega
 have a2: ¬((224<=c0.toNat/\c0.toNat<=239)/\3<=s.size-p/\(128<=c1.toNat/\c1.toNat<=191)/\(128<=c2.toNat/\c2.toNat<=191)/\¬(c0.toNat=224/\c1.toNat<160)/\¬(c0.toNat=237/\159<c1.toNat)):=λh=>by omega
 have a3: ¬((240<=c0.toNat/\c0.toNat<=244)/\4<=s.size-p/\(128<=c1.toNat/\c1.toNat<=191)/\(128<=c2.toNat/\c2.toNat<=191)/\(128<=c3.toNat/\c3.toNat<=191)/\¬(c0.toNat=240/\c1.toNat<144)/\¬(c0.toNat=244/\143<c1.toNat)):=λh=>by omega
 rw[Qb (λh=>W (w0.1 h)),Qb W,Qb a1,Qb a2,Qb a3];simp only[Qw,Wb];rw[Qb (λh=>by omega),Qb (λh=>by omega),Qb (λh=>by omega)];rfl
def vld (s:ByteArray):Nat->Nat->Bool
 |0,_=>true
 |n+1,p=>if p<s.size then(if wid s p=0 then false else vld s n (p+wid s p))else true
def cnt (s:ByteArray):Nat->Nat->Nat
 |0,_=>0
 |n+1,p=>if p<s.size then 1+cnt s n (p+(Utf8.decode s p).2)else 0
def wid_4 (s:ByteArray)(p:Nat):wid s p<=4:=by
 rw[wid_N];unfold widN;repeat' split
 all_goals omega
def wid_dec {s:ByteArray}{p:Nat}(h:wid s p≠0):(Utf8.decode s p).2=wid s p:=by
 unfold wid at h ⊢;split at h;exact absurd rfl h;rename_i H;rw[Qb H]
def Valid_eq (s:ByteArray)(J:s.size<=5000):F.d6 s=some (vld s s.size 0):=by
 have loop: ∀(n p f:Nat),s.size-p<=n->n<f->p<=5010->F.ce s f (p:Int)=some (vld s n p):=by
  intro n;induction n with
  |zero=>
   intro p f hp L _;obtain⟨f,rfl⟩: ∃f',f=f'+1:=⟨f-1,by omega⟩;rw[F.ce,Qb (by omega)];rfl
  |succ n N=>
   intro p f hp L O;obtain⟨f,rfl⟩: ∃f',f=f'+1:=⟨f-1,by omega⟩;rw[F.ce,vld];by_cases h:p<s.size;rw[Qc (by omega),Qc h,width_eq s p h J,Qa];have:=wid_le h;by_cases H:wid s p=0;rw[Qc (by omega),Qc H];rw[Qb (by omega),Qb H,A.gd1 ⟨by omega,by omega⟩];have e:(p:Int)+(wid s p:Int)=((p+wid s p:Nat):Int):=by omega
   rw[e];exact N _ f (by omega) (by omega) (by omega);rw[Qb (by omega),Qb h]
 exact loop s.size 0 A.FU (by omega) (by have:=Qab;omega) (by omega)
def Qdv (s:ByteArray):Lib.validD s.data.toList=vld s s.size 0:=by
 have loop: ∀(n p:Nat),Lib.validGoD n (s.data.toList.drop p)=vld s n p:=by
  intro n;induction n with
  |zero=>intro p;rfl
  |succ n N=>
   intro p;rw[Lib.validGoD,vld];by_cases h:p<s.size;have J:s.data.toList.drop p≠[]:=by rw[Qgb h];simp
   rw[Qb J,Qc h,Lib.decodeL_drop,Xi];by_cases H:Utf8.decode s p=(65533,1);rw[Qc (by rw[H];exact⟨rfl,rfl⟩),Qc (by unfold wid;rw[Qc H])];have e:wid s p=(Utf8.decode s p).2:=by unfold wid;rw[Qb H]
   rw[Qb (λL=>H (Prod.ext L.1 L.2)),Qb (by rw[e];have:=Qgs s p;omega),N,e];rw[Qc (Qfa h),Qb h]
 have:=loop s.size 0;rw[Wu]at this;exact this
def Runes_eq (s:ByteArray)(hs:s.size<=5000)(H:vld s s.size 0=true): ∃l,F.em s=some l/\l.length=cnt s s.size 0:=by
 have loop: ∀(n p f:Nat) (xs:List (Int×Int)),s.size-p<=n->n<f->xs.length<=p->p<=5010->vld s n p=true->∃l,F.ap s f xs (p:Int)=some l/\l.length=xs.length+cnt s n p:=by
  intro n;induction n with
  |zero=>
   intro p f xs hp hf _ _ _;obtain⟨f,rfl⟩: ∃f',f=f'+1:=⟨f-1,by omega⟩;rw[F.ap,Qb (by omega)];exact⟨_,rfl,rfl⟩
  |succ n ih=>
   intro p f xs hp hf hxs hp5 H;obtain⟨f,rfl⟩: ∃f',f=f'+1:=⟨f-1,by omega⟩;rw[F.ap];rw[vld]at H;rw[cnt];by_cases h:p<s.size;rw[Qc h]at H;have hl:=wid_le h;have h4:=wid_4 s p;by_cases N:wid s p=0;rw[Qc N]at H;cases H;rw[Qb N]at H;have J: ∀(w c:Int),w=(wid s p:Int)->∃l,F.bj (F.ap s f) xs (p:Int) w c=some l/\l.length=xs.length+(1+cnt s n (p+(Utf8.decode s p).2)):=λw c O=>by
    subst O;rw[F.bj,A.gd1 (by simp only[Qi,Qm];omega),A.gd1 ⟨by omega,by omega⟩,wid_dec N];have e:(p:Int)+(wid s p:Int)=((p+wid s p:Nat):Int):=by omega
    rw[e];obtain⟨l,V,W⟩:=ih (p+wid s p) f (xs++[((p:Int),c)]) (by omega) (by omega) (by simp only[Qe,Qi,Qm];omega) (by omega) H;exact⟨l,V,by rw[W,Qe];simp only[Qi,Qm];omega⟩
   have L:=ixb (s:=s) h;have Y:A.ix s.data.toList ((p:Int)+1)=if p+1<s.size then some (Z.bat s (p+1))else none:=ixk s p 1;have i2:A.ix s.data.toList ((p:Int)+2)=if p+2<s.size then some (Z.bat s (p+2))else none:=ixk s p 2;have i3:A.ix s.data.toList ((p:Int)+3)=if p+3<s.size then some (Z.bat s (p+3))else none:=ixk s p 3;have r1:Z.R64 ((p:Int)+1):=⟨by omega,by omega⟩;have r2:Z.R64 ((p:Int)+2):=⟨by omega,by omega⟩;have r3:Z.R64 ((p:Int)+3):=⟨by omega,by omega⟩;rw[Qc (by omega),Qc h,width_eq s p h hs,Qa];by_cases w1:wid s p=1;rw[Qc (by omega),L,Qa];exact J _ _ rfl;rw[Qb (by omega)];by_cases w2:wid s p=2;rw[Qc (by omega),A.gd1 r1,L,Qa,A.gd1 (by decide),Y,Qc (by omega),Qa,A.gd1 (by decide)];exact J _ _ rfl;rw[Qb (by omega)];by_cases w3:wid s p=3;rw[Qc (by omega),A.gd1 ⟨r1,r2⟩,L,Qa,A.gd1 (by decide),Y,Qc (by omega),Qa,A.gd1 (by decide),i2,Qc (by omega),Qa,A.gd1 (by decide)];exact J _ _ rfl;rw[Qb (by omega),Qc (by omega),A.gd1 ⟨r1,r2,r3⟩,L,Qa,A.gd1 (by decide),Y,Qc (by omega),Qa,A.gd1 (by decide),i2,Qc (by omega),Qa,A.gd1 (by decide),i3,Qc (by omega),Qa,A.gd1 (by decide)];exact J _ _ rfl;rw[Qb (by omega),Qb h];exact⟨_,rfl,rfl⟩
 obtain⟨l,V,W⟩:=loop s.size 0 A.FU [] (by omega) (by have:=Qab;omega) (by simp) (by omega) H;exact⟨l,V,by simpa using W⟩
def single_eq (s:ByteArray)(L:s.size<=9223372036854775807):F.d2 s=some (if cnt s s.size 0=1 then vld s s.size 0 else false):=by
 have loop: ∀(n p f:Nat) (y:Int),s.size-p<=n->n<f->0<=y->y+n<=9223372036854775807->F.ca s f p y=some (if y+(cnt s n p:Int)=1 then vld s s.size 0 else false):=by
  intro n;induction n with
  |zero=>
   intro p f y hp H _ _;obtain⟨f,rfl⟩: ∃f',f=f'+1:=⟨f-1,by omega⟩;rw[F.ca,Qb (by omega),F.bB,Qdv,Qa];simp only[F.cx];have e:y+(cnt s 0 p:Int)=y:=by rw[cnt];omega
   by_cases h:y=1;rw[Qc h,Qc (by omega)];rw[Qb h,Qb (by omega)]
  |succ n J=>
   intro p f y hp H N O;obtain⟨f,rfl⟩: ∃f',f=f'+1:=⟨f-1,by omega⟩;rw[F.ca,cnt];by_cases h:p<s.size;rw[Qc h,Qc h,A.gd1 ⟨by omega,by omega⟩];have V:=Qgs s p;rw[J _ f (y+1) (by omega) (by omega) (by omega) (by omega)];congr 2;exact propext ⟨λh=>by omega,λh=>by omega⟩;rw[Qb h,Qb h,F.bB,Qdv,Qa];simp only[F.cx];by_cases h:y=1;rw[Qc h,Qc (by omega)];rw[Qb h,Qb (by omega)]
 unfold F.d2;rw[loop s.size 0 A.FU 0 (by omega) (by have:=Qab;omega) (by omega) (by omega)];congr 2;exact propext ⟨λh=>by omega,λh=>by omega⟩
def one_small {s:ByteArray}(H:cnt s s.size 0=1)(J:vld s s.size 0=true):s.size<=4:=by
 generalize O:s.size=n at H J;cases n with
 |zero=>omega
 |succ n=>
  rw[cnt,Qc (by omega)]at H;rw[vld,Qc (by omega)]at J;by_cases L:wid s 0=0;rw[Qc L]at J;cases J;rw[wid_dec L]at H;have:=wid_4 s 0;cases n with
  |zero=>omega
  |succ n=>
   rw[cnt]at H;by_cases N:0+wid s 0<s.size;rw[Qc N]at H;omega;omega
end Go.Proofs.YtpoabedecgeamaaGreatDoor
end
section
end
section
namespace Go.Proofs.YtpoabedecgeamaaGreatDoor
open Go.RowKit Go.Graph
def Qhz (f:Fun):Bool:=if f.1=5 then decide (f.2.2≠ByteArray.mk #[])&&decide ((f.2.2.size:Int)<=16)&&vld f.2.2 f.2.2.size 0 else if f.1=12\/f.1=22 then decide (cnt f.2.2 f.2.2.size 0=1)&&vld f.2.2 f.2.2.size 0 else decide (f.2.2=ByteArray.mk #[])
def Qgl (f:Fun):F.d1 f=some (Qcp f):=by
 unfold F.d1 F.c5 F.c4 Qcp;simp only[A.ba,Qt];by_cases L:f.1=3;simp[L];by_cases H:f.1=13;simp[H];by_cases h6:f.1=6;simp[h6];by_cases J:f.1=11<;>simp[L,H,h6,J]
def Qfx (f:Fun):F.ed f=some (Qcp f):=Qgl f
def text_eq (f:Fun)(N:f.2.2.size<=9223372036854775807):F.ep f=some (Qhz f):=by
 unfold F.ep Qhz;simp only[F.dJ,F.dK,A.ba,single_eq _ N,F.bB,Qdv,Qa,Qt];by_cases L:f.1=5;simp only[L,W8];by_cases O:f.2.2=ByteArray.mk #[]<;>by_cases V:(f.2.2.size:Int)<=16<;>simp[O,V];by_cases H:f.1=12;simp[H];by_cases J:f.1=22<;>simp[L,H,J]
def one_le {s:ByteArray}:(1:Int)<=(s.size:Int)↔s≠ByteArray.mk #[]:=by
 constructor;intro h e;subst e;exact absurd h (by decide);intro h;have:=Qfj h;omega
def Qht (f:Fun)(L:f.2.2.size<=5000):F.eh f=some (Qhz f):=by
 have hj: ∀y,F.cX f y=some (if y=true then decide (cnt f.2.2 f.2.2.size 0=1)&&vld f.2.2 f.2.2.size 0 else decide (f.2.2=ByteArray.mk #[])):=by
  intro y;unfold F.cX;simp only[F.cW,Valid_eq _ L,Qa];cases y with
  |false=>simp
  |true=>
   simp only[W8];by_cases W:(f.2.2.size:Int)<=4;rw[Qc W];cases N:vld f.2.2 f.2.2.size 0 with
   |true=>
    obtain⟨l,H,O⟩:=Runes_eq f.2.2 L N;rw[Qc rfl,H,Qa,Bool.and_true];congr 2;rw[O];exact propext ⟨λh=>by omega,λh=>by omega⟩
   |false=>simp
   rw[Qb W];congr 1;cases N:vld f.2.2 f.2.2.size 0 with
   |false=>simp
   |true=>
    by_cases H:cnt f.2.2 f.2.2.size 0=1;have:=one_small H N;omega;simp[H]
 unfold F.eh Qhz;simp only[F.dt,hj,A.ba,Valid_eq _ L,Qa,Qt,one_le];by_cases Y:f.1=5;simp only[Y,W8];by_cases H:f.2.2=ByteArray.mk #[]<;>by_cases O:(f.2.2.size:Int)<=16<;>simp[H,O];by_cases J:f.1=12;simp[J];by_cases V:f.1=22<;>simp[Y,J,V]
def anyF (f:Fun)(l:List Int):Int:=if l.any (λy=>decide (y=f.1)&&(Qcp f&&Qhz f))=true then 0 else 60
def kinds (k:Int):List Int:=if k=2 then [1,2,3,4,5,6,7,8]else if k=3 then [11,12,13]else if k=4 then [21,22]else if k=8 then [31,32,33,34]else if k=11 then [41,42]else []
def chk (k:Int)(f:Fun):Int:=if kinds k=[]then(if f=(0,0,ByteArray.mk #[])then 0 else 60)else anyF f (kinds k)
def chk_l (f:Fun)(H:f.2.2.size<=9223372036854775807): ∀l,F.be f l=some (anyF f l)
 | []=>rfl
 |y::l=>by
  have J:=chk_l f H l;unfold F.be;simp only[F.cU,Qgl,text_eq _ H,Qa,J,anyF,Xy];by_cases h:y=f.1;subst h;cases L:Qcp f<;>cases N:Qhz f<;>simp;simp[h]
def Qhs (k:Int)(f:Fun)(H:f.2.2.size<=9223372036854775807):F.dO k f=some (chk k f):=by
 have Y:F.bK 1 8=some [1,2,3,4,5,6,7,8]:=by kernel_rfl
 have u3:F.bK 11 13=some [11,12,13]:=by kernel_rfl
 have u4:F.bK 21 22=some [21,22]:=by kernel_rfl
 have u8:F.bK 31 34=some [31,32,33,34]:=by kernel_rfl
 have u11:F.bK 41 42=some [41,42]:=by kernel_rfl
 unfold F.dO F.ev F.eo chk kinds;by_cases N:k=2;simp[N,Y,chk_l f H];by_cases O:k=3;simp[O,u3,chk_l f H];by_cases V:k=4;simp[V,u4,chk_l f H];by_cases W:k=8;simp[W,u8,chk_l f H];by_cases J:k=11;simp[J,u11,chk_l f H];simp only[N,O,V,W,J,Wb,Qa];rw[Qc (by decide),Qc trivial];by_cases L:f=(0,0,ByteArray.mk #[]);rw[Qb (λh=>h L),Qc L];rw[Qc L,Qb L]
def R06_l (f:Fun)(H:f.2.2.size<=5000)(l:List Int)(N:l.length<=100):F.aK f l A.FU 0=some (anyF f l):=
 A.lp0 l (λn y=>F.aK f l n y) (λ_ t=>some (anyF f t))
  (λn=>by rw[F.aK,Qb (by omega)];rfl)
  (λn k x J hk L=>by
   rw[F.aK,Qc (by omega),A.ixn J,Qa];simp only[F.cF,Qfx,Qht _ H,Qa,L,A.gd1 (A.r64n (n:=k) (by omega)),anyF,Xy];by_cases h:x=f.1;subst h;cases O:Qcp f<;>cases V:Qhz f<;>simp;simp[h])
  (by have:=Qab;omega)
def Qhh (k:Int)(f:Fun)(J:f.2.2.size<=5000):F.dD k f=some (chk k f):=by
 have Y:F.cs 2=some [1,2,3,4,5,6,7,8]:=by kernel_rfl
 have u3:F.cs 3=some [11,12,13]:=by kernel_rfl
 have u4:F.cs 4=some [21,22]:=by kernel_rfl
 have u8:F.cs 8=some [31,32,33,34]:=by kernel_rfl
 have u11:F.cs 11=some [41,42]:=by kernel_rfl
 have u0:F.bJ 1 0=some []:=by kernel_rfl
 unfold F.dD chk kinds;by_cases N:k=2;subst N;rw[Y,Qa,Qb (by simp),F.a0,Qb (by simp),R06_l f J _ (by simp)];simp;by_cases O:k=3;subst O;rw[u3,Qa,Qb (by simp),F.a0,Qb (by simp),R06_l f J _ (by simp)];simp;by_cases V:k=4;subst V;rw[u4,Qa,Qb (by simp),F.a0,Qb (by simp),R06_l f J _ (by simp)];simp;by_cases W:k=8;subst W;rw[u8,Qa,Qb (by simp),F.a0,Qb (by simp),R06_l f J _ (by simp)];simp;by_cases H:k=11;subst H;rw[u11,Qa,Qb (by simp),F.a0,Qb (by simp),R06_l f J _ (by simp)];simp;have u:F.cs k=some []:=by unfold F.cs;simp only[N,O,V,W,H,Wb,u0]
 rw[u,Qa,Qc (by simp),F.a0,R06_l f J _ (by simp)];simp only[N,O,V,W,H,Wb,W8,Qt,anyF,List.any_nil,Qw];by_cases L:f=(0,0,ByteArray.mk #[]);rw[Qc L,Qc L];rw[Qb L,Qb L]
end Go.Proofs.YtpoabedecgeamaaGreatDoor
end
section
end
section
namespace Go.Proofs.YtpoabedecgeamaaGreatDoor
open Go.RowKit Go.Graph
def Qac (g:List Nd):List (Int×Nd):=g.map λn=>(n.1,n)
def Inc (g:List Nd):Prop:=g.Pairwise λa b=>a.1<b.1
def Qes (z:Nd)(id:Int): ∀(k:Nat) (l:List Nd),(idxF id k l= -1/\(∀n∈l,n.1≠id)/\Z.mget z (Qac l) id=z/\Z.mhas (Qac l) id=false)\/(∃j n,idxF id k l=((k+j:Nat):Int)/\l[j]?=some n/\n.1=id/\Z.mget z (Qac l) id=n/\Z.mhas (Qac l) id=true)
 |k,[]=>.inl ⟨rfl,by simp,rfl,rfl⟩
 |k,x::r=>by
  unfold idxF Qac;simp only[Q7,Z.mget,Z.mhas];by_cases h:x.1=id;rw[Qc h,Qc h.symm,Qc h.symm];exact .inr ⟨0,x,rfl,rfl,h,rfl,rfl⟩;rw[Qb h,Qb (λe=>h e.symm),Qb (λe=>h e.symm)];rcases Qes z id (k+1) r with⟨H,J,L,N⟩|⟨j,n,H,J,L,N,V⟩
  refine .inl ⟨H,λn O=>?_,L,N⟩;rcases Qn.1 O with rfl|O
  exact h;exact J n O;exact .inr ⟨j+1,n,by rw[H];congr 1;omega,J,L,N,V⟩
def Qbg (z:Nd)(g:List Nd)(id:Int):(idx g id= -1/\(∀n∈g,n.1≠id)/\Z.mget z (Qac g) id=z/\Z.mhas (Qac g) id=false)\/(∃(j:Nat) (n:Nd),idx g id=(j:Int)/\g[j]?=some n/\n.1=id/\Z.mget z (Qac g) id=n/\Z.mhas (Qac g) id=true):=by
 have:=Qes z id 0 g;simp only[W9]at this;exact this
def Inc.lt {g:List Nd}(h:Inc g){i j:Nat}{a b:Nd}(J:g[i]?=some a)(L:g[j]?=some b)(H:i<j):a.1<b.1:=by
 obtain⟨N,rfl⟩:=Qd.1 J;obtain⟨O,rfl⟩:=Qd.1 L;exact List.pairwise_iff_getElem.1 h i j N O H
def Inc.inj {g:List Nd}(h:Inc g){i j:Nat}{a b:Nd}(J:g[i]?=some a)(L:g[j]?=some b)(e:a.1=b.1):i=j:=by
 rcases Nat.lt_trichotomy i j with H|H|H
 have:=h.lt J L H;omega;exact H;have:=h.lt L J H;omega
def Inc.idx {g:List Nd}(h:Inc g){j:Nat}{n:Nd}(J:g[j]?=some n):Graph.idx g n.1=(j:Int):=by
 rcases Qbg z0 g n.1 with⟨_,H,_⟩|⟨i,m,L,H,N,_⟩
 exact absurd rfl (H n (Qg J));rw[L,h.inj H J N]
def Inc.mget {g:List Nd}(h:Inc g){j:Nat}{n z:Nd}(H:g[j]?=some n):Z.mget z (Qac g) n.1=n:=by
 rcases Qbg z g n.1 with⟨_,J,_⟩|⟨i,m,O,J,L,N,_⟩
 exact absurd rfl (J n (Qg H));have:=h.inj J H L;subst this;rw[J]at H;injection H with H;rw[N,H]
def Qbk (g:List Nd)(id:Int)(L:g.length<=100):F.ck g id=some (idx g id):=
 A.lp0 g (λf y=>F.cf g id f y) (λk l=>some (idxF id k l))
  (λf=>by rw[F.cf,Qb (by omega)];rfl)
  (λf k x H hk J=>by
   rw[F.cf,Qc (by omega),A.ixn H,Qa,idxF];by_cases h:x.1=id;rw[Qc h,Qc h];rw[Qb h,Qb h,A.gd1 (A.r64n (by omega)),J])
  (by have:=Qab;omega)
def ownQ (n:Nd):Bool:=if n.1<1\/255<n.1\/insK n.2.1<0\/(n.2.2.1.length:Int)≠insK n.2.1 then false else if ownC n then false else if n.2.1=1\/n.2.1=15 then named n.2.2.2.2.1 else decide (n.2.2.2.2.1=ByteArray.mk #[])
def Qel (k:Int):F.a5 k=some (decide (k=1\/k=15)):=by
 unfold F.a5;rw[A.bo]
def gIns_eq (k:Int):F.dz k=some (insK k):=(Ins_eq k).trans (Qei k)
def own_eq (n:Nd)(W:n.2.2.2.2.1.size<=9223372036854775807):F.dA n=some (ownQ n):=by
 have Y: ∀y,F.cw n y=some (if y=true then false else if ownC n then false else if n.2.1=1\/n.2.1=15 then named n.2.2.2.2.1 else decide (n.2.2.2.2.1=ByteArray.mk #[])):=by
  intro y;unfold F.cw F.cv ownC;cases y with
  |true=>simp
  |false=>
   simp only[Qw,Wb,A.bo,Qt,Qel,Qa,named_eq _ W,A.bn];by_cases J:n.2.1=14;simp only[J,W8,true_and,not_true_eq_false,ne_eq,false_and,or_false,Wb];by_cases H:n.2.2.2.2.2.1<1\/8<n.2.2.2.2.2.1\/n.2.2.2.2.2.2<1\/4<n.2.2.2.2.2.2;have hc':((n.2.2.2.2.2.1<1\/8<n.2.2.2.2.2.1)\/n.2.2.2.2.2.2<1)\/4<n.2.2.2.2.2.2:=by omega
   rw[Qc hc',Qc H];have hc': ¬(((n.2.2.2.2.2.1<1\/8<n.2.2.2.2.2.1)\/n.2.2.2.2.2.2<1)\/4<n.2.2.2.2.2.2):=by omega
   rw[Qb hc',Qb H];simp;simp only[J,Wb,false_and,not_false_eq_true,ne_eq,true_and,false_or,W8];by_cases H: ¬n.2.2.2.2.2.1=0\/¬n.2.2.2.2.2.2=0;rw[Qc H,Qc H];rw[Qb H,Qb H];by_cases L:n.2.1=1\/n.2.1=15;rw[Qc L,Qc L];rw[Qb L,Qb L]
 unfold F.dA ownQ;simp only[gIns_eq,Qa,Y,A.bo,Qt,F.cv];by_cases N:n.1<1\/255<n.1;rw[Qc N,Qc (by omega)];rw[Qb N];by_cases O:insK n.2.1<0;rw[Qc O,Qc trivial,Qc (by omega)];rw[Qb O];by_cases V:(n.2.2.1.length:Int)≠insK n.2.1;rw[Qc V,Qc (by omega)];have hb: ¬(n.1<1\/255<n.1\/insK n.2.1<0\/(n.2.2.1.length:Int)≠insK n.2.1):=by omega
 rw[Qb V,Qb hb]
def twiceF (l:List Nd)(n:Nd):Bool:=l.any λx=>decide (x.2.1=n.2.1)&&decide (x.2.2.2.2.1=n.2.2.2.2.1)
def twice_eq (l:List Nd)(n:Nd)(V:l.length<=100):F.b l n=some (twiceF l n):=by
 have loop:F.a l n A.FU 0=some (if twiceF l n=true then(0:Int)else-1)\/∃i:Nat,F.a l n A.FU 0=some (i:Int)/\twiceF l n=true:=by
  have key: ∀(m k f:Nat),k+m=l.length->m<f->(twiceF (l.drop k) n=true/\∃i:Nat,F.a l n f (k:Int)=some (i:Int))\/(twiceF (l.drop k) n=false/\F.a l n f (k:Int)=some (-1)):=by
   intro m;induction m with
   |zero=>
    intro k f hk N;obtain⟨f,rfl⟩: ∃f',f=f'+1:=⟨f-1,by omega⟩;rw[F.a,Qb (by omega),Wi (by omega)];exact .inr ⟨rfl,rfl⟩
   |succ m O=>
    intro k f hk N;obtain⟨f,rfl⟩: ∃f',f=f'+1:=⟨f-1,by omega⟩;have L:l[k]?=some l[k]:=Qf (by omega);generalize l[k]=x at L;rw[F.a,Qc (by omega),A.ixn L,Qa,F.du,Qa,A.ba,A.dropx L];by_cases h:x.2.1=n.2.1/\x.2.2.2.2.1=n.2.2.2.2.1;left;exact⟨by simp[twiceF,h.1,h.2],k,by rw[Qc (by simpa using h)]⟩;rw[Qb (by simpa using h),A.gd1 (A.r64n (by omega))];have e:twiceF (x::l.drop (k+1)) n=twiceF (l.drop (k+1)) n:=by
     simp only[twiceF,Xy];rw[<-Bool.decide_and,Wk h,Xn]
    rw[e];exact O (k+1) f (by omega) (by omega)
  rcases key l.length 0 A.FU (by omega) (by have:=Qab;omega)with⟨H,i,J⟩|⟨H,J⟩
  rw[Wu]at H;exact .inr ⟨i,J,H⟩;rw[Wu]at H;left;rw[H];exact J
 unfold F.b F.n;rcases loop with h|⟨i,h,J⟩
 rw[show F.a l n A.FU 0=_ from h,Qa];cases twiceF l n<;>simp;rw[show F.a l n A.FU 0=_ from h,Qa,J];simp
def Qfz {κ α:Type}[DecidableEq κ]: ∀{m:List (κ×α)} {k:κ} {x:α},Z.mhas m k=false->Z.mins m k x=m++[(k,x)]
 | [],_,_,_=>rfl
 |(a,y)::r,k,x,h=>by
  simp only[Z.mhas]at h;by_cases hk:k=a;rw[Qc hk]at h;cases h;rw[Qb hk]at h;unfold Z.mins;rw[Qb hk,Qfz h];rfl
def mhas_mapOf {l:List Nd}{k:Int}(h: ∀n∈l,n.1≠k):Z.mhas (Qac l) k=false:=by
 rcases Qbg z0 l k with⟨_,_,_,H⟩|⟨j,n,_,J,H,_⟩
 exact H;exact absurd H (h n (Qg J))
def Qef {α:Type}{l:List α}{k:Nat}{x:α}(h:l[k]?=some x):l.take (k+1)=l.take k++[x]:=by rw[List.take_add_one,h];rfl
def okL (g:List Nd):Nat->Int->List Nd->Bool
 |_,_,[]=>true
 |k,last,n::r=>if n.1<=last\/ownQ n=false\/((n.2.1=1\/n.2.1=15)/\twiceF (g.take k) n=true)then false else okL g (k+1) n.1 r
def whole_l6 (g:List Nd)(hg:g.length<=100)(hf: ∀x,x∈g->x.2.2.2.2.1.size<=9223372036854775807):F.v g A.FU [] 0 0=if okL g 0 0 g=true then F.an g (Qac g) A.FU 0 else some (none,80):=
 A.lp g (λf (s:List (Int×Nd)×Int) y=>F.v g f s.1 s.2 y) (λk l s=>if okL g k s.2 l=true then F.an g (Qac g) A.FU 0 else some (none,80)) (λk s=>s.1=Qac (g.take k)/\∀n∈g.take k,n.1<=s.2)
  (λf s hp=>by
   rw[F.v,Qb (by omega),okL,Qc rfl,hp.1,Wf (Q4 _)])
  (λf s k x O hk hp ih=>by
   obtain⟨hm,L⟩:=hp;have hown:=own_eq x (hf x (Qg O));have hj: ∀y,F.b3 (F.v g f) s.1 s.2 (k:Int) x y=if x.1<=s.2\/ownQ x=false\/y=true then some (none,80)else F.v g f (Z.mins s.1 x.1 x) x.1 ((k:Int)+1):=by
    intro y;rw[F.b3];simp only[F.cA,W8];by_cases N:x.1<=s.2;rw[Qc N,Qc (.inl N)];rw[Qb N,show F.dA x=_ from hown,Qa,A.gd1 (A.r64n (by omega))];cases ownQ x<;>cases y<;>simp[N]
   have hnew: ¬x.1<=s.2->F.v g f (Z.mins s.1 x.1 x) x.1 ((k:Int)+1)=if okL g (k+1) x.1 (g.drop (k+1))=true then F.an g (Qac g) A.FU 0 else some (none,80):=λN=>by
    rw[hm,Qfz (mhas_mapOf λn V e=>by have:=L n V;omega)];refine ih (Qac (g.take k)++[(x.1,x)],x.1) ⟨?_,λn V=>?_⟩;rw[Qef O];simp[Qac];rw[Qef O]at V;rcases Qx.1 V with W|W
    have:=L n W;simp only[];omega;rw[Qk]at W;subst W;exact Y7 _
   rw[F.v,Qc (by omega),A.ixn O,Qa,Qel,Qa,okL];by_cases Y:x.2.1=1\/x.2.1=15;rw[Qc (by simpa using Y),A.gd1 ⟨by omega,by omega⟩,show((k:Int)).toNat=k from Q0 k,
    show F.b (List.take k g) x=_ from twice_eq (g.take k) x (by rw[Qo];omega),Qa,hj]
   by_cases H:x.1<=s.2\/ownQ x=false\/twiceF (g.take k) x=true;have J:x.1<=s.2\/ownQ x=false\/((x.2.1=1\/x.2.1=15)/\twiceF (g.take k) x=true):=by rcases H with h|h|h;exact .inl h;exact .inr (.inl h);exact .inr (.inr ⟨Y,h⟩)
   rw[Qc H,Qc J,Qb Wa];have J: ¬(x.1<=s.2\/ownQ x=false\/((x.2.1=1\/x.2.1=15)/\twiceF (g.take k) x=true)):=λh=>H (by rcases h with h|h|h;exact .inl h;exact .inr (.inl h);exact .inr (.inr h.2));rw[Qb H,Qb J];exact hnew λh=>H (.inl h);rw[Qb (by simpa using Y),hj];by_cases H:x.1<=s.2\/ownQ x=false;have J:x.1<=s.2\/ownQ x=false\/((x.2.1=1\/x.2.1=15)/\twiceF (g.take k) x=true):=by rcases H with h|h;exact .inl h;exact .inr (.inl h)
   rw[Qc (by rcases H with h|h;exact .inl h;exact .inr (.inl h)),Qc J,Qb Wa];have J: ¬(x.1<=s.2\/ownQ x=false\/((x.2.1=1\/x.2.1=15)/\twiceF (g.take k) x=true)):=λh=>H (by rcases h with h|h|h;exact .inl h;exact .inr h;exact absurd h.1 Y);rw[Qb (λh=>H (by rcases h with h|h|h;exact .inl h;exact .inr h;cases h)),Qb J];exact hnew λh=>H (.inl h))
  (by have:=Qab;omega) ([],0) ⟨rfl,by simp⟩
def whole_l5 (g:List Nd)(m:List (Int×Nd))(O:g.length<=100)(J: ∀x,x∈g->x.2.2.2.1.2.2.size<=9223372036854775807):F.an g m A.FU 0=if g.all (λn=>decide (chk n.2.1 n.2.2.2.1=0))=true then F.z g m A.FU 0 else some (none,60):=
 A.lp0 g (λf y=>F.an g m f y) (λ_ l=>if l.all (λn=>decide (chk n.2.1 n.2.2.2.1=0))=true then F.z g m A.FU 0 else some (none,60))
  (λf=>by rw[F.an,Qb (by omega)];rfl)
  (λf k x H hk L=>by
   have h6:chk x.2.1 x.2.2.2.1≠0->chk x.2.1 x.2.2.2.1=60:=by
    intro h;unfold chk anyF at h ⊢;repeat' split
    all_goals first|rfl|(exfalso;simp_all;done)
   rw[F.an,Qc (by omega),A.ixn H,Qa,show F.dO x.2.1 x.2.2.2.1=_ from Qhs x.2.1 x.2.2.2.1 (J x (Qg H)),Qa,Xo];by_cases h:chk x.2.1 x.2.2.2.1=0;rw[Qb (λN=>N h),A.gd1 (A.r64n (by omega)),L,Wc h,Xz];rw[Qc h,Wk h,Y2,Qb (by simp),h6 h])
  (by have:=Qab;omega)
def inOk (g:List Nd)(k:Int):Bool:=if idx g k<0 then false else decide ((at_ g (idx g k)).2.1≠15)
def sortP (g:List Nd)(m:List (Int×Nd)):Option ((Option ((List (Int×Nd))×(List Int)×(List (Int×Int))))×Int):=
 (F.aS (m,[],[]) g).bind λr73=>(if(!r73.1)=true then(some (none,81))else((F.aQ r73.2).bind λr79=>(if(!r79.1)=true then(some (none,80))else((F.bD r79.2 g).bind λr85=>(if r85=true then(some (none,81))else(some (some r79.2,0)))))))
def whole_l4 (g:List Nd)(hg:g.length<=100)(Y: ∀x,x∈g->x.2.2.1.length<=5000):F.z g (Qac g) A.FU 0=if g.all (λn=>n.2.2.1.all (inOk g))=true then sortP g (Qac g)else some (none,80):=
 A.lp0 g (λf y=>F.z g (Qac g) f y) (λ_ l=>if l.all (λn=>n.2.2.1.all (inOk g))=true then sortP g (Qac g)else some (none,80))
  (λf=>by rw[F.z,Qb (by omega)];rfl)
  (λf k x O hk ih=>by
   rw[F.z,Qc (by omega),A.ixn O,Qa];have hlen:=Y x (Qg O);have loop:=A.lp0 x.2.2.1 (λH y=>F.bE (F.z g (Qac g) f) (Qac g) (k:Int) x H y) (λ_ l=>if l.all (inOk g)=true then F.z g (Qac g) f ((k:Int)+1)else some (none,80))
    (λH=>by rw[F.bE,Qb (by omega),A.gd1 (A.r64n (by omega))];rfl)
    (λH j y hy hj2 J=>by
     rw[F.bE,Qc (by omega),A.ixn hy,Qa,A.lt,Xo];rcases Qbg ((0,0,[],(0,0,(ByteArray.mk #[])),(ByteArray.mk #[]),0,0):Nd) g y with⟨V,_,W,L⟩|⟨i,n,V,h2,W,L,h5⟩
     rw[W,L];have:inOk g y=false:=by unfold inOk;rw[Qc (by omega)]
     rw[this];simp;rw[L,h5];have e:inOk g y=decide (n.2.1≠15):=by unfold inOk;rw[Qb (by omega),Qav V h2]
     rw[e,A.gd1 (A.r64n (by omega)),J];by_cases N:n.2.1=15<;>simp[N])
    (by have:=Qab;omega)
   rw[loop,ih,Xo];cases x.2.2.1.all (inOk g)with
   |true=>rw[Qc rfl,Xz]
   |false=>rw[Qb Wa,Y2,Qb Wa])
  (by have:=Qab;omega)
def whole_P (g:List Nd)(J:Few g):F.b1 g=if(32:Int)<(g.length:Int)then some (none,80)else if okL g 0 0 g=true then(if g.all (λn=>decide (chk n.2.1 n.2.2.2.1=0))=true then(if g.all (λn=>n.2.2.1.all (inOk g))=true then sortP g (Qac g)else some (none,80))else some (none,60))else some (none,80):=by
 have L:=J.1;unfold F.b1;rw[whole_l6 g (by omega) (λx H=>Wr (J.2 x H).2.1 (by decide)),whole_l5 g _ (by omega) (λx H=>Wr (J.2 x H).2.2 (by decide)),whole_l4 g (by omega) (λx H=>(J.2 x H).1)]
def Named_eq (g:List Nd)(kd:Int)(s:ByteArray)(O:g.length<=100):F.el g kd s=some (Qbu kd s g):=
 A.lp0 g (λf y=>F.bi g kd s f y) (λ_ l=>some (Qbu kd s l))
  (λf=>by rw[F.bi,Qb (by omega)];rfl)
  (λf k x H hk L=>by
   rw[F.bi,Qc (by omega),A.ixn H,Qa,Qbu];simp only[F.c6,A.ixn H,Qa,A.gd1 (A.r64n (n:=k) (by omega)),L,Qt,kind,name];by_cases J:x.2.1=kd;by_cases N:x.2.2.2.2.1=s<;>simp[J,N];simp[J])
  (by have:=Qab;omega)
def R_own_eq (g:List Nd)(i:Nat)(n:Nd)(Y:g[i]?=some n)(hg:g.length<=100)(hs:n.2.2.2.2.1.size<=5000):F.eq g (i:Int)=some (own g (i:Int) n):=by
 have hi:=(Qd.1 Y).1;have V:F.dm g n=some (ownT g n):=by
  unfold F.dm ownT;simp only[A.ba,Qt,Named_eq g _ _ hg,name_eq _ hs,Qa];by_cases h:n.2.1≠1/\n.2.1≠15;rw[Qc h,Qc h];rw[Qb h,Qb h];cases named n.2.2.2.2.1<;>rfl
 have W: ∀y,F.a6 g n y=some (if y=true then false else if ownC n then false else ownT g n):=by
  intro y;unfold F.a6 ownC;cases y with
  |true=>simp
  |false=>
   simp only[Qw,Wb,A.bo,Qt,V];by_cases O:n.2.1=14;simp only[O,W8,true_and,not_true_eq_false,ne_eq,false_and,or_false];by_cases H:n.2.2.2.2.2.1<1\/8<n.2.2.2.2.2.1\/n.2.2.2.2.2.2<1\/4<n.2.2.2.2.2.2;rw[Qc (by omega),Qc H];rw[Qb (by omega),Qb H];simp only[O,Wb,false_and,not_false_eq_true,ne_eq,true_and,false_or];by_cases H: ¬n.2.2.2.2.2.1=0\/¬n.2.2.2.2.2.2=0;rw[Qc H,Qc H];rw[Qb H,Qb H]
 have tail:(if insK n.2.1<0 then F.a6 g n true else F.a6 g n (decide ((n.2.2.1.length:Int)≠insK n.2.1)))=some (if insK n.2.1<0\/(n.2.2.1.length:Int)≠insK n.2.1 then false else if ownC n then false else ownT g n):=by
  simp only[W,Qt];by_cases J:insK n.2.1<0;rw[Qc J,Qc trivial,Qc (.inl J)];by_cases L:(n.2.2.1.length:Int)≠insK n.2.1;rw[Qb J,Qc L,Qc (.inr L)];have N: ¬(insK n.2.1<0\/(n.2.2.1.length:Int)≠insK n.2.1):=λh=>h.elim J L;rw[Qb J,Qb L,Qb N]
 unfold F.eq own;rw[A.ixn Y,Qa];simp only[Qei,Qa,A.bo,Qt];by_cases J:n.1<1\/255<n.1;rw[Qc J,W,Qc rfl,Qc (by omega)];rw[Qb J];by_cases h0:(0:Int)<(i:Int);rw[Qc h0,A.gd1 ⟨by omega,by omega⟩];have hp:g[i-1]?=some g[i-1]:=Qf (by omega);generalize g[i-1]=q at hp;have e:(i:Int)-1=((i-1:Nat):Int):=by omega
 rw[e,A.ixn hp,Qa,Qav rfl hp];by_cases L:n.1<=q.1;rw[Qc L,W,Qc rfl,Qc (by omega)];rw[Qb L,tail];by_cases N:insK n.2.1<0\/(n.2.2.1.length:Int)≠insK n.2.1;rw[Qc N,Qc (by omega)];have H: ¬(n.1<1\/255<n.1\/(0:Int)<(i:Int)/\n.1<=q.1\/insK n.2.1<0\/(n.2.2.1.length:Int)≠insK n.2.1):=by omega
 rw[Qb N,Qb H];rw[Qb h0,tail];by_cases N:insK n.2.1<0\/(n.2.2.1.length:Int)≠insK n.2.1;rw[Qc N,Qc (by omega)];have H: ¬(n.1<1\/255<n.1\/(0:Int)<(i:Int)/\n.1<=(at_ g ((i:Int)-1)).1\/insK n.2.1<0\/(n.2.2.1.length:Int)≠insK n.2.1):=by omega
 rw[Qb N,Qb H]
def okR (g:List Nd):Nat->List Nd->Bool
 |_,[]=>true
 |k,n::r=>own g (k:Int) n&&okR g (k+1) r
def parts_l5 (g:List Nd)(J:g.length<=100)(L: ∀x,x∈g->x.2.2.2.2.1.size<=5000):F.bN g A.FU 0=if okR g 0 g=true then F.a1 g A.FU 0 else some 80:=
 A.lp0 g (λf y=>F.bN g f y) (λk l=>if okR g k l=true then F.a1 g A.FU 0 else some 80)
  (λf=>by rw[F.bN,Qb (by omega)];rfl)
  (λf k x H hk N=>by
   rw[F.bN,Qc (by omega),R_own_eq g k x H J (L x (Qg H)),Qa,A.gd1 (A.r64n (by omega)),N,okR];cases own g (k:Int) x<;>simp)
  (by have:=Qab;omega)
def parts_l4 (g:List Nd)(O:g.length<=100)(J: ∀x,x∈g->x.2.2.2.1.2.2.size<=5000):F.a1 g A.FU 0=if g.all (λn=>decide (chk n.2.1 n.2.2.2.1=0))=true then F.ai g A.FU 0 else some 60:=
 A.lp0 g (λf y=>F.a1 g f y) (λ_ l=>if l.all (λn=>decide (chk n.2.1 n.2.2.2.1=0))=true then F.ai g A.FU 0 else some 60)
  (λf=>by rw[F.a1,Qb (by omega)];rfl)
  (λf k x H hk L=>by
   rw[F.a1,Qc (by omega),A.ixn H,Qa,Qa,show F.dD x.2.1 x.2.2.2.1=_ from Qhh x.2.1 x.2.2.2.1 (J x (Qg H)),Qa,Xo];by_cases h:chk x.2.1 x.2.2.2.1=0;rw[Qb (λN=>N h),A.gd1 (A.r64n (by omega)),L,Wc h,Xz];rw[Qc h,Wk h,Y2,Qb (by simp)])
  (by have:=Qab;omega)
def idx_get {g:List Nd}{id:Int}(h:0<=idx g id): ∃n,g[(idx g id).toNat]?=some n/\at_ g (idx g id)=n/\n.1=id:=by
 rcases Qbg z0 g id with⟨H,_⟩|⟨i,n,H,J,L,_⟩
 omega;exact⟨n,by rw[H];exact J,Qav H J,L⟩
def parts_l3 (g:List Nd)(V:g.length<=100)(W: ∀x,x∈g->x.2.2.1.length<=5000):F.ai g A.FU 0=if g.all (λn=>n.2.2.1.all (inOk g))=true then some 0 else some 80:=
 A.lp0 g (λf y=>F.ai g f y) (λ_ l=>if l.all (λn=>n.2.2.1.all (inOk g))=true then some 0 else some 80)
  (λf=>by rw[F.ai,Qb (by omega)];rfl)
  (λf k x J hk Y=>by
   rw[F.ai,Qc (by omega)];have hlen:=W x (Qg J);have loop:=A.lp0 x.2.2.1 (λL y=>F.bk (F.ai g f) g (k:Int) L y) (λ_ l=>if l.all (inOk g)=true then F.ai g f ((k:Int)+1)else some 80)
    (λL=>by rw[F.bk,A.ixn J,Qa,Qb (by omega),A.gd1 (A.r64n (by omega))];rfl)
    (λL j y hy hj2 N=>by
     rw[F.bk,A.ixn J,Qa,Qc (by omega),Qa,A.ixn hy,Qa,Qbk g y V,Qa,Xo];simp only[F.c7,W8,Qt,A.gd1 (A.r64n (n:=j) (by omega)),N];by_cases H:idx g y<0;have:inOk g y=false:=by unfold inOk;rw[Qc H]
     rw[Qc H,this];simp;obtain⟨n,h1,h2,_⟩:=idx_get (g:=g) (id:=y) (by omega);have e:inOk g y=decide (n.2.1≠15):=by unfold inOk;rw[Qb H,h2]
     rw[Qb H,A.ixg (by omega) h1,Qa,e];by_cases O:n.2.1=15<;>simp[O])
    (by have:=Qab;omega)
   rw[loop,Y,Xo];cases x.2.2.1.all (inOk g)with
   |true=>rw[Qc rfl,Xz]
   |false=>rw[Qb Wa,Y2,Qb Wa])
  (by have:=Qab;omega)
def lastOf (g:List Nd)(k:Nat):Int:=if k=0 then 0 else(at_ g ((k:Int)-1)).1
def BadP (g:List Nd)(k:Nat)(n:Nd):Prop:=n.1<=lastOf g k\/ownQ n=false\/((n.2.1=1\/n.2.1=15)/\twiceF (g.take k) n=true)
def Qfe {g:List Nd}{k:Nat}{n:Nd}(h:g[k]?=some n):lastOf g (k+1)=n.1:=by
 unfold lastOf;rw[Qb (by omega),Qav (k:=k) (by omega) h]
def Qid (g:List Nd): ∀(m k:Nat),k+m=g.length->(okL g k (lastOf g k) (g.drop k)=true↔∀i n,k<=i->g[i]?=some n->¬BadP g i n)
 |0,k,h=>by
  rw[Wi (by omega),okL];exact⟨λ_ i n N H=>by have:=(Qd.1 H).1;omega,λ_=>rfl⟩
 |m+1,k,h=>by
  have J:g[k]?=some g[k]:=Qf (by omega);generalize g[k]=x at J;have O:=Qid g m (k+1) (by omega);rw[Qfe J]at O;rw[A.dropx J,okL];by_cases L:BadP g k x;have hb':x.1<=lastOf g k\/ownQ x=false\/((x.2.1=1\/x.2.1=15)/\twiceF (g.take k) x=true):=L;rw[Qc hb'];exact⟨λh=>(by cases h),λh=>absurd L (h k x (Q4 _) J)⟩;have hb': ¬(x.1<=lastOf g k\/ownQ x=false\/((x.2.1=1\/x.2.1=15)/\twiceF (g.take k) x=true)):=L;rw[Qb hb',O];refine⟨λh i n N H=>?_,λh i n N H=>h i n (by omega) H⟩;rcases Nat.eq_or_lt_of_le N with rfl|V
  rw[J]at H;injection H with H;subst H;exact L
  exact h i n V H
def Qhr (g:List Nd): ∀(m k:Nat),k+m=g.length->(okR g k (g.drop k)=true↔∀i n,k<=i->g[i]?=some n->own g (i:Int) n=true)
 |0,k,h=>by
  rw[Wi (by omega),okR];exact⟨λ_ i n L H=>by have:=(Qd.1 H).1;omega,λ_=>rfl⟩
 |m+1,k,h=>by
  have J:g[k]?=some g[k]:=Qf (by omega);generalize g[k]=x at J;have N:=Qhr g m (k+1) (by omega);rw[A.dropx J,okR,Qp,N];refine⟨λh i n L H=>?_,λh=>⟨h k x (Q4 _) J,λi n L H=>h i n (by omega) H⟩⟩;rcases Nat.eq_or_lt_of_le L with rfl|O
  rw[J]at H;injection H with H;subst H;exact h.1
  exact h.2 i n O H
def inc_of {g:List Nd}(h: ∀i n,g[i]?=some n->lastOf g i<n.1):Inc g:=by
 unfold Inc;have key: ∀(d i:Nat) (a b:Nd),g[i]?=some a->g[i+d+1]?=some b->a.1<b.1:=by
  intro d;induction d with
  |zero=>intro i a b J H;have:=h _ b H;rw[Qfe J]at this;exact this
  |succ d N=>
   intro i a b J H;have hl:=(Qd.1 H).1;have L:g[i+d+1]?=some g[i+d+1]:=Qf (by omega);have h1:=N i a _ J L;have O:=h _ b H;rw[show i+(d+1)+1=(i+d+1)+1 by omega,Qfe L]at O;omega
 refine List.pairwise_iff_getElem.2 λi j V W Y=>?_;refine key (j-i-1) i _ _ (Qf V) ?_;rw[show i+(j-i-1)+1=j by omega];exact Qf W
def Qcs (kd:Int)(s:ByteArray): ∀(l:List Nd),(∃(j:Nat) (n:Nd),l[j]?=some n/\n.2.1=kd/\n.2.2.2.2.1=s/\(Qbu kd s l)=(n.1,true)/\∀(i:Nat) (m:Nd),i<j->l[i]?=some m->¬(m.2.1=kd/\m.2.2.2.2.1=s))\/(Qbu kd s l=(0,false)/\∀m∈l,¬(m.2.1=kd/\m.2.2.2.2.1=s))
 | []=>.inr ⟨rfl,by simp⟩
 |x::r=>by
  unfold Qbu;by_cases h:x.2.1=kd/\x.2.2.2.2.1=s;rw[Qc h];exact .inl ⟨0,x,rfl,h.1,h.2,rfl,λi m N=>by omega⟩;have h': ¬(kind x=kd/\name x=s):=h;rw[Qb h'];rcases Qcs kd s r with⟨j,n,J,L,O,V,W⟩|⟨J,L⟩
  refine .inl ⟨j+1,n,J,L,O,V,λi m N H=>?_⟩;cases i with
  |zero=>injection H with H;subst H;exact h
  |succ i=>exact W i m (by omega) H
  refine .inr ⟨J,λm H=>?_⟩;rcases Qn.1 H with rfl|H
  exact h;exact L m H
def Qhj {l:List Nd}{n:Nd}:twiceF l n=true↔∃m∈l,m.2.1=n.2.1/\m.2.2.2.2.1=n.2.2.2.2.1:=by
 simp only[twiceF,Y6,Qp,Qt]
def own_iff {g:List Nd}(hi:Inc g){k:Nat}{n:Nd}(V:g[k]?=some n)(Y:lastOf g k<n.1):own g (k:Int) n=true↔¬BadP g k n:=by
 have hname:(n.2.1=1\/n.2.1=15)->((Qbu n.2.1 n.2.2.2.2.1 g).1=n.1↔¬twiceF (g.take k) n=true):=λ_=>by
  rcases Qcs n.2.1 n.2.2.2.2.1 g with⟨j,m,H,L,N,h4,h5⟩|⟨_,L⟩
  rw[h4];have hjk:j<=k:=by
   rcases Yn k j with h|h
   exact absurd ⟨rfl,rfl⟩ (h5 k n h V);exact h
  constructor;intro he O;have:j=k:=hi.inj H V he;subst this;obtain⟨q,hq,h6⟩:=Qhj.1 O;obtain⟨i,J⟩:=Wt.1 hq;rw[Yf]at J;split at J;rename_i W;exact h5 i q W J h6;cases J;intro O;rcases Yn j k with h|h
  exact absurd (Qhj.2 ⟨m,Wt.2 ⟨j,by rw[Yf,Qc h];exact H⟩,L,N⟩) O;obtain rfl:j=k:=by omega
  rw[V]at H;injection H with H;rw[H]
  exact absurd ⟨rfl,rfl⟩ (L n (Qg V))
 have hprev: ¬((0:Int)<(k:Int)/\n.1<=(at_ g ((k:Int)-1)).1):=λh=>by
  unfold lastOf at Y;rw[Qb (by omega)]at Y;omega
 unfold own BadP ownQ;by_cases H:n.1<1\/255<n.1\/insK n.2.1<0\/(n.2.2.1.length:Int)≠insK n.2.1;rw[Qc (by omega),Qc H];exact⟨λh=>(by cases h),λh=>absurd (.inr (.inl rfl)) h⟩;have hc: ¬(n.1<1\/255<n.1\/(0:Int)<(k:Int)/\n.1<=(at_ g ((k:Int)-1)).1\/insK n.2.1<0\/(n.2.2.1.length:Int)≠insK n.2.1):=by omega
 rw[Qb hc,Qb H];by_cases L:ownC n;rw[Qc L,Qc L];exact⟨λh=>(by cases h),λh=>absurd (.inr (.inl rfl)) h⟩;rw[Qb L,Qb L];unfold ownT;by_cases N:n.2.1=1\/n.2.1=15;rw[Qb (by omega),Qc N,Qp,Qt,hname N];constructor;rintro⟨a,b⟩ (h|h|h);omega;rw[a]at h;cases h;exact b h.2;intro h;refine⟨?_,λO=>h (.inr (.inr ⟨N,O⟩))⟩;cases hq:named n.2.2.2.2.1 with
 |true=>rfl
 |false=>exact absurd (.inr (.inl hq)) h
 rw[Qc (by omega),Qb N];constructor;rintro a (h|h|h);omega;rw[a]at h;cases h;exact N h.1;intro h;cases hq:decide (n.2.2.2.2.1=ByteArray.mk #[])with
 |true=>rfl
 |false=>exact absurd (.inr (.inl hq)) h
def own_last {g:List Nd}{k:Nat}{n:Nd}(h:own g (k:Int) n=true):lastOf g k<n.1:=by
 unfold own at h;by_cases H:n.1<1\/255<n.1\/(0:Int)<(k:Int)/\n.1<=(at_ g ((k:Int)-1)).1\/insK n.2.1<0\/(n.2.2.1.length:Int)≠insK n.2.1;rw[Qc H]at h;cases h;unfold lastOf;split<;>omega
def ok_eq (g:List Nd):okL g 0 0 g=okR g 0 g:=by
 have L:=Qid g g.length 0 (by omega);have N:=Qhr g g.length 0 (by omega);rw[Wu]at L N;rw[show lastOf g 0=0 from rfl]at L;rw[Ys,L,N];constructor;intro h i n _ H;have J: ∀i n,g[i]?=some n->lastOf g i<n.1:=λi n H=>by
  have:=h i n (by omega) H;exact Int.lt_of_not_ge λO=>this (.inl O)
 exact(own_iff (inc_of J) H (J i n H)).2 (h i n (by omega) H);intro h i n _ H;have J: ∀i n,g[i]?=some n->lastOf g i<n.1:=λi n H=>own_last (h i n (by omega) H);exact(own_iff (inc_of J) H (J i n H)).1 (h i n (by omega) H)
def ok_inc {g:List Nd}(h:okR g 0 g=true):Inc g:=by
 have H:=Qhr g g.length 0 (by omega);rw[Wu]at H;exact inc_of λi n J=>own_last (H.1 h i n (by omega) J)
def parts_eq (g:List Nd)(J:Few g):F.dE g=if(32:Int)<(g.length:Int)then some 80 else if okR g 0 g=true then(if g.all (λn=>decide (chk n.2.1 n.2.2.2.1=0))=true then(if g.all (λn=>n.2.2.1.all (inOk g))=true then some 0 else some 80)else some 60)else some 80:=by
 have L:=J.1;unfold F.dE;rw[parts_l5 g (by omega) (λx H=>(J.2 x H).2.1),parts_l4 g (by omega) (λx H=>(J.2 x H).2.2),parts_l3 g (by omega) (λx H=>(J.2 x H).1)]
def fed_of {g:List Nd}(h:g.all (λn=>n.2.2.1.all (inOk g))=true):Fed g:=λx J k hk=>by
 have H:=Wv.1 (Wv.1 h x J) k hk;unfold inOk at H;by_cases L:idx g k<0;rw[Qc L]at H;cases H;omega
def bset_len {l:List Bool}{i:Nat}:(l.set i true).length=l.length:=Xl
def bget_get {l:List Bool}{i:Nat}(h:i<l.length):l[i]?=some (bget l (i:Int)):=by
 unfold bget;rw[Q0,Qf h];rfl
def bix {l:List Bool}{i:Int}(H:0<=i)(h:i<l.length):A.ix l i=some (bget l i):=by
 have e:i=((i.toNat:Nat):Int):=by omega
 rw[e];exact A.ixn (bget_get (by omega))
def iix {l:List Int}{i:Int}(H:0<=i)(h:i<l.length):A.ix l i=some (iget l i):=by
 refine A.ixg H ?_;unfold iget;rw[Qf (by omega)];rfl
def ready_eq (g:List Nd)(n:Nd)(done:List Bool)(L:g.length<=100)(W:done.length=g.length)(Y:n.2.2.1.length<=5000)(N: ∀k∈n.2.2.1,0<=idx g k):F.d7 g n done=some (ready g done n):=
 A.lp0 n.2.2.1 (λf y=>F.bl g n done f y) (λk l=>some (Qgy g done n.2.1 l))
  (λf=>by rw[F.bl,Qb (by omega)];rfl)
  (λf k x J hk O=>by
   have V:=N x (Qg J);have h2:=(idx_le g x).2;rw[F.bl,Qc (by omega),Qgy];simp only[F.c8,A.gd1 (A.r64n (n:=k) (by omega)),O];by_cases H:n.2.1=14;simp[H]
   ·rw[Qc H,A.ixn J,Qa,Qbk g x L,Qa,bix V (by omega),Qa]
    cases bget done (idx g x)<;>simp[H])
  (by have:=Qab;omega)
def order_l3 (g:List Nd)(W:Few g)(hfed:Fed g)(L:List Bool->List Int->Option (List Int×Bool))(done:List Bool)(l:List Int)(hd:done.length=g.length)(hl:l.length<=100):
  F.az L g done l A.FU (-1) 0=if Qag g done 0 g (-1)<0 then some ([],false)else L (done.set (Qag g done 0 g (-1)).toNat true) (l++[Qag g done 0 g (-1)]):=
 A.lp g (λf (a:Int) y=>F.az L g done l f a y) (λk t a=>if Qag g done k t a<0 then some ([],false)else L (done.set (Qag g done k t a).toNat true) (l++[Qag g done k t a])) (λk a=> -1<=a/\a<g.length)
  (λf a hp=>by
   rw[F.az,A.ba,Qb (by simp),Qag];by_cases h:a<0;rw[Qc h,Qc h];rw[Qb h,Qb h,bix (by omega) (by omega),Qa,A.gd1 (by simp only[Qi,Qm];omega)])
  (λf a k x N hk hp O=>by
   have hlen:=W.1;rw[F.az,A.ba,Qc (by simp;omega),Qag];simp only[F.cG,F.c9,A.gd1 (A.r64n (n:=k) (by omega)),Qw,Wb];by_cases h:a<0
   ·by_cases H:bget done (k:Int)=true
    ·have e:(if(a<0/\bget done (k:Int)=false)/\ready g done x=true then(k:Int)else a)=a:=Qb (by rw[H];simp)
     rw[e,Qc h,bix (by omega) (by omega),Qa,H];simp only[Xe,Qw,Wb];exact O a hp
    ·rw[Bool.not_eq_true]at H
     have J:F.d7 g x done=some (ready g done x):=ready_eq g x done (by omega) hd (W.in N) (hfed x (Qg N));by_cases V:ready g done x=true
     ·have e:(if(a<0/\bget done (k:Int)=false)/\ready g done x=true then(k:Int)else a)=k:=Qc ⟨⟨h,H⟩,V⟩
      rw[e,Qc h,bix (by omega) (by omega),Qa,H];simp only[X1,W8,A.ixn N,Qa];rw[J,Qa,Qc V];exact O k (by omega)
     ·have e:(if(a<0/\bget done (k:Int)=false)/\ready g done x=true then(k:Int)else a)=a:=Qb (λY=>V Y.2)
      rw[e,Qc h,bix (by omega) (by omega),Qa,H];simp only[X1,W8,A.ixn N,Qa];rw[J,Qa,Qb V];exact O a hp
   ·have e:(if(a<0/\bget done (k:Int)=false)/\ready g done x=true then(k:Int)else a)=a:=Qb (λY=>h Y.1.1)
    rw[e,Qb h];exact O a hp)
  (by have:=Qab;have:=W.1;omega) (-1) (by omega)
def ordR (g:List Nd)(r:Nat)(done:List Bool)(l:List Int):List Int×Bool:=match Qbn g r done l with
 |some l'=>(l',true)
 |none=>([],false)
def order_l4 (g:List Nd)(H:Few g)(hfed:Fed g): ∀(r f:Nat) (done:List Bool) (l:List Int),r<f->l.length+r=g.length->done.length=g.length->F.a2 g f done l=some (ordR g r done l)
 |0,f,done,l,L,N,J=>by
  obtain⟨f,rfl⟩: ∃f',f=f'+1:=⟨f-1,by omega⟩;rw[F.a2,Qb (by omega)];rfl
 |r+1,f,done,l,L,N,J=>by
  obtain⟨f,rfl⟩: ∃f',f=f'+1:=⟨f-1,by omega⟩;have:=H.1;rw[F.a2,Qc (by omega),order_l3 g H hfed _ done l J (by omega),ordR,Qbn];by_cases h:Qag g done 0 g (-1)<0;rw[Qc h,Qc h];rw[Qb h,Qb h,order_l4 g H hfed r f _ _ (by omega) (by simp only[Qe,Qi,Qm];omega) (by rw[bset_len];exact J)];rfl
def R_order_eq (g:List Nd)(H:Few g)(hfed:Fed g):F.da g=some (ordR g g.length (List.replicate g.length false) []):=by
 have:=H.1;unfold F.da;rw[A.gd1 (by omega),order_l4 g H hfed g.length A.FU _ [] (by have:=Qab;omega) (by simp) (by simp)]
def Qdw (m:List (Int×Bool))(n:Nd):Bool:=n.2.2.1.all λk=>Z.mget false m k||decide (n.2.1=14)
def Qfq (m:List (Int×Bool)):List Nd->Option Nd
 | []=>none
 |n::r=>if Z.mget false m n.1=false/\Qdw m n=true then some n else Qfq m r
def sortS (g:List Nd):Nat->List (Int×Bool)->List Int->List Int
 |0,_,xs=>xs
 |r+1,m,xs=>match Qfq m g with
  |some n=>sortS g r (Z.mins m n.1 true) (xs++[n.1])
  |none=>sortS g r m xs
abbrev PlR:=Option (Bool×((List (Int×Nd))×(List Int)×(List (Int×Int))))
def sort_l4 (g:List Nd)(J:Few g)(k29:List Int->List (Int×Bool)->Int->PlR)(xs:List Int)(m:List (Int×Bool))(y:Int)(W:xs.length<=100)(hy:0<=y/\y<=100):
  F.h k29 g xs m y A.FU 0=match Qfq m g with
   |some n=>k29 (xs++[n.1]) (Z.mins m n.1 true) (y+1)
   |none=>k29 xs m (y+1):=
 A.lp0 g (λf i=>F.h k29 g xs m y f i) (λ_ l=>match Qfq m l with
   |some n=>k29 (xs++[n.1]) (Z.mins m n.1 true) (y+1)
   |none=>k29 xs m (y+1))
  (λf=>by rw[F.h,Qb (by omega),F.a8,A.gd1 ⟨by omega,by omega⟩];rfl)
  (λf k x V hk Y=>by
   have hlen:=J.1;have hin:=J.in V;rw[F.h,Qc (by omega),A.ixn V,Qa,A.lt,Qfq];have loop:=A.lp0 x.2.2.1 (λL j=>F.aI k29 (F.h k29 g xs m y f) xs m y (k:Int) x L j) (λ_ l=>if l.all (λk=>Z.mget false m k||decide (x.2.1=14))=true then k29 (xs++[x.1]) (Z.mins m x.1 true) (y+1)else F.h k29 g xs m y f ((k:Int)+1))
    (λL=>by rw[F.aI,Qb (by omega),A.gd1 (by simp only[Qi,Qm];omega),F.a8,A.gd1 ⟨by omega,by omega⟩];rfl)
    (λL j z hz hj N=>by
     rw[F.aI,Qc (by omega),A.ixn hz,Qa,A.lt,A.gd1 (A.r64n (by omega)),N,F.a9,A.gd1 (A.r64n (by omega)),Xo];cases hm:Z.mget false m z<;>by_cases O:x.2.1=14<;>simp[O])
    (by have:=Qab;omega)
   rw[loop,F.a9,A.gd1 (A.r64n (by omega)),Y];cases hm:Z.mget false m x.1 with
   |true=>
    have e: ¬((true:Bool)=false/\Qdw m x=true):=λh=>by cases h.1
    rw[Qc rfl,Qb e]
   |false=>
    rw[Qb Wa];by_cases H:Qdw m x=true;have e:(false:Bool)=false/\Qdw m x=true:=⟨rfl,H⟩;rw[Qc (show(x.2.2.1.all λk=>Z.mget false m k||decide (x.2.1=14))=true from H),Qc e];have e: ¬((false:Bool)=false/\Qdw m x=true):=λh=>H h.2;rw[Qb (show ¬(x.2.2.1.all λk=>Z.mget false m k||decide (x.2.1=14))=true from H),Qb e])
  (by have:=Qab;have:=J.1;omega)
def Qia (g:List Nd)(H:Few g)(a0:(List (Int×Nd))×(List Int)×(List (Int×Int))): ∀(r f:Nat) (m:List (Int×Bool)) (xs:List Int) (y:Nat),r<f->y+r=g.length->xs.length<=y->F.p a0 g f xs m (y:Int)=some (decide (((sortS g r m xs).length:Int)=(g.length:Int)),(a0.1,sortS g r m xs,a0.2.2))
 |0,f,m,xs,y,J,L,N=>by
  obtain⟨f,rfl⟩: ∃f',f=f'+1:=⟨f-1,by omega⟩;rw[F.p,Qb (by omega)];rfl
 |r+1,f,m,xs,y,J,L,N=>by
  obtain⟨f,rfl⟩: ∃f',f=f'+1:=⟨f-1,by omega⟩;have:=H.1;rw[F.p,Qc (by omega),sort_l4 g H _ xs m y (by omega) (by omega),sortS];have e:(y:Int)+1=((y+1:Nat):Int):=by omega
  cases Qfq m g with
  |none=>simp only[];rw[e,Qia g H a0 r f m xs (y+1) (by omega) (by omega) (by omega)]
  |some n=>simp only[];rw[e,Qia g H a0 r f _ _ (y+1) (by omega) (by omega) (by simp only[Qe,Qi,Qm];omega)]
def sort_eq (g:List Nd)(H:Few g)(m:List (Int×Nd)):F.aS (m,[],[]) g=some (decide (((sortS g g.length [] []).length:Int)=(g.length:Int)),(m,sortS g g.length [] [],[])):=by
 unfold F.aS;exact Qia g H (m,[],[]) g.length A.FU [] [] 0 (by have:=Qab;have:=H.1;omega) (by omega) (by simp)
def Rel (g:List Nd)(done:List Bool)(m:List (Int×Bool)):Prop:=∀(i:Nat) (n:Nd),g[i]?=some n->Z.mget false m n.1=bget done (i:Int)
def ready_rel {g:List Nd}{done:List Bool}{m:List (Int×Bool)}(h:Rel g done m){n:Nd}(H: ∀k∈n.2.2.1,0<=idx g k):Qdw m n=ready g done n:=by
 unfold Qdw ready;generalize n.2.2.1=l at H;induction l with
 |nil=>rfl
 |cons k r O=>
  rw[Xo,O λx V=>H x (Qh _ V),Qgy];have L:=H k (Ql ..);obtain⟨q,W,h2,Y⟩:=idx_get L;have N:=h _ q W;rw[Y,Q8 L]at N;rw[N];cases bget done (idx g k)<;>by_cases J:n.2.1=14<;>simp[J]
def Qeb (g:List Nd)(done:List Bool): ∀(k:Nat) (l:List Nd) (a:Int),0<=a->Qag g done k l a=a
 |_,[],_,_=>rfl
 |k,x::r,a,h=>by
  unfold Qag;rw[Qb (λH=>by omega)];exact Qeb g done (k+1) r a h
def Qey {g:List Nd}{done:List Bool}{m:List (Int×Bool)}(h:Rel g done m)(L:Fed g): ∀(r k:Nat),k+r=g.length->(Qag g done k (g.drop k) (-1)= -1/\Qfq m (g.drop k)=none)\/(∃(i:Nat) (n:Nd),Qag g done k (g.drop k) (-1)=(i:Int)/\g[i]?=some n/\Qfq m (g.drop k)=some n/\bget done (i:Int)=false)
 |0,k,hk=>by
  rw[Wi (by omega)];exact .inl ⟨rfl,rfl⟩
 |r+1,k,hk=>by
  have J:g[k]?=some g[k]:=Qf (by omega);generalize g[k]=x at J;rw[A.dropx J,Qag,Qfq,h k x J,ready_rel h (L x (Qg J))];by_cases H:bget done (k:Int)=false/\ready g done x=true;rw[Qc H,Qc ⟨⟨by omega,H.1⟩,H.2⟩,Qeb _ _ _ _ _ (by omega)];exact .inr ⟨k,x,rfl,J,rfl,H.1⟩;rw[Qb H,Qb (λN=>H ⟨N.1.2,N.2⟩)];exact Qey h L r (k+1) (by omega)
def idAt (g:List Nd)(i:Int):Int:=(at_ g i).1
def rel_set {g:List Nd}(L:Inc g){done:List Bool}{m:List (Int×Bool)}(h:Rel g done m)(O:done.length=g.length){i:Nat}{n:Nd}(H:g[i]?=some n):Rel g (done.set i true) (Z.mins m n.1 true):=λj q hq=>by
 rw[Uy];have V:=(Qd.1 H).1;by_cases e:q.1=n.1;have:=L.inj hq H e;subst this;rw[Qc e];unfold bget;rw[Q0,Yh (by omega)];rfl;rw[Qb e,h j q hq];have J:i≠j:=λN=>e (by subst N;rw[H]at hq;injection hq with hq;rw[hq]);unfold bget;rw[Q0,List.getElem?_set_ne J]
def Qek {g:List Nd}(N:Inc g)(O:Fed g): ∀(r:Nat) (done:List Bool) (m:List (Int×Bool)) (l:List Int),Rel g done m->done.length=g.length->(∃l',Qbn g r done l=some l'/\sortS g r m (l.map (idAt g))=l'.map (idAt g)/\l'.length=l.length+r)\/(Qbn g r done l=none/\(sortS g r m (l.map (idAt g))).length <l.length+r)
 |0,done,m,l,_,_=>.inl ⟨l,rfl,rfl,rfl⟩
 |r+1,done,m,l,h,V=>by
  rw[Qbn,sortS];rcases Qey h O g.length 0 (by omega)with⟨J,H⟩|⟨i,n,J,H,W,h4⟩
  rw[Wu]at J H;rw[J,Qc (by omega),H];refine .inr ⟨rfl,?_⟩;simp only[];have stay: ∀(r:Nat) (xs:List Int),sortS g r m xs=xs:=by
   intro r;induction r with
   |zero=>intro xs;rfl
   |succ r Y=>intro xs;rw[sortS,H];exact Y xs
  rw[stay,Wd];omega
  ·rw[Wu]at J W
   rw[J,Qb (by omega),W,Q0];simp only[];have e:l.map (idAt g)++[n.1]=(l++[(i:Int)]).map (idAt g):=by
    rw[X5];simp only[Q7,Xh,idAt,Qav rfl H]
   rw[e];rcases Qek N O r (done.set i true) (Z.mins m n.1 true) (l++[(i:Int)]) (rel_set N h V H) (by rw[bset_len];exact V)with⟨l',L,h6,h7⟩|⟨L,h6⟩
   exact .inl ⟨l',L,h6,by rw[h7];simp only[Qe,Qi,Qm];omega⟩;exact .inr ⟨L,by simp only[Qe,Qi,Qm]at h6;omega⟩
def rel_0 (g:List Nd):Rel g (List.replicate g.length false) []:=λi n H=>by
 unfold bget;rw[Q0,X2];split<;>rfl
def order_sort {g:List Nd}(L:Few g)(V:Inc g)(N:Fed g)(m:List (Int×Nd)):(∃l,F.da g=some (l,true)/\F.aS (m,[],[]) g=some (true,(m,l.map (idAt g),[]))/\l.length=g.length/\Qbn g g.length (List.replicate g.length false) []=some l)\/(F.da g=some ([],false)/\∃p,F.aS (m,[],[]) g=some (false,p)):=by
 rw[R_order_eq g L N,sort_eq g L m,ordR];rcases Qek V N g.length (List.replicate g.length false) [] [] (rel_0 g) (by simp)with⟨l,J,H,O⟩|⟨J,H⟩
 rw[Xh]at H;rw[J,H];left;refine⟨l,rfl,?_,by simpa using O,rfl⟩;rw[Wd,Wc (by simp at O;omega)];rw[Xh]at H;rw[J];right;refine⟨rfl,(m,sortS g g.length [] [],[]),?_⟩;rw[Wk (by simp at H;omega)]
end Go.Proofs.YtpoabedecgeamaaGreatDoor
end
section
namespace Go.A
def mrg_any {α β:Type}[DecidableEq β]{body:α->Option (Option β)}{rest:Option β}{y:β}{p:α->Bool}: ∀{l:List α},(∀x∈l,body x=if p x=true then some (some y)else some none)->mrg body rest l=if l.any p=true then some y else rest
 | [],_=>rfl
 |x::l,h=>by
  have L:=h x (Ql ..);have N:=mrg_any (rest:=rest) (l:=l) λz H=>h z (Qh _ H);unfold mrg;rw[L,Xy];cases hp:p x with
  |true=>
   simp only[Qa,W8,Bool.true_or];rw[Qc];rw[Wv];intro z H;have J:=h z (Qh _ H);refine Wc ?_;rw[J];cases p z<;>simp
  |false=>
   simp only[Qa,Qw,Wb,Xn];exact N
end Go.A
namespace Go.Proofs.YtpoabedecgeamaaGreatDoor
open Go.RowKit Go.Graph
def R_depth_eq (n:Nd)(l:List Int)(h5:n.2.1=5\/n.2.1=9->2<=l.length)(hb: -1<=d0 l/\d0 l<=4):F.dF n l=some (depthOf n l):=by
 have N:F.cJ n l (d0 l)=some (depthOf n l):=by
  unfold F.cJ depthOf Qgw;have O: ∀y,F.aA y=some (capd y):=λy=>by unfold F.aA F.db capd;split<;>rfl
  have V: ∀y,(y=true↔n.2.1=5\/n.2.1=9)->F.cI n l (d0 l) y=some (capd (if n.2.1=5\/n.2.1=9 then(if iget l 0≠iget l 1 then-1 else d0 l)else if n.2.1=11\/n.2.1=16\/n.2.1=15 then(if d0 l≠0 then-1 else d0 l)else d0 l)):=λy hy=>by
   unfold F.cI F.cH;simp only[O,Qt];by_cases h:n.2.1=5\/n.2.1=9;have:=h5 h;rw[Qc (hy.2 h),Qc h,iix (i:=0) (by omega) (by omega),Qa,iix (i:=1) (by omega) (by omega),Qa];by_cases e:iget l 0=iget l 1;rw[Qb (λh=>h e),Qb (λh=>h e)];rw[Qc e,Qc e];rw[Qb (λh2=>h (hy.1 h2)),Qb h];by_cases W:n.2.1=11;simp only[W,W8,true_or];split<;>rfl;by_cases Y:n.2.1=16;simp only[Y,W8,true_or,or_true,Wb,Int.reduceEq];split<;>rfl;by_cases h15:n.2.1=15;simp only[h15,W8,or_true,Wb,Int.reduceEq];split<;>rfl;simp only[W,Y,h15,Wb,or_self]
  simp only[O];by_cases H:n.2.1=14;rw[Qc H,Qc H];rw[Qb H,Qb H];by_cases J:n.2.1=12;rw[Qc J,Qc J,A.gd1 ⟨by omega,by omega⟩];rw[Qb J,Qb J];by_cases L:n.2.1=13;rw[Qc L,Qc L,A.gd1 ⟨by omega,by omega⟩];rw[Qb L,Qb L];by_cases h5':n.2.1=5;rw[Qc h5',V _ (by simp[h5'])];rw[Qb h5',V _ (by simp[h5'])]
 unfold F.dF;by_cases h:(0:Int)<(l.length:Int);rw[Qc h,iix (i:=0) (by omega) (by omega),Qa,d0_iget];exact N;rw[Qb h,d0_nil (l:=l) (by omega)];exact N
def Own (g:List Nd):Prop:=∀n,n∈g->ownQ n=true
def own_ins {n:Nd}(h:ownQ n=true):0<=insK n.2.1/\(n.2.2.1.length:Int)=insK n.2.1:=by
 unfold ownQ at h;by_cases H:n.1<1\/255<n.1\/insK n.2.1<0\/(n.2.2.1.length:Int)≠insK n.2.1;rw[Qc H]at h;cases h;omega
def own_id {n:Nd}(h:ownQ n=true):1<=n.1/\n.1<=255:=by
 unfold ownQ at h;by_cases H:n.1<1\/255<n.1\/insK n.2.1<0\/(n.2.2.1.length:Int)≠insK n.2.1;rw[Qc H]at h;cases h;omega
def own_D {n:Nd}(h:ownQ n=true):(n.2.1=14->1<=n.2.2.2.2.2.2/\n.2.2.2.2.2.2<=4)/\(n.2.1≠14->n.2.2.2.2.2.2=0):=by
 unfold ownQ at h;by_cases H:n.1<1\/255<n.1\/insK n.2.1<0\/(n.2.2.1.length:Int)≠insK n.2.1;rw[Qc H]at h;cases h;rw[Qb H]at h;by_cases J:ownC n;rw[Qc J]at h;cases h;unfold ownC at J;omega
def insK_cases (k:Int)(h:0<=insK k):(k=1/\insK k=0)\/((k=5\/k=9)/\insK k=2)\/(k≠1/\k≠5/\k≠9/\insK k=1):=by
 unfold insK at h ⊢;by_cases H:k<1\/16<k;rw[Qc H]at h;omega;rw[Qb H];by_cases J:k=1;rw[Qc J];omega;rw[Qb J];by_cases L:k=5\/k=9;rw[Qc L];omega;rw[Qb L];omega
def own_len {n:Nd}(h:ownQ n=true):(n.2.1=1/\n.2.2.1.length=0)\/((n.2.1=5\/n.2.1=9)/\n.2.2.1.length=2)\/(n.2.1≠1/\n.2.1≠5/\n.2.1≠9/\n.2.2.1.length=1):=by
 have J:=own_ins h;rcases insK_cases n.2.1 J.1 with H|H|H<;>omega
def Qfh {l:List Int}{i:Nat}{v:Int}:(l.set i v).length=l.length:=Xl
def depths_l1 (g:List Nd)(l d:List Int)(y:Nat)(p:Nat)(x:Nd)(L:List Int->Int->Option (List Int×Bool))(hb:Few g)(hfed:Fed g)(ho:Own g)(hd:d.length=g.length)(N:InB d)(hp:l[y]?=some (p:Int))(hy:y<100)(O:g[p]?=some x):
  F.bt L g l d (y:Int) x A.FU [] 0=if depthOf x (inD g d x.2.2.1)<0 then some ([],false)else L (d.set p (depthOf x (inD g d x.2.2.1))) ((y:Int)+1):=by
 have hlen:=hb.1;have hin:=hb.in O;have hpl:=(Qd.1 O).1;have H:=Qg O;have loop:=A.lp x.2.2.1 (λf (s:List Int) i=>F.bt L g l d (y:Int) x f s i) (λ_ t s=>if depthOf x (s++inD g d t)<0 then some ([],false)else L (d.set p (depthOf x (s++inD g d t))) ((y:Int)+1)) (λk s=>s=inD g d (x.2.2.1.take k))
  (λf s J=>by
   rw[Wf (Q4 _)]at J;subst J;have hdep:F.dF x (inD g d x.2.2.1)=some (depthOf x (inD g d x.2.2.1)):=R_depth_eq x (inD g d x.2.2.1) (λh=>by rcases own_len (ho x H)with V|V|V<;>simp only[inD,Wd]<;>omega) (N.d0 g _);have e:(inD g d x.2.2.1++inD g d ([]:List Int))=inD g d x.2.2.1:=by simp[inD]
   rw[F.bt,Qb (by omega),A.ixn hp,Qa,hdep,Qa,iix (by omega) (by omega),Qa,Qa,e,iix (by omega) (by rw[Qfh];omega),Qa,A.gd1 (A.r64n (by omega)),Q0];have e2:iget (d.set p (depthOf x (inD g d x.2.2.1))) (p:Int)=depthOf x (inD g d x.2.2.1):=by
    unfold iget;rw[Q0,Yh (by omega)];rfl
   rw[e2])
  (λf s k z W hk J ih=>by
   have h1:=hfed x H z (Qg W);have V:=(idx_le g z).2;rw[F.bt,Qc (by omega),A.ixn W,Qa,Qbk g z (by omega),Qa,iix h1 (by omega),Qa];have Y:s++[iget d (idx g z)]=inD g d (x.2.2.1.take (k+1)):=by rw[J];exact inD_take W
   rw[A.gd1 (by rw[J];simp only[inD,Wd,Qo,Qi,Qm];omega),A.gd1 (A.r64n (by omega)),ih _ Y];simp only[inD,Q7,Qs,Xk])
  (by have:=Qab;omega) [] (by simp[inD])
 rw[loop];rfl
def depths_l3 (g:List Nd)(d:List Int)(V:Few g)(hfed:Fed g)(Y:Own g)(hd:d.length=g.length):F.aN g d A.FU 0=if Qbf g d g=true then some (d,true)else some ([],false):=
 A.lp0 g (λf y=>F.aN g d f y) (λ_ t=>if Qbf g d t=true then some (d,true)else some ([],false))
  (λf=>by rw[F.aN,Qb (by omega)];rfl)
  (λf k x W hk ih=>by
   have hlen:=V.1;have J:=Qg W;rw[F.aN,Qc (by omega),A.ixn W,Qa,Qbf];simp only[F.cR,A.gd1 (A.r64n (n:=k) (by omega)),ih,Qt];by_cases H:x.2.1=14;have hl:x.2.2.1.length=1:=by rcases own_len (Y x J)with O|O|O<;>omega
   have L:x.2.2.1[0]?=some (iget x.2.2.1 0):=by
    unfold iget;rw[show(0:Int).toNat=0 from rfl,Qf (by omega)];rfl
   have h1:=hfed x J _ (Qg L);have O:=(idx_le g (iget x.2.2.1 0)).2;rw[Qc H,show A.ix x.2.2.1 0=_ from A.ixn L,Qa,Qbk g _ (by omega),Qa,iix h1 (by omega),Qa];by_cases e:iget d (idx g (iget x.2.2.1 0))≠x.2.2.2.2.2.2;rw[Qc e];have N:x.2.1=14/\iget d (idx g (iget x.2.2.1 0))≠x.2.2.2.2.2.2:=⟨H,e⟩;rw[Qc N,Qb Wa];rw[Qb e];have N: ¬(x.2.1=14/\iget d (idx g (iget x.2.2.1 0))≠x.2.2.2.2.2.2):=λh=>e h.2;rw[Qb N];have N: ¬(x.2.1=14/\iget d (idx g (iget x.2.2.1 0))≠x.2.2.2.2.2.2):=λh=>H h.1;rw[Qb H,Qb Wa,Qb N])
  (by have:=Qab;have:=V.1;omega)
def Plc (g:List Nd)(l:List Int):Prop:=∀(i:Nat) (p:Int),l[i]?=some p->∃(k:Nat) (n:Nd),p=(k:Int)/\g[k]?=some n
def depths_l4 (g:List Nd)(l:List Int)(J:Few g)(hfed:Fed g)(O:Own g)(W:l.length<=60)(hp:Plc g l):F.cP g l=some (depths g l):=by
 have hlen:=J.1;have loop:=A.lp l (λf (s:List Int) i=>F.bu g l f s i) (λ_ t s=>match Qap g t s with
  |some d=>if Qbf g d g=true then some (d,true)else some ([],false)
  |none=>some ([],false)) (λk s=>s.length=g.length/\InB s)
  (λf s H=>by rw[F.bu,Qb (by omega),depths_l3 g s J hfed O H.1];rfl)
  (λf s k x L hk H V=>by
   obtain⟨q,n,rfl,N⟩:=hp k x L;rw[F.bu,Qc (by omega),A.ixn L,Qa,A.ixn N,Qa,depths_l1 g l s k q n _ J hfed O H.1 H.2 L (by omega) N,Qap,Qav rfl N];by_cases h:depthOf n (inD g s n.2.2.1)<0;rw[Qc h,Qc h];rw[Qb h,Qb h,Q0];exact V _ ⟨by rw[Qfh];exact H.1,H.2.set q (by omega) (Qem n _)⟩)
  (by have:=Qab;omega) (List.replicate g.length 0) ⟨by simp,InB.rep _⟩
 unfold F.cP depths;rw[A.gd1 (by omega),loop];cases Qap g l (List.replicate g.length 0)with
 |none=>rfl
 |some d=>simp only[];cases Qbf g d g<;>rfl
end Go.Proofs.YtpoabedecgeamaaGreatDoor
end
section
namespace Go.Proofs.YtpoabedecgeamaaGreatDoor
open Go.RowKit Go.Graph
def RelD (g:List Nd)(d:List Int)(dm:List (Int×Int)):Prop:=∀(i:Nat) (n:Nd),g[i]?=some n->Z.mget 0 dm n.1=iget d (i:Int)
def RelD.in {g:List Nd}{d:List Int}{dm:List (Int×Int)}(h:RelD g d dm){k:Int}(H:0<=idx g k):Z.mget 0 dm k=iget d (idx g k):=by
 obtain⟨q,L,_,N⟩:=idx_get H;have J:=h _ q L;rw[N,Q8 H]at J;exact J
def iget_nat {l:List Int}{i:Nat}(h:i<l.length):l[i]?=some (iget l (i:Int)):=by
 unfold iget;rw[Q0,Qf h];rfl
def inD_at {g:List Nd}{d l:List Int}{i:Nat}{k:Int}(h:l[i]?=some k):iget (inD g d l) (i:Int)=iget d (idx g k):=by
 unfold iget;rw[Q0,inD,Qy,h];rfl
def out_eq (g:List Nd)(d:List Int)(a0:(List (Int×Nd))×(List Int)×(List (Int×Int)))(n:Nd)(hr:RelD g d a0.2.2)(hib:InB d)(ho:ownQ n=true)(hf: ∀k∈n.2.2.1,0<=idx g k):
  ∃v b,F.b2 a0 n=some (v,b)/\((b=false/\depthOf n (inD g d n.2.2.1)<0)\/(b=true/\v=depthOf n (inD g d n.2.2.1)/\0<=v)):=by
 have hlen:=own_len ho;have hD:=own_D ho;unfold F.b2;by_cases h1:n.2.1=1;have hl:n.2.2.1=[]:=Qz (by omega);rw[Qc h1];refine⟨0,true,rfl,.inr ⟨rfl,?_,Y7 _⟩⟩;unfold depthOf Qgw capd;simp only[h1,hl,inD,Xh,d0];simp;rw[Qb h1];by_cases H:n.2.1=14;rw[Qc H];have:=hD.1 H;refine⟨_,true,rfl,.inr ⟨rfl,?_,by omega⟩⟩;unfold depthOf Qgw capd;rw[Qc H,Qb (by omega)];rw[Qb H];have hpos:0<n.2.2.1.length:=by omega
 obtain⟨k0,J⟩: ∃k0,n.2.2.1[0]?=some k0:=⟨_,Qf hpos⟩;have f0:=hf k0 (Qg J);have b0:=hib (idx g k0);have e0:d0 (inD g d n.2.2.1)=iget d (idx g k0):=by rw[<-d0_iget];exact inD_at J
 rw[show A.ix n.2.2.1 0=_ from A.ixn J,Qa,A.lt,hr.in f0];have hj3: ∀y,(y=true↔(n.2.1=5\/n.2.1=9)/\iget (inD g d n.2.2.1) 0≠iget (inD g d n.2.2.1) 1)->∃v b,F.bq n (iget d (idx g k0)) y=some (v,b)/\((b=false/\depthOf n (inD g d n.2.2.1)<0)\/(b=true/\v=depthOf n (inD g d n.2.2.1)/\0<=v)):=λy hy=>by
  unfold F.bq depthOf Qgw;rw[Qb H,e0];by_cases L:y=true;have V:=hy.1 L;rw[Qc L];refine⟨0,false,rfl,.inl ⟨rfl,?_⟩⟩;rw[Qb (by omega),Qb (by omega),Qc V.1,Qc V.2];decide;have V: ¬((n.2.1=5\/n.2.1=9)/\iget (inD g d n.2.2.1) 0≠iget (inD g d n.2.2.1) 1):=λh=>L (hy.2 h);rw[Qb L];simp only[F.bo,F.bp,A.ba];by_cases N:n.2.1=12;rw[Qc N,Qc N,A.gd1 ⟨by omega,by omega⟩];unfold capd;by_cases h4:4<iget d (idx g k0)+1;exact⟨_,_,rfl,.inl ⟨Wk (by omega),by rw[Qc h4];decide⟩⟩;exact⟨_,_,rfl,.inr ⟨Wc (by omega),by rw[Qb h4],by omega⟩⟩;rw[Qb N,Qb N];by_cases O:n.2.1=13;rw[Qc O,Qc O,A.gd1 ⟨by omega,by omega⟩];unfold capd;rw[Qb (by omega)];by_cases h4:0<=iget d (idx g k0)-1;exact⟨_,_,rfl,.inr ⟨Wc (by omega),rfl,h4⟩⟩;exact⟨_,_,rfl,.inl ⟨Wk (by omega),by omega⟩⟩;rw[Qb O,Qb O];have hz: ∀x:Int,n.2.1=11\/n.2.1=16\/n.2.1=15->∃v b,(some (iget d (idx g k0),decide (iget d (idx g k0)=0)):Option (Int×Bool))=some (v,b)/\((b=false/\capd (if n.2.1=5\/n.2.1=9 then if iget (inD g d n.2.2.1) 0≠iget (inD g d n.2.2.1) 1 then-1 else iget d (idx g k0)else if n.2.1=11\/n.2.1=16\/n.2.1=15 then if iget d (idx g k0)≠0 then-1 else iget d (idx g k0)else iget d (idx g k0))<0)\/(b=true/\v=capd (if n.2.1=5\/n.2.1=9 then if iget (inD g d n.2.2.1) 0≠iget (inD g d n.2.2.1) 1 then-1 else iget d (idx g k0)else if n.2.1=11\/n.2.1=16\/n.2.1=15 then if iget d (idx g k0)≠0 then-1 else iget d (idx g k0)else iget d (idx g k0))/\0<=v)):=λ_ hk=>by
   rw[Qb (by omega),Qc hk];by_cases h0:iget d (idx g k0)=0;rw[h0];exact⟨_,_,rfl,.inr ⟨rfl,rfl,Y7 _⟩⟩;rw[Qc h0];exact⟨_,_,rfl,.inl ⟨Wk h0,by decide⟩⟩
  by_cases W:n.2.1=11;rw[Qc W];exact hz 0 (.inl W);rw[Qb W];by_cases Y:n.2.1=16;rw[Qc Y];exact hz 0 (.inr (.inl Y));rw[Qb Y];by_cases h15:n.2.1=15;rw[Qc h15];exact hz 0 (.inr (.inr h15));rw[Qb h15];refine⟨_,_,rfl,.inr ⟨Wc (by omega),?_,by omega⟩⟩;by_cases h5:n.2.1=5\/n.2.1=9;rw[Qc h5,Qb (λh=>V ⟨h5,h⟩)];unfold capd;rw[Qb (by omega)];rw[Qb h5,Qb (by omega)];unfold capd;rw[Qb (by omega)]
 by_cases V:(1:Int)<(n.2.2.1.length:Int);have h5:n.2.1=5\/n.2.1=9:=by omega
 obtain⟨k1,hk1⟩: ∃k1,n.2.2.1[1]?=some k1:=⟨_,Qf (by omega)⟩;have f1:=hf k1 (Qg hk1);rw[Qc V,show A.ix n.2.2.1 1=_ from A.ixn hk1,Qa,A.lt,hr.in f1];refine hj3 _ ?_;rw[Qt,show iget (inD g d n.2.2.1) 0=_ from inD_at J,show iget (inD g d n.2.2.1) 1=_ from inD_at hk1];exact⟨λh=>⟨h5,λe=>h e.symm⟩,λh e=>h.2 e.symm⟩;rw[Qb V];exact hj3 false ⟨λh=>(by cases h),λh=>by omega⟩
def relD_set {g:List Nd}(L:Inc g){d:List Int}{dm:List (Int×Int)}(h:RelD g d dm)(O:d.length=g.length){i:Nat}{n:Nd}(H:g[i]?=some n)(v:Int):RelD g (d.set i v) (Z.mins dm n.1 v):=λj q hq=>by
 rw[Uy];have V:=(Qd.1 H).1;by_cases e:q.1=n.1;have:=L.inj hq H e;subst this;rw[Qc e];unfold iget;rw[Q0,Yh (by omega)];rfl;rw[Qb e,h j q hq];have J:i≠j:=λN=>e (by subst N;rw[H]at hq;injection hq with hq;rw[hq]);unfold iget;rw[Q0,List.getElem?_set_ne J]
def KeyD (g:List Nd)(l:List Int)(dm:List (Int×Int)):Prop:=∀id,Z.mhas dm id=l.any λp=>decide (idAt g p=id)
def Qeo (g:List Nd)(l:List Int)(hb:Few g)(Y:Inc g)(hfed:Fed g)(ho:Own g)(hl:l.length<=60)(hp:Plc g l): ∀(r k f:Nat) (d:List Int) (dm:List (Int×Int)),k+r=l.length->r<f->RelD g d dm->InB d->d.length=g.length->KeyD g (l.take k) dm->
  (∃d' dm',Qap g (l.drop k) d=some d'/\F.m (Qac g,l.map (idAt g),[]) f dm (k:Int)=A.mrg (F.aO (Qac g,l.map (idAt g),[]) dm') (some (true,(Qac g,l.map (idAt g),dm'))) (Qac g)/\RelD g d' dm'/\InB d'/\d'.length=g.length/\KeyD g l dm')\/
  (Qap g (l.drop k) d=none/\∃p,F.m (Qac g,l.map (idAt g),[]) f dm (k:Int)=some (false,p))
 |0,k,f,d,dm,hk,hf,N,O,V,W=>by
  obtain⟨f,rfl⟩: ∃f',f=f'+1:=⟨f-1,by omega⟩;left;rw[Wf (by omega)]at W;refine⟨d,dm,by rw[Wi (by omega)];rfl,?_,N,O,V,W⟩;rw[F.m,Qb (by simp only[Wd];omega)]
 |r+1,k,f,d,dm,hk,hf,N,O,V,W=>by
  obtain⟨f,rfl⟩: ∃f',f=f'+1:=⟨f-1,by omega⟩;have H:l[k]?=some l[k]:=Qf (by omega);generalize l[k]=x at H;obtain⟨q,n,rfl,J⟩:=hp k x H;have hng:=Qg J;have L:idAt g (q:Int)=n.1:=by unfold idAt;rw[Qav rfl J]
  have e1:A.ix (l.map (idAt g)) (k:Int)=some n.1:=A.ixn (by rw[Qy,H,Wp,L]);obtain⟨v,b,ho1,ho2⟩:=out_eq g d (Qac g,l.map (idAt g),dm) n N O (ho n hng) (hfed n hng);have eF:F.m (Qac g,l.map (idAt g),[]) (f+1) dm (k:Int)=if(!b)=true then some (false,(Qac g,l.map (idAt g),dm))else A.gd (Z.R64 ((k:Int)+1)) (F.m (Qac g,l.map (idAt g),[]) f (Z.mins dm n.1 v) ((k:Int)+1)):=by
   rw[F.m,Qc (by simp only[Wd];omega)];simp only[e1,Qa,A.lt,Y.mget J];rw[show F.b2 (Qac g,l.map (idAt g),dm) n=_ from ho1,Qa]
  rw[A.dropx H,Qap,Qav rfl J,eF];rcases ho2 with⟨rfl,h5⟩|⟨rfl,h5,h6⟩
  right;rw[Qc (show depthOf n (n.2.2.1.map λk=>iget d (idx g k))<0 from h5)];exact⟨rfl,_,Qc rfl⟩;subst h5;rw[Qb (show ¬depthOf n (n.2.2.1.map λk=>iget d (idx g k))<0 by simp only[inD]at h6;omega),Qb (by simp),A.gd1 (A.r64n (by omega)),Q0];have:=Qeo g l hb Y hfed ho hl hp r (k+1) f (d.set q (depthOf n (inD g d n.2.2.1))) (Z.mins dm n.1 (depthOf n (inD g d n.2.2.1))) (by omega) (by omega) (relD_set Y N V J _) (O.set q h6 (Qem n _)) (by rw[Qfh];exact V) (λid=>by
   rw[Z.mhas_ins,Qef H,List.any_append,W id,Xy,List.any_nil,Bool.or_false,L,Bool.or_comm];congr 1;exact decide_eq_decide.2 ⟨λh=>h.symm,λh=>h.symm⟩)
  exact this
def Qck (g:List Nd)(d:List Int): ∀l,Qbf g d l= !(l.any λx=>decide (x.2.1=14/\iget d (idx g (iget x.2.2.1 0))≠x.2.2.2.2.2.2))
 | []=>rfl
 |x::r=>by
  unfold Qbf;rw[Xy];by_cases h:x.2.1=14/\iget d (idx g (iget x.2.2.1 0))≠x.2.2.2.2.2.2;rw[Qc h,Wc h];rfl;rw[Qb h,Wk h,Xn];exact Qck g d r
def Qhv (g:List Nd)(l:List Int)(W:Few g)(hi:Inc g)(hfed:Fed g)(O:Own g)(Y:l.length<=60)(hp:Plc g l):
  (∃d dm,F.cP g l=some (d,true)/\F.aQ (Qac g,l.map (idAt g),[])=some (true,(Qac g,l.map (idAt g),dm))/\RelD g d dm/\InB d/\d.length=g.length/\KeyD g l dm/\Qbf g d g=true/\Qap g l (List.replicate g.length 0)=some d)\/
  (F.cP g l=some ([],false)/\∃p,F.aQ (Qac g,l.map (idAt g),[])=some (false,p)):=by
 have h0:RelD g (List.replicate g.length 0) []:=λi n V=>by
  unfold iget;rw[Q0,X2];split<;>rfl
 rw[depths_l4 g l W hfed O Y hp];unfold F.aQ depths;rcases Qeo g l W hi hfed O Y hp l.length 0 A.FU (List.replicate g.length 0) [] (by omega) (by have:=Qab;omega) h0 (InB.rep _) (by simp) (λid=>by simp[Z.mhas])with⟨d,dm,L,J,h3,h4,h5,h6⟩|⟨L,p,J⟩
 rw[Wu]at L;rw[L];simp only[];have hm:A.mrg (F.aO (Qac g,l.map (idAt g),[]) dm) (some (true,(Qac g,l.map (idAt g),dm))) (Qac g)=if(Qac g).any (λp=>decide (p.2.2.1=14/\iget d (idx g (iget p.2.2.2.1 0))≠p.2.2.2.2.2.2.2))=true then some (false,(Qac g,l.map (idAt g),dm))else some (true,(Qac g,l.map (idAt g),dm)):=by
  refine A.mrg_any λp hp=>?_;obtain⟨n,V,rfl⟩:=Xf.1 hp;unfold F.aO F.bg;by_cases H:n.2.1=14;have hl1:n.2.2.1.length=1:=by rcases own_len (O n V)with J|J|J<;>omega
  have N:n.2.2.1[0]?=some (iget n.2.2.1 0):=iget_nat (i:=0) (by omega);have f0:=hfed n V _ (Qg N);rw[Qc H,show A.ix n.2.2.1 0=_ from A.ixn N,Qa,A.lt,h3.in f0];by_cases e:iget d (idx g (iget n.2.2.1 0))≠n.2.2.2.2.2.2;rw[Wc e,Qc rfl,Wc (And.intro H e),Qc rfl];rw[Wk e,Qb Wa,Wk (λh=>e h.2),Qb Wa];rw[Qb H,Qb Wa,Wk (λh=>H h.1),Qb Wa]
 have hany:(Qac g).any (λp=>decide (p.2.2.1=14/\iget d (idx g (iget p.2.2.2.1 0))≠p.2.2.2.2.2.2.2))=g.any λx=>decide (x.2.1=14/\iget d (idx g (iget x.2.2.1 0))≠x.2.2.2.2.2.2):=by
  unfold Qac;rw[List.any_map];rfl
 have h2':F.m (Qac g,l.map (idAt g),[]) A.FU [] 0=_:=J.trans hm;rw[h2',hany,Qck];cases hc:g.any λx=>decide (x.2.1=14/\iget d (idx g (iget x.2.2.1 0))≠x.2.2.2.2.2.2)with
 |true=>right;exact⟨rfl,_,rfl⟩
 |false=>left;exact⟨d,dm,rfl,rfl,h3,h4,h5,h6,by rw[Qck,hc];rfl,rfl⟩
 rw[Wu]at L;rw[L];right;exact⟨rfl,p,J⟩
def Qcy (g:List Nd)(d:List Int)(id:Int): ∀(k:Nat) (l:List Int),(insS g d id k l).length=l.length
 |_,[]=>rfl
 |k,x::r=>by unfold insS;rw[Qi,Qi,Qcy g d id (k+1) r]
def Qfb (n:Nd)(v:Int):(outS n v).length<=1:=by unfold outS;split<;>simp
def in2 {g:List Nd}(H:Own g){n:Nd}(J:n∈g):n.2.2.1.length<=2:=by rcases own_len (H n J)with h|h|h<;>omega
def spots_l2P (g:List Nd)(d:List Int)(a0:(List (Int×Nd))×(List Int)×(List (Int×Int)))(H:List Sp->Int->Option (List Sp))(y:Nat)(x:Nd)(xs:List Sp)(J:RelD g d a0.2.2)(N:g[y]?=some x)(hl:x.2.2.1.length<=2)(O: ∀k∈x.2.2.1,0<=idx g k)(V:xs.length<=1000)(hy:y<=100):
  F.ak H a0 (y:Int) x A.FU xs 0=H (xs++(insS g d x.1 0 x.2.2.1++outS x (iget d (y:Int)))) ((y:Int)+1):=
 A.lp x.2.2.1 (λf (s:List Sp) i=>F.ak H a0 (y:Int) x f s i) (λk t s=>H (s++(insS g d x.1 k t++outS x (iget d (y:Int)))) ((y:Int)+1)) (λk s=>s.length<=1000+k)
  (λf s W=>by
   rw[F.ak,Qb (by omega),insS,Q5,outS,A.lt,J y x N];simp only[F.bw,A.gd1 (A.r64n (n:=y) (by omega))];by_cases h:x.2.1≠15;rw[Qc h,Qc h,A.gd1 (by simp only[Qi,Qm];omega)];rw[Qb h,Qb h,Wj])
  (λf s k z L hk W Y=>by
   have h1:=O z (Qg L);rw[F.ak,Qc (by omega),A.ixn L,Qa,A.lt,J.in h1,A.gd1 (by simp only[Qi,Qm];omega),A.gd1 (A.r64n (by omega)),Y _ (by simp only[Qe,Qi,Qm];omega),insS];simp only[Qs,Xk,Wz,Q5])
  (by have:=Qab;omega) xs (by omega)
def spotsP_eq (g:List Nd)(d:List Int)(a0:(List (Int×Nd))×(List Int)×(List (Int×Int)))(L:Few g)(hfed:Fed g)(N:Own g)(O:RelD g d a0.2.2):F.bC a0 g=some (spots g d):=by
 have hlen:=L.1;have loop:=A.lp g (λf (s:List Sp) i=>F.ac a0 g f s i) (λk t s=>some (s++spotsF g d k t)) (λk s=>s.length<=3*k)
  (λf s V=>by rw[F.ac,Qb (by omega),spotsF,Wj])
  (λf s k x J hk V W=>by
   have H:=Qg J;have Y:=in2 N H;have h3:=Qfb x (iget d (k:Int));rw[F.ac,Qc (by omega),A.ixn J,Qa,spots_l2P g d a0 _ k x s O J Y (hfed x H) (by omega) (by omega),W _ (by rw[Qe,Qe,Qcy];omega),spotsF];simp only[Qs])
  (by have:=Qab;omega) [] (by simp)
 unfold F.bC;rw[loop];rfl
def spots_l2R (g:List Nd)(d:List Int)(H:List Sp->Int->Option (List Sp))(y:Nat)(x:Nd)(xs:List Sp)(L:g.length<=100)(hd:d.length=g.length)(N:g[y]?=some x)(hl:x.2.2.1.length<=2)(O: ∀k∈x.2.2.1,0<=idx g k)(V:xs.length<=1000)(hy:y<=100):
  F.bO H g d (y:Int) x A.FU xs 0=H (xs++(insS g d x.1 0 x.2.2.1++outS x (iget d (y:Int)))) ((y:Int)+1):=
 A.lp x.2.2.1 (λf (s:List Sp) i=>F.bO H g d (y:Int) x f s i) (λk t s=>H (s++(insS g d x.1 k t++outS x (iget d (y:Int)))) ((y:Int)+1)) (λk s=>s.length<=1000+k)
  (λf s W=>by
   have Y:=(Qd.1 N).1;rw[F.bO,Qb (by omega),insS,Q5,outS];simp only[F.dc,A.gd1 (A.r64n (n:=y) (by omega))];by_cases h:x.2.1≠15;rw[Qc h,Qc h,iix (by omega) (by omega),Qa,A.gd1 (by simp only[Qi,Qm];omega)];rw[Qb h,Qb h,Wj])
  (λf s k z J hk W ih=>by
   have h1:=O z (Qg J);have h2:=(idx_le g z).2;rw[F.bO,Qc (by omega),A.ixn J,Qa,Qbk g z L,Qa,iix h1 (by omega),Qa,A.gd1 (by simp only[Qi,Qm];omega),A.gd1 (A.r64n (by omega)),ih _ (by simp only[Qe,Qi,Qm];omega),insS];simp only[Qs,Xk,Wz,Q5])
  (by have:=Qab;omega) xs (by omega)
def spotsR_eq (g:List Nd)(d:List Int)(L:Few g)(hfed:Fed g)(N:Own g)(O:d.length=g.length):F.d8 g d=some (spots g d):=by
 have hlen:=L.1;have loop:=A.lp g (λf (s:List Sp) i=>F.bm g d f s i) (λk t s=>some (s++spotsF g d k t)) (λk s=>s.length<=3*k)
  (λf s V=>by rw[F.bm,A.ba,Qb (by simp),spotsF,Wj])
  (λf s k x J hk V W=>by
   have H:=Qg J;have Y:=in2 N H;have h3:=Qfb x (iget d (k:Int));rw[F.bm,A.ba,Qc (by simp only[Qt];omega),A.ixn J,Qa,spots_l2R g d _ k x s (by omega) O J Y (hfed x H) (by omega) (by omega),W _ (by rw[Qe,Qe,Qcy];omega),spotsF];simp only[Qs])
  (by have:=Qab;omega) [] (by simp)
 unfold F.d8;rw[loop];rfl
abbrev Ed:=Pl×Pl×Sm
def five {P:Int->Prop}(H:P 0)(J:P 1)(L:P 2)(N:P 3)(O:P 4)(d:Int)(V:0<=d/\d<=4):P d:=by
 have:d=0\/d=1\/d=2\/d=3\/d=4:=by omega
 rcases this with rfl|rfl|rfl|rfl|rfl<;>assumption
def Id_eqP (d:Int)(H:0<=d/\d<=4):F.ee d=some (idP d):=five (P:=λd=>F.ee d=some (idP d)) (by kernel_rfl) (by kernel_rfl) (by kernel_rfl) (by kernel_rfl) (by kernel_rfl) d H
def Enter_eqP (d:Int)(H:0<=d/\d<=4):F.dL d=some (Qgm d):=five (P:=λd=>F.dL d=some (Qgm d)) (by kernel_rfl) (by kernel_rfl) (by kernel_rfl) (by kernel_rfl) (by kernel_rfl) d H
def Leave_eqP (d:Int)(H:0<=d/\d<=4):F.dM d=some (Qho d):=five (P:=λd=>F.dM d=some (Qho d)) (by kernel_rfl) (by kernel_rfl) (by kernel_rfl) (by kernel_rfl) (by kernel_rfl) d H
def Next_eqP (d:Int)(H:0<=d/\d<=4):F.d3 d=some (nextP d):=five (P:=λd=>F.d3 d=some (nextP d)) (by kernel_rfl) (by kernel_rfl) (by kernel_rfl) (by kernel_rfl) (by kernel_rfl) d H
def Id_eqR (d:Int)(H:0<=d/\d<=4):F.er d=some (idP d):=five (P:=λd=>F.er d=some (idP d)) (by kernel_rfl) (by kernel_rfl) (by kernel_rfl) (by kernel_rfl) (by kernel_rfl) d H
def Enter_eqR (d:Int)(H:0<=d/\d<=4):F.d9 d=some (Qgm d):=five (P:=λd=>F.d9 d=some (Qgm d)) (by kernel_rfl) (by kernel_rfl) (by kernel_rfl) (by kernel_rfl) (by kernel_rfl) d H
def Leave_eqR (d:Int)(H:0<=d/\d<=4):F.ea d=some (Qho d):=five (P:=λd=>F.ea d=some (Qho d)) (by kernel_rfl) (by kernel_rfl) (by kernel_rfl) (by kernel_rfl) (by kernel_rfl) d H
def Next_eqR (d:Int)(H:0<=d/\d<=4):F.ei d=some (nextP d):=five (P:=λd=>F.ei d=some (nextP d)) (by kernel_rfl) (by kernel_rfl) (by kernel_rfl) (by kernel_rfl) (by kernel_rfl) d H
def within_eqP (n:Nd)(d:Int)(H:0<=d/\d<=4):F.cy n d=some (Qcn n d):=by
 unfold F.cy Qcn;simp only[Id_eqP d H,Enter_eqP d H,Leave_eqP d H,Next_eqP d H,Qa,F.bh];repeat' split
 all_goals rfl
def within_eqR (n:Nd)(d:Int)(H:0<=d/\d<=4):F.dn n d=some (Qcn n d):=by
 unfold F.dn Qcn;simp only[Id_eqR d H,Enter_eqR d H,Leave_eqR d H,Next_eqR d H,Qa,F.bW];repeat' split
 all_goals rfl
def useN (id nd:Int):Nat->List Int->List Pl
 |_,[]=>[]
 |k,z::r=>if z=id then(nd,(k:Int))::useN id nd (k+1) r else useN id nd (k+1) r
def Qbb (id:Int):List Nd->List Pl
 | []=>[]
 |n::r=>useN id n.1 0 n.2.2.1++Qbb id r
def Qda (id nd:Int): ∀(k:Nat) (l:List Int),(useN id nd k l).length<=l.length
 |_,[]=>Q4 0
 |k,z::r=>by
  unfold useN;have:=Qda id nd (k+1) r;split<;>simp only[Qi]<;>omega
def Qbd (id:Int): ∀(l:List Nd),(∀n∈l,n.2.2.1.length<=2)->(Qbb id l).length<=2*l.length
 | [],_=>Q4 0
 |n::r,h=>by
  unfold Qbb;have J:=Qbd id r λx H=>h x (Qh _ H);have L:=Qda id n.1 0 n.2.2.1;have N:=h n (Ql ..);rw[Qe,Qi];omega
def Values_eq (g:List Nd)(L:g.length<=100):F.ag g=some g:=
 A.lp0 g (λf y=>F.d g f y) (λ_ l=>some l)
  (λf=>by rw[F.d,Qb (by omega)])
  (λf k x H hk J=>by rw[F.d,Qc (by omega),A.ixn H,Qa,A.gd1 (A.r64n (by omega)),J];rfl)
  (by have:=Qab;omega)
def users_l2 (id:Int)(n:Nd)(H:List Pl->Option (List Pl))(xs:List Pl)(V:n.2.2.1.length<=2)(L:xs.length<=1000):F.aD H id n A.FU xs 0=H (xs++useN id n.1 0 n.2.2.1):=
 A.lp n.2.2.1 (λf (s:List Pl) i=>F.aD H id n f s i) (λk t s=>H (s++useN id n.1 k t)) (λk s=>s.length<=1000+k)
  (λf s N=>by rw[F.aD,Qb (by omega),useN,Wj])
  (λf s k z O hk N J=>by
   rw[F.aD,Qc (by omega),A.ixn O,Qa,useN];simp only[F.cz,A.gd1 (A.r64n (n:=k) (by omega))];by_cases h:z=id;rw[Qc h,Qc h,A.gd1 (by simp only[Qi,Qm];omega),J _ (by simp only[Qe,Qi,Qm];omega)];simp only[Qs,Xk,Wz,Q5];rw[Qb h,Qb h,J _ (by omega)])
  (by have:=Qab;omega) xs (by omega)
def users_l3 (id:Int): ∀(l:List Nd) (xs:List Pl),(∀n∈l,n.2.2.1.length<=2)->xs.length+2*l.length<=900->F.aE id l xs=some (xs++Qbb id l)
 | [],xs,_,_=>by rw[F.aE,Qbb,Wj]
 |n::r,xs,h,H=>by
  have J:=h n (Ql ..);have L:=Qda id n.1 0 n.2.2.1;rw[Qi]at H;rw[F.aE,users_l2 id n _ xs J (by omega),users_l3 id r _ (λx H=>h x (Qh _ H)) (by rw[Qe];omega),Qbb,Qs]
def users_eq (g:List Nd)(id:Int)(H:Few g)(J: ∀n∈g,n.2.2.1.length<=2):F.dq g id=some (Qbb id g):=by
 have:=H.1;unfold F.dq F.aB;rw[Qa,Values_eq g (by omega),Qa,users_l3 id g [] J (by simp;omega)];rfl
def inE (g:List Nd)(d:List Int)(n:Nd):Nat->List Int->List Ed
 |_,[]=>[]
 |k,z::r=>((n.1,(k:Int)),(n.1,2),Qcn n (iget d (idx g z)))::inE g d n (k+1) r
def outE (g:List Nd)(n:Nd)(v:Int):List Ed:=(Qbb n.1 g).map λu=>((n.1,2),u,(idP v).1)
def Qau (g:List Nd)(d:List Int):Nat->List Nd->List Ed
 |_,[]=>[]
 |i,n::r=>if n.2.1=15 then Qau g d (i+1) r else inE g d n 0 n.2.2.1++(outE g n (iget d (i:Int))++Qau g d (i+1) r)
def Qaj (g:List Nd)(d:List Int):List Ed:=Qau g d 0 g
def Qii (g:List Nd)(d:List Int)(n:Nd): ∀(k:Nat) (l:List Int),(inE g d n k l).length=l.length
 |_,[]=>rfl
 |k,x::r=>by unfold inE;rw[Qi,Qi,Qii g d n (k+1) r]
def edges_l2P (k30:List Ed->Int->Option (List Ed))(y:Nat)(n:Nd)(s:Sm)(us:List Pl)(xs:List Ed)(O:y<=100)(V:us.length<=1000)(H:xs.length<=10000):
  F.ad k30 (y:Int) n s.1 s.2.1 s.2.2.1 s.2.2.2.1 s.2.2.2.2.1 s.2.2.2.2.2.1 s.2.2.2.2.2.2.1 s.2.2.2.2.2.2.2 us A.FU xs 0=k30 (xs++us.map λu=>((n.1,2),u,s)) ((y:Int)+1):=
 A.lp us (λf (t:List Ed) i=>F.ad k30 (y:Int) n s.1 s.2.1 s.2.2.1 s.2.2.2.1 s.2.2.2.2.1 s.2.2.2.2.2.1 s.2.2.2.2.2.2.1 s.2.2.2.2.2.2.2 us f t i) (λk t e=>k30 (e++t.map λu=>((n.1,2),u,s)) ((y:Int)+1)) (λk t=>t.length<=10000+k)
  (λf t J=>by rw[F.ad,Qb (by omega),F.aU,A.gd1 (A.r64n (by omega)),Xh,Wj])
  (λf t k z L hk J N=>by
   rw[F.ad,Qc (by omega),A.ixn L,Qa,A.gd1 (by simp only[Qi,Qm];omega),A.gd1 (A.r64n (by omega)),N _ (by simp only[Qe,Qi,Qm];omega)];simp only[Qs,Xk,Wz,Q5,Q7])
  (by have:=Qab;omega) xs (by omega)
def edges_l4P (g:List Nd)(d:List Int)(a0:(List (Int×Nd))×(List Int)×(List (Int×Int)))(k30:List Ed->Int->Option (List Ed))(y:Nat)(n:Nd)(xs:List Ed)(O:Few g)(H:Own g)(J:InB d)(V:RelD g d a0.2.2)(L:g[y]?=some n)(Y: ∀k∈n.2.2.1,0<=idx g k)(hxs:xs.length<=9000):
  F.al k30 a0 g (y:Int) n A.FU xs 0=k30 (xs++(inE g d n 0 n.2.2.1++outE g n (iget d (y:Int)))) ((y:Int)+1):=
 A.lp n.2.2.1 (λf (t:List Ed) i=>F.al k30 a0 g (y:Int) n f t i) (λk t e=>k30 (e++(inE g d n k t++outE g n (iget d (y:Int)))) ((y:Int)+1)) (λk t=>t.length<=9000+k)
  (λf t ht=>by
   have hlen:=O.1;have hyl:=(Qd.1 L).1;have h2:=in2 H (Qg L);have hu:=Qbd n.1 g λx N=>in2 H N;rw[F.al,Qb (by omega),A.lt,V y n L,Id_eqP _ (J _),Qa,F.ch,users_eq g n.1 O (λx N=>in2 H N),Qa,
    show F.ad k30 (y:Int) n _ _ _ _ _ _ _ _ (Qbb n.1 g) A.FU t 0=_ from edges_l2P k30 y n (idP (iget d (y:Int))).1 (Qbb n.1 g) t (by omega) (by omega) (by omega),inE,Q5]
   rfl)
  (λf t k z W hk ht ih=>by
   have h1:=Y z (Qg W);have h2:=in2 H (Qg L);rw[F.al,Qc (by omega),A.ixn W,Qa,A.lt,V.in h1,show F.cy n _=_ from within_eqP n _ (J _),Qa,A.gd1 (by simp only[Qi,Qm];omega),A.gd1 (A.r64n (by omega)),ih _ (by simp only[Qe,Qi,Qm];omega),inE];simp only[Qs,Xk,Wz,Q5])
  (by have:=Qab;have:=in2 H (Qg L);omega) xs (by omega)
def edgesP_eq (g:List Nd)(d:List Int)(a0:(List (Int×Nd))×(List Int)×(List (Int×Int)))(O:Few g)(hfed:Fed g)(L:Own g)(N:InB d)(W:RelD g d a0.2.2):F.a7 a0 g=some (Qaj g d):=by
 have hlen:=O.1;have loop:=A.lp g (λf (s:List Ed) i=>F.k a0 g f s i) (λk t s=>some (s++Qau g d k t)) (λk s=>s.length<=83*k)
  (λf s Y=>by rw[F.k,Qb (by omega),Qau,Wj])
  (λf s k x H hk Y V=>by
   have J:=Qg H;have h2:=in2 L J;have hu:=Qbd x.1 g λx H=>in2 L H;rw[F.k,Qc (by omega),A.ixn H,Qa,Qau];by_cases h:x.2.1=15;rw[Qc h,Qc h,F.aU,A.gd1 (A.r64n (by omega)),V _ (by omega)];rw[Qb h,Qb h,edges_l4P g d a0 _ k x s O L N W H (hfed x J) (by omega),V _ (by rw[Qe,Qe,Qii,outE,Wd];omega)];simp only[Qs])
  (by have:=Qab;omega) [] (by simp)
 unfold F.a7;rw[loop];rfl
def Find_eq (g:List Nd)(J:Few g){j:Nat}{n:Nd}(L:Inc g)(H:g[j]?=some n):F.dR g n.1=some (n,true):=by
 have:=J.1;have N:=J.in H;unfold F.dR;rw[Qbk g _ (by omega),Qa,L.idx H,Qb (by omega),A.ixn H,Qa,A.gd1 (by simp only[Qm];omega)];rfl
def edges_l4R (g:List Nd)(k37:List Ed->Int->Option (List Ed))(sp:Sp)(r18:Nd×Bool)(r59:Sm×Int)(j:Nat)(m:Nd)(xs:List Ed)(W:g.length<=100)(H:g[j]?=some m)(Y:m.2.2.1.length<=2)(L:xs.length<=20000):
  F.a3 k37 g sp r18 r59 (j:Int) A.FU xs 0=k37 (xs++(useN r18.1.1 m.1 0 m.2.2.1).map λu=>(sp.1,u,r59.1)) ((j:Int)+1):=
 A.lp m.2.2.1 (λf (t:List Ed) i=>F.a3 k37 g sp r18 r59 (j:Int) f t i) (λk t e=>k37 (e++(useN r18.1.1 m.1 k t).map λu=>(sp.1,u,r59.1)) ((j:Int)+1)) (λk t=>t.length<=20000+k)
  (λf t N=>by
   have O:=(Qd.1 H).1;rw[F.a3,A.ixn H,Qa,Qb (by omega),A.gd1 (A.r64n (by omega)),useN,Xh,Wj])
  (λf t k z V hk N J=>by
   rw[F.a3,A.ixn H,Qa,Qc (by omega),Qa,A.ixn V,Qa,useN];simp only[F.de,A.gd1 (A.r64n (n:=k) (by omega)),Qa];by_cases h:z=r18.1.1;rw[Qc h,Qc h,A.gd1 (by simp only[Qi,Qm];omega),J _ (by simp only[Qe,Qi,Qm];omega)];simp only[Qs,Xk,Wz,Q5,Q7];rw[Qb h,Qb h,J _ (by omega)])
  (by have:=Qab;omega) xs (by omega)
def edges_l5R (g:List Nd)(k30:List Ed->Int->Option (List Ed))(y:Nat)(sp:Sp)(r18:Nd×Bool)(r59:Sm×Int)(xs:List Ed)(H:Few g)(L:Own g)(N:xs.length<=15000)(Y:y<=1000):
  F.a4 k30 g (y:Int) sp r18 r59 A.FU xs 0=k30 (xs++(Qbb r18.1.1 g).map λu=>(sp.1,u,r59.1)) ((y:Int)+1):=
 A.lp g (λf (t:List Ed) i=>F.a4 k30 g (y:Int) sp r18 r59 f t i) (λk t e=>k30 (e++(Qbb r18.1.1 t).map λu=>(sp.1,u,r59.1)) ((y:Int)+1)) (λk t=>t.length<=15000+2*k)
  (λf t O=>by rw[F.a4,Qb (by omega),F.cL,A.gd1 (A.r64n (by omega)),Qbb,Xh,Wj])
  (λf t k m J hk O V=>by
   have hlen:=H.1;have W:=in2 L (Qg J);have h3:=Qda r18.1.1 m.1 0 m.2.2.1;rw[F.a4,Qc (by omega),edges_l4R g _ sp r18 r59 k m t (by omega) J W (by omega),V _ (by rw[Qe,Wd];omega),Qbb,X5,Qs])
  (by have:=Qab;have:=H.1;omega) xs (by omega)
def edOf (g:List Nd)(sp:Sp):List Ed:=if sp.1.2≠2 then(if(find g sp.1.1).1.2.1≠15 then [(sp.1,((find g sp.1.1).1.1,2),Qcn (find g sp.1.1).1 sp.2)]else [])else(Qbb (find g sp.1.1).1.1 g).map λu=>(sp.1,u,(idP sp.2).1)
def edS (g:List Nd):List Sp->List Ed
 | []=>[]
 |sp::r=>edOf g sp++edS g r
def SpOk (g:List Nd)(sp:Sp):Prop:=(∃(j:Nat) (n:Nd),g[j]?=some n/\n.1=sp.1.1)/\0<=sp.2/\sp.2<=4
def Qde {g:List Nd}(J:Inc g){j:Nat}{n:Nd}(H:g[j]?=some n):find g n.1=(n,true):=by
 unfold find;rw[J.idx H,Qb (by omega),Qav rfl H]
def edgesR_l6 (g:List Nd)(l:List Sp)(O:Few g)(W:Inc g)(Y:Own g)(hl:l.length<=130)(hs: ∀sp∈l,SpOk g sp):F.dG g l=some (edS g l):=by
 have hlen:=O.1;have loop:=A.lp l (λf (s:List Ed) i=>F.aj g l f s i) (λk t s=>some (s++edS g t)) (λk s=>s.length<=83*k)
  (λf s hs=>by rw[F.aj,Qb (by omega),edS,Wj])
  (λf s k x L hk hp V=>by
   obtain⟨⟨j,n,hn,J⟩,hd⟩:=hs x (Qg L);have hu:=Qbd n.1 g λx L=>in2 Y L;rw[F.aj,Qc (by omega),A.ixn L,Qa,<-J,Find_eq g O W hn,Qa,edS,edOf,<-J,Qde W hn];simp only[F.dd,F.cL,A.gd1 (A.r64n (n:=k) (by omega)),Qa];by_cases N:x.1.2≠2;rw[Qc N,Qc N];by_cases H:n.2.1≠15;rw[Qc H,Qc H,show F.dn n x.2=_ from within_eqR n x.2 hd,Qa,A.gd1 (by simp only[Qi,Qm];omega),V _ (by simp only[Qe,Qi,Qm];omega),J];simp only[Qs];rw[Qb H,Qb H,V _ (by omega),Q5];rw[Qb N,Qb N,Id_eqR x.2 hd,Qa,edges_l5R g _ k x (n,true) (idP x.2) s O Y (by omega) (by omega),V _ (by rw[Qe,Wd];show s.length+(Qbb n.1 g).length<=_;omega),Qs])
  (by have:=Qab;omega) [] (by simp)
 unfold F.dG;rw[loop];rfl
def Qhq (g:List Nd): ∀(a b:List Sp),edS g (a++b)=edS g a++edS g b
 | [],_=>rfl
 |x::a,b=>by rw[Wz,edS,edS,Qhq g a b,Qs]
def edS_ins {g:List Nd}(J:Inc g)(d:List Int){j:Nat}{n:Nd}(L:g[j]?=some n): ∀(k:Nat) (l:List Int),k+l.length<=2->edS g (insS g d n.1 k l)=if n.2.1=15 then []else inE g d n k l
 |k,[],_=>by unfold insS inE edS;split<;>rfl
 |k,z::r,h=>by
  rw[Qi]at h;have N:((k:Int):Int)≠2:=by omega
  unfold insS inE;rw[edS,edS_ins J d L (k+1) r (by omega),edOf];simp only[Qde J L];rw[Qc N];by_cases H:n.2.1=15;simp[H];rw[Qb H,Qb H,Qc H];rfl
def Qhk {g:List Nd}(L:Inc g)(N:Own g)(d:List Int): ∀(m k:Nat),k+m=g.length->edS g (spotsF g d k (g.drop k))=Qau g d k (g.drop k)
 |0,k,h=>by rw[Wi (by omega)];rfl
 |m+1,k,h=>by
  have J:g[k]?=some g[k]:=Qf (by omega);generalize g[k]=x at J;have O:=in2 N (Qg J);rw[A.dropx J,spotsF,Qau,Qhq,Qhq,Qhk L N d m (k+1) (by omega),edS_ins L d J 0 _ (by omega)];by_cases H:x.2.1=15;rw[Qc H,Qc H,outS,Qb (λh=>h H),edS];rfl;rw[Qb H,Qb H,outS,Qc H,edS,edOf];simp only[Qde L J];rw[Qb (λh=>h rfl),edS,Wj];rfl
def o_b8 {g:List Nd}{d:List Int}(H:InB d){j:Nat}{n:Nd}(J:g[j]?=some n): ∀(k:Nat) (l:List Int),∀sp∈insS g d n.1 k l,SpOk g sp
 |_,[],sp,h=>by cases h
 |k,z::r,sp,h=>by
  unfold insS at h;rcases Qn.1 h with rfl|h
  exact⟨⟨j,n,J,rfl⟩,H _⟩;exact o_b8 H J (k+1) r sp h
def o_bd {g:List Nd}{d:List Int}(J:InB d): ∀(m k:Nat),k+m=g.length->∀sp∈spotsF g d k (g.drop k),SpOk g sp
 |0,k,h,sp,H=>by rw[Wi (by omega)]at H;cases H
 |m+1,k,h,sp,H=>by
  have L:g[k]?=some g[k]:=Qf (by omega);generalize g[k]=x at L;rw[A.dropx L,spotsF]at H;rcases Qx.1 H with H|H
  exact o_b8 J L 0 _ sp H;rcases Qx.1 H with H|H
  unfold outS at H;split at H;rw[Qk]at H;subst H;exact⟨⟨k,x,L,rfl⟩,J _⟩;cases H;exact o_bd J m (k+1) (by omega) sp H
def Qdr {g:List Nd}(J:Own g)(d:List Int): ∀(m k:Nat),k+m=g.length->(spotsF g d k (g.drop k)).length<=3*m
 |0,k,h=>by rw[Wi (by omega)];exact Q4 0
 |m+1,k,h=>by
  have H:g[k]?=some g[k]:=Qf (by omega);generalize g[k]=x at H;have L:=in2 J (Qg H);have N:=Qfb x (iget d (k:Int));have O:=Qdr J d m (k+1) (by omega);rw[A.dropx H,spotsF,Qe,Qe,Qcy];omega
def edgesR_eq (g:List Nd)(d:List Int)(L:Few g)(N:Inc g)(H:Own g)(J:InB d):F.dG g (spots g d)=some (Qaj g d):=by
 have W:=Qdr H d g.length 0 (by omega);have O:=o_bd (d:=d) (g:=g) J g.length 0 (by omega);have V:=Qhk N H d g.length 0 (by omega);rw[Wu]at W O V;have:=L.1;rw[edgesR_l6 g (spots g d) L N H (by unfold spots;omega) O];exact Xb some V
inductive Rch {α:Type} (R:α->α->Prop) (a:α):α->Prop
 |one {b:α} (h:R a b):Rch R a b
 |step {b c:α} (h:Rch R a b) (h2:R b c):Rch R a c
def Qdq (g:List Nd)(d:List Int)(id:Int): ∀(k:Nat) (l:List Int) (p:Pl) (v:Int),(p,v)∈insS g d id k l->p.1=id/\(k:Int)<=p.2/\p.2<(k:Int)+l.length
 |_,[],_,_,h=>by cases h
 |k,z::r,p,v,h=>by
  unfold insS at h;rw[Qi];rcases Qn.1 h with h|h
  injection h with H J;subst H;refine⟨rfl,Y7 _,?_⟩;simp only[];omega
  have:=Qdq g d id (k+1) r p v h;omega
def Qeh (g:List Nd)(d:List Int)(id:Int): ∀(k:Nat) (l:List Int),((insS g d id k l).map (·.1)).Nodup
 |_,[]=>Ym
 |k,z::r=>by
  unfold insS;rw[Q7,W5];refine⟨λh=>?_,Qeh g d id (k+1) r⟩;obtain⟨⟨p,v⟩,J,H⟩:=Xf.1 h;have:=Qdq g d id (k+1) r p v J;simp only[]at H;rw[H]at this;simp only[]at this;omega
def Qeu {g:List Nd}(d:List Int): ∀(k:Nat) (l:List Nd) (sp:Sp),sp∈spotsF g d k l->∃n∈l,n.1=sp.1.1
 |_,[],_,h=>by cases h
 |k,n::r,sp,h=>by
  unfold spotsF at h;rcases Qx.1 h with h|h
  exact⟨n,Ql ..,(Qdq g d n.1 0 _ sp.1 sp.2 h).1.symm⟩;rcases Qx.1 h with h|h
  unfold outS at h;split at h;rw[Qk]at h;subst h;exact⟨n,Ql ..,rfl⟩;cases h;obtain⟨m,H,J⟩:=Qeu d (k+1) r sp h;exact⟨m,Qh _ H,J⟩
def Qct {g:List Nd}(d:List Int): ∀(k:Nat) (l:List Nd),l.Pairwise (λa b=>a.1<b.1)->(∀n∈l,n.2.2.1.length<=2)->((spotsF g d k l).map (·.1)).Nodup
 |_,[],_,_=>Ym
 |k,n::r,hp,W=>by
  rw[List.pairwise_cons]at hp;have h2:=W n (Ql ..);unfold spotsF;rw[X5,Xd,X5,Xd];have hrest: ∀p∈(spotsF g d (k+1) r).map (·.1),p.1≠n.1:=λp H e=>by
   obtain⟨sp,N,rfl⟩:=Xf.1 H;obtain⟨m,J,h4⟩:=Qeu d (k+1) r sp N;have:=hp.1 m J;omega
  have hout: ∀p∈(outS n (iget d (k:Int))).map (·.1),p=(n.1,2):=λp H=>by
   unfold outS at H;split at H;simpa using H;cases H
  have O: ∀p∈(insS g d n.1 0 n.2.2.1).map (·.1),p.1=n.1/\p.2<2:=λp H=>by
   obtain⟨⟨q,v⟩,N,rfl⟩:=Xf.1 H;have:=Qdq g d n.1 0 _ q v N;simp only[];omega
  refine⟨Qeh g d n.1 0 _,⟨?_,Qct d (k+1) r hp.2 (λx Y=>W x (Qh _ Y)),?_⟩,?_⟩;unfold outS;split<;>simp;intro a V b L e;have J:=hout a V;subst e;exact hrest a L (by rw[J]);intro a V b L e;subst e;have J:=O a V;rcases Qx.1 L with L|L
  have:=hout a L;rw[this]at J;simp only[]at J;omega;exact hrest a L J.1
def useN_mem (id nd:Int): ∀(k:Nat) (l:List Int) (u:Pl),u∈useN id nd k l->u.1=nd/\∃j:Nat,u.2=(k:Int)+j/\j<l.length
 |_,[],u,h=>by cases h
 |k,z::r,u,h=>by
  unfold useN at h;have hrec:u∈useN id nd (k+1) r->u.1=nd/\∃j:Nat,u.2=(k:Int)+j/\j<(z::r).length:=λh=>by
   obtain⟨H,j,J,L⟩:=useN_mem id nd (k+1) r u h;exact⟨H,j+1,by omega,by rw[Qi];omega⟩
  split at h;rcases Qn.1 h with rfl|h
  exact⟨rfl,0,by simp,by rw[Qi];omega⟩;exact hrec h;exact hrec h
def insS_get (g:List Nd)(d:List Int)(id:Int): ∀(k:Nat) (l:List Int) (j:Nat),j<l.length->∃v,((id,(k:Int)+j),v)∈insS g d id k l
 |_,[],j,h=>by simp at h
 |k,z::r,j,h=>by
  unfold insS;cases j with
  |zero=>exact⟨iget d (idx g z),by simp⟩
  |succ j=>
   rw[Qi]at h;obtain⟨v,H⟩:=insS_get g d id (k+1) r j (by omega);refine⟨v,Qh _ ?_⟩;have e:(k:Int)+((j+1:Nat):Int)=((k+1:Nat):Int)+(j:Int):=by omega
   rw[e];exact H
def Qex {g:List Nd}(d:List Int): ∀(k:Nat) (l:List Nd) (n:Nd),n∈l->∀sp∈insS g d n.1 0 n.2.2.1,sp∈spotsF g d k l
 |_,[],_,h,_,_=>by cases h
 |k,m::r,n,h,sp,H=>by
  unfold spotsF;rcases Qn.1 h with rfl|h
  exact Wh _ H;exact We _ (We _ (Qex d (k+1) r n h sp H))
def Qej {g:List Nd}(d:List Int): ∀(k:Nat) (l:List Nd) (n:Nd),n∈l->n.2.1≠15->∃v,((n.1,2),v)∈spotsF g d k l
 |_,[],_,h,_=>by cases h
 |k,m::r,n,h,H=>by
  unfold spotsF;rcases Qn.1 h with rfl|h
  exact⟨iget d (k:Int),We _ (Wh _ (by unfold outS;rw[Qc H];simp))⟩;obtain⟨v,J⟩:=Qej d (k+1) r n h H;exact⟨v,We _ (We _ J)⟩
def Qhg (id:Int): ∀(l:List Nd) (u:Pl),u∈Qbb id l->∃n∈l,u.1=n.1/\∃j:Nat,u.2=(j:Int)/\j<n.2.2.1.length
 | [],u,h=>by cases h
 |n::r,u,h=>by
  unfold Qbb at h;rcases Qx.1 h with h|h
  obtain⟨H,j,J,L⟩:=useN_mem id n.1 0 _ u h;exact⟨n,Ql ..,H,j,by omega,L⟩;obtain⟨m,H,J⟩:=Qhg id r u h;exact⟨m,Qh _ H,J⟩
def inE_mem (g:List Nd)(d:List Int)(n:Nd): ∀(k:Nat) (l:List Int) (e:Ed),e∈inE g d n k l->e.1.1=n.1/\(k:Int)<=e.1.2/\e.1.2<(k:Int)+l.length/\e.2.1=(n.1,2)
 |_,[],_,h=>by cases h
 |k,z::r,e,h=>by
  unfold inE at h;rw[Qi];rcases Qn.1 h with rfl|h
  refine⟨rfl,Y7 _,?_,rfl⟩;simp only[];omega;have:=inE_mem g d n (k+1) r e h;refine⟨this.1,by omega,by omega,this.2.2.2⟩
def Qbl {g:List Nd}(d:List Int): ∀(k:Nat) (l:List Nd) (e:Ed),e∈Qau g d k l->∃n∈l,e.1.1=n.1/\((n.2.1≠15/\e.2.1=(n.1,2)/\0<=e.1.2/\e.1.2<n.2.2.1.length)\/(e.1.2=2/\∃m∈g,e.2.1.1=m.1/\∃j:Nat,e.2.1.2=(j:Int)/\j<m.2.2.1.length))
 |_,[],_,h=>by cases h
 |k,n::r,e,h=>by
  unfold Qau at h;have hrec:e∈Qau g d (k+1) r->∃m∈n::r,e.1.1=m.1/\((m.2.1≠15/\e.2.1=(m.1,2)/\0<=e.1.2/\e.1.2<m.2.2.1.length)\/(e.1.2=2/\∃q∈g,e.2.1.1=q.1/\∃j:Nat,e.2.1.2=(j:Int)/\j<q.2.2.1.length)):=λh=>by
   obtain⟨m,H,J⟩:=Qbl d (k+1) r e h;exact⟨m,Qh _ H,J⟩
  split at h;exact hrec h;rename_i L;rcases Qx.1 h with h|h
  obtain⟨H,J,V,N⟩:=inE_mem g d n 0 _ e h;exact⟨n,Ql ..,H,.inl ⟨L,N,by omega,by omega⟩⟩;rcases Qx.1 h with h|h
  unfold outE at h;obtain⟨u,O,rfl⟩:=Xf.1 h;obtain⟨m,H,J⟩:=Qhg n.1 g u O;exact⟨n,Ql ..,rfl,.inr ⟨rfl,m,H,J⟩⟩;exact hrec h
def edge_to {g:List Nd}(d:List Int){e:Ed}(J:e∈Qaj g d): ∃v,(e.2.1,v)∈spots g d:=by
 obtain⟨n,L,h1,h|h⟩:=Qbl d 0 g e J;obtain⟨v,H⟩:=Qej d 0 g n L h.1;exact⟨v,by rw[h.2.1];exact H⟩;obtain⟨_,m,N,O,j,V,W⟩:=h;obtain⟨v,H⟩:=insS_get g d m.1 0 m.2.2.1 j W;refine⟨v,Qex d 0 g m N _ ?_⟩;have Y:e.2.1=(m.1,((0:Nat):Int)+(j:Int)):=Prod.ext O (by rw[V];simp);rw[Y];exact H
def Qgu {g:List Nd}(d:List Int){e:Ed}(H:e∈Qaj g d): ∃n∈g,e.1.1=n.1:=by
 obtain⟨n,J,L,_⟩:=Qbl d 0 g e H;exact⟨n,J,L⟩
def edge_out {g:List Nd}(d:List Int)(H:Own g){e:Ed}(J:e∈Qaj g d)(V:e.2.1.2=2):e.1.1=e.2.1.1/\e.1.2≠2:=by
 obtain⟨n,L,N,h|h⟩:=Qbl d 0 g e J;have:=in2 H L;exact⟨by rw[N,h.2.1],by omega⟩;obtain⟨_,m,O,_,j,W,Y⟩:=h;have:=in2 H O;omega
def atS_mem {p:Pl}: ∀{l:List Sp} {v:Int},(l.map (·.1)).Nodup->(p,v)∈l->atS p l=v
 | [],_,_,h=>by cases h
 |x::r,v,H,h=>by
  rw[Q7,W5]at H;unfold atS;rcases Qn.1 h with rfl|h
  rw[Qc rfl];rw[Qb (λe=>H.1 (by rw[e];exact List.mem_map_of_mem (f:=(·.1)) h))];exact atS_mem H.2 h
def R_at_eq (l:List Sp)(p:Pl)(L:l.length<=100000):F.eu l p=some (atS p l):=
 A.lp0 l (λf y=>F.df l p f y) (λ_ t=>some (atS p t))
  (λf=>by rw[F.df,Qb (by omega)];rfl)
  (λf k x H hk J=>by
   rw[F.df,Qc (by omega),A.ixn H,Qa,Qa,atS];by_cases h:x.1=p;rw[Qc (show x.1=p from h),Qc h];rw[Qb (show ¬x.1=p from h),Qb h,A.gd1 (A.r64n (by omega)),J])
  (by have:=Qab;omega)
def R_on_eq (l:List Pl)(p:Pl)(N:l.length<=100000):F.ej l p=some (decide (p∈l)):=
 A.lp0 l (λf y=>F.dg l p f y) (λ_ t=>some (decide (p∈t)))
  (λf=>by rw[F.dg,Qb (by omega)];simp)
  (λf k x J hk L=>by
   rw[F.dg,Qc (by omega),A.ixn J,Qa];by_cases h:x=p;rw[Qc (show x=p from h)];simp[h];rw[Qb (show ¬x=p from h),A.gd1 (A.r64n (by omega)),L];congr 1;exact decide_eq_decide.2 ⟨λH=>Qh _ H,λH=>(Qn.1 H).resolve_left λe=>h e.symm⟩)
  (by have:=Qab;omega)
def Qbm (g:List Nd)(S:List Sp)(dd:Int)(e:Ed):Bool:=decide (dd<=atS e.2.1 S)&&(decide ((find g e.1.1).1.2.1≠14)||decide ((find g e.1.1).1.2.2.2.2.2.2≠dd)||decide (e.1.2=2))
def R_open_eq (g:List Nd)(S:List Sp)(e:Ed)(dd:Int)(L:Few g)(H:Inc g)(N:S.length<=100000)(O: ∃n∈g,e.1.1=n.1):F.dS g S e dd=some (Qbm g S dd e):=by
 obtain⟨n,V,W⟩:=O;obtain⟨j,J⟩:=Wt.1 V;unfold F.dS Qbm;rw[W,Find_eq g L H J,Qa,show F.eu S e.2.1=_ from R_at_eq S e.2.1 N,Qa,Qde H J];by_cases h:dd<=atS e.2.1 S;rw[Qc h,Wc h,Xz];congr 1;rw[Qb h,Wk h,Y2]
def addR (g:List Nd)(S:List Sp)(dd:Int)(cur:Pl):List Ed->List Pl->List Pl
 | [],r=>r
 |e::t,r=>addR g S dd cur t (if e.1=cur/\Qbm g S dd e=true/\e.2.1∉r then r++[e.2.1]else r)
def round_l3 (g:List Nd)(S:List Sp)(E:List Ed)(from_:Sp)(H:List Pl->List Pl->Int->Option Bool)(y:Nat)(cur:Pl)(r:List Pl)(hb:Few g)(hi:Inc g)(hS:S.length<=100000)(hE:E.length<=5000)(hf: ∀e∈E,∃n∈g,e.1.1=n.1)(hc:(from_.1::r)[y]?=some cur)(hy:y<=10000)(hr:r.length<=9000)(hall: ∀k,(addR g S from_.2 cur (E.take k) r).length<=9000):
  F.aq H g S E from_ (y:Int) A.FU r (from_.1::r) 0=H (addR g S from_.2 cur E r) (from_.1::addR g S from_.2 cur E r) ((y:Int)+1):=
 A.lp E (λf (s:List Pl×List Pl) i=>F.aq H g S E from_ (y:Int) f s.1 s.2 i) (λk t s=>H (addR g S from_.2 cur t s.1) (from_.1::addR g S from_.2 cur t s.1) ((y:Int)+1)) (λk s=>s.2=from_.1::s.1/\s.2[y]?=some cur/\s.1=addR g S from_.2 cur (E.take k) r)
  (λf s Y=>by
   rw[F.aq,Qb (by omega),A.gd1 (A.r64n (by omega)),Y.1];rfl)
  (λf s k e N hk Y ih=>by
   obtain⟨q,r'⟩:=s;obtain⟨O,J,h3⟩:=Y;simp only[]at O J h3;have hlen:q.length<=9000:=by rw[h3];exact hall _
   have hsnoc: ∀(t:List Ed) (e:Ed) (r:List Pl),addR g S from_.2 cur (t++[e]) r=(if e.1=cur/\Qbm g S from_.2 e=true/\e.2.1∉addR g S from_.2 cur t r then addR g S from_.2 cur t r++[e.2.1]else addR g S from_.2 cur t r):=by
    intro t;induction t with
    |nil=>intro e r;rfl
    |cons x t iht=>intro e r;rw[Wz,addR,addR];exact iht e _
   have hnext:addR g S from_.2 cur (E.take (k+1)) r=if e.1=cur/\Qbm g S from_.2 e=true/\e.2.1∉q then q++[e.2.1]else q:=by
    rw[Qef N,hsnoc,<-h3]
   have hopen:=R_open_eq g S e from_.2 hb hi hS (hf e (Qg N));rw[F.aq,Qc (by omega),A.ixn N,Qa,A.ixn J,Qa,addR];simp only[F.cM,F.dh,A.ixn N,Qa,A.gd1 (A.r64n (n:=k) (by omega)),Qw,Wb];have stay: ¬(e.1=cur/\Qbm g S from_.2 e=true/\e.2.1∉q)->F.aq H g S E from_ (y:Int) f q r' ((k:Int)+1)=H (addR g S from_.2 cur (E.drop (k+1)) (if e.1=cur/\Qbm g S from_.2 e=true/\e.2.1∉q then q++[e.2.1]else q)) (from_.1::addR g S from_.2 cur (E.drop (k+1)) (if e.1=cur/\Qbm g S from_.2 e=true/\e.2.1∉q then q++[e.2.1]else q)) ((y:Int)+1):=λhn=>by
    rw[Qb hn]at hnext ⊢;exact ih (q,r') ⟨O,J,hnext.symm⟩
   by_cases hcur:e.1=cur;rw[Qc (show e.1=cur from hcur),show F.dS g S e from_.2=_ from hopen,Qa];by_cases V:Qbm g S from_.2 e=true;rw[Qc V,show F.ej q e.2.1=_ from R_on_eq q e.2.1 (by omega),Qa];by_cases W:e.2.1∈q;rw[Wc W,Xe,Qb Wa];exact stay λh=>h.2.2 W;have L:e.1=cur/\Qbm g S from_.2 e=true/\e.2.1∉q:=⟨hcur,V,W⟩;rw[Wk W,X1,Qc rfl,A.gd1 (by simp only[Qi,Qm];omega),A.gd1 (by rw[O];simp only[Qi,Qm];omega),Qc L];rw[Qc L]at hnext;refine ih (q++[e.2.1],r'++[e.2.1]) ⟨?_,?_,hnext.symm⟩;simp only[O,Wz];simp only[];rw[Q9 (Qd.1 J).1];exact J;rw[Qb V];exact stay λh=>V h.2.1;rw[Qb (show ¬e.1=cur from hcur)];exact stay λh=>hcur h.1)
  (by have:=Qab;omega) (r,from_.1::r) ⟨rfl,hc,rfl⟩
def okE (g:List Nd)(S:List Sp)(E:List Ed)(dd:Int)(p q:Pl):Prop:=∃e∈E,e.1=p/\e.2.1=q/\Qbm g S dd e=true
def Qcg (g:List Nd)(S:List Sp)(dd:Int)(cur:Pl): ∀(t:List Ed) (r:List Pl),∃x,addR g S dd cur t r=r++x/\(∀p∈x,∃e∈t,e.1=cur/\e.2.1=p/\Qbm g S dd e=true)/\(r.Nodup->(r++x).Nodup)/\(∀e∈t,e.1=cur->Qbm g S dd e=true->e.2.1∈r++x)
 | [],r=>⟨[],by rw[addR,Wj],by simp,by simp,by simp⟩
 |e::t,r=>by
  rw[addR];by_cases h:e.1=cur/\Qbm g S dd e=true/\e.2.1∉r;rw[Qc h];obtain⟨x,L,N,O,V⟩:=Qcg g S dd cur t (r++[e.2.1]);refine⟨e.2.1::x,by rw[L];simp,λp hp=>?_,λhn=>?_,λJ H a b=>?_⟩;rcases Qn.1 hp with rfl|hp
  exact⟨e,Ql ..,h.1,rfl,h.2.1⟩;obtain⟨J,a,b⟩:=N p hp;exact⟨J,Qh _ a,b⟩;have:=O (Xd.2 ⟨hn,by simp,λa ha b W=>by rw[Qk]at W;subst W;intro J;subst J;exact h.2.2 ha⟩);simpa using this;rcases Qn.1 H with rfl|H
  simp;have:=V J H a b;simpa using this;rw[Qb h];obtain⟨x,L,N,O,V⟩:=Qcg g S dd cur t r;refine⟨x,L,λp hp=>?_,O,λJ H a b=>?_⟩;obtain⟨J,a,b⟩:=N p hp;exact⟨J,Qh _ a,b⟩;rcases Qn.1 H with rfl|H
  refine Wh _ ?_;by_cases Y:J.2.1∈r;exact Y;exact absurd ⟨a,b,Y⟩ h;exact V J H a b
def nodup_len {α:Type}[DecidableEq α]: ∀{l m:List α},l.Nodup->(∀x∈l,x∈m)->l.length<=m.length
 | [],m,_,_=>X7 _
 |a::l,m,H,h=>by
  rw[W5]at H;have J:=h a (Ql ..);have:=nodup_len (l:=l) (m:=m.erase a) H.2 λx L=>(List.mem_erase_of_ne (λe=>by subst e;exact H.1 L)).2 (h x (Qh _ L));rw[List.length_erase_of_mem J]at this;have hpos:0<m.length:=List.length_pos_of_mem J;rw[Qi];omega
def round_eq (g:List Nd)(S:List Sp)(E:List Ed)(from_:Sp)(hb:Few g)(hi:Inc g)(hS:S.length<=100000)(hE:E.length<=4000)(hf: ∀e∈E,∃n∈g,e.1.1=n.1):
  ∃b,F.dH g S E from_=some b/\(b=true↔Rch (okE g S E from_.2) from_.1 from_.1):=by
 have sub: ∀(r:List Pl),r.Nodup->(∀p∈r,∃e∈E,e.2.1=p)->r.length<=4000:=λr J h=>by
  have:=nodup_len (m:=E.map λe=>e.2.1) J λp hp=>by obtain⟨e,V,O⟩:=h p hp;exact Xf.2 ⟨e,V,O⟩
  rw[Wd]at this;omega
 have main: ∀(n f y:Nat) (r:List Pl),y+n=4002->n<f->r.Nodup->y<=1+r.length->(∀p∈r,∃e∈E,e.2.1=p)->(∀p∈r,Rch (okE g S E from_.2) from_.1 p)->(∀i p q,i<y->(from_.1::r)[i]?=some p->okE g S E from_.2 p q->q∈r)->
   ∃b,F.bn g S E from_ f r (from_.1::r) (y:Int)=some b/\(b=true↔Rch (okE g S E from_.2) from_.1 from_.1):=by
  intro n;induction n with
  |zero=>
   intro f y r hy hf' J W hsub _ _;have:=sub r J hsub;omega
  |succ n ih=>
   intro f y r hy hf' J W hsub hreach hclosed;obtain⟨f,rfl⟩: ∃f',f=f'+1:=⟨f-1,by omega⟩;have hl:=sub r J hsub;rw[F.bn];by_cases h:y<1+r.length;obtain⟨cur,hcur⟩: ∃c,(from_.1::r)[y]?=some c:=⟨_,Qf (by rw[Qi];omega)⟩;obtain⟨x,V,O,h3,h4⟩:=Qcg g S from_.2 cur E r;have hsub2: ∀p∈r++x,∃e∈E,e.2.1=p:=λp hp=>by
    rcases Qx.1 hp with hp|hp
    exact hsub p hp;obtain⟨e,a,_,b,_⟩:=O p hp;exact⟨e,a,b⟩
   have hall: ∀k,(addR g S from_.2 cur (E.take k) r).length<=9000:=λk=>by
    obtain⟨x',a,b,c,_⟩:=Qcg g S from_.2 cur (E.take k) r;have:=sub (r++x') (c J) λp hp=>by
     rcases Qx.1 hp with hp|hp
     exact hsub p hp;obtain⟨e,a2,_,b2,_⟩:=b p hp;exact⟨e,List.mem_of_mem_take a2,b2⟩
    rw[a];omega
   rw[Qc (by rw[Qi];omega),round_l3 g S E from_ _ y cur r hb hi hS (by omega) hf hcur (by omega) (by omega) hall,V];have e1:(y:Int)+1=((y+1:Nat):Int):=by omega
   rw[e1];have H:cur=from_.1\/Rch (okE g S E from_.2) from_.1 cur:=by
    cases y with
    |zero=>injection hcur with hcur;exact .inl hcur.symm
    |succ y=>exact .inr (hreach cur (Qg (by simpa using hcur)))
   refine ih f (y+1) (r++x) (by omega) (by omega) (h3 J) (by rw[Qe];omega) hsub2 (λp hp=>?_) λi p q hi2 hp L=>?_;rcases Qx.1 hp with hp|hp
   exact hreach p hp;obtain⟨e,a,b,c,d2⟩:=O p hp;rcases H with H|H
   exact .one ⟨e,a,b.trans H,c,d2⟩;exact .step H ⟨e,a,b,c,d2⟩;rw[<-Wz,Q9 (by rw[Qi];omega)]at hp;rcases Yn i y with h5|h5
   exact Wh _ (hclosed i p q h5 hp L);obtain rfl:i=y:=by omega
   rw[hcur]at hp;injection hp with hp;subst hp
   obtain⟨e,a,b,c,d2⟩:=L;rw[<-c];exact h4 e a b d2;rw[Qb (by rw[Qi];omega),show F.ej r from_.1=_ from R_on_eq r from_.1 (by omega),Qa];refine⟨_,rfl,?_⟩;rw[Qt];refine⟨hreach _,λhr=>?_⟩;have Y: ∀q,Rch (okE g S E from_.2) from_.1 q->q∈r:=λq hq=>by
    induction hq with
    |one h6=>exact hclosed 0 _ _ (by omega) rfl h6
    |step h6 h7 ih2=>
     obtain⟨i,N⟩:=Wt.1 ih2;have:=(Qd.1 N).1;exact hclosed (i+1) _ _ (by omega) (by simpa using N) h7
   exact Y _ hr
 exact main 4002 A.FU 0 [] (by omega) (by have:=Qab;omega) Ym (by simp) (by simp) (by simp) (λi p q h=>by omega)
abbrev Seen:=List (Pl×Bool)
def seen (m:Seen)(v:Pl):Prop:=Z.mget false m v=true
def addP (deep:List Sp)(from_:Pl)(dd:Int):List Pl->Seen->List Pl->Option (Seen×List Pl)
 | [],m,xs=>some (m,xs)
 |t::r,m,xs=>if t=from_ then none else if dd<=Z.mget 0 deep t/\Z.mget false m t=false then addP deep from_ dd r (Z.mins m t true) (xs++[t])else addP deep from_ dd r m xs
def reaches_l3 (deep:List Sp)(from_:Pl)(dd:Int)(J:Seen->List Pl->Option Bool)(tos:List Pl)(m:Seen)(xs:List Pl)(hl:tos.length<=4000)(hx:xs.length<=10000):
  F.i J deep from_ dd tos A.FU m xs 0=match addP deep from_ dd tos m xs with
   |none=>some true
   |some s=>J s.1 s.2:=
 A.lp tos (λf (s:Seen×List Pl) i=>F.i J deep from_ dd tos f s.1 s.2 i) (λ_ t s=>match addP deep from_ dd t s.1 s.2 with
   |none=>some true
   |some s=>J s.1 s.2) (λk s=>s.2.length<=10000+k)
  (λf s Y=>by rw[F.i,Qb (by omega),addP])
  (λf s k t ht hk Y O=>by
   rw[F.i,Qc (by omega),A.ixn ht,Qa,addP,A.lt];simp only[F.bb,F.ba,A.lt,A.gd1 (A.r64n (n:=k) (by omega)),Qw,Wb];by_cases h:t=from_;rw[Qc (show t=from_ from h),Qc h];rw[Qb (show ¬t=from_ from h),Qb h];by_cases L:dd<=Z.mget 0 deep t;rw[Qc (show dd<=Z.mget 0 deep t from L)];by_cases N:Z.mget false s.1 t=false;have V:dd<=Z.mget 0 deep t/\Z.mget false s.1 t=false:=⟨L,N⟩;rw[Qc V,show Z.mget false s.1 t=false from N,X1,Qc rfl,A.gd1 (by simp only[Qi,Qm];omega)];exact O (Z.mins s.1 t true,s.2++[t]) (by simp only[Qe,Qi,Qm];omega);have W:Z.mget false s.1 t=true:=by cases H:Z.mget false s.1 t with
    |true=>rfl
    |false=>exact absurd H N
   have V: ¬(dd<=Z.mget 0 deep t/\Z.mget false s.1 t=false):=λH=>N H.2;rw[Qb V,show Z.mget false s.1 t=true from W,Xe,Qb Wa];exact O s (by omega);rw[Qb (show ¬dd<=Z.mget 0 deep t from L),Qb (λH=>L H.1)];exact O s (by omega))
  (by have:=Qab;omega) (m,xs) (by simp only[];omega)
def un (T:List Pl)(m:Seen):Nat:=(T.filter λt=> !(Z.mget false m t)).length
def un_ins {T:List Pl}{m:Seen}{t:Pl}(H:t∈T)(J:Z.mget false m t=false):un T (Z.mins m t true)+1<=un T m:=by
 unfold un;have mono: ∀(l:List Pl),(l.filter λt'=> !(Z.mget false (Z.mins m t true) t')).length<=(l.filter λt'=> !(Z.mget false m t')).length:=by
  intro l;induction l with
  |nil=>exact Q4 _
  |cons a l L=>
   rw[Yc,Yc,Uy];by_cases e:a=t;rw[Qc e,e,J];simp only[Xe,Qw,Wb,X1,W8,Qi];omega;rw[Qb e];split<;>(try simp only[Qi])<;>omega
 induction T with
 |nil=>cases H
 |cons a l L=>
  rw[Yc,Yc,Uy];have:=mono l;by_cases e:a=t;rw[Qc e,e,J];simp only[Xe,Qw,Wb,X1,W8,Qi];omega;have:=L ((Qn.1 H).resolve_left λh=>e h.symm);rw[Qb e];split<;>(try simp only[Qi])<;>omega
def Qdt {deep:List Sp}{from_:Pl}{dd:Int}: ∀{tos:List Pl} {m:Seen} {xs:List Pl},addP deep from_ dd tos m xs=none->from_∈tos
 | [],_,_,h=>by cases h
 |t::r,m,xs,h=>by
  rw[addP]at h;by_cases e:t=from_;rw[e];exact Ql ..;rw[Qb e]at h;split at h;exact Qh _ (Qdt h);exact Qh _ (Qdt h)
def Qca {m:Seen}{t v:Pl}:seen (Z.mins m t true) v↔v=t\/seen m v:=by
 unfold seen;rw[Uy];by_cases e:v=t;rw[Qc e];simp[e];rw[Qb e];simp[e]
def addP_some {deep:List Sp}{from_:Pl}{dd:Int}{T:List Pl}: ∀{tos:List Pl} {m m':Seen} {xs xs':List Pl},(∀t∈tos,t∈T)->addP deep from_ dd tos m xs=some (m',xs')->
  from_∉tos/\(∀v,seen m v->seen m' v)/\(∀v,seen m' v->seen m v\/(v∈tos/\dd<=Z.mget 0 deep v))/\(∀t∈tos,dd<=Z.mget 0 deep t->seen m' t)/\(∀v∈xs,v∈xs')/\(∀v∈xs',v∈xs\/seen m' v)/\(∀v,seen m' v->seen m v\/v∈xs')/\xs'.length+un T m'<=xs.length+un T m
 | [],m,m',xs,xs',_,h=>by
  injection h with h;injection h with Y H;subst Y;subst H
  exact⟨by simp,λv h=>h,λv h=>.inl h,by simp,λv h=>h,λv h=>.inl h,λv h=>.inl h,Q4 _⟩
 |t::r,m,m',xs,xs',W,h=>by
  rw[addP]at h;by_cases e:t=from_;rw[Qc e]at h;cases h;rw[Qb e]at h;by_cases V:dd<=Z.mget 0 deep t/\Z.mget false m t=false;rw[Qc V]at h;obtain⟨a1,a2,a3,a4,a5,a6,a7,a8⟩:=addP_some (λx J=>W x (Qh _ J)) h;have hun:=un_ins (W t (Ql ..)) V.2;refine⟨λH=>(Qn.1 H).elim (λO=>e O.symm) a1,λv L=>a2 v (Qca.2 (.inr L)),λv L=>?_,λx J N=>?_,λv L=>a5 v (Wh _ L),λv L=>?_,λv L=>?_,by rw[Qe]at a8;simp only[Qi,Qm]at a8;omega⟩;rcases a3 v L with H|H
  rcases Qca.1 H with rfl|O
  exact .inr ⟨Ql ..,V.1⟩;exact .inl O;exact .inr ⟨Qh _ H.1,H.2⟩;rcases Qn.1 J with rfl|J
  exact a2 _ (Qca.2 (.inl rfl));exact a4 x J N;rcases a6 v L with H|H
  rcases Qx.1 H with H|H
  exact .inl H;rw[Qk]at H;subst H;exact .inr (a2 _ (Qca.2 (.inl rfl)));exact .inr H;rcases a7 v L with H|H
  rcases Qca.1 H with rfl|O
  exact .inr (a5 _ (We _ (Qk.2 rfl)));exact .inl O;exact .inr H;rw[Qb V]at h;obtain⟨a1,a2,a3,a4,a5,a6,a7,a8⟩:=addP_some (λx J=>W x (Qh _ J)) h;refine⟨λH=>(Qn.1 H).elim (λO=>e O.symm) a1,a2,λv L=>?_,λx J N=>?_,a5,a6,a7,a8⟩;rcases a3 v L with H|H
  exact .inl H;exact .inr ⟨Qh _ H.1,H.2⟩;rcases Qn.1 J with rfl|J
  refine a2 _ ?_;unfold seen;cases H:Z.mget false m x with
  |true=>rfl
  |false=>exact absurd ⟨N,H⟩ V
  exact a4 x J N
def blk (g:List Nd)(dd:Int)(p:Pl):Prop:=(Z.mget ((0,0,[],(0,0,(ByteArray.mk #[])),(ByteArray.mk #[]),0,0):Nd) (Qac g) p.1).2.1=14/\(Z.mget ((0,0,[],(0,0,(ByteArray.mk #[])),(ByteArray.mk #[]),0,0):Nd) (Qac g) p.1).2.2.2.2.2.2=dd
def okP (g:List Nd)(steps:List (Pl×List Pl))(deep:List Sp)(dd:Int)(p q:Pl):Prop:=q∈Z.mget [] steps p/\¬blk g dd p/\dd<=Z.mget 0 deep q
def reaches_eq (g:List Nd)(a0:(List (Int×Nd))×(List Int)×(List (Int×Int)))(h0:a0.1=Qac g)(steps:List (Pl×List Pl))(deep:List Sp)(from_:Pl)(dd:Int)(T:List Pl)(hT:T.length<=4000)(hst: ∀p q,q∈Z.mget [] steps p->q∈T)(hsl: ∀p,(Z.mget [] steps p).length<=4000)(hfd:dd<=Z.mget 0 deep from_):
  ∃b,F.aJ a0 steps deep from_ dd=some b/\(b=true↔Rch (okP g steps deep dd) from_ from_):=by
 have main: ∀(n f:Nat) (m:Seen) (xs:List Pl),xs.length+un T m<=n->n<f->xs.length<=9000->xs.length+un T m<=9000->(∀v,seen m v->Rch (okP g steps deep dd) from_ v)->(∀t∈xs,t=from_\/seen m t)->(∀v,v=from_\/seen m v->v∉xs->∀w,okP g steps deep dd v w->w≠from_/\seen m w)->
   ∃b,F.j a0 steps deep from_ dd f m xs=some b/\(b=true↔Rch (okP g steps deep dd) from_ from_):=by
  intro n;induction n with
  |zero=>
   intro f m xs hn hf hx900 _ i1 i2 O;obtain⟨f,rfl⟩: ∃f',f=f'+1:=⟨f-1,by omega⟩;have hx:xs=[]:=Qz (by omega);subst hx;rw[F.j,Qb (by simp)];refine⟨false,rfl,λh=>(by cases h),λh=>?_⟩;have V: ∀q,Rch (okP g steps deep dd) from_ q->q≠from_/\seen m q:=λq hq=>by
    induction hq with
    |one h6=>exact O from_ (.inl rfl) (by simp) _ h6
    |step h6 h7 W=>exact O _ (.inr W.2) (by simp) _ h7
   exact absurd rfl (V _ h).1
  |succ n ih=>
   intro f m xs hn hf hx900 hu900 i1 i2 O;obtain⟨f,rfl⟩: ∃f',f=f'+1:=⟨f-1,by omega⟩;rw[F.j];by_cases Y:xs=[];subst Y;rw[Qb (by simp)];refine⟨false,rfl,λh=>(by cases h),λh=>?_⟩;have V: ∀q,Rch (okP g steps deep dd) from_ q->q≠from_/\seen m q:=λq hq=>by
    induction hq with
    |one h6=>exact O from_ (.inl rfl) (by simp) _ h6
    |step h6 h7 W=>exact O _ (.inr W.2) (by simp) _ h7
   exact absurd rfl (V _ h).1;obtain⟨ys,at_,rfl⟩: ∃ys a,xs=ys++[a]:=⟨xs.dropLast,xs.getLast Y,(List.dropLast_concat_getLast Y).symm⟩;have hl:(ys++[at_]).length=ys.length+1:=by simp
   have e1:(((ys++[at_]).length:Int)-1)=(ys.length:Int):=by rw[hl];omega
   have hat:(ys++[at_])[ys.length]?=some at_:=by simp
   rw[Qc (by omega),A.gd1 ⟨by omega,by omega⟩,e1,A.ixn hat,Qa,A.gd1 ⟨by omega,by omega⟩,A.gd1 ⟨by omega,by rw[Q0];omega⟩,A.lt,F.bT,e1,Q0,A.ba,h0];have htake:List.take ys.length (ys++[at_])=ys:=by simp
   rw[htake];have hatr:at_=from_\/seen m at_:=i2 at_ (by simp);by_cases hb:blk g dd at_;rw[Qc (show decide ((Z.mget ((0,0,[],(0,0,(ByteArray.mk #[])),(ByteArray.mk #[]),0,0):Nd) (Qac g) at_.1).2.1=14/\(Z.mget ((0,0,[],(0,0,(ByteArray.mk #[])),(ByteArray.mk #[]),0,0):Nd) (Qac g) at_.1).2.2.2.2.2.2=dd)=true from Wc hb)];refine ih f m ys (by omega) (by omega) (by omega) (by omega) i1 (λt ht=>i2 t (Wh _ ht)) λv hv L w N=>?_;by_cases e:v=at_;subst e;exact absurd hb N.2.1;exact O v hv (λh=>by
    rcases Qx.1 h with h|h
    exact L h;exact e (Qk.1 h)) w N
   rw[Qb (show ¬decide ((Z.mget ((0,0,[],(0,0,(ByteArray.mk #[])),(ByteArray.mk #[]),0,0):Nd) (Qac g) at_.1).2.1=14/\(Z.mget ((0,0,[],(0,0,(ByteArray.mk #[])),(ByteArray.mk #[]),0,0):Nd) (Qac g) at_.1).2.2.2.2.2.2=dd)=true from λh=>hb (by have h9:=W6 h;exact h9)),A.lt,show Z.mget [] steps at_=Z.mget [] steps at_ from rfl,reaches_l3 deep from_ dd _ _ m ys (hsl at_) (by omega)];cases hadd:addP deep from_ dd (Z.mget [] steps at_) m ys with
   |none=>
    have hfrom:=Qdt hadd;have H:okP g steps deep dd at_ from_:=⟨hfrom,hb,hfd⟩;refine⟨true,rfl,λ_=>?_,λ_=>rfl⟩;rcases hatr with h|h
    rw[h]at H;exact .one H;exact .step (i1 at_ h) H
   |some s=>
    obtain⟨m',xs'⟩:=s;obtain⟨a1,a2,a3,a4,a5,a6,a7,a8⟩:=addP_some (T:=T) (hst at_) hadd;simp only[];refine ih f m' xs' (by omega) (by omega) (by omega) (by omega) (λv hv=>?_) (λt ht=>?_) λv hv L w N=>?_;rcases a3 v hv with h|h
    exact i1 v h;have H:okP g steps deep dd at_ v:=⟨h.1,hb,h.2⟩;rcases hatr with J|J
    rw[J]at H;exact .one H;exact .step (i1 at_ J) H;rcases a6 t ht with h|h
    rcases i2 t (Wh _ h)with J|J
    exact .inl J;exact .inr (a2 t J);exact .inr h;have hv2:v=from_\/seen m v:=by
     rcases hv with h|h
     exact .inl h;rcases a7 v h with J|J
     exact .inr J;exact absurd J L
    by_cases e:v=at_;subst e;exact⟨λh=>a1 (h▸N.1),a4 w N.1 N.2.2⟩;obtain⟨h1,J⟩:=O v hv2 (λh=>by
     rcases Qx.1 h with h|h
     exact L (a5 v h);exact e (Qk.1 h)) w N
    exact⟨h1,a2 w J⟩
 have hu:un T []<=T.length:=Y3 _ _;exact main (1+T.length) A.FU [] [from_] (by simp;omega) (by have:=Qab;omega) (by simp) (by simp;omega) (λv h=>by cases h) (λt ht=>.inl (Qk.1 ht)) (λv hv hx w N=>by
  rcases hv with h|h
  exact absurd (Qk.2 h) hx;cases h)
def mget_mem {p:Pl}: ∀{l:List Sp} {v:Int},(l.map (·.1)).Nodup->(p,v)∈l->Z.mget 0 l p=v
 | [],_,_,h=>by cases h
 |(a,w)::r,v,H,h=>by
  rw[Q7,W5]at H;unfold Z.mget;rcases Qn.1 h with h|h
  injection h with J L;rw[Qc J,L]
  rw[Qb (λe=>H.1 (by rw[<-e];exact List.mem_map_of_mem (f:=(·.1)) h))];exact mget_mem H.2 h
def mhas_app {l:List Sp}{p:Pl}(h:p∉l.map (·.1)):Z.mhas l p=false:=by
 induction l with
 |nil=>rfl
 |cons a r H=>
  rw[Q7,Qn,not_or]at h;obtain⟨q,v⟩:=a;unfold Z.mhas;rw[Qb h.1];exact H h.2
def toOf (E:List Ed)(p:Pl):List Pl:=(E.filter λe=>decide (e.1=p)).map λe=>e.2.1
def turns_l2 (a0:(List (Int×Nd))×(List Int)×(List (Int×Int)))(S:List Sp)(E:List Ed)(O:E.length<=4000): ∃st,(∀p,Z.mget [] st p=toOf E p)/\F.x a0 S E A.FU [] 0=A.mrg (F.aG a0 S st) (some false) S:=by
 have main: ∀(n k f:Nat) (m:List (Pl×List Pl)),k+n=E.length->n<f->(∀p,Z.mget [] m p=toOf (E.take k) p)->∃st,(∀p,Z.mget [] st p=toOf E p)/\F.x a0 S E f m (k:Int)=A.mrg (F.aG a0 S st) (some false) S:=by
  intro n;induction n with
  |zero=>
   intro k f m hk L H;obtain⟨f,rfl⟩: ∃f',f=f'+1:=⟨f-1,by omega⟩;rw[Wf (by omega)]at H;exact⟨m,H,by rw[F.x,Qb (by omega)]⟩
  |succ n N=>
   intro k f m hk L H;obtain⟨f,rfl⟩: ∃f',f=f'+1:=⟨f-1,by omega⟩;have J:E[k]?=some E[k]:=Qf (by omega);generalize E[k]=x at J;have hlen:(Z.mget [] m x.1).length<=4000:=by
    rw[H];unfold toOf;rw[Wd];have:=Y3 (λe:Ed=>decide (e.1=x.1)) (E.take k);rw[Qo]at this;omega
   rw[F.x,Qc (by omega),A.ixn J,Qa,A.gd1 (by rw[show Z.mget [] m x.1=Z.mget [] m x.1 from rfl];simp only[Qi,Qm];omega),A.gd1 (A.r64n (by omega))];refine N (k+1) f _ (by omega) (by omega) λp=>?_;rw[show Z.mins m x.1 (Z.mget [] m x.1++[x.2.1])=Z.mins m x.1 (Z.mget [] m x.1++[x.2.1])from rfl,Uy,Qef J];unfold toOf;rw[List.filter_append,X5,Yc,List.filter_nil];by_cases e:p=x.1;subst e;rw[Qc rfl,H,Qc (Wc rfl)];rfl;rw[Qb e,H,Qb (by simp only[Qt];exact λh=>e h.symm),Xh,Wj];rfl
 exact main E.length 0 A.FU [] (by omega) (by have:=Qab;omega) (λp=>rfl)
def turns_l3 (g:List Nd)(a0:(List (Int×Nd))×(List Int)×(List (Int×Int)))(S:List Sp)(E:List Ed)(W:S.length<=4000)(N:(S.map (·.1)).Nodup)(O:F.a7 a0 g=some E):F.am a0 g S A.FU [] 0=F.x a0 S E A.FU [] 0:=
 A.lp S (λf (m:List Sp) i=>F.am a0 g S f m i) (λ_ _ _=>F.x a0 S E A.FU [] 0) (λk m=>m=S.take k)
  (λf m H=>by
   rw[Wf (Q4 _)]at H;rw[F.am,Qb (by omega),show F.a7 a0 g=some E from O,Qa,H])
  (λf m k x J hk H V=>by
   rw[F.am,Qc (by omega),A.ixn J,Qa,A.gd1 (A.r64n (by omega))];refine V _ ?_;rw[show Z.mins m x.1 x.2=Z.mins m x.1 x.2 from rfl,Qfz (mhas_app ?_),H,Qef J];rw[H];intro h;rw[List.map_take]at h;have L:=N;rw[<-Xu k (S.map (·.1)),Xd]at L;refine L.2.2 _ h _ ?_ rfl;rw[<-List.map_drop,A.dropx J,Q7];exact Ql ..)
  (by have:=Qab;omega) [] (by simp)
def nodeAt {g:List Nd}(H:Inc g){n:Nd}(L:n∈g)(z:Nd):Z.mget z (Qac g) n.1=n/\find g n.1=(n,true):=by
 obtain⟨j,J⟩:=Wt.1 L;exact⟨H.mget J,Qde H J⟩
def mem_st {g:List Nd}{d:List Int}{st:List (Pl×List Pl)}(H: ∀p,Z.mget [] st p=toOf (Qaj g d) p){p q:Pl}:q∈Z.mget [] st p↔∃e∈Qaj g d,e.1=p/\e.2.1=q:=by
 rw[H];unfold toOf;constructor;intro h;obtain⟨e,J,L⟩:=Xf.1 h;obtain⟨N,O⟩:=List.mem_filter.1 J;exact⟨e,N,W6 O,L⟩;rintro⟨e,J,L,N⟩;exact Xf.2 ⟨e,List.mem_filter.2 ⟨J,Wc L⟩,N⟩
def nodup_S {g:List Nd}{d:List Int}(H:Inc g)(J:Own g):((spots g d).map (·.1)).Nodup:=Qct d 0 g H λn L=>in2 J L
def ok_iff {g:List Nd}{d:List Int}(O:Inc g)(ho:Own g){dd:Int}{p q:Pl}:okE g (spots g d) (Qaj g d) dd p q↔(∃e∈Qaj g d,e.1=p/\e.2.1=q)/\dd<=Z.mget 0 (spots g d) q/\(¬blk g dd p\/p.2=2):=by
 have V:=nodup_S (d:=d) O ho;have key: ∀e∈Qaj g d,(Qbm g (spots g d) dd e=true↔dd<=Z.mget 0 (spots g d) e.2.1/\(¬blk g dd e.1\/e.1.2=2)):=λe W=>by
  obtain⟨v,Y⟩:=edge_to d W;obtain⟨n,hn,H⟩:=Qgu d W;obtain⟨J,L⟩:=nodeAt O hn ((0,0,[],(0,0,(ByteArray.mk #[])),(ByteArray.mk #[]),0,0):Nd);unfold Qbm blk;rw[mget_mem V Y,atS_mem V Y,H,L,J,Qp,Qt,Yi,Yi,Qt,Qt,Qt];constructor;rintro⟨a,(b|b)|b⟩;exact⟨a,.inl λh=>b h.1⟩;exact⟨a,.inl λh=>b h.2⟩;exact⟨a,.inr b⟩;rintro⟨a,b|b⟩;by_cases c:n.2.1=14;exact⟨a,.inl (.inr λh=>b ⟨c,h⟩)⟩;exact⟨a,.inl (.inl c)⟩;exact⟨a,.inr b⟩
 constructor;rintro⟨e,H,J,L,N⟩;have:=(key e H).1 N;rw[J,L]at this;exact⟨⟨e,H,J,L⟩,this⟩;rintro⟨⟨e,H,J,L⟩,N⟩;refine⟨e,H,J,L,(key e H).2 ?_⟩;rw[J,L];exact N
def rch_iff {g:List Nd}{d:List Int}{st:List (Pl×List Pl)}(hi:Inc g)(V:Own g)(N: ∀p,Z.mget [] st p=toOf (Qaj g d) p){dd:Int}{a:Pl}:Rch (okP g st (spots g d) dd) a a↔Rch (okE g (spots g d) (Qaj g d) dd) a a:=by
 have up: ∀{p q},okP g st (spots g d) dd p q->okE g (spots g d) (Qaj g d) dd p q:=λ{p q} h=>
  (ok_iff hi V).2 ⟨(mem_st N).1 h.1,h.2.2,.inl h.2.1⟩
 have down: ∀{p q},okE g (spots g d) (Qaj g d) dd p q->(p.2≠2\/¬blk g dd p)->okP g st (spots g d) dd p q:=λ{p q} h H=>by
  obtain⟨J,W,Y⟩:=(ok_iff hi V).1 h;refine⟨(mem_st N).2 J,?_,W⟩;rcases H with H|H
  exact Y.resolve_right H;exact H
 have blk_same: ∀{p q:Pl},p.1=q.1->(blk g dd p↔blk g dd q):=λ{p q} e=>by unfold blk;rw[e]
 constructor;intro h;have: ∀b,Rch (okP g st (spots g d) dd) a b->Rch (okE g (spots g d) (Qaj g d) dd) a b:=λb h=>by
  induction h with
  |one h=>exact .one (up h)
  |step _ H L=>exact .step L (up H)
 exact this a h;intro h;have key: ∀b,Rch (okE g (spots g d) (Qaj g d) dd) a b->Rch (okP g st (spots g d) dd) a b\/(a.2=2/\blk g dd a):=λb h=>by
  induction h with
  |one h=>
   by_cases H:a.2=2/\blk g dd a;exact .inr H;exact .inl (.one (down h (by
    by_cases J:a.2=2;exact .inr λW=>H ⟨J,W⟩;exact .inl J)))
  | @step b c _ H L=>
   rcases L with L|L
   refine .inl (.step L (down H ?_));by_cases J:b.2=2;refine .inr λW=>?_;have hlast: ∃p,okP g st (spots g d) dd p b:=by cases L with
    |one h=>exact⟨_,h⟩
    |step _ h=>exact⟨_,h⟩
   obtain⟨p,hp⟩:=hlast;obtain⟨e,Y,h6,h7⟩:=(mem_st N).1 hp.1;have O:=edge_out d V Y (by rw[h7];exact J);rw[h6,h7]at O;exact hp.2.1 ((blk_same O.1).2 W);exact .inl J;exact .inr L
 rcases key a h with H|⟨H,J⟩
 exact H;have hlast: ∃p,okE g (spots g d) (Qaj g d) dd p a:=by cases h with
  |one h=>exact⟨_,h⟩
  |step _ h=>exact⟨_,h⟩
 obtain⟨p,hp⟩:=hlast;obtain⟨⟨e,Y,h6,h7⟩,_,h9⟩:=(ok_iff hi V).1 hp;have O:=edge_out d V Y (by rw[h7];exact H);rw[h6,h7]at O;rcases h9 with h9|h9
 exact absurd ((blk_same O.1).2 J) h9;exact absurd h9 O.2
def Qhm {g:List Nd}(J:Own g)(L:g.length<=40)(d:List Int): ∀(m k:Nat),k+m=g.length->(Qau g d k (g.drop k)).length<=83*m
 |0,k,h=>by rw[Wi (by omega)];exact Q4 0
 |m+1,k,h=>by
  have H:g[k]?=some g[k]:=Qf (by omega);generalize g[k]=x at H;have N:=in2 J (Qg H);have O:=Qbd x.1 g λx H=>in2 J H;have V:=Qhm J L d m (k+1) (by omega);rw[A.dropx H,Qau];split;omega;rw[Qe,Qe,Qii,outE,Wd];omega
def Qen {g:List Nd}(H:Own g)(d:List Int): ∀(k:Nat) (l:List Nd),(∀n∈l,n∈g)->∀sp∈spotsF g d k l,0<=sp.1.2/\sp.1.2<=2
 |_,[],_,_,h=>by cases h
 |k,n::r,J,sp,h=>by
  have N:=in2 H (J n (Ql ..));unfold spotsF at h;rcases Qx.1 h with h|h
  have:=Qdq g d n.1 0 _ sp.1 sp.2 h;omega;rcases Qx.1 h with h|h
  unfold outS at h;split at h;rw[Qk]at h;subst h;simp;cases h;exact Qen H d (k+1) r (λx L=>J x (Qh _ L)) sp h
def turns_same (g:List Nd)(d:List Int)(a0:(List (Int×Nd))×(List Int)×(List (Int×Int)))(h0:a0.1=Qac g)(hb:Few g)(hi:Inc g)(hfed:Fed g)(L:Own g)(V:InB d)(hr:RelD g d a0.2.2)(hd:d.length=g.length):
  ∃b,F.bD a0 g=some b/\(∀W Y,F.bQ g W Y (spots g d) (Qaj g d) A.FU 0=some (if b=true then([],[],81)else(W.1,Y.1,0)))/\(b=true↔∃sp∈spots g d,Rch (okE g (spots g d) (Qaj g d) sp.2) sp.1 sp.1):=by
 have hlen:=hb.1;have hS:(spots g d).length<=120:=by
  have:=Qdr L d g.length 0 (by omega);rw[Wu]at this;unfold spots;omega
 have hE:(Qaj g d).length<=4000:=by
  have:=Qhm L hlen d g.length 0 (by omega);rw[Wu]at this;unfold Qaj;omega
 have hN:=nodup_S (d:=d) hi L;have hok: ∀sp∈spots g d,SpOk g sp:=by
  have:=o_bd (d:=d) (g:=g) V g.length 0 (by omega);rw[Wu]at this;exact this
 obtain⟨st,N,hl2⟩:=turns_l2 a0 (spots g d) (Qaj g d) hE;have hto: ∀p q,q∈Z.mget [] st p->q∈(Qaj g d).map λe=>e.2.1:=λp q h=>by
  obtain⟨e,H,_,h3⟩:=(mem_st N).1 h;exact Xf.2 ⟨e,H,h3⟩
 have htl: ∀p,(Z.mget [] st p).length<=4000:=λp=>by
  rw[N];unfold toOf;rw[Wd];exact Wr (Y3 _ _) hE
 have hval: ∀sp∈spots g d,∃b,F.aJ a0 st (spots g d) sp.1 sp.2=some b/\F.dH g (spots g d) (Qaj g d) sp=some b/\(b=true↔Rch (okE g (spots g d) (Qaj g d) sp.2) sp.1 sp.1):=λsp J=>by
  obtain⟨b,H,O⟩:=reaches_eq g a0 h0 st (spots g d) sp.1 sp.2 ((Qaj g d).map λe=>e.2.1) (by rw[Wd];exact hE) hto htl (by rw[mget_mem hN (p:=sp.1) (v:=sp.2) J];exact Y7 _);obtain⟨b',h3,h4⟩:=round_eq g (spots g d) (Qaj g d) sp hb hi (by omega) hE (λe he=>Qgu d he);refine⟨b,H,?_,O.trans (rch_iff hi L N)⟩;rw[h3];congr 1;rw[Ys,h4,O];exact(rch_iff hi L N).symm
 let p:Sp->Bool:=λsp=>(F.aJ a0 st (spots g d) sp.1 sp.2).getD false;have hp: ∀sp∈spots g d,(p sp=true↔Rch (okE g (spots g d) (Qaj g d) sp.2) sp.1 sp.1):=λsp J=>by
  obtain⟨b,H,_,h3⟩:=hval sp J;rw[show p sp=b from Xb (λo=>Option.getD o false) H];exact h3
 refine⟨(spots g d).any p,?_,λW Y=>?_,?_⟩;unfold F.bD;rw[show F.bC a0 g=_ from spotsP_eq g d a0 hb hfed L hr,Qa,turns_l3 g a0 (spots g d) (Qaj g d) (by omega) hN (edgesP_eq g d a0 hb hfed L V hr),hl2];have:=A.mrg_any (body:=F.aG a0 (spots g d) st) (rest:=some false) (y:=true) (p:=p) (l:=spots g d) λsp J=>by
  obtain⟨b,H,_,_⟩:=hval sp J;obtain⟨⟨j,n,hn,hid⟩,hdd⟩:=hok sp J;have hng:=Qg hn;have hids:=own_id (L n hng);have hport:0<=sp.1.2/\sp.1.2<=2:=Qen L d 0 g (λn hn=>hn) sp J;unfold F.aG;have hh:decide (A.h6 sp.1.1)=true/\decide (A.h6 sp.1.2)=true:=⟨Wc (Jf ⟨by omega,by omega⟩),Wc (Jf ⟨by omega,by omega⟩)⟩;rw[A.gd1 hh,show F.aJ a0 st (spots g d) sp.1 sp.2=_ from H,Qa,show p sp=b from Xb (λo=>Option.getD o false) H]
 rw[this];cases (spots g d).any p<;>rfl;have loop:=A.lp0 (spots g d) (λf y=>F.bQ g W Y (spots g d) (Qaj g d) f y) (λ_ t=>some (if t.any p=true then([],[],81)else(W.1,Y.1,0)))
  (λf=>by rw[F.bQ,Qb (by omega)];rfl)
  (λf k x hx hk ih=>by
   obtain⟨b,H,O,_⟩:=hval x (Qg hx);rw[F.bQ,Qc (by omega),A.ixn hx,Qa,show F.dH g (spots g d) (Qaj g d) x=_ from O,Qa,Xy,show p x=b from Xb (λo=>Option.getD o false) H];cases b with
   |true=>rfl
   |false=>rw[Qb Wa,A.gd1 (A.r64n (by omega)),ih,Xn])
  (by have:=Qab;omega)
 exact loop;rw[Y6];exact⟨λ⟨sp,H,O⟩=>⟨sp,H,(hp sp H).1 O⟩,λ⟨sp,H,O⟩=>⟨sp,H,(hp sp H).2 O⟩⟩
def own_of {g:List Nd}(h:okL g 0 0 g=true):Own g:=λn J=>by
 obtain⟨j,L⟩:=Wt.1 J;have H:=Qid g g.length 0 (by omega);rw[Wu,show lastOf g 0=0 from rfl]at H;have:=H.1 h j n (by omega) L;cases hq:ownQ n with
 |true=>rfl
 |false=>exact absurd (.inr (.inl hq)) this
def Qet (g:List Nd): ∀(r:Nat) (done:List Bool) (l l':List Int),Qbn g r done l=some l'->Plc g l->Plc g l'
 |0,done,l,l',h,hp=>by injection h with h;subst h;exact hp
 |r+1,done,l,l',h,hp=>by
  rw[Qbn]at h;by_cases J:Qag g done 0 g (-1)<0;rw[Qc J]at h;cases h
  ·rw[Qb J]at h
   by_cases L:g.length=0
   ·have:=Qdz g done 0 g (-1) (by omega)
    have e:g=[]:=Qz L;subst e;simp[Qag]at J
   ·have N:=Qdz g done 0 g (-1) (by omega) (by omega)
    refine Qet g r _ _ l' h λi p H=>?_;rw[List.getElem?_append]at H;split at H;exact hp i p H
    ·rename_i O
     have:i-l.length=0:=by
      have:=(Qd.1 H).1;simp only[Qi,Qm]at this;omega
     rw[this]at H;injection H with H
     subst H;exact⟨(Qag g done 0 g (-1)).toNat,g[(Qag g done 0 g (-1)).toNat]'(by omega),by omega,Qf (by omega)⟩
structure Whole (g:List Nd) (l d:List Int) (dm:List (Int×Int)):Prop where
 inc:Inc g
 fed:Fed g
 own:Own g
 rel:RelD g d dm
 inb:InB d
 dlen:d.length=g.length
 key:KeyD g l dm
 plc:Plc g l
 llen:l.length=g.length
 ord:Qbn g g.length (List.replicate g.length false) []=some l
 dep:Qap g l (List.replicate g.length 0)=some d
 lps:Qbf g d g=true
 nort: ∀sp∈spots g d,¬Rch (okE g (spots g d) (Qaj g d) sp.2) sp.1 sp.1
 kin:g.all (λn=>n.2.2.1.all (inOk g))=true
 okr:okR g 0 g=true
 chk:g.all (λn=>decide (chk n.2.1 n.2.2.2.1=0))=true
 l32:g.length<=32
def whole_same (g:List Nd)(O:Few g):
  (∃e,e≠0/\F.b1 g=some (none,e)/\F.di g=some ([],[],e))\/
  (∃l d dm,F.b1 g=some (some (Qac g,l.map (idAt g),dm),0)/\F.di g=some (l,d,0)/\Whole g l d dm):=by
 rw[whole_P g O];unfold F.di;rw[parts_eq g O,ok_eq];by_cases N:(32:Int)<(g.length:Int);rw[Qc N,Qc N];exact .inl ⟨80,by decide,rfl,rfl⟩;rw[Qb N,Qb N];by_cases H:okR g 0 g=true;case neg=>rw[Qb H,Qb H];exact .inl ⟨80,by decide,rfl,rfl⟩
 rw[Qc H,Qc H];by_cases L:g.all (λn=>decide (chk n.2.1 n.2.2.2.1=0))=true;case neg=>rw[Qb L,Qb L];exact .inl ⟨60,by decide,rfl,rfl⟩
 rw[Qc L,Qc L];by_cases J:g.all (λn=>n.2.2.1.all (inOk g))=true;case neg=>rw[Qb J,Qb J];exact .inl ⟨80,by decide,rfl,rfl⟩
 rw[Qc J,Qc J,Qa,Qb (by decide)];have V:=ok_inc H;have hfed:=fed_of J;have W:=own_of (by rw[ok_eq];exact H);have hlen:=O.1;unfold sortP;rcases order_sort O V hfed (Qac g)with⟨l,Y,h2,h3,h4⟩|⟨Y,p,h2⟩
 case inr=>rw[Y,h2];exact .inl ⟨81,by decide,rfl,rfl⟩
 rw[Y,h2];simp only[Qa,Xe,Qw,Wb];have hplc:Plc g l:=Qet g g.length _ [] l h4 λi p h=>by cases h
 rcases Qhv g l O V hfed W (by omega) hplc with⟨d,dm,d1,d2,d3,d4,d5,d6,d7,d8⟩|⟨d1,p,d2⟩
 case inr=>rw[d1,d2];exact .inl ⟨80,by decide,rfl,rfl⟩
 rw[d1,d2];simp only[Qa,Xe,Qw,Wb];obtain⟨b,t1,t2,t3⟩:=turns_same g d (Qac g,l.map (idAt g),dm) rfl O V hfed W d4 d3 d5;rw[t1,spotsR_eq g d O hfed W d5];simp only[Qa];rw[edgesR_eq g d O V W d4];simp only[Qa,t2];cases b with
 |true=>exact .inl ⟨81,by decide,rfl,rfl⟩
 |false=>exact .inr ⟨l,d,dm,rfl,rfl,V,hfed,W,d3,d4,d5,d6,hplc,h3,h4,d8,d7,λsp Y h2=>Bool.noConfusion (t3.2 ⟨sp,Y,h2⟩),J,H,L,by omega⟩
end Go.Proofs.YtpoabedecgeamaaGreatDoor
end
section
namespace Go.Proofs.YtpoabedecgeamaaGreatDoor
open Go.RowKit Go.Codec
def Qeg (g:List Codec.Node)(L:Graph.Few g): ∃e,F.aW g=some e/\F.bv g=some e:=by
 unfold F.aW F.bv;rcases whole_same g L with⟨e,N,H,J⟩|⟨l,d,dm,H,J,W⟩
 rw[H,J];exact⟨e,rfl,rfl⟩;rw[H,J];exact⟨0,rfl,rfl⟩
def few_of {l:List Codec.Node}(h:l.length<=40/\∀a∈l,sNode a):Graph.Few l:=⟨h.1,λx H=>⟨(h.2 x H).1,(h.2 x H).2.2,(h.2 x H).2.1⟩⟩
def gnodes {l:List Codec.Node}(h:l.length<=40/\∀a∈l,sNode a):gList gNode l/\(Qad Qae l).length<=3000000:=by
 have e:=list_len Qae 60000 l λa H=>node_len a (h.2 a H);refine⟨⟨by omega,λa H=>?_⟩,by omega⟩;obtain⟨J,L,N⟩:=h.2 a H;exact⟨by omega,by unfold gFn Qfo;omega,by unfold Qfo;omega⟩
def Qed (l:List Codec.Node)(L:okList okNode l)(h:l.length<=40/\∀a∈l,sNode a){e:Int}(N:F.aW l=some e):F.dr l=some (if e≠0 then([],e)else(Qad Qae l,0)):=by
 unfold F.dr;rw[N,Qa];by_cases H:e≠0;rw[Qc H,Qc H];rw[Qb H,Qb H];obtain⟨J,O⟩:=gnodes h;unfold F.ah F.dv;rw[pNodes [] l J.1 L.2 J.2 (by unfold BB;simp only[Q5];omega),Qa];rfl
def PA_Gr:PA F.bL (pL pNd):=PA_cg (g:=F.e) (λs=>by
 unfold F.bL;show(F.e s).bind _=_;cases F.e s with
 |none=>rfl
 |some v=>cases v<;>rfl) PA_Tn
def Qbq (bs:List UInt8)(J:bs.length<=70368744177664):F.bF bs=if(fin (pL pNd) [] bs).2=0 then(F.aW (fin (pL pNd) [] bs).1).bind λe=>some (if e≠0 then([],e)else((fin (pL pNd) [] bs).1,0))else some ([],(fin (pL pNd) [] bs).2):=by
 have L:F.ab bs=some (fin (pL pNd) [] bs):=P_fin PA_Gr (PF_L PF_Nd) [] bs J F.aX (λe x y=>rfl);unfold F.bF F.bz;rw[L,Qa];by_cases H:(fin (pL pNd) [] bs).2=0;rw[Qc H,Qc H];congr 1;funext e;split<;>rfl;rw[Qb H,Qb H,Qc H]
def rNum (w:List UInt8){n:Int}(H:okInt n)(h:(w++encInt n).length<=BB):F.af (w,0) n=some (w++encInt n,0):=by
 unfold F.af;unfold BB at h;rw[rInt n H,Qa,A.gd1 (by simp only[Qe]at h ⊢;omega)]
def rCount (w:List UInt8){n:Nat}(H:n<=65536)(h:(w++encInt (n:Int)).length<=BB):F.bG (w,0) (n:Int)=some (w++encInt (n:Int),0):=by
 unfold F.bG F.bA;rw[Qb (by omega)]
 (try dsimp only)
 rw[rNum w (okN (by omega)) h,Qa]
def rText (w:List UInt8)(s:ByteArray)(H:Qfo s)(h:(w++encText s).length<=BB):F.bV (w,0) s=some (w++encText s,0):=by
 unfold Qfo at H;have J:=(encInt_length (s.size:Int)).2;have e:F.ek s=some (encText s,0):=by
  unfold F.ek;rw[Qb (by omega),rInt _ (by unfold okInt;omega),Qa,A.gd1 (by omega)];rfl
 unfold F.bV F.bR;unfold BB at h;rw[e,Qa,Qb (by simp),A.gd1 (by simp only[Qe]at h ⊢;omega)]
def rFn (w:List UInt8)(f:Codec.Fn)(H:okFn f)(J:gFn f)(h:(w++encFn f).length<=BB):F.cS (w,0) f=some (w++encFn f,0):=by
 unfold encFn at h ⊢;unfold F.cS
 (try dsimp only)
 rw[rNum w H.1 (by simp only[Qe]at h ⊢;omega),Qa]
 (try dsimp only)
 rw[rNum _ H.2.1 (by simp only[Qe]at h ⊢;omega),Qa]
 (try dsimp only)
 rw[rText _ _ J (by simp only[Qe]at h ⊢;omega),Qa];simp only[Qs]
def stopR (k n:Nat):(bif decide ((k:Int)<(n:Int))then decide ((0:Int)=0)else false)=decide (k<n):=by
 by_cases h:k<n;rw[Wc h,Wc (by omega)];rfl;rw[Wk h,Wk (by omega)];rfl
def goR {k n:Nat}(h:k<n):(bif decide ((k:Int)<(n:Int))then decide ((0:Int)=0)else false)=true:=by rw[stopR];exact Wc h
def enR (n:Nat): ¬(bif decide ((n:Int)<(n:Int))then decide ((0:Int)=0)else false)=true:=by rw[stopR];simp
def rInts (w:List UInt8)(l:List Int)(H:l.length<=65536)(L: ∀n∈l,okInt n)(h:(w++Qad encInt l).length<=BB):F.cm (w,0) l=some (w++Qad encInt l,0):=by
 obtain⟨N,O⟩:=pList encInt l H w h;unfold F.cm
 (try dsimp only)
 rw[rCount w H N,Qa]
 (try dsimp only)
 rw[putsR encInt l (λf s e y=>F.aL l f s e y) _ (λf s=>by rw[F.aL,Qb (enR _)])
  (λf s k x J hk V=>by
   rw[F.aL,Qc (goR hk),A.ixn J,Qa,rNum s (L x (Qg J)) V,Qa,A.gd1 (A.r64n (by omega))]) O H]
 unfold Qad;simp only[Qs]
def rNodes (w:List UInt8)(l:List Codec.Node)(J:l.length<=65536)(N: ∀n∈l,okNode n)(O: ∀n∈l,gNode n)(h:(w++Qad Qae l).length<=BB):F.cg (w,0) l=some (w++Qad Qae l,0):=by
 obtain⟨V,W⟩:=pList Qae l J w h;unfold F.cg
 (try dsimp only)
 rw[rCount w J V,Qa]
 (try dsimp only)
 rw[putsR Qae l (λf s e y=>F.aH l f s e y) _ (λf s=>by rw[F.aH,Qb (enR _)])
  (λf s k x L hk H=>by
   have o:=N x (Qg L);have g:=O x (Qg L);unfold Qae at H ⊢;rw[F.aH,Qc (goR hk),A.ixn L,Qa,rNum s o.1 (by simp only[Qe]at H ⊢;omega),Qa]
   (try dsimp only)
   rw[rNum _ o.2.1 (by simp only[Qe]at H ⊢;omega),Qa]
   (try dsimp only)
   rw[rInts _ _ g.1 o.2.2.1.2 (by simp only[Qe]at H ⊢;omega),Qa]
   (try dsimp only)
   rw[rFn _ _ o.2.2.2.1 g.2.1 (by simp only[Qe]at H ⊢;omega),Qa]
   (try dsimp only)
   rw[rText _ _ g.2.2 (by simp only[Qe]at H ⊢;omega),Qa]
   (try dsimp only)
   rw[rNum _ o.2.2.2.2.2.1 (by simp only[Qe]at H ⊢;omega),Qa]
   (try dsimp only)
   rw[rNum _ o.2.2.2.2.2.2 (by simp only[Qe]at H ⊢;omega),Qa,A.gd1 (A.r64n (by omega))];simp only[Qs]) W J]
 unfold Qad;simp only[Qs]
theorem rDone (w:List UInt8):F.cn (w,0)=some (w,0,(w,0)):=by
 unfold F.cn;rw[Qb (by simp)]
end Go.Proofs.YtpoabedecgeamaaGreatDoor
end
