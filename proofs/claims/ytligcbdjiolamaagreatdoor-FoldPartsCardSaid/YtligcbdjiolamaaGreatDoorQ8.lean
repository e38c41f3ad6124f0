import Derived.Test.YtligcbdjiolamaaGreatDoorQ7
import Derived.OpenShut
import Derived.ShutString
import Derived.ChangeOld
import Derived.ChangeArms
import Derived.DataReads
import Derived.Test.YtligcbdjiolamaaGreatDoorRows
import Derived.Test.YtligcbdjiolamaaGreatDoorTie
import Derived.Test.YtligcbdjiolamaaGreatDoorCards
import Derived.WalkKit
import Derived.ProofKit
import Derived.LaidMore
import Derived.Stop.Joined
import Derived.SevenTiedAt
import Derived.Lib.LaidIn
import Derived.Lib.LaidU8T
import Derived.PinnedBridge
import Derived.SizedLaws
set_option linter.defProp false
set_option linter.unusedVariables false
set_option linter.unusedSimpArgs false
set_option synthInstance.maxSize 1000000
set_option synthInstance.maxHeartbeats 400000
set_option maxRecDepth 20000
section
namespace Go.Proofs.YtligcbdjiolamaaGreatDoor
open Go.RowKit Go.Graph
def fed_of {g:List Nd}(h:g.all (λn=>n.2.2.1.all (inOk g))=true):Fed g:=λx hx k hk=>by
 have h1:=Q8.1 (Q8.1 h x hx) k hk;unfold inOk at h1;by_cases h0:idx g k<0;rw[Qc h0]at h1;cases h1;omega
def bset_len {l:List Bool}{i:Nat}:(l.set i true).length=l.length:=X8
def bget_get {l:List Bool}{i:Nat}(h:i<l.length):l[i]?=some (bget l (i:Int)):=by
 unfold bget;rw[Wb,Qh h];rfl
def bix {l:List Bool}{i:Int}(h0:0<=i)(h:i<l.length):A.ix l i=some (bget l i):=by
 have e:i=((i.toNat:Nat):Int):=by omega
 rw[e];exact A.ixn (bget_get (by omega))
def iix {l:QP}{i:Int}(h0:0<=i)(h:i<l.length):A.ix l i=some (iget l i):=by
 refine A.ixg h0 ?_;unfold iget;rw[Qh (by omega)];rfl
def ready_eq (g:List Nd)(n:Nd)(done:List Bool)(H:g.length<=100)(J:done.length=g.length)(N:n.2.2.1.length<=5000)(I: ∀k∈n.2.2.1,0<=idx g k):F.d5 g n done=some (ready g done n):=
 A.lp0 n.2.2.1 (λf y=>F.bb g n done f y) (λk l=>some (Qjo g done n.2.1 l))
  (λf=>by rw[F.bb,Qb (by omega)];rfl)
  (λf k x hx hk ih=>by
   have h1:=I x (Qn hx);have h2:=(idx_le g x).2;rw[F.bb,Qc (by omega),Qjo];simp only[F.c0,A.gd1 (A.r64n (n:=k) (by omega)),ih];by_cases E:n.2.1=14;simp[E]
   ·rw[Qc E,A.ixn hx,Qa,Qbm g x H,Qa,bix h1 (by omega),Qa]
    cases bget done (idx g x)<;>simp[E])
  (by have:=Qac;omega)
def order_l3 (g:List Nd)(N:Few g)(hfed:Fed g)(I:List Bool->QP->Option (QP×Bool))(done:List Bool)(l:QP)(W:done.length=g.length)(Y:l.length<=100):
  F.ao I g done l A.FU (-1) 0=if Qad g done 0 g (-1)<0 then some ([],false)else I (done.set (Qad g done 0 g (-1)).toNat true) (l++[Qad g done 0 g (-1)]):=
 A.lp g (λf (a:Int) y=>F.ao I g done l f a y) (λk t a=>if Qad g done k t a<0 then some ([],false)else I (done.set (Qad g done k t a).toNat true) (l++[Qad g done k t a])) (λk a=> -1<=a/\a<g.length)
  (λf a hp=>by
   rw[F.ao,A.ba,Qb (by simp),Qad];by_cases h:a<0;rw[Qc h,Qc h];rw[Qb h,Qb h,bix (by omega) (by omega),Qa,A.gd1 (by simp only[Ql,Q2];omega)])
  (λf a k x hx hk hp ih=>by
   have hlen:=N.1;rw[F.ao,A.ba,Qc (by simp;omega),Qad];simp only[F.cw,F.c1,A.gd1 (A.r64n (n:=k) (by omega)),Qz,Wf];by_cases h:a<0
   ·by_cases E:bget done (k:Int)=true
    ·have e:(if(a<0/\bget done (k:Int)=false)/\ready g done x=true then(k:Int)else a)=a:=Qb (by rw[E];simp)
     rw[e,Qc h,bix (by omega) (by omega),Qa,E];simp only[Xk,Qz,Wf];exact ih a hp
    ·rw[Jo]at E
     have H:F.d5 g x done=some (ready g done x):=ready_eq g x done (by omega) W (N.in hx) (hfed x (Qn hx));by_cases J:ready g done x=true
     ·have e:(if(a<0/\bget done (k:Int)=false)/\ready g done x=true then(k:Int)else a)=k:=Qc ⟨⟨h,E⟩,J⟩
      rw[e,Qc h,bix (by omega) (by omega),Qa,E];simp only[Xz,Xn,A.ixn hx,Qa];rw[H,Qa,Qc J];exact ih k (by omega)
     ·have e:(if(a<0/\bget done (k:Int)=false)/\ready g done x=true then(k:Int)else a)=a:=Qb (λh2=>J h2.2)
      rw[e,Qc h,bix (by omega) (by omega),Qa,E];simp only[Xz,Xn,A.ixn hx,Qa];rw[H,Qa,Qb J];exact ih a hp
   ·have e:(if(a<0/\bget done (k:Int)=false)/\ready g done x=true then(k:Int)else a)=a:=Qb (λh2=>h h2.1.1)
    rw[e,Qb h];exact ih a hp)
  (by have:=Qac;have:=N.1;omega) (-1) (by omega)
def ordR (g:List Nd)(r:Nat)(done:List Bool)(l:QP):QP×Bool:=match Qcc g r done l with
 |some l'=>(l',true)
 |none=>([],false)
def order_l4 (g:List Nd)(E:Few g)(hfed:Fed g): ∀(r f:Nat) (done:List Bool) (l:QP),r<f->l.length+r=g.length->done.length=g.length->F.aN g f done l=some (ordR g r done l)
 |0,f,done,l,I,J,H=>by
  obtain⟨f,rfl⟩: ∃f',f=f'+1:=⟨f-1,by omega⟩;rw[F.aN,Qb (by omega)];rfl
 |r+1,f,done,l,I,J,H=>by
  obtain⟨f,rfl⟩: ∃f',f=f'+1:=⟨f-1,by omega⟩;have:=E.1;rw[F.aN,Qc (by omega),order_l3 g E hfed _ done l H (by omega),ordR,Qcc];by_cases h:Qad g done 0 g (-1)<0;rw[Qc h,Qc h];rw[Qb h,Qb h,order_l4 g E hfed r f _ _ (by omega) (by simp only[Qu,Ql,Q2];omega) (by rw[bset_len];exact H)];rfl
def R_order_eq (g:List Nd)(E:Few g)(hfed:Fed g):F.c2 g=some (ordR g g.length (List.replicate g.length false) []):=by
 have:=E.1;unfold F.c2;rw[A.gd1 (by omega),order_l4 g E hfed g.length A.FU _ [] (by have:=Qac;omega) (by simp) (by simp)]
def Qex (m:List (Int×Bool))(n:Nd):Bool:=n.2.2.1.all λk=>Z.mget false m k||decide (n.2.1=14)
def Qhv (m:List (Int×Bool)):List Nd->Option Nd
 | []=>none
 |n::r=>if Z.mget false m n.1=false/\Qex m n=true then some n else Qhv m r
def sortS (g:List Nd):Nat->List (Int×Bool)->QP->QP
 |0,_,xs=>xs
 |r+1,m,xs=>match Qhv m g with
  |some n=>sortS g r (Z.mins m n.1 true) (xs++[n.1])
  |none=>sortS g r m xs
abbrev PlR:=Option (Bool×((List (Int×Nd))×(QP)×(List (Int×Int))))
def sort_l4 (g:List Nd)(H:Few g)(k29:QP->List (Int×Bool)->Int->PlR)(xs:QP)(m:List (Int×Bool))(y:Int)(W:xs.length<=100)(hy:0<=y/\y<=100):
  F.h k29 g xs m y A.FU 0=match Qhv m g with
   |some n=>k29 (xs++[n.1]) (Z.mins m n.1 true) (y+1)
   |none=>k29 xs m (y+1):=
 A.lp0 g (λf i=>F.h k29 g xs m y f i) (λ_ l=>match Qhv m l with
   |some n=>k29 (xs++[n.1]) (Z.mins m n.1 true) (y+1)
   |none=>k29 xs m (y+1))
  (λf=>by rw[F.h,Qb (by omega),F.aV,A.gd1 ⟨by omega,by omega⟩];rfl)
  (λf k x hx hk ih=>by
   have hlen:=H.1;have Y:=H.in hx;rw[F.h,Qc (by omega),A.ixn hx,Qa,A.lt,Qhv];have loop:=A.lp0 x.2.2.1 (λI j=>F.az k29 (F.h k29 g xs m y f) xs m y (k:Int) x I j) (λ_ l=>if l.all (λk=>Z.mget false m k||decide (x.2.1=14))=true then k29 (xs++[x.1]) (Z.mins m x.1 true) (y+1)else F.h k29 g xs m y f ((k:Int)+1))
    (λI=>by rw[F.az,Qb (by omega),A.gd1 (by simp only[Ql,Q2];omega),F.aV,A.gd1 ⟨by omega,by omega⟩];rfl)
    (λI j z hz hj J=>by
     rw[F.az,Qc (by omega),A.ixn hz,Qa,A.lt,A.gd1 (A.r64n (by omega)),J,F.aW,A.gd1 (A.r64n (by omega)),X3];cases hm:Z.mget false m z<;>by_cases N:x.2.1=14<;>simp[N])
    (by have:=Qac;omega)
   rw[loop,F.aW,A.gd1 (A.r64n (by omega)),ih];cases hm:Z.mget false m x.1 with
   |true=>
    have e: ¬((true:Bool)=false/\Qex m x=true):=λh=>by cases h.1
    rw[Qc rfl,Qb e]
   |false=>
    rw[Qb W5];by_cases E:Qex m x=true;have e:(false:Bool)=false/\Qex m x=true:=⟨rfl,E⟩;rw[Qc (show(x.2.2.1.all λk=>Z.mget false m k||decide (x.2.1=14))=true from E),Qc e];have e: ¬((false:Bool)=false/\Qex m x=true):=λh=>E h.2;rw[Qb (show ¬(x.2.2.1.all λk=>Z.mget false m k||decide (x.2.1=14))=true from E),Qb e])
  (by have:=Qac;have:=H.1;omega)
def Qlb (g:List Nd)(E:Few g)(a0:(List (Int×Nd))×(QP)×(List (Int×Int))): ∀(r f:Nat) (m:List (Int×Bool)) (xs:QP) (y:Nat),r<f->y+r=g.length->xs.length<=y->F.o a0 g f xs m (y:Int)=some (decide (((sortS g r m xs).length:Int)=(g.length:Int)),(a0.1,sortS g r m xs,a0.2.2))
 |0,f,m,xs,y,H,I,hx=>by
  obtain⟨f,rfl⟩: ∃f',f=f'+1:=⟨f-1,by omega⟩;rw[F.o,Qb (by omega)];rfl
 |r+1,f,m,xs,y,H,I,hx=>by
  obtain⟨f,rfl⟩: ∃f',f=f'+1:=⟨f-1,by omega⟩;have:=E.1;rw[F.o,Qc (by omega),sort_l4 g E _ xs m y (by omega) (by omega),sortS];have e:(y:Int)+1=((y+1:Nat):Int):=by omega
  cases Qhv m g with
  |none=>simp only[];rw[e,Qlb g E a0 r f m xs (y+1) (by omega) (by omega) (by omega)]
  |some n=>simp only[];rw[e,Qlb g E a0 r f _ _ (y+1) (by omega) (by omega) (by simp only[Qu,Ql,Q2];omega)]
def sort_eq (g:List Nd)(E:Few g)(m:List (Int×Nd)):F.aI (m,[],[]) g=some (decide (((sortS g g.length [] []).length:Int)=(g.length:Int)),(m,sortS g g.length [] [],[])):=by
 unfold F.aI;exact Qlb g E (m,[],[]) g.length A.FU [] [] 0 (by have:=Qac;have:=E.1;omega) (by omega) (by simp)
def Rel (g:List Nd)(done:List Bool)(m:List (Int×Bool)):Prop:=∀(i:Nat) (n:Nd),g[i]?=some n->Z.mget false m n.1=bget done (i:Int)
def ready_rel {g:List Nd}{done:List Bool}{m:List (Int×Bool)}(h:Rel g done m){n:Nd}(E: ∀k∈n.2.2.1,0<=idx g k):Qex m n=ready g done n:=by
 unfold Qex ready;generalize n.2.2.1=l at E;induction l with
 |nil=>rfl
 |cons k r ih=>
  rw[X3,ih λx hx=>E x (Qe _ hx),Qjo];have h0:=E k (Qg ..);obtain⟨q,h1,h2,J⟩:=idx_get h0;have I:=h _ q h1;rw[J,Xy h0]at I;rw[I];cases bget done (idx g k)<;>by_cases H:n.2.1=14<;>simp[H]
def Qer (g:List Nd)(done:List Bool): ∀(k:Nat) (l:List Nd) (a:Int),0<=a->Qad g done k l a=a
 |_,[],_,_=>rfl
 |k,x::r,a,h=>by
  unfold Qad;rw[Qb (λh2=>by omega)];exact Qer g done (k+1) r a h
def Qhd {g:List Nd}{done:List Bool}{m:List (Int×Bool)}(h:Rel g done m)(H:Fed g): ∀(r k:Nat),k+r=g.length->(Qad g done k (g.drop k) (-1)= -1/\Qhv m (g.drop k)=none)\/(∃(i:Nat) (n:Nd),Qad g done k (g.drop k) (-1)=(i:Int)/\g[i]?=some n/\Qhv m (g.drop k)=some n/\bget done (i:Int)=false)
 |0,k,hk=>by
  rw[W9 (by omega)];exact .inl ⟨rfl,rfl⟩
 |r+1,k,hk=>by
  have hx:g[k]?=some g[k]:=Qh (by omega);generalize g[k]=x at hx;rw[A.dropx hx,Qad,Qhv,h k x hx,ready_rel h (H x (Qn hx))];by_cases E:bget done (k:Int)=false/\ready g done x=true;rw[Qc E,Qc ⟨⟨by omega,E.1⟩,E.2⟩,Qer _ _ _ _ _ (by omega)];exact .inr ⟨k,x,rfl,hx,rfl,E.1⟩;rw[Qb E,Qb (λh2=>E ⟨h2.1.2,h2.2⟩)];exact Qhd h H r (k+1) (by omega)
def idAt (g:List Nd)(i:Int):Int:=(at_ g i).1
def rel_set {g:List Nd}(I:Inc g){done:List Bool}{m:List (Int×Bool)}(h:Rel g done m)(J:done.length=g.length){i:Nat}{n:Nd}(E:g[i]?=some n):Rel g (done.set i true) (Z.mins m n.1 true):=λj q hq=>by
 rw[Kl];have N:=(Qd.1 E).1;by_cases e:q.1=n.1;have:=I.inj hq E e;subst this;rw[Qc e];unfold bget;rw[Wb,Yx (by omega)];rfl;rw[Qb e,h j q hq];have H:i≠j:=λh2=>e (by subst h2;rw[E]at hq;injection hq with hq;rw[hq]);unfold bget;rw[Wb,List.getElem?_set_ne H]
def Qgq {g:List Nd}(H:Inc g)(I:Fed g): ∀(r:Nat) (done:List Bool) (m:List (Int×Bool)) (l:QP),Rel g done m->done.length=g.length->(∃l',Qcc g r done l=some l'/\sortS g r m (l.map (idAt g))=l'.map (idAt g)/\l'.length=l.length+r)\/(Qcc g r done l=none/\(sortS g r m (l.map (idAt g))).length <l.length+r)
 |0,done,m,l,_,_=>.inl ⟨l,rfl,rfl,rfl⟩
 |r+1,done,m,l,h,J=>by
  rw[Qcc,sortS];rcases Qhd h I g.length 0 (by omega)with⟨h1,h2⟩|⟨i,n,h1,h2,N,Y⟩
  rw[Xi]at h1 h2;rw[h1,Qc (by omega),h2];refine .inr ⟨rfl,?_⟩;simp only[];have stay: ∀(r:Nat) (xs:QP),sortS g r m xs=xs:=by
   intro r;induction r with
   |zero=>intro xs;rfl
   |succ r ih=>intro xs;rw[sortS,h2];exact ih xs
  rw[stay,Wi];omega
  ·rw[Xi]at h1 N
   rw[h1,Qb (by omega),N,Wb];simp only[];have e:l.map (idAt g)++[n.1]=(l++[(i:Int)]).map (idAt g):=by
    rw[Xd];simp only[Q9,Yp,idAt,Qbj rfl h2]
   rw[e];rcases Qgq H I r (done.set i true) (Z.mins m n.1 true) (l++[(i:Int)]) (rel_set H h J h2) (by rw[bset_len];exact J)with⟨l',E,h6,W⟩|⟨E,h6⟩
   exact .inl ⟨l',E,h6,by rw[W];simp only[Qu,Ql,Q2];omega⟩;exact .inr ⟨E,by simp only[Qu,Ql,Q2]at h6;omega⟩
def rel_0 (g:List Nd):Rel g (List.replicate g.length false) []:=λi n E=>by
 unfold bget;rw[Wb,Yr];split<;>rfl
def order_sort {g:List Nd}(E:Few g)(J:Inc g)(H:Fed g)(m:List (Int×Nd)):(∃l,F.c2 g=some (l,true)/\F.aI (m,[],[]) g=some (true,(m,l.map (idAt g),[]))/\l.length=g.length/\Qcc g g.length (List.replicate g.length false) []=some l)\/(F.c2 g=some ([],false)/\∃p,F.aI (m,[],[]) g=some (false,p)):=by
 rw[R_order_eq g E H,sort_eq g E m,ordR];rcases Qgq J H g.length (List.replicate g.length false) [] [] (rel_0 g) (by simp)with⟨l,h1,h2,I⟩|⟨h1,h2⟩
 rw[Yp]at h2;rw[h1,h2];left;refine⟨l,rfl,?_,by simpa using I,rfl⟩;rw[Wi,Q4 (by simp at I;omega)];rw[Yp]at h2;rw[h1];right;refine⟨rfl,(m,sortS g g.length [] [],[]),?_⟩;rw[Wh (by simp at h2;omega)]
end Go.Proofs.YtligcbdjiolamaaGreatDoor
end
section
namespace Go.A
def mrg_any {α β:Type}[DecidableEq β]{body:α->Option (Option β)}{rest:Option β}{y:β}{p:α->Bool}: ∀{l:List α},(∀x∈l,body x=if p x=true then some (some y)else some none)->mrg body rest l=if l.any p=true then some y else rest
 | [],_=>rfl
 |x::l,h=>by
  have hx:=h x (Qg ..);have ih:=mrg_any (rest:=rest) (l:=l) λz E=>h z (Qe _ E);unfold mrg;rw[hx,Yo];cases hp:p x with
  |true=>
   simp only[Qa,Xn,Bool.true_or];rw[Qc];rw[Q8];intro z E;have H:=h z (Qe _ E);refine Q4 ?_;rw[H];cases p z<;>simp
  |false=>
   simp only[Qa,Qz,Wf,X9];exact ih
end Go.A
namespace Go.Proofs.YtligcbdjiolamaaGreatDoor
open Go.RowKit Go.Graph
def R_depth_eq (n:Nd)(l:QP)(h5:n.2.1=5\/n.2.1=9->2<=l.length)(hb: -1<=d0 l/\d0 l<=4):F.dE n l=some (depthOf n l):=by
 have J:F.cz n l (d0 l)=some (depthOf n l):=by
  unfold F.cz depthOf Qkh;have N: ∀y,F.ap y=some (capd y):=λy=>by unfold F.ap F.c3 capd;split<;>rfl
  have W: ∀y,(y=true↔n.2.1=5\/n.2.1=9)->F.cy n l (d0 l) y=some (capd (if n.2.1=5\/n.2.1=9 then(if iget l 0≠iget l 1 then-1 else d0 l)else if n.2.1=11\/n.2.1=16\/n.2.1=15 then(if d0 l≠0 then-1 else d0 l)else d0 l)):=λy hy=>by
   unfold F.cy F.cx;simp only[N,Q1];by_cases h:n.2.1=5\/n.2.1=9;have:=h5 h;rw[Qc (hy.2 h),Qc h,iix (i:=0) (by omega) (by omega),Qa,iix (i:=1) (by omega) (by omega),Qa];by_cases e:iget l 0=iget l 1;rw[Qb (λh=>h e),Qb (λh=>h e)];rw[Qc e,Qc e];rw[Qb (λh2=>h (hy.1 h2)),Qb h];by_cases Y:n.2.1=11;simp only[Y,Xn,true_or];split<;>rfl;by_cases h16:n.2.1=16;simp only[h16,Xn,true_or,or_true,Wf,Int.reduceEq];split<;>rfl;by_cases h15:n.2.1=15;simp only[h15,Xn,or_true,Wf,Int.reduceEq];split<;>rfl;simp only[Y,h16,h15,Wf,or_self]
  simp only[N];by_cases E:n.2.1=14;rw[Qc E,Qc E];rw[Qb E,Qb E];by_cases H:n.2.1=12;rw[Qc H,Qc H,A.gd1 ⟨by omega,by omega⟩];rw[Qb H,Qb H];by_cases I:n.2.1=13;rw[Qc I,Qc I,A.gd1 ⟨by omega,by omega⟩];rw[Qb I,Qb I];by_cases h5':n.2.1=5;rw[Qc h5',W _ (by simp[h5'])];rw[Qb h5',W _ (by simp[h5'])]
 unfold F.dE;by_cases h:(0:Int)<(l.length:Int);rw[Qc h,iix (i:=0) (by omega) (by omega),Qa,d0_iget];exact J;rw[Qb h,d0_nil (l:=l) (by omega)];exact J
def Own (g:List Nd):Prop:=∀n,n∈g->ownQ n=true
def own_ins {n:Nd}(h:ownQ n=true):0<=insK n.2.1/\(n.2.2.1.length:Int)=insK n.2.1:=by
 unfold ownQ at h;by_cases E:n.1<1\/255<n.1\/insK n.2.1<0\/(n.2.2.1.length:Int)≠insK n.2.1;rw[Qc E]at h;cases h;omega
def own_id {n:Nd}(h:ownQ n=true):1<=n.1/\n.1<=255:=by
 unfold ownQ at h;by_cases E:n.1<1\/255<n.1\/insK n.2.1<0\/(n.2.2.1.length:Int)≠insK n.2.1;rw[Qc E]at h;cases h;omega
def own_D {n:Nd}(h:ownQ n=true):(n.2.1=14->1<=n.2.2.2.2.2.2/\n.2.2.2.2.2.2<=4)/\(n.2.1≠14->n.2.2.2.2.2.2=0):=by
 unfold ownQ at h;by_cases E:n.1<1\/255<n.1\/insK n.2.1<0\/(n.2.2.1.length:Int)≠insK n.2.1;rw[Qc E]at h;cases h;rw[Qb E]at h;by_cases h2:ownC n;rw[Qc h2]at h;cases h;unfold ownC at h2;omega
def insK_cases (k:Int)(h:0<=insK k):(k=1/\insK k=0)\/((k=5\/k=9)/\insK k=2)\/(k≠1/\k≠5/\k≠9/\insK k=1):=by
 unfold insK at h ⊢;by_cases h1:k<1\/16<k;rw[Qc h1]at h;omega;rw[Qb h1];by_cases h2:k=1;rw[Qc h2];omega;rw[Qb h2];by_cases E:k=5\/k=9;rw[Qc E];omega;rw[Qb E];omega
def own_len {n:Nd}(h:ownQ n=true):(n.2.1=1/\n.2.2.1.length=0)\/((n.2.1=5\/n.2.1=9)/\n.2.2.1.length=2)\/(n.2.1≠1/\n.2.1≠5/\n.2.1≠9/\n.2.2.1.length=1):=by
 have h1:=own_ins h;rcases insK_cases n.2.1 h1.1 with h2|h2|h2<;>omega
def Qhy {l:QP}{i:Nat}{v:Int}:(l.set i v).length=l.length:=X8
def depths_l1 (g:List Nd)(l d:QP)(y:Nat)(p:Nat)(x:Nd)(I:QP->Int->Option (QP×Bool))(Y:Few g)(hfed:Fed g)(ho:Own g)(hd:d.length=g.length)(J:InB d)(hp:l[y]?=some (p:Int))(hy:y<100)(hx:g[p]?=some x):
  F.bi I g l d (y:Int) x A.FU [] 0=if depthOf x (inD g d x.2.2.1)<0 then some ([],false)else I (d.set p (depthOf x (inD g d x.2.2.1))) ((y:Int)+1):=by
 have hlen:=Y.1;have hin:=Y.in hx;have hpl:=(Qd.1 hx).1;have E:=Qn hx;have loop:=A.lp x.2.2.1 (λf (s:QP) i=>F.bi I g l d (y:Int) x f s i) (λ_ t s=>if depthOf x (s++inD g d t)<0 then some ([],false)else I (d.set p (depthOf x (s++inD g d t))) ((y:Int)+1)) (λk s=>s=inD g d (x.2.2.1.take k))
  (λf s H=>by
   rw[Xw (Qt _)]at H;subst H;have hdep:F.dE x (inD g d x.2.2.1)=some (depthOf x (inD g d x.2.2.1)):=R_depth_eq x (inD g d x.2.2.1) (λh=>by rcases own_len (ho x E)with h2|h2|h2<;>simp only[inD,Wi]<;>omega) (J.d0 g _);have e:(inD g d x.2.2.1++inD g d ([]:QP))=inD g d x.2.2.1:=by simp[inD]
   rw[F.bi,Qb (by omega),A.ixn hp,Qa,hdep,Qa,iix (by omega) (by omega),Qa,Qa,e,iix (by omega) (by rw[Qhy];omega),Qa,A.gd1 (A.r64n (by omega)),Wb];have e2:iget (d.set p (depthOf x (inD g d x.2.2.1))) (p:Int)=depthOf x (inD g d x.2.2.1):=by
    unfold iget;rw[Wb,Yx (by omega)];rfl
   rw[e2])
  (λf s k z N hk H ih=>by
   have h1:=hfed x E z (Qn N);have h2:=(idx_le g z).2;rw[F.bi,Qc (by omega),A.ixn N,Qa,Qbm g z (by omega),Qa,iix h1 (by omega),Qa];have W:s++[iget d (idx g z)]=inD g d (x.2.2.1.take (k+1)):=by rw[H];exact inD_take N
   rw[A.gd1 (by rw[H];simp only[inD,Wi,Q7,Ql,Q2];omega),A.gd1 (A.r64n (by omega)),ih _ W];simp only[inD,Q9,Xc,Yd])
  (by have:=Qac;omega) [] (by simp[inD])
 rw[loop];rfl
def depths_l3 (g:List Nd)(d:QP)(N:Few g)(hfed:Fed g)(W:Own g)(Y:d.length=g.length):F.aE g d A.FU 0=if Qbw g d g=true then some (d,true)else some ([],false):=
 A.lp0 g (λf y=>F.aE g d f y) (λ_ t=>if Qbw g d t=true then some (d,true)else some ([],false))
  (λf=>by rw[F.aE,Qb (by omega)];rfl)
  (λf k x hx hk ih=>by
   have hlen:=N.1;have H:=Qn hx;rw[F.aE,Qc (by omega),A.ixn hx,Qa,Qbw];simp only[F.cJ,A.gd1 (A.r64n (n:=k) (by omega)),ih,Q1];by_cases E:x.2.1=14;have hl:x.2.2.1.length=1:=by rcases own_len (W x H)with h2|h2|h2<;>omega
   have I:x.2.2.1[0]?=some (iget x.2.2.1 0):=by
    unfold iget;rw[show(0:Int).toNat=0 from rfl,Qh (by omega)];rfl
   have h1:=hfed x H _ (Qn I);have h2:=(idx_le g (iget x.2.2.1 0)).2;rw[Qc E,show A.ix x.2.2.1 0=_ from A.ixn I,Qa,Qbm g _ (by omega),Qa,iix h1 (by omega),Qa];by_cases e:iget d (idx g (iget x.2.2.1 0))≠x.2.2.2.2.2.2;rw[Qc e];have J:x.2.1=14/\iget d (idx g (iget x.2.2.1 0))≠x.2.2.2.2.2.2:=⟨E,e⟩;rw[Qc J,Qb W5];rw[Qb e];have J: ¬(x.2.1=14/\iget d (idx g (iget x.2.2.1 0))≠x.2.2.2.2.2.2):=λh=>e h.2;rw[Qb J];have J: ¬(x.2.1=14/\iget d (idx g (iget x.2.2.1 0))≠x.2.2.2.2.2.2):=λh=>E h.1;rw[Qb E,Qb W5,Qb J])
  (by have:=Qac;have:=N.1;omega)
def Plc (g:List Nd)(l:QP):Prop:=∀(i:Nat) (p:Int),l[i]?=some p->∃(k:Nat) (n:Nd),p=(k:Int)/\g[k]?=some n
def depths_l4 (g:List Nd)(l:QP)(H:Few g)(hfed:Fed g)(J:Own g)(N:l.length<=60)(hp:Plc g l):F.cH g l=some (depths g l):=by
 have hlen:=H.1;have loop:=A.lp l (λf (s:QP) i=>F.bj g l f s i) (λ_ t s=>match Qbc g t s with
  |some d=>if Qbw g d g=true then some (d,true)else some ([],false)
  |none=>some ([],false)) (λk s=>s.length=g.length/\InB s)
  (λf s E=>by rw[F.bj,Qb (by omega),depths_l3 g s H hfed J E.1];rfl)
  (λf s k x hx hk E ih=>by
   obtain⟨q,n,rfl,I⟩:=hp k x hx;rw[F.bj,Qc (by omega),A.ixn hx,Qa,A.ixn I,Qa,depths_l1 g l s k q n _ H hfed J E.1 E.2 hx (by omega) I,Qbc,Qbj rfl I];by_cases h:depthOf n (inD g s n.2.2.1)<0;rw[Qc h,Qc h];rw[Qb h,Qb h,Wb];exact ih _ ⟨by rw[Qhy];exact E.1,E.2.set q (by omega) (Qgh n _)⟩)
  (by have:=Qac;omega) (List.replicate g.length 0) ⟨by simp,InB.rep _⟩
 unfold F.cH depths;rw[A.gd1 (by omega),loop];cases Qbc g l (List.replicate g.length 0)with
 |none=>rfl
 |some d=>simp only[];cases Qbw g d g<;>rfl
end Go.Proofs.YtligcbdjiolamaaGreatDoor
end
section
namespace Go.Proofs.YtligcbdjiolamaaGreatDoor
open Go.RowKit Go.Graph
def RelD (g:List Nd)(d:QP)(dm:List (Int×Int)):Prop:=∀(i:Nat) (n:Nd),g[i]?=some n->Z.mget 0 dm n.1=iget d (i:Int)
def RelD.in {g:List Nd}{d:QP}{dm:List (Int×Int)}(h:RelD g d dm){k:Int}(h0:0<=idx g k):Z.mget 0 dm k=iget d (idx g k):=by
 obtain⟨q,h1,_,H⟩:=idx_get h0;have E:=h _ q h1;rw[H,Xy h0]at E;exact E
def iget_nat {l:QP}{i:Nat}(h:i<l.length):l[i]?=some (iget l (i:Int)):=by
 unfold iget;rw[Wb,Qh h];rfl
def inD_at {g:List Nd}{d l:QP}{i:Nat}{k:Int}(h:l[i]?=some k):iget (inD g d l) (i:Int)=iget d (idx g k):=by
 unfold iget;rw[Wb,inD,Q6,h];rfl
def out_eq (g:List Nd)(d:QP)(a0:(List (Int×Nd))×(QP)×(List (Int×Int)))(n:Nd)(hr:RelD g d a0.2.2)(hib:InB d)(ho:ownQ n=true)(hf: ∀k∈n.2.2.1,0<=idx g k):
  ∃v b,F.bX a0 n=some (v,b)/\((b=false/\depthOf n (inD g d n.2.2.1)<0)\/(b=true/\v=depthOf n (inD g d n.2.2.1)/\0<=v)):=by
 have hlen:=own_len ho;have hD:=own_D ho;unfold F.bX;by_cases h1:n.2.1=1;have hl:n.2.2.1=[]:=Ws (by omega);rw[Qc h1];refine⟨0,true,rfl,.inr ⟨rfl,?_,Ji _⟩⟩;unfold depthOf Qkh capd;simp only[h1,hl,inD,Yp,d0];simp;rw[Qb h1];by_cases E:n.2.1=14;rw[Qc E];have:=hD.1 E;refine⟨_,true,rfl,.inr ⟨rfl,?_,by omega⟩⟩;unfold depthOf Qkh capd;rw[Qc E,Qb (by omega)];rw[Qb E];have hpos:0<n.2.2.1.length:=by omega
 obtain⟨k0,H⟩: ∃k0,n.2.2.1[0]?=some k0:=⟨_,Qh hpos⟩;have f0:=hf k0 (Qn H);have b0:=hib (idx g k0);have e0:d0 (inD g d n.2.2.1)=iget d (idx g k0):=by rw[<-d0_iget];exact inD_at H
 rw[show A.ix n.2.2.1 0=_ from A.ixn H,Qa,A.lt,hr.in f0];have hj3: ∀y,(y=true↔(n.2.1=5\/n.2.1=9)/\iget (inD g d n.2.2.1) 0≠iget (inD g d n.2.2.1) 1)->∃v b,F.bh n (iget d (idx g k0)) y=some (v,b)/\((b=false/\depthOf n (inD g d n.2.2.1)<0)\/(b=true/\v=depthOf n (inD g d n.2.2.1)/\0<=v)):=λy hy=>by
  unfold F.bh depthOf Qkh;rw[Qb E,e0];by_cases I:y=true;have h2:=hy.1 I;rw[Qc I];refine⟨0,false,rfl,.inl ⟨rfl,?_⟩⟩;rw[Qb (by omega),Qb (by omega),Qc h2.1,Qc h2.2];decide;have h2: ¬((n.2.1=5\/n.2.1=9)/\iget (inD g d n.2.2.1) 0≠iget (inD g d n.2.2.1) 1):=λh=>I (hy.2 h);rw[Qb I];simp only[F.bf,F.bg,A.ba];by_cases J:n.2.1=12;rw[Qc J,Qc J,A.gd1 ⟨by omega,by omega⟩];unfold capd;by_cases h4:4<iget d (idx g k0)+1;exact⟨_,_,rfl,.inl ⟨Wh (by omega),by rw[Qc h4];decide⟩⟩;exact⟨_,_,rfl,.inr ⟨Q4 (by omega),by rw[Qb h4],by omega⟩⟩;rw[Qb J,Qb J];by_cases N:n.2.1=13;rw[Qc N,Qc N,A.gd1 ⟨by omega,by omega⟩];unfold capd;rw[Qb (by omega)];by_cases h4:0<=iget d (idx g k0)-1;exact⟨_,_,rfl,.inr ⟨Q4 (by omega),rfl,h4⟩⟩;exact⟨_,_,rfl,.inl ⟨Wh (by omega),by omega⟩⟩;rw[Qb N,Qb N];have hz: ∀x:Int,n.2.1=11\/n.2.1=16\/n.2.1=15->∃v b,(some (iget d (idx g k0),decide (iget d (idx g k0)=0)):Option (Int×Bool))=some (v,b)/\((b=false/\capd (if n.2.1=5\/n.2.1=9 then if iget (inD g d n.2.2.1) 0≠iget (inD g d n.2.2.1) 1 then-1 else iget d (idx g k0)else if n.2.1=11\/n.2.1=16\/n.2.1=15 then if iget d (idx g k0)≠0 then-1 else iget d (idx g k0)else iget d (idx g k0))<0)\/(b=true/\v=capd (if n.2.1=5\/n.2.1=9 then if iget (inD g d n.2.2.1) 0≠iget (inD g d n.2.2.1) 1 then-1 else iget d (idx g k0)else if n.2.1=11\/n.2.1=16\/n.2.1=15 then if iget d (idx g k0)≠0 then-1 else iget d (idx g k0)else iget d (idx g k0))/\0<=v)):=λ_ hk=>by
   rw[Qb (by omega),Qc hk];by_cases h0:iget d (idx g k0)=0;rw[h0];exact⟨_,_,rfl,.inr ⟨rfl,rfl,Ji _⟩⟩;rw[Qc h0];exact⟨_,_,rfl,.inl ⟨Wh h0,by decide⟩⟩
  by_cases W:n.2.1=11;rw[Qc W];exact hz 0 (.inl W);rw[Qb W];by_cases Y:n.2.1=16;rw[Qc Y];exact hz 0 (.inr (.inl Y));rw[Qb Y];by_cases h15:n.2.1=15;rw[Qc h15];exact hz 0 (.inr (.inr h15));rw[Qb h15];refine⟨_,_,rfl,.inr ⟨Q4 (by omega),?_,by omega⟩⟩;by_cases h5:n.2.1=5\/n.2.1=9;rw[Qc h5,Qb (λh=>h2 ⟨h5,h⟩)];unfold capd;rw[Qb (by omega)];rw[Qb h5,Qb (by omega)];unfold capd;rw[Qb (by omega)]
 by_cases h2:(1:Int)<(n.2.2.1.length:Int);have h5:n.2.1=5\/n.2.1=9:=by omega
 obtain⟨k1,hk1⟩: ∃k1,n.2.2.1[1]?=some k1:=⟨_,Qh (by omega)⟩;have f1:=hf k1 (Qn hk1);rw[Qc h2,show A.ix n.2.2.1 1=_ from A.ixn hk1,Qa,A.lt,hr.in f1];refine hj3 _ ?_;rw[Q1,show iget (inD g d n.2.2.1) 0=_ from inD_at H,show iget (inD g d n.2.2.1) 1=_ from inD_at hk1];exact⟨λh=>⟨h5,λe=>h e.symm⟩,λh e=>h.2 e.symm⟩;rw[Qb h2];exact hj3 false ⟨λh=>(by cases h),λh=>by omega⟩
def relD_set {g:List Nd}(I:Inc g){d:QP}{dm:List (Int×Int)}(h:RelD g d dm)(J:d.length=g.length){i:Nat}{n:Nd}(E:g[i]?=some n)(v:Int):RelD g (d.set i v) (Z.mins dm n.1 v):=λj q hq=>by
 rw[Kl];have N:=(Qd.1 E).1;by_cases e:q.1=n.1;have:=I.inj hq E e;subst this;rw[Qc e];unfold iget;rw[Wb,Yx (by omega)];rfl;rw[Qb e,h j q hq];have H:i≠j:=λh2=>e (by subst h2;rw[E]at hq;injection hq with hq;rw[hq]);unfold iget;rw[Wb,List.getElem?_set_ne H]
def KeyD (g:List Nd)(l:QP)(dm:List (Int×Int)):Prop:=∀id,Z.mhas dm id=l.any λp=>decide (idAt g p=id)
def Qgk (g:List Nd)(l:QP)(hb:Few g)(N:Inc g)(hfed:Fed g)(ho:Own g)(hl:l.length<=60)(hp:Plc g l): ∀(r k f:Nat) (d:QP) (dm:List (Int×Int)),k+r=l.length->r<f->RelD g d dm->InB d->d.length=g.length->KeyD g (l.take k) dm->
  (∃d' dm',Qbc g (l.drop k) d=some d'/\F.l (mapOf g,l.map (idAt g),[]) f dm (k:Int)=A.mrg (F.aF (mapOf g,l.map (idAt g),[]) dm') (some (true,(mapOf g,l.map (idAt g),dm'))) (mapOf g)/\RelD g d' dm'/\InB d'/\d'.length=g.length/\KeyD g l dm')\/
  (Qbc g (l.drop k) d=none/\∃p,F.l (mapOf g,l.map (idAt g),[]) f dm (k:Int)=some (false,p))
 |0,k,f,d,dm,hk,hf,h1,h2,I,J=>by
  obtain⟨f,rfl⟩: ∃f',f=f'+1:=⟨f-1,by omega⟩;left;rw[Xw (by omega)]at J;refine⟨d,dm,by rw[W9 (by omega)];rfl,?_,h1,h2,I,J⟩;rw[F.l,Qb (by simp only[Wi];omega)]
 |r+1,k,f,d,dm,hk,hf,h1,h2,I,J=>by
  obtain⟨f,rfl⟩: ∃f',f=f'+1:=⟨f-1,by omega⟩;have hx:l[k]?=some l[k]:=Qh (by omega);generalize l[k]=x at hx;obtain⟨q,n,rfl,E⟩:=hp k x hx;have hng:=Qn E;have H:idAt g (q:Int)=n.1:=by unfold idAt;rw[Qbj rfl E]
  have e1:A.ix (l.map (idAt g)) (k:Int)=some n.1:=A.ixn (by rw[Q6,hx,Wr,H]);obtain⟨v,b,W,Y⟩:=out_eq g d (mapOf g,l.map (idAt g),dm) n h1 h2 (ho n hng) (hfed n hng);have eF:F.l (mapOf g,l.map (idAt g),[]) (f+1) dm (k:Int)=if(!b)=true then some (false,(mapOf g,l.map (idAt g),dm))else A.gd (Z.R64 ((k:Int)+1)) (F.l (mapOf g,l.map (idAt g),[]) f (Z.mins dm n.1 v) ((k:Int)+1)):=by
   rw[F.l,Qc (by simp only[Wi];omega)];simp only[e1,Qa,A.lt,N.mget E];rw[show F.bX (mapOf g,l.map (idAt g),dm) n=_ from W,Qa]
  rw[A.dropx hx,Qbc,Qbj rfl E,eF];rcases Y with⟨rfl,h5⟩|⟨rfl,h5,h6⟩
  right;rw[Qc (show depthOf n (n.2.2.1.map λk=>iget d (idx g k))<0 from h5)];exact⟨rfl,_,Qc rfl⟩;subst h5;rw[Qb (show ¬depthOf n (n.2.2.1.map λk=>iget d (idx g k))<0 by simp only[inD]at h6;omega),Qb (by simp),A.gd1 (A.r64n (by omega)),Wb];have:=Qgk g l hb N hfed ho hl hp r (k+1) f (d.set q (depthOf n (inD g d n.2.2.1))) (Z.mins dm n.1 (depthOf n (inD g d n.2.2.1))) (by omega) (by omega) (relD_set N h1 I E _) (h2.set q h6 (Qgh n _)) (by rw[Qhy];exact I) (λid=>by
   rw[Z.mhas_ins,Qgx hx,List.any_append,J id,Yo,List.any_nil,Bool.or_false,H,Bool.or_comm];congr 1;exact decide_eq_decide.2 ⟨λh=>h.symm,λh=>h.symm⟩)
  exact this
def Qdl (g:List Nd)(d:QP): ∀l,Qbw g d l= !(l.any λx=>decide (x.2.1=14/\iget d (idx g (iget x.2.2.1 0))≠x.2.2.2.2.2.2))
 | []=>rfl
 |x::r=>by
  unfold Qbw;rw[Yo];by_cases h:x.2.1=14/\iget d (idx g (iget x.2.2.1 0))≠x.2.2.2.2.2.2;rw[Qc h,Q4 h];rfl;rw[Qb h,Wh h,X9];exact Qdl g d r
def Qlm (g:List Nd)(l:QP)(N:Few g)(hi:Inc g)(hfed:Fed g)(I:Own g)(W:l.length<=60)(hp:Plc g l):
  (∃d dm,F.cH g l=some (d,true)/\F.aG (mapOf g,l.map (idAt g),[])=some (true,(mapOf g,l.map (idAt g),dm))/\RelD g d dm/\InB d/\d.length=g.length/\KeyD g l dm/\Qbw g d g=true/\Qbc g l (List.replicate g.length 0)=some d)\/
  (F.cH g l=some ([],false)/\∃p,F.aG (mapOf g,l.map (idAt g),[])=some (false,p)):=by
 have h0:RelD g (List.replicate g.length 0) []:=λi n J=>by
  unfold iget;rw[Wb,Yr];split<;>rfl
 rw[depths_l4 g l N hfed I W hp];unfold F.aG depths;rcases Qgk g l N hi hfed I W hp l.length 0 A.FU (List.replicate g.length 0) [] (by omega) (by have:=Qac;omega) h0 (InB.rep _) (by simp) (λid=>by simp[Z.mhas])with⟨d,dm,h1,h2,Y,h4,h5,h6⟩|⟨h1,p,h2⟩
 rw[Xi]at h1;rw[h1];simp only[];have hm:A.mrg (F.aF (mapOf g,l.map (idAt g),[]) dm) (some (true,(mapOf g,l.map (idAt g),dm))) (mapOf g)=if(mapOf g).any (λp=>decide (p.2.2.1=14/\iget d (idx g (iget p.2.2.2.1 0))≠p.2.2.2.2.2.2.2))=true then some (false,(mapOf g,l.map (idAt g),dm))else some (true,(mapOf g,l.map (idAt g),dm)):=by
  refine A.mrg_any λp hp=>?_;obtain⟨n,J,rfl⟩:=Wu.1 hp;unfold F.aF F.a3;by_cases E:n.2.1=14;have hl1:n.2.2.1.length=1:=by rcases own_len (I n J)with h2|h2|h2<;>omega
  have H:n.2.2.1[0]?=some (iget n.2.2.1 0):=iget_nat (i:=0) (by omega);have f0:=hfed n J _ (Qn H);rw[Qc E,show A.ix n.2.2.1 0=_ from A.ixn H,Qa,A.lt,Y.in f0];by_cases e:iget d (idx g (iget n.2.2.1 0))≠n.2.2.2.2.2.2;rw[Q4 e,Qc rfl,Q4 (And.intro E e),Qc rfl];rw[Wh e,Qb W5,Wh (λh=>e h.2),Qb W5];rw[Qb E,Qb W5,Wh (λh=>E h.1),Qb W5]
 have hany:(mapOf g).any (λp=>decide (p.2.2.1=14/\iget d (idx g (iget p.2.2.2.1 0))≠p.2.2.2.2.2.2.2))=g.any λx=>decide (x.2.1=14/\iget d (idx g (iget x.2.2.1 0))≠x.2.2.2.2.2.2):=by
  unfold mapOf;rw[List.any_map];rfl
 have h2':F.l (mapOf g,l.map (idAt g),[]) A.FU [] 0=_:=h2.trans hm;rw[h2',hany,Qdl];cases hc:g.any λx=>decide (x.2.1=14/\iget d (idx g (iget x.2.2.1 0))≠x.2.2.2.2.2.2)with
 |true=>right;exact⟨rfl,_,rfl⟩
 |false=>left;exact⟨d,dm,rfl,rfl,Y,h4,h5,h6,by rw[Qdl,hc];rfl,rfl⟩
 rw[Xi]at h1;rw[h1];right;exact⟨rfl,p,h2⟩
def Qeg (g:List Nd)(d:QP)(id:Int): ∀(k:Nat) (l:QP),(insS g d id k l).length=l.length
 |_,[]=>rfl
 |k,x::r=>by unfold insS;rw[Ql,Ql,Qeg g d id (k+1) r]
def Qhs (n:Nd)(v:Int):(outS n v).length<=1:=by unfold outS;split<;>simp
def in2 {g:List Nd}(E:Own g){n:Nd}(H:n∈g):n.2.2.1.length<=2:=by rcases own_len (E n H)with h|h|h<;>omega
def spots_l2P (g:List Nd)(d:QP)(a0:(List (Int×Nd))×(QP)×(List (Int×Int)))(E:List Sp->Int->Option (List Sp))(y:Nat)(x:Nd)(xs:List Sp)(H:RelD g d a0.2.2)(hx:g[y]?=some x)(Y:x.2.2.1.length<=2)(J: ∀k∈x.2.2.1,0<=idx g k)(N:xs.length<=1000)(hy:y<=100):
  F.af E a0 (y:Int) x A.FU xs 0=E (xs++(insS g d x.1 0 x.2.2.1++outS x (iget d (y:Int)))) ((y:Int)+1):=
 A.lp x.2.2.1 (λf (s:List Sp) i=>F.af E a0 (y:Int) x f s i) (λk t s=>E (s++(insS g d x.1 k t++outS x (iget d (y:Int)))) ((y:Int)+1)) (λk s=>s.length<=1000+k)
  (λf s W=>by
   rw[F.af,Qb (by omega),insS,Xm,outS,A.lt,H y x hx];simp only[F.bk,A.gd1 (A.r64n (n:=y) (by omega))];by_cases h:x.2.1≠15;rw[Qc h,Qc h,A.gd1 (by simp only[Ql,Q2];omega)];rw[Qb h,Qb h,Ww])
  (λf s k z I hk W ih=>by
   have h1:=J z (Qn I);rw[F.af,Qc (by omega),A.ixn I,Qa,A.lt,H.in h1,A.gd1 (by simp only[Ql,Q2];omega),A.gd1 (A.r64n (by omega)),ih _ (by simp only[Qu,Ql,Q2];omega),insS];simp only[Xc,Yd,Xj,Xm])
  (by have:=Qac;omega) xs (by omega)
def spotsP_eq (g:List Nd)(d:QP)(a0:(List (Int×Nd))×(QP)×(List (Int×Int)))(H:Few g)(hfed:Fed g)(I:Own g)(J:RelD g d a0.2.2):F.bs a0 g=some (spots g d):=by
 have hlen:=H.1;have loop:=A.lp g (λf (s:List Sp) i=>F.w a0 g f s i) (λk t s=>some (s++spotsF g d k t)) (λk s=>s.length<=3*k)
  (λf s N=>by rw[F.w,Qb (by omega),spotsF,Ww])
  (λf s k x hx hk N ih=>by
   have E:=Qn hx;have h2:=in2 I E;have W:=Qhs x (iget d (k:Int));rw[F.w,Qc (by omega),A.ixn hx,Qa,spots_l2P g d a0 _ k x s J hx h2 (hfed x E) (by omega) (by omega),ih _ (by rw[Qu,Qu,Qeg];omega),spotsF];simp only[Xc])
  (by have:=Qac;omega) [] (by simp)
 unfold F.bs;rw[loop];rfl
def spots_l2R (g:List Nd)(d:QP)(E:List Sp->Int->Option (List Sp))(y:Nat)(x:Nd)(xs:List Sp)(I:g.length<=100)(hd:d.length=g.length)(hx:g[y]?=some x)(hl:x.2.2.1.length<=2)(J: ∀k∈x.2.2.1,0<=idx g k)(N:xs.length<=1000)(hy:y<=100):
  F.bF E g d (y:Int) x A.FU xs 0=E (xs++(insS g d x.1 0 x.2.2.1++outS x (iget d (y:Int)))) ((y:Int)+1):=
 A.lp x.2.2.1 (λf (s:List Sp) i=>F.bF E g d (y:Int) x f s i) (λk t s=>E (s++(insS g d x.1 k t++outS x (iget d (y:Int)))) ((y:Int)+1)) (λk s=>s.length<=1000+k)
  (λf s W=>by
   have Y:=(Qd.1 hx).1;rw[F.bF,Qb (by omega),insS,Xm,outS];simp only[F.c4,A.gd1 (A.r64n (n:=y) (by omega))];by_cases h:x.2.1≠15;rw[Qc h,Qc h,iix (by omega) (by omega),Qa,A.gd1 (by simp only[Ql,Q2];omega)];rw[Qb h,Qb h,Ww])
  (λf s k z H hk W ih=>by
   have h1:=J z (Qn H);have h2:=(idx_le g z).2;rw[F.bF,Qc (by omega),A.ixn H,Qa,Qbm g z I,Qa,iix h1 (by omega),Qa,A.gd1 (by simp only[Ql,Q2];omega),A.gd1 (A.r64n (by omega)),ih _ (by simp only[Qu,Ql,Q2];omega),insS];simp only[Xc,Yd,Xj,Xm])
  (by have:=Qac;omega) xs (by omega)
def spotsR_eq (g:List Nd)(d:QP)(H:Few g)(hfed:Fed g)(I:Own g)(J:d.length=g.length):F.d6 g d=some (spots g d):=by
 have hlen:=H.1;have loop:=A.lp g (λf (s:List Sp) i=>F.bc g d f s i) (λk t s=>some (s++spotsF g d k t)) (λk s=>s.length<=3*k)
  (λf s N=>by rw[F.bc,A.ba,Qb (by simp),spotsF,Ww])
  (λf s k x hx hk N ih=>by
   have E:=Qn hx;have h2:=in2 I E;have W:=Qhs x (iget d (k:Int));rw[F.bc,A.ba,Qc (by simp only[Q1];omega),A.ixn hx,Qa,spots_l2R g d _ k x s (by omega) J hx h2 (hfed x E) (by omega) (by omega),ih _ (by rw[Qu,Qu,Qeg];omega),spotsF];simp only[Xc])
  (by have:=Qac;omega) [] (by simp)
 unfold F.d6;rw[loop];rfl
abbrev Ed:=Pl×Pl×Sm
def five {P:Int->Prop}(h0:P 0)(h1:P 1)(h2:P 2)(E:P 3)(H:P 4)(d:Int)(I:0<=d/\d<=4):P d:=by
 have:d=0\/d=1\/d=2\/d=3\/d=4:=by omega
 rcases this with rfl|rfl|rfl|rfl|rfl<;>assumption
def Id_eqP (d:Int)(E:0<=d/\d<=4):F.eb d=some (idP d):=five (P:=λd=>F.eb d=some (idP d)) (by kernel_rfl) (by kernel_rfl) (by kernel_rfl) (by kernel_rfl) (by kernel_rfl) d E
def Enter_eqP (d:Int)(E:0<=d/\d<=4):F.dN d=some (Qjw d):=five (P:=λd=>F.dN d=some (Qjw d)) (by kernel_rfl) (by kernel_rfl) (by kernel_rfl) (by kernel_rfl) (by kernel_rfl) d E
def Leave_eqP (d:Int)(E:0<=d/\d<=4):F.dO d=some (Qkq d):=five (P:=λd=>F.dO d=some (Qkq d)) (by kernel_rfl) (by kernel_rfl) (by kernel_rfl) (by kernel_rfl) (by kernel_rfl) d E
def Next_eqP (d:Int)(E:0<=d/\d<=4):F.d1 d=some (nextP d):=five (P:=λd=>F.d1 d=some (nextP d)) (by kernel_rfl) (by kernel_rfl) (by kernel_rfl) (by kernel_rfl) (by kernel_rfl) d E
def Id_eqR (d:Int)(E:0<=d/\d<=4):F.eq d=some (idP d):=five (P:=λd=>F.eq d=some (idP d)) (by kernel_rfl) (by kernel_rfl) (by kernel_rfl) (by kernel_rfl) (by kernel_rfl) d E
def Enter_eqR (d:Int)(E:0<=d/\d<=4):F.d7 d=some (Qjw d):=five (P:=λd=>F.d7 d=some (Qjw d)) (by kernel_rfl) (by kernel_rfl) (by kernel_rfl) (by kernel_rfl) (by kernel_rfl) d E
def Leave_eqR (d:Int)(E:0<=d/\d<=4):F.d8 d=some (Qkq d):=five (P:=λd=>F.d8 d=some (Qkq d)) (by kernel_rfl) (by kernel_rfl) (by kernel_rfl) (by kernel_rfl) (by kernel_rfl) d E
def Next_eqR (d:Int)(E:0<=d/\d<=4):F.ee d=some (nextP d):=five (P:=λd=>F.ee d=some (nextP d)) (by kernel_rfl) (by kernel_rfl) (by kernel_rfl) (by kernel_rfl) (by kernel_rfl) d E
def within_eqP (n:Nd)(d:Int)(E:0<=d/\d<=4):F.co n d=some (Qds n d):=by
 unfold F.co Qds;simp only[Id_eqP d E,Enter_eqP d E,Leave_eqP d E,Next_eqP d E,Qa,F.a4];repeat' split
 all_goals rfl
def within_eqR (n:Nd)(d:Int)(E:0<=d/\d<=4):F.dl n d=some (Qds n d):=by
 unfold F.dl Qds;simp only[Id_eqR d E,Enter_eqR d E,Leave_eqR d E,Next_eqR d E,Qa,F.bU];repeat' split
 all_goals rfl
def useN (id nd:Int):Nat->QP->List Pl
 |_,[]=>[]
 |k,z::r=>if z=id then(nd,(k:Int))::useN id nd (k+1) r else useN id nd (k+1) r
def Qbu (id:Int):List Nd->List Pl
 | []=>[]
 |n::r=>useN id n.1 0 n.2.2.1++Qbu id r
def Qeh (id nd:Int): ∀(k:Nat) (l:QP),(useN id nd k l).length<=l.length
 |_,[]=>Qt 0
 |k,z::r=>by
  unfold useN;have:=Qeh id nd (k+1) r;split<;>simp only[Ql]<;>omega
def Qcd (id:Int): ∀(l:List Nd),(∀n∈l,n.2.2.1.length<=2)->(Qbu id l).length<=2*l.length
 | [],_=>Qt 0
 |n::r,h=>by
  unfold Qbu;have h1:=Qcd id r λx hx=>h x (Qe _ hx);have h2:=Qeh id n.1 0 n.2.2.1;have E:=h n (Qg ..);rw[Qu,Ql];omega
def Values_eq (g:List Nd)(E:g.length<=100):F.aa g=some g:=
 A.lp0 g (λf y=>F.f g f y) (λ_ l=>some l)
  (λf=>by rw[F.f,Qb (by omega)])
  (λf k x hx hk ih=>by rw[F.f,Qc (by omega),A.ixn hx,Qa,A.gd1 (A.r64n (by omega)),ih];rfl)
  (by have:=Qac;omega)
def users_l2 (id:Int)(n:Nd)(E:List Pl->Option (List Pl))(xs:List Pl)(N:n.2.2.1.length<=2)(H:xs.length<=1000):F.au E id n A.FU xs 0=E (xs++useN id n.1 0 n.2.2.1):=
 A.lp n.2.2.1 (λf (s:List Pl) i=>F.au E id n f s i) (λk t s=>E (s++useN id n.1 k t)) (λk s=>s.length<=1000+k)
  (λf s I=>by rw[F.au,Qb (by omega),useN,Ww])
  (λf s k z J hk I ih=>by
   rw[F.au,Qc (by omega),A.ixn J,Qa,useN];simp only[F.cn,A.gd1 (A.r64n (n:=k) (by omega))];by_cases h:z=id;rw[Qc h,Qc h,A.gd1 (by simp only[Ql,Q2];omega),ih _ (by simp only[Qu,Ql,Q2];omega)];simp only[Xc,Yd,Xj,Xm];rw[Qb h,Qb h,ih _ (by omega)])
  (by have:=Qac;omega) xs (by omega)
def users_l3 (id:Int): ∀(l:List Nd) (xs:List Pl),(∀n∈l,n.2.2.1.length<=2)->xs.length+2*l.length<=900->F.av id l xs=some (xs++Qbu id l)
 | [],xs,_,_=>by rw[F.av,Qbu,Ww]
 |n::r,xs,h,hx=>by
  have E:=h n (Qg ..);have h2:=Qeh id n.1 0 n.2.2.1;rw[Ql]at hx;rw[F.av,users_l2 id n _ xs E (by omega),users_l3 id r _ (λx hx=>h x (Qe _ hx)) (by rw[Qu];omega),Qbu,Xc]
def users_eq (g:List Nd)(id:Int)(E:Few g)(h2: ∀n∈g,n.2.2.1.length<=2):F.dm g id=some (Qbu id g):=by
 have:=E.1;unfold F.dm F.aq;rw[Qa,Values_eq g (by omega),Qa,users_l3 id g [] h2 (by simp;omega)];rfl
def inE (g:List Nd)(d:QP)(n:Nd):Nat->QP->List Ed
 |_,[]=>[]
 |k,z::r=>((n.1,(k:Int)),(n.1,2),Qds n (iget d (idx g z)))::inE g d n (k+1) r
def outE (g:List Nd)(n:Nd)(v:Int):List Ed:=(Qbu n.1 g).map λu=>((n.1,2),u,(idP v).1)
def Qbf (g:List Nd)(d:QP):Nat->List Nd->List Ed
 |_,[]=>[]
 |i,n::r=>if n.2.1=15 then Qbf g d (i+1) r else inE g d n 0 n.2.2.1++(outE g n (iget d (i:Int))++Qbf g d (i+1) r)
def Qaj (g:List Nd)(d:QP):List Ed:=Qbf g d 0 g
def Qlu (g:List Nd)(d:QP)(n:Nd): ∀(k:Nat) (l:QP),(inE g d n k l).length=l.length
 |_,[]=>rfl
 |k,x::r=>by unfold inE;rw[Ql,Ql,Qlu g d n (k+1) r]
def edges_l2P (k30:List Ed->Int->Option (List Ed))(y:Nat)(n:Nd)(s:Sm)(us:List Pl)(xs:List Ed)(J:y<=100)(N:us.length<=1000)(E:xs.length<=10000):
  F.x k30 (y:Int) n s.1 s.2.1 s.2.2.1 s.2.2.2.1 s.2.2.2.2.1 s.2.2.2.2.2.1 s.2.2.2.2.2.2.1 s.2.2.2.2.2.2.2 us A.FU xs 0=k30 (xs++us.map λu=>((n.1,2),u,s)) ((y:Int)+1):=
 A.lp us (λf (t:List Ed) i=>F.x k30 (y:Int) n s.1 s.2.1 s.2.2.1 s.2.2.2.1 s.2.2.2.2.1 s.2.2.2.2.2.1 s.2.2.2.2.2.2.1 s.2.2.2.2.2.2.2 us f t i) (λk t e=>k30 (e++t.map λu=>((n.1,2),u,s)) ((y:Int)+1)) (λk t=>t.length<=10000+k)
  (λf t H=>by rw[F.x,Qb (by omega),F.aJ,A.gd1 (A.r64n (by omega)),Yp,Ww])
  (λf t k z I hk H ih=>by
   rw[F.x,Qc (by omega),A.ixn I,Qa,A.gd1 (by simp only[Ql,Q2];omega),A.gd1 (A.r64n (by omega)),ih _ (by simp only[Qu,Ql,Q2];omega)];simp only[Xc,Yd,Xj,Xm,Q9])
  (by have:=Qac;omega) xs (by omega)
def edges_l4P (g:List Nd)(d:QP)(a0:(List (Int×Nd))×(QP)×(List (Int×Int)))(k30:List Ed->Int->Option (List Ed))(y:Nat)(n:Nd)(xs:List Ed)(J:Few g)(E:Own g)(H:InB d)(N:RelD g d a0.2.2)(I:g[y]?=some n)(Y: ∀k∈n.2.2.1,0<=idx g k)(hxs:xs.length<=9000):
  F.ag k30 a0 g (y:Int) n A.FU xs 0=k30 (xs++(inE g d n 0 n.2.2.1++outE g n (iget d (y:Int)))) ((y:Int)+1):=
 A.lp n.2.2.1 (λf (t:List Ed) i=>F.ag k30 a0 g (y:Int) n f t i) (λk t e=>k30 (e++(inE g d n k t++outE g n (iget d (y:Int)))) ((y:Int)+1)) (λk t=>t.length<=9000+k)
  (λf t ht=>by
   have hlen:=J.1;have hyl:=(Qd.1 I).1;have h2:=in2 E (Qn I);have hu:=Qcd n.1 g λx hx=>in2 E hx;rw[F.ag,Qb (by omega),A.lt,N y n I,Id_eqP _ (H _),Qa,F.b5,users_eq g n.1 J (λx hx=>in2 E hx),Qa,
    show F.x k30 (y:Int) n _ _ _ _ _ _ _ _ (Qbu n.1 g) A.FU t 0=_ from edges_l2P k30 y n (idP (iget d (y:Int))).1 (Qbu n.1 g) t (by omega) (by omega) (by omega),inE,Xm]
   rfl)
  (λf t k z W hk ht ih=>by
   have h1:=Y z (Qn W);have h2:=in2 E (Qn I);rw[F.ag,Qc (by omega),A.ixn W,Qa,A.lt,N.in h1,show F.co n _=_ from within_eqP n _ (H _),Qa,A.gd1 (by simp only[Ql,Q2];omega),A.gd1 (A.r64n (by omega)),ih _ (by simp only[Qu,Ql,Q2];omega),inE];simp only[Xc,Yd,Xj,Xm])
  (by have:=Qac;have:=in2 E (Qn I);omega) xs (by omega)
def edgesP_eq (g:List Nd)(d:QP)(a0:(List (Int×Nd))×(QP)×(List (Int×Int)))(J:Few g)(hfed:Fed g)(H:Own g)(I:InB d)(N:RelD g d a0.2.2):F.aT a0 g=some (Qaj g d):=by
 have hlen:=J.1;have loop:=A.lp g (λf (s:List Ed) i=>F.k a0 g f s i) (λk t s=>some (s++Qbf g d k t)) (λk s=>s.length<=83*k)
  (λf s W=>by rw[F.k,Qb (by omega),Qbf,Ww])
  (λf s k x hx hk W ih=>by
   have E:=Qn hx;have h2:=in2 H E;have Y:=Qcd x.1 g λx hx=>in2 H hx;rw[F.k,Qc (by omega),A.ixn hx,Qa,Qbf];by_cases h:x.2.1=15;rw[Qc h,Qc h,F.aJ,A.gd1 (A.r64n (by omega)),ih _ (by omega)];rw[Qb h,Qb h,edges_l4P g d a0 _ k x s J H I N hx (hfed x E) (by omega),ih _ (by rw[Qu,Qu,Qlu,outE,Wi];omega)];simp only[Xc])
  (by have:=Qac;omega) [] (by simp)
 unfold F.aT;rw[loop];rfl
def Find_eq (g:List Nd)(H:Few g){j:Nat}{n:Nd}(I:Inc g)(E:g[j]?=some n):F.cI g n.1=some (n,true):=by
 have:=H.1;have J:=H.in E;unfold F.cI;rw[Qbm g _ (by omega),Qa,I.idx E,Qb (by omega),A.ixn E,Qa,A.gd1 (by simp only[Q2];omega)];rfl
def edges_l4R (g:List Nd)(k37:List Ed->Int->Option (List Ed))(sp:Sp)(r18:Nd×Bool)(r59:Sm×Int)(j:Nat)(m:Nd)(xs:List Ed)(W:g.length<=100)(E:g[j]?=some m)(Y:m.2.2.1.length<=2)(H:xs.length<=20000):
  F.aO k37 g sp r18 r59 (j:Int) A.FU xs 0=k37 (xs++(useN r18.1.1 m.1 0 m.2.2.1).map λu=>(sp.1,u,r59.1)) ((j:Int)+1):=
 A.lp m.2.2.1 (λf (t:List Ed) i=>F.aO k37 g sp r18 r59 (j:Int) f t i) (λk t e=>k37 (e++(useN r18.1.1 m.1 k t).map λu=>(sp.1,u,r59.1)) ((j:Int)+1)) (λk t=>t.length<=20000+k)
  (λf t I=>by
   have J:=(Qd.1 E).1;rw[F.aO,A.ixn E,Qa,Qb (by omega),A.gd1 (A.r64n (by omega)),useN,Yp,Ww])
  (λf t k z N hk I ih=>by
   rw[F.aO,A.ixn E,Qa,Qc (by omega),Qa,A.ixn N,Qa,useN];simp only[F.c6,A.gd1 (A.r64n (n:=k) (by omega)),Qa];by_cases h:z=r18.1.1;rw[Qc h,Qc h,A.gd1 (by simp only[Ql,Q2];omega),ih _ (by simp only[Qu,Ql,Q2];omega)];simp only[Xc,Yd,Xj,Xm,Q9];rw[Qb h,Qb h,ih _ (by omega)])
  (by have:=Qac;omega) xs (by omega)
def edges_l5R (g:List Nd)(k30:List Ed->Int->Option (List Ed))(y:Nat)(sp:Sp)(r18:Nd×Bool)(r59:Sm×Int)(xs:List Ed)(E:Few g)(I:Own g)(J:xs.length<=15000)(W:y<=1000):
  F.aP k30 g (y:Int) sp r18 r59 A.FU xs 0=k30 (xs++(Qbu r18.1.1 g).map λu=>(sp.1,u,r59.1)) ((y:Int)+1):=
 A.lp g (λf (t:List Ed) i=>F.aP k30 g (y:Int) sp r18 r59 f t i) (λk t e=>k30 (e++(Qbu r18.1.1 t).map λu=>(sp.1,u,r59.1)) ((y:Int)+1)) (λk t=>t.length<=15000+2*k)
  (λf t N=>by rw[F.aP,Qb (by omega),F.cB,A.gd1 (A.r64n (by omega)),Qbu,Yp,Ww])
  (λf t k m H hk N ih=>by
   have hlen:=E.1;have h2:=in2 I (Qn H);have Y:=Qeh r18.1.1 m.1 0 m.2.2.1;rw[F.aP,Qc (by omega),edges_l4R g _ sp r18 r59 k m t (by omega) H h2 (by omega),ih _ (by rw[Qu,Wi];omega),Qbu,Xd,Xc])
  (by have:=Qac;have:=E.1;omega) xs (by omega)
def edOf (g:List Nd)(sp:Sp):List Ed:=if sp.1.2≠2 then(if(find g sp.1.1).1.2.1≠15 then [(sp.1,((find g sp.1.1).1.1,2),Qds (find g sp.1.1).1 sp.2)]else [])else(Qbu (find g sp.1.1).1.1 g).map λu=>(sp.1,u,(idP sp.2).1)
def edS (g:List Nd):List Sp->List Ed
 | []=>[]
 |sp::r=>edOf g sp++edS g r
def SpOk (g:List Nd)(sp:Sp):Prop:=(∃(j:Nat) (n:Nd),g[j]?=some n/\n.1=sp.1.1)/\0<=sp.2/\sp.2<=4
def Qfv {g:List Nd}(H:Inc g){j:Nat}{n:Nd}(E:g[j]?=some n):find g n.1=(n,true):=by
 unfold find;rw[H.idx E,Qb (by omega),Qbj rfl E]
def edgesR_l6 (g:List Nd)(l:List Sp)(I:Few g)(J:Inc g)(N:Own g)(hl:l.length<=130)(W: ∀sp∈l,SpOk g sp):F.dF g l=some (edS g l):=by
 have hlen:=I.1;have loop:=A.lp l (λf (s:List Ed) i=>F.ad g l f s i) (λk t s=>some (s++edS g t)) (λk s=>s.length<=83*k)
  (λf s W=>by rw[F.ad,Qb (by omega),edS,Ww])
  (λf s k x hx hk hp ih=>by
   obtain⟨⟨j,n,Y,H⟩,hd⟩:=W x (Qn hx);have hu:=Qcd n.1 g λx hx=>in2 N hx;rw[F.ad,Qc (by omega),A.ixn hx,Qa,<-H,Find_eq g I J Y,Qa,edS,edOf,<-H,Qfv J Y];simp only[F.c5,F.cB,A.gd1 (A.r64n (n:=k) (by omega)),Qa];by_cases h2:x.1.2≠2;rw[Qc h2,Qc h2];by_cases E:n.2.1≠15;rw[Qc E,Qc E,show F.dl n x.2=_ from within_eqR n x.2 hd,Qa,A.gd1 (by simp only[Ql,Q2];omega),ih _ (by simp only[Qu,Ql,Q2];omega),H];simp only[Xc];rw[Qb E,Qb E,ih _ (by omega),Xm];rw[Qb h2,Qb h2,Id_eqR x.2 hd,Qa,edges_l5R g _ k x (n,true) (idP x.2) s I N (by omega) (by omega),ih _ (by rw[Qu,Wi];show s.length+(Qbu n.1 g).length<=_;omega),Xc])
  (by have:=Qac;omega) [] (by simp)
 unfold F.dF;rw[loop];rfl
def Qlt (g:List Nd): ∀(a b:List Sp),edS g (a++b)=edS g a++edS g b
 | [],_=>rfl
 |x::a,b=>by rw[Xj,edS,edS,Qlt g a b,Xc]
def edS_ins {g:List Nd}(H:Inc g)(d:QP){j:Nat}{n:Nd}(I:g[j]?=some n): ∀(k:Nat) (l:QP),k+l.length<=2->edS g (insS g d n.1 k l)=if n.2.1=15 then []else inE g d n k l
 |k,[],_=>by unfold insS inE edS;split<;>rfl
 |k,z::r,h=>by
  rw[Ql]at h;have h2:((k:Int):Int)≠2:=by omega
  unfold insS inE;rw[edS,edS_ins H d I (k+1) r (by omega),edOf];simp only[Qfv H I];rw[Qc h2];by_cases E:n.2.1=15;simp[E];rw[Qb E,Qb E,Qc E];rfl
def Qiz {g:List Nd}(H:Inc g)(I:Own g)(d:QP): ∀(m k:Nat),k+m=g.length->edS g (spotsF g d k (g.drop k))=Qbf g d k (g.drop k)
 |0,k,h=>by rw[W9 (by omega)];rfl
 |m+1,k,h=>by
  have hx:g[k]?=some g[k]:=Qh (by omega);generalize g[k]=x at hx;have h2:=in2 I (Qn hx);rw[A.dropx hx,spotsF,Qbf,Qlt,Qlt,Qiz H I d m (k+1) (by omega),edS_ins H d hx 0 _ (by omega)];by_cases E:x.2.1=15;rw[Qc E,Qc E,outS,Qb (λh=>h E),edS];rfl;rw[Qb E,Qb E,outS,Qc E,edS,edOf];simp only[Qfv H hx];rw[Qb (λh=>h rfl),edS,Ww];rfl
def o_cH {g:List Nd}{d:QP}(E:InB d){j:Nat}{n:Nd}(H:g[j]?=some n): ∀(k:Nat) (l:QP),∀sp∈insS g d n.1 k l,SpOk g sp
 |_,[],sp,h=>by cases h
 |k,z::r,sp,h=>by
  unfold insS at h;rcases Qk.1 h with rfl|h
  exact⟨⟨j,n,H,rfl⟩,E _⟩;exact o_cH E H (k+1) r sp h
def o_a3 {g:List Nd}{d:QP}(H:InB d): ∀(m k:Nat),k+m=g.length->∀sp∈spotsF g d k (g.drop k),SpOk g sp
 |0,k,h,sp,E=>by rw[W9 (by omega)]at E;cases E
 |m+1,k,h,sp,E=>by
  have hx:g[k]?=some g[k]:=Qh (by omega);generalize g[k]=x at hx;rw[A.dropx hx,spotsF]at E;rcases Qx.1 E with E|E
  exact o_cH H hx 0 _ sp E;rcases Qx.1 E with E|E
  unfold outS at E;split at E;rw[Qr]at E;subst E;exact⟨⟨k,x,hx,rfl⟩,H _⟩;cases E;exact o_a3 H m (k+1) (by omega) sp E
def Qfk {g:List Nd}(E:Own g)(d:QP): ∀(m k:Nat),k+m=g.length->(spotsF g d k (g.drop k)).length<=3*m
 |0,k,h=>by rw[W9 (by omega)];exact Qt 0
 |m+1,k,h=>by
  have hx:g[k]?=some g[k]:=Qh (by omega);generalize g[k]=x at hx;have h2:=in2 E (Qn hx);have H:=Qhs x (iget d (k:Int));have I:=Qfk E d m (k+1) (by omega);rw[A.dropx hx,spotsF,Qu,Qu,Qeg];omega
def edgesR_eq (g:List Nd)(d:QP)(I:Few g)(J:Inc g)(E:Own g)(H:InB d):F.dF g (spots g d)=some (Qaj g d):=by
 have h1:=Qfk E d g.length 0 (by omega);have h2:=o_a3 (d:=d) (g:=g) H g.length 0 (by omega);have N:=Qiz J E d g.length 0 (by omega);rw[Xi]at h1 h2 N;have:=I.1;rw[edgesR_l6 g (spots g d) I J E (by unfold spots;omega) h2];exact W8 some N
inductive Rch {α:Type} (R:α->α->Prop) (a:α):α->Prop
 |one {b:α} (h:R a b):Rch R a b
 |step {b c:α} (h:Rch R a b) (h2:R b c):Rch R a c
def Qey (g:List Nd)(d:QP)(id:Int): ∀(k:Nat) (l:QP) (p:Pl) (v:Int),(p,v)∈insS g d id k l->p.1=id/\(k:Int)<=p.2/\p.2<(k:Int)+l.length
 |_,[],_,_,h=>by cases h
 |k,z::r,p,v,h=>by
  unfold insS at h;rw[Ql];rcases Qk.1 h with h|h
  injection h with h1 h2;subst h1;refine⟨rfl,Ji _,?_⟩;simp only[];omega
  have:=Qey g d id (k+1) r p v h;omega
def Qgu (g:List Nd)(d:QP)(id:Int): ∀(k:Nat) (l:QP),((insS g d id k l).map (·.1)).Nodup
 |_,[]=>Yq
 |k,z::r=>by
  unfold insS;rw[Q9,Xa];refine⟨λh=>?_,Qgu g d id (k+1) r⟩;obtain⟨⟨p,v⟩,h1,h2⟩:=Wu.1 h;have:=Qey g d id (k+1) r p v h1;simp only[]at h2;rw[h2]at this;simp only[]at this;omega
def Qgz {g:List Nd}(d:QP): ∀(k:Nat) (l:List Nd) (sp:Sp),sp∈spotsF g d k l->∃n∈l,n.1=sp.1.1
 |_,[],_,h=>by cases h
 |k,n::r,sp,h=>by
  unfold spotsF at h;rcases Qx.1 h with h|h
  exact⟨n,Qg ..,(Qey g d n.1 0 _ sp.1 sp.2 h).1.symm⟩;rcases Qx.1 h with h|h
  unfold outS at h;split at h;rw[Qr]at h;subst h;exact⟨n,Qg ..,rfl⟩;cases h;obtain⟨m,h1,h2⟩:=Qgz d (k+1) r sp h;exact⟨m,Qe _ h1,h2⟩
def Qdz {g:List Nd}(d:QP): ∀(k:Nat) (l:List Nd),l.Pairwise (λa b=>a.1<b.1)->(∀n∈l,n.2.2.1.length<=2)->((spotsF g d k l).map (·.1)).Nodup
 |_,[],_,_=>Yq
 |k,n::r,hp,W=>by
  rw[Wc]at hp;have h2:=W n (Qg ..);unfold spotsF;rw[Xd,Xb,Xd,Xb];have hrest: ∀p∈(spotsF g d (k+1) r).map (·.1),p.1≠n.1:=λp E e=>by
   obtain⟨sp,h1,rfl⟩:=Wu.1 E;obtain⟨m,H,Y⟩:=Qgz d (k+1) r sp h1;have:=hp.1 m H;omega
  have hout: ∀p∈(outS n (iget d (k:Int))).map (·.1),p=(n.1,2):=λp E=>by
   unfold outS at E;split at E;simpa using E;cases E
  have J: ∀p∈(insS g d n.1 0 n.2.2.1).map (·.1),p.1=n.1/\p.2<2:=λp E=>by
   obtain⟨⟨q,v⟩,h1,rfl⟩:=Wu.1 E;have:=Qey g d n.1 0 _ q v h1;simp only[];omega
  refine⟨Qgu g d n.1 0 _,⟨?_,Qdz d (k+1) r hp.2 (λx hx=>W x (Qe _ hx)),?_⟩,?_⟩;unfold outS;split<;>simp;intro a N b I e;have H:=hout a N;subst e;exact hrest a I (by rw[H]);intro a N b I e;subst e;have H:=J a N;rcases Qx.1 I with I|I
  have:=hout a I;rw[this]at H;simp only[]at H;omega;exact hrest a I H.1
def useN_mem (id nd:Int): ∀(k:Nat) (l:QP) (u:Pl),u∈useN id nd k l->u.1=nd/\∃j:Nat,u.2=(k:Int)+j/\j<l.length
 |_,[],u,h=>by cases h
 |k,z::r,u,h=>by
  unfold useN at h;have hrec:u∈useN id nd (k+1) r->u.1=nd/\∃j:Nat,u.2=(k:Int)+j/\j<(z::r).length:=λh=>by
   obtain⟨h1,j,h2,E⟩:=useN_mem id nd (k+1) r u h;exact⟨h1,j+1,by omega,by rw[Ql];omega⟩
  split at h;rcases Qk.1 h with rfl|h
  exact⟨rfl,0,by simp,by rw[Ql];omega⟩;exact hrec h;exact hrec h
def insS_get (g:List Nd)(d:QP)(id:Int): ∀(k:Nat) (l:QP) (j:Nat),j<l.length->∃v,((id,(k:Int)+j),v)∈insS g d id k l
 |_,[],j,h=>by simp at h
 |k,z::r,j,h=>by
  unfold insS;cases j with
  |zero=>exact⟨iget d (idx g z),by simp⟩
  |succ j=>
   rw[Ql]at h;obtain⟨v,E⟩:=insS_get g d id (k+1) r j (by omega);refine⟨v,Qe _ ?_⟩;have e:(k:Int)+((j+1:Nat):Int)=((k+1:Nat):Int)+(j:Int):=by omega
   rw[e];exact E
def Qgy {g:List Nd}(d:QP): ∀(k:Nat) (l:List Nd) (n:Nd),n∈l->∀sp∈insS g d n.1 0 n.2.2.1,sp∈spotsF g d k l
 |_,[],_,h,_,_=>by cases h
 |k,m::r,n,h,sp,E=>by
  unfold spotsF;rcases Qk.1 h with rfl|h
  exact We _ E;exact Q3 _ (Q3 _ (Qgy d (k+1) r n h sp E))
def Qgn {g:List Nd}(d:QP): ∀(k:Nat) (l:List Nd) (n:Nd),n∈l->n.2.1≠15->∃v,((n.1,2),v)∈spotsF g d k l
 |_,[],_,h,_=>by cases h
 |k,m::r,n,h,E=>by
  unfold spotsF;rcases Qk.1 h with rfl|h
  exact⟨iget d (k:Int),Q3 _ (We _ (by unfold outS;rw[Qc E];simp))⟩;obtain⟨v,H⟩:=Qgn d (k+1) r n h E;exact⟨v,Q3 _ (Q3 _ H)⟩
def Qjf (id:Int): ∀(l:List Nd) (u:Pl),u∈Qbu id l->∃n∈l,u.1=n.1/\∃j:Nat,u.2=(j:Int)/\j<n.2.2.1.length
 | [],u,h=>by cases h
 |n::r,u,h=>by
  unfold Qbu at h;rcases Qx.1 h with h|h
  obtain⟨h1,j,h2,E⟩:=useN_mem id n.1 0 _ u h;exact⟨n,Qg ..,h1,j,by omega,E⟩;obtain⟨m,h1,h2⟩:=Qjf id r u h;exact⟨m,Qe _ h1,h2⟩
def inE_mem (g:List Nd)(d:QP)(n:Nd): ∀(k:Nat) (l:QP) (e:Ed),e∈inE g d n k l->e.1.1=n.1/\(k:Int)<=e.1.2/\e.1.2<(k:Int)+l.length/\e.2.1=(n.1,2)
 |_,[],_,h=>by cases h
 |k,z::r,e,h=>by
  unfold inE at h;rw[Ql];rcases Qk.1 h with rfl|h
  refine⟨rfl,Ji _,?_,rfl⟩;simp only[];omega;have:=inE_mem g d n (k+1) r e h;refine⟨this.1,by omega,by omega,this.2.2.2⟩
def Qch {g:List Nd}(d:QP): ∀(k:Nat) (l:List Nd) (e:Ed),e∈Qbf g d k l->∃n∈l,e.1.1=n.1/\((n.2.1≠15/\e.2.1=(n.1,2)/\0<=e.1.2/\e.1.2<n.2.2.1.length)\/(e.1.2=2/\∃m∈g,e.2.1.1=m.1/\∃j:Nat,e.2.1.2=(j:Int)/\j<m.2.2.1.length))
 |_,[],_,h=>by cases h
 |k,n::r,e,h=>by
  unfold Qbf at h;have hrec:e∈Qbf g d (k+1) r->∃m∈n::r,e.1.1=m.1/\((m.2.1≠15/\e.2.1=(m.1,2)/\0<=e.1.2/\e.1.2<m.2.2.1.length)\/(e.1.2=2/\∃q∈g,e.2.1.1=q.1/\∃j:Nat,e.2.1.2=(j:Int)/\j<q.2.2.1.length)):=λh=>by
   obtain⟨m,h1,h2⟩:=Qch d (k+1) r e h;exact⟨m,Qe _ h1,h2⟩
  split at h;exact hrec h;rename_i E;rcases Qx.1 h with h|h
  obtain⟨h1,h2,J,H⟩:=inE_mem g d n 0 _ e h;exact⟨n,Qg ..,h1,.inl ⟨E,H,by omega,by omega⟩⟩;rcases Qx.1 h with h|h
  unfold outE at h;obtain⟨u,I,rfl⟩:=Wu.1 h;obtain⟨m,h1,h2⟩:=Qjf n.1 g u I;exact⟨n,Qg ..,rfl,.inr ⟨rfl,m,h1,h2⟩⟩;exact hrec h
def edge_to {g:List Nd}(d:QP){e:Ed}(H:e∈Qaj g d): ∃v,(e.2.1,v)∈spots g d:=by
 obtain⟨n,I,h1,h|h⟩:=Qch d 0 g e H;obtain⟨v,E⟩:=Qgn d 0 g n I h.1;exact⟨v,by rw[h.2.1];exact E⟩;obtain⟨_,m,J,h2,j,N,W⟩:=h;obtain⟨v,E⟩:=insS_get g d m.1 0 m.2.2.1 j W;refine⟨v,Qgy d 0 g m J _ ?_⟩;have Y:e.2.1=(m.1,((0:Nat):Int)+(j:Int)):=Prod.ext h2 (by rw[N];simp);rw[Y];exact E
def Qjq {g:List Nd}(d:QP){e:Ed}(E:e∈Qaj g d): ∃n∈g,e.1.1=n.1:=by
 obtain⟨n,H,h1,_⟩:=Qch d 0 g e E;exact⟨n,H,h1⟩
def edge_out {g:List Nd}(d:QP)(E:Own g){e:Ed}(H:e∈Qaj g d)(h2:e.2.1.2=2):e.1.1=e.2.1.1/\e.1.2≠2:=by
 obtain⟨n,I,h1,h|h⟩:=Qch d 0 g e H;have:=in2 E I;exact⟨by rw[h1,h.2.1],by omega⟩;obtain⟨_,m,J,_,j,N,W⟩:=h;have:=in2 E J;omega
def atS_mem {p:Pl}: ∀{l:List Sp} {v:Int},(l.map (·.1)).Nodup->(p,v)∈l->atS p l=v
 | [],_,_,h=>by cases h
 |x::r,v,E,h=>by
  rw[Q9,Xa]at E;unfold atS;rcases Qk.1 h with rfl|h
  rw[Qc rfl];rw[Qb (λe=>E.1 (by rw[e];exact List.mem_map_of_mem (f:=(·.1)) h))];exact atS_mem E.2 h
def R_at_eq (l:List Sp)(p:Pl)(E:l.length<=100000):F.et l p=some (atS p l):=
 A.lp0 l (λf y=>F.c7 l p f y) (λ_ t=>some (atS p t))
  (λf=>by rw[F.c7,Qb (by omega)];rfl)
  (λf k x hx hk ih=>by
   rw[F.c7,Qc (by omega),A.ixn hx,Qa,Qa,atS];by_cases h:x.1=p;rw[Qc (show x.1=p from h),Qc h];rw[Qb (show ¬x.1=p from h),Qb h,A.gd1 (A.r64n (by omega)),ih])
  (by have:=Qac;omega)
def R_on_eq (l:List Pl)(p:Pl)(E:l.length<=100000):F.ef l p=some (decide (p∈l)):=
 A.lp0 l (λf y=>F.c8 l p f y) (λ_ t=>some (decide (p∈t)))
  (λf=>by rw[F.c8,Qb (by omega)];simp)
  (λf k x hx hk ih=>by
   rw[F.c8,Qc (by omega),A.ixn hx,Qa];by_cases h:x=p;rw[Qc (show x=p from h)];simp[h];rw[Qb (show ¬x=p from h),A.gd1 (A.r64n (by omega)),ih];congr 1;exact decide_eq_decide.2 ⟨λh2=>Qe _ h2,λh2=>(Qk.1 h2).resolve_left λe=>h e.symm⟩)
  (by have:=Qac;omega)
def Qci (g:List Nd)(S:List Sp)(dd:Int)(e:Ed):Bool:=decide (dd<=atS e.2.1 S)&&(decide ((find g e.1.1).1.2.1≠14)||decide ((find g e.1.1).1.2.2.2.2.2.2≠dd)||decide (e.1.2=2))
def R_open_eq (g:List Nd)(S:List Sp)(e:Ed)(dd:Int)(I:Few g)(E:Inc g)(J:S.length<=100000)(N: ∃n∈g,e.1.1=n.1):F.dU g S e dd=some (Qci g S dd e):=by
 obtain⟨n,W,h1⟩:=N;obtain⟨j,H⟩:=W6.1 W;unfold F.dU Qci;rw[h1,Find_eq g I E H,Qa,show F.et S e.2.1=_ from R_at_eq S e.2.1 J,Qa,Qfv E H];by_cases h:dd<=atS e.2.1 S;rw[Qc h,Q4 h,Xp];congr 1;rw[Qb h,Wh h,Jg]
def addR (g:List Nd)(S:List Sp)(dd:Int)(cur:Pl):List Ed->List Pl->List Pl
 | [],r=>r
 |e::t,r=>addR g S dd cur t (if e.1=cur/\Qci g S dd e=true/\e.2.1∉r then r++[e.2.1]else r)
def round_l3 (g:List Nd)(S:List Sp)(E:List Ed)(from_:Sp)(H:List Pl->List Pl->Int->Option Bool)(y:Nat)(cur:Pl)(r:List Pl)(hb:Few g)(hi:Inc g)(hS:S.length<=100000)(hE:E.length<=5000)(hf: ∀e∈E,∃n∈g,e.1.1=n.1)(hc:(from_.1::r)[y]?=some cur)(hy:y<=10000)(hr:r.length<=9000)(hall: ∀k,(addR g S from_.2 cur (E.take k) r).length<=9000):
  F.al H g S E from_ (y:Int) A.FU r (from_.1::r) 0=H (addR g S from_.2 cur E r) (from_.1::addR g S from_.2 cur E r) ((y:Int)+1):=
 A.lp E (λf (s:List Pl×List Pl) i=>F.al H g S E from_ (y:Int) f s.1 s.2 i) (λk t s=>H (addR g S from_.2 cur t s.1) (from_.1::addR g S from_.2 cur t s.1) ((y:Int)+1)) (λk s=>s.2=from_.1::s.1/\s.2[y]?=some cur/\s.1=addR g S from_.2 cur (E.take k) r)
  (λf s Y=>by
   rw[F.al,Qb (by omega),A.gd1 (A.r64n (by omega)),Y.1];rfl)
  (λf s k e J hk Y ih=>by
   obtain⟨q,r'⟩:=s;obtain⟨h1,h2,h3⟩:=Y;simp only[]at h1 h2 h3;have hlen:q.length<=9000:=by rw[h3];exact hall _
   have hsnoc: ∀(t:List Ed) (e:Ed) (r:List Pl),addR g S from_.2 cur (t++[e]) r=(if e.1=cur/\Qci g S from_.2 e=true/\e.2.1∉addR g S from_.2 cur t r then addR g S from_.2 cur t r++[e.2.1]else addR g S from_.2 cur t r):=by
    intro t;induction t with
    |nil=>intro e r;rfl
    |cons x t iht=>intro e r;rw[Xj,addR,addR];exact iht e _
   have hnext:addR g S from_.2 cur (E.take (k+1)) r=if e.1=cur/\Qci g S from_.2 e=true/\e.2.1∉q then q++[e.2.1]else q:=by
    rw[Qgx J,hsnoc,<-h3]
   have hopen:=R_open_eq g S e from_.2 hb hi hS (hf e (Qn J));rw[F.al,Qc (by omega),A.ixn J,Qa,A.ixn h2,Qa,addR];simp only[F.cC,F.c9,A.ixn J,Qa,A.gd1 (A.r64n (n:=k) (by omega)),Qz,Wf];have stay: ¬(e.1=cur/\Qci g S from_.2 e=true/\e.2.1∉q)->F.al H g S E from_ (y:Int) f q r' ((k:Int)+1)=H (addR g S from_.2 cur (E.drop (k+1)) (if e.1=cur/\Qci g S from_.2 e=true/\e.2.1∉q then q++[e.2.1]else q)) (from_.1::addR g S from_.2 cur (E.drop (k+1)) (if e.1=cur/\Qci g S from_.2 e=true/\e.2.1∉q then q++[e.2.1]else q)) ((y:Int)+1):=λhn=>by
    rw[Qb hn]at hnext ⊢;exact ih (q,r') ⟨h1,h2,hnext.symm⟩
   by_cases hcur:e.1=cur;rw[Qc (show e.1=cur from hcur),show F.dU g S e from_.2=_ from hopen,Qa];by_cases N:Qci g S from_.2 e=true;rw[Qc N,show F.ef q e.2.1=_ from R_on_eq q e.2.1 (by omega),Qa];by_cases W:e.2.1∈q;rw[Q4 W,Xk,Qb W5];exact stay λh=>h.2.2 W;have I:e.1=cur/\Qci g S from_.2 e=true/\e.2.1∉q:=⟨hcur,N,W⟩;rw[Wh W,Xz,Qc rfl,A.gd1 (by simp only[Ql,Q2];omega),A.gd1 (by rw[h1];simp only[Ql,Q2];omega),Qc I];rw[Qc I]at hnext;refine ih (q++[e.2.1],r'++[e.2.1]) ⟨?_,?_,hnext.symm⟩;simp only[h1,Xj];simp only[];rw[Wo (Qd.1 h2).1];exact h2;rw[Qb N];exact stay λh=>N h.2.1;rw[Qb (show ¬e.1=cur from hcur)];exact stay λh=>hcur h.1)
  (by have:=Qac;omega) (r,from_.1::r) ⟨rfl,hc,rfl⟩
def okE (g:List Nd)(S:List Sp)(E:List Ed)(dd:Int)(p q:Pl):Prop:=∃e∈E,e.1=p/\e.2.1=q/\Qci g S dd e=true
def Qdb (g:List Nd)(S:List Sp)(dd:Int)(cur:Pl): ∀(t:List Ed) (r:List Pl),∃x,addR g S dd cur t r=r++x/\(∀p∈x,∃e∈t,e.1=cur/\e.2.1=p/\Qci g S dd e=true)/\(r.Nodup->(r++x).Nodup)/\(∀e∈t,e.1=cur->Qci g S dd e=true->e.2.1∈r++x)
 | [],r=>⟨[],by rw[addR,Ww],by simp,by simp,by simp⟩
 |e::t,r=>by
  rw[addR];by_cases h:e.1=cur/\Qci g S dd e=true/\e.2.1∉r;rw[Qc h];obtain⟨x,h1,h2,I,J⟩:=Qdb g S dd cur t (r++[e.2.1]);refine⟨e.2.1::x,by rw[h1];simp,λp hp=>?_,λY=>?_,λH E a b=>?_⟩;rcases Qk.1 hp with rfl|hp
  exact⟨e,Qg ..,h.1,rfl,h.2.1⟩;obtain⟨H,a,b⟩:=h2 p hp;exact⟨H,Qe _ a,b⟩;have:=I (Xb.2 ⟨Y,by simp,λa ha b N=>by rw[Qr]at N;subst N;intro H;subst H;exact h.2.2 ha⟩);simpa using this;rcases Qk.1 E with rfl|E
  simp;have:=J H E a b;simpa using this;rw[Qb h];obtain⟨x,h1,h2,I,J⟩:=Qdb g S dd cur t r;refine⟨x,h1,λp hp=>?_,I,λH E a b=>?_⟩;obtain⟨H,a,b⟩:=h2 p hp;exact⟨H,Qe _ a,b⟩;rcases Qk.1 E with rfl|E
  refine We _ ?_;by_cases W:H.2.1∈r;exact W;exact absurd ⟨a,b,W⟩ h;exact J H E a b
def nodup_len {α:Type}[DecidableEq α]: ∀{l m:List α},l.Nodup->(∀x∈l,x∈m)->l.length<=m.length
 | [],m,_,_=>Yh _
 |a::l,m,E,h=>by
  rw[Xa]at E;have H:=h a (Qg ..);have:=nodup_len (l:=l) (m:=m.erase a) E.2 λx hx=>(List.mem_erase_of_ne (λe=>by subst e;exact E.1 hx)).2 (h x (Qe _ hx));rw[List.length_erase_of_mem H]at this;have hpos:0<m.length:=List.length_pos_of_mem H;rw[Ql];omega
def round_eq (g:List Nd)(S:List Sp)(E:List Ed)(from_:Sp)(hb:Few g)(hi:Inc g)(hS:S.length<=100000)(hE:E.length<=4000)(hf: ∀e∈E,∃n∈g,e.1.1=n.1):
  ∃b,F.dG g S E from_=some b/\(b=true↔Rch (okE g S E from_.2) from_.1 from_.1):=by
 have sub: ∀(r:List Pl),r.Nodup->(∀p∈r,∃e∈E,e.2.1=p)->r.length<=4000:=λr I h=>by
  have:=nodup_len (m:=E.map λe=>e.2.1) I λp hp=>by obtain⟨e,h1,h2⟩:=h p hp;exact Wu.2 ⟨e,h1,h2⟩
  rw[Wi]at this;omega
 have main: ∀(n f y:Nat) (r:List Pl),y+n=4002->n<f->r.Nodup->y<=1+r.length->(∀p∈r,∃e∈E,e.2.1=p)->(∀p∈r,Rch (okE g S E from_.2) from_.1 p)->(∀i p q,i<y->(from_.1::r)[i]?=some p->okE g S E from_.2 p q->q∈r)->
   ∃b,F.bd g S E from_ f r (from_.1::r) (y:Int)=some b/\(b=true↔Rch (okE g S E from_.2) from_.1 from_.1):=by
  intro n;induction n with
  |zero=>
   intro f y r hy hf' I W hsub _ _;have:=sub r I hsub;omega
  |succ n ih=>
   intro f y r hy hf' I W hsub hreach hclosed;obtain⟨f,rfl⟩: ∃f',f=f'+1:=⟨f-1,by omega⟩;have hl:=sub r I hsub;rw[F.bd];by_cases h:y<1+r.length;obtain⟨cur,hcur⟩: ∃c,(from_.1::r)[y]?=some c:=⟨_,Qh (by rw[Ql];omega)⟩;obtain⟨x,h1,h2,h3,h4⟩:=Qdb g S from_.2 cur E r;have hsub2: ∀p∈r++x,∃e∈E,e.2.1=p:=λp hp=>by
    rcases Qx.1 hp with hp|hp
    exact hsub p hp;obtain⟨e,a,_,b,_⟩:=h2 p hp;exact⟨e,a,b⟩
   have hall: ∀k,(addR g S from_.2 cur (E.take k) r).length<=9000:=λk=>by
    obtain⟨x',a,b,c,_⟩:=Qdb g S from_.2 cur (E.take k) r;have:=sub (r++x') (c I) λp hp=>by
     rcases Qx.1 hp with hp|hp
     exact hsub p hp;obtain⟨e,a2,_,b2,_⟩:=b p hp;exact⟨e,Jf a2,b2⟩
    rw[a];omega
   rw[Qc (by rw[Ql];omega),round_l3 g S E from_ _ y cur r hb hi hS (by omega) hf hcur (by omega) (by omega) hall,h1];have e1:(y:Int)+1=((y+1:Nat):Int):=by omega
   rw[e1];have H:cur=from_.1\/Rch (okE g S E from_.2) from_.1 cur:=by
    cases y with
    |zero=>injection hcur with hcur;exact .inl hcur.symm
    |succ y=>exact .inr (hreach cur (Qn (by simpa using hcur)))
   refine ih f (y+1) (r++x) (by omega) (by omega) (h3 I) (by rw[Qu];omega) hsub2 (λp hp=>?_) λi p q hi2 hp J=>?_;rcases Qx.1 hp with hp|hp
   exact hreach p hp;obtain⟨e,a,b,c,d2⟩:=h2 p hp;rcases H with H|H
   exact .one ⟨e,a,b.trans H,c,d2⟩;exact .step H ⟨e,a,b,c,d2⟩;rw[<-Xj,Wo (by rw[Ql];omega)]at hp;rcases Ye i y with h5|h5
   exact We _ (hclosed i p q h5 hp J);obtain rfl:i=y:=by omega
   rw[hcur]at hp;injection hp with hp;subst hp
   obtain⟨e,a,b,c,d2⟩:=J;rw[<-c];exact h4 e a b d2;rw[Qb (by rw[Ql];omega),show F.ef r from_.1=_ from R_on_eq r from_.1 (by omega),Qa];refine⟨_,rfl,?_⟩;rw[Q1];refine⟨hreach _,λhr=>?_⟩;have Y: ∀q,Rch (okE g S E from_.2) from_.1 q->q∈r:=λq hq=>by
    induction hq with
    |one h6=>exact hclosed 0 _ _ (by omega) rfl h6
    |step h6 h7 ih2=>
     obtain⟨i,N⟩:=W6.1 ih2;have:=(Qd.1 N).1;exact hclosed (i+1) _ _ (by omega) (by simpa using N) h7
   exact Y _ hr
 exact main 4002 A.FU 0 [] (by omega) (by have:=Qac;omega) Yq (by simp) (by simp) (by simp) (λi p q h=>by omega)
abbrev Seen:=List (Pl×Bool)
def seen (m:Seen)(v:Pl):Prop:=Z.mget false m v=true
def addP (deep:List Sp)(from_:Pl)(dd:Int):List Pl->Seen->List Pl->Option (Seen×List Pl)
 | [],m,xs=>some (m,xs)
 |t::r,m,xs=>if t=from_ then none else if dd<=Z.mget 0 deep t/\Z.mget false m t=false then addP deep from_ dd r (Z.mins m t true) (xs++[t])else addP deep from_ dd r m xs
def reaches_l3 (deep:List Sp)(from_:Pl)(dd:Int)(E:Seen->List Pl->Option Bool)(tos:List Pl)(m:Seen)(xs:List Pl)(hl:tos.length<=4000)(hx:xs.length<=10000):
  F.i E deep from_ dd tos A.FU m xs 0=match addP deep from_ dd tos m xs with
   |none=>some true
   |some s=>E s.1 s.2:=
 A.lp tos (λf (s:Seen×List Pl) i=>F.i E deep from_ dd tos f s.1 s.2 i) (λ_ t s=>match addP deep from_ dd t s.1 s.2 with
   |none=>some true
   |some s=>E s.1 s.2) (λk s=>s.2.length<=10000+k)
  (λf s W=>by rw[F.i,Qb (by omega),addP])
  (λf s k t Y hk W ih=>by
   rw[F.i,Qc (by omega),A.ixn Y,Qa,addP,A.lt];simp only[F.aY,F.aX,A.lt,A.gd1 (A.r64n (n:=k) (by omega)),Qz,Wf];by_cases h:t=from_;rw[Qc (show t=from_ from h),Qc h];rw[Qb (show ¬t=from_ from h),Qb h];by_cases H:dd<=Z.mget 0 deep t;rw[Qc (show dd<=Z.mget 0 deep t from H)];by_cases I:Z.mget false s.1 t=false;have J:dd<=Z.mget 0 deep t/\Z.mget false s.1 t=false:=⟨H,I⟩;rw[Qc J,show Z.mget false s.1 t=false from I,Xz,Qc rfl,A.gd1 (by simp only[Ql,Q2];omega)];exact ih (Z.mins s.1 t true,s.2++[t]) (by simp only[Qu,Ql,Q2];omega);have N:Z.mget false s.1 t=true:=by cases h2:Z.mget false s.1 t with
    |true=>rfl
    |false=>exact absurd h2 I
   have J: ¬(dd<=Z.mget 0 deep t/\Z.mget false s.1 t=false):=λh2=>I h2.2;rw[Qb J,show Z.mget false s.1 t=true from N,Xk,Qb W5];exact ih s (by omega);rw[Qb (show ¬dd<=Z.mget 0 deep t from H),Qb (λh2=>H h2.1)];exact ih s (by omega))
  (by have:=Qac;omega) (m,xs) (by simp only[];omega)
def un (T:List Pl)(m:Seen):Nat:=(T.filter λt=> !(Z.mget false m t)).length
def un_ins {T:List Pl}{m:Seen}{t:Pl}(E:t∈T)(H:Z.mget false m t=false):un T (Z.mins m t true)+1<=un T m:=by
 unfold un;have mono: ∀(l:List Pl),(l.filter λt'=> !(Z.mget false (Z.mins m t true) t')).length<=(l.filter λt'=> !(Z.mget false m t')).length:=by
  intro l;induction l with
  |nil=>exact Qt _
  |cons a l ih=>
   rw[Yn,Yn,Kl];by_cases e:a=t;rw[Qc e,e,H];simp only[Xk,Qz,Wf,Xz,Xn,Ql];omega;rw[Qb e];split<;>(try simp only[Ql])<;>omega
 induction T with
 |nil=>cases E
 |cons a l ih=>
  rw[Yn,Yn,Kl];have:=mono l;by_cases e:a=t;rw[Qc e,e,H];simp only[Xk,Qz,Wf,Xz,Xn,Ql];omega;have:=ih ((Qk.1 E).resolve_left λh=>e h.symm);rw[Qb e];split<;>(try simp only[Ql])<;>omega
def Qfo {deep:List Sp}{from_:Pl}{dd:Int}: ∀{tos:List Pl} {m:Seen} {xs:List Pl},addP deep from_ dd tos m xs=none->from_∈tos
 | [],_,_,h=>by cases h
 |t::r,m,xs,h=>by
  rw[addP]at h;by_cases e:t=from_;rw[e];exact Qg ..;rw[Qb e]at h;split at h;exact Qe _ (Qfo h);exact Qe _ (Qfo h)
def Qda {m:Seen}{t v:Pl}:seen (Z.mins m t true) v↔v=t\/seen m v:=by
 unfold seen;rw[Kl];by_cases e:v=t;rw[Qc e];simp[e];rw[Qb e];simp[e]
def addP_some {deep:List Sp}{from_:Pl}{dd:Int}{T:List Pl}: ∀{tos:List Pl} {m m':Seen} {xs xs':List Pl},(∀t∈tos,t∈T)->addP deep from_ dd tos m xs=some (m',xs')->
  from_∉tos/\(∀v,seen m v->seen m' v)/\(∀v,seen m' v->seen m v\/(v∈tos/\dd<=Z.mget 0 deep v))/\(∀t∈tos,dd<=Z.mget 0 deep t->seen m' t)/\(∀v∈xs,v∈xs')/\(∀v∈xs',v∈xs\/seen m' v)/\(∀v,seen m' v->seen m v\/v∈xs')/\xs'.length+un T m'<=xs.length+un T m
 | [],m,m',xs,xs',_,h=>by
  injection h with h;injection h with h1 h2;subst h1;subst h2
  exact⟨by simp,λv h=>h,λv h=>.inl h,by simp,λv h=>h,λv h=>.inl h,λv h=>.inl h,Qt _⟩
 |t::r,m,m',xs,xs',N,h=>by
  rw[addP]at h;by_cases e:t=from_;rw[Qc e]at h;cases h;rw[Qb e]at h;by_cases J:dd<=Z.mget 0 deep t/\Z.mget false m t=false;rw[Qc J]at h;obtain⟨a1,a2,a3,a4,a5,a6,a7,a8⟩:=addP_some (λx hx=>N x (Qe _ hx)) h;have W:=un_ins (N t (Qg ..)) J.2;refine⟨λh2=>(Qk.1 h2).elim (λI=>e I.symm) a1,λv E=>a2 v (Qda.2 (.inr E)),λv E=>?_,λx hx H=>?_,λv E=>a5 v (We _ E),λv E=>?_,λv E=>?_,by rw[Qu]at a8;simp only[Ql,Q2]at a8;omega⟩;rcases a3 v E with h2|h2
  rcases Qda.1 h2 with rfl|I
  exact .inr ⟨Qg ..,J.1⟩;exact .inl I;exact .inr ⟨Qe _ h2.1,h2.2⟩;rcases Qk.1 hx with rfl|hx
  exact a2 _ (Qda.2 (.inl rfl));exact a4 x hx H;rcases a6 v E with h2|h2
  rcases Qx.1 h2 with h2|h2
  exact .inl h2;rw[Qr]at h2;subst h2;exact .inr (a2 _ (Qda.2 (.inl rfl)));exact .inr h2;rcases a7 v E with h2|h2
  rcases Qda.1 h2 with rfl|I
  exact .inr (a5 _ (Q3 _ (Qr.2 rfl)));exact .inl I;exact .inr h2;rw[Qb J]at h;obtain⟨a1,a2,a3,a4,a5,a6,a7,a8⟩:=addP_some (λx hx=>N x (Qe _ hx)) h;refine⟨λh2=>(Qk.1 h2).elim (λI=>e I.symm) a1,a2,λv E=>?_,λx hx H=>?_,a5,a6,a7,a8⟩;rcases a3 v E with h2|h2
  exact .inl h2;exact .inr ⟨Qe _ h2.1,h2.2⟩;rcases Qk.1 hx with rfl|hx
  refine a2 _ ?_;unfold seen;cases h2:Z.mget false m x with
  |true=>rfl
  |false=>exact absurd ⟨H,h2⟩ J
  exact a4 x hx H
def blk (g:List Nd)(dd:Int)(p:Pl):Prop:=(Z.mget ((0,0,[],(0,0,(QE)),(QE),0,0):Nd) (mapOf g) p.1).2.1=14/\(Z.mget ((0,0,[],(0,0,(QE)),(QE),0,0):Nd) (mapOf g) p.1).2.2.2.2.2.2=dd
def okP (g:List Nd)(steps:List (Pl×List Pl))(deep:List Sp)(dd:Int)(p q:Pl):Prop:=q∈Z.mget [] steps p/\¬blk g dd p/\dd<=Z.mget 0 deep q
def reaches_eq (g:List Nd)(a0:(List (Int×Nd))×(QP)×(List (Int×Int)))(h0:a0.1=mapOf g)(steps:List (Pl×List Pl))(deep:List Sp)(from_:Pl)(dd:Int)(T:List Pl)(hT:T.length<=4000)(hst: ∀p q,q∈Z.mget [] steps p->q∈T)(hsl: ∀p,(Z.mget [] steps p).length<=4000)(hfd:dd<=Z.mget 0 deep from_):
  ∃b,F.aA a0 steps deep from_ dd=some b/\(b=true↔Rch (okP g steps deep dd) from_ from_):=by
 have main: ∀(n f:Nat) (m:Seen) (xs:List Pl),xs.length+un T m<=n->n<f->xs.length<=9000->xs.length+un T m<=9000->(∀v,seen m v->Rch (okP g steps deep dd) from_ v)->(∀t∈xs,t=from_\/seen m t)->(∀v,v=from_\/seen m v->v∉xs->∀w,okP g steps deep dd v w->w≠from_/\seen m w)->
   ∃b,F.j a0 steps deep from_ dd f m xs=some b/\(b=true↔Rch (okP g steps deep dd) from_ from_):=by
  intro n;induction n with
  |zero=>
   intro f m xs hn hf hx900 _ i1 i2 J;obtain⟨f,rfl⟩: ∃f',f=f'+1:=⟨f-1,by omega⟩;have hx:xs=[]:=Ws (by omega);subst hx;rw[F.j,Qb (by simp)];refine⟨false,rfl,λh=>(by cases h),λh=>?_⟩;have N: ∀q,Rch (okP g steps deep dd) from_ q->q≠from_/\seen m q:=λq hq=>by
    induction hq with
    |one h6=>exact J from_ (.inl rfl) (by simp) _ h6
    |step h6 h7 W=>exact J _ (.inr W.2) (by simp) _ h7
   exact absurd rfl (N _ h).1
  |succ n ih=>
   intro f m xs hn hf hx900 hu900 i1 i2 J;obtain⟨f,rfl⟩: ∃f',f=f'+1:=⟨f-1,by omega⟩;rw[F.j];by_cases Y:xs=[];subst Y;rw[Qb (by simp)];refine⟨false,rfl,λh=>(by cases h),λh=>?_⟩;have N: ∀q,Rch (okP g steps deep dd) from_ q->q≠from_/\seen m q:=λq hq=>by
    induction hq with
    |one h6=>exact J from_ (.inl rfl) (by simp) _ h6
    |step h6 h7 W=>exact J _ (.inr W.2) (by simp) _ h7
   exact absurd rfl (N _ h).1;obtain⟨ys,at_,rfl⟩: ∃ys a,xs=ys++[a]:=⟨xs.dropLast,xs.getLast Y,(List.dropLast_concat_getLast Y).symm⟩;have hl:(ys++[at_]).length=ys.length+1:=by simp
   have e1:(((ys++[at_]).length:Int)-1)=(ys.length:Int):=by rw[hl];omega
   have hat:(ys++[at_])[ys.length]?=some at_:=by simp
   rw[Qc (by omega),A.gd1 ⟨by omega,by omega⟩,e1,A.ixn hat,Qa,A.gd1 ⟨by omega,by omega⟩,A.gd1 ⟨by omega,by rw[Wb];omega⟩,A.lt,F.bR,e1,Wb,A.ba,h0];have htake:List.take ys.length (ys++[at_])=ys:=by simp
   rw[htake];have hatr:at_=from_\/seen m at_:=i2 at_ (by simp);by_cases hb:blk g dd at_;rw[Qc (show decide ((Z.mget ((0,0,[],(0,0,(QE)),(QE),0,0):Nd) (mapOf g) at_.1).2.1=14/\(Z.mget ((0,0,[],(0,0,(QE)),(QE),0,0):Nd) (mapOf g) at_.1).2.2.2.2.2.2=dd)=true from Q4 hb)];refine ih f m ys (by omega) (by omega) (by omega) (by omega) i1 (λt ht=>i2 t (We _ ht)) λv hv H w I=>?_;by_cases e:v=at_;subst e;exact absurd hb I.2.1;exact J v hv (λh=>by
    rcases Qx.1 h with h|h
    exact H h;exact e (Qr.1 h)) w I
   rw[Qb (show ¬decide ((Z.mget ((0,0,[],(0,0,(QE)),(QE),0,0):Nd) (mapOf g) at_.1).2.1=14/\(Z.mget ((0,0,[],(0,0,(QE)),(QE),0,0):Nd) (mapOf g) at_.1).2.2.2.2.2.2=dd)=true from λh=>hb (by have h9:=Wa h;exact h9)),A.lt,show Z.mget [] steps at_=Z.mget [] steps at_ from rfl,reaches_l3 deep from_ dd _ _ m ys (hsl at_) (by omega)];cases hadd:addP deep from_ dd (Z.mget [] steps at_) m ys with
   |none=>
    have hfrom:=Qfo hadd;have E:okP g steps deep dd at_ from_:=⟨hfrom,hb,hfd⟩;refine⟨true,rfl,λ_=>?_,λ_=>rfl⟩;rcases hatr with h|h
    rw[h]at E;exact .one E;exact .step (i1 at_ h) E
   |some s=>
    obtain⟨m',xs'⟩:=s;obtain⟨a1,a2,a3,a4,a5,a6,a7,a8⟩:=addP_some (T:=T) (hst at_) hadd;simp only[];refine ih f m' xs' (by omega) (by omega) (by omega) (by omega) (λv hv=>?_) (λt ht=>?_) λv hv H w I=>?_;rcases a3 v hv with h|h
    exact i1 v h;have E:okP g steps deep dd at_ v:=⟨h.1,hb,h.2⟩;rcases hatr with h2|h2
    rw[h2]at E;exact .one E;exact .step (i1 at_ h2) E;rcases a6 t ht with h|h
    rcases i2 t (We _ h)with h2|h2
    exact .inl h2;exact .inr (a2 t h2);exact .inr h;have hv2:v=from_\/seen m v:=by
     rcases hv with h|h
     exact .inl h;rcases a7 v h with h2|h2
     exact .inr h2;exact absurd h2 H
    by_cases e:v=at_;subst e;exact⟨λh=>a1 (h▸I.1),a4 w I.1 I.2.2⟩;obtain⟨h1,h2⟩:=J v hv2 (λh=>by
     rcases Qx.1 h with h|h
     exact H (a5 v h);exact e (Qr.1 h)) w I
    exact⟨h1,a2 w h2⟩
 have hu:un T []<=T.length:=Yj _ _;exact main (1+T.length) A.FU [] [from_] (by simp;omega) (by have:=Qac;omega) (by simp) (by simp;omega) (λv h=>by cases h) (λt ht=>.inl (Qr.1 ht)) (λv hv hx w I=>by
  rcases hv with h|h
  exact absurd (Qr.2 h) hx;cases h)
def mget_mem {p:Pl}: ∀{l:List Sp} {v:Int},(l.map (·.1)).Nodup->(p,v)∈l->Z.mget 0 l p=v
 | [],_,_,h=>by cases h
 |(a,w)::r,v,E,h=>by
  rw[Q9,Xa]at E;unfold Z.mget;rcases Qk.1 h with h|h
  injection h with h1 h2;rw[Qc h1,h2]
  rw[Qb (λe=>E.1 (by rw[<-e];exact List.mem_map_of_mem (f:=(·.1)) h))];exact mget_mem E.2 h
def mhas_app {l:List Sp}{p:Pl}(h:p∉l.map (·.1)):Z.mhas l p=false:=by
 induction l with
 |nil=>rfl
 |cons a r ih=>
  rw[Q9,Qk,not_or]at h;obtain⟨q,v⟩:=a;unfold Z.mhas;rw[Qb h.1];exact ih h.2
def toOf (E:List Ed)(p:Pl):List Pl:=(E.filter λe=>decide (e.1=p)).map λe=>e.2.1
def turns_l2 (a0:(List (Int×Nd))×(QP)×(List (Int×Int)))(S:List Sp)(E:List Ed)(J:E.length<=4000): ∃st,(∀p,Z.mget [] st p=toOf E p)/\F.s a0 S E A.FU [] 0=A.mrg (F.aw a0 S st) (some false) S:=by
 have main: ∀(n k f:Nat) (m:List (Pl×List Pl)),k+n=E.length->n<f->(∀p,Z.mget [] m p=toOf (E.take k) p)->∃st,(∀p,Z.mget [] st p=toOf E p)/\F.s a0 S E f m (k:Int)=A.mrg (F.aw a0 S st) (some false) S:=by
  intro n;induction n with
  |zero=>
   intro k f m hk I H;obtain⟨f,rfl⟩: ∃f',f=f'+1:=⟨f-1,by omega⟩;rw[Xw (by omega)]at H;exact⟨m,H,by rw[F.s,Qb (by omega)]⟩
  |succ n ih=>
   intro k f m hk I H;obtain⟨f,rfl⟩: ∃f',f=f'+1:=⟨f-1,by omega⟩;have hx:E[k]?=some E[k]:=Qh (by omega);generalize E[k]=x at hx;have hlen:(Z.mget [] m x.1).length<=4000:=by
    rw[H];unfold toOf;rw[Wi];have:=Yj (λe:Ed=>decide (e.1=x.1)) (E.take k);rw[Q7]at this;omega
   rw[F.s,Qc (by omega),A.ixn hx,Qa,A.gd1 (by rw[show Z.mget [] m x.1=Z.mget [] m x.1 from rfl];simp only[Ql,Q2];omega),A.gd1 (A.r64n (by omega))];refine ih (k+1) f _ (by omega) (by omega) λp=>?_;rw[show Z.mins m x.1 (Z.mget [] m x.1++[x.2.1])=Z.mins m x.1 (Z.mget [] m x.1++[x.2.1])from rfl,Kl,Qgx hx];unfold toOf;rw[List.filter_append,Xd,Yn,List.filter_nil];by_cases e:p=x.1;subst e;rw[Qc rfl,H,Qc (Q4 rfl)];rfl;rw[Qb e,H,Qb (by simp only[Q1];exact λh=>e h.symm),Yp,Ww];rfl
 exact main E.length 0 A.FU [] (by omega) (by have:=Qac;omega) (λp=>rfl)
def turns_l3 (g:List Nd)(a0:(List (Int×Nd))×(QP)×(List (Int×Int)))(S:List Sp)(E:List Ed)(W:S.length<=4000)(J:(S.map (·.1)).Nodup)(N:F.aT a0 g=some E):F.ah a0 g S A.FU [] 0=F.s a0 S E A.FU [] 0:=
 A.lp S (λf (m:List Sp) i=>F.ah a0 g S f m i) (λ_ _ _=>F.s a0 S E A.FU [] 0) (λk m=>m=S.take k)
  (λf m H=>by
   rw[Xw (Qt _)]at H;rw[F.ah,Qb (by omega),show F.aT a0 g=some E from N,Qa,H])
  (λf m k x hx hk H ih=>by
   rw[F.ah,Qc (by omega),A.ixn hx,Qa,A.gd1 (A.r64n (by omega))];refine ih _ ?_;rw[show Z.mins m x.1 x.2=Z.mins m x.1 x.2 from rfl,Qia (mhas_app ?_),H,Qgx hx];rw[H];intro h;rw[List.map_take]at h;have I:=J;rw[<-Jd k (S.map (·.1)),Xb]at I;refine I.2.2 _ h _ ?_ rfl;rw[<-List.map_drop,A.dropx hx,Q9];exact Qg ..)
  (by have:=Qac;omega) [] (by simp)
def nodeAt {g:List Nd}(E:Inc g){n:Nd}(I:n∈g)(z:Nd):Z.mget z (mapOf g) n.1=n/\find g n.1=(n,true):=by
 obtain⟨j,H⟩:=W6.1 I;exact⟨E.mget H,Qfv E H⟩
def mem_st {g:List Nd}{d:QP}{st:List (Pl×List Pl)}(E: ∀p,Z.mget [] st p=toOf (Qaj g d) p){p q:Pl}:q∈Z.mget [] st p↔∃e∈Qaj g d,e.1=p/\e.2.1=q:=by
 rw[E];unfold toOf;constructor;intro h;obtain⟨e,h1,h2⟩:=Wu.1 h;obtain⟨H,I⟩:=Jt.1 h1;exact⟨e,H,Wa I,h2⟩;rintro⟨e,h1,h2,H⟩;exact Wu.2 ⟨e,Jt.2 ⟨h1,Q4 h2⟩,H⟩
def nodup_S {g:List Nd}{d:QP}(E:Inc g)(H:Own g):((spots g d).map (·.1)).Nodup:=Qdz d 0 g E λn I=>in2 H I
def ok_iff {g:List Nd}{d:QP}(I:Inc g)(Y:Own g){dd:Int}{p q:Pl}:okE g (spots g d) (Qaj g d) dd p q↔(∃e∈Qaj g d,e.1=p/\e.2.1=q)/\dd<=Z.mget 0 (spots g d) q/\(¬blk g dd p\/p.2=2):=by
 have J:=nodup_S (d:=d) I Y;have key: ∀e∈Qaj g d,(Qci g (spots g d) dd e=true↔dd<=Z.mget 0 (spots g d) e.2.1/\(¬blk g dd e.1\/e.1.2=2)):=λe N=>by
  obtain⟨v,W⟩:=edge_to d N;obtain⟨n,hn,h1⟩:=Qjq d N;obtain⟨h2,E⟩:=nodeAt I hn ((0,0,[],(0,0,(QE)),(QE),0,0):Nd);unfold Qci blk;rw[mget_mem J W,atS_mem J W,h1,E,h2,Qf,Q1,Xv,Xv,Q1,Q1,Q1];constructor;rintro⟨a,(b|b)|b⟩;exact⟨a,.inl λh=>b h.1⟩;exact⟨a,.inl λh=>b h.2⟩;exact⟨a,.inr b⟩;rintro⟨a,b|b⟩;by_cases c:n.2.1=14;exact⟨a,.inl (.inr λh=>b ⟨c,h⟩)⟩;exact⟨a,.inl (.inl c)⟩;exact⟨a,.inr b⟩
 constructor;rintro⟨e,h1,h2,E,H⟩;have:=(key e h1).1 H;rw[h2,E]at this;exact⟨⟨e,h1,h2,E⟩,this⟩;rintro⟨⟨e,h1,h2,E⟩,H⟩;refine⟨e,h1,h2,E,(key e h1).2 ?_⟩;rw[h2,E];exact H
def rch_iff {g:List Nd}{d:QP}{st:List (Pl×List Pl)}(hi:Inc g)(J:Own g)(H: ∀p,Z.mget [] st p=toOf (Qaj g d) p){dd:Int}{a:Pl}:Rch (okP g st (spots g d) dd) a a↔Rch (okE g (spots g d) (Qaj g d) dd) a a:=by
 have up: ∀{p q},okP g st (spots g d) dd p q->okE g (spots g d) (Qaj g d) dd p q:=λ{p q} h=>
  (ok_iff hi J).2 ⟨(mem_st H).1 h.1,h.2.2,.inl h.2.1⟩
 have down: ∀{p q},okE g (spots g d) (Qaj g d) dd p q->(p.2≠2\/¬blk g dd p)->okP g st (spots g d) dd p q:=λ{p q} h h2=>by
  obtain⟨E,N,W⟩:=(ok_iff hi J).1 h;refine⟨(mem_st H).2 E,?_,N⟩;rcases h2 with h2|h2
  exact W.resolve_right h2;exact h2
 have blk_same: ∀{p q:Pl},p.1=q.1->(blk g dd p↔blk g dd q):=λ{p q} e=>by unfold blk;rw[e]
 constructor;intro h;have: ∀b,Rch (okP g st (spots g d) dd) a b->Rch (okE g (spots g d) (Qaj g d) dd) a b:=λb h=>by
  induction h with
  |one h=>exact .one (up h)
  |step _ h2 ih=>exact .step ih (up h2)
 exact this a h;intro h;have key: ∀b,Rch (okE g (spots g d) (Qaj g d) dd) a b->Rch (okP g st (spots g d) dd) a b\/(a.2=2/\blk g dd a):=λb h=>by
  induction h with
  |one h=>
   by_cases h2:a.2=2/\blk g dd a;exact .inr h2;exact .inl (.one (down h (by
    by_cases E:a.2=2;exact .inr λN=>h2 ⟨E,N⟩;exact .inl E)))
  | @step b c _ h2 ih=>
   rcases ih with ih|ih
   refine .inl (.step ih (down h2 ?_));by_cases E:b.2=2;refine .inr λN=>?_;have hlast: ∃p,okP g st (spots g d) dd p b:=by cases ih with
    |one h=>exact⟨_,h⟩
    |step _ h=>exact⟨_,h⟩
   obtain⟨p,hp⟩:=hlast;obtain⟨e,W,h6,Y⟩:=(mem_st H).1 hp.1;have I:=edge_out d J W (by rw[Y];exact E);rw[h6,Y]at I;exact hp.2.1 ((blk_same I.1).2 N);exact .inl E;exact .inr ih
 rcases key a h with h2|⟨h2,E⟩
 exact h2;have hlast: ∃p,okE g (spots g d) (Qaj g d) dd p a:=by cases h with
  |one h=>exact⟨_,h⟩
  |step _ h=>exact⟨_,h⟩
 obtain⟨p,hp⟩:=hlast;obtain⟨⟨e,W,h6,Y⟩,_,h9⟩:=(ok_iff hi J).1 hp;have I:=edge_out d J W (by rw[Y];exact h2);rw[h6,Y]at I;rcases h9 with h9|h9
 exact absurd ((blk_same I.1).2 E) h9;exact absurd h9 I.2
def Qkv {g:List Nd}(E:Own g)(H:g.length<=40)(d:QP): ∀(m k:Nat),k+m=g.length->(Qbf g d k (g.drop k)).length<=83*m
 |0,k,h=>by rw[W9 (by omega)];exact Qt 0
 |m+1,k,h=>by
  have hx:g[k]?=some g[k]:=Qh (by omega);generalize g[k]=x at hx;have h2:=in2 E (Qn hx);have I:=Qcd x.1 g λx hx=>in2 E hx;have J:=Qkv E H d m (k+1) (by omega);rw[A.dropx hx,Qbf];split;omega;rw[Qu,Qu,Qlu,outE,Wi];omega
def Qgs {g:List Nd}(E:Own g)(d:QP): ∀(k:Nat) (l:List Nd),(∀n∈l,n∈g)->∀sp∈spotsF g d k l,0<=sp.1.2/\sp.1.2<=2
 |_,[],_,_,h=>by cases h
 |k,n::r,H,sp,h=>by
  have h2:=in2 E (H n (Qg ..));unfold spotsF at h;rcases Qx.1 h with h|h
  have:=Qey g d n.1 0 _ sp.1 sp.2 h;omega;rcases Qx.1 h with h|h
  unfold outS at h;split at h;rw[Qr]at h;subst h;simp;cases h;exact Qgs E d (k+1) r (λx hx=>H x (Qe _ hx)) sp h
def turns_same (g:List Nd)(d:QP)(a0:(List (Int×Nd))×(QP)×(List (Int×Int)))(h0:a0.1=mapOf g)(hb:Few g)(hi:Inc g)(hfed:Fed g)(H:Own g)(J:InB d)(hr:RelD g d a0.2.2)(hd:d.length=g.length):
  ∃b,F.bt a0 g=some b/\(∀N W,F.bH g N W (spots g d) (Qaj g d) A.FU 0=some (if b=true then([],[],81)else(N.1,W.1,0)))/\(b=true↔∃sp∈spots g d,Rch (okE g (spots g d) (Qaj g d) sp.2) sp.1 sp.1):=by
 have hlen:=hb.1;have hS:(spots g d).length<=120:=by
  have:=Qfk H d g.length 0 (by omega);rw[Xi]at this;unfold spots;omega
 have hE:(Qaj g d).length<=4000:=by
  have:=Qkv H hlen d g.length 0 (by omega);rw[Xi]at this;unfold Qaj;omega
 have hN:=nodup_S (d:=d) hi H;have hok: ∀sp∈spots g d,SpOk g sp:=by
  have:=o_a3 (d:=d) (g:=g) J g.length 0 (by omega);rw[Xi]at this;exact this
 obtain⟨st,I,hl2⟩:=turns_l2 a0 (spots g d) (Qaj g d) hE;have hto: ∀p q,q∈Z.mget [] st p->q∈(Qaj g d).map λe=>e.2.1:=λp q h=>by
  obtain⟨e,h1,_,Y⟩:=(mem_st I).1 h;exact Wu.2 ⟨e,h1,Y⟩
 have htl: ∀p,(Z.mget [] st p).length<=4000:=λp=>by
  rw[I];unfold toOf;rw[Wi];exact Wg (Yj _ _) hE
 have hval: ∀sp∈spots g d,∃b,F.aA a0 st (spots g d) sp.1 sp.2=some b/\F.dG g (spots g d) (Qaj g d) sp=some b/\(b=true↔Rch (okE g (spots g d) (Qaj g d) sp.2) sp.1 sp.1):=λsp E=>by
  obtain⟨b,h1,h2⟩:=reaches_eq g a0 h0 st (spots g d) sp.1 sp.2 ((Qaj g d).map λe=>e.2.1) (by rw[Wi];exact hE) hto htl (by rw[mget_mem hN (p:=sp.1) (v:=sp.2) E];exact Ji _);obtain⟨b',Y,h4⟩:=round_eq g (spots g d) (Qaj g d) sp hb hi (by omega) hE (λe he=>Qjq d he);refine⟨b,h1,?_,h2.trans (rch_iff hi H I)⟩;rw[Y];congr 1;rw[Js,h4,h2];exact(rch_iff hi H I).symm
 let p:Sp->Bool:=λsp=>(F.aA a0 st (spots g d) sp.1 sp.2).getD false;have hp: ∀sp∈spots g d,(p sp=true↔Rch (okE g (spots g d) (Qaj g d) sp.2) sp.1 sp.1):=λsp E=>by
  obtain⟨b,h1,_,Y⟩:=hval sp E;rw[show p sp=b from W8 (λo=>Option.getD o false) h1];exact Y
 refine⟨(spots g d).any p,?_,λN W=>?_,?_⟩;unfold F.bt;rw[show F.bs a0 g=_ from spotsP_eq g d a0 hb hfed H hr,Qa,turns_l3 g a0 (spots g d) (Qaj g d) (by omega) hN (edgesP_eq g d a0 hb hfed H J hr),hl2];have:=A.mrg_any (body:=F.aw a0 (spots g d) st) (rest:=some false) (y:=true) (p:=p) (l:=spots g d) λsp E=>by
  obtain⟨b,h1,_,_⟩:=hval sp E;obtain⟨⟨j,n,hn,hid⟩,hdd⟩:=hok sp E;have hng:=Qn hn;have hids:=own_id (H n hng);have hport:0<=sp.1.2/\sp.1.2<=2:=Qgs H d 0 g (λn hn=>hn) sp E;unfold F.aw;have hh:decide (A.h6 sp.1.1)=true/\decide (A.h6 sp.1.2)=true:=⟨Q4 (Vd ⟨by omega,by omega⟩),Q4 (Vd ⟨by omega,by omega⟩)⟩;rw[A.gd1 hh,show F.aA a0 st (spots g d) sp.1 sp.2=_ from h1,Qa,show p sp=b from W8 (λo=>Option.getD o false) h1]
 rw[this];cases (spots g d).any p<;>rfl;have loop:=A.lp0 (spots g d) (λf y=>F.bH g N W (spots g d) (Qaj g d) f y) (λ_ t=>some (if t.any p=true then([],[],81)else(N.1,W.1,0)))
  (λf=>by rw[F.bH,Qb (by omega)];rfl)
  (λf k x hx hk ih=>by
   obtain⟨b,h1,h2,_⟩:=hval x (Qn hx);rw[F.bH,Qc (by omega),A.ixn hx,Qa,show F.dG g (spots g d) (Qaj g d) x=_ from h2,Qa,Yo,show p x=b from W8 (λo=>Option.getD o false) h1];cases b with
   |true=>rfl
   |false=>rw[Qb W5,A.gd1 (A.r64n (by omega)),ih,X9])
  (by have:=Qac;omega)
 exact loop;rw[Jk];exact⟨λ⟨sp,h1,h2⟩=>⟨sp,h1,(hp sp h1).1 h2⟩,λ⟨sp,h1,h2⟩=>⟨sp,h1,(hp sp h1).2 h2⟩⟩
def own_of {g:List Nd}(h:okL g 0 0 g=true):Own g:=λn H=>by
 obtain⟨j,I⟩:=W6.1 H;have E:=Qmb g g.length 0 (by omega);rw[Xi,show lastOf g 0=0 from rfl]at E;have:=E.1 h j n (by omega) I;cases hq:ownQ n with
 |true=>rfl
 |false=>exact absurd (.inr (.inl hq)) this
def Qgw (g:List Nd): ∀(r:Nat) (done:List Bool) (l l':QP),Qcc g r done l=some l'->Plc g l->Plc g l'
 |0,done,l,l',h,hp=>by injection h with h;subst h;exact hp
 |r+1,done,l,l',h,hp=>by
  rw[Qcc]at h;by_cases H:Qad g done 0 g (-1)<0;rw[Qc H]at h;cases h
  ·rw[Qb H]at h
   by_cases I:g.length=0
   ·have:=Qfe g done 0 g (-1) (by omega)
    have e:g=[]:=Ws I;subst e;simp[Qad]at H
   ·have J:=Qfe g done 0 g (-1) (by omega) (by omega)
    refine Qgw g r _ _ l' h λi p E=>?_;rw[Jh]at E;split at E;exact hp i p E
    ·rename_i N
     have:i-l.length=0:=by
      have:=(Qd.1 E).1;simp only[Ql,Q2]at this;omega
     rw[this]at E;injection E with E
     subst E;exact⟨(Qad g done 0 g (-1)).toNat,g[(Qad g done 0 g (-1)).toNat]'(by omega),by omega,Qh (by omega)⟩
structure Whole (g:List Nd) (l d:QP) (dm:List (Int×Int)):Prop where
 inc:Inc g
 fed:Fed g
 own:Own g
 rel:RelD g d dm
 inb:InB d
 dlen:d.length=g.length
 key:KeyD g l dm
 plc:Plc g l
 llen:l.length=g.length
 ord:Qcc g g.length (List.replicate g.length false) []=some l
 dep:Qbc g l (List.replicate g.length 0)=some d
 lps:Qbw g d g=true
 nort: ∀sp∈spots g d,¬Rch (okE g (spots g d) (Qaj g d) sp.2) sp.1 sp.1
 kin:g.all (λn=>n.2.2.1.all (inOk g))=true
 okr:okR g 0 g=true
 chk:g.all (λn=>decide (chk n.2.1 n.2.2.2.1=0))=true
 l32:g.length<=32
def whole_same (g:List Nd)(N:Few g):
  (∃e,e≠0/\F.cd g=some (none,e)/\F.dH g=some ([],[],e))\/
  (∃l d dm,F.cd g=some (some (mapOf g,l.map (idAt g),dm),0)/\F.dH g=some (l,d,0)/\Whole g l d dm):=by
 rw[whole_P g N];unfold F.dH;rw[parts_eq g N,ok_eq];by_cases J:(32:Int)<(g.length:Int);rw[Qc J,Qc J];exact .inl ⟨80,by decide,rfl,rfl⟩;rw[Qb J,Qb J];by_cases E:okR g 0 g=true;case neg=>rw[Qb E,Qb E];exact .inl ⟨80,by decide,rfl,rfl⟩
 rw[Qc E,Qc E];by_cases I:g.all (λn=>decide (chk n.2.1 n.2.2.2.1=0))=true;case neg=>rw[Qb I,Qb I];exact .inl ⟨60,by decide,rfl,rfl⟩
 rw[Qc I,Qc I];by_cases H:g.all (λn=>n.2.2.1.all (inOk g))=true;case neg=>rw[Qb H,Qb H];exact .inl ⟨80,by decide,rfl,rfl⟩
 rw[Qc H,Qc H,Qa,Qb (by decide)];have W:=ok_inc E;have hfed:=fed_of H;have Y:=own_of (by rw[ok_eq];exact E);have hlen:=N.1;unfold sortP;rcases order_sort N W hfed (mapOf g)with⟨l,h1,h2,h3,h4⟩|⟨h1,p,h2⟩
 case inr=>rw[h1,h2];exact .inl ⟨81,by decide,rfl,rfl⟩
 rw[h1,h2];simp only[Qa,Xk,Qz,Wf];have hplc:Plc g l:=Qgw g g.length _ [] l h4 λi p h=>by cases h
 rcases Qlm g l N W hfed Y (by omega) hplc with⟨d,dm,d1,d2,d3,d4,d5,d6,d7,d8⟩|⟨d1,p,d2⟩
 case inr=>rw[d1,d2];exact .inl ⟨80,by decide,rfl,rfl⟩
 rw[d1,d2];simp only[Qa,Xk,Qz,Wf];obtain⟨b,t1,t2,t3⟩:=turns_same g d (mapOf g,l.map (idAt g),dm) rfl N W hfed Y d4 d3 d5;rw[t1,spotsR_eq g d N hfed Y d5];simp only[Qa];rw[edgesR_eq g d N W Y d4];simp only[Qa,t2];cases b with
 |true=>exact .inl ⟨81,by decide,rfl,rfl⟩
 |false=>exact .inr ⟨l,d,dm,rfl,rfl,W,hfed,Y,d3,d4,d5,d6,hplc,h3,h4,d8,d7,λsp h1 h2=>Bool.noConfusion (t3.2 ⟨sp,h1,h2⟩),H,E,I,by omega⟩
def check_same (g:List Nd)(E:Graph.Few g): ∃e,F.cN g=some e/\F.dI g=some e:=by
 unfold F.cN F.dI;rcases whole_same g E with⟨e,h0,h1,h2⟩|⟨l,d,dm,h1,h2,W⟩
 rw[h1,h2];exact⟨e,rfl,rfl⟩;rw[h1,h2];exact⟨0,rfl,rfl⟩
def clone_int (l:QP)(h:l.length<=5000):F.a5 l=some l:=by
 unfold F.a5;rw[A.gd1 (by simp only[Q2];omega)];rfl
def set_same {α:Type}{l:List α}{k:Nat}{x:α}(h:l[k]?=some x):l.set k x=l:=by
 apply Xr;intro i;rw[List.getElem?_set];split;rename_i e;subst e;split;rw[h];rename_i h2;rw[Wm (by omega)];rfl
def Clone_eq (g:List Nd)(H:g.length<=100)(h: ∀n∈g,n.2.2.1.length<=5000):F.dn g=some g:=by
 unfold F.dn F.ax;rw[A.gd1 (by simp only[Q2];omega),Qa];exact A.lp g (λf (s:List Nd) y=>F.bv g f s y) (λ_ _ s=>some s) (λ_ s=>s=g)
  (λf s E=>by rw[F.bv,Qb (by omega)])
  (λf s k x hx hk E ih=>by
   subst E;rw[F.bv,Qc (by omega),A.ixn hx,Qa,clone_int _ (h x (Qn hx)),Qa,Qa,A.gd1 (A.r64n (by omega))];rw[show(List.set s (k:Int).toNat x)=s from by rw[Wb];exact set_same hx];exact ih s rfl)
  (by have:=Qac;omega) g rfl
def IndexF_eq (g:List Nd)(id:Int)(E:g.length<=100):F.n g id=some (idx g id):=
 A.lp0 g (λf y=>F.c g id f y) (λk l=>some (idxF id k l))
  (λf=>by rw[F.c,Qb (by omega)];rfl)
  (λf k x hx hk ih=>by
   rw[F.c,Qc (by omega),A.ixn hx,Qa,F.dP,Qa,idxF];by_cases h:x.1=id;rw[Qc (Q4 h),Qc h];rw[Qb (by rw[Xf];exact h),Qb h,A.gd1 (A.r64n (by omega)),ih])
  (by have:=Qac;omega)
def z39:Nd:=(0,0,[],(0,0,QE),QE,0,0)
def Qke (g:List Nd)(id:Int)(I:Few g): ∃n b,F.db g id=some (n,b)/\F.cI g id=some (n,b)/\n.2.2.1.length<=5000:=by
 have hlen:=I.1;unfold F.db F.cI;rw[IndexF_eq g id (by omega),Qbm g id (by omega),Qa,Qa];rcases Qbg z39 g id with⟨e,_⟩|⟨j,n,e,H,_⟩
 rw[e];exact⟨z39,false,rfl,rfl,by decide⟩;have N:j<g.length:=(Qd.1 H).1;have E:=I.in H;have hcut:List.drop (j:Int).toNat (List.take ((j:Int)+1).toNat g)=[n]:=by
  rw[Wb,show((j:Int)+1).toNat=j+1 by omega,Y1,H,List.drop_append];simp only[Q7,Option.toList];rw[Yg (by omega),Nat.sub_self,List.drop_of_length_le (by rw[Q7];omega)];rfl
 rw[e,Qb (by omega),Qb (by omega),A.gd1 (A.r64n (by omega)),A.gd1 (by omega),hcut,Clone_eq [n] (by simp) (by intro m J;rw[Qr]at J;rw[J];exact E),Qa,A.ixn H,Qa,A.gd1 (by simp only[Q2];omega)];exact⟨n,true,rfl,rfl,E⟩
end Go.Proofs.YtligcbdjiolamaaGreatDoor
end
section
namespace Go.Proofs.YtligcbdjiolamaaGreatDoor
open Go.RowKit Go.Graph Go.Utf Go.Ent
def put_eq2 (l:List En)(e:En)(one:Bool)(hl:l.length<=100000)(hb:Bd false l)(h1:0<=num e)(h2:num e<=cap false):F.dA l e one=some (putP e one l):=by
 rw[F.dA];unfold putP;by_cases h0:num e=0;rw[Qc h0,Qc h0];rw[Qb h0,Qb h0];have hc:cap false<=1099511627776:=by decide
 have kk: ∀x:En,(bif bif decide (x.1=e.1)then decide (x.2.1=e.2.1)else false then decide (x.2.2.1=e.2.2.1)else false)=decide (key x=key e):=λx=>by
  simp only[A.ba];congr 1;simp[key,and_assoc]
 have:=A.lp l (λf (s:List En×Bool) y=>F.ab l e one f s.1 s.2 y) (λk r s=>if s.2=true then some (s.1++r)else some (s.1++insP e one r)) (λk s=>s.1.length<=k+1/\(s.2=false->s.1.length<=k)/\(s.2=true->∀x,x∈l.drop k->key x≠key e))
  (λf s hp=>by
   show F.ab l e one (f+1) s.1 s.2 _=_;rw[F.ab,Qb (by omega)];cases J:s.2 with
   |true=>rw[Xk,Qb (by simp),F.dh,Qc rfl,Ww]
   |false=>rw[Xz,Qc rfl,A.gd1 (by simp only[Ql,Q2];omega),F.dh,Qb (by simp)];rfl)
  (λf s k x hx hk hp ih=>by
   show F.ab l e one (f+1) s.1 s.2 _=_;have N:=hb.b x (Qn hx);have W:Srt (x::l.drop (k+1)):=by rw[<-A.dropx hx];exact hb.srt.sublist (List.drop_sublist _ _)
   have hd:=(Wc.1 W).1;have I: ∀(xs:List En) (d:Bool) (v:Int),xs.length<=k+1->(d=false->xs.length<=k)->(d=true->∀y,y∈l.drop (k+1)->key y≠key e)->F.de (F.ab l e one f) (k:Int) x v xs d=if d=true then some (xs++(x.1,x.2.1,x.2.2.1,v)::l.drop (k+1))else some (xs++(x.1,x.2.1,x.2.2.1,v)::insP e one (l.drop (k+1))):=λxs d v hxs hxs2 Y=>by
    rw[F.de,A.gd1 (by simp only[Ql,Q2];omega),A.gd1 ⟨by omega,by omega⟩];have:=ih (xs++[(x.1,x.2.1,x.2.2.1,v)],d) ⟨by simp only[Qu,Ql,Q2];omega,λh=>by have:=hxs2 h;simp only[Qu,Ql,Q2];omega,Y⟩;refine Eq.trans this ?_;cases d<;>simp
   rw[F.ab,Qc (by omega),A.ixn hx,Qa,kk];by_cases E:key x=key e;have hs2:s.2=false:=by
    cases h:s.2 with
    |false=>rfl
    |true=>exact absurd E (hp.2.2 h x (by rw[A.dropx hx];exact Qg ..))
   have hnk: ∀y,y∈l.drop (k+1)->key y≠key e:=λy H he=>kl_ne (hd y H) (E.trans he.symm);have j4: ∀v:Int,F.dg (F.ab l e one f) e s.1 (k:Int) x v=some (s.1++(x.1,x.2.1,x.2.2.1,v)::l.drop (k+1)):=λv=>by
    rw[F.dg,F.df,Xk,Qb (show ¬(false=true) by simp),F.ca,Qb (show ¬(false=true) by simp),I _ _ _ hp.1 (λh=>by cases h) (λ_=>hnk),Qc rfl]
   have r64:Z.R64 (x.2.2.2+e.2.2.2):=by
    have a1:1<=x.2.2.2/\x.2.2.2<=cap false:=N;have a2:0<=e.2.2.2:=h1;have a3:e.2.2.2<=cap false:=h2;exact⟨by omega,by omega⟩
   have hs3: ¬(s.2=true):=by rw[hs2];simp
   rw[Qc (Q4 E),A.gd1 r64,Qb hs3];unfold insP;rw[Qc E];unfold upd;cases one with
   |true=>rw[Qc rfl,j4];rfl
   |false=>rw[Qb (show ¬(false=true) by simp),j4];rfl
   have hk1': ¬(decide (key x=key e)=true):=by simpa using E
   rw[Qb hk1',F.df];cases J:s.2 with
   |true=>
    rw[Xk,Qb (show ¬(false=true) by simp),F.ca,Qb (show ¬(false=true) by simp),I _ _ _ hp.1 (λh=>by cases h) (λ_ y H=>hp.2.2 J y (by rw[A.dropx hx];exact Qe _ H)),Qc rfl,Qc rfl]
   |false=>
    rw[Xz,Qc rfl];show(F.dz e x).bind _=_;rw[Qkl,Qa,Qb (show ¬(false=true) by simp)];show F.ca _ _ _ _ _ _ _ (kl (key e) (key x))=_;unfold insP;rw[Qb E,F.ca];have hl2:=hp.2.1 J;cases hlt:kl (key e) (key x)with
    |true=>
     rw[Qc rfl,Qc rfl,A.gd1 (by simp only[Ql,Q2];omega),I _ _ _ (by simp only[Qu,Ql,Q2];omega) (λh=>by cases h) (λ_ y H he=>kl_ne (kl_tr hlt (hd y H)) he.symm),Qc rfl];simp
    |false=>
     rw[Qb (show ¬(false=true) by simp),Qb (show ¬(false=true) by simp),I _ _ _ hp.1 (λ_=>hl2) (λh=>by cases h),Qb (show ¬(false=true) by simp)])
  (by have:=Qac;omega) ([],false) ⟨by simp,λ_=>by simp,λh=>by cases h⟩
 exact this
def insP_end {e:En}{one:Bool}: ∀{l:List En},(∀y,y∈l->kl (key y) (key e)=true)->insP e one l=l++[e]
 | [],_=>rfl
 |y::l,h=>by
  have h1:=h y (Qg ..);unfold insP;rw[Qb (kl_ne h1),Qb (by rw[kl_asy h1];simp),insP_end λz E=>h z (Qe _ E)];rfl
def insP_one {e:En}{k:Ky}(h1:num e=1): ∀{l:List En},Srt l->gv (insP e true l) k=if k=key e then 1 else gv l k
 | [],_=>by
  unfold insP gv gv;by_cases hk:k=key e;rw[Qc hk.symm,Qc hk];exact h1;rw[Qb (λh=>hk h.symm),Qb hk]
 |x::l,h=>by
  obtain⟨s1,H⟩:=Wc.1 h;unfold insP;split;rename_i E;unfold gv;by_cases hk:k=key e;rw[Qc (show key (upd x e true)=k from E.trans hk.symm),Qc hk];rfl;rw[Qb (show key (upd x e true)≠k from λh=>hk (h.symm.trans E)),Qb hk,Qb (λh=>hk (h.symm.trans E))];rename_i E;split;rename_i I;by_cases hk:k=key e;conv=>lhs;unfold gv
  rw[Qc hk.symm,Qc hk];exact h1;conv=>lhs;unfold gv
  rw[Qb (λh=>hk h.symm),Qb hk];unfold gv;by_cases hk:key x=k;rw[Qc hk,Qc hk,Qb (λh=>E (hk.trans h))];rw[Qb hk,Qb hk];exact insP_one h1 H
def insP_bd2 {e:En}{one:Bool}{l:List En}(h:Bd false l)(h1:1<=num e)(h2:num e<=1099511627776):Bd false (insP e one l):=by
 refine⟨insP_srt h.srt,λx hx=>?_⟩;rcases Qir hx with rfl|hx|⟨y,E,_,rfl⟩
 exact⟨h1,h2⟩;exact h.b x hx;have:=h.b y E;show 1<=(if one=true then 1 else min (num y+num e) 1099511627776)/\(if one=true then 1 else min (num y+num e) 1099511627776)<=1099511627776;have H:1<=num y/\num y<=1099511627776:=this;cases one with
 |true=>simp
 |false=>simp only[Qz,Wf];omega
def putP_len {e:En}{one:Bool}(l:List En):(putP e one l).length<=l.length+1:=by
 have: ∀l:List En,(insP e one l).length<=l.length+1:=λl=>by
  induction l with
  |nil=>simp[insP]
  |cons x l ih=>
   unfold insP;split;simp
   (split)
   simp;simp only[Ql];omega
 unfold putP;split;omega;exact this l
def Qmc (out:List En)(x:En)(one:Bool)(hl:out.length<=1000)(H:Bd false out)(h1:0<=num x)(h2:num x<=1099511627776):F.cs out [x] one=some (putP x one out):=by
 have hFU:=Qac;have last: ∀xs:List En,xs=out->F.a6 [x] one A.FU xs 0=some (putP x one out):=λxs hx=>by
  subst hx;obtain⟨f,W⟩: ∃f,A.FU=f+2:=⟨A.FU-2,by omega⟩;rw[W,F.a6,Qc (by simp),show A.ix [x] 0=some x from rfl,Qa];rw[show F.dA xs x one=some (putP x one xs)from put_eq2 xs x one (by omega) H h1 h2,Qa,A.gd1 (by decide),F.a6,Qb (by simp)]
 unfold F.cs;refine A.lp out (λf (xs:List En) y=>F.a7 out [x] one f xs y) (λk r xs=>some (putP x one out)) (λk xs=>xs=out.take k) (λf xs hx=>?_) (λf xs k e I hk hx ih=>?_) (by omega) [] rfl;rw[F.a7,Qb (by omega)];exact last xs (by rw[hx,List.take_length]);rw[F.a7,Qc (by omega),A.ixn I,Qa];have J:Bd false (out.take k):=⟨H.srt.sublist (List.take_sublist _ _),λy N=>H.b y (Jf N)⟩;have E:=H.b e (Qn I);have E:1<=num e/\num e<=1099511627776:=E;have hall: ∀y,y∈out.take k->kl (key y) (key e)=true:=λy N=>by
  have Y:out=out.take k++e::out.drop (k+1):=by rw[<-A.dropx I,Jd]
  have:=H.srt;rw[Y]at this;exact(List.pairwise_append.1 this).2.2 y N e (Qg ..)
 rw[show F.dA xs e one=some (putP e one xs)from put_eq2 xs e one (by rw[hx,Q7];omega) (hx▸J) (by omega) E.2,Qa,A.gd1 (A.r64n (by omega))];refine ih _ ?_;unfold putP;rw[Qb (by omega),hx,insP_end hall,Y1,I];rfl
def tk (g:List Nd)(x:En):Option Bool:=match F.db g x.1 with
 |some (n,true)=>if entOk n x=true then some (decide (n.2.1=16))else none
 |_=>none
def Qew {n:Nd}{x:En}(h:entOk n x=true):(n.2.1=11\/n.2.1=16)/\0<=num x/\num x<=1099511627776/\(n.2.1=16->num x=1):=by
 unfold entOk at h;split at h;cases h;split at h;rename_i h1;simp only[Qf,Q1]at h;exact⟨.inl h1,h.1.2,h.2,λh2=>by omega⟩;split at h;rename_i h1;simp only[Qf,Q1]at h;have h2:num x=1:=h.1;exact⟨.inr h1,by omega,by omega,λ_=>h2⟩;cases h
def tk_num {g:List Nd}{x:En}{one:Bool}(h:tk g x=some one):0<=num x/\num x<=1099511627776/\(one=true->num x=1):=by
 unfold tk at h;split at h;split at h;rename_i n _ h1;injection h with h
 obtain⟨_,h2,E,H⟩:=Qew h1;exact⟨h2,E,λI=>H (Wa (h.trans I))⟩;cases h;cases h
def stL (g:List Nd)(out:List En)(x:En):List En:=match tk g x with
 |none=>out
 |some one=>putP x one out
def stM (g:List Nd)(m:List (Ky×Int))(x:En):List (Ky×Int):=match tk g x with
 |none=>m
 |some one=>Z.mins m (key x) (if one=true then num x else min 1099511627776 (num x+Z.mget 0 m (key x)))
def stP_one (n:Nd)(x:En):stP n [x]=entOk n x:=by
 cases h:entOk n x with
 |true=>exact stP_iff.2 ⟨λe E=>by rw[Qr.1 E];exact h,List.pairwise_singleton ..⟩
 |false=>
  cases h2:stP n [x]with
  |false=>rfl
  |true=>rw[(stP_iff.1 h2).1 x (Qr.2 rfl)]at h;cases h
structure TI (out:List En) (m:List (Ky×Int)):Prop where
 bd:Bd false out
 eq: ∀k,gv out k=Z.mget 0 m k
 nd:(m.map Prod.fst).Nodup
def TI.b {out:List En}{m:List (Ky×Int)}(h:TI out m)(k:Ky):0<=Z.mget 0 m k/\Z.mget 0 m k<=1099511627776:=by
 rw[<-h.eq];exact h.bd.gv k
def TI.nil:TI [] []:=⟨⟨List.Pairwise.nil,λe E=>by cases E⟩,λk=>rfl,Yq⟩
def TI.step {g:List Nd}{out:List En}{m:List (Ky×Int)}(h:TI out m)(x:En):TI (stL g out x) (stM g m x):=by
 unfold stL stM;cases H:tk g x with
 |none=>exact h
 |some one=>
  obtain⟨h1,h2,E⟩:=tk_num H;dsimp only;have I:=h.b (key x);refine⟨?_,λk=>?_,Z.mins_nodup h.nd _ _⟩;unfold putP;split;exact h.bd;exact insP_bd2 h.bd (by omega) h2;rw[Kl];unfold putP;by_cases h0:num x=0;rw[Qc h0,h.eq];by_cases hk:k=key x;rw[Qc hk,hk];cases one with
  |true=>have:=E rfl;omega
  |false=>simp only[Qz,Wf];omega
  rw[Qb hk];rw[Qb h0];cases one with
  |true=>rw[insP_one (E rfl) h.bd.srt,Qc rfl,E rfl,h.eq]
  |false=>
   rw[insP_gv h.bd (by omega) h2,h.eq];by_cases hk:k=key x;rw[Qc hk,Qc hk,hk];simp only[Ent.cap,Qz,Wf];omega;rw[Qb hk,Qb hk]
def TI.all {g:List Nd}: ∀(l:List En) {out:List En} {m:List (Ky×Int)},TI out m->TI (l.foldl (stL g) out) (l.foldl (stM g) m)
 | [],_,_,h=>h
 |x::l,_,_,h=>TI.all l (h.step x)
def stL_len (g:List Nd)(out:List En)(x:En):(stL g out x).length<=out.length+1:=by
 unfold stL;split;omega;exact putP_len out
def Keeps_eq (k:Int):F.dQ k=some (decide (k=11\/k=16)):=by rw[F.dQ];simp only[A.bo]
def Qgf (g:List Nd)(l:List En)(hg:Few g)(hl:l.length<=100):F.t g l A.FU [] 0=F.aj (l.foldl (stM g) []) A.FU [] []:=by
 have hFU:=Qac;refine A.lp l (λf (m:List (Ky×Int)) y=>F.t g l f m y) (λk r m=>F.aj (r.foldl (stM g) m) A.FU [] []) (λk m=>∃out,TI out m) (λf m _=>?_) (λf m k x hx hk hp ih=>?_) (by omega) [] ⟨[],TI.nil⟩;rw[F.t,Qb (by omega)];rfl;obtain⟨out,Y⟩:=hp;have ih':=ih (stM g m x) ⟨_,Y.step (g:=g) x⟩;obtain⟨n,b,I,_⟩:=Qke g x.1 hg;have skip: ∀r,tk g x=none->F.bC (F.t g l f) m (k:Int) x r true=F.aj ((l.drop (k+1)).foldl (stM g) (stM g m x)) A.FU [] []:=λr N=>by
  rw[F.bC,Qc rfl,F.cr,A.gd1 (A.r64n (by omega))];rw[show stM g m x=m by unfold stM;rw[N]]at ih' ⊢;exact ih'
 rw[F.t,Qc (by omega),A.ixn hx,Qa,I,Qa];show(if(!b)=true then _ else _)=F.aj ((l.drop (k+1)).foldl (stM g) (stM g m x)) A.FU [] [];cases b with
 |false=>rw[Qc (by rfl)];exact skip _ (by unfold tk;rw[I])
 |true=>
  rw[Qb (by simp),Keeps_eq,Qa];by_cases E:n.2.1=11\/n.2.1=16;rw[Q4 E,Qb (by simp)];rw[show F.b9 n [x]=some (if stP n [x]=true then 0 else 171)from Qik n [x] (by simp),Qa,stP_one];cases J:entOk n x with
  |false=>
   rw[Qb (by simp)];exact skip _ (by unfold tk;rw[I];dsimp only;rw[J,Qb (by simp)])
  |true=>
   obtain⟨_,h1,h2,h3⟩:=Qew J;have N:tk g x=some (decide (n.2.1=16)):=by unfold tk;rw[I];dsimp only;rw[J,Qc rfl]
   have hb:=Y.b (key x);rw[Qc rfl,F.bC,Qb (by simp)];have nx: ∀v,v=(if decide (n.2.1=16)=true then num x else min 1099511627776 (num x+Z.mget 0 m (key x)))->F.b1 (F.t g l f) m (k:Int) x v=F.aj ((l.drop (k+1)).foldl (stM g) (stM g m x)) A.FU [] []:=λv hv=>by
    rw[F.b1,F.cr,A.gd1 (A.r64n (by omega))];rw[show stM g m x=Z.mins m (key x) v by unfold stM;rw[N,hv]]at ih' ⊢;exact ih'
   by_cases H:n.2.1=11;rw[Qc H];show A.gd (Z.R64 (num x+Z.mget 0 m (key x))) (F.b1 (F.t g l f) m (k:Int) x (min 1099511627776 (num x+Z.mget 0 m (key x))))=_;rw[A.gd1 ⟨by omega,by omega⟩];exact nx _ (by rw[Wh (by omega),Qb (by simp)]);rw[Qb H];have W:n.2.1=16:=E.resolve_left H;exact nx _ (by rw[Q4 W,Qc rfl])
  rw[Wh E,Qc (by simp)];refine skip _ ?_;unfold tk;rw[I];dsimp only;rw[Qb];intro J;exact E (Qew J).1
def Qjh (g:List Nd)(l:List En)(W:Few g)(Y:l.length<=100)(hk: ∀x,x∈l->hasK (key x)):F.d2 g l=(F.cN g).bind λe=>some (if e≠0 then []else l.foldl (stL g) []):=by
 unfold F.d2;congr 1;funext e;by_cases H:e=0;rw[Qb (λh=>h H),Qb (λh=>h H),Qgf g l W Y];have J:=TI.all (g:=g) l TI.nil;have keys: ∀(r:List En) (m:List (Ky×Int)) (c:Nat),(∀p,p∈m->hasK p.1)->m.length<=c->(∀x,x∈r->hasK (key x))->(∀p,p∈r.foldl (stM g) m->hasK p.1)/\(r.foldl (stM g) m).length<=c+r.length:=λr=>by
  induction r with
  |nil=>intro m c h1 h2 _;exact⟨h1,h2⟩
  |cons x r ih=>
   intro m c h1 h2 I;have N:(∀p,p∈stM g m x->hasK p.1)/\(stM g m x).length<=c+1:=by
    unfold stM;split;exact⟨h1,by omega⟩;rename_i one ho;refine⟨λp hp=>?_,?_⟩;have E:p.1∈(Z.mins m (key x) _).map Prod.fst:=Wu.2 ⟨p,hp,rfl⟩;rw[Z.mins_keys]at E;have h0:p.1∈m.map Prod.fst\/p.1=key x:=by
     split at E;exact .inl E;rcases Qx.1 E with E|E
     exact .inl E;exact .inr (Qr.1 E)
    rcases h0 with h0|h0
    obtain⟨q,hq,e1⟩:=Wu.1 h0;rw[<-e1];exact h1 q hq;rw[h0];exact I x (Qg ..);have E:=W8 List.length (Z.mins_keys m (key x) (if one=true then num x else min 1099511627776 (num x+Z.mget 0 m (key x))));rw[Wi]at E;rw[E];split;rw[Wi];omega;rw[Qu,Wi,J2];omega
   obtain⟨h5,h6⟩:=ih (stM g m x) (c+1) N.1 N.2 λy hy=>I y (Qe _ hy);exact⟨h5,by rw[Ql];show(r.foldl (stM g) (stM g m x)).length<=_;omega⟩
 obtain⟨k1,k2⟩:=keys l [] 0 (λp hp=>by cases hp) (Qt _) hk;obtain⟨L,h1,h2,I⟩:=list_eq _ J.nd k1 (by omega);rw[h1];congr 1;exact nf_ext h2 J.bd.nf λk=>(I k).trans (J.eq k).symm;rw[Qc H,Qc H]
def Qlx (g:List Nd)(l:List En)(J:Few g)(W:l.length<=100):F.eg g l=(F.dI g).bind λe=>some (if e≠0 then []else l.foldl (stL g) []):=by
 unfold F.eg;congr 1;funext e;by_cases E:e=0;rw[Qb (λh=>h E),Qb (λh=>h E)];have hFU:=Qac;refine A.lp l (λf (xs:List En) y=>F.aQ g l f xs y) (λk r xs=>some (r.foldl (stL g) xs)) (λk xs=>xs.length<=k/\∃m,TI xs m) (λf xs _=>?_) (λf xs k x hx hk hp ih=>?_) (by omega) [] ⟨Qt _,[],TI.nil⟩;rw[F.aQ,Qb (by omega)];rfl;obtain⟨hlen,m,I⟩:=hp;have ih':=ih (stL g xs x) ⟨Wg (stL_len g xs x) (by omega),_,I.step (g:=g) x⟩;obtain⟨n,b,hfP,N,_⟩:=Qke g x.1 J;rw[F.aQ,Qc (by omega),A.ixn hx,Qa,N,Qa,F.dW];show _=some ((l.drop (k+1)).foldl (stL g) (stL g xs x));have skip:tk g x=none->F.ch (F.aQ g l f) (k:Int) xs=some ((l.drop (k+1)).foldl (stL g) (stL g xs x)):=λH=>by
  rw[F.ch,A.gd1 (A.r64n (by omega))];rw[show stL g xs x=xs by unfold stL;rw[H]]at ih' ⊢;exact ih'
 cases b with
 |false=>
  rw[Qb (by simp),F.cS,Qb (by simp)];exact skip (by unfold tk;rw[hfP])
 |true=>
  rw[Qc rfl,A.ixn hx,Qa];rw[show F.cE n [x]=some (if stP n [x]=true then 0 else 171)from Qdi n [x] (by simp),Qa,stP_one,F.cS];cases E:entOk n x with
  |false=>
   rw[Qb (by simp)];exact skip (by unfold tk;rw[hfP];dsimp only;rw[E,Qb (by simp)])
  |true=>
   have H:tk g x=some (decide (n.2.1=16)):=by unfold tk;rw[hfP];dsimp only;rw[E,Qc rfl]
   obtain⟨h1,h2,_⟩:=tk_num H;rw[Qc (by simp),A.ixn hx,Qa];rw[show F.cs xs [x] (decide (n.2.1=16))=some (putP x (decide (n.2.1=16)) xs)from Qmc xs x _ (by omega) I.bd h1 h2,Qa,F.ch,A.gd1 (A.r64n (by omega))];rw[show stL g xs x=putP x (decide (n.2.1=16)) xs by unfold stL;rw[H]]at ih' ⊢;exact ih'
 rw[Qc E,Qc E]
end Go.Proofs.YtligcbdjiolamaaGreatDoor
end
section
namespace Go.A
def eqk2 {α ρ:Type}[DecidableEq α](a b:List α)(L:Nat->Int->Option ρ)(t e:Option ρ)(I:a.length=b.length)(h0: ∀f,L (f+1) (a.length:Int)=t)
  (h1: ∀f (k:Nat) x y,a[k]?=some x->b[k]?=some y->k<a.length->L (f+1) (k:Int)=if x=y then L f ((k:Int)+1)else e) (E:a.length<FU):L FU 0=if a=b then t else e:=by
 have:=lp0 a L (λk l=>if l=b.drop k then t else e)
  (λf=>by rw[h0,I,W9 (Qt _),Qc rfl])
  (λf k x hx hk ih=>by
   have H:b[k]?=some b[k]:=Qh (by omega);rw[h1 f k x _ hx H hk,dropx H,ih];by_cases h:x=b[k];rw[Qc h];by_cases h2:a.drop (k+1)=b.drop (k+1);rw[Qc h2,Qc (by rw[h,h2])];rw[Qb h2,Qb (λe=>h2 (List.cons.inj e).2)];rw[Qb h,Qb (λe=>h (List.cons.inj e).1)]) E
 rw[this,Xi]
def ited {p:Prop}[Decidable p]:(if p then some true else some false)=some (decide p):=by by_cases h:p<;>simp[h]
end Go.A
namespace Go.Proofs.YtligcbdjiolamaaGreatDoor
open Go.RowKit Go.Graph Go.Utf Go.Ent
def fewF (s:Int):List Nd->Int
 | []=>s
 |x::r=>fewF (min (s+min (x.2.2.1.length:Int) 1048576+min (x.2.2.2.2.1.size:Int) 1048576+min (x.2.2.2.1.2.2.size:Int) 1048576) 1048576) r
def Qkb: ∀(l:List Nd) (s:Int),0<=s->s<=1048576->s<=fewF s l
 | [],s,_,_=>Ji s
 |x::r,s,h,h2=>by
  unfold fewF;have:=Qkb r (min (s+min (x.2.2.1.length:Int) 1048576+min (x.2.2.2.2.1.size:Int) 1048576+min (x.2.2.2.1.2.2.size:Int) 1048576) 1048576) (by omega) (by omega);omega
def fewF_le: ∀(l:List Nd) (s:Int),0<=s->s<=1048576->fewF s l<=5000->∀x∈l,x.2.2.1.length<=5000/\x.2.2.2.2.1.size<=5000/\x.2.2.2.1.2.2.size<=5000
 | [],_,_,_,_,x,hx=>by cases hx
 |y::r,s,h,h2,E,x,hx=>by
  unfold fewF at E;have H:=Qkb r (min (s+min (y.2.2.1.length:Int) 1048576+min (y.2.2.2.2.1.size:Int) 1048576+min (y.2.2.2.1.2.2.size:Int) 1048576) 1048576) (by omega) (by omega);rcases Qk.1 hx with rfl|hx
  omega;exact fewF_le r _ (by omega) (by omega) E x hx
def few25_eq (g:List Nd): ∃b,F.el g=some b/\(b=true->Few g/\g.length<=18):=by
 unfold F.el;rw[A.gd1 (by omega)];have hlen:(List.take (min (g.length:Int) 99).toNat g).length<=99:=by rw[Q7];omega
 have:=A.lp (List.take (min (g.length:Int) 99).toNat g) (λf s y=>F.cF g f s y) (λ_ l s=>some (bif decide ((g.length:Int)<=18)then decide (fewF s l<=2000)else false)) (λ_ s=>0<=s/\s<=1048576)
  (λf s _=>by rw[F.cF,Qb (by omega)];rfl)
  (λf s k x hx hk hp ih=>by
   rw[F.cF,Qc (by omega),A.ixn hx,Qa,A.gd1 ⟨⟨by omega,by omega⟩,⟨by omega,by omega⟩,⟨by omega,by omega⟩⟩,A.gd1 (A.r64n (by omega)),ih _ (by omega)];rfl)
  (by have:=Qac;omega) 0 (by omega)
 rw[this];refine⟨_,rfl,λE=>?_⟩;by_cases h1:(g.length:Int)<=18;simp only[h1,decide_true,cond_true,Q1]at E;have e:List.take (min (g.length:Int) 99).toNat g=g:=Xw (by omega);rw[e]at E;exact⟨⟨by omega,fewF_le g 0 (by omega) (by omega) (by omega)⟩,by omega⟩;simp[h1]at E
def ofI (k ws:Int):Int:=Int.tmod (M.hashI k) ws
def ofI_b (k:Int){ws:Int}(h1:1<=ws)(h2:ws<=16):0<=ofI k ws/\ofI k ws<ws:=by
 have h:=(M.u64_b (M.hashI k)).1;have h0:0<=M.hashI k:=by
  have:=M.hashI_has k;have E:IntKind.u64.min=0:=by decide
  have:=this.1;omega
 exact⟨Int.tmod_nonneg _ h0,Int.tmod_lt_of_pos _ (by omega)⟩
def Of_P (k ws:Int)(h1:1<=ws)(h2:ws<=16):F.em k ws=some (ofI k ws):=by
 have E:=ofI_b k h1 h2;have e:IntKind.u64.wrap ws=ws:=M.u64_id (by omega) (by omega);rw[F.em,A.bo,Qb (by rw[Xf];omega),F.er,Qa,e,A.gd1 (by omega)];show some (IntKind.i64.wrap (ofI k ws))=_;rw[IntWalk.i64_in _ ⟨by omega,by omega⟩]
def Of_R (k ws:Int)(h1:1<=ws)(h2:ws<=16):F.ev k ws=some (ofI k ws):=Of_P k ws h1 h2
def ownL (w ws:Int)(l:List En):List En:=if 1<=ws/\ws<=16 then l.filter λx=>decide (ofI x.2.1 ws=w)else []
def ownL_len (w ws:Int)(l:List En):(ownL w ws l).length<=l.length:=by
 unfold ownL;split;exact Yj ..;simp
def Own_P (w ws:Int)(l:List En)(H:l.length<=100):F.ae w ws l=some (ownL w ws l):=by
 unfold F.ae ownL;rw[A.bo];by_cases E:1<=ws/\ws<=16;rw[Qb (by rw[Xf];omega),Qc E];have it:=A.lp0 l (λf y=>F.d l f y) (λ_ r=>some r) (λf=>by rw[F.d,Qb (by omega)])
  (λf k x hx hk ih=>by rw[F.d,Qc (by omega),A.ixn hx,Qa,A.gd1 (A.r64n (by omega)),ih];rfl) (by have:=Qac;omega)
 have go: ∀(r xs:List En),xs.length+r.length<=1000->F.bw w ws r xs=some (xs++r.filter λx=>decide (ofI x.2.1 ws=w)):=λr=>by
  induction r with
  |nil=>intro xs _;rw[F.bw];simp
  |cons y r ih=>
   intro xs hx;rw[Ql]at hx;rw[F.bw,Of_P _ _ E.1 E.2,Qa,Yn];by_cases h:ofI y.2.1 ws=w;rw[Qc h,A.gd1 (by simp;omega),ih _ (by simp;omega),Qc (Q4 h)];simp;rw[Qb h,ih _ (by omega),Qb (by rw[Xf];exact h)]
 rw[F.an,Qa,F.v,show F.d l A.FU 0=some l from it,Qa,go l [] (by simp;omega)];simp;rw[Qc (by rw[Xf];omega),Qb E]
def Own_R (w ws:Int)(l:List En)(H:l.length<=100):F.ea w ws l=some (ownL w ws l):=by
 unfold F.ea ownL;rw[A.bo];by_cases E:1<=ws/\ws<=16;rw[Qb (by rw[Xf];omega),Qc E];have:=A.lp l (λf (xs:List En) y=>F.bV w ws l f xs y) (λk r xs=>some (xs++r.filter λx=>decide (ofI x.2.1 ws=w))) (λk xs=>xs.length<=k)
  (λf xs _=>by rw[F.bV,Qb (by omega)];simp)
  (λf xs k x hx hk hp ih=>by
   rw[F.bV,Qc (by omega),A.ixn hx,Qa,Of_R _ _ E.1 E.2,Qa,Yn];by_cases h:ofI x.2.1 ws=w;rw[Qc h,Qa,A.gd1 (by simp;omega),F.da,A.gd1 (A.r64n (by omega)),ih _ (by simp;omega),Qc (Q4 h)];simp;rw[Qb h,F.da,A.gd1 (A.r64n (by omega)),ih _ (by omega),Qb (by rw[Xf];exact h)]) (by have:=Qac;omega) [] (Qt _)
 simpa using this;rw[Qc (by rw[Xf];omega),Qb E]
abbrev Prt:=Int×List En
def prtA (i:Int)(o:List En)(t:List Prt):List Prt:=if 0<o.length then(i,o)::t else t
def Qat (f:Int->List En):Int->Nat->List Prt
 |_,0=>[]
 |i,n+1=>prtA i (f i) (Qat f (i+1) n)
def it_step (i:Int)(o:List En)(E:o.length<=1000)(X:Option (List Prt)):(if(0:Int)<((o).length:Int)then((F.a o).bind λr=>(A.cns (i,r) X))else X)=X.map (prtA i o):=by
 by_cases h:0<o.length;rw[Qc (by omega),F.a,A.gd1 (by simp;omega),Qa,Xm];unfold A.cns prtA;simp only[Qc h];rw[Qb (by omega)];have:prtA i o=λt=>t:=by funext t;unfold prtA;rw[Qb h]
 rw[this];cases X<;>rfl
def Parts_P (ws:Int)(l:List En)(E:l.length<=100):F.b7 ws l=some (ownL 0 ws l,ownL 1 ws l,ownL 2 ws l,ownL 3 ws l,ownL 4 ws l,ownL 5 ws l,ownL 6 ws l,ownL 7 ws l,ownL 8 ws l,ownL 9 ws l,ownL 10 ws l,ownL 11 ws l,ownL 12 ws l,ownL 13 ws l,ownL 14 ws l,ownL 15 ws l):=by
 rw[F.b7];simp only[Own_P _ _ _ E,Qa];rfl
def Parts_it (ws:Int)(l:List En)(H:l.length<=100):F.bS (ownL 0 ws l,ownL 1 ws l,ownL 2 ws l,ownL 3 ws l,ownL 4 ws l,ownL 5 ws l,ownL 6 ws l,ownL 7 ws l,ownL 8 ws l,ownL 9 ws l,ownL 10 ws l,ownL 11 ws l,ownL 12 ws l,ownL 13 ws l,ownL 14 ws l,ownL 15 ws l)=some (Qat (λi=>ownL i ws l) 0 16):=by
 have E: ∀i:Int,(ownL i ws l).length<=1000:=λi=>by have:=ownL_len i ws l;omega
 simp only[F.bS,F.bI,F.bJ,F.bK,F.bL,F.bM,F.bN,F.bO,F.bP,F.bQ,F.bl,F.bm,F.bn,F.bo,F.bp,F.bq,F.br];simp only[it_step _ _ (E _)];rfl
def Qfn {f:Int->List En}: ∀(n:Nat) (i:Int),(∀k,i<=k->f k=[])->Qat f i n=[]
 |0,_,_=>rfl
 |n+1,i,h=>by
  unfold Qat prtA;rw[h i (Ji _),Qb (by simp)];exact Qfn n (i+1) λk hk=>h k (by omega)
def Qgl {f:Int->List En}: ∀(n m:Nat) (i:Int),(∀k,i+n<=k->f k=[])->Qat f i (n+m)=Qat f i n
 |0,m,i,h=>by rw[Wy];exact Qfn m i λk hk=>h k (by simpa using hk)
 |n+1,m,i,h=>by
  rw[show n+1+m=(n+m)+1 by omega];unfold Qat;rw[Qgl n m (i+1) λk hk=>h k (by push_cast at hk ⊢;omega)]
def ownL_far (ws:Int)(l:List En){k:Int}(h:ws<=k):ownL k ws l=[]:=by
 unfold ownL;split;rename_i E;exact J0.2 λx _=>by
  have:=ofI_b x.2.1 E.1 E.2;rw[Xf];omega
 rfl
def Qdp (f:Int->List En): ∀(n:Nat) (i:Int),(Qat f i n).length<=n
 |0,_=>Qt _
 |n+1,i=>by
  have:=Qdp f n (i+1);unfold Qat prtA;split;simp only[Ql];omega;omega
def Parts_R (ws:Int)(l:List En)(H:l.length<=100):F.dY ws l=some (Qat (λi=>ownL i ws l) 0 16):=by
 have hFU:=Qac;obtain⟨c,W,I⟩: ∃c:Nat,(c:Int)=min (max ws 0) 16/\c<=16:=⟨(min (max ws 0) 16).toNat,by omega,by omega⟩;have main: ∀(n k f:Nat) (xs:List Prt),k+n=c->n<f->xs.length<=k->F.aK ws l f xs (k:Int)=some (xs++Qat (λi=>ownL i ws l) (k:Int) n):=λn=>by
  induction n with
  |zero=>
   intro k f xs hk J _;obtain⟨f,rfl⟩: ∃f',f=f'+1:=⟨f-1,by omega⟩;rw[F.aK,A.ba,Qb (by rw[Xf];omega)];simp[Qat]
  |succ n ih=>
   intro k f xs hk J hx;obtain⟨f,rfl⟩: ∃f',f=f'+1:=⟨f-1,by omega⟩;rw[F.aK,A.ba,Qc (by rw[Xf];omega),Own_R _ _ _ H,Qa];have E:(k:Int)+1=((k+1:Nat):Int):=by omega
   unfold Qat prtA;by_cases h:0<(ownL (k:Int) ws l).length;rw[Qc (by omega),A.gd1 (by simp;omega),F.cj,A.gd1 (A.r64n (by omega)),E,ih (k+1) f _ (by omega) (by omega) (by simp;omega),Qc h];simp;rw[Qb (by omega),F.cj,A.gd1 (A.r64n (by omega)),E,ih (k+1) f _ (by omega) (by omega) (by omega),Qb h]
 have:=main c 0 A.FU [] (by omega) (by omega) (Qt _);unfold F.dY;refine(show F.aK ws l A.FU [] 0=_ from this).trans ?_;rw[Xm];congr 1;obtain⟨m,N⟩: ∃m,16=c+m:=⟨16-c,by omega⟩;rw[N];refine(Qgl c m 0 λk hk=>?_).symm;show ownL k ws l=[];by_cases h:ws<=k;exact ownL_far ws l h;unfold ownL;rw[Qb (by omega)]
def told_P (ws:Int)(l:List En)(m:Int)(E:l.length<=100)(H:0<=m):((F.b7 ws l).bind λr=>F.am r m)=some ((Qat (λi=>ownL i ws l) 0 16).take m.toNat):=by
 rw[Parts_P ws l E,Qa,F.am];rw[show F.bS _=_ from Parts_it ws l E,Qa];have hlen:=Qdp (λi=>ownL i ws l) 16 0;have go: ∀(r xs:List Prt),xs.length+r.length<=100->F.q m r xs=some (xs++r.take (m.toNat-xs.length)):=λr=>by
  induction r with
  |nil=>intro xs _;rw[F.q];simp
  |cons y r ih=>
   intro xs hx;rw[Ql]at hx;rw[F.q];by_cases h:m<=(xs.length:Int);rw[Qc h,show m.toNat-xs.length=0 by omega];simp;rw[Qb h,A.gd1 (by simp;omega),ih _ (by simp;omega)];obtain⟨k,hk⟩: ∃k,m.toNat-xs.length=k+1:=⟨m.toNat-xs.length-1,by omega⟩;rw[hk,List.take_succ_cons,show m.toNat-(xs++[y]).length=k by simp;omega];simp
 rw[go _ [] (by simp;omega)];simp
def Same25 (a b:List Prt)(ha:a.length<=100)(h2: ∀p,p∈a->p.2.length<=1000):F.dR a b=some (decide (a=b)):=by
 unfold F.dR;by_cases Y:a.length=b.length;rw[Qb (by omega)];rw[A.eqk2 a b (λf y=>F.bx a b f y) (some true) (some false) Y (λf=>by rw[F.bx,Qb (by omega)])
  (λf k x y hx hy hk=>by
   have I:=h2 _ (Qn hx);obtain⟨J,E⟩:=x;obtain⟨N,W⟩:=y;have ext:(J,E)=(N,W)↔J=N/\E=W:=by simp only[Qv]
   have hx2:E.length<=1000:=I;rw[F.bx,Qc (by omega),A.ixn hx,Qa,A.ixn hy,Qa];dsimp only;by_cases h1:J=N;rw[Qb (λe=>e h1),Qa,Qa,Qls _ _ (by show E.length<=_;omega),Qa,F.cL];by_cases H:E=W;rw[Q4 H,Xk,Qb W5,A.gd1 (A.r64n (by omega)),Qc (ext.2 ⟨h1,H⟩)];rw[Wh H,Xz,Qc rfl,Qb (λh=>H (ext.1 h).2)];rw[Qc h1,F.cL,Qc rfl,Qb (λh=>h1 (ext.1 h).1)]) (by have:=Qac;omega),A.ited]
 rw[Qc (by omega),Wh (λe=>Y (by rw[e]))]
def Qdn (f:Int->List En): ∀(n:Nat) (i:Int) (p:Prt),p∈Qat f i n->∃k,p.2=f k
 |0,_,_,h=>by cases h
 |n+1,i,p,h=>by
  unfold Qat prtA at h;split at h;rcases Qk.1 h with rfl|h
  exact⟨i,rfl⟩;exact Qdn f n (i+1) p h;exact Qdn f n (i+1) p h
def small25 (l:List En): ∃b,F.dX [] l=some b/\(b=true->l.length<=60):=by
 have hFU:=Qac;obtain⟨n,H,E,I⟩: ∃n:Nat,n<=99/\min ((l.length:Int)) 99=n/\n<=l.length:=⟨min l.length 99,by omega,by omega,by omega⟩;have main:=A.lp (l.take (min (l.length:Int) 99).toNat) (λf (y:Int) i=>F.a2 [] l f y i) (λ_ r y=>some (bif bif decide (((List.length (α:=Int×Int×Int×ByteArray) []):Int)<=24)then decide (((l).length:Int)<=60)else false then decide (r.foldl (λy x=>min (y+min (x.2.2.1.size:Int) 1048576) 1048576) y<=4000)else false)) (λ_ y=>0<=y/\y<=1048576)
  (λf y _=>by rw[F.a2,Qb (by omega)];rfl)
  (λf y k x hx hk hp ih=>by
   rw[E,Q7,Wb]at hk;rw[F.a2,Qc (by rw[E,Q7,Wb];omega),A.ixn hx,Qa,A.gd1 ⟨by omega,by omega⟩,A.gd1 (A.r64n (by omega)),ih _ (by omega)];rfl) (by rw[Q7,E];omega) 0 (by omega)
 obtain⟨f,J⟩: ∃f,A.FU=f+1:=⟨A.FU-1,by omega⟩;unfold F.dX;rw[A.gd1 (by decide)];rw[show F.ci [] l A.FU 0 0=F.a2 [] l A.FU 0 0 by
  conv=>lhs;rw[J,F.ci]
  rw[Qb (by simp),A.gd1 (by omega)]]
 rw[show F.a2 [] l A.FU 0 0=_ from main];refine⟨_,rfl,λh=>?_⟩;by_cases h1:(l.length:Int)<=60;omega;simp[h1]at h
def L25_bg:F.eh=some true:=rfl
def Qfs (g:List Nd): ∀(l out:List En),(l.foldl (stL g) out).length<=out.length+l.length
 | [],out=>Qt _
 |x::l,out=>by
  have h1:=Qfs g l (stL g out x);have h2:=stL_len g out x;show(l.foldl (stL g) (stL g out x)).length<=_;rw[Ql];omega
def hasK_l {l:List En}(h:(Z.Ty.slice (Z.Ty.pair A.ti (Z.Ty.pair A.ti (Z.Ty.pair Z.Ty.str A.ti)))).ok l): ∀x,x∈l->hasK (key x):=λx hx=>by
 obtain⟨h1,h2,E,_⟩:=h.2 x hx;exact⟨h1,h2,E⟩
def foldParts_plain {P1 P2 P3 P4:Prop}(g:List Nd)(w ws:Int)(l:List En)(most:UInt8)(_:P1)(_:P2)(_:P3)(hok0:(Z.Ty.slice (Z.Ty.pair A.ti (Z.Ty.pair A.ti (Z.Ty.pair Z.Ty.str A.ti)))).ok l)(_:P4):F.cK g w ws l most=some true:=by
 have J:=hasK_l hok0;have hm:(most.toNat:Int)<=255:=by have:=most.toNat_lt;omega
 have yes:F.aD g w ws l most true=some true:=by rw[F.aD,Qc rfl,L25_bg];rfl
 rw[F.cK,L25_bg,Qa,Qb (by simp)];obtain⟨b,hb,N⟩:=few25_eq g;rw[hb,Qa];cases b with
 |false=>rw[Qc (by simp),yes]
 |true=>
  obtain⟨W,_⟩:=N rfl;rw[Qb (by simp)];obtain⟨c,hc,Y⟩:=small25 l;rw[hc,Qa];cases c with
  |false=>rw[Xz,yes]
  |true=>
   have hl:=Y rfl;have E:l.length<=100:=by omega
   have ho: ∀i:Int,(ownL i ws l).length<=1000:=λi=>by have:=ownL_len i ws l;omega
   obtain⟨pp,H⟩: ∃pp,pp=Qat (λi=>ownL i ws l) 0 16:=⟨_,rfl⟩;have hpl:pp.length<=16:=by rw[H];exact Qdp _ _ _
   have I: ∀p,p∈pp->p.2.length<=1000:=λp hp=>by rw[H]at hp;obtain⟨k,e⟩:=Qdn _ _ _ _ hp;rw[e];exact ho k
   have told: ∀(m:Int) (K:List Prt->Option Bool),0<=m->((F.b7 ws l).bind λr=>(F.am r m).bind K)=K (pp.take m.toNat):=λm K h0=>by
    have:=told_P ws l m E h0;rw[Parts_P ws l E,Qa]at this ⊢;rw[this,Qa,H]
   have hr:Z.R64 ((most.toNat:Int))/\Z.R64 ((most.toNat:Int)):=⟨⟨by omega,by omega⟩,⟨by omega,by omega⟩⟩;obtain⟨e,he1,he2⟩:=check_same g W;rw[Xk,F.aD,Qb (by simp),Parts_R ws l E,Qa,Own_P w ws l E,Qa,Own_R w ws l E,Qa,Qls _ _ (by have:=ho w;omega),Qa,Qc (by simp),<-H];refine(told 99 _ (by omega)).trans ?_;rw[Xw (by show pp.length<=99;omega),Same25 _ _ (by omega) I,Qa,Qc (by simp),A.gd1 hr,A.gd1 (by omega)];refine(told (most.toNat:Int) _ (by omega)).trans ?_;have e1:pp.take (min (pp.length:Int) (most.toNat:Int)).toNat=pp.take ((most.toNat:Int)).toNat:=by
    rw[show(min (pp.length:Int) (most.toNat:Int)).toNat=min most.toNat pp.length by omega,Wb,<-List.take_take,List.take_length]
   rw[e1,Same25 _ _ (by rw[Q7];omega) (λp hp=>I p (Jf hp)),Qa,Qc (by simp),Qjh g l W E J,he1,Qa,Qa,Qlx g l W E,he2,Qa,Qa];have hlen:(if e≠0 then []else l.foldl (stL g) []).length<=1000:=by
    split;simp;have:=Qfs g l [];simp at this;omega
   rw[Qls _ _ (by omega),Qa,F.aU];simp
end Go.Proofs.YtligcbdjiolamaaGreatDoor
end
section
namespace Go.Z
open Go.RowKit
def OpenT (P:QR)(T:QQ)(t:Ty):Prop:=
 P.cellsOf T=t.size/\∀(H:Type) (enc:QQ×Value->H) (w:World) (base:Nat) (spare:Nat->Bool) (held:Bool) (fuel:Nat) (cs:QL) (x:DataW H×List MemPlace),
  DataW.trod enc P w base spare held fuel T cs=some x->∃y:t.den,t.rep w (nt []) cs y
section
variable {P:QR}{T e:QQ}
def ot_int {k:IntKind}(I:P.cellsOf T=1)(J:P.underlying T=some (.int k)):OpenT P T (.int k):=⟨I,λH enc w base spare held fuel cs x h=>by
 obtain⟨n,rfl,_,E⟩:=DataW.trod_int J h;refine⟨n,rfl,?_⟩;simp only[Lit.wf,Qf,Q1]at E;exact E⟩
def ot_byte (E:P.cellsOf T=1)(I:P.underlying T=some (.int .u8)):OpenT P T .byte:=⟨E,λH enc w base spare held fuel cs x h=>by
 obtain⟨n,rfl,_,J⟩:=DataW.trod_int I h;simp[Lit.wf,IntKind.min,IntKind.max,IntKind.signed,IntKind.bits]at J;exact⟨UInt8.ofNat n.toNat,W8 (λz=>[Value.int .u8 z]) (u8_of (by omega))⟩⟩
def ot_str (E:P.cellsOf T=1)(I:P.underlying T=some .string):OpenT P T .str:=⟨E,λH enc w base spare held fuel cs x h=>by
 obtain⟨s,rfl,_,J⟩:=DataW.trod_string I h;exact⟨s,rfl,J⟩⟩
def OpenPs (P:QR):List (QQ×Nat)->Nat->Ty->Prop
 | [],_,_=>False
 | [(T,o')],o,t=>o'=o/\OpenT P T t
 |(T,o')::p::ps,o,.pair a b=>o'=o/\OpenT P T a/\OpenPs P (p::ps) (o+a.size) b
 |_::_::_,_,_=>False
def open_ps {H:Type}{enc:QQ×Value->H}{w:World}{base:Nat}{spare:Nat->Bool}{held:Bool}{fuel:Nat}{cs:QL}:
  ∀(ps:List (QQ×Nat)) (o:Nat) (t:Ty),OpenPs P ps o t->(∀p∈ps,∃x,DataW.trod enc P w base spare held fuel p.1 ((cs.drop p.2).take (P.cellsOf p.1))=some x)->∃y:t.den,t.rep w (nt []) ((cs.drop o).take t.size) y
 | [],_,_,h,_=>h.elim
 | [(T,o')],o,t,h,hx=>by
  obtain⟨rfl,⟨E,I⟩⟩:=h;obtain⟨x,hx⟩:=hx (T,o') (Qr.2 rfl);rw[<-E];exact I _ _ _ _ _ _ _ _ _ hx
 |(T,o')::p::ps,o,.pair a b,h,hx=>by
  obtain⟨rfl,⟨E,I⟩,W⟩:=h;obtain⟨x,h1⟩:=hx (T,o') (Qg ..);obtain⟨ya,J⟩:=I _ _ _ _ _ _ _ _ _ h1;obtain⟨yb,N⟩:=open_ps (p::ps) _ b W λq hq=>hx q (Qe _ hq);refine⟨(ya,yb),_,_,?_,J,N⟩;show(cs.drop o').take (a.size+b.size)=_;rw[E,List.take_add,Y7]
 |_::_::_,_,.int _,h,_=>h.elim
 |_::_::_,_,.byte,h,_=>h.elim
 |_::_::_,_,.bool,h,_=>h.elim
 |_::_::_,_,.str,h,_=>h.elim
 |_::_::_,_,.slice _,h,_=>h.elim
def ot_struct {fs:List Field}{t:Ty}(N:P.cellsOf T=t.size)(W:P.underlying T=some (.struct fs.toArray))(h:OpenPs P (fs.map λf=>(f.type,f.offset)) 0 t):OpenT P T t:=⟨N,λH enc w base spare held fuel cs x hx=>by
 obtain⟨xs,n,_,_,hl,Y,hf⟩:=DataW.trod_struct W hx;have E:cs=(cs.drop 0).take t.size:=by rw[Xi,Xw (by omega)]
 rw[E];refine open_ps (fuel:=n) (enc:=enc) (base:=base) (spare:=spare) (held:=held) _ 0 t h λp hp=>?_;obtain⟨f,I,rfl⟩:=Wu.1 hp;obtain⟨i,J,he⟩:=Yu I;have h1:=hf i f (by rw[Wx,Qh J,he]);rw[h1,Qh (by rw[Y];simpa using J)];exact⟨_,rfl⟩⟩
def rows_of {t:Ty}{w:World}{g:Addr}: ∀(n:Nat),(∀i,i<n->∃(cs:QL) (y:t.den),cs.length=t.size/\(∀j u,cs[j]?=some u->w.cell? (g.add (i*t.size+j))=some u)/\t.rep w (nt []) cs y)->
  ∃(cells:QL) (ys:List t.den),ys.length=n/\cells.length=n*t.size/\(∀j u,cells[j]?=some u->w.cell? (g.add j)=some u)/\∀(i:Nat) (y:t.den),ys[i]?=some y->t.rep w (nt []) ((cells.drop (i*t.size)).take t.size) y
 |0,_=>⟨[],[],rfl,by simp,by simp,by simp⟩
 |n+1,h=>by
  obtain⟨cells,ys,h1,h2,J,N⟩:=rows_of n λi E=>h i (by omega);obtain⟨cs,y,c1,c2,c3⟩:=h n (by omega);refine⟨cells++cs,ys++[y],by simp[h1],by rw[Qu,h2,c1,J8],λj u H=>?_,?_⟩;by_cases I:j<cells.length;rw[Wo I]at H;exact J j u H;rw[Xl (by omega)]at H;have:=c2 _ u H;rwa[h2,show n*t.size+(j-n*t.size)=j by omega]at this;refine Qgp (xs:=ys) (ys:=[y]) (by rw[h2,h1]) N λi y' E=>?_;have:i=0:=by have:=(Qd.1 E).1;simp at this;omega
  subst this;simp at E;subst E;rw[Jj,Xi,Xw (by omega)];exact c3
def ot_slice {t:Ty}(hc:P.cellsOf T=1)(ht:P.underlying T=some (.slice e))(h:OpenT P e t):OpenT P T (.slice t):=⟨hc,λH enc w base spare held fuel cs x hx=>by
 rcases DataW.trod_slice ht hx with⟨rfl,_⟩|⟨ad,len,cap,elems,rest,n,_,rfl,_,hb,hl,W,hlen,hel,_,_⟩
 exact⟨[],Qis _⟩;have each: ∀i,i<len->∃(cs:QL) (y:t.den),cs.length=t.size/\(∀j u,cs[j]?=some u->w.cell? (ad.add (i*t.size+j))=some u)/\t.rep w (nt []) cs y:=λi hi=>by
  have h1:=hel i hi;rw[Qh (by omega),Jw]at h1;obtain⟨cs',h2,I⟩:=h1;obtain⟨_,J,Y⟩:=World.cells?_some h2;obtain⟨y,hy⟩:=h.2 _ _ _ _ _ _ _ _ _ I;rw[h.1]at J Y;refine⟨cs',y,J,λj u N=>?_,hy⟩;have E:=(Qd.1 N).1;have:=Y j (by omega);rw[add_add]at this;rw[this,N]
 obtain⟨cells,ys,h1,h2,I,J⟩:=rows_of len each;by_cases hz:len=0;subst hz;have:ys=[]:=Ws h1;subst this;exact⟨[],some ad,cap,[],rfl,by simp,W,by simp,.inl rfl,by simp⟩;have hp:=Qav t;have E:0<cells.length:=by rw[h2];exact Nat.mul_pos (by omega) hp
 have h0:=I 0 _ (Qh E);have hspot:=World.cell?_spot h0;obtain⟨b,off,spot⟩:=ad;simp only[Addr.add]at hspot;subst hspot;refine⟨ys,some ⟨b,off,none⟩,cap,cells,by rw[h1],by omega,W,by rw[h1];exact h2,.inr ⟨b,off,rfl,by simp[nt],λj u N=>?_⟩,J⟩;have:=I j u N;rwa[Wl]at this⟩
end
end Go.Z
end
section
namespace Go.Proofs.YtligcbdjiolamaaGreatDoor.foldPartsDone
open Go.ChangeShapes Go.WideShapes Go.ChangeAt Go.RowKit
def own:ownKnob Tryz.prog.godebug=none:=by kernel_rfl
def laidOut:laidOutB Tryz.prog=true:=by kernel_rfl
def ot3:Z.OpenT Tryz.prog 3 A.ti:=Z.ot_int (by kernel_rfl) Tryz.underlying3
def ot45:Z.OpenT Tryz.prog 45 A.TI:=Z.ot_slice (by kernel_rfl) Tryz.underlying45 ot3
def ot2:Z.OpenT Tryz.prog 2 A.ti:=Z.ot_int (by kernel_rfl) Tryz.underlying2
def ot9:Z.OpenT Tryz.prog 9 Z.Ty.str:=Z.ot_str (by kernel_rfl) Tryz.underlying9
def ot47:Z.OpenT Tryz.prog 47 T46:=Z.ot_struct (by kernel_rfl) Tryz.underlying47 ⟨rfl,ot3,rfl,ot2,rfl,ot9⟩
def ot49:Z.OpenT Tryz.prog 49 T48:=Z.ot_struct (by kernel_rfl) Tryz.underlying49 ⟨rfl,ot3,rfl,ot3,rfl,ot45,rfl,ot47,rfl,ot9,rfl,ot2,rfl,ot3⟩
def ot22:Z.OpenT Tryz.prog 22 (Z.Ty.slice T48):=Z.ot_slice (by kernel_rfl) Tryz.underlying22 ot49
def ot24:Z.OpenT Tryz.prog 24 T23:=Z.ot_struct (by kernel_rfl) Tryz.underlying24 ⟨rfl,ot22⟩
def ot59:Z.OpenT Tryz.prog 59 T58:=Z.ot_struct (by kernel_rfl) Tryz.underlying59 ⟨rfl,ot3,rfl,ot2,rfl,ot9,rfl,ot2⟩
def ot25:Z.OpenT Tryz.prog 25 (Z.Ty.slice T58):=Z.ot_slice (by kernel_rfl) Tryz.underlying25 ot59
def ot5:Z.OpenT Tryz.prog 5 Z.Ty.byte:=Z.ot_byte (by kernel_rfl) Tryz.underlying5
set_option maxRecDepth 100000 in
def laid_met (os:Os)(args:Array Value):laidMetH Tryz.prog Rows.foldPartsRow.laid (({World.holding Tryz.prog os ⟨#[],#[],[]⟩with heap:=((World.holding Tryz.prog os ⟨#[],#[],[]⟩).heap.modify 0 (A.putCells A.tabF)).modify 1 (A.putCells A.tabA)}:World).forCall (λ_ _=>0) ⟨#[],args,[]⟩).memory:=by
 rw[MakeChecks.laidMetH_plain _ _ _ (by kernel_rfl)];exact(LaidIn.of_run (l:=Rows.foldPartsRow.laid) [1,0] 8 (by kernel_rfl) (by kernel_rfl) (by kernel_rfl) (by kernel_rfl)).met
def of_laid {W:World}(h:laidMetH Tryz.prog Rows.foldPartsRow.laid W):Lib.Utf8Tabs 0 1 W:=by
 rw[MakeChecks.laidMetH_plain _ _ _ (by kernel_rfl)]at h;have h1:=Lib.laidMet.reads h (.tail _ (.head _));rw[show Rows.laid_unicode_utf8_first=Lib.firstData from Pinned.utf8First_eq]at h1;have h2:=Lib.laidMet.reads h (.head _);rw[show(Rows.laid_unicode_utf8_acceptRanges:DataW Unit)=Lib.acceptData by kernel_rfl]at h2;exact utf8Tabs_of_readsT (U8Types.of196 Tryz.laysValid) ⟨by kernel_rfl,by kernel_rfl,by kernel_rfl,by kernel_rfl,by kernel_rfl,by kernel_rfl,by kernel_rfl⟩ h1 h2
set_option maxHeartbeats 1000000 in
set_option maxRecDepth 100000 in
def lifted (os:Os)(started:os.Started)(H:Type)(enc:QQ×Value->H):
  ReturnsInHanded {} Tryz.checked os 3 .any (λw args=>(Rows.foldPartsSpec.pre enc Tryz.prog Tryz.f3 [] false w args/\laidMetH Tryz.prog Rows.foldPartsRow.laid w)/\sizedMet enc Tryz.prog Tryz.f3 (OpenSpec.ofChange Rows.foldPartsSpec) false w args) (Rows.foldPartsSpec.post enc Tryz.prog Tryz.f3 false true false false):=by
 refine returnsInHanded_of_change_and (C:=Tryz.checked) (X:=λw _=>laidMetH Tryz.prog Rows.foldPartsRow.laid w) (λ_ _ _ hh h=>h.of_heap hh) own started (by kernel_rfl) Tryz.func3
  (ChangeSpec.witness_shaped (enc:=enc) (C:=Tryz.checked) (os:=os) (X:=λw _=>laidMetH Tryz.prog Rows.foldPartsRow.laid w) false ({World.holding Tryz.prog os ⟨#[],#[],[]⟩with heap:=((World.holding Tryz.prog os ⟨#[],#[],[]⟩).heap.modify 0 (A.putCells A.tabF)).modify 1 (A.putCells A.tabA)}) #[.agg #[QA],A.i 0,A.i 0,QA,.int .u8 0] 16 rfl (World.shaped_of_RefB (by kernel_rfl) (by kernel_rfl)) (by kernel_rfl) (by kernel_rfl) (by kernel_rfl) (laid_met os _)) ?_
 intro W base args ds gs before hval0 hW hcnd hsz0 hL _;have hval: ∀(j:Nat) t v,Tryz.f3.params[j]?=some t->args[j]?=some v->Value.okWide Tryz.prog W .any base t v:=hval0;have hW':=hW;obtain⟨p,q,hA0,hV,rfl,hfz,hnd⟩:=hW;have hA:DataW.TrodAll enc Tryz.prog W 0 (λ_=>true) true Tryz.f3.params.toList args.toList ds p:=hA0;rw[Tryz.params3]at hA hval;obtain⟨v0,vs0,d0,ds0,p0,q0,hargs,rfl,rfl,h0,r0⟩:=trodAll_cons hA;obtain⟨v1,vs1,d1,ds1,p1,q1,rfl,rfl,rfl,h1,r1⟩:=trodAll_cons r0;obtain⟨v2,vs2,d2,ds2,p2,q2,rfl,rfl,rfl,h2,r2⟩:=trodAll_cons r1;obtain⟨v3,vs3,d3,ds3,p3,q3,rfl,rfl,rfl,h3,r3⟩:=trodAll_cons r2;obtain⟨v4,vs4,d4,ds4,p4,q4,rfl,rfl,rfl,h4,r4⟩:=trodAll_cons r3;obtain⟨rfl,rfl,rfl⟩:=trodAll_nil r4;obtain rfl:args=#[v0,v1,v2,v3,v4]:=by cases args;simp_all
 obtain⟨rfl,rfl⟩:=trodVars_none hV;have k0:=h0;have lt0: ∀x∈p0,x.block<W.heap.size:=by obtain⟨m,J⟩:=k0;exact DataW.trod_lt m _ _ _ J
 obtain⟨fu0,hf0⟩:=h0;obtain⟨x0,E⟩:=ot24.2 _ _ _ _ _ _ _ _ _ hf0;obtain⟨cs0,rfl,_⟩:=okWide_struct Tryz.underlying24 (hval 0 24 v0 rfl rfl);replace E:T23.rep W (Z.nt []) cs0.toList x0:=E;have hok0:=Z.rep_ok _ E;obtain⟨a0,c0,hc0⟩: ∃a c,cs0.toList=[.slice a x0.length c]:=by obtain⟨a,c,_,h,_⟩:=E;exact⟨a,c,h⟩
 obtain rfl:cs0=#[.slice a0 x0.length c0]:=by rw[<-Wd (xs:=cs0),hc0]
 have k1:=h1;have lt1: ∀x∈p1,x.block<W.heap.size:=by obtain⟨m,J⟩:=k1;exact DataW.trod_lt m _ _ _ J
 obtain⟨fu1,hf1⟩:=h1;obtain⟨x1,hx1⟩:=ot3.2 _ _ _ _ _ _ _ _ _ hf1;obtain⟨u1,rfl⟩:=okWide_int Tryz.underlying3 (hval 1 3 v1 rfl rfl);have N:=hx1.1;replace N:u1=x1:=by simpa[Value.cells] using N
 subst N;have hok1:=hx1.2;have k2:=h2;have lt2: ∀x∈p2,x.block<W.heap.size:=by obtain⟨m,J⟩:=k2;exact DataW.trod_lt m _ _ _ J
 obtain⟨fu2,hf2⟩:=h2;obtain⟨x2,hx2⟩:=ot3.2 _ _ _ _ _ _ _ _ _ hf2;obtain⟨u2,rfl⟩:=okWide_int Tryz.underlying3 (hval 2 3 v2 rfl rfl);have Y:=hx2.1;replace Y:u2=x2:=by simpa[Value.cells] using Y
 subst Y;have hok2:=hx2.2;have k3:=h3;have lt3: ∀x∈p3,x.block<W.heap.size:=by obtain⟨m,J⟩:=k3;exact DataW.trod_lt m _ _ _ J
 obtain⟨fu3,hf3⟩:=h3;obtain⟨x3,I⟩:=ot25.2 _ _ _ _ _ _ _ _ _ hf3;obtain⟨a3,n3,c3,rfl⟩:=okWide_slice Tryz.underlying25 (hval 3 25 v3 rfl rfl);replace I:(Z.Ty.slice T58).rep W (Z.nt []) [.slice a3 n3 c3] x3:=I;have hn3:=(Z.rep_slice_len I).1;subst hn3;have k4:=h4;have lt4: ∀x∈p4,x.block<W.heap.size:=by obtain⟨m,J⟩:=k4;exact DataW.trod_lt m _ _ _ J
 obtain⟨fu4,hf4⟩:=h4;obtain⟨x4,hx4⟩:=ot5.2 _ _ _ _ _ _ _ _ _ hf4;obtain⟨u4,rfl⟩:=okWide_int Tryz.underlying5 (hval 4 5 v4 rfl rfl);have he4:=hx4;replace he4:u4=(x4.toNat:Int):=by simpa[Value.cells,Z.Ty.rep] using he4
 subst he4;clear hA0 hval0;have htab:=of_laid hL;have hF:F.cK x0 u1 u2 x3 x4=some true:=foldParts_plain x0 u1 u2 x3 x4 hok0 hok1 hok2 (Z.rep_ok _ I) trivial;have hct:=o_a2 a0 a3 c0 c3 x0 u1 u2 x3 x4 hok1 hok2 true hF;refine(hct W (λ_=>True) (A.Hp.start ⟨A.Hall.sh E,A.Hall.sh I,A.Hall.tabs htab⟩)).mono ?_;rintro e W' ⟨v,H',rfl,⟨rfl,rfl⟩,hh⟩;have bel:=hh.ch.below;exact⟨_,rfl,_,_,_,[],_,[],hW',trodAll_mk1 (shut_bool Tryz.underlying4 _),(trodAll_cons_mk (Below.trod laidOut (by kernel_rfl) (Wa (by kernel_rfl)) k0 bel lt0) (trodAll_cons_mk (Below.trod laidOut (by kernel_rfl) (Wa (by kernel_rfl)) k1 bel lt1) (trodAll_cons_mk (Below.trod laidOut (by kernel_rfl) (Wa (by kernel_rfl)) k2 bel lt2) (trodAll_cons_mk (Below.trod laidOut (by kernel_rfl) (Wa (by kernel_rfl)) k3 bel lt3) (trodAll_cons_mk (Below.trod laidOut (by kernel_rfl) (Wa (by kernel_rfl)) k4 bel lt4) trodAll_mk0))))),rfl,bel.frame _,λh=>by cases h⟩
def joinedF:joinedFacts Tryz.prog 3 Tryz.f3 Rows.foldPartsSpec Rows.foldPartsRow=true:=by kernel_rfl
def over:Rows.foldPartsRow.holds Tryz.pinned (OpenSpec.ofChange Rows.foldPartsSpec):=
 OpenClaim.holds_of_wide 3 Tryz.f3 rfl rfl rfl rfl rfl rfl rfl ⟨rfl,rfl,rfl,rfl,rfl⟩ rfl rfl rfl rfl rfl (by kernel_rfl) Tryz.func3 joinedF
  (Wa (by kernel_rfl)) (by unfold Func.isWrapper;first|(rw[Qc (by decide+kernel)];kernel_rfl)|(rw[Qb (by decide+kernel)];exact⟨rfl,rfl⟩))
  (λos started H enc _=>lifted os started H enc)
def proved:Rows.FoldPartsCardSaid:=
 Claim7.holds_tied_plain_at .later [] [.data,.pinned] true (true,"cb5ed361193c288ed44bf3cdca77378c696ff3895992b008aebb085afb4dbe0f") true
  over (λ_ h=>by cases h) (by kernel_rfl) (λ_ h=>by cases h) foldParts_row_tie rfl ⟨rfl,rfl⟩ (by kernel_rfl) rfl
  (λf fn I E=>by
   obtain rfl:f=3:=Xs ((show Tryz.prog.funcNamed Rows.foldPartsRow.func=some 3 by kernel_rfl).symm.trans I) |>.symm;obtain rfl:fn=Tryz.f3:=(Xs (Tryz.func3.symm.trans E)).symm;exact⟨by kernel_rfl,λj t H=>by
    rw[Tryz.params3]at H;have J:t∈[24,3,3,25,5]:=by simpa using Array.mem_of_getElem? H
    have hall:([24,3,3,25,5].all λu=> !Tryz.prog.wantsStandIn u)=true:=by kernel_rfl
    exact(show Tryz.prog.wantsStandIn t=false by simpa using Q8.1 hall t J)⟩)
  (by kernel_rfl)
#print axioms proved
end Go.Proofs.YtligcbdjiolamaaGreatDoor.foldPartsDone
end
