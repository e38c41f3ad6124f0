import Derived.Test.YtlhiofnikdppeaaGreatDoorJ7
import Derived.OpenShut
import Derived.ShutString
import Derived.ChangeOld
import Derived.ChangeArms
import Derived.DataReads
import Derived.Test.YtlhiofnikdppeaaGreatDoorRows
import Derived.Test.YtlhiofnikdppeaaGreatDoorTie
import Derived.Test.YtlhiofnikdppeaaGreatDoorCards
import Derived.WalkKit
import Derived.ProofKit
import Derived.LaidMore
import Derived.Stop.Joined
import Derived.SevenTiedAt
import Derived.Lib.LaidIn
import Derived.Lib.LaidU8T
import Derived.PinnedBridge
import Derived.SizedLaws
set_option linter.defProp false
set_option linter.unusedVariables false
set_option linter.unusedSimpArgs false
set_option synthInstance.maxSize 1000000
set_option synthInstance.maxHeartbeats 400000
section
namespace Go.Proofs.YtlhiofnikdppeaaGreatDoor
open Go.RowKit Go.Graph
def RelD (g:List Nd)(d:List Int)(dm:List (Int×Int)):Prop:=∀(i:Nat) (n:Nd),g[i]?=some n->Z.mget 0 dm n.1=iget d (i:Int)
def RelD.in {g:List Nd}{d:List Int}{dm:List (Int×Int)}(h:RelD g d dm){k:Int}(E:0<=idx g k):Z.mget 0 dm k=iget d (idx g k):=by
 obtain⟨q,I,_,J⟩:=idx_get E;have H:=h _ q I;rw[J,Xb E]at H;exact H
def iget_nat {l:List Int}{i:Nat}(h:i<l.length):l[i]?=some (iget l (i:Int)):=by
 unfold iget;rw[Qv,Qg h];rfl
def inD_at {g:List Nd}{d l:List Int}{i:Nat}{k:Int}(h:l[i]?=some k):iget (inD g d l) (i:Int)=iget d (idx g k):=by
 unfold iget;rw[Qv,inD,Qq,h];rfl
def out_eq (g:List Nd)(d:List Int)(a0:(List (Int×Nd))×(List Int)×(List (Int×Int)))(n:Nd)(hr:RelD g d a0.2.2)(hib:InB d)(ho:ownQ n=true)(hf: ∀k∈n.2.2.1,0<=idx g k):
  ∃v b,F.cF a0 n=some (v,b)/\((b=false/\depthOf n (inD g d n.2.2.1)<0)\/(b=true/\v=depthOf n (inD g d n.2.2.1)/\0<=v)):=by
 have hlen:=own_len ho;have hD:=own_D ho;unfold F.cF;by_cases h1:n.2.1=1;have hl:n.2.2.1=[]:=We (by omega);rw[Qc h1];refine⟨0,true,rfl,.inr ⟨rfl,?_,Y7 _⟩⟩;unfold depthOf Qhy capd;simp only[h1,hl,inD,Xk,d0];simp;rw[Qb h1];by_cases E:n.2.1=14;rw[Qc E];have:=hD.1 E;refine⟨_,true,rfl,.inr ⟨rfl,?_,by omega⟩⟩;unfold depthOf Qhy capd;rw[Qc E,Qb (by omega)];rw[Qb E];have hpos:0<n.2.2.1.length:=by omega
 obtain⟨k0,H⟩: ∃k0,n.2.2.1[0]?=some k0:=⟨_,Qg hpos⟩;have f0:=hf k0 (Qj H);have b0:=hib (idx g k0);have e0:d0 (inD g d n.2.2.1)=iget d (idx g k0):=by rw[<-d0_iget];exact inD_at H
 rw[show A.ix n.2.2.1 0=_ from A.ixn H,Qa,A.lt,hr.in f0];have Y: ∀y,(y=true↔(n.2.1=5\/n.2.1=9)/\iget (inD g d n.2.2.1) 0≠iget (inD g d n.2.2.1) 1)->∃v b,F.bS n (iget d (idx g k0)) y=some (v,b)/\((b=false/\depthOf n (inD g d n.2.2.1)<0)\/(b=true/\v=depthOf n (inD g d n.2.2.1)/\0<=v)):=λy hy=>by
  unfold F.bS depthOf Qhy;rw[Qb E,e0];by_cases I:y=true;have N:=hy.1 I;rw[Qc I];refine⟨0,false,rfl,.inl ⟨rfl,?_⟩⟩;rw[Qb (by omega),Qb (by omega),Qc N.1,Qc N.2];decide;have N: ¬((n.2.1=5\/n.2.1=9)/\iget (inD g d n.2.2.1) 0≠iget (inD g d n.2.2.1) 1):=λh=>I (hy.2 h);rw[Qb I];simp only[F.bQ,F.bR,A.ba];by_cases J:n.2.1=12;rw[Qc J,Qc J,A.gd1 ⟨by omega,by omega⟩];unfold capd;by_cases h4:4<iget d (idx g k0)+1;exact⟨_,_,rfl,.inl ⟨Q7 (by omega),by rw[Qc h4];decide⟩⟩;exact⟨_,_,rfl,.inr ⟨Qr (by omega),by rw[Qb h4],by omega⟩⟩;rw[Qb J,Qb J];by_cases L:n.2.1=13;rw[Qc L,Qc L,A.gd1 ⟨by omega,by omega⟩];unfold capd;rw[Qb (by omega)];by_cases h4:0<=iget d (idx g k0)-1;exact⟨_,_,rfl,.inr ⟨Qr (by omega),rfl,h4⟩⟩;exact⟨_,_,rfl,.inl ⟨Q7 (by omega),by omega⟩⟩;rw[Qb L,Qb L];have hz: ∀x:Int,n.2.1=11\/n.2.1=16\/n.2.1=15->∃v b,(some (iget d (idx g k0),decide (iget d (idx g k0)=0)):Option (Int×Bool))=some (v,b)/\((b=false/\capd (if n.2.1=5\/n.2.1=9 then if iget (inD g d n.2.2.1) 0≠iget (inD g d n.2.2.1) 1 then-1 else iget d (idx g k0)else if n.2.1=11\/n.2.1=16\/n.2.1=15 then if iget d (idx g k0)≠0 then-1 else iget d (idx g k0)else iget d (idx g k0))<0)\/(b=true/\v=capd (if n.2.1=5\/n.2.1=9 then if iget (inD g d n.2.2.1) 0≠iget (inD g d n.2.2.1) 1 then-1 else iget d (idx g k0)else if n.2.1=11\/n.2.1=16\/n.2.1=15 then if iget d (idx g k0)≠0 then-1 else iget d (idx g k0)else iget d (idx g k0))/\0<=v)):=λ_ hk=>by
   rw[Qb (by omega),Qc hk];by_cases h0:iget d (idx g k0)=0;rw[h0];exact⟨_,_,rfl,.inr ⟨rfl,rfl,Y7 _⟩⟩;rw[Qc h0];exact⟨_,_,rfl,.inl ⟨Q7 h0,by decide⟩⟩
  by_cases O:n.2.1=11;rw[Qc O];exact hz 0 (.inl O);rw[Qb O];by_cases Q:n.2.1=16;rw[Qc Q];exact hz 0 (.inr (.inl Q));rw[Qb Q];by_cases V:n.2.1=15;rw[Qc V];exact hz 0 (.inr (.inr V));rw[Qb V];refine⟨_,_,rfl,.inr ⟨Qr (by omega),?_,by omega⟩⟩;by_cases h5:n.2.1=5\/n.2.1=9;rw[Qc h5,Qb (λh=>N ⟨h5,h⟩)];unfold capd;rw[Qb (by omega)];rw[Qb h5,Qb (by omega)];unfold capd;rw[Qb (by omega)]
 by_cases N:(1:Int)<(n.2.2.1.length:Int);have h5:n.2.1=5\/n.2.1=9:=by omega
 obtain⟨k1,W⟩: ∃k1,n.2.2.1[1]?=some k1:=⟨_,Qg (by omega)⟩;have f1:=hf k1 (Qj W);rw[Qc N,show A.ix n.2.2.1 1=_ from A.ixn W,Qa,A.lt,hr.in f1];refine Y _ ?_;rw[Qs,show iget (inD g d n.2.2.1) 0=_ from inD_at H,show iget (inD g d n.2.2.1) 1=_ from inD_at W];exact⟨λh=>⟨h5,λe=>h e.symm⟩,λh e=>h.2 e.symm⟩;rw[Qb N];exact Y false ⟨λh=>(by cases h),λh=>by omega⟩
def relD_set {g:List Nd}(I:Inc g){d:List Int}{dm:List (Int×Int)}(h:RelD g d dm)(L:d.length=g.length){i:Nat}{n:Nd}(E:g[i]?=some n)(v:Int):RelD g (d.set i v) (Z.mins dm n.1 v):=λj q hq=>by
 rw[Uz];have N:=(Qd.1 E).1;by_cases e:q.1=n.1;have:=I.inj hq E e;subst this;rw[Qc e];unfold iget;rw[Qv,Yz (by omega)];rfl;rw[Qb e,h j q hq];have H:i≠j:=λJ=>e (by subst J;rw[E]at hq;injection hq with hq;rw[hq]);unfold iget;rw[Qv,List.getElem?_set_ne H]
def KeyD (g:List Nd)(l:List Int)(dm:List (Int×Int)):Prop:=∀id,Z.mhas dm id=l.any λp=>decide (idAt g p=id)
def Qfx (g:List Nd)(l:List Int)(hb:Few g)(Q:Inc g)(hfed:Fed g)(ho:Own g)(hl:l.length<=60)(hp:Plc g l): ∀(r k f:Nat) (d:List Int) (dm:List (Int×Int)),k+r=l.length->r<f->RelD g d dm->InB d->d.length=g.length->KeyD g (l.take k) dm->
  (∃d' dm',Qbc g (l.drop k) d=some d'/\F.t (mapOf g,l.map (idAt g),[]) f dm (k:Int)=A.mrg (F.a6 (mapOf g,l.map (idAt g),[]) dm') (some (true,(mapOf g,l.map (idAt g),dm'))) (mapOf g)/\RelD g d' dm'/\InB d'/\d'.length=g.length/\KeyD g l dm')\/
  (Qbc g (l.drop k) d=none/\∃p,F.t (mapOf g,l.map (idAt g),[]) f dm (k:Int)=some (false,p))
 |0,k,f,d,dm,hk,hf,J,L,N,O=>by
  obtain⟨f,rfl⟩: ∃f',f=f'+1:=⟨f-1,by omega⟩;left;rw[Q3 (by omega)]at O;refine⟨d,dm,by rw[Q6 (by omega)];rfl,?_,J,L,N,O⟩;rw[F.t,Qb (by simp only[Qw];omega)]
 |r+1,k,f,d,dm,hk,hf,J,L,N,O=>by
  obtain⟨f,rfl⟩: ∃f',f=f'+1:=⟨f-1,by omega⟩;have E:l[k]?=some l[k]:=Qg (by omega);generalize l[k]=x at E;obtain⟨q,n,rfl,H⟩:=hp k x E;have hng:=Qj H;have I:idAt g (q:Int)=n.1:=by unfold idAt;rw[Qbi rfl H]
  have e1:A.ix (l.map (idAt g)) (k:Int)=some n.1:=A.ixn (by rw[Qq,E,Wg,I]);obtain⟨v,b,V,W⟩:=out_eq g d (mapOf g,l.map (idAt g),dm) n J L (ho n hng) (hfed n hng);have eF:F.t (mapOf g,l.map (idAt g),[]) (f+1) dm (k:Int)=if(!b)=true then some (false,(mapOf g,l.map (idAt g),dm))else A.gd (Z.R64 ((k:Int)+1)) (F.t (mapOf g,l.map (idAt g),[]) f (Z.mins dm n.1 v) ((k:Int)+1)):=by
   rw[F.t,Qc (by simp only[Qw];omega)];simp only[e1,Qa,A.lt,Q.mget H];rw[show F.cF (mapOf g,l.map (idAt g),dm) n=_ from V,Qa]
  rw[A.dropx E,Qbc,Qbi rfl H,eF];rcases W with⟨rfl,Y⟩|⟨rfl,Y,h6⟩
  right;rw[Qc (show depthOf n (n.2.2.1.map λk=>iget d (idx g k))<0 from Y)];exact⟨rfl,_,Qc rfl⟩;subst Y;rw[Qb (show ¬depthOf n (n.2.2.1.map λk=>iget d (idx g k))<0 by simp only[inD]at h6;omega),Qb (by simp),A.gd1 (A.r64n (by omega)),Qv];have:=Qfx g l hb Q hfed ho hl hp r (k+1) f (d.set q (depthOf n (inD g d n.2.2.1))) (Z.mins dm n.1 (depthOf n (inD g d n.2.2.1))) (by omega) (by omega) (relD_set Q J N H _) (L.set q h6 (Qfz n _)) (by rw[Qgw];exact N) (λid=>by
   rw[Z.mhas_ins,Qbs E,List.any_append,O id,Yd,List.any_nil,Bool.or_false,I,Bool.or_comm];congr 1;exact decide_eq_decide.2 ⟨λh=>h.symm,λh=>h.symm⟩)
  exact this
def Qcx (g:List Nd)(d:List Int): ∀l,Qbo g d l= !(l.any λx=>decide (x.2.1=14/\iget d (idx g (iget x.2.2.1 0))≠x.2.2.2.2.2.2))
 | []=>rfl
 |x::r=>by
  unfold Qbo;rw[Yd];by_cases h:x.2.1=14/\iget d (idx g (iget x.2.2.1 0))≠x.2.2.2.2.2.2;rw[Qc h,Qr h];rfl;rw[Qb h,Q7 h,Xo];exact Qcx g d r
def Qjo (g:List Nd)(l:List Int)(O:Few g)(W:Inc g)(hfed:Fed g)(L:Own g)(Q:l.length<=60)(hp:Plc g l):
  (∃d dm,F.dQ g l=some (d,true)/\F.a8 (mapOf g,l.map (idAt g),[])=some (true,(mapOf g,l.map (idAt g),dm))/\RelD g d dm/\InB d/\d.length=g.length/\KeyD g l dm/\Qbo g d g=true/\Qbc g l (List.replicate g.length 0)=some d)\/
  (F.dQ g l=some ([],false)/\∃p,F.a8 (mapOf g,l.map (idAt g),[])=some (false,p)):=by
 have Y:RelD g (List.replicate g.length 0) []:=λi n N=>by
  unfold iget;rw[Qv,Yg];split<;>rfl
 rw[depths_l4 g l O hfed L Q hp];unfold F.a8 depths;rcases Qfx g l O W hfed L Q hp l.length 0 A.FU (List.replicate g.length 0) [] (by omega) (by have:=Qab;omega) Y (InB.rep _) (by simp) (λid=>by simp[Z.mhas])with⟨d,dm,I,H,V,h4,h5,h6⟩|⟨I,p,H⟩
 rw[W6]at I;rw[I];simp only[];have hm:A.mrg (F.a6 (mapOf g,l.map (idAt g),[]) dm) (some (true,(mapOf g,l.map (idAt g),dm))) (mapOf g)=if(mapOf g).any (λp=>decide (p.2.2.1=14/\iget d (idx g (iget p.2.2.2.1 0))≠p.2.2.2.2.2.2.2))=true then some (false,(mapOf g,l.map (idAt g),dm))else some (true,(mapOf g,l.map (idAt g),dm)):=by
  refine A.mrg_any λp hp=>?_;obtain⟨n,N,rfl⟩:=Wr.1 hp;unfold F.a6 F.bC;by_cases E:n.2.1=14;have hl1:n.2.2.1.length=1:=by rcases own_len (L n N)with H|H|H<;>omega
  have J:n.2.2.1[0]?=some (iget n.2.2.1 0):=iget_nat (i:=0) (by omega);have f0:=hfed n N _ (Qj J);rw[Qc E,show A.ix n.2.2.1 0=_ from A.ixn J,Qa,A.lt,V.in f0];by_cases e:iget d (idx g (iget n.2.2.1 0))≠n.2.2.2.2.2.2;rw[Qr e,Qc rfl,Qr (And.intro E e),Qc rfl];rw[Q7 e,Qb Q5,Q7 (λh=>e h.2),Qb Q5];rw[Qb E,Qb Q5,Q7 (λh=>E h.1),Qb Q5]
 have hany:(mapOf g).any (λp=>decide (p.2.2.1=14/\iget d (idx g (iget p.2.2.2.1 0))≠p.2.2.2.2.2.2.2))=g.any λx=>decide (x.2.1=14/\iget d (idx g (iget x.2.2.1 0))≠x.2.2.2.2.2.2):=by
  unfold mapOf;rw[List.any_map];rfl
 have h2':F.t (mapOf g,l.map (idAt g),[]) A.FU [] 0=_:=H.trans hm;rw[h2',hany,Qcx];cases hc:g.any λx=>decide (x.2.1=14/\iget d (idx g (iget x.2.2.1 0))≠x.2.2.2.2.2.2)with
 |true=>right;exact⟨rfl,_,rfl⟩
 |false=>left;exact⟨d,dm,rfl,rfl,V,h4,h5,h6,by rw[Qcx,hc];rfl,rfl⟩
 rw[W6]at I;rw[I];right;exact⟨rfl,p,H⟩
def Qdn (g:List Nd)(d:List Int)(id:Int): ∀(k:Nat) (l:List Int),(insS g d id k l).length=l.length
 |_,[]=>rfl
 |k,x::r=>by unfold insS;rw[Qe,Qe,Qdn g d id (k+1) r]
def Qha (n:Nd)(v:Int):(outS n v).length<=1:=by unfold outS;split<;>simp
def in2 {g:List Nd}(E:Own g){n:Nd}(H:n∈g):n.2.2.1.length<=2:=by rcases own_len (E n H)with h|h|h<;>omega
def spots_l2P (g:List Nd)(d:List Int)(a0:(List (Int×Nd))×(List Int)×(List (Int×Int)))(E:List Sp->Int->Option (List Sp))(y:Nat)(x:Nd)(xs:List Sp)(H:RelD g d a0.2.2)(J:g[y]?=some x)(V:x.2.2.1.length<=2)(L: ∀k∈x.2.2.1,0<=idx g k)(N:xs.length<=1000)(W:y<=100):
  F.ax E a0 (y:Int) x A.FU xs 0=E (xs++(insS g d x.1 0 x.2.2.1++outS x (iget d (y:Int)))) ((y:Int)+1):=
 A.lp x.2.2.1 (λf (s:List Sp) i=>F.ax E a0 (y:Int) x f s i) (λk t s=>E (s++(insS g d x.1 k t++outS x (iget d (y:Int)))) ((y:Int)+1)) (λk s=>s.length<=1000+k)
  (λf s hs=>by
   rw[F.ax,Qb (by omega),insS,Wl,outS,A.lt,H y x J];simp only[F.bZ,A.gd1 (A.r64n (n:=y) (by omega))];by_cases h:x.2.1≠15;rw[Qc h,Qc h,A.gd1 (by simp only[Qe,Ql];omega)];rw[Qb h,Qb h,Wh])
  (λf s k z I hk hs O=>by
   have Q:=L z (Qj I);rw[F.ax,Qc (by omega),A.ixn I,Qa,A.lt,H.in Q,A.gd1 (by simp only[Qe,Ql];omega),A.gd1 (A.r64n (by omega)),O _ (by simp only[Qm,Qe,Ql];omega),insS];simp only[Q0,X2,Xf,Wl])
  (by have:=Qab;omega) xs (by omega)
def spotsP_eq (g:List Nd)(d:List Int)(a0:(List (Int×Nd))×(List Int)×(List (Int×Int)))(I:Few g)(hfed:Fed g)(J:Own g)(L:RelD g d a0.2.2):F.b3 a0 g=some (spots g d):=by
 have hlen:=I.1;have loop:=A.lp g (λf (s:List Sp) i=>F.al a0 g f s i) (λk t s=>some (s++spotsF g d k t)) (λk s=>s.length<=3*k)
  (λf s hs=>by rw[F.al,Qb (by omega),spotsF,Wh])
  (λf s k x H hk hs N=>by
   have E:=Qj H;have O:=in2 J E;have Q:=Qha x (iget d (k:Int));rw[F.al,Qc (by omega),A.ixn H,Qa,spots_l2P g d a0 _ k x s L H O (hfed x E) (by omega) (by omega),N _ (by rw[Qm,Qm,Qdn];omega),spotsF];simp only[Q0])
  (by have:=Qab;omega) [] (by simp)
 unfold F.b3;rw[loop];rfl
def spots_l2R (g:List Nd)(d:List Int)(E:List Sp->Int->Option (List Sp))(y:Nat)(x:Nd)(xs:List Sp)(I:g.length<=100)(W:d.length=g.length)(J:g[y]?=some x)(Y:x.2.2.1.length<=2)(L: ∀k∈x.2.2.1,0<=idx g k)(N:xs.length<=1000)(hy:y<=100):
  F.ck E g d (y:Int) x A.FU xs 0=E (xs++(insS g d x.1 0 x.2.2.1++outS x (iget d (y:Int)))) ((y:Int)+1):=
 A.lp x.2.2.1 (λf (s:List Sp) i=>F.ck E g d (y:Int) x f s i) (λk t s=>E (s++(insS g d x.1 k t++outS x (iget d (y:Int)))) ((y:Int)+1)) (λk s=>s.length<=1000+k)
  (λf s hs=>by
   have O:=(Qd.1 J).1;rw[F.ck,Qb (by omega),insS,Wl,outS];simp only[F.ex,A.gd1 (A.r64n (n:=y) (by omega))];by_cases h:x.2.1≠15;rw[Qc h,Qc h,iix (by omega) (by omega),Qa,A.gd1 (by simp only[Qe,Ql];omega)];rw[Qb h,Qb h,Wh])
  (λf s k z H hk hs Q=>by
   have V:=L z (Qj H);have h2:=(idx_le g z).2;rw[F.ck,Qc (by omega),A.ixn H,Qa,Qbg g z I,Qa,iix V (by omega),Qa,A.gd1 (by simp only[Qe,Ql];omega),A.gd1 (A.r64n (by omega)),Q _ (by simp only[Qm,Qe,Ql];omega),insS];simp only[Q0,X2,Xf,Wl])
  (by have:=Qab;omega) xs (by omega)
def spotsR_eq (g:List Nd)(d:List Int)(I:Few g)(hfed:Fed g)(J:Own g)(L:d.length=g.length):F.fU g d=some (spots g d):=by
 have hlen:=I.1;have loop:=A.lp g (λf (s:List Sp) i=>F.bN g d f s i) (λk t s=>some (s++spotsF g d k t)) (λk s=>s.length<=3*k)
  (λf s hs=>by rw[F.bN,A.ba,Qb (by simp),spotsF,Wh])
  (λf s k x H hk hs N=>by
   have E:=Qj H;have O:=in2 J E;have Q:=Qha x (iget d (k:Int));rw[F.bN,A.ba,Qc (by simp only[Qs];omega),A.ixn H,Qa,spots_l2R g d _ k x s (by omega) L H O (hfed x E) (by omega) (by omega),N _ (by rw[Qm,Qm,Qdn];omega),spotsF];simp only[Q0])
  (by have:=Qab;omega) [] (by simp)
 unfold F.fU;rw[loop];rfl
abbrev Ed:=Pl×Pl×Sm
def five {P:Int->Prop}(E:P 0)(H:P 1)(I:P 2)(J:P 3)(L:P 4)(d:Int)(N:0<=d/\d<=4):P d:=by
 have:d=0\/d=1\/d=2\/d=3\/d=4:=by omega
 rcases this with rfl|rfl|rfl|rfl|rfl<;>assumption
def Id_eqP (d:Int)(E:0<=d/\d<=4):F.f2 d=some (idP d):=five (P:=λd=>F.f2 d=some (idP d)) (by kernel_rfl) (by kernel_rfl) (by kernel_rfl) (by kernel_rfl) (by kernel_rfl) d E
def Enter_eqP (d:Int)(E:0<=d/\d<=4):F.fx d=some (Qjl d):=five (P:=λd=>F.fx d=some (Qjl d)) (by kernel_rfl) (by kernel_rfl) (by kernel_rfl) (by kernel_rfl) (by kernel_rfl) d E
def Leave_eqP (d:Int)(E:0<=d/\d<=4):F.fy d=some (Qji d):=five (P:=λd=>F.fy d=some (Qji d)) (by kernel_rfl) (by kernel_rfl) (by kernel_rfl) (by kernel_rfl) (by kernel_rfl) d E
def Next_eqP (d:Int)(E:0<=d/\d<=4):F.fP d=some (nextP d):=five (P:=λd=>F.fP d=some (nextP d)) (by kernel_rfl) (by kernel_rfl) (by kernel_rfl) (by kernel_rfl) (by kernel_rfl) d E
def Id_eqR (d:Int)(E:0<=d/\d<=4):F.gw d=some (idP d):=five (P:=λd=>F.gw d=some (idP d)) (by kernel_rfl) (by kernel_rfl) (by kernel_rfl) (by kernel_rfl) (by kernel_rfl) d E
def Enter_eqR (d:Int)(E:0<=d/\d<=4):F.fV d=some (Qjl d):=five (P:=λd=>F.fV d=some (Qjl d)) (by kernel_rfl) (by kernel_rfl) (by kernel_rfl) (by kernel_rfl) (by kernel_rfl) d E
def Leave_eqR (d:Int)(E:0<=d/\d<=4):F.fW d=some (Qji d):=five (P:=λd=>F.fW d=some (Qji d)) (by kernel_rfl) (by kernel_rfl) (by kernel_rfl) (by kernel_rfl) (by kernel_rfl) d E
def Next_eqR (d:Int)(E:0<=d/\d<=4):F.gf d=some (nextP d):=five (P:=λd=>F.gf d=some (nextP d)) (by kernel_rfl) (by kernel_rfl) (by kernel_rfl) (by kernel_rfl) (by kernel_rfl) d E
def within_eqP (n:Nd)(d:Int)(E:0<=d/\d<=4):F.dk n d=some (Qde n d):=by
 unfold F.dk Qde;simp only[Id_eqP d E,Enter_eqP d E,Leave_eqP d E,Next_eqP d E,Qa,F.bD];repeat' split
 all_goals rfl
def within_eqR (n:Nd)(d:Int)(E:0<=d/\d<=4):F.eU n d=some (Qde n d):=by
 unfold F.eU Qde;simp only[Id_eqR d E,Enter_eqR d E,Leave_eqR d E,Next_eqR d E,Qa,F.cs];repeat' split
 all_goals rfl
def useN (id nd:Int):Nat->List Int->List Pl
 |_,[]=>[]
 |k,z::r=>if z=id then(nd,(k:Int))::useN id nd (k+1) r else useN id nd (k+1) r
def Qbm (id:Int):List Nd->List Pl
 | []=>[]
 |n::r=>useN id n.1 0 n.2.2.1++Qbm id r
def Qdq (id nd:Int): ∀(k:Nat) (l:List Int),(useN id nd k l).length<=l.length
 |_,[]=>Qt 0
 |k,z::r=>by
  unfold useN;have:=Qdq id nd (k+1) r;split<;>simp only[Qe]<;>omega
def Qbr (id:Int): ∀(l:List Nd),(∀n∈l,n.2.2.1.length<=2)->(Qbm id l).length<=2*l.length
 | [],_=>Qt 0
 |n::r,h=>by
  unfold Qbm;have H:=Qbr id r λx E=>h x (Qf _ E);have I:=Qdq id n.1 0 n.2.2.1;have J:=h n (Qi ..);rw[Qm,Qe];omega
def Values_eq (g:List Nd)(I:g.length<=100):F.ap g=some g:=
 A.lp0 g (λf y=>F.f g f y) (λ_ l=>some l)
  (λf=>by rw[F.f,Qb (by omega)])
  (λf k x E hk H=>by rw[F.f,Qc (by omega),A.ixn E,Qa,A.gd1 (A.r64n (by omega)),H];rfl)
  (by have:=Qab;omega)
def users_l2 (id:Int)(n:Nd)(E:List Pl->Option (List Pl))(xs:List Pl)(L:n.2.2.1.length<=2)(I:xs.length<=1000):F.aM E id n A.FU xs 0=E (xs++useN id n.1 0 n.2.2.1):=
 A.lp n.2.2.1 (λf (s:List Pl) i=>F.aM E id n f s i) (λk t s=>E (s++useN id n.1 k t)) (λk s=>s.length<=1000+k)
  (λf s hs=>by rw[F.aM,Qb (by omega),useN,Wh])
  (λf s k z J hk hs H=>by
   rw[F.aM,Qc (by omega),A.ixn J,Qa,useN];simp only[F.dl,A.gd1 (A.r64n (n:=k) (by omega))];by_cases h:z=id;rw[Qc h,Qc h,A.gd1 (by simp only[Qe,Ql];omega),H _ (by simp only[Qm,Qe,Ql];omega)];simp only[Q0,X2,Xf,Wl];rw[Qb h,Qb h,H _ (by omega)])
  (by have:=Qab;omega) xs (by omega)
def users_l3 (id:Int): ∀(l:List Nd) (xs:List Pl),(∀n∈l,n.2.2.1.length<=2)->xs.length+2*l.length<=900->F.aN id l xs=some (xs++Qbm id l)
 | [],xs,_,_=>by rw[F.aN,Qbm,Wh]
 |n::r,xs,h,E=>by
  have H:=h n (Qi ..);have I:=Qdq id n.1 0 n.2.2.1;rw[Qe]at E;rw[F.aN,users_l2 id n _ xs H (by omega),users_l3 id r _ (λx E=>h x (Qf _ E)) (by rw[Qm];omega),Qbm,Q0]
def users_eq (g:List Nd)(id:Int)(E:Few g)(H: ∀n∈g,n.2.2.1.length<=2):F.eY g id=some (Qbm id g):=by
 have:=E.1;unfold F.eY F.aK;rw[Qa,Values_eq g (by omega),Qa,users_l3 id g [] H (by simp;omega)];rfl
def inE (g:List Nd)(d:List Int)(n:Nd):Nat->List Int->List Ed
 |_,[]=>[]
 |k,z::r=>((n.1,(k:Int)),(n.1,2),Qde n (iget d (idx g z)))::inE g d n (k+1) r
def outE (g:List Nd)(n:Nd)(v:Int):List Ed:=(Qbm n.1 g).map λu=>((n.1,2),u,(idP v).1)
def Qbd (g:List Nd)(d:List Int):Nat->List Nd->List Ed
 |_,[]=>[]
 |i,n::r=>if n.2.1=15 then Qbd g d (i+1) r else inE g d n 0 n.2.2.1++(outE g n (iget d (i:Int))++Qbd g d (i+1) r)
def Qah (g:List Nd)(d:List Int):List Ed:=Qbd g d 0 g
def Qkg (g:List Nd)(d:List Int)(n:Nd): ∀(k:Nat) (l:List Int),(inE g d n k l).length=l.length
 |_,[]=>rfl
 |k,x::r=>by unfold inE;rw[Qe,Qe,Qkg g d n (k+1) r]
def edges_l2P (k30:List Ed->Int->Option (List Ed))(y:Nat)(n:Nd)(s:Sm)(us:List Pl)(xs:List Ed)(L:y<=100)(N:us.length<=1000)(E:xs.length<=10000):
  F.ak k30 (y:Int) n s.1 s.2.1 s.2.2.1 s.2.2.2.1 s.2.2.2.2.1 s.2.2.2.2.2.1 s.2.2.2.2.2.2.1 s.2.2.2.2.2.2.2 us A.FU xs 0=k30 (xs++us.map λu=>((n.1,2),u,s)) ((y:Int)+1):=
 A.lp us (λf (t:List Ed) i=>F.ak k30 (y:Int) n s.1 s.2.1 s.2.2.1 s.2.2.2.1 s.2.2.2.2.1 s.2.2.2.2.2.1 s.2.2.2.2.2.2.1 s.2.2.2.2.2.2.2 us f t i) (λk t e=>k30 (e++t.map λu=>((n.1,2),u,s)) ((y:Int)+1)) (λk t=>t.length<=10000+k)
  (λf t H=>by rw[F.ak,Qb (by omega),F.bc,A.gd1 (A.r64n (by omega)),Xk,Wh])
  (λf t k z I hk H J=>by
   rw[F.ak,Qc (by omega),A.ixn I,Qa,A.gd1 (by simp only[Qe,Ql];omega),A.gd1 (A.r64n (by omega)),J _ (by simp only[Qm,Qe,Ql];omega)];simp only[Q0,X2,Xf,Wl,Q1])
  (by have:=Qab;omega) xs (by omega)
def edges_l4P (g:List Nd)(d:List Int)(a0:(List (Int×Nd))×(List Int)×(List (Int×Int)))(k30:List Ed->Int->Option (List Ed))(y:Nat)(n:Nd)(xs:List Ed)(L:Few g)(E:Own g)(H:InB d)(N:RelD g d a0.2.2)(I:g[y]?=some n)(Q: ∀k∈n.2.2.1,0<=idx g k)(V:xs.length<=9000):
  F.aw k30 a0 g (y:Int) n A.FU xs 0=k30 (xs++(inE g d n 0 n.2.2.1++outE g n (iget d (y:Int)))) ((y:Int)+1):=
 A.lp n.2.2.1 (λf (t:List Ed) i=>F.aw k30 a0 g (y:Int) n f t i) (λk t e=>k30 (e++(inE g d n k t++outE g n (iget d (y:Int)))) ((y:Int)+1)) (λk t=>t.length<=9000+k)
  (λf t W=>by
   have hlen:=L.1;have Y:=(Qd.1 I).1;have h2:=in2 E (Qj I);have hu:=Qbr n.1 g λx J=>in2 E J;rw[F.aw,Qb (by omega),A.lt,N y n I,Id_eqP _ (H _),Qa,F.cU,users_eq g n.1 L (λx J=>in2 E J),Qa,
    show F.ak k30 (y:Int) n _ _ _ _ _ _ _ _ (Qbm n.1 g) A.FU t 0=_ from edges_l2P k30 y n (idP (iget d (y:Int))).1 (Qbm n.1 g) t (by omega) (by omega) (by omega),inE,Wl]
   rfl)
  (λf t k z O hk W ih=>by
   have h1:=Q z (Qj O);have h2:=in2 E (Qj I);rw[F.aw,Qc (by omega),A.ixn O,Qa,A.lt,N.in h1,show F.dk n _=_ from within_eqP n _ (H _),Qa,A.gd1 (by simp only[Qe,Ql];omega),A.gd1 (A.r64n (by omega)),ih _ (by simp only[Qm,Qe,Ql];omega),inE];simp only[Q0,X2,Xf,Wl])
  (by have:=Qab;have:=in2 E (Qj I);omega) xs (by omega)
def edgesP_eq (g:List Nd)(d:List Int)(a0:(List (Int×Nd))×(List Int)×(List (Int×Int)))(L:Few g)(hfed:Fed g)(I:Own g)(J:InB d)(O:RelD g d a0.2.2):F.br a0 g=some (Qah g d):=by
 have hlen:=L.1;have loop:=A.lp g (λf (s:List Ed) i=>F.q a0 g f s i) (λk t s=>some (s++Qbd g d k t)) (λk s=>s.length<=83*k)
  (λf s hs=>by rw[F.q,Qb (by omega),Qbd,Wh])
  (λf s k x E hk hs N=>by
   have H:=Qj E;have Q:=in2 I H;have V:=Qbr x.1 g λx E=>in2 I E;rw[F.q,Qc (by omega),A.ixn E,Qa,Qbd];by_cases h:x.2.1=15;rw[Qc h,Qc h,F.bc,A.gd1 (A.r64n (by omega)),N _ (by omega)];rw[Qb h,Qb h,edges_l4P g d a0 _ k x s L I J O E (hfed x H) (by omega),N _ (by rw[Qm,Qm,Qkg,outE,Qw];omega)];simp only[Q0])
  (by have:=Qab;omega) [] (by simp)
 unfold F.br;rw[loop];rfl
def Find_eq (g:List Nd)(H:Few g){j:Nat}{n:Nd}(I:Inc g)(E:g[j]?=some n):F.cQ g n.1=some (n,true):=by
 have:=H.1;have J:=H.in E;unfold F.cQ;rw[Qbg g _ (by omega),Qa,I.idx E,Qb (by omega),A.ixn E,Qa,A.gd1 (by simp only[Ql];omega)];rfl
def edges_l4R (g:List Nd)(k37:List Ed->Int->Option (List Ed))(sp:Sp)(r18:Nd×Bool)(r59:Sm×Int)(j:Nat)(m:Nd)(xs:List Ed)(O:g.length<=100)(E:g[j]?=some m)(Q:m.2.2.1.length<=2)(I:xs.length<=20000):
  F.bh k37 g sp r18 r59 (j:Int) A.FU xs 0=k37 (xs++(useN r18.1.1 m.1 0 m.2.2.1).map λu=>(sp.1,u,r59.1)) ((j:Int)+1):=
 A.lp m.2.2.1 (λf (t:List Ed) i=>F.bh k37 g sp r18 r59 (j:Int) f t i) (λk t e=>k37 (e++(useN r18.1.1 m.1 k t).map λu=>(sp.1,u,r59.1)) ((j:Int)+1)) (λk t=>t.length<=20000+k)
  (λf t J=>by
   have L:=(Qd.1 E).1;rw[F.bh,A.ixn E,Qa,Qb (by omega),A.gd1 (A.r64n (by omega)),useN,Xk,Wh])
  (λf t k z N hk J H=>by
   rw[F.bh,A.ixn E,Qa,Qc (by omega),Qa,A.ixn N,Qa,useN];simp only[F.ez,A.gd1 (A.r64n (n:=k) (by omega)),Qa];by_cases h:z=r18.1.1;rw[Qc h,Qc h,A.gd1 (by simp only[Qe,Ql];omega),H _ (by simp only[Qm,Qe,Ql];omega)];simp only[Q0,X2,Xf,Wl,Q1];rw[Qb h,Qb h,H _ (by omega)])
  (by have:=Qab;omega) xs (by omega)
def edges_l5R (g:List Nd)(k30:List Ed->Int->Option (List Ed))(y:Nat)(sp:Sp)(r18:Nd×Bool)(r59:Sm×Int)(xs:List Ed)(E:Few g)(I:Own g)(J:xs.length<=15000)(Q:y<=1000):
  F.bi k30 g (y:Int) sp r18 r59 A.FU xs 0=k30 (xs++(Qbm r18.1.1 g).map λu=>(sp.1,u,r59.1)) ((y:Int)+1):=
 A.lp g (λf (t:List Ed) i=>F.bi k30 g (y:Int) sp r18 r59 f t i) (λk t e=>k30 (e++(Qbm r18.1.1 t).map λu=>(sp.1,u,r59.1)) ((y:Int)+1)) (λk t=>t.length<=15000+2*k)
  (λf t L=>by rw[F.bi,Qb (by omega),F.dD,A.gd1 (A.r64n (by omega)),Qbm,Xk,Wh])
  (λf t k m H hk L N=>by
   have hlen:=E.1;have O:=in2 I (Qj H);have V:=Qdq r18.1.1 m.1 0 m.2.2.1;rw[F.bi,Qc (by omega),edges_l4R g _ sp r18 r59 k m t (by omega) H O (by omega),N _ (by rw[Qm,Qw];omega),Qbm,Xm,Q0])
  (by have:=Qab;have:=E.1;omega) xs (by omega)
def edOf (g:List Nd)(sp:Sp):List Ed:=if sp.1.2≠2 then(if(find g sp.1.1).1.2.1≠15 then [(sp.1,((find g sp.1.1).1.1,2),Qde (find g sp.1.1).1 sp.2)]else [])else(Qbm (find g sp.1.1).1.1 g).map λu=>(sp.1,u,(idP sp.2).1)
def edS (g:List Nd):List Sp->List Ed
 | []=>[]
 |sp::r=>edOf g sp++edS g r
def SpOk (g:List Nd)(sp:Sp):Prop:=(∃(j:Nat) (n:Nd),g[j]?=some n/\n.1=sp.1.1)/\0<=sp.2/\sp.2<=4
def Qew {g:List Nd}(H:Inc g){j:Nat}{n:Nd}(E:g[j]?=some n):find g n.1=(n,true):=by
 unfold find;rw[H.idx E,Qb (by omega),Qbi rfl E]
def edgesR_l6 (g:List Nd)(l:List Sp)(L:Few g)(O:Inc g)(Q:Own g)(Y:l.length<=130)(hs: ∀sp∈l,SpOk g sp):F.fq g l=some (edS g l):=by
 have hlen:=L.1;have loop:=A.lp l (λf (s:List Ed) i=>F.au g l f s i) (λk t s=>some (s++edS g t)) (λk s=>s.length<=83*k)
  (λf s hs=>by rw[F.au,Qb (by omega),edS,Wh])
  (λf s k x I hk hp N=>by
   obtain⟨⟨j,n,V,H⟩,W⟩:=hs x (Qj I);have hu:=Qbr n.1 g λx I=>in2 Q I;rw[F.au,Qc (by omega),A.ixn I,Qa,<-H,Find_eq g L O V,Qa,edS,edOf,<-H,Qew O V];simp only[F.ey,F.dD,A.gd1 (A.r64n (n:=k) (by omega)),Qa];by_cases J:x.1.2≠2;rw[Qc J,Qc J];by_cases E:n.2.1≠15;rw[Qc E,Qc E,show F.eU n x.2=_ from within_eqR n x.2 W,Qa,A.gd1 (by simp only[Qe,Ql];omega),N _ (by simp only[Qm,Qe,Ql];omega),H];simp only[Q0];rw[Qb E,Qb E,N _ (by omega),Wl];rw[Qb J,Qb J,Id_eqR x.2 W,Qa,edges_l5R g _ k x (n,true) (idP x.2) s L Q (by omega) (by omega),N _ (by rw[Qm,Qw];show s.length+(Qbm n.1 g).length<=_;omega),Q0])
  (by have:=Qab;omega) [] (by simp)
 unfold F.fq;rw[loop];rfl
def Qki (g:List Nd): ∀(a b:List Sp),edS g (a++b)=edS g a++edS g b
 | [],_=>rfl
 |x::a,b=>by rw[Xf,edS,edS,Qki g a b,Q0]
def edS_ins {g:List Nd}(H:Inc g)(d:List Int){j:Nat}{n:Nd}(I:g[j]?=some n): ∀(k:Nat) (l:List Int),k+l.length<=2->edS g (insS g d n.1 k l)=if n.2.1=15 then []else inE g d n k l
 |k,[],_=>by unfold insS inE edS;split<;>rfl
 |k,z::r,h=>by
  rw[Qe]at h;have J:((k:Int):Int)≠2:=by omega
  unfold insS inE;rw[edS,edS_ins H d I (k+1) r (by omega),edOf];simp only[Qew H I];rw[Qc J];by_cases E:n.2.1=15;simp[E];rw[Qb E,Qb E,Qc E];rfl
def Qit {g:List Nd}(I:Inc g)(J:Own g)(d:List Int): ∀(m k:Nat),k+m=g.length->edS g (spotsF g d k (g.drop k))=Qbd g d k (g.drop k)
 |0,k,h=>by rw[Q6 (by omega)];rfl
 |m+1,k,h=>by
  have H:g[k]?=some g[k]:=Qg (by omega);generalize g[k]=x at H;have L:=in2 J (Qj H);rw[A.dropx H,spotsF,Qbd,Qki,Qki,Qit I J d m (k+1) (by omega),edS_ins I d H 0 _ (by omega)];by_cases E:x.2.1=15;rw[Qc E,Qc E,outS,Qb (λh=>h E),edS];rfl;rw[Qb E,Qb E,outS,Qc E,edS,edOf];simp only[Qew I H];rw[Qb (λh=>h rfl),edS,Wh];rfl
def o_cw {g:List Nd}{d:List Int}(E:InB d){j:Nat}{n:Nd}(H:g[j]?=some n): ∀(k:Nat) (l:List Int),∀sp∈insS g d n.1 k l,SpOk g sp
 |_,[],sp,h=>by cases h
 |k,z::r,sp,h=>by
  unfold insS at h;rcases Qk.1 h with rfl|h
  exact⟨⟨j,n,H,rfl⟩,E _⟩;exact o_cw E H (k+1) r sp h
def o_bf {g:List Nd}{d:List Int}(E:InB d): ∀(m k:Nat),k+m=g.length->∀sp∈spotsF g d k (g.drop k),SpOk g sp
 |0,k,h,sp,hs=>by rw[Q6 (by omega)]at hs;cases hs
 |m+1,k,h,sp,hs=>by
  have H:g[k]?=some g[k]:=Qg (by omega);generalize g[k]=x at H;rw[A.dropx H,spotsF]at hs;rcases Q2.1 hs with hs|hs
  exact o_cw E H 0 _ sp hs;rcases Q2.1 hs with hs|hs
  unfold outS at hs;split at hs;rw[Qn]at hs;subst hs;exact⟨⟨k,x,H,rfl⟩,E _⟩;cases hs;exact o_bf E m (k+1) (by omega) sp hs
def Qec {g:List Nd}(H:Own g)(d:List Int): ∀(m k:Nat),k+m=g.length->(spotsF g d k (g.drop k)).length<=3*m
 |0,k,h=>by rw[Q6 (by omega)];exact Qt 0
 |m+1,k,h=>by
  have E:g[k]?=some g[k]:=Qg (by omega);generalize g[k]=x at E;have I:=in2 H (Qj E);have J:=Qha x (iget d (k:Int));have L:=Qec H d m (k+1) (by omega);rw[A.dropx E,spotsF,Qm,Qm,Qdn];omega
def edgesR_eq (g:List Nd)(d:List Int)(I:Few g)(J:Inc g)(E:Own g)(H:InB d):F.fq g (spots g d)=some (Qah g d):=by
 have O:=Qec E d g.length 0 (by omega);have L:=o_bf (d:=d) (g:=g) H g.length 0 (by omega);have N:=Qit J E d g.length 0 (by omega);rw[W6]at O L N;have:=I.1;rw[edgesR_l6 g (spots g d) I J E (by unfold spots;omega) L];exact Wn some N
inductive Rch {α:Type} (R:α->α->Prop) (a:α):α->Prop
 |one {b:α} (h:R a b):Rch R a b
 |step {b c:α} (h:Rch R a b) (h2:R b c):Rch R a c
def Qeo (g:List Nd)(d:List Int)(id:Int): ∀(k:Nat) (l:List Int) (p:Pl) (v:Int),(p,v)∈insS g d id k l->p.1=id/\(k:Int)<=p.2/\p.2<(k:Int)+l.length
 |_,[],_,_,h=>by cases h
 |k,z::r,p,v,h=>by
  unfold insS at h;rw[Qe];rcases Qk.1 h with h|h
  injection h with E H;subst E;refine⟨rfl,Y7 _,?_⟩;simp only[];omega
  have:=Qeo g d id (k+1) r p v h;omega
def Qgc (g:List Nd)(d:List Int)(id:Int): ∀(k:Nat) (l:List Int),((insS g d id k l).map (·.1)).Nodup
 |_,[]=>X5
 |k,z::r=>by
  unfold insS;rw[Q1,Wm];refine⟨λh=>?_,Qgc g d id (k+1) r⟩;obtain⟨⟨p,v⟩,H,E⟩:=Wr.1 h;have:=Qeo g d id (k+1) r p v H;simp only[]at E;rw[E]at this;simp only[]at this;omega
def Qgb {g:List Nd}(d:List Int): ∀(k:Nat) (l:List Nd) (sp:Sp),sp∈spotsF g d k l->∃n∈l,n.1=sp.1.1
 |_,[],_,h=>by cases h
 |k,n::r,sp,h=>by
  unfold spotsF at h;rcases Q2.1 h with h|h
  exact⟨n,Qi ..,(Qeo g d n.1 0 _ sp.1 sp.2 h).1.symm⟩;rcases Q2.1 h with h|h
  unfold outS at h;split at h;rw[Qn]at h;subst h;exact⟨n,Qi ..,rfl⟩;cases h;obtain⟨m,E,H⟩:=Qgb d (k+1) r sp h;exact⟨m,Qf _ E,H⟩
def Qdj {g:List Nd}(d:List Int): ∀(k:Nat) (l:List Nd),l.Pairwise (λa b=>a.1<b.1)->(∀n∈l,n.2.2.1.length<=2)->((spotsF g d k l).map (·.1)).Nodup
 |_,[],_,_=>X5
 |k,n::r,hp,O=>by
  rw[Qu]at hp;have V:=O n (Qi ..);unfold spotsF;rw[Xm,W9,Xm,W9];have hrest: ∀p∈(spotsF g d (k+1) r).map (·.1),p.1≠n.1:=λp E e=>by
   obtain⟨sp,J,rfl⟩:=Wr.1 E;obtain⟨m,H,W⟩:=Qgb d (k+1) r sp J;have:=hp.1 m H;omega
  have hout: ∀p∈(outS n (iget d (k:Int))).map (·.1),p=(n.1,2):=λp E=>by
   unfold outS at E;split at E;simpa using E;cases E
  have L: ∀p∈(insS g d n.1 0 n.2.2.1).map (·.1),p.1=n.1/\p.2<2:=λp E=>by
   obtain⟨⟨q,v⟩,J,rfl⟩:=Wr.1 E;have:=Qeo g d n.1 0 _ q v J;simp only[];omega
  refine⟨Qgc g d n.1 0 _,⟨?_,Qdj d (k+1) r hp.2 (λx Q=>O x (Qf _ Q)),?_⟩,?_⟩;unfold outS;split<;>simp;intro a N b I e;have H:=hout a N;subst e;exact hrest a I (by rw[H]);intro a N b I e;subst e;have H:=L a N;rcases Q2.1 I with I|I
  have:=hout a I;rw[this]at H;simp only[]at H;omega;exact hrest a I H.1
def useN_mem (id nd:Int): ∀(k:Nat) (l:List Int) (u:Pl),u∈useN id nd k l->u.1=nd/\∃j:Nat,u.2=(k:Int)+j/\j<l.length
 |_,[],u,h=>by cases h
 |k,z::r,u,h=>by
  unfold useN at h;have hrec:u∈useN id nd (k+1) r->u.1=nd/\∃j:Nat,u.2=(k:Int)+j/\j<(z::r).length:=λh=>by
   obtain⟨E,j,H,I⟩:=useN_mem id nd (k+1) r u h;exact⟨E,j+1,by omega,by rw[Qe];omega⟩
  split at h;rcases Qk.1 h with rfl|h
  exact⟨rfl,0,by simp,by rw[Qe];omega⟩;exact hrec h;exact hrec h
def insS_get (g:List Nd)(d:List Int)(id:Int): ∀(k:Nat) (l:List Int) (j:Nat),j<l.length->∃v,((id,(k:Int)+j),v)∈insS g d id k l
 |_,[],j,h=>by simp at h
 |k,z::r,j,h=>by
  unfold insS;cases j with
  |zero=>exact⟨iget d (idx g z),by simp⟩
  |succ j=>
   rw[Qe]at h;obtain⟨v,E⟩:=insS_get g d id (k+1) r j (by omega);refine⟨v,Qf _ ?_⟩;have e:(k:Int)+((j+1:Nat):Int)=((k+1:Nat):Int)+(j:Int):=by omega
   rw[e];exact E
def Qfm {g:List Nd}(d:List Int): ∀(k:Nat) (l:List Nd) (n:Nd),n∈l->∀sp∈insS g d n.1 0 n.2.2.1,sp∈spotsF g d k l
 |_,[],_,h,_,_=>by cases h
 |k,m::r,n,h,sp,hs=>by
  unfold spotsF;rcases Qk.1 h with rfl|h
  exact Ws _ hs;exact Wt _ (Wt _ (Qfm d (k+1) r n h sp hs))
def Qfi {g:List Nd}(d:List Int): ∀(k:Nat) (l:List Nd) (n:Nd),n∈l->n.2.1≠15->∃v,((n.1,2),v)∈spotsF g d k l
 |_,[],_,h,_=>by cases h
 |k,m::r,n,h,E=>by
  unfold spotsF;rcases Qk.1 h with rfl|h
  exact⟨iget d (k:Int),Wt _ (Ws _ (by unfold outS;rw[Qc E];simp))⟩;obtain⟨v,H⟩:=Qfi d (k+1) r n h E;exact⟨v,Wt _ (Wt _ H)⟩
def Qic (id:Int): ∀(l:List Nd) (u:Pl),u∈Qbm id l->∃n∈l,u.1=n.1/\∃j:Nat,u.2=(j:Int)/\j<n.2.2.1.length
 | [],u,h=>by cases h
 |n::r,u,h=>by
  unfold Qbm at h;rcases Q2.1 h with h|h
  obtain⟨E,j,H,I⟩:=useN_mem id n.1 0 _ u h;exact⟨n,Qi ..,E,j,by omega,I⟩;obtain⟨m,E,H⟩:=Qic id r u h;exact⟨m,Qf _ E,H⟩
def inE_mem (g:List Nd)(d:List Int)(n:Nd): ∀(k:Nat) (l:List Int) (e:Ed),e∈inE g d n k l->e.1.1=n.1/\(k:Int)<=e.1.2/\e.1.2<(k:Int)+l.length/\e.2.1=(n.1,2)
 |_,[],_,h=>by cases h
 |k,z::r,e,h=>by
  unfold inE at h;rw[Qe];rcases Qk.1 h with rfl|h
  refine⟨rfl,Y7 _,?_,rfl⟩;simp only[];omega;have:=inE_mem g d n (k+1) r e h;refine⟨this.1,by omega,by omega,this.2.2.2⟩
def Qbv {g:List Nd}(d:List Int): ∀(k:Nat) (l:List Nd) (e:Ed),e∈Qbd g d k l->∃n∈l,e.1.1=n.1/\((n.2.1≠15/\e.2.1=(n.1,2)/\0<=e.1.2/\e.1.2<n.2.2.1.length)\/(e.1.2=2/\∃m∈g,e.2.1.1=m.1/\∃j:Nat,e.2.1.2=(j:Int)/\j<m.2.2.1.length))
 |_,[],_,h=>by cases h
 |k,n::r,e,h=>by
  unfold Qbd at h;have hrec:e∈Qbd g d (k+1) r->∃m∈n::r,e.1.1=m.1/\((m.2.1≠15/\e.2.1=(m.1,2)/\0<=e.1.2/\e.1.2<m.2.2.1.length)\/(e.1.2=2/\∃q∈g,e.2.1.1=q.1/\∃j:Nat,e.2.1.2=(j:Int)/\j<q.2.2.1.length)):=λh=>by
   obtain⟨m,E,H⟩:=Qbv d (k+1) r e h;exact⟨m,Qf _ E,H⟩
  split at h;exact hrec h;rename_i I;rcases Q2.1 h with h|h
  obtain⟨E,H,N,J⟩:=inE_mem g d n 0 _ e h;exact⟨n,Qi ..,E,.inl ⟨I,J,by omega,by omega⟩⟩;rcases Q2.1 h with h|h
  unfold outE at h;obtain⟨u,L,rfl⟩:=Wr.1 h;obtain⟨m,E,H⟩:=Qic n.1 g u L;exact⟨n,Qi ..,rfl,.inr ⟨rfl,m,E,H⟩⟩;exact hrec h
def edge_to {g:List Nd}(d:List Int){e:Ed}(H:e∈Qah g d): ∃v,(e.2.1,v)∈spots g d:=by
 obtain⟨n,I,Q,h|h⟩:=Qbv d 0 g e H;obtain⟨v,E⟩:=Qfi d 0 g n I h.1;exact⟨v,by rw[h.2.1];exact E⟩;obtain⟨_,m,J,L,j,N,O⟩:=h;obtain⟨v,E⟩:=insS_get g d m.1 0 m.2.2.1 j O;refine⟨v,Qfm d 0 g m J _ ?_⟩;have e1:e.2.1=(m.1,((0:Nat):Int)+(j:Int)):=Prod.ext L (by rw[N];simp);rw[e1];exact E
def Qix {g:List Nd}(d:List Int){e:Ed}(E:e∈Qah g d): ∃n∈g,e.1.1=n.1:=by
 obtain⟨n,H,I,_⟩:=Qbv d 0 g e E;exact⟨n,H,I⟩
def edge_out {g:List Nd}(d:List Int)(E:Own g){e:Ed}(H:e∈Qah g d)(N:e.2.1.2=2):e.1.1=e.2.1.1/\e.1.2≠2:=by
 obtain⟨n,I,J,h|h⟩:=Qbv d 0 g e H;have:=in2 E I;exact⟨by rw[J,h.2.1],by omega⟩;obtain⟨_,m,L,_,j,O,Q⟩:=h;have:=in2 E L;omega
def atS_mem {p:Pl}: ∀{l:List Sp} {v:Int},(l.map (·.1)).Nodup->(p,v)∈l->atS p l=v
 | [],_,_,h=>by cases h
 |x::r,v,E,h=>by
  rw[Q1,Wm]at E;unfold atS;rcases Qk.1 h with rfl|h
  rw[Qc rfl];rw[Qb (λe=>E.1 (by rw[e];exact List.mem_map_of_mem (f:=(·.1)) h))];exact atS_mem E.2 h
def R_at_eq (l:List Sp)(p:Pl)(I:l.length<=100000):F.gy l p=some (atS p l):=
 A.lp0 l (λf y=>F.eA l p f y) (λ_ t=>some (atS p t))
  (λf=>by rw[F.eA,Qb (by omega)];rfl)
  (λf k x E hk H=>by
   rw[F.eA,Qc (by omega),A.ixn E,Qa,Qa,atS];by_cases h:x.1=p;rw[Qc (show x.1=p from h),Qc h];rw[Qb (show ¬x.1=p from h),Qb h,A.gd1 (A.r64n (by omega)),H])
  (by have:=Qab;omega)
def R_on_eq (l:List Pl)(p:Pl)(J:l.length<=100000):F.gg l p=some (decide (p∈l)):=
 A.lp0 l (λf y=>F.eB l p f y) (λ_ t=>some (decide (p∈t)))
  (λf=>by rw[F.eB,Qb (by omega)];simp)
  (λf k x H hk I=>by
   rw[F.eB,Qc (by omega),A.ixn H,Qa];by_cases h:x=p;rw[Qc (show x=p from h)];simp[h];rw[Qb (show ¬x=p from h),A.gd1 (A.r64n (by omega)),I];congr 1;exact decide_eq_decide.2 ⟨λE=>Qf _ E,λE=>(Qk.1 E).resolve_left λe=>h e.symm⟩)
  (by have:=Qab;omega)
def Qbx (g:List Nd)(S:List Sp)(dd:Int)(e:Ed):Bool:=decide (dd<=atS e.2.1 S)&&(decide ((find g e.1.1).1.2.1≠14)||decide ((find g e.1.1).1.2.2.2.2.2.2≠dd)||decide (e.1.2=2))
def R_open_eq (g:List Nd)(S:List Sp)(e:Ed)(dd:Int)(I:Few g)(E:Inc g)(J:S.length<=100000)(L: ∃n∈g,e.1.1=n.1):F.fJ g S e dd=some (Qbx g S dd e):=by
 obtain⟨n,N,O⟩:=L;obtain⟨j,H⟩:=W7.1 N;unfold F.fJ Qbx;rw[O,Find_eq g I E H,Qa,show F.gy S e.2.1=_ from R_at_eq S e.2.1 J,Qa,Qew E H];by_cases h:dd<=atS e.2.1 S;rw[Qc h,Qr h,Wy];congr 1;rw[Qb h,Q7 h,Y8]
def addR (g:List Nd)(S:List Sp)(dd:Int)(cur:Pl):List Ed->List Pl->List Pl
 | [],r=>r
 |e::t,r=>addR g S dd cur t (if e.1=cur/\Qbx g S dd e=true/\e.2.1∉r then r++[e.2.1]else r)
def round_l3 (g:List Nd)(S:List Sp)(E:List Ed)(from_:Sp)(H:List Pl->List Pl->Int->Option Bool)(y:Nat)(cur:Pl)(r:List Pl)(Y:Few g)(hi:Inc g)(hS:S.length<=100000)(hE:E.length<=5000)(hf: ∀e∈E,∃n∈g,e.1.1=n.1)(hc:(from_.1::r)[y]?=some cur)(hy:y<=10000)(hr:r.length<=9000)(hall: ∀k,(addR g S from_.2 cur (E.take k) r).length<=9000):
  F.aD H g S E from_ (y:Int) A.FU r (from_.1::r) 0=H (addR g S from_.2 cur E r) (from_.1::addR g S from_.2 cur E r) ((y:Int)+1):=
 A.lp E (λf (s:List Pl×List Pl) i=>F.aD H g S E from_ (y:Int) f s.1 s.2 i) (λk t s=>H (addR g S from_.2 cur t s.1) (from_.1::addR g S from_.2 cur t s.1) ((y:Int)+1)) (λk s=>s.2=from_.1::s.1/\s.2[y]?=some cur/\s.1=addR g S from_.2 cur (E.take k) r)
  (λf s hs=>by
   rw[F.aD,Qb (by omega),A.gd1 (A.r64n (by omega)),hs.1];rfl)
  (λf s k e L hk hs W=>by
   obtain⟨q,r'⟩:=s;obtain⟨N,I,V⟩:=hs;simp only[]at N I V;have hlen:q.length<=9000:=by rw[V];exact hall _
   have hsnoc: ∀(t:List Ed) (e:Ed) (r:List Pl),addR g S from_.2 cur (t++[e]) r=(if e.1=cur/\Qbx g S from_.2 e=true/\e.2.1∉addR g S from_.2 cur t r then addR g S from_.2 cur t r++[e.2.1]else addR g S from_.2 cur t r):=by
    intro t;induction t with
    |nil=>intro e r;rfl
    |cons x t iht=>intro e r;rw[Xf,addR,addR];exact iht e _
   have hnext:addR g S from_.2 cur (E.take (k+1)) r=if e.1=cur/\Qbx g S from_.2 e=true/\e.2.1∉q then q++[e.2.1]else q:=by
    rw[Qbs L,hsnoc,<-V]
   have hopen:=R_open_eq g S e from_.2 Y hi hS (hf e (Qj L));rw[F.aD,Qc (by omega),A.ixn L,Qa,A.ixn I,Qa,addR];simp only[F.dE,F.eC,A.ixn L,Qa,A.gd1 (A.r64n (n:=k) (by omega)),Qx,Wa];have stay: ¬(e.1=cur/\Qbx g S from_.2 e=true/\e.2.1∉q)->F.aD H g S E from_ (y:Int) f q r' ((k:Int)+1)=H (addR g S from_.2 cur (E.drop (k+1)) (if e.1=cur/\Qbx g S from_.2 e=true/\e.2.1∉q then q++[e.2.1]else q)) (from_.1::addR g S from_.2 cur (E.drop (k+1)) (if e.1=cur/\Qbx g S from_.2 e=true/\e.2.1∉q then q++[e.2.1]else q)) ((y:Int)+1):=λhn=>by
    rw[Qb hn]at hnext ⊢;exact W (q,r') ⟨N,I,hnext.symm⟩
   by_cases hcur:e.1=cur;rw[Qc (show e.1=cur from hcur),show F.fJ g S e from_.2=_ from hopen,Qa];by_cases O:Qbx g S from_.2 e=true;rw[Qc O,show F.gg q e.2.1=_ from R_on_eq q e.2.1 (by omega),Qa];by_cases Q:e.2.1∈q;rw[Qr Q,Wz,Qb Q5];exact stay λh=>h.2.2 Q;have J:e.1=cur/\Qbx g S from_.2 e=true/\e.2.1∉q:=⟨hcur,O,Q⟩;rw[Q7 Q,Xn,Qc rfl,A.gd1 (by simp only[Qe,Ql];omega),A.gd1 (by rw[N];simp only[Qe,Ql];omega),Qc J];rw[Qc J]at hnext;refine W (q++[e.2.1],r'++[e.2.1]) ⟨?_,?_,hnext.symm⟩;simp only[N,Xf];simp only[];rw[Wc (Qd.1 I).1];exact I;rw[Qb O];exact stay λh=>O h.2.1;rw[Qb (show ¬e.1=cur from hcur)];exact stay λh=>hcur h.1)
  (by have:=Qab;omega) (r,from_.1::r) ⟨rfl,hc,rfl⟩
def okE (g:List Nd)(S:List Sp)(E:List Ed)(dd:Int)(p q:Pl):Prop:=∃e∈E,e.1=p/\e.2.1=q/\Qbx g S dd e=true
def Qcp (g:List Nd)(S:List Sp)(dd:Int)(cur:Pl): ∀(t:List Ed) (r:List Pl),∃x,addR g S dd cur t r=r++x/\(∀p∈x,∃e∈t,e.1=cur/\e.2.1=p/\Qbx g S dd e=true)/\(r.Nodup->(r++x).Nodup)/\(∀e∈t,e.1=cur->Qbx g S dd e=true->e.2.1∈r++x)
 | [],r=>⟨[],by rw[addR,Wh],by simp,by simp,by simp⟩
 |e::t,r=>by
  rw[addR];by_cases h:e.1=cur/\Qbx g S dd e=true/\e.2.1∉r;rw[Qc h];obtain⟨x,H,I,J,L⟩:=Qcp g S dd cur t (r++[e.2.1]);refine⟨e.2.1::x,by rw[H];simp,λp hp=>?_,λQ=>?_,λe2 E a b=>?_⟩;rcases Qk.1 hp with rfl|hp
  exact⟨e,Qi ..,h.1,rfl,h.2.1⟩;obtain⟨e2,a,b⟩:=I p hp;exact⟨e2,Qf _ a,b⟩;have:=J (W9.2 ⟨Q,by simp,λa V b N=>by rw[Qn]at N;subst N;intro e2;subst e2;exact h.2.2 V⟩);simpa using this;rcases Qk.1 E with rfl|E
  simp;have:=L e2 E a b;simpa using this;rw[Qb h];obtain⟨x,H,I,J,L⟩:=Qcp g S dd cur t r;refine⟨x,H,λp hp=>?_,J,λe2 E a b=>?_⟩;obtain⟨e2,a,b⟩:=I p hp;exact⟨e2,Qf _ a,b⟩;rcases Qk.1 E with rfl|E
  refine Ws _ ?_;by_cases O:e2.2.1∈r;exact O;exact absurd ⟨a,b,O⟩ h;exact L e2 E a b
def nodup_len {α:Type}[DecidableEq α]: ∀{l m:List α},l.Nodup->(∀x∈l,x∈m)->l.length<=m.length
 | [],m,_,_=>Xi _
 |a::l,m,E,h=>by
  rw[Wm]at E;have H:=h a (Qi ..);have:=nodup_len (l:=l) (m:=m.erase a) E.2 λx I=>(List.mem_erase_of_ne (λe=>by subst e;exact E.1 I)).2 (h x (Qf _ I));rw[List.length_erase_of_mem H]at this;have hpos:0<m.length:=List.length_pos_of_mem H;rw[Qe];omega
def round_eq (g:List Nd)(S:List Sp)(E:List Ed)(from_:Sp)(hb:Few g)(hi:Inc g)(hS:S.length<=100000)(hE:E.length<=4000)(hf: ∀e∈E,∃n∈g,e.1.1=n.1):
  ∃b,F.fr g S E from_=some b/\(b=true↔Rch (okE g S E from_.2) from_.1 from_.1):=by
 have sub: ∀(r:List Pl),r.Nodup->(∀p∈r,∃e∈E,e.2.1=p)->r.length<=4000:=λr I h=>by
  have:=nodup_len (m:=E.map λe=>e.2.1) I λp hp=>by obtain⟨e,O,N⟩:=h p hp;exact Wr.2 ⟨e,O,N⟩
  rw[Qw]at this;omega
 have main: ∀(n f y:Nat) (r:List Pl),y+n=4002->n<f->r.Nodup->y<=1+r.length->(∀p∈r,∃e∈E,e.2.1=p)->(∀p∈r,Rch (okE g S E from_.2) from_.1 p)->(∀i p q,i<y->(from_.1::r)[i]?=some p->okE g S E from_.2 p q->q∈r)->
   ∃b,F.bO g S E from_ f r (from_.1::r) (y:Int)=some b/\(b=true↔Rch (okE g S E from_.2) from_.1 from_.1):=by
  intro n;induction n with
  |zero=>
   intro f y r hy hf' I Q hsub _ _;have:=sub r I hsub;omega
  |succ n ih=>
   intro f y r hy hf' I Q hsub hreach hclosed;obtain⟨f,rfl⟩: ∃f',f=f'+1:=⟨f-1,by omega⟩;have hl:=sub r I hsub;rw[F.bO];by_cases h:y<1+r.length;obtain⟨cur,hcur⟩: ∃c,(from_.1::r)[y]?=some c:=⟨_,Qg (by rw[Qe];omega)⟩;obtain⟨x,O,N,h3,h4⟩:=Qcp g S from_.2 cur E r;have hsub2: ∀p∈r++x,∃e∈E,e.2.1=p:=λp hp=>by
    rcases Q2.1 hp with hp|hp
    exact hsub p hp;obtain⟨e,a,_,b,_⟩:=N p hp;exact⟨e,a,b⟩
   have hall: ∀k,(addR g S from_.2 cur (E.take k) r).length<=9000:=λk=>by
    obtain⟨x',a,b,c,_⟩:=Qcp g S from_.2 cur (E.take k) r;have:=sub (r++x') (c I) λp hp=>by
     rcases Q2.1 hp with hp|hp
     exact hsub p hp;obtain⟨e,a2,_,b2,_⟩:=b p hp;exact⟨e,X3 a2,b2⟩
    rw[a];omega
   rw[Qc (by rw[Qe];omega),round_l3 g S E from_ _ y cur r hb hi hS (by omega) hf hcur (by omega) (by omega) hall,O];have e1:(y:Int)+1=((y+1:Nat):Int):=by omega
   rw[e1];have H:cur=from_.1\/Rch (okE g S E from_.2) from_.1 cur:=by
    cases y with
    |zero=>injection hcur with hcur;exact .inl hcur.symm
    |succ y=>exact .inr (hreach cur (Qj (by simpa using hcur)))
   refine ih f (y+1) (r++x) (by omega) (by omega) (h3 I) (by rw[Qm];omega) hsub2 (λp hp=>?_) λi p q hi2 hp J=>?_;rcases Q2.1 hp with hp|hp
   exact hreach p hp;obtain⟨e,a,b,c,d2⟩:=N p hp;rcases H with H|H
   exact .one ⟨e,a,b.trans H,c,d2⟩;exact .step H ⟨e,a,b,c,d2⟩;rw[<-Xf,Wc (by rw[Qe];omega)]at hp;rcases Yy i y with Y|Y
   exact Ws _ (hclosed i p q Y hp J);obtain rfl:i=y:=by omega
   rw[hcur]at hp;injection hp with hp;subst hp
   obtain⟨e,a,b,c,d2⟩:=J;rw[<-c];exact h4 e a b d2;rw[Qb (by rw[Qe];omega),show F.gg r from_.1=_ from R_on_eq r from_.1 (by omega),Qa];refine⟨_,rfl,?_⟩;rw[Qs];refine⟨hreach _,λhr=>?_⟩;have V: ∀q,Rch (okE g S E from_.2) from_.1 q->q∈r:=λq hq=>by
    induction hq with
    |one h6=>exact hclosed 0 _ _ (by omega) rfl h6
    |step h6 h7 W=>
     obtain⟨i,L⟩:=W7.1 W;have:=(Qd.1 L).1;exact hclosed (i+1) _ _ (by omega) (by simpa using L) h7
   exact V _ hr
 exact main 4002 A.FU 0 [] (by omega) (by have:=Qab;omega) X5 (by simp) (by simp) (by simp) (λi p q h=>by omega)
abbrev Seen:=List (Pl×Bool)
def seen (m:Seen)(v:Pl):Prop:=Z.mget false m v=true
def addP (deep:List Sp)(from_:Pl)(dd:Int):List Pl->Seen->List Pl->Option (Seen×List Pl)
 | [],m,xs=>some (m,xs)
 |t::r,m,xs=>if t=from_ then none else if dd<=Z.mget 0 deep t/\Z.mget false m t=false then addP deep from_ dd r (Z.mins m t true) (xs++[t])else addP deep from_ dd r m xs
def reaches_l3 (deep:List Sp)(from_:Pl)(dd:Int)(H:Seen->List Pl->Option Bool)(tos:List Pl)(m:Seen)(xs:List Pl)(V:tos.length<=4000)(W:xs.length<=10000):
  F.m H deep from_ dd tos A.FU m xs 0=match addP deep from_ dd tos m xs with
   |none=>some true
   |some s=>H s.1 s.2:=
 A.lp tos (λf (s:Seen×List Pl) i=>F.m H deep from_ dd tos f s.1 s.2 i) (λ_ t s=>match addP deep from_ dd t s.1 s.2 with
   |none=>some true
   |some s=>H s.1 s.2) (λk s=>s.2.length<=10000+k)
  (λf s hs=>by rw[F.m,Qb (by omega),addP])
  (λf s k t Q hk hs L=>by
   rw[F.m,Qc (by omega),A.ixn Q,Qa,addP,A.lt];simp only[F.bw,F.bv,A.lt,A.gd1 (A.r64n (n:=k) (by omega)),Qx,Wa];by_cases h:t=from_;rw[Qc (show t=from_ from h),Qc h];rw[Qb (show ¬t=from_ from h),Qb h];by_cases I:dd<=Z.mget 0 deep t;rw[Qc (show dd<=Z.mget 0 deep t from I)];by_cases J:Z.mget false s.1 t=false;have N:dd<=Z.mget 0 deep t/\Z.mget false s.1 t=false:=⟨I,J⟩;rw[Qc N,show Z.mget false s.1 t=false from J,Xn,Qc rfl,A.gd1 (by simp only[Qe,Ql];omega)];exact L (Z.mins s.1 t true,s.2++[t]) (by simp only[Qm,Qe,Ql];omega);have O:Z.mget false s.1 t=true:=by cases E:Z.mget false s.1 t with
    |true=>rfl
    |false=>exact absurd E J
   have N: ¬(dd<=Z.mget 0 deep t/\Z.mget false s.1 t=false):=λE=>J E.2;rw[Qb N,show Z.mget false s.1 t=true from O,Wz,Qb Q5];exact L s (by omega);rw[Qb (show ¬dd<=Z.mget 0 deep t from I),Qb (λE=>I E.1)];exact L s (by omega))
  (by have:=Qab;omega) (m,xs) (by simp only[];omega)
def un (T:List Pl)(m:Seen):Nat:=(T.filter λt=> !(Z.mget false m t)).length
def un_ins {T:List Pl}{m:Seen}{t:Pl}(E:t∈T)(H:Z.mget false m t=false):un T (Z.mins m t true)+1<=un T m:=by
 unfold un;have mono: ∀(l:List Pl),(l.filter λt'=> !(Z.mget false (Z.mins m t true) t')).length<=(l.filter λt'=> !(Z.mget false m t')).length:=by
  intro l;induction l with
  |nil=>exact Qt _
  |cons a l I=>
   rw[Xj,Xj,Uz];by_cases e:a=t;rw[Qc e,e,H];simp only[Wz,Qx,Wa,Xn,W8,Qe];omega;rw[Qb e];split<;>(try simp only[Qe])<;>omega
 induction T with
 |nil=>cases E
 |cons a l I=>
  rw[Xj,Xj,Uz];have:=mono l;by_cases e:a=t;rw[Qc e,e,H];simp only[Wz,Qx,Wa,Xn,W8,Qe];omega;have:=I ((Qk.1 E).resolve_left λh=>e h.symm);rw[Qb e];split<;>(try simp only[Qe])<;>omega
def Qeu {deep:List Sp}{from_:Pl}{dd:Int}: ∀{tos:List Pl} {m:Seen} {xs:List Pl},addP deep from_ dd tos m xs=none->from_∈tos
 | [],_,_,h=>by cases h
 |t::r,m,xs,h=>by
  rw[addP]at h;by_cases e:t=from_;rw[e];exact Qi ..;rw[Qb e]at h;split at h;exact Qf _ (Qeu h);exact Qf _ (Qeu h)
def Qco {m:Seen}{t v:Pl}:seen (Z.mins m t true) v↔v=t\/seen m v:=by
 unfold seen;rw[Uz];by_cases e:v=t;rw[Qc e];simp[e];rw[Qb e];simp[e]
def addP_some {deep:List Sp}{from_:Pl}{dd:Int}{T:List Pl}: ∀{tos:List Pl} {m m':Seen} {xs xs':List Pl},(∀t∈tos,t∈T)->addP deep from_ dd tos m xs=some (m',xs')->
  from_∉tos/\(∀v,seen m v->seen m' v)/\(∀v,seen m' v->seen m v\/(v∈tos/\dd<=Z.mget 0 deep v))/\(∀t∈tos,dd<=Z.mget 0 deep t->seen m' t)/\(∀v∈xs,v∈xs')/\(∀v∈xs',v∈xs\/seen m' v)/\(∀v,seen m' v->seen m v\/v∈xs')/\xs'.length+un T m'<=xs.length+un T m
 | [],m,m',xs,xs',_,h=>by
  injection h with h;injection h with Q E;subst Q;subst E
  exact⟨by simp,λv h=>h,λv h=>.inl h,by simp,λv h=>h,λv h=>.inl h,λv h=>.inl h,Qt _⟩
 |t::r,m,m',xs,xs',O,h=>by
  rw[addP]at h;by_cases e:t=from_;rw[Qc e]at h;cases h;rw[Qb e]at h;by_cases N:dd<=Z.mget 0 deep t/\Z.mget false m t=false;rw[Qc N]at h;obtain⟨a1,a2,a3,a4,a5,a6,a7,a8⟩:=addP_some (λx H=>O x (Qf _ H)) h;have V:=un_ins (O t (Qi ..)) N.2;refine⟨λE=>(Qk.1 E).elim (λL=>e L.symm) a1,λv I=>a2 v (Qco.2 (.inr I)),λv I=>?_,λx H J=>?_,λv I=>a5 v (Ws _ I),λv I=>?_,λv I=>?_,by rw[Qm]at a8;simp only[Qe,Ql]at a8;omega⟩;rcases a3 v I with E|E
  rcases Qco.1 E with rfl|L
  exact .inr ⟨Qi ..,N.1⟩;exact .inl L;exact .inr ⟨Qf _ E.1,E.2⟩;rcases Qk.1 H with rfl|H
  exact a2 _ (Qco.2 (.inl rfl));exact a4 x H J;rcases a6 v I with E|E
  rcases Q2.1 E with E|E
  exact .inl E;rw[Qn]at E;subst E;exact .inr (a2 _ (Qco.2 (.inl rfl)));exact .inr E;rcases a7 v I with E|E
  rcases Qco.1 E with rfl|L
  exact .inr (a5 _ (Wt _ (Qn.2 rfl)));exact .inl L;exact .inr E;rw[Qb N]at h;obtain⟨a1,a2,a3,a4,a5,a6,a7,a8⟩:=addP_some (λx H=>O x (Qf _ H)) h;refine⟨λE=>(Qk.1 E).elim (λL=>e L.symm) a1,a2,λv I=>?_,λx H J=>?_,a5,a6,a7,a8⟩;rcases a3 v I with E|E
  exact .inl E;exact .inr ⟨Qf _ E.1,E.2⟩;rcases Qk.1 H with rfl|H
  refine a2 _ ?_;unfold seen;cases E:Z.mget false m x with
  |true=>rfl
  |false=>exact absurd ⟨J,E⟩ N
  exact a4 x H J
def blk (g:List Nd)(dd:Int)(p:Pl):Prop:=(Z.mget ((0,0,[],(0,0,(ByteArray.mk #[])),(ByteArray.mk #[]),0,0):Nd) (mapOf g) p.1).2.1=14/\(Z.mget ((0,0,[],(0,0,(ByteArray.mk #[])),(ByteArray.mk #[]),0,0):Nd) (mapOf g) p.1).2.2.2.2.2.2=dd
def okP (g:List Nd)(steps:List (Pl×List Pl))(deep:List Sp)(dd:Int)(p q:Pl):Prop:=q∈Z.mget [] steps p/\¬blk g dd p/\dd<=Z.mget 0 deep q
def reaches_eq (g:List Nd)(a0:(List (Int×Nd))×(List Int)×(List (Int×Int)))(h0:a0.1=mapOf g)(steps:List (Pl×List Pl))(deep:List Sp)(from_:Pl)(dd:Int)(T:List Pl)(hT:T.length<=4000)(hst: ∀p q,q∈Z.mget [] steps p->q∈T)(hsl: ∀p,(Z.mget [] steps p).length<=4000)(hfd:dd<=Z.mget 0 deep from_):
  ∃b,F.aW a0 steps deep from_ dd=some b/\(b=true↔Rch (okP g steps deep dd) from_ from_):=by
 have main: ∀(n f:Nat) (m:Seen) (xs:List Pl),xs.length+un T m<=n->n<f->xs.length<=9000->xs.length+un T m<=9000->(∀v,seen m v->Rch (okP g steps deep dd) from_ v)->(∀t∈xs,t=from_\/seen m t)->(∀v,v=from_\/seen m v->v∉xs->∀w,okP g steps deep dd v w->w≠from_/\seen m w)->
   ∃b,F.n a0 steps deep from_ dd f m xs=some b/\(b=true↔Rch (okP g steps deep dd) from_ from_):=by
  intro n;induction n with
  |zero=>
   intro f m xs hn hf hx900 _ W i2 L;obtain⟨f,rfl⟩: ∃f',f=f'+1:=⟨f-1,by omega⟩;have hx:xs=[]:=We (by omega);subst hx;rw[F.n,Qb (by simp)];refine⟨false,rfl,λh=>(by cases h),λh=>?_⟩;have N: ∀q,Rch (okP g steps deep dd) from_ q->q≠from_/\seen m q:=λq hq=>by
    induction hq with
    |one h6=>exact L from_ (.inl rfl) (by simp) _ h6
    |step h6 h7 O=>exact L _ (.inr O.2) (by simp) _ h7
   exact absurd rfl (N _ h).1
  |succ n ih=>
   intro f m xs hn hf hx900 hu900 W i2 L;obtain⟨f,rfl⟩: ∃f',f=f'+1:=⟨f-1,by omega⟩;rw[F.n];by_cases Q:xs=[];subst Q;rw[Qb (by simp)];refine⟨false,rfl,λh=>(by cases h),λh=>?_⟩;have N: ∀q,Rch (okP g steps deep dd) from_ q->q≠from_/\seen m q:=λq hq=>by
    induction hq with
    |one h6=>exact L from_ (.inl rfl) (by simp) _ h6
    |step h6 h7 O=>exact L _ (.inr O.2) (by simp) _ h7
   exact absurd rfl (N _ h).1;obtain⟨ys,at_,rfl⟩: ∃ys a,xs=ys++[a]:=⟨xs.dropLast,xs.getLast Q,(List.dropLast_concat_getLast Q).symm⟩;have hl:(ys++[at_]).length=ys.length+1:=by simp
   have e1:(((ys++[at_]).length:Int)-1)=(ys.length:Int):=by rw[hl];omega
   have hat:(ys++[at_])[ys.length]?=some at_:=by simp
   rw[Qc (by omega),A.gd1 ⟨by omega,by omega⟩,e1,A.ixn hat,Qa,A.gd1 ⟨by omega,by omega⟩,A.gd1 ⟨by omega,by rw[Qv];omega⟩,A.lt,F.co,e1,Qv,A.ba,h0];have htake:List.take ys.length (ys++[at_])=ys:=by simp
   rw[htake];have hatr:at_=from_\/seen m at_:=i2 at_ (by simp);by_cases Y:blk g dd at_;rw[Qc (show decide ((Z.mget ((0,0,[],(0,0,(ByteArray.mk #[])),(ByteArray.mk #[]),0,0):Nd) (mapOf g) at_.1).2.1=14/\(Z.mget ((0,0,[],(0,0,(ByteArray.mk #[])),(ByteArray.mk #[]),0,0):Nd) (mapOf g) at_.1).2.2.2.2.2.2=dd)=true from Qr Y)];refine ih f m ys (by omega) (by omega) (by omega) (by omega) W (λt ht=>i2 t (Ws _ ht)) λv V I w J=>?_;by_cases e:v=at_;subst e;exact absurd Y J.2.1;exact L v V (λh=>by
    rcases Q2.1 h with h|h
    exact I h;exact e (Qn.1 h)) w J
   rw[Qb (show ¬decide ((Z.mget ((0,0,[],(0,0,(ByteArray.mk #[])),(ByteArray.mk #[]),0,0):Nd) (mapOf g) at_.1).2.1=14/\(Z.mget ((0,0,[],(0,0,(ByteArray.mk #[])),(ByteArray.mk #[]),0,0):Nd) (mapOf g) at_.1).2.2.2.2.2.2=dd)=true from λh=>Y (by have h9:=Wb h;exact h9)),A.lt,show Z.mget [] steps at_=Z.mget [] steps at_ from rfl,reaches_l3 deep from_ dd _ _ m ys (hsl at_) (by omega)];cases hadd:addP deep from_ dd (Z.mget [] steps at_) m ys with
   |none=>
    have hfrom:=Qeu hadd;have E:okP g steps deep dd at_ from_:=⟨hfrom,Y,hfd⟩;refine⟨true,rfl,λ_=>?_,λ_=>rfl⟩;rcases hatr with h|h
    rw[h]at E;exact .one E;exact .step (W at_ h) E
   |some s=>
    obtain⟨m',xs'⟩:=s;obtain⟨a1,a2,a3,a4,a5,a6,a7,a8⟩:=addP_some (T:=T) (hst at_) hadd;simp only[];refine ih f m' xs' (by omega) (by omega) (by omega) (by omega) (λv V=>?_) (λt ht=>?_) λv V I w J=>?_;rcases a3 v V with h|h
    exact W v h;have E:okP g steps deep dd at_ v:=⟨h.1,Y,h.2⟩;rcases hatr with H|H
    rw[H]at E;exact .one E;exact .step (W at_ H) E;rcases a6 t ht with h|h
    rcases i2 t (Ws _ h)with H|H
    exact .inl H;exact .inr (a2 t H);exact .inr h;have hv2:v=from_\/seen m v:=by
     rcases V with h|h
     exact .inl h;rcases a7 v h with H|H
     exact .inr H;exact absurd H I
    by_cases e:v=at_;subst e;exact⟨λh=>a1 (h▸J.1),a4 w J.1 J.2.2⟩;obtain⟨h1,H⟩:=L v hv2 (λh=>by
     rcases Q2.1 h with h|h
     exact I (a5 v h);exact e (Qn.1 h)) w J
    exact⟨h1,a2 w H⟩
 have hu:un T []<=T.length:=X1 _ _;exact main (1+T.length) A.FU [] [from_] (by simp;omega) (by have:=Qab;omega) (by simp) (by simp;omega) (λv h=>by cases h) (λt ht=>.inl (Qn.1 ht)) (λv V hx w J=>by
  rcases V with h|h
  exact absurd (Qn.2 h) hx;cases h)
def mget_mem {p:Pl}: ∀{l:List Sp} {v:Int},(l.map (·.1)).Nodup->(p,v)∈l->Z.mget 0 l p=v
 | [],_,_,h=>by cases h
 |(a,w)::r,v,E,h=>by
  rw[Q1,Wm]at E;unfold Z.mget;rcases Qk.1 h with h|h
  injection h with H I;rw[Qc H,I]
  rw[Qb (λe=>E.1 (by rw[<-e];exact List.mem_map_of_mem (f:=(·.1)) h))];exact mget_mem E.2 h
def mhas_app {l:List Sp}{p:Pl}(h:p∉l.map (·.1)):Z.mhas l p=false:=by
 induction l with
 |nil=>rfl
 |cons a r E=>
  rw[Q1,Qk,not_or]at h;obtain⟨q,v⟩:=a;unfold Z.mhas;rw[Qb h.1];exact E h.2
def toOf (E:List Ed)(p:Pl):List Pl:=(E.filter λe=>decide (e.1=p)).map λe=>e.2.1
def turns_l2 (a0:(List (Int×Nd))×(List Int)×(List (Int×Int)))(S:List Sp)(E:List Ed)(N:E.length<=4000): ∃st,(∀p,Z.mget [] st p=toOf E p)/\F.ae a0 S E A.FU [] 0=A.mrg (F.aQ a0 S st) (some false) S:=by
 have main: ∀(n k f:Nat) (m:List (Pl×List Pl)),k+n=E.length->n<f->(∀p,Z.mget [] m p=toOf (E.take k) p)->∃st,(∀p,Z.mget [] st p=toOf E p)/\F.ae a0 S E f m (k:Int)=A.mrg (F.aQ a0 S st) (some false) S:=by
  intro n;induction n with
  |zero=>
   intro k f m hk J H;obtain⟨f,rfl⟩: ∃f',f=f'+1:=⟨f-1,by omega⟩;rw[Q3 (by omega)]at H;exact⟨m,H,by rw[F.ae,Qb (by omega)]⟩
  |succ n L=>
   intro k f m hk J H;obtain⟨f,rfl⟩: ∃f',f=f'+1:=⟨f-1,by omega⟩;have I:E[k]?=some E[k]:=Qg (by omega);generalize E[k]=x at I;have hlen:(Z.mget [] m x.1).length<=4000:=by
    rw[H];unfold toOf;rw[Qw];have:=X1 (λe:Ed=>decide (e.1=x.1)) (E.take k);rw[Qy]at this;omega
   rw[F.ae,Qc (by omega),A.ixn I,Qa,A.gd1 (by rw[show Z.mget [] m x.1=Z.mget [] m x.1 from rfl];simp only[Qe,Ql];omega),A.gd1 (A.r64n (by omega))];refine L (k+1) f _ (by omega) (by omega) λp=>?_;rw[show Z.mins m x.1 (Z.mget [] m x.1++[x.2.1])=Z.mins m x.1 (Z.mget [] m x.1++[x.2.1])from rfl,Uz,Qbs I];unfold toOf;rw[List.filter_append,Xm,Xj,List.filter_nil];by_cases e:p=x.1;subst e;rw[Qc rfl,H,Qc (Qr rfl)];rfl;rw[Qb e,H,Qb (by simp only[Qs];exact λh=>e h.symm),Xk,Wh];rfl
 exact main E.length 0 A.FU [] (by omega) (by have:=Qab;omega) (λp=>rfl)
def turns_l3 (g:List Nd)(a0:(List (Int×Nd))×(List Int)×(List (Int×Int)))(S:List Sp)(E:List Ed)(Q:S.length<=4000)(L:(S.map (·.1)).Nodup)(N:F.br a0 g=some E):F.ay a0 g S A.FU [] 0=F.ae a0 S E A.FU [] 0:=
 A.lp S (λf (m:List Sp) i=>F.ay a0 g S f m i) (λ_ _ _=>F.ae a0 S E A.FU [] 0) (λk m=>m=S.take k)
  (λf m H=>by
   rw[Q3 (Qt _)]at H;rw[F.ay,Qb (by omega),show F.br a0 g=some E from N,Qa,H])
  (λf m k x I hk H O=>by
   rw[F.ay,Qc (by omega),A.ixn I,Qa,A.gd1 (A.r64n (by omega))];refine O _ ?_;rw[show Z.mins m x.1 x.2=Z.mins m x.1 x.2 from rfl,Qcv (mhas_app ?_),H,Qbs I];rw[H];intro h;rw[List.map_take]at h;have J:=L;rw[<-Xs k (S.map (·.1)),W9]at J;refine J.2.2 _ h _ ?_ rfl;rw[<-List.map_drop,A.dropx I,Q1];exact Qi ..)
  (by have:=Qab;omega) [] (by simp)
def nodeAt {g:List Nd}(E:Inc g){n:Nd}(I:n∈g)(z:Nd):Z.mget z (mapOf g) n.1=n/\find g n.1=(n,true):=by
 obtain⟨j,H⟩:=W7.1 I;exact⟨E.mget H,Qew E H⟩
def mem_st {g:List Nd}{d:List Int}{st:List (Pl×List Pl)}(E: ∀p,Z.mget [] st p=toOf (Qah g d) p){p q:Pl}:q∈Z.mget [] st p↔∃e∈Qah g d,e.1=p/\e.2.1=q:=by
 rw[E];unfold toOf;constructor;intro h;obtain⟨e,H,I⟩:=Wr.1 h;obtain⟨J,L⟩:=Y0.1 H;exact⟨e,J,Wb L,I⟩;rintro⟨e,H,I,J⟩;exact Wr.2 ⟨e,Y0.2 ⟨H,Qr I⟩,J⟩
def nodup_S {g:List Nd}{d:List Int}(E:Inc g)(H:Own g):((spots g d).map (·.1)).Nodup:=Qdj d 0 g E λn I=>in2 H I
def ok_iff {g:List Nd}{d:List Int}(L:Inc g)(V:Own g){dd:Int}{p q:Pl}:okE g (spots g d) (Qah g d) dd p q↔(∃e∈Qah g d,e.1=p/\e.2.1=q)/\dd<=Z.mget 0 (spots g d) q/\(¬blk g dd p\/p.2=2):=by
 have N:=nodup_S (d:=d) L V;have key: ∀e∈Qah g d,(Qbx g (spots g d) dd e=true↔dd<=Z.mget 0 (spots g d) e.2.1/\(¬blk g dd e.1\/e.1.2=2)):=λe O=>by
  obtain⟨v,Q⟩:=edge_to d O;obtain⟨n,W,E⟩:=Qix d O;obtain⟨H,I⟩:=nodeAt L W ((0,0,[],(0,0,(ByteArray.mk #[])),(ByteArray.mk #[]),0,0):Nd);unfold Qbx blk;rw[mget_mem N Q,atS_mem N Q,E,I,H,Qo,Qs,X7,X7,Qs,Qs,Qs];constructor;rintro⟨a,(b|b)|b⟩;exact⟨a,.inl λh=>b h.1⟩;exact⟨a,.inl λh=>b h.2⟩;exact⟨a,.inr b⟩;rintro⟨a,b|b⟩;by_cases c:n.2.1=14;exact⟨a,.inl (.inr λh=>b ⟨c,h⟩)⟩;exact⟨a,.inl (.inl c)⟩;exact⟨a,.inr b⟩
 constructor;rintro⟨e,E,H,I,J⟩;have:=(key e E).1 J;rw[H,I]at this;exact⟨⟨e,E,H,I⟩,this⟩;rintro⟨⟨e,E,H,I⟩,J⟩;refine⟨e,E,H,I,(key e E).2 ?_⟩;rw[H,I];exact J
def rch_iff {g:List Nd}{d:List Int}{st:List (Pl×List Pl)}(Y:Inc g)(N:Own g)(J: ∀p,Z.mget [] st p=toOf (Qah g d) p){dd:Int}{a:Pl}:Rch (okP g st (spots g d) dd) a a↔Rch (okE g (spots g d) (Qah g d) dd) a a:=by
 have up: ∀{p q},okP g st (spots g d) dd p q->okE g (spots g d) (Qah g d) dd p q:=λ{p q} h=>
  (ok_iff Y N).2 ⟨(mem_st J).1 h.1,h.2.2,.inl h.2.1⟩
 have down: ∀{p q},okE g (spots g d) (Qah g d) dd p q->(p.2≠2\/¬blk g dd p)->okP g st (spots g d) dd p q:=λ{p q} h E=>by
  obtain⟨H,O,Q⟩:=(ok_iff Y N).1 h;refine⟨(mem_st J).2 H,?_,O⟩;rcases E with E|E
  exact Q.resolve_right E;exact E
 have blk_same: ∀{p q:Pl},p.1=q.1->(blk g dd p↔blk g dd q):=λ{p q} e=>by unfold blk;rw[e]
 constructor;intro h;have: ∀b,Rch (okP g st (spots g d) dd) a b->Rch (okE g (spots g d) (Qah g d) dd) a b:=λb h=>by
  induction h with
  |one h=>exact .one (up h)
  |step _ E I=>exact .step I (up E)
 exact this a h;intro h;have key: ∀b,Rch (okE g (spots g d) (Qah g d) dd) a b->Rch (okP g st (spots g d) dd) a b\/(a.2=2/\blk g dd a):=λb h=>by
  induction h with
  |one h=>
   by_cases E:a.2=2/\blk g dd a;exact .inr E;exact .inl (.one (down h (by
    by_cases H:a.2=2;exact .inr λO=>E ⟨H,O⟩;exact .inl H)))
  | @step b c _ E I=>
   rcases I with I|I
   refine .inl (.step I (down E ?_));by_cases H:b.2=2;refine .inr λO=>?_;have hlast: ∃p,okP g st (spots g d) dd p b:=by cases I with
    |one h=>exact⟨_,h⟩
    |step _ h=>exact⟨_,h⟩
   obtain⟨p,hp⟩:=hlast;obtain⟨e,Q,h6,V⟩:=(mem_st J).1 hp.1;have L:=edge_out d N Q (by rw[V];exact H);rw[h6,V]at L;exact hp.2.1 ((blk_same L.1).2 O);exact .inl H;exact .inr I
 rcases key a h with E|⟨E,H⟩
 exact E;have hlast: ∃p,okE g (spots g d) (Qah g d) dd p a:=by cases h with
  |one h=>exact⟨_,h⟩
  |step _ h=>exact⟨_,h⟩
 obtain⟨p,hp⟩:=hlast;obtain⟨⟨e,Q,h6,V⟩,_,W⟩:=(ok_iff Y N).1 hp;have L:=edge_out d N Q (by rw[V];exact E);rw[h6,V]at L;rcases W with W|W
 exact absurd ((blk_same L.1).2 H) W;exact absurd W L.2
def Qjd {g:List Nd}(H:Own g)(I:g.length<=40)(d:List Int): ∀(m k:Nat),k+m=g.length->(Qbd g d k (g.drop k)).length<=83*m
 |0,k,h=>by rw[Q6 (by omega)];exact Qt 0
 |m+1,k,h=>by
  have E:g[k]?=some g[k]:=Qg (by omega);generalize g[k]=x at E;have J:=in2 H (Qj E);have L:=Qbr x.1 g λx E=>in2 H E;have N:=Qjd H I d m (k+1) (by omega);rw[A.dropx E,Qbd];split;omega;rw[Qm,Qm,Qkg,outE,Qw];omega
def Qfw {g:List Nd}(E:Own g)(d:List Int): ∀(k:Nat) (l:List Nd),(∀n∈l,n∈g)->∀sp∈spotsF g d k l,0<=sp.1.2/\sp.1.2<=2
 |_,[],_,_,h=>by cases h
 |k,n::r,H,sp,h=>by
  have J:=in2 E (H n (Qi ..));unfold spotsF at h;rcases Q2.1 h with h|h
  have:=Qeo g d n.1 0 _ sp.1 sp.2 h;omega;rcases Q2.1 h with h|h
  unfold outS at h;split at h;rw[Qn]at h;subst h;simp;cases h;exact Qfw E d (k+1) r (λx I=>H x (Qf _ I)) sp h
def turns_same (g:List Nd)(d:List Int)(a0:(List (Int×Nd))×(List Int)×(List (Int×Int)))(h0:a0.1=mapOf g)(W:Few g)(Y:Inc g)(hfed:Fed g)(I:Own g)(N:InB d)(hr:RelD g d a0.2.2)(hd:d.length=g.length):
  ∃b,F.b4 a0 g=some b/\(∀O Q,F.cm g O Q (spots g d) (Qah g d) A.FU 0=some (if b=true then([],[],81)else(O.1,Q.1,0)))/\(b=true↔∃sp∈spots g d,Rch (okE g (spots g d) (Qah g d) sp.2) sp.1 sp.1):=by
 have hlen:=W.1;have hS:(spots g d).length<=120:=by
  have:=Qec I d g.length 0 (by omega);rw[W6]at this;unfold spots;omega
 have hE:(Qah g d).length<=4000:=by
  have:=Qjd I hlen d g.length 0 (by omega);rw[W6]at this;unfold Qah;omega
 have hN:=nodup_S (d:=d) Y I;have hok: ∀sp∈spots g d,SpOk g sp:=by
  have:=o_bf (d:=d) (g:=g) N g.length 0 (by omega);rw[W6]at this;exact this
 obtain⟨st,J,hl2⟩:=turns_l2 a0 (spots g d) (Qah g d) hE;have hto: ∀p q,q∈Z.mget [] st p->q∈(Qah g d).map λe=>e.2.1:=λp q h=>by
  obtain⟨e,E,_,V⟩:=(mem_st J).1 h;exact Wr.2 ⟨e,E,V⟩
 have htl: ∀p,(Z.mget [] st p).length<=4000:=λp=>by
  rw[J];unfold toOf;rw[Qw];exact Wq (X1 _ _) hE
 have hval: ∀sp∈spots g d,∃b,F.aW a0 st (spots g d) sp.1 sp.2=some b/\F.fr g (spots g d) (Qah g d) sp=some b/\(b=true↔Rch (okE g (spots g d) (Qah g d) sp.2) sp.1 sp.1):=λsp H=>by
  obtain⟨b,E,L⟩:=reaches_eq g a0 h0 st (spots g d) sp.1 sp.2 ((Qah g d).map λe=>e.2.1) (by rw[Qw];exact hE) hto htl (by rw[mget_mem hN (p:=sp.1) (v:=sp.2) H];exact Y7 _);obtain⟨b',V,h4⟩:=round_eq g (spots g d) (Qah g d) sp W Y (by omega) hE (λe he=>Qix d he);refine⟨b,E,?_,L.trans (rch_iff Y I J)⟩;rw[V];congr 1;rw[Jg,h4,L];exact(rch_iff Y I J).symm
 let p:Sp->Bool:=λsp=>(F.aW a0 st (spots g d) sp.1 sp.2).getD false;have hp: ∀sp∈spots g d,(p sp=true↔Rch (okE g (spots g d) (Qah g d) sp.2) sp.1 sp.1):=λsp H=>by
  obtain⟨b,E,_,V⟩:=hval sp H;rw[show p sp=b from Wn (λo=>Option.getD o false) E];exact V
 refine⟨(spots g d).any p,?_,λO Q=>?_,?_⟩;unfold F.b4;rw[show F.b3 a0 g=_ from spotsP_eq g d a0 W hfed I hr,Qa,turns_l3 g a0 (spots g d) (Qah g d) (by omega) hN (edgesP_eq g d a0 W hfed I N hr),hl2];have:=A.mrg_any (body:=F.aQ a0 (spots g d) st) (rest:=some false) (y:=true) (p:=p) (l:=spots g d) λsp H=>by
  obtain⟨b,E,_,_⟩:=hval sp H;obtain⟨⟨j,n,hn,hid⟩,hdd⟩:=hok sp H;have hng:=Qj hn;have hids:=own_id (I n hng);have hport:0<=sp.1.2/\sp.1.2<=2:=Qfw I d 0 g (λn hn=>hn) sp H;unfold F.aQ;have hh:decide (A.h6 sp.1.1)=true/\decide (A.h6 sp.1.2)=true:=⟨Qr (J2 ⟨by omega,by omega⟩),Qr (J2 ⟨by omega,by omega⟩)⟩;rw[A.gd1 hh,show F.aW a0 st (spots g d) sp.1 sp.2=_ from E,Qa,show p sp=b from Wn (λo=>Option.getD o false) E]
 rw[this];cases (spots g d).any p<;>rfl;have loop:=A.lp0 (spots g d) (λf y=>F.cm g O Q (spots g d) (Qah g d) f y) (λ_ t=>some (if t.any p=true then([],[],81)else(O.1,Q.1,0)))
  (λf=>by rw[F.cm,Qb (by omega)];rfl)
  (λf k x hx hk ih=>by
   obtain⟨b,E,L,_⟩:=hval x (Qj hx);rw[F.cm,Qc (by omega),A.ixn hx,Qa,show F.fr g (spots g d) (Qah g d) x=_ from L,Qa,Yd,show p x=b from Wn (λo=>Option.getD o false) E];cases b with
   |true=>rfl
   |false=>rw[Qb Q5,A.gd1 (A.r64n (by omega)),ih,Xo])
  (by have:=Qab;omega)
 exact loop;rw[Jb];exact⟨λ⟨sp,E,L⟩=>⟨sp,E,(hp sp E).1 L⟩,λ⟨sp,E,L⟩=>⟨sp,E,(hp sp E).2 L⟩⟩
def own_of {g:List Nd}(h:okL g 0 0 g=true):Own g:=λn H=>by
 obtain⟨j,I⟩:=W7.1 H;have E:=Qko g g.length 0 (by omega);rw[W6,show lastOf g 0=0 from rfl]at E;have:=E.1 h j n (by omega) I;cases hq:ownQ n with
 |true=>rfl
 |false=>exact absurd (.inr (.inl hq)) this
def Qfr (g:List Nd): ∀(r:Nat) (done:List Bool) (l l':List Int),Qbn g r done l=some l'->Plc g l->Plc g l'
 |0,done,l,l',h,hp=>by injection h with h;subst h;exact hp
 |r+1,done,l,l',h,hp=>by
  rw[Qbn]at h;by_cases H:Qad g done 0 g (-1)<0;rw[Qc H]at h;cases h
  ·rw[Qb H]at h
   by_cases I:g.length=0
   ·have:=Qej g done 0 g (-1) (by omega)
    have e:g=[]:=We I;subst e;simp[Qad]at H
   ·have J:=Qej g done 0 g (-1) (by omega) (by omega)
    refine Qfr g r _ _ l' h λi p E=>?_;rw[List.getElem?_append]at E;split at E;exact hp i p E
    ·rename_i L
     have:i-l.length=0:=by
      have:=(Qd.1 E).1;simp only[Qe,Ql]at this;omega
     rw[this]at E;injection E with E
     subst E;exact⟨(Qad g done 0 g (-1)).toNat,g[(Qad g done 0 g (-1)).toNat]'(by omega),by omega,Qg (by omega)⟩
structure Whole (g:List Nd) (l d:List Int) (dm:List (Int×Int)):Prop where
 inc:Inc g
 fed:Fed g
 own:Own g
 rel:RelD g d dm
 inb:InB d
 dlen:d.length=g.length
 key:KeyD g l dm
 plc:Plc g l
 llen:l.length=g.length
 ord:Qbn g g.length (List.replicate g.length false) []=some l
 dep:Qbc g l (List.replicate g.length 0)=some d
 lps:Qbo g d g=true
 nort: ∀sp∈spots g d,¬Rch (okE g (spots g d) (Qah g d) sp.2) sp.1 sp.1
 kin:g.all (λn=>n.2.2.1.all (inOk g))=true
 okr:okR g 0 g=true
 chk:g.all (λn=>decide (chk n.2.1 n.2.2.2.1=0))=true
 l32:g.length<=32
def whole_same (g:List Nd)(L:Few g):
  (∃e,e≠0/\F.cB g=some (none,e)/\F.dJ g=some ([],[],e))\/
  (∃l d dm,F.cB g=some (some (mapOf g,l.map (idAt g),dm),0)/\F.dJ g=some (l,d,0)/\Whole g l d dm):=by
 rw[whole_P g L];unfold F.dJ;rw[parts_eq g L,ok_eq];by_cases J:(32:Int)<(g.length:Int);rw[Qc J,Qc J];exact .inl ⟨80,by decide,rfl,rfl⟩;rw[Qb J,Qb J];by_cases E:okR g 0 g=true;case neg=>rw[Qb E,Qb E];exact .inl ⟨80,by decide,rfl,rfl⟩
 rw[Qc E,Qc E];by_cases I:g.all (λn=>decide (chk n.2.1 n.2.2.2.1=0))=true;case neg=>rw[Qb I,Qb I];exact .inl ⟨60,by decide,rfl,rfl⟩
 rw[Qc I,Qc I];by_cases H:g.all (λn=>n.2.2.1.all (inOk g))=true;case neg=>rw[Qb H,Qb H];exact .inl ⟨80,by decide,rfl,rfl⟩
 rw[Qc H,Qc H,Qa,Qb (by decide)];have N:=ok_inc E;have hfed:=fed_of H;have O:=own_of (by rw[ok_eq];exact E);have hlen:=L.1;unfold sortP;rcases order_sort L N hfed (mapOf g)with⟨l,Q,V,Y,W⟩|⟨Q,p,V⟩
 case inr=>rw[Q,V];exact .inl ⟨81,by decide,rfl,rfl⟩
 rw[Q,V];simp only[Qa,Wz,Qx,Wa];have hplc:Plc g l:=Qfr g g.length _ [] l W λi p h=>by cases h
 rcases Qjo g l L N hfed O (by omega) hplc with⟨d,dm,d1,d2,d3,d4,d5,d6,d7,d8⟩|⟨d1,p,d2⟩
 case inr=>rw[d1,d2];exact .inl ⟨80,by decide,rfl,rfl⟩
 rw[d1,d2];simp only[Qa,Wz,Qx,Wa];obtain⟨b,t1,t2,t3⟩:=turns_same g d (mapOf g,l.map (idAt g),dm) rfl L N hfed O d4 d3 d5;rw[t1,spotsR_eq g d L hfed O d5];simp only[Qa];rw[edgesR_eq g d L N O d4];simp only[Qa,t2];cases b with
 |true=>exact .inl ⟨81,by decide,rfl,rfl⟩
 |false=>exact .inr ⟨l,d,dm,rfl,rfl,N,hfed,O,d3,d4,d5,d6,hplc,Y,W,d8,d7,λsp Q V=>Bool.noConfusion (t3.2 ⟨sp,Q,V⟩),H,E,I,by omega⟩
def clone_int (l:List Int)(h:l.length<=5000):F.bF l=some l:=by
 unfold F.bF;rw[A.gd1 (by simp only[Ql];omega)];rfl
def set_same {α:Type}{l:List α}{k:Nat}{x:α}(h:l[k]?=some x):l.set k x=l:=by
 apply Xa;intro i;rw[Yq];split;rename_i e;subst e;split;rw[h];rename_i E;rw[Wf (by omega)];rfl
def Clone_eq (g:List Nd)(I:g.length<=100)(h: ∀n∈g,n.2.2.1.length<=5000):F.e0 g=some g:=by
 unfold F.e0 F.aR;rw[A.gd1 (by simp only[Ql];omega),Qa];exact A.lp g (λf (s:List Nd) y=>F.b7 g f s y) (λ_ _ s=>some s) (λ_ s=>s=g)
  (λf s hs=>by rw[F.b7,Qb (by omega)])
  (λf s k x E hk hs H=>by
   subst hs;rw[F.b7,Qc (by omega),A.ixn E,Qa,clone_int _ (h x (Qj E)),Qa,Qa,A.gd1 (A.r64n (by omega))];rw[show(List.set s (k:Int).toNat x)=s from by rw[Qv];exact set_same E];exact H s rfl)
  (by have:=Qab;omega) g rfl
def inc_ext: ∀{a b:List Nd},Inc a->Inc b->(∀x,x∈a↔x∈b)->a=b
 | [],[],_,_,_=>rfl
 | [],y::b,_,_,h=>absurd ((h y).2 (Qi ..)) (by simp)
 |x::a,[],_,_,h=>absurd ((h x).1 (Qi ..)) (by simp)
 |x::a,y::b,Q,V,h=>by
  obtain⟨E,J⟩:=Qu.1 Q;obtain⟨H,L⟩:=Qu.1 V;have N:x=y:=by
   rcases Qk.1 ((h x).1 (Qi ..))with e|W
   exact e;rcases Qk.1 ((h y).2 (Qi ..))with e|Y
   exact e.symm;have:=H x W;have:=E y Y;omega
  subst N;rw[inc_ext J L λz=>⟨λI=>?_,λI=>?_⟩];rcases Qk.1 ((h z).1 (Qf _ I))with e|O
  subst e;have:=E z I;omega;exact O;rcases Qk.1 ((h z).2 (Qf _ I))with e|O
  subst e;have:=H z I;omega;exact O
def mrgN (drop:List Int):List Nd->List Nd->List Nd
 | [],p=>p
 |x::g,[]=>if x.1∈drop then mrgN drop g []else x::mrgN drop g []
 |x::g,y::p=>if x.1<y.1 then(if x.1∈drop then mrgN drop g (y::p)else x::mrgN drop g (y::p))else if x.1=y.1 then y::mrgN drop g p else y::mrgN drop (x::g) p
termination_by g p=>g.length+p.length
def Qan (drop:List Int): ∀(n:Nat) (g p:List Nd),g.length+p.length<=n->Inc g->Inc p->∀x,x∈mrgN drop g p↔x∈p\/(x∈g/\x.1∉drop/\∀y∈p,y.1≠x.1)
 |0,[],[],_,_,_,x=>by simp[mrgN]
 |0,_::_,_,h,_,_,_=>by simp at h
 |0,[],_::_,h,_,_,_=>by simp at h
 |n+1,[],p,_,_,_,x=>by simp[mrgN]
 |n+1,a::g,[],h,hg,hp,x=>by
  obtain⟨Q,L⟩:=Qu.1 hg;have W:=Qan drop n g [] (by simp only[Qe]at h;simpa using (by omega:g.length<=n)) L hp x;rw[mrgN];by_cases N:a.1∈drop;rw[Qc N,W,Qk];constructor;rintro(E|⟨E,I⟩);exact .inl E;exact .inr ⟨.inr E,I⟩;rintro(E|⟨rfl|E,I⟩);exact .inl E;exact absurd N I.1;exact .inr ⟨E,I⟩;rw[Qb N,Qk,W,Qk];constructor;rintro(rfl|E|⟨E,I⟩);exact .inr ⟨.inl rfl,N,by simp⟩;exact .inl E;exact .inr ⟨.inr E,I⟩;rintro(E|⟨E|E,I⟩);exact .inr (.inl E);exact .inl E;exact .inr (.inr ⟨E,I⟩)
 |n+1,a::g,b::p,h,hg,hp,x=>by
  obtain⟨Q,L⟩:=Qu.1 hg;obtain⟨hp1,Y⟩:=Qu.1 hp;simp only[Qe]at h;rw[mrgN];by_cases E:a.1<b.1;have hne: ∀y∈b::p,y.1≠a.1:=λy J=>by
   rcases Qk.1 J with rfl|J
   omega;have:=hp1 y J;omega
  have W:=Qan drop n g (b::p) (by simp only[Qe];omega) L hp x;rw[Qc E];by_cases N:a.1∈drop;rw[Qc N,W];constructor;rintro(E|⟨E,I⟩);exact .inl E;exact .inr ⟨Qf _ E,I⟩;rintro(E|⟨E,I⟩);exact .inl E;rcases Qk.1 E with rfl|E
  exact absurd N I.1;exact .inr ⟨E,I⟩;rw[Qb N,Qk,W];constructor;rintro(rfl|E|⟨E,I⟩);exact .inr ⟨Qi ..,N,hne⟩;exact .inl E;exact .inr ⟨Qf _ E,I⟩;rintro(E|⟨E,I⟩);exact .inr (.inl E);rcases Qk.1 E with rfl|E
  exact .inl rfl;exact .inr (.inr ⟨E,I⟩);rw[Qb E];by_cases I:a.1=b.1;rw[Qc I,Qk,Qan drop n g p (by omega) L Y x,Qk,Qk];constructor;rintro(rfl|H|⟨H,V,O⟩);exact .inl (.inl rfl);exact .inl (.inr H);refine .inr ⟨.inr H,V,λy J=>?_⟩;rcases Qk.1 J with rfl|J
  have:=Q x H;omega;exact O y J;rintro((H|H)|⟨H|H,V,O⟩);exact .inl H;exact .inr (.inl H);exact absurd (by rw[H];exact I.symm) (O b (Qi ..));exact .inr (.inr ⟨H,V,λy J=>O y (Qf _ J)⟩);rw[Qb I,Qk,Qan drop n (a::g) p (by simp only[Qe];omega) hg Y x,Qk,Qk];constructor;rintro(rfl|H|⟨H,V,O⟩);exact .inl (.inl rfl);exact .inl (.inr H);refine .inr ⟨H,V,λy J=>?_⟩;rcases Qk.1 J with rfl|J
  rcases H with rfl|H
  omega;have:=Q x H;omega;exact O y J;rintro((H|H)|⟨H,V,O⟩);exact .inl H;exact .inr (.inl H);exact .inr (.inr ⟨H,V,λy J=>O y (Qf _ J)⟩)
def Qcm (drop:List Int): ∀(n:Nat) (g p:List Nd),g.length+p.length<=n->Inc g->Inc p->Inc (mrgN drop g p)
 |0,[],[],_,_,_=>by simp[mrgN,Inc]
 |0,_::_,_,h,_,_=>by simp at h
 |0,[],_::_,h,_,_=>by simp at h
 |n+1,[],p,_,_,hp=>by simpa[mrgN] using hp
 |n+1,a::g,[],h,V,hp=>by
  obtain⟨I,E⟩:=Qu.1 V;have L:g.length+([]:List Nd).length<=n:=by simp only[Qe,Ql]at h ⊢;omega
  have W:=Qcm drop n g [] L E hp;rw[mrgN];split;exact W;refine Qu.2 ⟨λy N=>?_,W⟩;rcases(Qan drop n g [] L E hp y).1 N with O|O
  cases O;exact I y O.1
 |n+1,a::g,b::p,h,V,hp=>by
  obtain⟨I,E⟩:=Qu.1 V;obtain⟨Q,J⟩:=Qu.1 hp;simp only[Qe]at h;rw[mrgN];by_cases O:a.1<b.1;have L:g.length+(b::p).length<=n:=by simp only[Qe];omega
  have W:=Qcm drop n g (b::p) L E hp;rw[Qc O];split;exact W;refine Qu.2 ⟨λy N=>?_,W⟩;rcases(Qan drop n g (b::p) L E hp y).1 N with H|H
  rcases Qk.1 H with rfl|H
  exact O;have:=Q y H;omega;exact I y H.1;rw[Qb O];by_cases Y:a.1=b.1;rw[Qc Y];refine Qu.2 ⟨λy N=>?_,Qcm drop n g p (by omega) E J⟩;rcases(Qan drop n g p (by omega) E J y).1 N with H|H
  exact Q y H;have:=I y H.1;omega;rw[Qb Y];have L:(a::g).length+p.length<=n:=by simp only[Qe];omega
  refine Qu.2 ⟨λy N=>?_,Qcm drop n (a::g) p L V J⟩;rcases(Qan drop n (a::g) p L V J y).1 N with H|⟨H,_⟩
  exact Q y H;rcases Qk.1 H with rfl|H
  omega;have:=I y H;omega
def Qch (drop:List Int): ∀(n:Nat) (g p:List Nd),g.length+p.length<=n->(mrgN drop g p).length<=g.length+p.length
 |0,[],[],_=>by simp[mrgN]
 |0,_::_,_,h=>by simp at h
 |0,[],_::_,h=>by simp at h
 |n+1,[],p,_=>by simp[mrgN]
 |n+1,a::g,[],h=>by
  simp only[Qe,Ql]at h;have E:=Qch drop n g [] (by simpa using (by omega:g.length<=n));simp only[Ql]at E;rw[mrgN];split<;>simp only[Qe,Ql]<;>omega
 |n+1,a::g,b::p,h=>by
  simp only[Qe]at h;have H:=Qch drop n g (b::p) (by simp only[Qe];omega);have J:=Qch drop n g p (by omega);have I:=Qch drop n (a::g) p (by simp only[Qe];omega);simp only[Qe]at H I;rw[mrgN];repeat' split
  all_goals simp only[Qe];omega
def madeF (m:List (Int×Nd)):Nat->Nat->List Nd
 |0,_=>[]
 |n+1,i=>if Z.mhas m (i:Int)=true then Z.mget z0 m (i:Int)::madeF m n (i+1)else madeF m n (i+1)
def Keyd (m:List (Int×Nd)):Prop:=∀i:Int,Z.mhas m i=true->(Z.mget z0 m i).1=i
def madeF_mem {m:List (Int×Nd)}: ∀(n i:Nat) (x:Nd),x∈madeF m n i↔∃j:Nat,i<=j/\j<i+n/\Z.mhas m (j:Int)=true/\Z.mget z0 m (j:Int)=x
 |0,i,x=>by
  simp only[madeF,Y9,false_iff];rintro⟨j,H,I,_⟩;omega
 |n+1,i,x=>by
  rw[madeF];have L:=madeF_mem (m:=m) n (i+1) x;by_cases h:Z.mhas m (i:Int)=true;rw[Qc h,Qk,L];constructor;rintro(rfl|⟨j,H,I,E⟩);exact⟨i,by omega,by omega,h,rfl⟩;exact⟨j,by omega,by omega,E⟩;rintro⟨j,H,I,E,J⟩;by_cases e:j=i;subst e;exact .inl J.symm;exact .inr ⟨j,by omega,by omega,E,J⟩;rw[Qb h,L];constructor;rintro⟨j,H,I,E⟩;exact⟨j,by omega,by omega,E⟩;rintro⟨j,H,I,E,J⟩;by_cases e:j=i;subst e;exact absurd E h;exact⟨j,by omega,by omega,E,J⟩
def Qer {m:List (Int×Nd)}(hk:Keyd m): ∀(n i:Nat),Inc (madeF m n i)
 |0,i=>by simp[madeF,Inc]
 |n+1,i=>by
  rw[madeF];split;rename_i h;refine Qu.2 ⟨λy E=>?_,Qer hk n (i+1)⟩;obtain⟨j,J,L,H,I⟩:=(madeF_mem n (i+1) y).1 E;rw[hk _ h,<-I,hk _ H];omega;exact Qer hk n (i+1)
def Qef {g:List Nd}{id:Int}:Z.mhas (mapOf g) id=true↔∃n∈g,n.1=id:=by
 rcases Qam z0 g id with⟨_,E,_,H⟩|⟨j,n,_,E,I,_,J⟩
 rw[H];simp only[Qx,false_iff];rintro⟨n,L,e⟩;exact E n L e;rw[J];simp only[true_iff];exact⟨n,Qj E,I⟩
def Inc.got {g:List Nd}(h:Inc g){n:Nd}(E:n∈g)(z:Nd):Z.mget z (mapOf g) n.1=n/\Z.mhas (mapOf g) n.1=true:=by
 obtain⟨j,H⟩:=Xe E;exact⟨h.mget H,Qef.2 ⟨n,E,rfl⟩⟩
def made_eq {g p:List Nd}{drop:List Int}{m:List (Int×Nd)}(V:Inc g)(hp:Inc p)(rg: ∀n∈g,0<=n.1/\n.1<=255)(rp: ∀n∈p,0<=n.1/\n.1<=255)
  (W: ∀i,Z.mhas m i=(Z.mhas (mapOf p) i||(Z.mhas (mapOf g) i&& !decide (i∈drop)))) (I: ∀i,Z.mhas m i=true->Z.mget z0 m i=if Z.mhas (mapOf p) i=true then Z.mget z0 (mapOf p) i else Z.mget z0 (mapOf g) i):
  madeF m 256 0=mrgN drop g p:=by
 have key: ∀i,Z.mhas m i=true->(Z.mget z0 m i∈p/\(Z.mget z0 m i).1=i)\/(Z.mget z0 m i∈g/\(Z.mget z0 m i).1=i/\i∉drop/\∀y∈p,y.1≠i):=λi J=>by
  have H:=I i J;rw[W i]at J;by_cases E:Z.mhas (mapOf p) i=true;rw[Qc E]at H;obtain⟨n,O,e⟩:=Qef.1 E;subst e;rw[H,(hp.got O z0).1];exact .inl ⟨O,rfl⟩;rw[Qb E]at H;rw[Yw]at E;rw[E,Xo,Qo]at J;obtain⟨n,O,e⟩:=Qef.1 J.1;subst e;rw[H,(V.got O z0).1];refine .inr ⟨O,rfl,by simpa using J.2,λy Q e=>?_⟩;rw[Qef.2 ⟨y,Q,e⟩]at E;cases E
 have hk:Keyd m:=λi J=>by
  rcases key i J with h|h
  exact h.2;exact h.2.1
 refine inc_ext (Qer hk 256 0) (Qcm drop _ g p (Qt _) V hp) λx=>?_;rw[madeF_mem,Qan drop _ g p (Qt _) V hp];constructor;rintro⟨j,_,_,Y,L⟩;subst L;rcases key j Y with h|⟨h5,h6,h7,h8⟩
 exact .inl h.1;exact .inr ⟨h5,by rw[h6];exact h7,λy Q=>by rw[h6];exact h8 y Q⟩;intro N;have H:Z.mhas m x.1=true/\Z.mget z0 m x.1=x/\0<=x.1/\x.1<=255:=by
  rcases N with N|⟨N,h2,Y⟩
  obtain⟨e1,e2⟩:=hp.got N z0;have L:Z.mhas m x.1=true:=by rw[W,e2];rfl
  exact⟨L,by rw[I _ L,Qc e2,e1],rp x N⟩;obtain⟨e1,e2⟩:=V.got N z0;have h5: ¬Z.mhas (mapOf p) x.1=true:=λh=>by
   obtain⟨y,Q,e⟩:=Qef.1 h;exact Y y Q e
  have L:Z.mhas m x.1=true:=by rw[W,e2];simp[h2]
  exact⟨L,by rw[I _ L,Qb h5,e1],rg x N⟩
 refine⟨x.1.toNat,by omega,by omega,?_,?_⟩;rw[Xb H.2.2.1];exact H.1;rw[Xb H.2.2.1];exact H.2.1
end Go.Proofs.YtlhiofnikdppeaaGreatDoor
end
section
namespace Go.A
def eqk {α ρ:Type}[DecidableEq α](a b:List α)(L:Nat->Int->Option ρ)(t e:Option ρ)(J:a.length=b.length)(N: ∀f,L (f+1) (a.length:Int)=t)
  (O: ∀f (k:Nat) x y,a[k]?=some x->b[k]?=some y->k<a.length->L (f+1) (k:Int)=if x=y then L f ((k:Int)+1)else e) (H:a.length<FU):L FU 0=if a=b then t else e:=by
 have:=lp0 a L (λk l=>if l=b.drop k then t else e)
  (λf=>by rw[N,J,Q6 (Qt _),Qc rfl])
  (λf k x Q hk V=>by
   have I:b[k]?=some b[k]:=Qg (by omega);rw[O f k x _ Q I hk,dropx I,V];by_cases h:x=b[k];rw[Qc h];by_cases E:a.drop (k+1)=b.drop (k+1);rw[Qc E,Qc (by rw[h,E])];rw[Qb E,Qb (λe=>E (List.cons.inj e).2)];rw[Qb h,Qb (λe=>h (List.cons.inj e).1)]) H
 rw[this,W6]
def ite_dec {p:Prop}[Decidable p]:(if p then some true else some false)=some (decide p):=by by_cases h:p<;>simp[h]
end Go.A
namespace Go.Proofs.YtlhiofnikdppeaaGreatDoor
open Go.RowKit Go.Graph
abbrev Dl:=List Int×List Nd×List Mv
def Sml (g:List Nd):Prop:=g.length<=200/\∀n∈g,n.2.2.1.length<=5000/\n.2.2.2.2.1.size<=5000/\n.2.2.2.1.2.2.size<=5000
def Sml.few {g:List Nd}(h:Sml g)(E:g.length<=40):Few g:=⟨E,h.2⟩
def Sml.in {g:List Nd}(h:Sml g){n:Nd}(E:n∈g):n.2.2.1.length<=5000:=(h.2 n E).1
structure Good (g:List Nd):Prop where
 inc:Inc g
 own:Own g
 fed:Fed g
 len:g.length<=32
def Good.id {g:List Nd}(h:Good g){n:Nd}(E:n∈g):1<=n.1/\n.1<=255:=own_id (h.own n E)
def Qga (g:List Nd)(hs:Sml g): ∃e,F.d0 g=some e/\F.fs g=some e/\(e=0->Good g)/\((∃n∈g,n.1<1\/255<n.1)->e=80):=by
 unfold F.d0 F.fs;by_cases H:(32:Int)<(g.length:Int);unfold F.cB F.dJ F.fo;rw[Qc H,Qc H];exact⟨80,rfl,rfl,λh=>(by cases h),λ_=>rfl⟩;have N:=hs.few (by omega);rcases whole_same g N with⟨e,O,J,E⟩|⟨l,d,dm,J,E,W⟩
 refine⟨e,by rw[J];rfl,by rw[E];rfl,λh=>absurd h O,λ⟨n,L,Q⟩=>?_⟩;have I: ¬okR g 0 g=true:=λI=>by
  have:=own_id (own_of (by rw[ok_eq];exact I) n L);omega
 unfold F.dJ at E;rw[parts_eq g N,Qb H,Qb I]at E;simp only[Qa]at E;rw[Qc (by decide)]at E;injection E with E
 injection E with _ E
 injection E with _ E
 exact E.symm;refine⟨0,by rw[J];rfl,by rw[E];rfl,λ_=>⟨W.inc,W.own,W.fed,by omega⟩,λ⟨n,L,Q⟩=>?_⟩;have:=own_id (W.own n L);omega
def Qbk:List Int->Bool
 |a::b::r=>decide (a<b)&&Qbk (b::r)
 |_=>true
def rise_iff: ∀l:List Int,Qbk l=true↔l.Pairwise (· < ·)
 | []=>by simp[Qbk]
 | [a]=>by simp[Qbk]
 |a::b::r=>by
  rw[Qbk,Qo,Ww,rise_iff (b::r),Qu (a:=a)];constructor;rintro⟨I,H⟩;refine⟨λx E=>?_,H⟩;rcases Qk.1 E with rfl|E
  exact I;have:=(Qu.1 H).1 x E;omega;exact λh=>⟨h.1 b (Qi ..),h.2⟩
def rise_inc {g:List Nd}:Qbk (g.map (·.1))=true↔Inc g:=by
 rw[rise_iff,Jr];rfl
def rise_at {l:List Int}{k:Nat}{a b:Int}(E:l[k]?=some a)(H:l[k+1]?=some b):Qbk (l.drop k)=(decide (a<b)&&Qbk (l.drop (k+1))):=by
 rw[A.dropx E,A.dropx H,Qbk]
def Qgf {l:List Int}{k:Nat}(h:l.length<=k+1):Qbk (l.drop k)=true:=by
 rcases E:l.drop k with _|⟨a,_|⟨b,r⟩⟩
 rfl;rfl;have:=Wn List.length E;simp only[Xv,Qe]at this;omega
def Qii (l:List Int)(O:l.length<=100000):F.en l=some (Qbk l):=by
 have main: ∀(n k f:Nat),l.length-k<=n->n<f->F.bE l f ((k:Int)+1)=some (Qbk (l.drop k)):=by
  intro n;induction n with
  |zero=>
   intro k f J L;obtain⟨f,rfl⟩: ∃f',f=f'+1:=⟨f-1,by omega⟩;rw[F.bE,Qb (by omega),Qgf (by omega)]
  |succ n N=>
   intro k f J L;obtain⟨f,rfl⟩: ∃f',f=f'+1:=⟨f-1,by omega⟩;rw[F.bE];by_cases h:k+1<l.length;have E:l[k]?=some l[k]:=Qg (by omega);have H:l[k+1]?=some l[k+1]:=Qg h;rw[Qc (by omega),A.gd1 ⟨by omega,by omega⟩,show((k:Int)+1-1)=(k:Int) by omega,A.ixn E,Qa,show((k:Int)+1)=((k+1:Nat):Int) by omega,A.ixn H,Qa,rise_at E H];by_cases I:l[k+1]<=l[k];rw[Qc I,Q7 (by omega)];rfl;rw[Qb I,A.gd1 (A.r64n (by omega)),N (k+1) f (by omega) (by omega),Qr (by omega:l[k]<l[k+1])];rfl;rw[Qb (by omega),Qgf (by omega)]
 have:=main l.length 0 A.FU (by omega) (by have:=Qab;omega);exact this
def has_eq (l:List Int)(x:Int)(J:l.length<=100000):F.f5 l x=some (decide (x∈l)):=
 A.lp0 l (λf y=>F.dP l x f y) (λ_ r=>some (decide (x∈r)))
  (λf=>by rw[F.dP,Qb (by omega)];rfl)
  (λf k a E hk H=>by
   rw[F.dP,Qc (by omega),A.ixn E,Qa];by_cases h:a=x;rw[Qc h,Qr (by rw[h];exact Qi ..)];rw[Qb h,A.gd1 (A.r64n (by omega)),H];congr 1;refine decide_eq_decide.2 ?_;rw[Qk];exact⟨.inr,λI=>I.resolve_left λe=>h e.symm⟩)
  (by have:=Qab;omega)
def Qet (l:List Int)(x:Int)(Q:l.length<=100000):F.aE l x=some (decide (x∈l)):=by
 have: ∀(n k f:Nat),k+n=l.length->n<f->∃i:Int,F.af l x f (k:Int)=some i/\(0<=i↔x∈l.drop k):=by
  intro n;induction n with
  |zero=>
   intro k f E H;obtain⟨f,rfl⟩: ∃f',f=f'+1:=⟨f-1,by omega⟩;rw[F.af,Qb (by omega),Q6 (by omega)];exact⟨-1,rfl,by simp⟩
  |succ n J=>
   intro k f E H;obtain⟨f,rfl⟩: ∃f',f=f'+1:=⟨f-1,by omega⟩;have I:l[k]?=some l[k]:=Qg (by omega);rw[F.af,Qc (by omega),A.ixn I,Qa,A.dropx I];by_cases h:x=l[k];rw[Qc h];exact⟨k,rfl,λ_=>by rw[h];exact Qi ..,λ_=>by omega⟩;rw[Qb h,A.gd1 (A.r64n (by omega))];obtain⟨i,L,N⟩:=J (k+1) f (by omega) (by omega);exact⟨i,L,by rw[N,Qk];exact⟨.inr,λO=>O.resolve_left h⟩⟩
 obtain⟨i,E,H⟩:=this l.length 0 A.FU (by omega) (by have:=Qab;omega);unfold F.aE F.cv;rw[show F.af l x A.FU 0=some i from E,Qa];congr 1;exact decide_eq_decide.2 H
def ids_eq (g:List Nd)(I:g.length<=10000):F.gl g=some (g.map (·.1)):=by
 have:=A.lp g (λf (s:List Int) y=>F.cN g f s y) (λ_ l s=>some (s++l.map (·.1))) (λk s=>s.length=k)
  (λf s hs=>by rw[F.cN,Qb (by omega),Xk,Wh])
  (λf s k x E hk hs H=>by
   rw[F.cN,Qc (by omega),A.ixn E,Qa,A.gd1 (by simp only[Qe,Ql];omega),A.gd1 (A.r64n (by omega)),H _ (by simp only[Qm,Qe,Ql];omega)];rw[Q0];rfl)
  (by have:=Qab;omega) [] rfl
 rw[Wl]at this;exact this
abbrev gt (g:List Nd) (id:Int):Nd:=Z.mget z0 (mapOf g) id
abbrev hs (g:List Nd) (id:Int):Bool:=Z.mhas (mapOf g) id
def Qgs (g:List Nd)(I:Inc g)(N:g.length<=10000):F.dL g=some (mapOf g):=by
 exact A.lp g (λf (s:List (Int×Nd)) y=>F.cq g f s y) (λ_ _ _=>some (mapOf g)) (λk s=>s=mapOf (g.take k))
  (λf s hs=>by rw[F.cq,Qb (by omega),hs,Q3 (Qt _)])
  (λf s k x H hk hs J=>by
   rw[F.cq,Qc (by omega),A.ixn H,Qa,A.gd1 (A.r64n (by omega))];refine J _ ?_;have hnew:Z.mhas s x.1=false:=by
    rw[hs];refine Qdb λn L e=>?_;obtain⟨i,E⟩:=Xe L;rw[Xp]at E;split at E;have:=I.inj E H e;omega;cases E
   rw[show(x:Nd)=x from rfl,Qcv hnew,hs,Qbs H];simp[mapOf])
  (by have:=Qab;omega) [] rfl
def Qiw (g:List Nd)(id:Int)(I:g.length<=10000):F.fm g id=some (gt g id,hs g id):=
 A.lp0 g (λf y=>F.dO g id f y) (λ_ l=>some (gt l id,hs l id))
  (λf=>by rw[F.dO,Qb (by omega)];rfl)
  (λf k x E hk H=>by
   rw[F.dO,Qc (by omega),A.ixn E,Qa];unfold gt hs mapOf;simp only[Q1,Z.mget,Z.mhas];by_cases h:x.1=id;rw[Qc h,Qc h.symm,Qc h.symm,Qa];rw[Qb h,Qb (λe=>h e.symm),Qb (λe=>h e.symm),A.gd1 (A.r64n (by omega)),H];rfl)
  (by have:=Qab;omega)
def Qjf (g:List Nd)(id:Int):Bool:=hs g id&&decide ((gt g id).2.1≠1)
def Qfs (g:List Nd)(l:List Int):Bool:=l.all (Qjf g)&&Qbk l
def drops_P (g:List Nd)(d:Dl)(I:d.1.length<=1000):F.eZ (mapOf g) d=some (Qfs g d.1):=
 A.lp0 d.1 (λf y=>F.b6 (mapOf g) d f y) (λ_ l=>some (l.all (Qjf g)&&Qbk d.1))
  (λf=>by rw[F.b6,Qb (by omega),Qii _ (by omega)];rfl)
  (λf k x E hk H=>by
   rw[F.b6,Qc (by omega),A.ixn E,Qa,A.lt,Xl,Qjf,Xx];change (if(if(!(hs g x))=true then true else decide ((gt g x).2.1=1))=true then _ else _)=_;cases hs g x with
   |false=>simp
   |true=>
    by_cases h:(gt g x).2.1=1;simp[h];simp only[Wz,Qx,Wa,h,decide_false,ne_eq,not_false_eq_true,decide_true,Wy];rw[A.gd1 (A.r64n (by omega)),H])
  (by have:=Qab;omega)
def Qff (l:List Int)(k:Nat):Bool:=if k=0 then Qbk l else Qbk (l.drop (k-1))
def riseP_at {l:List Int}{k:Nat}{x:Int}(E:l[k]?=some x):(k=0/\Qff l k=Qff l (k+1))\/(∃p,0<k/\l[k-1]?=some p/\Qff l k=(decide (p<x)&&Qff l (k+1))):=by
 rcases Nat.eq_zero_or_pos k with h|h
 subst h;exact .inl ⟨rfl,rfl⟩;have hk:=(Qd.1 E).1;have hp:l[k-1]?=some l[k-1]:=Qg (by omega);refine .inr ⟨_,h,hp,?_⟩;unfold Qff;rw[Qb (by omega),Qb (by omega),rise_at hp (b:=x) (by rw[show k-1+1=k by omega];exact E),show k-1+1=k+1-1 by omega]
def Qil (l:List Int):Qff l l.length=true:=by
 unfold Qff;split;rename_i h;rw[We h];rfl;exact Qgf (by omega)
def drops_R (g:List Nd)(l:List Int)(N:g.length<=1000)(O:l.length<=1000):F.gm g l=some (Qfs g l&&decide ((l.length:Int)<=32)):=by
 have:=A.lp0 l (λf y=>F.bI g l f y) (λk r=>some (r.all (Qjf g)&&Qff l k&&decide ((l.length:Int)<=32)))
  (λf=>by rw[F.bI,Qb (by omega),Qil];simp)
  (λf k x E hk I=>by
   rw[F.bI,Qc (by omega),A.ixn E,Qa,Qiw g x (by omega),Qa,F.fD,Xl,Qjf];simp only[F.dv,Xx];cases hs g x with
   |false=>simp
   |true=>
    by_cases h:(gt g x).2.1=1;simp[h];simp only[Wz,Qx,Wa,h,decide_false,ne_eq,not_false_eq_true,decide_true,Wy];rcases riseP_at E with⟨L,H⟩|⟨p,L,hp,H⟩
    rw[Qb (by omega),A.gd1 (A.r64n (by omega)),I,H];rw[Qc (by omega),A.gd1 ⟨by omega,by omega⟩,show((k:Int)-1)=((k-1:Nat):Int) by omega,A.ixn E,Qa,A.ixn hp,Qa,H];by_cases J:x<=p;rw[Qc (Qr J),Q7 (by omega: ¬p<x)];simp;rw[Qb (by rw[Ww];exact J),A.gd1 (A.r64n (by omega)),I,Qr (by omega:p<x),Wy])
  (by have:=Qab;omega)
 exact this
def Qku (g:List Nd)(drop:List Int)(n:Nd):Bool:=decide (n.2.1≠1)&& !(hs g n.1&&decide ((gt g n.1).2.1=1))&&decide (n.1∉drop)
def Qhl (g:List Nd)(d:Dl):Bool:=d.2.1.all (Qku g d.1)&&Qbk (d.2.1.map (·.1))
def puts_P (g:List Nd)(d:Dl)(N:d.1.length<=1000)(hp:d.2.1.length<=1000):F.fz (mapOf g) d=some (Qhl g d):=
 A.lp0 d.2.1 (λf y=>F.aH (mapOf g) d f y) (λ_ l=>some (l.all (Qku g d.1)&&Qbk (d.2.1.map λn:Nd=>n.1)))
  (λf=>by rw[F.aH,Qb (by omega),ids_eq _ (by omega),Qa,Qii _ (by rw[Qw];omega)];rfl)
  (λf k x I hk J=>by
   rw[F.aH,Qc (by omega),A.ixn I,Qa,A.lt,Xl,Qku];simp only[F.cX,Xx,Qet d.1 x.1 (by omega),Qa];change (if x.2.1=1 then _ else if(if hs g x.1=true then decide ((gt g x.1).2.1=1)else false)=true then _ else _)=_;by_cases E:x.2.1=1;simp[E];rw[Qb E,Qr (show x.2.1≠1 from E),Wy];have hrest:(if decide (x.1∈d.1)=true then some false else A.gd (Z.R64 ((k:Int)+1)) (F.aH (mapOf g) d f ((k:Int)+1)))=some (decide (x.1∉d.1)&&(d.2.1.drop (k+1)).all (Qku g d.1)&&Qbk (d.2.1.map (·.1))):=by
    by_cases H:x.1∈d.1;simp[H];rw[Qb (by rw[Ww];exact H),A.gd1 (A.r64n (by omega)),J,Qr H,Wy]
   rw[hrest];cases hs g x.1<;>by_cases L:(gt g x.1).2.1=1<;>simp[L])
  (by have:=Qab;omega)
def puts_R (g:List Nd)(d:Dl)(Y:g.length<=1000)(hd:d.1.length<=1000)(hp:d.2.1.length<=1000):F.gd g d=some (Qhl g d&&decide ((d.2.1.length:Int)<=32)):=by
 have:=A.lp0 d.2.1 (λf y=>F.cd g d f y) (λk r=>some (r.all (Qku g d.1)&&Qff (d.2.1.map λn:Nd=>n.1) k&&decide ((d.2.1.length:Int)<=32)))
  (λf=>by
   have e:=Qil (d.2.1.map (·.1));rw[Qw]at e;rw[F.cd,Qb (by omega),e];simp)
  (λf k x I hk N=>by
   have J:(d.2.1.map (·.1))[k]?=some x.1:=by rw[Qq,I];rfl
   rw[F.cd,Qc (by omega),A.ixn I,Qa,Qiw g x.1 (by omega),Qa,F.fL,A.ixn I,Qa,Xl,Qku];simp only[F.cD,Xx,Qa,has_eq d.1 x.1 (by omega)];by_cases E:x.2.1=1;simp[E];rw[Qb E,Qr (show x.2.1≠1 from E),Wy];generalize Q:(if decide (x.1∈d.1)=true then _ else _:Option Bool)=R;have hrest:R=some (decide (x.1∉d.1)&&(d.2.1.drop (k+1)).all (Qku g d.1)&&Qff (d.2.1.map (·.1)) k&&decide ((d.2.1.length:Int)<=32)):=by
    rw[<-Q];by_cases L:x.1∈d.1;simp[L];rw[Qb (by rw[Ww];exact L),Qr L,Wy];rcases riseP_at J with⟨V,E⟩|⟨p,V,H,E⟩
    rw[Qb (by omega),Qb Q5,A.gd1 (A.r64n (by omega)),N,E];rw[Qq]at H;obtain⟨q,hq,e⟩:=Yk.1 H;subst e;rw[Qc (by omega),A.gd1 ⟨by omega,by omega⟩,show((k:Int)-1)=((k-1:Nat):Int) by omega,A.ixn hq,Qa,E];by_cases O:x.1<=q.1;rw[Qc (Qr O),Q7 (by omega: ¬q.1<x.1)];simp;rw[Qb (by rw[Ww];exact O),A.gd1 (A.r64n (by omega)),N,Qr (by omega:q.1<x.1),Wy]
   rw[hrest];cases hs g x.1<;>by_cases W:(gt g x.1).2.1=1<;>simp[W])
  (by have:=Qab;omega)
 exact this
def Qau (k:Int):Bool:=decide (k=11\/k=16)
def keeps_eq (k:Int):F.d1 k=some (Qau k):=by unfold F.d1 Qau;rw[A.bo]
def Holds_eq (k:Int):F.fn k=some (Qau k):=by unfold F.fn Qau;rw[A.bo]
def useP (m:Mv):Bool:=if m.2.2.1=1 then decide (m.2.2.2.1=0/\m.2.2.2.2=((0,0,ByteArray.mk #[]):Fun))else if m.2.2.1=2 then decide ((0<=m.2.2.2.1/\m.2.2.2.1<=1048576)/\m.2.2.2.2=((0,0,ByteArray.mk #[]):Fun))else if m.2.2.1=3 then decide (m.2.2.2.1=0)else false
def uses_eq9 (m:Mv):F.eJ m=some (useP m):=by
 unfold F.eJ useP F.dS F.dT;by_cases I:m.2.2.1=1;rw[Qc I,Qc I];by_cases E:m.2.2.2.1=0;rw[Qc E];congr 1;exact decide_eq_decide.2 ⟨λh=>⟨E,h⟩,λh=>h.2⟩;rw[Qb E,Q7 (λh=>E h.1)];rw[Qb I,Qb I];by_cases E:m.2.2.1=2;rw[Qc E,Qc E,A.ba];by_cases H:0<=m.2.2.2.1/\m.2.2.2.1<=1048576;rw[Qc (Qr H)];congr 1;exact decide_eq_decide.2 ⟨λh=>⟨H,h⟩,λh=>h.2⟩;rw[Qb (by rw[Ww];exact H),Q7 (λh=>H h.1)];rw[Qb E,Qb E];by_cases H:m.2.2.1=3;rw[Qc H,Qc H];rw[Qb H,Qb H]
def Qaz (g put:List Nd)(m:Mv):Bool:=hs g m.1&&hs put m.2.1&&Qau (gt g m.1).2.1&&decide ((gt put m.2.1).2.1=(gt g m.1).2.1)&&useP m&& !(decide (m.2.2.1=2)&&decide ((gt g m.1).2.1≠11))
def mvF (ok:Mv->Bool):List Int->List Mv->Bool
 |_,[]=>true
 |pre,m::r=>ok m&&decide (m.2.1∉pre)&&mvF ok (pre++[m.2.1]) r
def move_R (g:List Nd)(d:Dl)(m:Mv)(O:g.length<=1000)(hp:d.2.1.length<=1000):F.fH g d m=some (Qaz g d.2.1 m):=by
 unfold F.fH;rw[Qiw g _ (by omega),Qa,Qiw d.2.1 _ (by omega),Qa];simp only[Holds_eq,Qa,F.e4,F.e2,F.e3,Xx];unfold Qaz useP;have e:(m.2.2.2.2:Fun)=m.2.2.2.2:=rfl;rw[e];generalize m.2.2.2.2=fz;cases hs g m.1 with
 |false=>simp
 |true=>
  cases hs d.2.1 m.2.1 with
  |false=>simp
  |true=>
   cases Qau (gt g m.1).2.1 with
   |false=>simp
   |true=>
    by_cases hk:(gt g m.1).2.1=(gt d.2.1 m.2.1).2.1;by_cases J:m.2.2.1=1;by_cases E:m.2.2.2.1=0<;>by_cases h6:fz=((0,0,ByteArray.mk #[]):Fun)<;>simp[hk,J,E,h6];by_cases E:m.2.2.1=2;by_cases H:(gt g m.1).2.1=11<;>by_cases L:0<=m.2.2.2.1<;>by_cases N:m.2.2.2.1<=1048576<;>by_cases h6:fz=((0,0,ByteArray.mk #[]):Fun)<;>simp[<-hk,E,H,L,N,h6];by_cases H:m.2.2.1=3<;>simp[hk,J,E,H];have I: ¬(gt d.2.1 m.2.1).2.1=(gt g m.1).2.1:=λe=>hk e.symm;simp[hk,I]
def tos (l:List Mv):List Int:=l.map λm:Mv=>m.2.1
def moves_P (g:List Nd)(d:Dl)(L:Inc d.2.1)(hp:d.2.1.length<=1000)(V:d.2.2.length<=1000):F.d2 (mapOf g) d=some (mvF (Qaz g d.2.1) [] d.2.2):=by
 unfold F.d2;rw[Qgs _ L (by omega),Qa];exact A.lp d.2.2 (λf (s:List (Int×Bool)) y=>F.ah (mapOf g) d (mapOf d.2.1) f s y) (λk l _=>some (mvF (Qaz g d.2.1) (tos (d.2.2.take k)) l)) (λk s=>∀t,Z.mget false s t=decide (t∈tos (d.2.2.take k)))
  (λf s hs=>by rw[F.ah,Qb (by omega)];rfl)
  (λf s k x I hk J N=>by
   rw[F.ah,Qc (by omega),A.ixn I,Qa];simp only[A.lt,keeps_eq,Qa,F.bx,Xx,J,show((0,0,[],(0,0,(ByteArray.mk #[])),(ByteArray.mk #[]),0,0):Nd)=z0 from rfl];have E:tos (d.2.2.take (k+1))=tos (d.2.2.take k)++[x.2.1]:=by unfold tos;rw[Qbs I,Xm];rfl
   have hstep:A.gd (Z.R64 ((k:Int)+1)) (F.ah (mapOf g) d (mapOf d.2.1) f (Z.mins s x.2.1 true) ((k:Int)+1))=some (mvF (Qaz g d.2.1) (tos (d.2.2.take k)++[x.2.1]) (d.2.2.drop (k+1))):=by
    rw[A.gd1 (A.r64n (by omega)),N _ λt=>?_,E];rw[E,Uz,J];by_cases h:t=x.2.1<;>simp[h]
   rw[hstep,show F.eJ x=some (useP x)from uses_eq9 x,Qa,mvF,Qaz];change (if(if(!(hs g x.1))=true then true else !(hs d.2.1 x.2.1))=true then _ else if(if(!(Qau (gt g x.1).2.1))=true then true else decide ((gt d.2.1 x.2.1).2.1≠(gt g x.1).2.1))=true then _ else _)=_;cases hs g x.1 with
   |false=>simp
   |true=>
    cases hs d.2.1 x.2.1 with
    |false=>simp
    |true=>
     cases Qau (gt g x.1).2.1 with
     |false=>simp
     |true=>
      by_cases hk:(gt d.2.1 x.2.1).2.1=(gt g x.1).2.1;by_cases H:x.2.1∈tos (d.2.2.take k);simp[hk,H];cases h6:useP x with
      |false=>simp[hk,H]
      |true=>by_cases O:x.2.2.1=2<;>by_cases Q:(gt g x.1).2.1=11<;>simp[hk,H,O,Q]
      simp[hk])
  (by have:=Qab;omega) [] (λt=>by simp[tos,Z.mget])
def may_R1 (g:List Nd)(d:Dl)(H:Int->Option Bool)(k:Nat)(x:Mv)(L:d.2.2[k]?=some x)(Q:d.2.2.length<=1000):F.c5 H d (k:Int) A.FU 0=if x.2.1∈tos (d.2.2.take k)then some false else H ((k:Int)+1):=by
 have hk:=(Qd.1 L).1;have hlen:(d.2.2.take k).length=k:=by rw[Qy];omega
 have:=A.lp0 (d.2.2.take k) (λf y=>F.c5 H d (k:Int) f y) (λ_ l=>if x.2.1∈tos l then some false else H ((k:Int)+1))
  (λf=>by rw[hlen,F.c5,Qb (by omega),A.gd1 (A.r64n (by omega))];simp[tos])
  (λf i m E V N=>by
   have J:d.2.2[i]?=some m:=by
    rw[Xp]at E;split at E;exact E;cases E
   rw[F.c5,Qc (by omega),A.ixn J,Qa,A.ixn L,Qa];by_cases h:m.2.1=x.2.1;rw[Qc h,Qc (by simp[tos,h])];rw[Qb h,A.gd1 (A.r64n (by omega)),N];by_cases I:x.2.1∈tos ((d.2.2.take k).drop (i+1));rw[Qc I,Qc (by unfold tos;rw[Q1];exact Qf _ I)];rw[Qb I,Qb (by unfold tos;rw[Q1,Qk];exact λO=>O.elim (λe=>h e.symm) I)])
  (by rw[hlen];have:=Qab;omega)
 exact this
def mayB (g:List Nd)(d:Dl):Bool:=decide ((d.1.length:Int)<=32)&&decide ((d.2.1.length:Int)<=32)&&decide ((d.2.2.length:Int)<=16)&&Qfs g d.1&&Qhl g d&&mvF (Qaz g d.2.1) [] d.2.2
def Qgt {g:List Nd}{d:Dl}(h:Qhl g d=true):Inc d.2.1:=by
 unfold Qhl at h;rw[Qo]at h;exact rise_inc.1 h.2
def may_P (g:List Nd)(d:Dl)(I:d.1.length<=1000)(J:d.2.1.length<=1000)(L:d.2.2.length<=1000):F.ff (mapOf g) d=some (mayB g d):=by
 unfold F.ff mayB;simp only[A.ba];have e1:F.eZ (mapOf g) d=some (Qfs g d.1):=drops_P g d I;have e2:F.fz (mapOf g) d=some (Qhl g d):=puts_P g d I J;rw[e1,e2];simp only[Qa,F.cO];by_cases E:(((d.1.length:Int)<=32/\(d.2.1.length:Int)<=32)/\(d.2.2.length:Int)<=16);rw[Qc (Qr E),Qr E.1.1,Qr E.1.2,Qr E.2];cases Qfs g d.1 with
 |false=>simp
 |true=>
  cases H:Qhl g d with
  |false=>simp
  |true=>
   rw[show F.d2 (mapOf g) d=some (mvF (Qaz g d.2.1) [] d.2.2)from moves_P g d (Qgt H) J L];simp
 rw[Qb (by rw[Ww];exact E)];by_cases a1:(d.1.length:Int)<=32<;>by_cases a2:(d.2.1.length:Int)<=32<;>by_cases a3:(d.2.2.length:Int)<=16<;>simp[a1,a2,a3];exact absurd ⟨⟨a1,a2⟩,a3⟩ E
def may_R (g:List Nd)(d:Dl)(E:g.length<=1000)(J:d.1.length<=1000)(L:d.2.1.length<=1000)(N:d.2.2.length<=1000):F.f6 g d=some (mayB g d):=by
 have loop:F.cx g d A.FU 0=some (mvF (Qaz g d.2.1) [] d.2.2):=
  A.lp0 d.2.2 (λf y=>F.cx g d f y) (λk l=>some (mvF (Qaz g d.2.1) (tos (d.2.2.take k)) l))
   (λf=>by rw[F.cx,Qb (by omega)];rfl)
   (λf k x H hk O=>by
    rw[F.cx,Qc (by omega),A.ixn H,Qa,show F.fH g d x=some (Qaz g d.2.1 x)from move_R g d x E L,Qa,may_R1 g d _ k x H N,O,mvF];have I:tos (d.2.2.take (k+1))=tos (d.2.2.take k)++[x.2.1]:=by unfold tos;rw[Qbs H,Xm];rfl
    rw[I];cases Qaz g d.2.1 x with
    |false=>simp
    |true=>by_cases h:x.2.1∈tos (d.2.2.take k)<;>simp[h])
   (by have:=Qab;omega)
 unfold F.f6 mayB;have e2:F.gd g d=some (Qhl g d&&decide ((d.2.1.length:Int)<=32)):=puts_R g d E J L;rw[drops_R g d.1 E J,e2];simp only[Qa,F.fE,loop,Xx];by_cases a1:(d.1.length:Int)<=32<;>by_cases a2:(d.2.1.length:Int)<=32<;>by_cases a3:(d.2.2.length:Int)<=16<;>cases Qfs g d.1<;>cases Qhl g d<;>simp[a1,a2,a3]<;>omega
def made_l2 (m:List (Int×Nd)): ∀(n k f:Nat) (xs:List Nd),k+n=256->n<f->xs.length<=k->F.bk m f xs (k:Int)=some (xs++madeF m n k)
 |0,k,f,xs,hk,E,H=>by
  obtain⟨f,rfl⟩: ∃f',f=f'+1:=⟨f-1,by omega⟩;rw[F.bk,Qb (by omega),madeF,Wh]
 |n+1,k,f,xs,hk,E,H=>by
  obtain⟨f,rfl⟩: ∃f',f=f'+1:=⟨f-1,by omega⟩;rw[F.bk,Qc (by omega),A.lt,madeF,show((0,0,[],(0,0,(ByteArray.mk #[])),(ByteArray.mk #[]),0,0):Nd)=z0 from rfl];simp only[F.dU];by_cases h:Z.mhas m (k:Int)=true;rw[Qc h,Qc h,A.gd1 (by simp only[Qe,Ql];omega),A.gd1 (A.r64n (by omega))];have:=made_l2 m n (k+1) f (xs++[Z.mget z0 m (k:Int)]) (by omega) (by omega) (by simp only[Qm,Qe,Ql];omega);refine Eq.trans this ?_;rw[Q0];rfl;rw[Qb h,Qb h,A.gd1 (A.r64n (by omega))];exact made_l2 m n (k+1) f xs (by omega) (by omega) (by omega)
def made_l3 (g:List Nd)(d:Dl)(H:List (Int×Nd))(N:Inc g)(hp:Inc d.2.1)(hl:d.2.1.length<=1000)(rg: ∀n∈g,0<=n.1/\n.1<=255)(rp: ∀n∈d.2.1,0<=n.1/\n.1<=255)
  (O: ∀i,Z.mhas H i=(hs g i&& !decide (i∈d.1))) (Q: ∀i,Z.mhas H i=true->Z.mget z0 H i=gt g i):F.bT d A.FU H 0=some (mrgN d.1 g d.2.1):=
 A.lp d.2.1 (λf (s:List (Int×Nd)) y=>F.bT d f s y) (λ_ _ _=>some (mrgN d.1 g d.2.1))
  (λk s=>∀i,Z.mhas s i=(hs (d.2.1.take k) i||(hs g i&& !decide (i∈d.1)))/\(Z.mhas s i=true->Z.mget z0 s i=if hs (d.2.1.take k) i=true then gt (d.2.1.take k) i else gt g i))
  (λf s I=>by
   rw[F.bT,Qb (by omega)];rw[Q3 (Qt _)]at I;have e:=made_l2 s 256 0 A.FU [] rfl (by have:=Qab;omega) (Qt _);rw[Wl,made_eq N hp rg rp (λi=>(I i).1) (λi=>(I i).2)]at e;exact e)
  (λf s k x J hk I V=>by
   rw[F.bT,Qc (by omega),A.ixn J,Qa,A.gd1 (A.r64n (by omega))];have W:mapOf (d.2.1.take (k+1))=Z.mins (mapOf (d.2.1.take k)) x.1 x:=by
    rw[Qcv (Qdb λn Y e=>?_),Qbs J];simp[mapOf];obtain⟨i,E⟩:=Xe Y;rw[Xp]at E;split at E;have:=hp.inj E J e;omega;cases E
   refine V _ λi=>?_;obtain⟨L,p2⟩:=I i;change Z.mhas (Z.mins s x.1 x) i=_/\(Z.mhas (Z.mins s x.1 x) i=true->Z.mget z0 (Z.mins s x.1 x) i=_);unfold hs gt at*;rw[W,Z.mhas_ins,Z.mhas_ins,Uz,Uz,L,Bool.or_assoc];refine⟨rfl,λh=>?_⟩;by_cases e:i=x.1;simp[e];simp only[e,decide_false,Xo,Wa]at h ⊢;exact p2 (by rw[L];exact h))
  (by have:=Qab;omega) H λi=>⟨by rw[O];rfl,λh=>by rw[Q i h];rfl⟩
def made_P (g:List Nd)(d:Dl)(H:Inc g)(hp:Inc d.2.1)(Y:g.length<=1000)(L:d.2.1.length<=1000)(h3:d.1.length<=1000)(rg: ∀n∈g,0<=n.1/\n.1<=255)(rp: ∀n∈d.2.1,0<=n.1/\n.1<=255):F.eK g d=some (mrgN d.1 g d.2.1):=by
 unfold F.eK;rw[Qgs g H (by omega),Qa];exact A.lp d.1 (λf (s:List (Int×Nd)) y=>F.cr d f s y) (λ_ _ _=>some (mrgN d.1 g d.2.1))
  (λk s=>(s.map Prod.fst).Nodup/\∀i,Z.mhas s i=(hs g i&& !decide (i∈d.1.take k))/\(Z.mhas s i=true->Z.mget z0 s i=gt g i))
  (λf s E=>by
   rw[F.cr,Qb (by omega)];rw[Q3 (Qt _)]at E;exact made_l3 g d s H hp L rg rp (λi=>(E.2 i).1) (λi=>(E.2 i).2))
  (λf s k x I hk E N=>by
   rw[F.cr,Qc (by omega),A.ixn I,Qa,A.gd1 (A.r64n (by omega))];obtain⟨O,Q⟩:=Z.mdel_nodup E.1 x;refine N _ ⟨O,λi=>?_⟩;obtain⟨J,V⟩:=E.2 i;rw[Qbs I];by_cases e:i=x;subst e;rw[Q];simp;obtain⟨q1,W⟩:=Z.mdel_ne z0 s x i e;rw[W,q1,J];refine⟨by simp[e],λh=>V (by rw[J];exact h)⟩)
  (by have:=Qab;omega) (mapOf g) ⟨by
   unfold mapOf;rw[List.map_map];exact(Jr.2 (H.imp λh=>by simp only[Function.comp];omega)),λi=>⟨by simp[hs],λ_=>rfl⟩⟩
def Qjb (n:Nd)(h:n.2.2.1.length<=5000):F.dI n=some n:=by
 unfold F.dI;rw[A.gd1 (by simp only[Ql];omega)];rfl
def makes_R (g:List Nd)(d:Dl)(W:Sml g)(hp:Sml d.2.1)(h3:d.1.length<=1000):F.fR g d=some (mrgN d.1 g d.2.1):=by
 have hgl:=W.1;have hpl:=hp.1;have main: ∀(n i k f:Nat) (xs:List Nd),(g.length-i)+(d.2.1.length-k)<=n->n<f->i<=g.length->k<=d.2.1.length->xs.length<=i+k->F.aj g d f xs (i:Int) (k:Int)=some (xs++mrgN d.1 (g.drop i) (d.2.1.drop k)):=by
  intro n;induction n with
  |zero=>
   intro i k f xs hn hf hi hk hx;obtain⟨f,rfl⟩: ∃f',f=f'+1:=⟨f-1,by omega⟩;rw[F.aj,A.bo,Qb (by rw[Ww];omega),Q6 (by omega),Q6 (by omega),mrgN,Wh]
  |succ n O=>
   intro i k f xs hn hf hi hk hx;obtain⟨f,rfl⟩: ∃f',f=f'+1:=⟨f-1,by omega⟩;rw[F.aj,A.bo];have put1: ∀(I:Nat) (b:Nd),I<=i+1->I<=g.length->i<=I->d.2.1[k]?=some b->F.dw (F.aj g d f) d xs (k:Int) (I:Int)=some (xs++b::mrgN d.1 (g.drop I) (d.2.1.drop (k+1))):=by
    intro I b J L h4 H;have hkl:=(Qd.1 H).1;rw[F.dw,A.ixn H,Qa,show F.dI b=some b from Qjb b (hp.in (Qj H)),Qa,A.gd1 (by simp only[Qe,Ql];omega),A.gd1 (A.r64n (by omega))];have:=O I (k+1) f (xs++[b]) (by omega) (by omega) (by omega) (by omega) (by simp only[Qm,Qe,Ql];omega);refine Eq.trans this ?_;rw[Q0];rfl
   have take1: ∀a:Nd,g[i]?=some a->F.bJ (F.aj g d f) g d xs (i:Int) (k:Int) true=some (xs++if a.1∈d.1 then mrgN d.1 (g.drop (i+1)) (d.2.1.drop k)else a::mrgN d.1 (g.drop (i+1)) (d.2.1.drop k)):=by
    intro a E;have hil:=(Qd.1 E).1;rw[F.bJ,Qc rfl,A.ixn E,Qa,has_eq d.1 a.1 (by omega),Qa];simp only[F.eq,Qa];by_cases N:a.1∈d.1;rw[Qr N,Qb (by simp),A.gd1 (A.r64n (by omega)),Qc N];exact O (i+1) k f xs (by omega) (by omega) (by omega) (by omega) (by omega);rw[Q7 N,Qc (show(!false)=true from rfl),show F.dI a=some a from Qjb a (W.in (Qj E)),Qa,A.gd1 (by simp only[Qe,Ql];omega),A.gd1 (A.r64n (by omega)),Qb N];have:=O (i+1) k f (xs++[a]) (by omega) (by omega) (by omega) (by omega) (by simp only[Qm,Qe,Ql];omega);refine Eq.trans this ?_;rw[Q0];rfl
   by_cases Y:(i:Int)<(g.length:Int)\/(k:Int)<(d.2.1.length:Int);rw[Qc (Qr Y)];by_cases Q:k<d.2.1.length;have H:d.2.1[k]?=some d.2.1[k]:=Qg Q;rw[Qb (by omega),A.dropx H];by_cases V:i<g.length;have E:g[i]?=some g[i]:=Qg V;rw[Qc (by omega),A.ixn E,Qa,A.ixn H,Qa,A.dropx E,mrgN];by_cases J:g[i].1<d.2.1[k].1;rw[Qr J,take1 _ E,Qc J,A.dropx H];rw[Q7 J,F.bJ,Qb Q5,Qc (by omega),A.ixn E,Qa,A.ixn H,Qa,Qb J,F.dx];by_cases L:g[i].1=d.2.1[k].1;rw[Qc (Qr L),A.gd1 (A.r64n (by omega)),Qc L];exact put1 (i+1) _ (by omega) (by omega) (by omega) H;rw[Qb (by rw[Ww];exact L),Qb L,put1 i _ (by omega) (by omega) (by omega) H,A.dropx E];rw[Qb (by omega),F.bJ,Qb Q5,Qb (by omega),F.dx,Qb Q5,put1 i _ (by omega) (by omega) (by omega) H,Q6 (show g.length<=i by omega),mrgN,mrgN];have E:g[i]?=some g[i]:=Qg (by omega);rw[Qc (by omega),take1 _ E,A.dropx E,Q6 (show d.2.1.length<=k by omega),mrgN];rw[Qb (by rw[Ww];exact Y),Q6 (show g.length<=i by omega),Q6 (show d.2.1.length<=k by omega),mrgN,Wh]
 have:=main (g.length+d.2.1.length) 0 0 A.FU [] (by omega) (by have:=Qab;omega) (by omega) (by omega) (Qt _);exact this
def mrgN_sml {g:List Nd}{d:Dl}(E:Sml g)(hp:Sml d.2.1)(L:g.length<=60)(N:d.2.1.length<=60)(H:Inc g)(I:Inc d.2.1):Sml (mrgN d.1 g d.2.1):=by
 refine⟨by have:=Qch d.1 _ g d.2.1 (Qt _);omega,λn J=>?_⟩;rcases(Qan d.1 _ g d.2.1 (Qt _) H I n).1 J with h|h
 exact hp.2 n h;exact E.2 n h.1
structure Made (g:List Nd) (d:Dl) (x:List Nd):Prop where
 good:Good g
 may:mayB g d=true
 eq:x=mrgN d.1 g d.2.1
 new:Good x
 sml:Sml x
def Made.inc {g:List Nd}{d:Dl}{x:List Nd}(h:Made g d x):Inc d.2.1:=by
 have:=h.may;unfold mayB at this;simp only[Qo]at this;exact Qgt this.1.2
structure SmD (d:Dl):Prop where
 put:Sml d.2.1
 pl:d.2.1.length<=60
 dl:d.1.length<=60
 ml:d.2.2.length<=60
def Qke (g:List Nd)(d:Dl)(O:Sml g)(hl:g.length<=60)(L:SmD d): ∃x e,F.d3 g d=some (x,e)/\F.bb g d=some e/\(e≠0->x=[])/\(e=0->Made g d x):=by
 have hdl:=L.dl;have Q:=L.pl;have hml:=L.ml;obtain⟨e1,c1,c2,c3,_⟩:=Qga g O;unfold F.d3 F.bb;rw[c1,c2,Qa,Qa];by_cases J:e1=0;case neg=>rw[Qc J,Qc J];exact⟨[],e1,rfl,rfl,λ_=>rfl,λh=>absurd h J⟩
 have G:=c3 J;rw[Qb (λh=>h J),Qb (λh=>h J),Qgs g G.inc (by omega),Qa];rw[show F.ff (mapOf g) d=some (mayB g d)from may_P g d (by omega) (by omega) (by omega),show F.f6 g d=some (mayB g d)from may_R g d (by omega) (by omega) (by omega) (by omega),Qa,Qa];cases Y:mayB g d with
 |false=>exact⟨[],90,rfl,rfl,λ_=>rfl,λh=>(by cases h)⟩
 |true=>
  simp only[Wz,Qx,Wa];have hinc:Inc d.2.1:=by have h:=Y;unfold mayB at h;simp only[Qo]at h;exact Qgt h.1.2
  have H:=mrgN_sml (d:=d) O L.put hl Q G.inc hinc;obtain⟨e2,k1,k2,k3,k4⟩:=Qga _ H;rw[show F.fR g d=some (mrgN d.1 g d.2.1)from makes_R g d O L.put (by omega),Qa,k2,Qa];have hr:F.ab g d A.FU 0=if d.2.1.all (λn=>decide (1<=n.1/\n.1<=255))=true then(if e2≠0 then some ([],e2)else some (mrgN d.1 g d.2.1,0))else some ([],80):=by
   by_cases hall:d.2.1.all (λn=>decide (1<=n.1/\n.1<=255))=true;rw[Qc hall];have hall2:=Wd.1 hall;refine A.lp0 d.2.1 (λf y=>F.ab g d f y) (λ_ _=>if e2≠0 then some ([],e2)else some (mrgN d.1 g d.2.1,0)) (λf=>?_) (λf k x N hk V=>?_) (by have:=Qab;omega);rw[F.ab,Qb (by omega),show F.eK g d=some (mrgN d.1 g d.2.1)from made_P g d G.inc hinc (by omega) (by omega) (by omega) (λn I=>by have:=G.id I;omega) (λn I=>by have:=Wb (hall2 n I);omega),Qa,k1,Qa];by_cases E:e2=0;rw[Qb (λh=>h E),Qb (λh=>h E),Clone_eq _ (by have:=(k3 E).len;omega) (λn I=>H.in I)];rfl;rw[Qc E,Qc E];have:=Wb (hall2 x (Qj N));rw[F.ab,Qc (by omega),A.ixn N,Qa,A.bo,Qb (by rw[Ww];omega),A.gd1 (A.r64n (by omega)),V];rw[Qb hall];have:=A.lp0 d.2.1 (λf y=>F.ab g d f y) (λk l=>if l.all (λn=>decide (1<=n.1/\n.1<=255))=true then F.ab g d 1 (d.2.1.length:Int)else some ([],80))
    (λf=>by
     rw[F.ab,Qb (by omega)];show _=F.ab g d (0+1) (d.2.1.length:Int);rw[F.ab,Qb (by omega)])
    (λf k x N hk V=>by
     rw[F.ab,Qc (by omega),A.ixn N,Qa,A.bo];have e: ∀r:List Nd,(x::r).all (λn=>decide (1<=n.1/\n.1<=255))=(decide (1<=x.1/\x.1<=255)&&r.all (λn=>decide (1<=n.1/\n.1<=255))):=λr=>rfl;simp only[e];by_cases h:1<=x.1/\x.1<=255;rw[Qb (by rw[Ww];omega),A.gd1 (A.r64n (by omega)),V,Qr h,Wy];rw[Qc (by rw[Ww];omega),Q7 h,Y8,Qb Q5])
    (by have:=Qab;omega)
   rw[Qb hall]at this;exact this
  rw[hr];by_cases hall:d.2.1.all (λn=>decide (1<=n.1/\n.1<=255))=true;rw[Qc hall];by_cases E:e2=0;rw[Qb (λh=>h E)];exact⟨_,0,rfl,by rw[E],λh=>absurd rfl h,λ_=>⟨G,Y,rfl,k3 E,H⟩⟩;rw[Qc E];exact⟨[],e2,rfl,rfl,λ_=>rfl,λh=>absurd h E⟩;rw[Qb hall];have W:e2=80:=k4 (by
   rw[Wd]at hall;simp only[Classical.not_forall]at hall;obtain⟨n,I,h⟩:=hall;rw[Ww]at h;exact⟨n,(Qan d.1 _ g d.2.1 (Qt _) G.inc hinc n).2 (.inl I),by omega⟩)
  exact⟨[],80,rfl,by rw[W],λ_=>rfl,λh=>(by cases h)⟩
def EqM (a b:List Mv)(L:a.length<=1000):F.ac a b=some (decide (a=b)):=by
 unfold F.ac;by_cases H:a.length=b.length;rw[Qb (by omega)];rw[A.eqk a b (λf y=>F.k a b f y) (some true) (some false) H (λf=>by rw[F.k,Qb (by omega)])
  (λf k u v I J hk=>by
   rw[F.k,Qc (by omega),A.ixn I,Qa,A.ixn J,Qa];by_cases h:u=v;rw[Qb (show ¬(u≠v)from λE=>E h),Qc h,A.gd1 (A.r64n (by omega))];rw[Qc (show(u≠v)from λE=>h E),Qb h]) (by have:=Qab;omega),A.ite_dec]
 rw[Qc (by omega),Q7 (λe=>H (by rw[e]))]
def stayB (d:Dl)(n:Nd):Bool:=Qau n.2.1&& !hs d.2.1 n.1&& !decide (n.1∈d.1)
def stays_P (g:List Nd)(d:Dl)(e:Int)(Q:g.length<=1000)(V:d.1.length<=1000)(W:d.2.1.length<=1000)(J:F.aO g d=some e)(L:e=0->Inc d.2.1):F.d4 g d=some (if e=0 then(g.filter (stayB d)).map (·.1)else []):=by
 unfold F.d4;rw[show F.aO g d=some e from J,Qa];by_cases E:e=0;case neg=>rw[Qb E,Qb E,F.cH,F.fB];rfl
 rw[Qc E,Qc E,Qgs _ (L E) (by omega),Qa];have:=A.lp g (λf (s:List Int) i=>F.aB g d (mapOf d.2.1) f s i) (λ_ l s=>some (s++(l.filter (stayB d)).map (·.1))) (λk s=>s.length<=k)
  (λf s _=>by rw[F.aB,Qb (by omega),F.cH,F.fB];simp)
  (λf s k x N hk O H=>by
   rw[F.aB,Qc (by omega),A.ixn N,Qa,A.lt,keeps_eq,Qa,Qet _ _ (by omega),Qa];have I: ∀y,F.cI (F.aB g d (mapOf d.2.1) f) s (k:Int) x y=some (s++((if y=true then [x.1]else [])++((g.drop (k+1)).filter (stayB d)).map (·.1))):=λy=>by
    rw[F.cI];simp only[F.dn];cases y with
    |true=>rw[Qc rfl,Qc rfl,A.gd1 (by simp only[Qe,Ql];omega),A.gd1 (A.r64n (by omega)),H _ (by simp only[Qm,Qe,Ql];omega),Q0]
    |false=>rw[Qb Q5,Qb Q5,A.gd1 (A.r64n (by omega)),H s (by omega),Wl]
   rw[I,I,Xj,stayB,show Z.mhas (mapOf d.2.1) x.1=hs d.2.1 x.1 from rfl,Xx];generalize hs d.2.1 x.1=bb;cases Qau x.2.1<;>cases bb<;>by_cases h:x.1∈d.1<;>simp[h])
  (by have:=Qab;omega) [] (Qt _)
 rw[Wl]at this;exact this
def stays_R (g:List Nd)(d:Dl)(e:Int)(Q:g.length<=1000)(V:d.1.length<=1000)(W:d.2.1.length<=1000)(L:F.bb g d=some e):F.eE g d=some (if e=0 then(g.filter (stayB d)).map (·.1)else []):=by
 unfold F.eE;rw[show F.bb g d=some e from L,Qa];by_cases E:e=0;case neg=>rw[Qc E,Qb E]
 have N: ¬(e≠0):=λh=>h E;rw[Qb N,Qc E];have:=A.lp g (λf (s:List Int) i=>F.a1 g d f s i) (λ_ l s=>some (s++(l.filter (stayB d)).map (·.1))) (λk s=>s.length<=k)
  (λf s _=>by rw[F.a1,Qb (by omega)];simp)
  (λf s k x H hk O I=>by
   rw[F.a1,Qc (by omega),A.ixn H,Qa,Qiw d.2.1 x.1 (by omega),Qa,F.fF,A.ixn H,Qa,Holds_eq,Qa];have J: ∀y,F.dF (F.a1 g d f) g s (k:Int) y=some (s++((if y=true then [x.1]else [])++((g.drop (k+1)).filter (stayB d)).map (·.1))):=λy=>by
    rw[F.dF];simp only[F.eD];cases y with
    |true=>rw[Qc rfl,Qc rfl,A.ixn H,Qa,A.gd1 (by simp only[Qe,Ql];omega),A.gd1 (A.r64n (by omega)),I _ (by simp only[Qm,Qe,Ql];omega),Q0]
    |false=>rw[Qb Q5,Qb Q5,A.gd1 (A.r64n (by omega)),I s (by omega),Wl]
   rw[J,Qa,has_eq _ _ (by omega),Qa,J,Xj,stayB,Xx];change (if(if Qau x.2.1=true then !(hs d.2.1 x.1)else false)=true then _ else _)=_;generalize hs d.2.1 x.1=bb;cases Qau x.2.1<;>cases bb<;>by_cases h:x.1∈d.1<;>simp[h])
  (by have:=Qab;omega) [] (Qt _)
 rw[Wl]at this;exact this
def each_eq (l:List Int)(I:l.length<=100000):F.c1 l=some l:=
 A.lp0 l (λf y=>F.aY l f y) (λ_ r=>some r)
  (λf=>by rw[F.aY,Qb (by omega)])
  (λf k x E hk H=>by rw[F.aY,Qc (by omega),A.ixn E,Qa,A.gd1 (A.r64n (by omega)),H];rfl)
  (by have:=Qab;omega)
end Go.Proofs.YtlhiofnikdppeaaGreatDoor
end
section
namespace Go.Proofs.YtlhiofnikdppeaaGreatDoor
open Go.RowKit Go.Graph Go.Utf Go.Ent
def of_R (l:List En)(id:Int)(I:l.length<=100000):F.gh l id=some (ofP l id):=by
 unfold F.gh ofP;have:=A.lp l (λf (s:List En) k=>F.c6 l id f s k) (λ_ r s=>some (s++r.filter λe=>decide (e.1=id))) (λk s=>s.length<=k)
  (λf s _=>by rw[F.c6,Qb (by omega)];simp)
  (λf s k x H hk hs E=>by
   rw[F.c6,Qc (by omega),A.ixn H,Qa,Xj];by_cases h:x.1=id;rw[Qc h,Qc (Qr h),Qa,A.gd1 (by simp only[Qe,Ql];omega),F.fu,A.gd1 (A.r64n (by omega)),E _ (by simp only[Qm,Qe,Ql];omega),Q0];rfl;rw[Qb h,Qb (by simpa using h),F.fu,A.gd1 (A.r64n (by omega)),E s (by omega)])
  (by have:=Qab;omega) [] (Qt _)
 rw[Wl]at this;exact this
abbrev Mp:=List (Int×List En)
def Qkv (m:Mp)(e:En):Mp:=Z.mins m e.1 (Z.mget [] m e.1++[e])
def step_get {l:List En}{m:Mp}{e:En}(h: ∀id,Z.mget [] m id=ofP l id): ∀id,Z.mget [] (Qkv m e) id=ofP (l++[e]) id:=λid=>by
 unfold Qkv;rw[Uz,h];unfold ofP;rw[List.filter_append,Xj,List.filter_nil];by_cases E:id=e.1;rw[Qc E,E,Qc (by simp)];rw[Qb E,Qb (by simpa using λe=>E e.symm),Wh,h];rfl
def part_l4 (g:List Nd)(l:List En)(J:l.length<=100000): ∃m:Mp,(∀id,Z.mget [] m id=ofP l id)/\F.dV g l=F.v g l m A.FU 0 0:=by
 refine⟨l.foldl Qkv [],?_,?_⟩;have: ∀(r q:List En) (m:Mp),(∀id,Z.mget [] m id=ofP q id)->∀id,Z.mget [] (r.foldl Qkv m) id=ofP (q++r) id:=λr=>by
  induction r with
  |nil=>intro q m h;rw[Wh];exact h
  |cons e r E=>
   intro q m h;have:=E (q++[e]) (Qkv m e) (step_get h);rw[Q0]at this;exact this
 exact this l [] [] λid=>rfl;unfold F.dV;exact A.lp l (λf (m:Mp) k=>F.aX g l f m k) (λ_ r m=>F.v g l (r.foldl Qkv m) A.FU 0 0) (λk m=>∀id,Z.mget [] m id=ofP (l.take k) id)
  (λf m _=>by rw[F.aX,Qb (by omega)];rfl)
  (λf m k x H hk I E=>by
   have hlen:(Z.mget ([]:List En) m x.1).length<=l.length:=by
    rw[I];exact Wq (Qba _ _) (by rw[Qy];omega)
   rw[F.aX,Qc (by omega),A.ixn H,Qa,A.gd1 (by simp only[Qe,Ql];omega),F.dM,A.gd1 (A.r64n (by omega))];refine E (Qkv m x) ?_;have:=step_get (e:=x) I;rw[Xy,H];exact this)
  (by have:=Qab;omega) [] (λid=>rfl)
def prt (l:List En):List Nd->Nat->Option Nat
 | [],y=>some y
 |n::r,y=>if Qau n.2.1=true then(if stP n (ofP l n.1)=true then prt l r (y+(ofP l n.1).length)else none)else prt l r y
def pKeeps_eq (k:Int):F.fA k=some (Qau k):=by unfold F.fA Qau;rw[A.bo]
def rKeeps_eq (k:Int):F.ep k=some (Qau k):=by unfold F.ep Qau;rw[A.bo]
def part_l3 (g:List Nd)(l:List En)(m:Mp)(I: ∀id,Z.mget [] m id=ofP l id)(O:l.length<=100000)(Q:g.length<=1000):
  F.v g l m A.FU 0 0=match prt l g 0 with
   |some y=>if y=l.length then some (some m,0)else some (none,171)
   |none=>some (none,171):=by
 exact A.lp g (λf (s:Nat) k=>F.v g l m f (s:Int) k) (λ_ r s=>match prt l r s with
   |some y=>if y=l.length then some (some m,0)else some (none,171)
   |none=>some (none,171)) (λk s=>s<=k*100000)
  (λf s _=>by
   show F.v g l m (f+1) (s:Int) _=_;rw[F.v,Qb (by omega),prt];by_cases h:s=l.length;rw[Qb (by omega)];simp only[h,W8];rw[Qc (by omega)];simp only[h,Wa])
  (λf s k x J hk hs H=>by
   show F.v g l m (f+1) (s:Int) _=_;have L:=Qba l x.1;rw[F.v,Qc (by omega),A.ixn J,Qa,pKeeps_eq,Qa,prt];cases N:Qau x.2.1 with
   |false=>
    rw[Xn,Qc rfl,F.b8,A.gd1 (A.r64n (by omega)),Qb Q5];exact H s (Wq hs (Wj _ (Nat.le_succ k)))
   |true=>
    rw[Wz,Qb Q5,A.lt,I,Qc rfl];show(F.bB x (ofP l x.1)).bind _=_;rw[Qcu _ _ (by omega),Qa];by_cases E:stP x (ofP l x.1)=true;rw[Qc E,Qc E,Qb (λh=>h rfl),A.lt,A.gd1 ⟨by omega,by omega⟩,F.b8,A.gd1 (A.r64n (by omega)),show(s:Int)+((ofP l x.1).length:Int)=((s+(ofP l x.1).length:Nat):Int) by omega];exact H _ (by omega);rw[Qb E,Qb E];rfl)
  (by have:=Qab;omega) 0 (Xi _)
def part_R (g:List Nd)(d:Dl)(l:List En)(I:l.length<=100000)(O:g.length<=1000):
  F.bq g d l A.FU 0 0=match prt l g 0 with
   |some y=>if y=l.length then(F.eE g d).bind λr=>F.bp d l r A.FU [] 0 else some ([],171)
   |none=>some ([],171):=by
 exact A.lp g (λf (s:Nat) k=>F.bq g d l f (s:Int) k) (λ_ r s=>match prt l r s with
   |some y=>if y=l.length then(F.eE g d).bind λr=>F.bp d l r A.FU [] 0 else some ([],171)
   |none=>some ([],171)) (λk s=>s<=k*100000)
  (λf s _=>by
   show F.bq g d l (f+1) (s:Int) _=_;rw[F.bq,Qb (by omega),prt];by_cases h:s=l.length;rw[Qb (by omega)];simp only[h,W8];rw[Qc (by omega)];simp only[h,Wa])
  (λf s k x J hk hs H=>by
   show F.bq g d l (f+1) (s:Int) _=_;have L:=Qba l x.1;rw[F.bq,Qc (by omega),A.ixn J,Qa,rKeeps_eq,Qa,prt];cases N:Qau x.2.1 with
   |false=>
    rw[Xn,Qc rfl,F.eX,A.gd1 (A.r64n (by omega)),Qb Q5];exact H s (Wq hs (Wj _ (Nat.le_succ k)))
   |true=>
    rw[Wz,Qb Q5,Qa,of_R _ _ I,Qa,Qa,Qc rfl];show(F.b9 x (ofP l x.1)).bind _=_;rw[Qbe _ _ (by omega),Qa];by_cases E:stP x (ofP l x.1)=true;rw[Qc E,Qc E,Qb (λh=>h rfl),A.gd1 ⟨by omega,by omega⟩,F.eX,A.gd1 (A.r64n (by omega)),show(s:Int)+((ofP l x.1).length:Int)=((s+(ofP l x.1).length:Nat):Int) by omega];exact H _ (by omega);rw[Qb E,Qb E];rfl)
  (by have:=Qab;omega) 0 (Xi _)
def indexN (g:List Nd)(id:Int)(I:g.length<=1000):F.s g id=some (idx g id):=
 A.lp0 g (λf y=>F.b g id f y) (λk l=>some (idxF id k l))
  (λf=>by rw[F.b,Qb (by omega)];rfl)
  (λf k x E hk H=>by
   rw[F.b,Qc (by omega),A.ixn E,Qa,F.e6,Qa,idxF];by_cases h:x.1=id;rw[Qc (Qr h),Qc h];rw[Qb (by rw[Ww];exact h),Qb h,A.gd1 (A.r64n (by omega)),H])
  (by have:=Qab;omega)
def Qjs (g:List Nd)(id:Int)(E:g.length<=1000):F.da g id=some (gt g id,hs g id):=by
 unfold F.da;rw[indexN g id E,Qa];rcases Qam z0 g id with⟨e,_,e2,e3⟩|⟨j,n,e,H,_,e2,e3⟩
 rw[e,Qc (by decide),gt,hs,e2,e3];rfl;rw[e,Qb (by omega),A.ixn H,Qa,gt,hs,e2,e3]
def findG (g:List Nd)(id:Int)(H:Sml g)(I:g.length<=100):F.cQ g id=some (gt g id,hs g id):=by
 unfold F.cQ;rw[Qbg g id I,Qa];rcases Qam z0 g id with⟨e,_,e2,e3⟩|⟨j,n,e,E,_,e2,e3⟩
 rw[e,Qc (by decide),gt,hs,e2,e3];rfl;have:=H.in (Qj E);rw[e,Qb (by omega),A.ixn E,Qa,A.gd1 (by simp only[Ql];omega),gt,hs,e2,e3];rfl
def oddB (g:List Nd)(d:Dl)(m:Mv):Bool:= !hs g m.1|| !hs d.2.1 m.2.1||decide (Qbq (gt g m.1) (gt d.2.1 m.2.1) m≠0)
def SmF (d:Dl):Prop:=∀m,m∈d.2.2->m.2.2.2.2.2.2.size<=5000
def Qeq (l:List Mv)(I:l.length<=100000):F.o l=some l:=
 A.lp0 l (λf y=>F.g l f y) (λ_ r=>some r)
  (λf=>by rw[F.g,Qb (by omega)])
  (λf k x E hk H=>by rw[F.g,Qc (by omega),A.ixn E,Qa,A.gd1 (A.r64n (by omega)),H];rfl)
  (by have:=Qab;omega)
def odd_l1 (g:List Nd)(d:Dl)(I:g.length<=1000)(hp:d.2.1.length<=1000): ∀(r xs:List Mv),xs.length+r.length<=1000->(∀m,m∈r->m.2.2.2.2.2.2.size<=5000)->F.a3 g d r xs=some (xs++r.filter (oddB g d))
 | [],xs,_,_=>by rw[F.a3];simp[F.p]
 |m::r,xs,J,L=>by
  have Q:=L m (Qi ..);have O:=odd_l1 g d I hp r (xs++[m]) (by simp only[Qm,Qe,Ql]at J ⊢;omega) λm h=>L m (Qf _ h);have V:=odd_l1 g d I hp r xs (by simp only[Qe]at J;omega) λm h=>L m (Qf _ h);have E:(List.length (α:=Mv) xs+List.length (α:=Mv) [m])*64<=140737488355328:=by simp only[Qe,Ql]at J ⊢;omega
  rw[F.a3,Qjs _ _ I,Qa,Qjs _ _ hp,Qa,Xj,oddB];generalize hs g m.1=b1 at*;generalize hs d.2.1 m.2.1=b2 at*;by_cases N:b1=true/\b2=true;obtain⟨rfl,rfl⟩:=N;rw[Qb (show ¬((bif !true then true else !true)=true) by decide)];show(F.cy (gt g m.1) (gt d.2.1 m.2.1) m).bind _=_;rw[Fits_eq _ _ _ (by omega),Qa];by_cases H:Qbq (gt g m.1) (gt d.2.1 m.2.1) m=0;rw[Qb (λh=>h H),Qb (by simp[H]),V];rw[Qc H,Qc (by simp[H]),A.gd1 E];refine Eq.trans O ?_;rw[Q0];rfl;have W:(bif !b1 then true else !b2)=true:=by cases b1<;>cases b2<;>simp at N ⊢
  have Y:(!b1|| !b2)=true:=by cases b1<;>cases b2<;>simp at N ⊢
  rw[Qc W,Qc (by rw[Y];rfl),A.gd1 E];refine Eq.trans O ?_;rw[Q0];rfl
def odd_P (g:List Nd)(d:Dl)(e:Int)(H:g.length<=1000)(hp:d.2.1.length<=1000)(I:d.2.2.length<=1000)(J:SmF d)(L:F.aO g d=some e):F.cw g d=some (if e=0 then d.2.2.filter (oddB g d)else []):=by
 unfold F.cw;rw[show F.aO g d=some e from L,Qa];by_cases E:e=0;rw[Qc E,Qc E,F.p,Qa,Qeq _ (by omega),Qa,odd_l1 g d H hp _ _ (by simpa using I) J,Wl];rw[Qb E,Qb E];rfl
def odd_R (g:List Nd)(d:Dl)(e:Int)(W:Sml g)(J:g.length<=100)(hp:Sml d.2.1)(L:d.2.1.length<=100)(hm:d.2.2.length<=1000)(H:SmF d)(Y:F.bb g d=some e):F.ft g d=some (if e=0 then d.2.2.filter (oddB g d)else []):=by
 unfold F.ft;rw[show F.bb g d=some e from Y,Qa];by_cases I:e=0;case neg=>rw[Qc I,Qb I]
 rw[Qb (λh=>h I),Qc I];have:=A.lp d.2.2 (λf (s:List Mv) k=>F.bn g d f s k) (λ_ r s=>some (s++r.filter (oddB g d))) (λk s=>s.length<=k)
  (λf s _=>by rw[F.bn,Qb (by omega)];simp)
  (λf s k m E hk hs1 Q=>by
   have N:=H m (Qj E);have V: ∀b:Bool,F.eW (F.bn g d f) d s (k:Int) b=some (s++((if b=true then [m]else [])++(d.2.2.drop (k+1)).filter (oddB g d))):=λb=>by
    rw[F.eW];cases b with
    |true=>rw[Qc rfl,Qc rfl,A.ixn E,Qa,A.gd1 (by simp only[Qe,Ql];omega),F.eV,A.gd1 (A.r64n (by omega)),Q _ (by simp only[Qm,Qe,Ql];omega),Q0]
    |false=>rw[Qb Q5,Qb Q5,F.eV,A.gd1 (A.r64n (by omega)),Q s (by omega),Wl]
   rw[F.bn,Qc (by omega),A.ixn E,Qa,findG _ _ W J,Qa,F.fZ,A.ixn E,Qa,findG _ _ hp L,Qa,F.fY,A.ixn E,Qa,Xj,oddB];generalize hs g m.1=b1 at*;generalize hs d.2.1 m.2.1=b2 at*;by_cases O:b1=true/\b2=true;obtain⟨rfl,rfl⟩:=O;rw[Qb (show ¬((bif !true then true else !true)=true) by decide)];show(F.eo (gt g m.1) (gt d.2.1 m.2.1) m).bind _=_;rw[Qel _ _ _ N,Qa,V];by_cases H:Qbq (gt g m.1) (gt d.2.1 m.2.1) m=0;simp[H];simp[H];have E:(bif !b1 then true else !b2)=true:=by cases b1<;>cases b2<;>simp at O ⊢
   have hy:(!b1|| !b2)=true:=by cases b1<;>cases b2<;>simp at O ⊢
   rw[Qc E,Qc (by rw[hy];rfl),V];simp)
  (by have:=Qab;omega) [] (Qt _)
 rw[Wl]at this;exact this
def told_l1 (n:Int): ∀(r xs:List Mv),xs.length+r.length<=1000->F.c n r xs=some (xs++r.take (n-(xs.length:Int)).toNat)
 | [],xs,_=>by rw[F.c];simp
 |m::r,xs,E=>by
  simp only[Qe]at E;rw[F.c];by_cases h:n<=(xs.length:Int);rw[Qc h,show(n-(xs.length:Int)).toNat=0 by omega];simp;rw[Qb h,A.gd1 (by simp only[Qe,Ql];omega)];refine Eq.trans (told_l1 n r (xs++[m]) (by simp only[Qm,Qe,Ql];omega)) ?_;rw[show(n-(xs.length:Int)).toNat=(n-((xs++[m]).length:Int)).toNat+1 by simp only[Qm,Qe,Ql];omega,List.take_succ_cons,Q0];rfl
def told_eq (l:List Mv)(n:Int)(E:l.length<=1000):F.i l n=some (l.take n.toNat):=by
 unfold F.i;rw[Qeq _ (by omega),Qa,told_l1 n l [] (by simpa using E)];simp
abbrev tgt (d:Dl) (m:Mv):Nd:=gt d.2.1 m.2.1
def gt_hs {g:List Nd}{id:Int}(h:hs g id=true):(gt g id).1=id/\gt g id∈g:=by
 rcases Qam z0 g id with⟨e,_,e2,e3⟩|⟨j,n,e,E,H,e2,e3⟩
 unfold hs at h;rw[e3]at h;cases h;unfold gt;rw[e2];exact⟨H,Qj E⟩
def gt_has {g:List Nd}{id:Int}(h: ∀n,n∈g->A.h6 n.1):A.h6 (gt g id).1:=by
 cases E:hs g id with
 |true=>exact h _ (gt_hs E).2
 |false=>unfold gt;rw[Z.mget_none E];exact i64h (by decide) (by decide)
structure Pr (g:List Nd) (d:Dl) (l:List En):Prop where
 sg:Sml g
 gl:g.length<=40
 sd:SmD d
 sf:SmF d
 ll:l.length<=200
 hk: ∀e,e∈l->hasK (key e)
 ht: ∀n,n∈d.2.1->A.h6 n.1
def ofP_k {l:List En}(h: ∀e,e∈l->hasK (key e)){id:Int}: ∀e,e∈ofP l id->hasK (key e):=λe E=>h e (Qkb.1 E).1
def add_eq (mm:List (Go.Ent.Ky×Int))(e:En):F.ai mm 16 e=some (Z.mins mm (key e) (num e)):=by
 rw[F.ai,Qb (by decide)]
def all_l1 (K:List (Go.Ent.Ky×Int)->Option (List En×Int))(x:List En)(mm:List (Go.Ent.Ky×Int))(I:x.length<=100000):F.bU K x A.FU mm 0=K (insM mm x):=
 A.lp x (λf (mm:List (Go.Ent.Ky×Int)) k=>F.bU K x f mm k) (λ_ r mm=>K (insM mm r)) (λ_ _=>True)
  (λf mm _=>by rw[F.bU,Qb (by omega)];rfl)
  (λf mm k e E hk _ H=>by
   rw[F.bU,Qc (by omega),A.ixn E,Qa];show(F.ai mm 16 e).bind _=_;rw[add_eq,Qa,A.gd1 (A.r64n (by omega))];exact H _ trivial)
  (by have:=Qab;omega) mm trivial
def all_l2 (K:List (Go.Ent.Ky×Int)->Int->Option (List En×Int))(y:Int)(o:List En×Int)(mm:List (Go.Ent.Ky×Int))(I:o.1.length<=100000):F.bV K y o A.FU mm 0=A.gd (Z.R64 (y+1)) (K (insM mm o.1) (y+1)):=
 A.lp o.1 (λf (mm:List (Go.Ent.Ky×Int)) k=>F.bV K y o f mm k) (λ_ r mm=>A.gd (Z.R64 (y+1)) (K (insM mm r) (y+1))) (λ_ _=>True)
  (λf mm _=>by rw[F.bV,Qb (by omega)];rfl)
  (λf mm k e E hk _ H=>by
   rw[F.bV,Qc (by omega),A.ixn E,Qa];show(F.ai mm 16 e).bind _=_;rw[add_eq,Qa,A.gd1 (A.r64n (by omega))];exact H _ trivial)
  (by have:=Qab;omega) mm trivial
def all_l4 (d:Dl)(p:Mp)(l:List En)(hp: ∀id,Z.mget [] p id=ofP l id)(E:l.length<=200): ∀(ids:List Int) (mm:List (Go.Ent.Ky×Int)),F.bl d p ids mm=F.a4 d p A.FU (insM mm (ids.flatMap (ofP l))) 0
 | [],mm=>by rw[F.bl];rfl
 |i::ids,mm=>by
  have:=Qba l i;rw[F.bl,A.lt,hp,all_l1 _ _ _ (by omega),all_l4 d p l hp E ids,Y5,Qgo]
def Qky (tn:Nd)(m:Mv)(q:List En):(migP tn m q).1.length<=q.length:=by
 unfold migP;split;simp
 (split)
 simp
 (split)
 have:=Qai (oneK tn) (q.map (mvE tn m)) [];rw[Qw]at this;simpa using this;simp
def all_l3 (g:List Nd)(d:Dl)(l:List En)(p:Mp)(hp: ∀id,Z.mget [] p id=ofP l id)(H:Pr g d l)(mm:List (Go.Ent.Ky×Int)):
  F.a4 d p A.FU mm 0=if(mvs (tgt d) l d.2.2).1≠0 then some ([],(mvs (tgt d) l d.2.2).1)else(F.az (insM mm (mvs (tgt d) l d.2.2).2)).bind λL=>some (L,0):=by
 have W:=H.ll;have J:=H.sd.pl;have N:=H.sd.ml;exact A.lp d.2.2 (λf (mm:List (Go.Ent.Ky×Int)) k=>F.a4 d p f mm k) (λ_ r mm=>if(mvs (tgt d) l r).1≠0 then some ([],(mvs (tgt d) l r).1)else(F.az (insM mm (mvs (tgt d) l r).2)).bind λL=>some (L,0)) (λ_ _=>True)
  (λf mm _=>by rw[F.a4,Qb (by omega),mvs,Qb (λh=>h rfl)];rfl)
  (λf mm k m I hk _ O=>by
   have Q:=Qba l m.1;have V:(migP (gt d.2.1 m.2.1) m (ofP l m.1)).1.length<=_:=Qky (tgt d m) m (ofP l m.1);rw[F.a4,Qc (by omega),A.ixn I,Qa,Qjs _ _ (by omega),Qa,A.lt,hp];show(F.bs (tgt d m) m (ofP l m.1)).bind _=_;rw[Migrate_eq _ _ _ (by have:=H.sf m (Qj I);omega) (by omega) (gt_has H.ht) (ofP_k H.hk),Qa];by_cases E:(migP (tgt d m) m (ofP l m.1)).2=0;rw[Qb (λh=>h E),all_l2 _ _ _ _ (by omega),A.gd1 (A.r64n (by omega)),mvs_good (T:=tgt d) E,Qgo];exact O _ trivial;rw[Qc E,mvs_bad (T:=tgt d) E,Qc E])
  (by have:=Qab;omega) mm trivial
def stays (g:List Nd)(d:Dl):List Int:=(g.filter (stayB d)).map (·.1)
def allX (g:List Nd)(d:Dl)(l:List En):List En:=(stays g d).flatMap (ofP l)++(mvs (tgt d) l d.2.2).2
def outV (g:List Nd)(d:Dl)(l:List En):List En×Int:=if(mvs (tgt d) l d.2.2).1≠0 then([],(mvs (tgt d) l d.2.2).1)else(foldP false (allX g d l) [],0)
def allV (g:List Nd)(d:Dl)(l:List En)(e:Int):List En×Int:=
 if e≠0 then([],e)else if d.2.2.filter (oddB g d)≠[]then([],181)else match prt l g 0 with
  |some y=>if y=l.length then outV g d l else([],171)
  |none=>([],171)
def o_bn {l:List En}: ∀{g:List Nd} {y z:Nat},prt l g y=some z->(∀n,n∈g->Qau n.2.1=true->stP n (ofP l n.1)=true)/\z=y+(((g.filter λn=>Qau n.2.1).map (·.1)).map λi=>(ofP l i).length).sum
 | [],y,z,h=>by
  unfold prt at h;injection h with h;exact⟨λn L=>(by cases L),by simp[h]⟩
 |n::r,y,z,h=>by
  unfold prt at h;rw[Xj];by_cases hk:Qau n.2.1=true;rw[Qc hk]at h ⊢;by_cases hs:stP n (ofP l n.1)=true;rw[Qc hs]at h;obtain⟨I,J⟩:=o_bn h;refine⟨λx H E=>?_,by rw[J,Q1,Q1,List.sum_cons];omega⟩;rcases Qk.1 H with rfl|H
  exact hs;exact I x H E;rw[Qb hs]at h;cases h;rw[Qb hk]at h ⊢;obtain⟨I,J⟩:=o_bn h;refine⟨λx H E=>?_,J⟩;rcases Qk.1 H with rfl|H
  exact absurd E hk;exact I x H E
def ent_num {n:Nd}{e:En}(hk:Qau n.2.1=true)(h:Qbj n e=true):0<=num e/\num e<=MX:=by
 have E:=Eok.of (a:=n) (b:=n) rfl h;have hk:=Wb hk;rcases hk with H|H
 exact(E.t H).2;have I:num e=1:=(E.f H).1;rw[I];exact⟨by decide,by decide⟩
def st_og {n:Nd}{l:List En}(hk:Qau n.2.1=true)(h:stP n (ofP l n.1)=true)(H: ∀e,e∈l->hasK (key e)):Og n.1 (ofP l n.1):=
 ⟨dk_st h,λe E=>⟨(Qkb.1 E).2,ent_num hk ((Qkn.1 h).1 e E),H e (Qkb.1 E).1⟩⟩
def o_cQ {ok:Mv->Bool}: ∀{r:List Mv} {pre:List Int},mvF ok pre r=true->(∀m,m∈r->ok m=true/\m.2.1∉pre)/\r.Pairwise λa b=>a.2.1≠b.2.1
 | [],_,_=>⟨λ_ h=>(by cases h),List.Pairwise.nil⟩
 |m::r,pre,h=>by
  unfold mvF at h;simp only[Qo,Qs]at h;obtain⟨H,I⟩:=o_cQ h.2;refine⟨λx E=>?_,Qu.2 ⟨λx E e=>(H x E).2 (by rw[<-e];simp),I⟩⟩;rcases Qk.1 E with rfl|E
  exact h.1;exact⟨(H x E).1,λhp=>(H x E).2 (Ws _ hp)⟩
def Qjy {g:List Nd}{d:Dl}(h:Inc g):(stays g d).Pairwise λa b=>a≠b:=by
 refine Jr.2 ((h.sublist List.filter_sublist).imp λh=>?_);omega
structure Fin (g:List Nd) (d:Dl) (l:List En):Prop where
 nm:Nm (allX g d l)
 k: ∀e,e∈allX g d l->hasK (key e)
 sn: ∀i,i∈stays g d->∀e,e∈ofP l i->0<=num e/\num e<=MX
def Qep {g:List Nd}{d:Dl}{i:Int}(h:i∈stays g d): ∃n,n∈g/\n.1=i/\Qau n.2.1=true/\hs d.2.1 n.1=false:=by
 obtain⟨n,H,rfl⟩:=Wr.1 h;obtain⟨I,E⟩:=Y0.1 H;unfold stayB at E;simp only[Qo]at E;exact⟨n,I,rfl,E.1.1,by simpa using E.1.2⟩
def o_c0 {g:List Nd}{d:Dl}{l:List En}{x:List Nd}(H:Pr g d l)(M:Made g d x){y:Nat}(W:prt l g 0=some y)(Y:(mvs (tgt d) l d.2.2).1=0):Fin g d l:=by
 obtain⟨p1,_⟩:=o_bn W;obtain⟨e1,e2⟩:=o_cP Y;have O:mvF (Qaz g d.2.1) [] d.2.2=true:=by
  have:=M.may;unfold mayB at this;simp only[Qo]at this;exact this.2
 obtain⟨m1,m2⟩:=o_cQ O;have L: ∀m,m∈d.2.2->hs d.2.1 m.2.1=true:=λm I=>by
  have:=(m1 m I).1;unfold Qaz at this;simp only[Qo]at this;exact this.1.1.1.1.2
 have ogs: ∀i,i∈stays g d->Og i (ofP l i):=λi J=>by
  obtain⟨n,hn,rfl,hk,_⟩:=Qep J;exact st_og hk (p1 n hn hk) H.hk
 have ogm: ∀m,m∈d.2.2->Og m.2.1 (migP (tgt d m) m (ofP l m.1)).1:=λm I=>by
  have:=(mig_og (e2 m I) (ofP_k H.hk) (gt_has (id:=m.2.1) H.ht)).1;rw[(gt_hs (L m I)).1]at this;exact this
 have memX: ∀e,e∈allX g d l->(∃i,i∈stays g d/\e∈ofP l i)\/∃m,m∈d.2.2/\e∈(migP (tgt d m) m (ofP l m.1)).1:=λe E=>by
  rcases Q2.1 E with E|E
  exact .inl (Yc.1 E);rw[e1]at E;exact .inr (Yc.1 E)
 have all: ∀e,e∈allX g d l->(0<=num e/\num e<=MX)/\hasK (key e):=λe E=>by
  rcases memX e E with⟨i,J,E⟩|⟨m,I,E⟩
  exact((ogs i J).e e E).2;exact((ogm m I).e e E).2
 refine⟨⟨?_,λe E=>(all e E).1⟩,λe E=>(all e E).2,λi J e E=>((ogs i J).e e E).2.1⟩;refine List.pairwise_append.2 ⟨og_flat ogs (Qjy M.good.inc),by rw[e1];exact og_flat (c:=λm:Mv=>m.2.1) ogm m2,λa Q b N hk=>?_⟩;obtain⟨i,J,Q⟩:=Yc.1 Q;rw[e1]at N;obtain⟨m,I,N⟩:=Yc.1 N;obtain⟨n,_,rfl,_,V⟩:=Qep J;have ee:a.1=b.1:=Wn (λk:Go.Ent.Ky=>k.1) hk;rw[((ogs _ J).e a Q).1,((ogm m I).e b N).1]at ee;rw[ee,L m I]at V;cases V
def Qgi (l:List En){α:Type}(f:α->List En)(n:Nat): ∀(A:List α),(∀a,a∈A->(f a).length<=n)->(A.flatMap f).length<=A.length*n
 | [],_=>by simp
 |a::A,h=>by
  have H:=Qgi l f n A λx E=>h x (Qf _ E);have I:=h a (Qi ..);rw[Y5,Qm,Qe,Xr];omega
def mvs_len {T:Mv->Nd}{l:List En}: ∀(r:List Mv),(mvs T l r).2.length<=r.length*l.length
 | []=>by simp[mvs]
 |m::r=>by
  unfold mvs;have E:=mvs_len (T:=T) (l:=l) r;have H:=Qky (T m) m (ofP l m.1);have I:=Qba l m.1;split;simp;rw[Qm,Qe,Xr];omega
def Qez (g:List Nd)(d:Dl):(stays g d).length<=g.length:=by
 unfold stays;rw[Qw];exact X1 _ _
def allX_len {g:List Nd}{d:Dl}{l:List En}(H:Pr g d l):(allX g d l).length<=20000:=by
 have I:=Qgi l (ofP l) 200 (stays g d) λi _=>Wq (Qba l i) H.ll;have J:=mvs_len (T:=tgt d) (l:=l) d.2.2;have L:=Qez g d;have N:=H.gl;have E:=H.sd.ml;have h6:=H.ll;have O:d.2.2.length*l.length<=60*200:=Nat.mul_le_mul E h6;have Q:(stays g d).length*200<=40*200:=Wj _ (by omega);unfold allX;rw[Qm];omega
def all_P {g:List Nd}{d:Dl}{l:List En}(H:Pr g d l){e:Int}(L:F.aO g d=some e)(O:e=0->∃x,Made g d x):F.eL g d l=some (allV g d l e):=by
 have Q:=H.ll;have V:=H.gl;have W:=H.sd.pl;have Y:=H.sd.ml;have hdl:=H.sd.dl;unfold F.eL allV;rw[show F.aO g d=some e from L,Qa];by_cases E:e=0;case neg=>rw[Qc E,Qc E]
 obtain⟨x,M⟩:=O E;rw[Qb (λh=>h E),Qb (λh=>h E),show F.cw g d=_ from odd_P g d e (by omega) (by omega) (by omega) H.sf L,Qa,Qc E,Qeq _ (by have:=X1 (oddB g d) d.2.2;omega),Qa];cases hod:d.2.2.filter (oddB g d)with
 |cons m r=>rw[F.cY,Qc (by simp)]
 |nil=>
  obtain⟨p,hp,N⟩:=part_l4 g l (by omega);rw[F.cY,Qb (λh=>h rfl),N,part_l3 g l p hp (by omega) (by omega)];cases hy:prt l g 0 with
  |none=>rfl
  |some y=>
   by_cases I:y=l.length;case neg=>simp only[I,Wa];rfl
   simp only[I,W8];rw[Qa,A.om_s rfl,Qb (λh=>h rfl),show F.d4 g d=_ from stays_P g d e (by omega) (by omega) (by omega) L (λ_=>M.inc),Qa,Qc E];show(F.c1 (stays g d)).bind _=_;rw[each_eq _ (by have:=Qez g d;omega),Qa,all_l4 d p l hp Q,all_l3 g d l p hp H];unfold outV;by_cases J:(mvs (tgt d) l d.2.2).1=0;have Fi:=o_c0 H M hy J;rw[Qb (λh=>h J),Qb (λh=>h J),<-Qgo];show(F.az (insM [] (allX g d l))).bind _=_;rw[list_put _ Fi.nm Fi.k (by have:=allX_len H;omega),Qa];rw[Qc J,Qc J]
def foldP_bd {q xs:List En}(E:Bd false xs)(hq: ∀e,e∈q->0<=num e/\num e<=MX):Bd false (foldP false q xs):=(o_be (one:=false) q xs E hq).1
def all_r2 (K:List En->Int->Option (List En×Int))(y:Int)(q xs:List En)(I:Bd false xs)(hq: ∀e,e∈q->0<=num e/\num e<=MX)(L:xs.length+q.length<=90000):F.c7 K y q A.FU xs 0=A.gd (Z.R64 (y+1)) (K (foldP false q xs) (y+1)):=
 A.lp q (λf (s:List En) k=>F.c7 K y q f s k) (λ_ r s=>A.gd (Z.R64 (y+1)) (K (foldP false r s) (y+1))) (λk s=>Bd false s/\s.length<=xs.length+k)
  (λf s _=>by rw[F.c7,Qb (by omega)];rfl)
  (λf s k e H hk hs J=>by
   have E:=hq e (Qj H);rw[F.c7,Qc (by omega),A.ixn H,Qa];show(F.ee s e false).bind _=_;rw[put_eq s e false (by omega) hs.1 E.1 E.2,Qa,A.gd1 (A.r64n (by omega))];exact J _ ⟨Qjw hs.1 E.1 E.2,by have:=Qai false [e] s;simp only[Qe,Ql]at this;have N:(putP e false s).length<=_:=this;omega⟩)
  (by have:=Qab;omega) xs ⟨I,Qt _⟩
def all_r3 (K:List En->Int->Option (List En×Int))(y:Int)(o:List En×Int)(xs:List En)(I:Bd false xs)(hq: ∀e,e∈o.1->0<=num e/\num e<=MX)(L:xs.length+o.1.length<=90000):F.c8 K y o A.FU xs 0=A.gd (Z.R64 (y+1)) (K (foldP false o.1 xs) (y+1)):=
 A.lp o.1 (λf (s:List En) k=>F.c8 K y o f s k) (λ_ r s=>A.gd (Z.R64 (y+1)) (K (foldP false r s) (y+1))) (λk s=>Bd false s/\s.length<=xs.length+k)
  (λf s _=>by rw[F.c8,Qb (by omega)];rfl)
  (λf s k e H hk hs J=>by
   have E:=hq e (Qj H);rw[F.c8,Qc (by omega),A.ixn H,Qa];show(F.ee s e false).bind _=_;rw[put_eq s e false (by omega) hs.1 E.1 E.2,Qa,A.gd1 (A.r64n (by omega))];exact J _ ⟨Qjw hs.1 E.1 E.2,by have:=Qai false [e] s;simp only[Qe,Ql]at this;have N:(putP e false s).length<=_:=this;omega⟩)
  (by have:=Qab;omega) xs ⟨I,Qt _⟩
def Qdv (a b xs:List En):foldP false (a++b) xs=foldP false b (foldP false a xs):=by unfold foldP;rw[Jq]
def all_r6 (d:Dl)(l:List En)(ids:List Int)(N:l.length<=200)(O:ids.length<=40)(I: ∀i,i∈ids->∀e,e∈ofP l i->0<=num e/\num e<=MX):F.bp d l ids A.FU [] 0=F.bo d l A.FU (foldP false (ids.flatMap (ofP l)) []) 0:=
 A.lp ids (λf (s:List En) k=>F.bp d l ids f s k) (λ_ r s=>F.bo d l A.FU (foldP false (r.flatMap (ofP l)) s) 0) (λk s=>Bd false s/\s.length<=k*200)
  (λf s _=>by rw[F.bp,Qb (by omega)];rfl)
  (λf s k i H hk hs J=>by
   have Q:=Qba l i;have E:=I i (Qj H);rw[F.bp,Qc (by omega),A.ixn H,Qa,of_R _ _ (by omega),Qa,all_r2 _ _ _ _ hs.1 E (by omega),A.gd1 (A.r64n (by omega)),Y5,Qdv];exact J _ ⟨foldP_bd hs.1 E,by have:=Qai false (ofP l i) s;rw[Xr];omega⟩)
  (by have:=Qab;omega) [] ⟨⟨List.Pairwise.nil,λe L=>by cases L⟩,Xi _⟩
def all_r5 (g:List Nd)(d:Dl)(l:List En)(H:Pr g d l)(xs:List En)(L:Bd false xs)(Y:xs.length<=8000):
  F.bo d l A.FU xs 0=if(mvs (tgt d) l d.2.2).1≠0 then some ([],(mvs (tgt d) l d.2.2).1)else some (foldP false (mvs (tgt d) l d.2.2).2 xs,0):=by
 have hl:=H.ll;have N:=H.sd.pl;have O:=H.sd.ml;exact A.lp d.2.2 (λf (s:List En) k=>F.bo d l f s k) (λ_ r s=>if(mvs (tgt d) l r).1≠0 then some ([],(mvs (tgt d) l r).1)else some (foldP false (mvs (tgt d) l r).2 s,0)) (λk s=>Bd false s/\s.length<=8000+k*200)
  (λf s _=>by rw[F.bo,Qb (by omega),mvs,Qb (λh=>h rfl)];rfl)
  (λf s k m I hk hs Q=>by
   have V:=Qba l m.1;have J:(migP (gt d.2.1 m.2.1) m (ofP l m.1)).1.length<=_:=Qky (tgt d m) m (ofP l m.1);have hgl2:(migP (tgt d m) m (ofP l m.1)).1.length<=_:=J;rw[F.bo,Qc (by omega),A.ixn I,Qa,findG _ _ H.sd.put (by omega),Qa,F.f0,A.ixn I,Qa,Qa,of_R _ _ (by omega),Qa];show(F.ef (tgt d m) m (ofP l m.1)).bind _=_;rw[Qfd _ _ _ (H.sf m (Qj I)) (by omega),Qa];by_cases E:(migP (tgt d m) m (ofP l m.1)).2=0;have og:=(mig_og E (ofP_k H.hk) (gt_has (id:=m.2.1) H.ht)).1;have hq: ∀e,e∈(migP (tgt d m) m (ofP l m.1)).1->0<=num e/\num e<=MX:=λe W=>(og.e e W).2.1;rw[Qb (λh=>h E),all_r3 _ _ _ _ hs.1 hq (by omega),A.gd1 (A.r64n (by omega)),mvs_good (T:=tgt d) E,Qdv];exact Q _ ⟨foldP_bd hs.1 hq,by have:=Qai false (migP (tgt d m) m (ofP l m.1)).1 s;rw[Xr];omega⟩;rw[Qc E,mvs_bad (T:=tgt d) E,Qc E])
  (by have:=Qab;omega) xs ⟨L,by omega⟩
def all_R {g:List Nd}{d:Dl}{l:List En}(H:Pr g d l){e:Int}(O:F.bb g d=some e)(Y:e=0->∃x,Made g d x):F.f7 g d l=some (allV g d l e):=by
 have W:=H.ll;have hgl:=H.gl;have hpl:=H.sd.pl;have hml:=H.sd.ml;have hdl:=H.sd.dl;unfold F.f7 allV;rw[show F.bb g d=some e from O,Qa];by_cases E:e=0;case neg=>rw[Qc E,Qc E]
 obtain⟨x,M⟩:=Y E;rw[Qb (λh=>h E),Qb (λh=>h E),show F.ft g d=_ from odd_R g d e H.sg (by omega) H.sd.put (by omega) (by omega) H.sf O,Qa,Qc E];cases hod:d.2.2.filter (oddB g d)with
 |cons m r=>rw[Qc (by simp only[Qe];omega),Qc (by simp)]
 |nil=>
  rw[Qb (by simp),Qb (λh=>h rfl),part_R g d l (by omega) (by omega)];cases hy:prt l g 0 with
  |none=>rfl
  |some y=>
   by_cases I:y=l.length;case neg=>simp only[I,Wa]
   simp only[I,W8];rw[stays_R g d e (by omega) (by omega) (by omega) O,Qa,Qc E];show F.bp d l (stays g d) A.FU [] 0=_;have sl:=Qez g d;have J: ∀i,i∈stays g d->∀e,e∈ofP l i->0<=num e/\num e<=MX:=λi Q=>by
    obtain⟨n,hn,rfl,hk,_⟩:=Qep Q;exact λe L=>((st_og hk ((o_bn hy).1 n hn hk) H.hk).e e L).2.1
   have V:Bd false (foldP false ((stays g d).flatMap (ofP l)) []):=(foldP_nil (one:=false) _ (λe L=>by
    obtain⟨i,Q,L⟩:=Yc.1 L;exact J i Q e L)).1
   have hfl:=Qgi l (ofP l) 200 (stays g d) λi _=>Wq (Qba l i) W;rw[all_r6 d l _ W (by omega) J,all_r5 g d l H _ V (by
    have:=Qai false ((stays g d).flatMap (ofP l)) [];simp only[Ql]at this;have h8:(stays g d).length*200<=40*200:=Wj _ (by omega);omega)]
   unfold outV;by_cases N:(mvs (tgt d) l d.2.2).1=0;rw[Qb (λh=>h N),Qb (λh=>h N),<-Qdv];rfl;rw[Qc N,Qc N]
def chk_same (g:List Nd)(d:Dl)(E:Sml g)(H:g.length<=60)(I:SmD d): ∃e,F.aO g d=some e/\F.bb g d=some e/\(e=0->∃x,Made g d x):=by
 obtain⟨x,e,a1,a2,_,a4⟩:=Qke g d E H I;refine⟨e,?_,a2,λh=>⟨x,a4 h⟩⟩;unfold F.aO;rw[show F.d3 g d=some (x,e)from a1];rfl
def fewF (s:Int):List Nd->Int
 | []=>s
 |x::r=>fewF (min (s+min (x.2.2.1.length:Int) 1048576+min (x.2.2.2.2.1.size:Int) 1048576+min (x.2.2.2.1.2.2.size:Int) 1048576) 1048576) r
def Qes: ∀(l:List Nd) (s:Int),0<=s->s<=1048576->s<=fewF s l/\fewF s l<=1048576
 | [],s,_,h=>⟨Y7 s,h⟩
 |x::r,s,h,E=>by
  unfold fewF;have:=Qes r (min (s+min (x.2.2.1.length:Int) 1048576+min (x.2.2.2.2.1.size:Int) 1048576+min (x.2.2.2.1.2.2.size:Int) 1048576) 1048576) (by omega) (by omega);omega
def fewF_le: ∀(l:List Nd) (s:Int),0<=s->s<=1048576->fewF s l<=5000->∀x∈l,x.2.2.1.length<=5000/\x.2.2.2.2.1.size<=5000/\x.2.2.2.1.2.2.size<=5000
 | [],_,_,_,_,x,E=>by cases E
 |y::r,s,h,I,H,x,E=>by
  unfold fewF at H;have J:=(Qes r (min (s+min (y.2.2.1.length:Int) 1048576+min (y.2.2.2.2.1.size:Int) 1048576+min (y.2.2.2.1.2.2.size:Int) 1048576) 1048576) (by omega) (by omega)).1;rcases Qk.1 E with rfl|E
  omega;exact fewF_le r _ (by omega) (by omega) H x E
def fewM (s:Int):List Mv->Int
 | []=>s
 |m::r=>fewM (min (s+min (m.2.2.2.2.2.2.size:Int) 1048576) 1048576) r
def fewM_le: ∀(l:List Mv) (s:Int),0<=s->s<=1048576->fewM s l<=5000->s<=5000/\∀m∈l,m.2.2.2.2.2.2.size<=5000
 | [],_,_,_,h=>⟨h,λx E=>(by cases E)⟩
 |y::r,s,h,J,H=>by
  unfold fewM at H;obtain⟨L,I⟩:=fewM_le r (min (s+min (y.2.2.2.2.2.2.size:Int) 1048576) 1048576) (by omega) (by omega) H;refine⟨by omega,λx E=>?_⟩;rcases Qk.1 E with rfl|E
  omega;exact I x E
def concat_eq (q:List (List Nd))(hq:q.length<=10)(h: ∀a,a∈q->a.length<=1000):F.ao q=some q.flatten:=by
 have fl: ∀r:List (List Nd),(∀a,a∈r->a.length<=1000)->r.flatten.length<=r.length*1000:=λr=>by
  induction r with
  |nil=>intro _;simp
  |cons a r E=>intro h;have N:=E λa I=>h a (Qf _ I);have I:=h a (Qi ..);rw[List.flatten_cons,Qm,Qe,Xr];omega
 have J:F.h q A.FU [] 0=some q.flatten:=by
  have:=A.lp q (λf (s:List Nd) k=>F.h q f s k) (λ_ r s=>some (s++r.flatten)) (λk s=>s.length<=k*1000)
   (λf s _=>by rw[F.h,Qb (by omega)];simp)
   (λf s k a H hk hs E=>by
    have L:=h a (Qj H);rw[F.h,Qc (by omega),A.ixn H,Qa,A.gd1 (by omega),A.gd1 (A.r64n (by omega)),E _ (by rw[Qm,Xr];omega),List.flatten_cons,Q0])
   (by have:=Qab;omega) [] (Xi _)
  rw[Wl]at this;exact this
 unfold F.ao;have:=A.lp q (λf (s:Nat) k=>F.e q f (s:Int) k) (λ_ _ _=>some q.flatten) (λk s=>s<=k*1000)
  (λf s hs=>by
   show F.e q (f+1) (s:Int) _=_;rw[F.e,Qb (by omega),F.bY,A.gd1 (by omega),Qa,J])
  (λf s k a H hk hs E=>by
   have L:=h a (Qj H);show F.e q (f+1) (s:Int) _=_;rw[F.e,Qc (by omega),A.ixn H,Qa,A.gd1 ⟨by omega,by omega⟩,Qb (by omega),A.gd1 (A.r64n (by omega)),show(s:Int)+(a.length:Int)=((s+a.length:Nat):Int) by omega];exact E _ (by rw[Xr];omega))
  (by have:=Qab;omega) 0 (Xi _)
 exact this
structure Sz (g:List Nd) (d:Dl):Prop where
 sg:Sml g
 gl:g.length<=40
 sd:SmD d
 sf:SmF d
 ml:d.2.2.length<=40
def o_cR (g:List Nd)(d:Dl): ∃b,F.fb g d=some b/\(b=true->Sz g d):=by
 have ht1:(List.take (min (g.length:Int) 99).toNat g).length<=99:=by rw[Qy];omega
 have ht2:(List.take (min (d.2.1.length:Int) 99).toNat d.2.1).length<=99:=by rw[Qy];omega
 have ht3:(List.take (min (d.2.2.length:Int) 99).toNat d.2.2).length<=99:=by rw[Qy];omega
 unfold F.fb;rw[A.gd1 (by omega),A.gd1 (by omega),concat_eq _ (by simp) (λa E=>by
  rcases Qk.1 E with rfl|E
  omega;rw[Qn]at E;subst E;omega),Qa]
 have e2:[List.take (min (g.length:Int) 99).toNat g,List.take (min (d.2.1.length:Int) 99).toNat d.2.1].flatten=List.take (min (g.length:Int) 99).toNat g++List.take (min (d.2.1.length:Int) 99).toNat d.2.1:=by simp
 rw[e2];have hlen:(List.take (min (g.length:Int) 99).toNat g++List.take (min (d.2.1.length:Int) 99).toNat d.2.1).length<=198:=by rw[Qm];omega
 generalize O:List.take (min (g.length:Int) 99).toNat g++List.take (min (d.2.1.length:Int) 99).toNat d.2.1=X at hlen ⊢;have H:0<=fewF 0 X/\fewF 0 X<=1048576:=Qes X 0 (by omega) (by omega);have l2:=A.lp X (λf s y=>F.cM g d X f s y) (λ_ r s=>F.ch g d A.FU (fewF s r) 0) (λ_ s=>0<=s/\s<=1048576)
  (λf s _=>by rw[F.cM,Qb (by omega),A.gd1 (by omega)];rfl)
  (λf s k x I hk hp J=>by
   rw[F.cM,Qc (by omega),A.ixn I,Qa,A.gd1 ⟨⟨by omega,by omega⟩,⟨by omega,by omega⟩,⟨by omega,by omega⟩⟩,A.gd1 (A.r64n (by omega)),J _ (by omega)];rfl)
  (by have:=Qab;omega) 0 (by omega)
 rw[l2];have l1:=A.lp (List.take (min (d.2.2.length:Int) 99).toNat d.2.2) (λf s y=>F.ch g d f s y) (λ_ r s=>some (bif bif bif bif decide ((g.length:Int)<=40)then decide ((d.2.1.length:Int)<=40)else false then decide ((d.1.length:Int)<=60)else false then decide ((d.2.2.length:Int)<=40)else false then decide (fewM s r<=5000)else false)) (λ_ s=>0<=s/\s<=1048576)
  (λf s _=>by rw[F.ch,Qb (by omega)];rfl)
  (λf s k x I hk hp J=>by
   rw[F.ch,Qc (by omega),A.ixn I,Qa,A.gd1 ⟨by omega,by omega⟩,A.gd1 (A.r64n (by omega)),J _ (by omega)];rfl)
  (by have:=Qab;omega) (fewF 0 X) H
 rw[l1];refine⟨_,rfl,λh=>?_⟩;simp only[Xx]at h;by_cases Q:(g.length:Int)<=40;case neg=>simp[Q]at h
 by_cases V:(d.2.1.length:Int)<=40;case neg=>simp[V]at h
 by_cases W:(d.1.length:Int)<=60;case neg=>simp[W]at h
 by_cases Y:(d.2.2.length:Int)<=40;case neg=>simp[Y]at h
 simp only[Q,V,W,Y,decide_true,W8,Qs]at h;have t1:List.take (min (g.length:Int) 99).toNat g=g:=Q3 (by omega);have t2:List.take (min (d.2.1.length:Int) 99).toNat d.2.1=d.2.1:=Q3 (by omega);have t3:List.take (min (d.2.2.length:Int) 99).toNat d.2.2=d.2.2:=Q3 (by omega);rw[t1,t2]at O;rw[t3]at h;obtain⟨k1,k2⟩:=fewM_le d.2.2 _ H.1 H.2 h;have L:=fewF_le X 0 (by omega) (by omega) k1;rw[<-O]at L;exact⟨⟨by omega,λn N=>L n (Ws _ N)⟩,by omega,⟨⟨by omega,λn N=>L n (Wt _ N)⟩,by omega,by omega,by omega⟩,k2,by omega⟩
def hasK_of {l:List En}(h:(Z.Ty.slice T49).ok l): ∀e,e∈l->hasK (key e):=λe E=>by
 have:=h.2 e E;exact⟨this.1,this.2.1,this.2.2.1⟩
def has_of {l:List Nd}(h:(Z.Ty.slice T54).ok l): ∀n,n∈l->A.h6 n.1:=λn E=>(h.2 n E).1
def outV_len {g:List Nd}{d:Dl}{l:List En}(H:Pr g d l)(e:Int):(allV g d l e).1.length<=20000:=by
 unfold allV outV;split;simp
 (split)
 simp
 (split)
 (split)
 (split)
 simp;have E:=Qai false (allX g d l) [];have I:=allX_len H;simp only[Ql]at E;show(foldP false (allX g d l) []).length<=_;omega;simp;simp
def schemaAll_plain (g:List Nd)(d:Dl)(l:List En)(most:UInt8)(h0:T23.ok g)(J:T27.ok d)(E:(Z.Ty.slice T49).ok l)(_:True):F.dX g d l most=some true:=by
 have I: ∀y,y=true->F.a2 g d l most y=some true:=λy L=>by rw[F.a2,Qc L,begun_eq];rfl
 unfold F.dX;rw[begun_eq,Qa,Qb (by decide)];obtain⟨b,f1,f2⟩:=o_cZ l E.1;rw[f1,Qa];cases b with
 |false=>rw[Qc (show(!false)=true from rfl)];exact I true rfl
 |true=>
  rw[Qb (by decide)];obtain⟨b,N,Q⟩:=o_cR g d;rw[show F.fb g d=some b from N,Qa];cases b with
  |false=>exact I _ rfl
  |true=>
   have Z:=Q rfl;have V:=Z.gl;have W:=Z.ml;have Y:=Z.sd.pl;have H:Pr g d l:=⟨Z.sg,Z.gl,Z.sd,Z.sf,f2 rfl,hasK_of E,has_of J.2.1⟩;obtain⟨e,c1,c2,c3⟩:=chk_same g d Z.sg (by omega) Z.sd;rw[F.a2,Qb (by decide),show F.eL g d l=some _ from all_P H c1 c3,Qa,show F.f7 g d l=some _ from all_R H c2 c3,Qa,
    show F.ft g d=some _ from odd_R g d e Z.sg (by omega) Z.sd.put (by omega) (by omega) Z.sf c2,Qa,Same_eq _ _ (by have:=outV_len H e;omega),Qa,Qc (by simp),
    show F.cw g d=some _ from odd_P g d e (by omega) (by omega) (by omega) Z.sf c1]
   generalize hO:(if e=0 then d.2.2.filter (oddB g d)else [])=O;have hOl:O.length<=40:=by
    rw[<-hO];split;have:=X1 (oddB g d) d.2.2;omega;simp
   rw[Qa,told_eq _ _ (by omega),Qa,Q3 (show O.length<=(99:Int).toNat by simpa using (by omega:O.length<=99)),EqM _ _ (by omega),Qa,Qc (by simp)];have hm:most.toNat<256:=most.toNat_lt;rw[A.gd1 ⟨⟨by omega,by omega⟩,⟨by omega,by omega⟩⟩,A.gd1 ⟨by omega,by omega⟩,Qa,told_eq _ _ (by omega),Qa,EqM _ _ (by rw[Qy];omega),Qa,F.ca];congr 1;rw[Ww];rcases Yy most.toNat O.length with hc|hc
   rw[show(min (O.length:Int) (most.toNat:Int)).toNat=(most.toNat:Int).toNat by omega];rw[Q3 (by omega),Q3 (by omega)]
end Go.Proofs.YtlhiofnikdppeaaGreatDoor
end
section
namespace Go.Z
open Go.RowKit
def OpenT (P:Program)(T:TypeId)(t:Ty):Prop:=
 P.cellsOf T=t.size/\∀(H:Type) (enc:TypeId×Value->H) (w:World) (base:Nat) (spare:Nat->Bool) (held:Bool) (fuel:Nat) (cs:List Value) (x:DataW H×List MemPlace),
  DataW.trod enc P w base spare held fuel T cs=some x->∃y:t.den,t.rep w (nt []) cs y
section
variable {P:Program}{T e:TypeId}
def ot_int {k:IntKind}(I:P.cellsOf T=1)(J:P.underlying T=some (.int k)):OpenT P T (.int k):=⟨I,λH enc w base spare held fuel cs x h=>by
 obtain⟨n,rfl,_,E⟩:=DataW.trod_int J h;refine⟨n,rfl,?_⟩;simp only[Lit.wf,Qo,Qs]at E;exact E⟩
def ot_byte (E:P.cellsOf T=1)(I:P.underlying T=some (.int .u8)):OpenT P T .byte:=⟨E,λH enc w base spare held fuel cs x h=>by
 obtain⟨n,rfl,_,J⟩:=DataW.trod_int I h;simp[Lit.wf,IntKind.min,IntKind.max,IntKind.signed,IntKind.bits]at J;exact⟨UInt8.ofNat n.toNat,Wn (λz=>[Value.int .u8 z]) (u8_of (by omega))⟩⟩
def ot_str (E:P.cellsOf T=1)(I:P.underlying T=some .string):OpenT P T .str:=⟨E,λH enc w base spare held fuel cs x h=>by
 obtain⟨s,rfl,_,hs⟩:=DataW.trod_string I h;exact⟨s,rfl,hs⟩⟩
def OpenPs (P:Program):List (TypeId×Nat)->Nat->Ty->Prop
 | [],_,_=>False
 | [(T,o')],o,t=>o'=o/\OpenT P T t
 |(T,o')::p::ps,o,.pair a b=>o'=o/\OpenT P T a/\OpenPs P (p::ps) (o+a.size) b
 |_::_::_,_,_=>False
def open_ps {H:Type}{enc:TypeId×Value->H}{w:World}{base:Nat}{spare:Nat->Bool}{held:Bool}{fuel:Nat}{cs:List Value}:
  ∀(ps:List (TypeId×Nat)) (o:Nat) (t:Ty),OpenPs P ps o t->(∀p∈ps,∃x,DataW.trod enc P w base spare held fuel p.1 ((cs.drop p.2).take (P.cellsOf p.1))=some x)->∃y:t.den,t.rep w (nt []) ((cs.drop o).take t.size) y
 | [],_,_,h,_=>h.elim
 | [(T,o')],o,t,h,E=>by
  obtain⟨rfl,⟨I,J⟩⟩:=h;obtain⟨x,E⟩:=E (T,o') (Qn.2 rfl);rw[<-I];exact J _ _ _ _ _ _ _ _ _ E
 |(T,o')::p::ps,o,.pair a b,h,E=>by
  obtain⟨rfl,⟨I,J⟩,O⟩:=h;obtain⟨x,Q⟩:=E (T,o') (Qi ..);obtain⟨ya,L⟩:=J _ _ _ _ _ _ _ _ _ Q;obtain⟨yb,N⟩:=open_ps (p::ps) _ b O λq hq=>E q (Qf _ hq);refine⟨(ya,yb),_,_,?_,L,N⟩;show(cs.drop o').take (a.size+b.size)=_;rw[I,List.take_add,Jo]
 |_::_::_,_,.int _,h,_=>h.elim
 |_::_::_,_,.byte,h,_=>h.elim
 |_::_::_,_,.bool,h,_=>h.elim
 |_::_::_,_,.str,h,_=>h.elim
 |_::_::_,_,.slice _,h,_=>h.elim
def ot_struct {fs:List Field}{t:Ty}(L:P.cellsOf T=t.size)(N:P.underlying T=some (.struct fs.toArray))(h:OpenPs P (fs.map λf=>(f.type,f.offset)) 0 t):OpenT P T t:=⟨L,λH enc w base spare held fuel cs x O=>by
 obtain⟨xs,n,_,_,Y,hs,Q⟩:=DataW.trod_struct N O;have E:cs=(cs.drop 0).take t.size:=by rw[W6,Q3 (by omega)]
 rw[E];refine open_ps (fuel:=n) (enc:=enc) (base:=base) (spare:=spare) (held:=held) _ 0 t h λp hp=>?_;obtain⟨f,I,rfl⟩:=Wr.1 hp;obtain⟨i,J,V⟩:=Yi I;have W:=Q i f (by rw[Wu,Qg J,V]);rw[W,Qg (by rw[hs];simpa using J)];exact⟨_,rfl⟩⟩
def rows_of {t:Ty}{w:World}{g:Addr}: ∀(n:Nat),(∀i,i<n->∃(cs:List Value) (y:t.den),cs.length=t.size/\(∀j u,cs[j]?=some u->w.cell? (g.add (i*t.size+j))=some u)/\t.rep w (nt []) cs y)->
  ∃(cells:List Value) (ys:List t.den),ys.length=n/\cells.length=n*t.size/\(∀j u,cells[j]?=some u->w.cell? (g.add j)=some u)/\∀(i:Nat) (y:t.den),ys[i]?=some y->t.rep w (nt []) ((cells.drop (i*t.size)).take t.size) y
 |0,_=>⟨[],[],rfl,by simp,by simp,by simp⟩
 |n+1,h=>by
  obtain⟨cells,ys,L,I,N,O⟩:=rows_of n λi E=>h i (by omega);obtain⟨cs,y,c1,c2,c3⟩:=h n (by omega);refine⟨cells++cs,ys++[y],by simp[L],by rw[Qm,I,c1,Nat.succ_mul],λj u H=>?_,?_⟩;by_cases J:j<cells.length;rw[Wc J]at H;exact N j u H;rw[Q9 (by omega)]at H;have:=c2 _ u H;rwa[I,show n*t.size+(j-n*t.size)=j by omega]at this;refine Qfo (xs:=ys) (ys:=[y]) (by rw[I,L]) O λi y' E=>?_;have:i=0:=by have:=(Qd.1 E).1;simp at this;omega
  subst this;simp at E;subst E;rw[Nat.zero_mul,W6,Q3 (by omega)];exact c3
def ot_slice {t:Ty}(Y:P.cellsOf T=1)(ht:P.underlying T=some (.slice e))(h:OpenT P e t):OpenT P T (.slice t):=⟨Y,λH enc w base spare held fuel cs x hx=>by
 rcases DataW.trod_slice ht hx with⟨rfl,_⟩|⟨ad,len,cap,elems,rest,n,_,rfl,_,hb,hl,V,hlen,Q,_,_⟩
 exact⟨[],Qgk _⟩;have each: ∀i,i<len->∃(cs:List Value) (y:t.den),cs.length=t.size/\(∀j u,cs[j]?=some u->w.cell? (ad.add (i*t.size+j))=some u)/\t.rep w (nt []) cs y:=λi hi=>by
  have E:=Q i hi;rw[Qg (by omega),Jj]at E;obtain⟨cs',J,L⟩:=E;obtain⟨_,N,W⟩:=World.cells?_some J;obtain⟨y,hy⟩:=h.2 _ _ _ _ _ _ _ _ _ L;rw[h.1]at N W;refine⟨cs',y,N,λj u O=>?_,hy⟩;have I:=(Qd.1 O).1;have:=W j (by omega);rw[add_add]at this;rw[this,O]
 obtain⟨cells,ys,E,J,L,N⟩:=rows_of len each;by_cases hz:len=0;subst hz;have:ys=[]:=We E;subst this;exact⟨[],some ad,cap,[],rfl,by simp,V,by simp,.inl rfl,by simp⟩;have hp:=Qar t;have I:0<cells.length:=by rw[J];exact Nat.mul_pos (by omega) hp
 have h0:=L 0 _ (Qg I);have hspot:=World.cell?_spot h0;obtain⟨b,off,spot⟩:=ad;simp only[Addr.add]at hspot;subst hspot;refine⟨ys,some ⟨b,off,none⟩,cap,cells,by rw[E],by omega,V,by rw[E];exact J,.inr ⟨b,off,rfl,by simp[nt],λj u O=>?_⟩,N⟩;have:=L j u O;rwa[Addr.add_lit]at this⟩
end
end Go.Z
end
section
namespace Go.Proofs.YtlhiofnikdppeaaGreatDoor.schemaAllDone
open Go.ChangeShapes Go.WideShapes Go.ChangeAt Go.RowKit
def own:ownKnob Tryz.prog.godebug=none:=by kernel_rfl
def laidOut:laidOutB Tryz.prog=true:=by kernel_rfl
def ot3:Z.OpenT Tryz.prog 3 A.ti:=Z.ot_int (by kernel_rfl) Tryz.underlying3
def ot25:Z.OpenT Tryz.prog 25 A.TI:=Z.ot_slice (by kernel_rfl) Tryz.underlying25 ot3
def ot2:Z.OpenT Tryz.prog 2 A.ti:=Z.ot_int (by kernel_rfl) Tryz.underlying2
def ot9:Z.OpenT Tryz.prog 9 Z.Ty.str:=Z.ot_str (by kernel_rfl) Tryz.underlying9
def ot41:Z.OpenT Tryz.prog 41 T40:=Z.ot_struct (by kernel_rfl) Tryz.underlying41 ⟨rfl,ot3,rfl,ot2,rfl,ot9⟩
def ot55:Z.OpenT Tryz.prog 55 T54:=Z.ot_struct (by kernel_rfl) Tryz.underlying55 ⟨rfl,ot3,rfl,ot3,rfl,ot25,rfl,ot41,rfl,ot9,rfl,ot2,rfl,ot3⟩
def ot22:Z.OpenT Tryz.prog 22 (Z.Ty.slice T54):=Z.ot_slice (by kernel_rfl) Tryz.underlying22 ot55
def ot24:Z.OpenT Tryz.prog 24 T23:=Z.ot_struct (by kernel_rfl) Tryz.underlying24 ⟨rfl,ot22⟩
def ot43:Z.OpenT Tryz.prog 43 T42:=Z.ot_struct (by kernel_rfl) Tryz.underlying43 ⟨rfl,ot3,rfl,ot3,rfl,ot3,rfl,ot2,rfl,ot41⟩
def ot26:Z.OpenT Tryz.prog 26 (Z.Ty.slice T42):=Z.ot_slice (by kernel_rfl) Tryz.underlying26 ot43
def ot28:Z.OpenT Tryz.prog 28 T27:=Z.ot_struct (by kernel_rfl) Tryz.underlying28 ⟨rfl,ot25,rfl,ot22,rfl,ot26⟩
def ot50:Z.OpenT Tryz.prog 50 T49:=Z.ot_struct (by kernel_rfl) Tryz.underlying50 ⟨rfl,ot3,rfl,ot2,rfl,ot9,rfl,ot2⟩
def ot29:Z.OpenT Tryz.prog 29 (Z.Ty.slice T49):=Z.ot_slice (by kernel_rfl) Tryz.underlying29 ot50
def ot5:Z.OpenT Tryz.prog 5 Z.Ty.byte:=Z.ot_byte (by kernel_rfl) Tryz.underlying5
set_option maxRecDepth 100000 in
def laid_met (os:Os)(args:Array Value):laidMetH Tryz.prog Rows.schemaAllRow.laid (({World.holding Tryz.prog os ⟨#[],#[],[]⟩with heap:=((World.holding Tryz.prog os ⟨#[],#[],[]⟩).heap.modify 0 (A.putCells A.tabF)).modify 1 (A.putCells A.tabA)}:World).forCall (λ_ _=>0) ⟨#[],args,[]⟩).memory:=by
 rw[MakeChecks.laidMetH_plain _ _ _ (by kernel_rfl)];exact(LaidIn.of_run (l:=Rows.schemaAllRow.laid) [1,0] 8 (by kernel_rfl) (by kernel_rfl) (by kernel_rfl) (by kernel_rfl)).met
def of_laid {W:World}(h:laidMetH Tryz.prog Rows.schemaAllRow.laid W):Lib.Utf8Tabs 0 1 W:=by
 rw[MakeChecks.laidMetH_plain _ _ _ (by kernel_rfl)]at h;have E:=Lib.laidMet.reads h (.tail _ (.head _));rw[show Rows.laid_unicode_utf8_first=Lib.firstData from Pinned.utf8First_eq]at E;have H:=Lib.laidMet.reads h (.head _);rw[show(Rows.laid_unicode_utf8_acceptRanges:DataW Unit)=Lib.acceptData by kernel_rfl]at H;exact utf8Tabs_of_readsT (U8Types.of196 Tryz.laysValid) ⟨by kernel_rfl,by kernel_rfl,by kernel_rfl,by kernel_rfl,by kernel_rfl,by kernel_rfl,by kernel_rfl⟩ E H
set_option maxHeartbeats 1000000 in
set_option maxRecDepth 100000 in
def lifted (os:Os)(started:os.Started)(H:Type)(enc:TypeId×Value->H):
  ReturnsInHanded {} Tryz.checked os 3 .any (λw args=>(Rows.schemaAllSpec.pre enc Tryz.prog Tryz.f3 [] false w args/\laidMetH Tryz.prog Rows.schemaAllRow.laid w)/\sizedMet enc Tryz.prog Tryz.f3 (OpenSpec.ofChange Rows.schemaAllSpec) false w args) (Rows.schemaAllSpec.post enc Tryz.prog Tryz.f3 false true false false):=by
 refine returnsInHanded_of_change_and (C:=Tryz.checked) (X:=λw _=>laidMetH Tryz.prog Rows.schemaAllRow.laid w) (λ_ _ _ hh h=>h.of_heap hh) own started (by kernel_rfl) Tryz.func3
  (ChangeSpec.witness_shaped (enc:=enc) (C:=Tryz.checked) (os:=os) (X:=λw _=>laidMetH Tryz.prog Rows.schemaAllRow.laid w) false ({World.holding Tryz.prog os ⟨#[],#[],[]⟩with heap:=((World.holding Tryz.prog os ⟨#[],#[],[]⟩).heap.modify 0 (A.putCells A.tabF)).modify 1 (A.putCells A.tabA)}) #[.agg #[.slice none 0 0],.agg #[.slice none 0 0,.slice none 0 0,.slice none 0 0],.slice none 0 0,.int .u8 0] 16 rfl (World.shaped_of_RefB (by kernel_rfl) (by kernel_rfl)) (by kernel_rfl) (by kernel_rfl) (by kernel_rfl) (laid_met os _)) ?_
 intro W base args ds gs before hval0 hW hcnd hsz0 hL _;have hval: ∀(j:Nat) t v,Tryz.f3.params[j]?=some t->args[j]?=some v->Value.okWide Tryz.prog W .any base t v:=hval0;have hW':=hW;obtain⟨p,q,Y,hV,rfl,hfz,hnd⟩:=hW;have hA:DataW.TrodAll enc Tryz.prog W 0 (λ_=>true) true Tryz.f3.params.toList args.toList ds p:=Y;rw[Tryz.params3]at hA hval;obtain⟨v0,vs0,d0,ds0,p0,q0,hargs,rfl,rfl,h0,r0⟩:=trodAll_cons hA;obtain⟨v1,vs1,d1,ds1,p1,q1,rfl,rfl,rfl,h1,r1⟩:=trodAll_cons r0;obtain⟨v2,vs2,d2,ds2,p2,q2,rfl,rfl,rfl,h2,r2⟩:=trodAll_cons r1;obtain⟨v3,vs3,d3,ds3,p3,q3,rfl,rfl,rfl,h3,r3⟩:=trodAll_cons r2;obtain⟨rfl,rfl,rfl⟩:=trodAll_nil r3;obtain rfl:args=#[v0,v1,v2,v3]:=by cases args;simp_all
 obtain⟨rfl,rfl⟩:=trodVars_none hV;have k0:=h0;have lt0: ∀x∈p0,x.block<W.heap.size:=by obtain⟨m,Q⟩:=k0;exact DataW.trod_lt m _ _ _ Q
 obtain⟨fu0,hf0⟩:=h0;obtain⟨V,E⟩:=ot24.2 _ _ _ _ _ _ _ _ _ hf0;obtain⟨cs0,rfl,_⟩:=okWide_struct Tryz.underlying24 (hval 0 24 v0 rfl rfl);replace E:T23.rep W (Z.nt []) cs0.toList V:=E;have hok0:=Z.rep_ok _ E;obtain⟨a0,c0,hc0⟩: ∃a c,cs0.toList=[.slice a V.length c]:=by obtain⟨a,c,_,h,_⟩:=E;exact⟨a,c,h⟩
 obtain rfl:cs0=#[.slice a0 V.length c0]:=by rw[<-W5 (xs:=cs0),hc0]
 have k1:=h1;have lt1: ∀x∈p1,x.block<W.heap.size:=by obtain⟨m,Q⟩:=k1;exact DataW.trod_lt m _ _ _ Q
 obtain⟨fu1,hf1⟩:=h1;obtain⟨O,L⟩:=ot28.2 _ _ _ _ _ _ _ _ _ hf1;obtain⟨cs1,rfl,_⟩:=okWide_struct Tryz.underlying28 (hval 1 28 v1 rfl rfl);replace L:T27.rep W (Z.nt []) cs1.toList O:=L;have hok1:=Z.rep_ok _ L;obtain⟨ca1,cb2,I,N,hr5⟩:=L;obtain⟨A6,c7,he8,hn9,hn10⟩:=Z.rep_slice N;rw[he8]at N;have hle_A6:=Z.rep_le N;obtain⟨ca11,cb12,he13,hr14,hr15⟩:=hr5;obtain⟨A16,c17,he18,hn19,hn20⟩:=Z.rep_slice hr14;rw[he18]at hr14;have hle_A16:=Z.rep_le hr14;obtain⟨A21,c22,he23,hn24,hn25⟩:=Z.rep_slice hr15;rw[he23]at hr15;have hle_A21:=Z.rep_le hr15;have he1:cs1.toList=(A.ram O A6 c7 A16 c17 A21 c22):=by simp only[I,he8,he13,he18,he23,Xf,Wl]
 obtain rfl:cs1=#[.slice A6 O.1.length c7,.slice A16 O.2.1.length c17,.slice A21 O.2.2.length c22]:=by rw[<-W5 (xs:=cs1),he1]
 have k2:=h2;have lt2: ∀x∈p2,x.block<W.heap.size:=by obtain⟨m,Q⟩:=k2;exact DataW.trod_lt m _ _ _ Q
 obtain⟨fu2,hf2⟩:=h2;obtain⟨x2,J⟩:=ot29.2 _ _ _ _ _ _ _ _ _ hf2;obtain⟨a2,n2,c2,rfl⟩:=okWide_slice Tryz.underlying29 (hval 2 29 v2 rfl rfl);replace J:(Z.Ty.slice T49).rep W (Z.nt []) [.slice a2 n2 c2] x2:=J;have hn2:=(Z.rep_slice_len J).1;subst hn2;have k3:=h3;have lt3: ∀x∈p3,x.block<W.heap.size:=by obtain⟨m,Q⟩:=k3;exact DataW.trod_lt m _ _ _ Q
 obtain⟨fu3,hf3⟩:=h3;obtain⟨x3,hx3⟩:=ot5.2 _ _ _ _ _ _ _ _ _ hf3;obtain⟨u3,rfl⟩:=okWide_int Tryz.underlying5 (hval 3 5 v3 rfl rfl);have I:=hx3;replace I:u3=(x3.toNat:Int):=by simpa[Value.cells,Z.Ty.rep] using I
 subst I;clear Y hval0;have htab:=of_laid hL;have hF:F.dX V O x2 x3=some true:=schemaAll_plain V O x2 x3 hok0 hok1 (Z.rep_ok _ J) trivial;have hct:=o_bd a0 A6 A16 A21 a2 c0 c7 c17 c22 c2 V O x2 x3 true hF;refine(hct W (λ_=>True) (A.Hp.start ⟨A.Hall.sh E,A.Hall.sh N,A.Hall.sh hr14,A.Hall.sh hr15,A.Hall.sh J,A.Hall.tabs htab⟩)).mono ?_;rintro e W' ⟨v,H',rfl,⟨rfl,rfl⟩,hh⟩;have bel:=hh.ch.below;exact⟨_,rfl,_,_,_,[],_,[],hW',trodAll_mk1 (shut_bool Tryz.underlying4 _),(trodAll_cons_mk (Below.trod laidOut (by kernel_rfl) (Wb (by kernel_rfl)) k0 bel lt0) (trodAll_cons_mk (Below.trod laidOut (by kernel_rfl) (Wb (by kernel_rfl)) k1 bel lt1) (trodAll_cons_mk (Below.trod laidOut (by kernel_rfl) (Wb (by kernel_rfl)) k2 bel lt2) (trodAll_cons_mk (Below.trod laidOut (by kernel_rfl) (Wb (by kernel_rfl)) k3 bel lt3) trodAll_mk0)))),rfl,bel.frame _,λh=>by cases h⟩
def over:Rows.schemaAllRow.holds Tryz.pinned (OpenSpec.ofChange Rows.schemaAllSpec):=
 OpenClaim.holds_of_wide 3 Tryz.f3 rfl rfl rfl rfl rfl rfl rfl ⟨rfl,rfl,rfl,rfl,rfl⟩ rfl rfl rfl rfl rfl (by kernel_rfl) Tryz.func3 (by kernel_rfl)
  (Wb (by kernel_rfl)) (by unfold Func.isWrapper;first|(rw[Qc (by decide+kernel)];kernel_rfl)|(rw[Qb (by decide+kernel)];exact⟨rfl,rfl⟩))
  (λos started H enc _=>lifted os started H enc)
def proved:Rows.SchemaAllCardSaid:=
 Claim7.holds_tied_plain_at .later [] [.data,.pinned] true (true,"fcdfc0be3b1b062be7e3b37f3f2dff33e71c31ba5793463b53efd4aa70df77db") false
  over (λ_ h=>by cases h) (by kernel_rfl) (λ_ h=>by cases h) schemaAll_row_tie rfl ⟨rfl,rfl⟩ (by kernel_rfl) rfl
  (λf fn I E=>by
   obtain rfl:f=3:=Xg ((show Tryz.prog.funcNamed Rows.schemaAllRow.func=some 3 by kernel_rfl).symm.trans I) |>.symm;obtain rfl:fn=Tryz.f3:=(Xg (Tryz.func3.symm.trans E)).symm;exact⟨by kernel_rfl,λj t H=>by
    rw[Tryz.params3]at H;have J:t∈[24,28,29,5]:=by simpa using Array.mem_of_getElem? H
    have hall:([24,28,29,5].all λu=> !Tryz.prog.wantsStandIn u)=true:=by kernel_rfl
    exact(show Tryz.prog.wantsStandIn t=false by simpa using Wd.1 hall t J)⟩)
  (by kernel_rfl)
#print axioms proved
end Go.Proofs.YtlhiofnikdppeaaGreatDoor.schemaAllDone
end
