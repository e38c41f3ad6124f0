import Derived.Test.YtlbdgahbamalcaaGreatDoorL6
import Derived.Shelf.Vars
import Derived.SizedLaws
import Derived.ChangeAgain
import Derived.OpenShut
import Derived.ShutString
import Derived.ChangeOld
import Derived.ChangeArms
import Derived.DataReads
import Derived.Test.YtlbdgahbamalcaaGreatDoorRows
import Derived.Test.YtlbdgahbamalcaaGreatDoorTie
import Derived.Test.YtlbdgahbamalcaaGreatDoorCards
import Derived.WalkKit
import Derived.ProofKit
import Derived.LaidMore
import Derived.Stop.Joined
import Derived.SevenTiedAt
import Derived.Lib.LaidIn
import Derived.Lib.LaidU8T
import Derived.PinnedBridge
set_option maxRecDepth 20000
set_option synthInstance.maxSize 1000000
set_option synthInstance.maxHeartbeats 400000
set_option linter.unusedVariables false
set_option linter.unusedSimpArgs false
section
namespace Go.Proofs.YtlbdgahbamalcaaGreatDoor
open Go.RowKit Go.Graph Go.Utf Go.Ent Go.Opr
abbrev Tm:=Int×Int×(Int×Int×Int×Int)
abbrev KyM:=Int×Tm
abbrev NdM:=Int×Int×List Int×(Int×Int×ByteArray)×ByteArray×Int×Int
abbrev EnM:=Int×Int×ByteArray×Int
abbrev StM:=(List (Int×NdM))×(List (Int×List Rc))×(List (KyM×List Mn))×(List (Int×List EnM))
abbrev KnM:=List (KyM×Nat)
def gAdd (j k:Nat):Option Nat:=if j+k<=1000 then some (j+k)else none
def gIns (rc:KnM->Int->Tm->Option (Nat×KnM))(t:Tm):List Int->KnM->Nat->Option (Nat×KnM)
 | [],kn,m=>some (m,kn)
 |i::l,kn,m=>(rc kn i t).bind fun r=>(gAdd m r.1).bind fun m'=>gIns rc t l r.2 m'
def gLvs (rc:KnM->Int->Tm->Option (Nat×KnM))(i:Int)(t:Tm):Nat->Int->KnM->Nat->Option (Nat×KnM)
 |0,_,kn,m=>some (m,kn)
 |n+1,y,kn,m=>(F.aP (t.1,t.2.1+1,t.2.2) y).bind fun t'=>(rc kn i t').bind fun r=>(gAdd m r.1).bind fun m'=>gLvs rc i t n (y+1) r.2 m'
def gOne (rc:KnM->Int->Tm->Option (Nat×KnM))(kn:KnM)(ins:List Int)(t:Option Tm):Option (Nat×KnM):=
 (A.ix ins 0).bind fun i=>t.bind fun t'=>(rc kn i t').bind fun r=>(gAdd 0 r.1).bind fun m=>some (m,r.2)
def gFill (x:NdM)(t:Tm)(rc:KnM->Int->Tm->Option (Nat×KnM))(kn:KnM):Option (Nat×KnM):=
 if x.2.1=1 then if x.1=1 then some (1,kn)else none
 else if x.2.1=5 then gIns rc t x.2.2.1 kn 0
 else if x.2.1=15 then gIns rc t x.2.2.1 kn 0
 else if x.2.1=12 then(F.aC t).bind fun c=>if c=0 then gOne rc kn x.2.2.1 (F.b6 t)else some (0,kn)
 else if x.2.1=13 then A.gd (Z.R64 (t.2.1+1)) ((A.ix x.2.2.1 0).bind fun i=>gLvs rc i t 9 0 kn 0)
 else if x.2.1=14 then(F.aC t).bind fun c=>A.gd (-1000<=c/\c<=1000) (if 0<c/\c-1<x.2.2.2.2.2.1 then gOne rc kn x.2.2.1 (F.aP t (c-1))else some (0,kn))
 else none
def zNd:NdM:=(0,0,[],(0,0,ByteArray.mk #[]),ByteArray.mk #[],0,0)
def gOf (N:List (Int×NdM)):Nat->KnM->Int->Tm->Option (Nat×KnM)
 |0,_,_,_=>none
 |f+1,kn,i,t=>if Z.mhas kn (i,t)=true then some (Z.mget 0 kn (i,t),kn)else(gFill (Z.mget zNd N i) t (gOf N f) kn).bind fun r=>some (r.1,Z.mins r.2 (i,t) r.1)
def kmap (B:List Mn)(kn:KnM):List (KyM×List Mn):=kn.map fun p=>(p.1,scB p.2 B)
theorem kmap_get (B:List Mn)(k:KyM): ∀kn:KnM,Z.mget [] (kmap B kn) k=scB (Z.mget 0 kn k) B
 | []=>rfl
 |(a,y)::kn=>by
  show(if k=a then scB y B else Z.mget [] (kmap B kn) k)=scB (if k=a then y else Z.mget 0 kn k) B
  split
  ·rfl
  ·exact kmap_get B k kn
theorem kmap_has (B:List Mn)(k:KyM): ∀kn:KnM,Z.mhas (kmap B kn) k=Z.mhas kn k
 | []=>rfl
 |(a,y)::kn=>by
  show(if k=a then true else Z.mhas (kmap B kn) k)=(if k=a then true else Z.mhas kn k)
  rw[kmap_has B k kn]
theorem kmap_ins (B:List Mn)(k:KyM)(v:Nat): ∀kn:KnM,kmap B (Z.mins kn k v)=Z.mins (kmap B kn) k (scB v B)
 | []=>rfl
 |(a,y)::kn=>by
  show kmap B (if k=a then(a,v)::kn else(a,y)::Z.mins kn k v)=(if k=a then(a,scB v B)::kmap B kn else(a,scB y B)::Z.mins (kmap B kn) k (scB v B))
  split
  ·rfl
  ·show(a,scB y B)::kmap B (Z.mins kn k v)=_
   rw[kmap_ins B k v kn]
theorem Qec {j k m:Nat}(h:gAdd j k=some m):j+k<=1000/\m=j+k:=by
 unfold gAdd at h
 split at h
 ·injection h with h;exact⟨by assumption,h.symm⟩
 ·cases h
section
variable {rf:StM->Int->Tm->Option (List Mn×StM)}{N:List (Int×NdM)}{G:List (Int×List Rc)}{K:List (KyM×List Mn)}{i:Int}{ins:List Int}{fnn:Int×Int×ByteArray}{nm:ByteArray}{cap d:Int}{t:Tm}{a1:List (Rc×Int)}
theorem fk5:F.i rf (N,G,K,[]) a1 (i,5,ins,fnn,nm,cap,d) t=F.n (i,5,ins,fnn,nm,cap,d) t rf A.FU N G K [] a1 0:=by
 rw[F.i,Qd (show ¬(5:Int)=1 by decide),Qd (show ¬(5:Int)=2 by decide),Qd (show ¬(5:Int)=3 by decide),F.aa,Qd (show ¬decide ((5:Int)=4)=true by decide),Qj (show(5:Int)=5 from rfl),F.z,Qj (show decide ((5:Int)=5)=true from rfl)]
theorem fk15:F.i rf (N,G,K,[]) a1 (i,15,ins,fnn,nm,cap,d) t=F.n (i,15,ins,fnn,nm,cap,d) t rf A.FU N G K [] a1 0:=by
 rw[F.i,Qd (show ¬(15:Int)=1 by decide),Qd (show ¬(15:Int)=2 by decide),Qd (show ¬(15:Int)=3 by decide),F.aa,Qd (show ¬decide ((15:Int)=4)=true by decide),Qd (show ¬(15:Int)=5 by decide),Qd (show ¬(15:Int)=6 by decide),F.z,Qj (show decide ((15:Int)=15)=true from rfl)]
theorem fk12:F.i rf (N,G,K,[]) a1 (i,12,ins,fnn,nm,cap,d) t=(F.aC t).bind fun c=>if c=0 then(A.ix ins 0).bind fun j=>(F.b6 t).bind fun t'=>(rf (N,G,K,[]) j t').bind fun r=>(F.ac a1 r.1).bind fun m=>some (r.2,m)else some ((N,G,K,[]),a1):=by
 rw[F.i,Qd (show ¬(12:Int)=1 by decide),Qd (show ¬(12:Int)=2 by decide),Qd (show ¬(12:Int)=3 by decide),F.aa,Qd (show ¬decide ((12:Int)=4)=true by decide),Qd (show ¬(12:Int)=5 by decide),Qd (show ¬(12:Int)=6 by decide),F.z,Qd (show ¬decide ((12:Int)=15)=true by decide),Qj (show(12:Int)=12 from rfl)]
theorem fk13:F.i rf (N,G,K,[]) a1 (i,13,ins,fnn,nm,cap,d) t=A.gd (Z.R64 (t.2.1+1)) (F.aj (i,13,ins,fnn,nm,cap,d) t rf A.FU N G K [] a1 0):=by
 rw[F.i,Qd (show ¬(13:Int)=1 by decide),Qd (show ¬(13:Int)=2 by decide),Qd (show ¬(13:Int)=3 by decide),F.aa,Qd (show ¬decide ((13:Int)=4)=true by decide),Qd (show ¬(13:Int)=5 by decide),Qd (show ¬(13:Int)=6 by decide),F.z,Qd (show ¬decide ((13:Int)=15)=true by decide),Qd (show ¬(13:Int)=12 by decide),Qj (show(13:Int)=13 from rfl)]
theorem fk14:F.i rf (N,G,K,[]) a1 (i,14,ins,fnn,nm,cap,d) t=(F.aC t).bind fun c=>A.gd ((decide ((0:Int)<c))=true->Z.R64 (c-1)) (if(bif decide ((0:Int)<c)then decide (c-1<cap)else false)=true then A.gd (Z.R64 (c-1)) ((A.ix ins 0).bind fun j=>(F.aP t (c-1)).bind fun t'=>(rf (N,G,K,[]) j t').bind fun r=>(F.ac a1 r.1).bind fun m=>some (r.2,m))else some ((N,G,K,[]),a1)):=by
 rw[F.i,Qd (show ¬(14:Int)=1 by decide),Qd (show ¬(14:Int)=2 by decide),Qd (show ¬(14:Int)=3 by decide),F.aa,Qd (show ¬decide ((14:Int)=4)=true by decide),Qd (show ¬(14:Int)=5 by decide),Qd (show ¬(14:Int)=6 by decide),F.z,Qd (show ¬decide ((14:Int)=15)=true by decide),Qd (show ¬(14:Int)=12 by decide),Qd (show ¬(14:Int)=13 by decide),Qj (show(14:Int)=14 from rfl)]
theorem fk1:F.i rf (N,G,K,[]) a1 (i,1,ins,fnn,nm,cap,d) t=F.r (N,G,K,[]) (Z.mget [] G i) A.FU a1 0:=by
 rw[F.i,Qj (show(1:Int)=1 from rfl),A.lt]
end
section
variable {B:List Mn}{L:List Rc}{N:List (Int×NdM)}{rc:KnM->Int->Tm->Option (Nat×KnM)}{rf:StM->Int->Tm->Option (List Mn×StM)}
abbrev stM (N:List (Int×NdM)) (L:List Rc) (B:List Mn) (kn:KnM):StM:=(N,[(1,L)],kmap B kn,[])
theorem ins_sim (hB:Bg B)(hrc: ∀kn i t r,rc kn i t=some r->rf (stM N L B kn) i t=some (scB r.1 B,stM N L B r.2))(x:NdM)(t:Tm)(hx:x.2.2.1.length<=1000)(kn:KnM)(m:Nat)(r0:Nat×KnM)(h:gIns rc t x.2.2.1 kn m=some r0):
  F.n x t rf A.FU N [(1,L)] (kmap B kn) [] (scB m B) 0=some (stM N L B r0.2,scB r0.1 B):=by
 have hFU:=Qai
 refine A.lp x.2.2.1 (fun f (s:KnM×Nat) y=>F.n x t rf f N [(1,L)] (kmap B s.1) [] (scB s.2 B) y) (fun _ _ _=>some (stM N L B r0.2,scB r0.1 B)) (fun k s=>gIns rc t (x.2.2.1.drop k) s.1 s.2=some r0)
  (fun f s hp=>?_) (fun f s k i hi hk hp ih=>?_) (by omega) (kn,m) (by rw[Yv];exact h)
 ·show F.n x t rf (f+1) _ _ _ _ _ _=_
  rw[Xd (Qo _),gIns]at hp
  injection hp with hp
  rw[F.n,Qd (by omega),<-hp]
 ·show F.n x t rf (f+1) _ _ _ _ _ _=_
  rw[A.dropx hi,gIns]at hp
  cases h1:rc s.1 i t with
  |none=>rw[h1]at hp;cases hp
  |some r=>
   rw[h1,Qa]at hp
   cases h2:gAdd s.2 r.1 with
   |none=>rw[h2]at hp;cases hp
   |some m'=>
    rw[h2,Qa]at hp
    obtain⟨h3,h4⟩:=Qec h2
    rw[F.n,Qj (by omega),A.ixn hi,Qa]
    show(rf (stM N L B s.1) i t).bind _=_
    rw[hrc _ _ _ _ h1,Qa]
    show(F.ac (scB s.2 B) (scB r.1 B)).bind _=_
    rw[all_eq hB _ _ h3,Qa,A.gd1 ⟨by omega,by omega⟩,<-h4]
    exact ih (r.2,m') hp
theorem lvs_sim (hB:Bg B)(hrc: ∀kn i t r,rc kn i t=some r->rf (stM N L B kn) i t=some (scB r.1 B,stM N L B r.2))(x:NdM)(t:Tm)(i:Int)(hi:A.ix x.2.2.1 0=some i)(r0:Nat×KnM): ∀(n:Nat) (y:Int) (f:Nat) (kn:KnM) (m:Nat),y+n=9->0<=y->n<f->gLvs rc i t n y kn m=some r0->
  F.aj x t rf f N [(1,L)] (kmap B kn) [] (scB m B) y=some (stM N L B r0.2,scB r0.1 B)
 |0,y,f,kn,m,hy,h0,hf,h=>by
  obtain⟨f,rfl⟩: ∃f',f=f'+1:=⟨f-1,by omega⟩
  rw[gLvs]at h
  injection h with h
  rw[F.aj,Qd (by omega),<-h]
 |n+1,y,f,kn,m,hy,h0,hf,h=>by
  obtain⟨f,rfl⟩: ∃f',f=f'+1:=⟨f-1,by omega⟩
  rw[gLvs]at h
  cases h1:F.aP (t.1,t.2.1+1,t.2.2) y with
  |none=>rw[h1]at h;cases h
  |some t'=>
   rw[h1,Qa]at h
   cases h2:rc kn i t' with
   |none=>rw[h2]at h;cases h
   |some r=>
    rw[h2,Qa]at h
    cases h3:gAdd m r.1 with
    |none=>rw[h3]at h;cases h
    |some m'=>
     rw[h3,Qa]at h
     obtain⟨h4,h5⟩:=Qec h3
     rw[F.aj,Qj (by omega),hi,Qa]
     show(F.aP (t.1,t.2.1+1,t.2.2) y).bind _=_
     rw[h1,Qa]
     show(rf (stM N L B kn) i t').bind _=_
     rw[hrc _ _ _ _ h2,Qa]
     show(F.ac (scB m B) (scB r.1 B)).bind _=_
     rw[all_eq hB _ _ h4,Qa,A.gd1 ⟨by omega,by omega⟩,<-h5]
     exact lvs_sim hB hrc x t i hi r0 n (y+1) f r.2 m' (by omega) (by omega) (by omega) h
theorem one_some {kn:KnM}{ins:List Int}{t:Option Tm}{r0:Nat×KnM}(h:gOne rc kn ins t=some r0): ∃i t' r,A.ix ins 0=some i/\t=some t'/\rc kn i t'=some r/\r.1<=1000/\r0=r:=by
 unfold gOne at h
 cases h1:A.ix ins 0 with
 |none=>rw[h1]at h;cases h
 |some i=>
  rw[h1,Qa]at h
  cases h2:t with
  |none=>rw[h2]at h;cases h
  |some t'=>
   rw[h2,Qa]at h
   cases h3:rc kn i t' with
   |none=>rw[h3]at h;cases h
   |some r=>
    rw[h3,Qa]at h
    cases h4:gAdd 0 r.1 with
    |none=>rw[h4]at h;cases h
    |some m=>
     rw[h4,Qa]at h
     injection h with h
     obtain⟨h5,h6⟩:=Qec h4
     exact⟨i,t',r,rfl,rfl,h3,by omega,by rw[<-h,h6,Wm]⟩
theorem fill_sim (hB:Bg B)(hL:L.length<=24)(hLB:Qay [] L=B)(hkL: ∀r,r∈L->A.h6 r.1/\r.2.size<=maxLen)(hrc: ∀kn i t r,rc kn i t=some r->rf (stM N L B kn) i t=some (scB r.1 B,stM N L B r.2))(x:NdM)(t:Tm)(hx:x.2.2.1.length<=1000)(kn:KnM)(r0:Nat×KnM)(h:gFill x t rc kn=some r0):
  ∃m,F.i rf (stM N L B kn) [] x t=some (stM N L B r0.2,m)/\F.ax m=some (scB r0.1 B):=by
 obtain⟨i,k,ins,fnn,nm,cap,d⟩:=x
 unfold gFill at h
 dsimp only at h hx
 by_cases k1:k=1
 ·subst k1
  rw[Qj rfl]at h
  by_cases i1:i=1
  ·subst i1
   rw[Qj rfl]at h
   injection h with h
   subst h
   obtain⟨m,h1,h2,h3,h4⟩:=fill1_eq (α:=Unit) (β:=Unit) (γ:=Unit) (δ:=Unit) L hL (stM N L B kn)
   refine⟨m,fk1.trans h1,?_⟩
   have hp:m.Perm B:=(Yz (nd_of h2) (nd_of (sm_nd hB.sm))).2 fun p=>by rw[h3,hLB]
   rw[list_eq m B hp hB.sm (by omega) fun p hp'=>hB.key p (hp.mem_iff.1 hp')]
   show some B=some (scB 1 B)
   unfold scB
   rw[Qd Nat.one_ne_zero,Y8 (g:=fun a=>a) (fun a _=>by simp),List.map_id']
  ·rw[Qd i1]at h;cases h
 rw[Qd k1]at h
 have fin: ∀{m:Nat},F.ax (scB m B)=some (scB m B):=scB_list hB _
 have z0:(([]:List (Rc×Int)))=scB 0 B:=rfl
 by_cases k5:k=5
 ·subst k5
  rw[Qj rfl]at h
  exact⟨_,fk5.trans (ins_sim hB hrc (i,5,ins,fnn,nm,cap,d) t hx kn 0 r0 h),fin⟩
 rw[Qd k5]at h
 by_cases k15:k=15
 ·subst k15
  rw[Qj rfl]at h
  exact⟨_,fk15.trans (ins_sim hB hrc (i,15,ins,fnn,nm,cap,d) t hx kn 0 r0 h),fin⟩
 rw[Qd k15]at h
 have all0: ∀{k:Nat},k<=1000->F.ac [] (scB k B)=some (scB k B):=fun {k} hk=>by
  have:=all_eq hB 0 k (by omega)
  rw[Wm]at this;exact this
 by_cases k12:k=12
 ·subst k12
  rw[Qj rfl]at h
  cases h1:F.aC t with
  |none=>rw[h1]at h;cases h
  |some c=>
   rw[h1,Qa]at h
   by_cases hc:c=0
   ·rw[Qj hc]at h
    obtain⟨j,t',r,e1,e2,e3,e4,rfl⟩:=one_some h
    refine⟨scB r0.1 B,?_,fin⟩
    rw[fk12,h1,Qa,Qj hc,e1,Qa,e2,Qa,hrc _ _ _ _ e3,Qa,all0 e4,Qa]
   ·rw[Qd hc]at h
    injection h with h
    subst h
    refine⟨[],?_,fin (m:=0)⟩
    rw[fk12,h1,Qa,Qd hc]
 rw[Qd k12]at h
 by_cases k13:k=13
 ·subst k13
  rw[Qj rfl]at h
  obtain⟨hg,h⟩:=A.gd_some h
  cases h1:A.ix ins 0 with
  |none=>rw[h1]at h;cases h
  |some j=>
   rw[h1,Qa]at h
   refine⟨scB r0.1 B,?_,fin⟩
   rw[fk13,A.gd1 hg]
   exact lvs_sim hB hrc _ t j h1 r0 9 0 A.FU kn 0 (by decide) (by decide) (by have:=Qai;omega) h
 rw[Qd k13]at h
 by_cases k14:k=14
 ·subst k14
  rw[Qj rfl]at h
  cases h1:F.aC t with
  |none=>rw[h1]at h;cases h
  |some c=>
   rw[h1,Qa]at h
   obtain⟨hg,h⟩:=A.gd_some h
   by_cases hc:0<c/\c-1<cap
   ·rw[Qj hc]at h
    obtain⟨j,t',r,e1,e2,e3,e4,rfl⟩:=one_some h
    refine⟨scB r0.1 B,?_,fin⟩
    rw[fk14,h1,Qa,A.gd1 (fun _=>⟨by omega,by omega⟩),Wc hc.1,cond_true,Qj (Wc hc.2),A.gd1 ⟨by omega,by omega⟩,e1,Qa,e2,Qa,hrc _ _ _ _ e3,Qa,all0 e4,Qa]
   ·rw[Qd hc]at h
    injection h with h
    subst h
    refine⟨[],?_,fin (m:=0)⟩
    rw[fk14,h1,Qa,A.gd1 (fun _=>⟨by omega,by omega⟩)]
    by_cases h2:0<c
    ·rw[Wc h2,cond_true,Xc (fun h3=>hc ⟨h2,h3⟩),Qd (by simp)]
    ·rw[Xc h2,cond_false,Qd (by simp)]
 rw[Qd k14]at h
 cases h
end
theorem of_sim {B:List Mn}{L:List Rc}{N:List (Int×NdM)}(hB:Bg B)(hL:L.length<=24)(hLB:Qay [] L=B)(hkL: ∀r,r∈L->A.h6 r.1/\r.2.size<=maxLen)(hN: ∀i,(Z.mget zNd N i).2.2.1.length<=1000):
  ∀(f:Nat) (kn:KnM) (i:Int) (t:Tm) (r:Nat×KnM),gOf N f kn i t=some r->F.au f (stM N L B kn) i t=some (scB r.1 B,stM N L B r.2)
 |0,_,_,_,_,h=>by cases h
 |f+1,kn,i,t,r,h=>by
  have ih:=of_sim hB hL hLB hkL hN f
  rw[gOf]at h
  show F.cn (F.au f) (stM N L B kn) i t=_
  show(if(!(Z.mhas (kmap B kn) (i,t)))=true then _ else F.aU N [(1,L)] (kmap B kn) [] (Z.mget [] (kmap B kn) (i,t)))=_
  rw[kmap_has,kmap_get]
  cases hm:Z.mhas kn (i,t)with
  |true=>
   rw[hm,Qj rfl]at h
   injection h with h
   subst h
   rfl
  |false=>
   rw[hm,Qd (by simp)]at h
   cases h1:gFill (Z.mget zNd N i) t (gOf N f) kn with
   |none=>rw[h1]at h;cases h
   |some r1=>
    rw[h1,Qa]at h
    injection h with h
    obtain⟨m,h2,h3⟩:=fill_sim hB hL hLB hkL ih (Z.mget zNd N i) t (hN i) kn r1 h1
    rw[Qj (show(!false)=true from rfl)]
    show(F.i (F.au f) (stM N L B kn) [] (Z.mget zNd N i) t).bind _=_
    rw[h2,Qa,h3,Qa,F.aU,<-h]
    show some (scB r1.1 B,(N,[(1,L)],Z.mins (kmap B r1.2) (i,t) (scB r1.1 B),[]))=_
    rw[<-kmap_ins]
end Go.Proofs.YtlbdgahbamalcaaGreatDoor
end
section
namespace Go.A
theorem eqk2 {α ρ:Type}[DecidableEq α](a b:List α)(L:Nat->Int->Option ρ)(t e:Option ρ)(hl:a.length=b.length)(h0: ∀f,L (f+1) (a.length:Int)=t)
  (h1: ∀f (k:Nat) x y,a[k]?=some x->b[k]?=some y->k<a.length->L (f+1) (k:Int)=if x=y then L f ((k:Int)+1)else e) (hlt:a.length<FU):L FU 0=if a=b then t else e:=by
 have:=lp0 a L (fun k l=>if l=b.drop k then t else e)
  (fun f=>by rw[h0,hl,Xd (Qo _),Qj rfl])
  (fun f k x hx hk ih=>by
   have hy:b[k]?=some b[k]:=Qh (by omega)
   rw[h1 f k x _ hx hy hk,dropx hy,ih]
   by_cases h:x=b[k]
   ·rw[Qj h]
    by_cases h2:a.drop (k+1)=b.drop (k+1)
    ·rw[Qj h2,Qj (by rw[h,h2])]
    ·rw[Qd h2,Qd (fun e=>h2 (List.cons.inj e).2)]
   ·rw[Qd h,Qd (fun e=>h (List.cons.inj e).1)]) hlt
 rw[this,Yv]
theorem ited {p:Prop}[Decidable p]:(if p then some true else some false)=some (decide p):=by by_cases h:p<;>simp[h]
end Go.A
namespace Go.Proofs.YtlbdgahbamalcaaGreatDoor
open Go.RowKit Go.Graph
abbrev Mn':Type:=(Int×ByteArray)×Int
abbrev Sht:Type:=ByteArray×Int×List Mn'
abbrev Gvn:Type:=Int×Int×Int×ByteArray
def cpJ:Int->List Int->List Int
 |_,[]=>[]
 |p,x::l=>if x=p then cpJ p l else x::cpJ x l
def cpI:List Int->List Int
 | []=>[]
 |p::t=>p::cpJ p t
theorem CompactI (l:List Int)(hl:l.length<=1000000000):F.ab l=some (cpI l):=by
 have hFU:=Qai
 rw[F.ab]
 by_cases h2:l.length<2
 ·rw[Qj (by omega)]
  cases l with
  |nil=>rfl
  |cons p t=>
   have:t=[]:=by cases t with
    |nil=>rfl
    |cons a b=>simp only[Qu]at h2;omega
   subst this
   rfl
 ·rw[Qd (by omega)]
  have second: ∀(k:Nat) (hk:k<l.length),1<=k->∀(q j f i:Nat) (xs:List Int) (p:Int),k+j+q=l.length->q<f->1<=j->k<=i->i<=k+j-1->xs.length=l.length->xs.drop (k+j-1)=l.drop (k+j-1)->l[k+j-1]?=some p->
    F.c l (k:Int) f xs (i:Int) (j:Int)=some (xs.take i++cpJ p (l.drop (k+j))):=by
   intro k hk hk1 q
   induction q with
   |zero=>
    intro j f i xs p hq hf hj hi hij hx hd hp
    obtain⟨f,rfl⟩: ∃f',f=f'+1:=⟨f-1,by omega⟩
    rw[F.c,Qd (by omega),A.gd1 ⟨by omega,by omega⟩,A.gd1 ⟨by omega,by simp;omega⟩,Xm,List.take_append_of_le_length (by rw[Qw];omega),List.take_take,Nat.min_self,Xd (by omega)]
    simp[cpJ]
   |succ q ih=>
    intro j f i xs p hq hf hj hi hij hx hd hp
    obtain⟨f,rfl⟩: ∃f',f=f'+1:=⟨f-1,by omega⟩
    obtain⟨y,hy⟩: ∃y,l[k+j]?=some y:=⟨_,Qh (by omega)⟩
    have gx: ∀t,k+j-1<=t->xs[t]?=l[t]?:=fun t ht=>by
     have:=Qv (fun z=>z[t-(k+j-1)]?) hd
     simp only[Q8]at this
     rw[show k+j-1+(t-(k+j-1))=t by omega]at this
     exact this
    have y1:(xs.drop k)[j]?=some y:=by rw[Q8,gx _ (by omega)];exact hy
    have y2:(xs.drop k)[j-1]?=some p:=by rw[Q8,gx _ (by omega),show k+(j-1)=k+j-1 by omega];exact hp
    have hxi:xs[i]?=some xs[i]:=Qh (by omega)
    have ej:(j:Int)-1=((j-1:Nat):Int):=by omega
    have ej1:(j:Int)+1=((j+1:Nat):Int):=by omega
    have ei1:(i:Int)+1=((i+1:Nat):Int):=by omega
    rw[F.c,Qj (by omega),A.gd1 ⟨by omega,by omega⟩,Xm,A.gd1 (by omega),A.ixn y1,Qa,A.gd1 (by omega),ej,A.ixn y2,Qa,A.dropx hy]
    show(if y≠p then _ else _)=some (xs.take i++cpJ p (y::l.drop (k+j+1)))
    unfold cpJ
    by_cases e:y=p
    ·rw[Qd (fun h=>h e),Qj e,F.s,A.gd1 ⟨by omega,by omega⟩,ej1]
     exact ih (j+1) f i xs p (by omega) (by omega) (by omega) hi (by omega) hx (by
      have:=Qv (List.drop 1) hd
      rw[Xo,Xo]at this
      rw[show k+(j+1)-1=k+j-1+1 by omega];exact this) (by rw[show k+(j+1)-1=k+j by omega,hy,e])
    ·rw[Qj e,Qd e,A.gd1 (by omega),Qa,A.ixn hxi,Qa,A.gd1 ⟨by omega,by omega⟩,F.s,A.gd1 ⟨by omega,by omega⟩,ej1,ei1,Xm]
     rw[ih (j+1) f (i+1) (xs.set i y) y (by omega) (by omega) (by omega) (by omega) (by omega) (by rw[X0];exact hx) (by
      rw[List.drop_set_of_lt (by omega)]
      have:=Qv (List.drop 1) hd
      rw[Xo,Xo]at this
      rw[show k+(j+1)-1=k+j-1+1 by omega];exact this) (by rw[show k+(j+1)-1=k+j by omega,hy])]
     have:(xs.set i y).take (i+1)=xs.take i++[y]:=by
      rw[Xv,Jf (by omega),List.take_set_of_le (by omega)];rfl
     rw[this,Ys];rfl
  have first: ∀(q k f:Nat) (p:Int),k+q=l.length->q<f->1<=k->l[k-1]?=some p->F.g l f (k:Int)=some (l.take k++cpJ p (l.drop k)):=by
   intro q
   induction q with
   |zero=>
    intro k f p hk hf h1 hp
    obtain⟨f,rfl⟩: ∃f',f=f'+1:=⟨f-1,by omega⟩
    rw[F.g,Qd (by omega),Xd (by omega),Xj (by omega)];simp[cpJ]
   |succ q ih=>
    intro k f p hk hf h1 hp
    obtain⟨f,rfl⟩: ∃f',f=f'+1:=⟨f-1,by omega⟩
    obtain⟨y,hy⟩: ∃y,l[k]?=some y:=⟨_,Qh (by omega)⟩
    have ek:(k:Int)-1=((k-1:Nat):Int):=by omega
    rw[F.g,Qj (by omega),A.gd1 ⟨by omega,by omega⟩,A.ixn hy,Qa,ek,A.ixn hp,Qa]
    show(if y=p then _ else _)=_
    by_cases e:y=p
    ·rw[Qj e,A.gd1 ⟨by omega,by omega⟩]
     have:=second k (by omega) h1 (l.length-(k+1)) 1 A.FU k l y (by omega) (by omega) (by omega) (by omega) (by omega) rfl rfl (by rw[show k+1-1=k by omega];exact hy)
     refine this.trans ?_
     rw[A.dropx hy]
     conv=>rhs;rw[cpJ]
     rw[Qj e,e]
    ·rw[Qd e,A.gd1 ⟨by omega,by omega⟩,show(k:Int)+1=((k+1:Nat):Int) by omega,ih (k+1) f y (by omega) (by omega) (by omega) (by rw[show k+1-1=k by omega];exact hy),A.dropx hy,Xv,hy]
     conv=>rhs;rw[cpJ]
     rw[Qd e];simp
  obtain⟨p,t,rfl⟩: ∃p t,l=p::t:=by
   cases l with
   |nil=>simp at h2
   |cons p t=>exact⟨p,t,rfl⟩
  have:=first ((p::t).length -1) 1 A.FU p (by omega) (by omega) (by omega) rfl
  refine(show F.g (p::t) A.FU 1=_ from this).trans ?_
  rfl
theorem Qii: ∀{l:List Int} {p r:Int},r∈p::cpJ p l↔r∈p::l
 | [],p,r=>by simp[cpJ]
 |x::l,p,r=>by
  unfold cpJ
  by_cases h:x=p
  ·subst h
   rw[Qj rfl,Qii];simp
  ·rw[Qd h,Qk,Qii,Qk,Qk,Qk]
theorem cpJ_pw: ∀{l:List Int} {p:Int},(p::l).Pairwise (fun a b=>a<=b)->(p::cpJ p l).Pairwise (· < ·)
 | [],p,_=>Xr ..
 |x::l,p,h=>by
  obtain⟨h1,h2⟩:=Wi.1 h
  unfold cpJ
  by_cases e:x=p
  ·subst e
   rw[Qj rfl]
   exact cpJ_pw h2
  ·rw[Qd e]
   have ih:=cpJ_pw h2
   have hpx:p<x:=by have:=h1 x (Qg ..);omega
   refine Wi.2 ⟨fun b hb=>?_,ih⟩
   rcases Qk.1 hb with hb|hb
   ·rw[hb];exact hpx
   ·have:=(Wi.1 ih).1 b hb;omega
theorem o_dE {l:List Int}(h:l.Pairwise (fun a b=>a<=b)):(cpI l).Pairwise (· < ·)/\∀s,s∈cpI l↔s∈l:=by
 cases l with
 |nil=>exact⟨List.Pairwise.nil,fun s=>Iff.rfl⟩
 |cons p t=>exact⟨cpJ_pw h,fun s=>Qii⟩
theorem rise_eq {a b:List Int}(ha:a.Pairwise (· < ·))(hb:b.Pairwise (· < ·))(h: ∀x,x∈a↔x∈b):a=b:=by
 have na:a.Nodup:=ha.imp fun {x y} h=>by omega
 have nb:b.Nodup:=hb.imp fun {x y} h=>by omega
 exact List.Perm.eq_of_pairwise (le:=fun x y=>x<y) (fun x y _ _ h1 h2=>by omega) ha hb ((Yz na nb).2 h)
def insI (e:Int):List Int->List Int
 | []=>[e]
 |x::r=>if x=e then x::r else if e<x then e::x::r else x::insI e r
theorem Qfs (e:Int): ∀(l:List Int) (x:Int),x∈insI e l↔x=e\/x∈l
 | [],x=>by simp[insI]
 |y::r,x=>by
  unfold insI
  by_cases h:y=e
  ·rw[Qj h,Qk,h];constructor
   ·intro h1;exact .inr h1
   ·rintro(h1|h1)
    ·exact .inl h1
    ·exact h1
  ·rw[Qd h]
   by_cases h2:e<y
   ·rw[Qj h2,Qk]
   ·rw[Qd h2,Qk,Qfs e r x,Qk]
    constructor
    ·rintro(h1|h1|h1)
     ·exact .inr (.inl h1)
     ·exact .inl h1
     ·exact .inr (.inr h1)
    ·rintro(h1|h1|h1)
     ·exact .inr (.inl h1)
     ·exact .inl h1
     ·exact .inr (.inr h1)
theorem insI_pw (e:Int): ∀(l:List Int),l.Pairwise (· < ·)->(insI e l).Pairwise (· < ·)
 | [],_=>Xr ..
 |y::r,h=>by
  obtain⟨h1,h2⟩:=Wi.1 h
  unfold insI
  by_cases hy:y=e
  ·rw[Qj hy];exact h
  ·rw[Qd hy]
   by_cases h3:e<y
   ·rw[Qj h3]
    refine Wi.2 ⟨fun b hb=>?_,h⟩
    rcases Qk.1 hb with hb|hb
    ·omega
    ·have:=h1 b hb;omega
   ·rw[Qd h3]
    refine Wi.2 ⟨fun b hb=>?_,insI_pw e r h2⟩
    rcases(Qfs e r b).1 hb with hb|hb
    ·omega
    ·exact h1 b hb
def Qby:List Gvn->List Int->List Int
 | [],l=>l
 |g::r,l=>Qby r (insI g.2.1 l)
theorem insI_len (e:Int): ∀l:List Int,(insI e l).length<=l.length+1
 | []=>by simp[insI]
 |y::r=>by
  unfold insI
  have:=insI_len e r
  split
  ·simp
  ·split<;>simp<;>omega
theorem o_aX: ∀(g:List Gvn) (l:List Int),l.Pairwise (· < ·)->(Qby g l).Pairwise (· < ·)/\(∀x,x∈Qby g l↔x∈l\/∃y∈g,y.2.1=x)/\(Qby g l).length<=l.length+g.length
 | [],l,h=>⟨h,by simp[Qby],Qo _⟩
 |y::g,l,h=>by
  obtain⟨h1,h2,h3⟩:=o_aX g (insI y.2.1 l) (insI_pw _ l h)
  refine⟨h1,fun x=>?_,?_⟩
  ·show x∈Qby g (insI y.2.1 l)↔_
   rw[h2,Qfs]
   constructor
   ·rintro((h4|h4)|⟨z,h4,h5⟩)
    ·exact .inr ⟨y,Qg ..,h4.symm⟩
    ·exact .inl h4
    ·exact .inr ⟨z,Qf _ h4,h5⟩
   ·rintro(h4|⟨z,h4,h5⟩)
    ·exact .inl (.inr h4)
    ·rcases Qk.1 h4 with h4|h4
     ·exact .inl (.inl (by rw[<-h5,h4]))
     ·exact .inr ⟨z,h4,h5⟩
  ·have:=insI_len y.2.1 l
   have h3:(Qby g (insI y.2.1 l)).length<=_:=h3
   show(Qby g (insI y.2.1 l)).length<=_
   simp only[Qu]
   omega
theorem srt64_pw (l:List Int):(A.srt64 l).Pairwise (fun a b=>a<=b):=by
 have:=List.pairwise_mergeSort (le:=fun(x y:Int)=>decide (x<=y)) (fun a b c h1 h2=>by simp at h1 h2 ⊢;omega) (fun a b=>by simp;omega) l
 exact this.imp fun {a b} h=>by simpa using h
theorem P_Epochs (g:List Gvn)(hg:g.length<=100):F.bz g=some (Qby g []):=by
 have hFU:=Qai
 unfold F.bz
 have main:=A.lp g (fun f xs y=>F.aD g f xs y) (fun _ r (xs:List Int)=>((F.aJ (xs++r.map fun x=>x.2.1)).bind fun r18=>((F.ab r18).bind fun r21=>((F.ak r21).bind fun r25=>(some r25))))) (fun k (xs:List Int)=>xs.length<=k)
  (fun f xs _=>by rw[F.aD,Qd (by omega)];simp)
  (fun f xs k x hx hk hp ih=>by
   rw[F.aD,Qj (by omega),A.ixn hx,Qa,A.gd1 (by simp;omega),A.gd1 (A.r64n (by omega)),ih _ (by simp;omega)]
   simp) (by omega) [] (Qo _)
 rw[main,Yp,F.aJ,A.gd1 (by rw[Wb];omega),Qa,CompactI _ (by unfold A.srt64;rw[List.length_mergeSort,Wb];omega),Qa,F.ak,Qa]
 congr 1
 obtain⟨h1,h2⟩:=o_dE (srt64_pw (g.map fun x=>x.2.1))
 obtain⟨h3,h4,_⟩:=o_aX g [] List.Pairwise.nil
 refine rise_eq h1 h3 fun x=>?_
 rw[h2,h4]
 unfold A.srt64
 rw[List.mem_mergeSort]
 simp
theorem EqM (a b:List Mn')(ha:a.length<=100000):F.k a b=some (decide (a=b)):=by
 unfold F.k
 by_cases hl:a.length=b.length
 ·rw[Qd (by omega)]
  rw[A.eqk2 a b (fun f y=>F.f a b f y) (some true) (some false) hl (fun f=>by rw[F.f,Qd (by omega)])
   (fun f k x y hx hy hk=>by
    rw[F.f,Qj (by omega),A.ixn hx,Qa,A.ixn hy,Qa]
    show(if x≠y then _ else _)=_
    by_cases h:x=y
    ·rw[Qd (fun e=>e h),Qj h,A.gd1 (A.r64n (by omega))]
    ·rw[Qj h,Qd h]) (by have:=Qai;omega),A.ited]
 ·rw[Qj (by omega),Xc (fun e=>hl (by rw[e]))]
def Sm' (l:List Sht):Prop:=l.length<=1000/\∀s∈l,s.2.2.length<=2000
def ofS (n:ByteArray)(e:Int):List Sht->List Mn'
 | []=>[]
 |s::r=>if s.1=n/\s.2.1=e then s.2.2 else ofS n e r
theorem P_Of (l:List Sht)(n:ByteArray)(e:Int)(hl:Sm' l):F.cs l n e=some (ofS n e l):=by
 have hl1:=hl.1
 have idx:=A.lp0 l (fun f y=>F.a l n e f y) (fun k r=>(match r.findIdx? (fun s=>decide (s.1=n/\s.2.1=e))with|some i=>some ((k+i:Nat):Int)|none=>some (-1)))
  (fun f=>by rw[F.a,Qd (by omega)];rfl)
  (fun f k x hx hk ih=>by
   rw[F.a,Qj (by omega),A.ixn hx,Qa,F.cy,Qa,A.ba,List.findIdx?_cons]
   by_cases h:x.1=n/\x.2.1=e
   ·rw[Qj (Wc h),Qj (Wc h)];simp
   ·rw[Qd (by rw[X5];exact h),A.gd1 (A.r64n (by omega)),ih,Qd (by rw[X5];exact h)]
    cases List.findIdx? (fun s:Sht=>decide (s.1=n/\s.2.1=e)) (l.drop (k+1))with
    |none=>rfl
    |some i=>simp;omega) (by have:=Qai;omega)
 have key: ∀(r:List Sht),(match r.findIdx? (fun s=>decide (s.1=n/\s.2.1=e))with|some i=>∃x,r[i]?=some x/\ofS n e r=x.2.2|none=>ofS n e r=[]):=fun r=>by
  induction r with
  |nil=>rfl
  |cons s r ih=>
   rw[List.findIdx?_cons]
   unfold ofS
   by_cases h:s.1=n/\s.2.1=e
   ·rw[Qj (Wc h),Qj h];exact⟨s,rfl,rfl⟩
   ·rw[Qd (by rw[X5];exact h),Qd h]
    cases hf:List.findIdx? (fun s:Sht=>decide (s.1=n/\s.2.1=e)) r with
    |none=>rw[hf]at ih;exact ih
    |some i=>rw[hf]at ih;exact ih
 have key:=key l
 unfold F.cs F.l F.b7
 rw[show F.a l n e A.FU 0=_ from idx]
 cases hf:l.findIdx? (fun s=>decide (s.1=n/\s.2.1=e))with
 |none=>
  rw[hf]at key
  rw[key];rfl
 |some i=>
  rw[hf]at key
  obtain⟨x,h1,h2⟩:=key
  dsimp only
  have:=hl.2 x (Qt h1)
  rw[Wm,Qa,Qj (by omega),A.ixn h1,Qa,F.al,A.gd1 (by simp;omega),Qa,Yp,h2]
theorem o_dm (l:List Mn')(m:Int)(hl:l.length<=2000)(hm:0<=m):F.aK l m=some (l.take m.toNat):=by
 have it:=A.lp0 l (fun f y=>F.ap l f y) (fun _ r=>some r) (fun f=>by rw[F.ap,Qd (by omega)])
  (fun f k x hx hk ih=>by rw[F.ap,Qj (by omega),A.ixn hx,Qa,A.gd1 (A.r64n (by omega)),ih];rfl) (by have:=Qai;omega)
 have go: ∀(r xs:List Mn'),xs.length+r.length<=2000->F.t m r xs=some (xs++r.take (m.toNat-xs.length)):=fun r=>by
  induction r with
  |nil=>intro xs _;rw[F.t];simp
  |cons y r ih=>
   intro xs hx;rw[Qu]at hx
   rw[F.t]
   by_cases h:m<=(xs.length:Int)
   ·rw[Qj h,show m.toNat-xs.length=0 by omega];simp
   ·rw[Qd h,A.gd1 (by simp;omega),ih _ (by simp;omega)]
    obtain⟨k,hk⟩: ∃k,m.toNat-xs.length=k+1:=⟨m.toNat-xs.length-1,by omega⟩
    rw[hk,List.take_succ_cons,show m.toNat-(xs++[y]).length=k by simp;omega]
    simp
 unfold F.aK F.b8
 rw[show F.ap l A.FU 0=some l from it,Qa,go l [] (by simpa using hl)]
 simp
end Go.Proofs.YtlbdgahbamalcaaGreatDoor
end
section
namespace Go.Proofs.YtlbdgahbamalcaaGreatDoor
open Go.RowKit Go.Graph Go.Utf Go.Ent Go.Opr
abbrev gvs (L:List Rc):List (Int×Int×Rc):=L.map fun r=>(1,7,r)
theorem okC {r:Rc}(h:okT r.2=true):F.bE r=some 0:=by rw[Qgs,Qj h]
theorem take_eq (g:List NdM)(L:List Rc)(hL:L.length<=24)(hok: ∀r,r∈L->okT r.2=true)(hck:F.b5 g=some 0)(n1:NdM)(hfd:F.bn g 1=some (n1,true))(hk1:n1.2.1=1):
  F.cl g (gvs L)=some (if L=[]then none else some (7,[(1,L)]),0):=by
 have hFU:=Qai
 have hlen:(gvs L).length=L.length:=Wb ..
 have at_: ∀{k:Nat} {x:Int×Int×Rc},(gvs L)[k]?=some x->∃r,L[k]?=some r/\x=(1,7,r):=fun {k x} h=>by
  rw[Qs]at h
  cases hr:L[k]? with
  |none=>rw[hr]at h;cases h
  |some r=>rw[hr]at h;exact⟨r,rfl,(Ws h).symm⟩
 rw[F.cl,hck,Qa,Qd (by simp),Qd (by omega)]
 cases L with
 |nil=>
  obtain⟨f,hf⟩: ∃f',A.FU=f'+1:=⟨A.FU-1,by omega⟩
  rw[Qd (by simp),hf,F.bI,Qd (by simp),Qj rfl]
 |cons r0 tl=>
  have checks: ∀(m:List (Int×List Rc)),F.aq (gvs (r0::tl)) (1,7,r0) m A.FU 0=some (some (7,m),0):=fun m=>
   A.lp0 (gvs (r0::tl)) (fun f y=>F.aq (gvs (r0::tl)) (1,7,r0) m f y) (fun _ _=>some (some (7,m),0))
    (fun f=>by rw[F.aq,Qd (by omega)])
    (fun f k x hx hk ih=>by
     obtain⟨r,hr,rfl⟩:=at_ hx
     rw[F.aq,Qj (by omega),A.ixn hx,Qa]
     show(F.bE r).bind _=_
     rw[okC (hok r (Qt hr)),Qa,Qd (by simp),A.gd1 ⟨by omega,by omega⟩]
     exact ih)
    (by omega)
  have may:(bif bif bif !true then true else decide (n1.2.1≠1)then true else decide ((7:Int)<0)then true else decide ((1073741824:Int)<7))=false:=by rw[hk1];rfl
  have loop:=A.lp (gvs tl) (fun f (s:List (Int×List Rc)) y=>F.ai g (gvs (r0::tl)) (1,7,r0) f s (y+1)) (fun _ _ _=>some (some (7,[(1,r0::tl)]),0)) (fun k s=>s=[(1,(r0::tl).take (k+1))])
   (fun f s hp=>by
    show F.ai _ _ _ (f+1) s _=_
    rw[F.ai,Qd (by rw[hlen,Wb,Qu];omega),checks,hp,Wb,Xj (by simp)])
   (fun f s k x hx hk hp ih=>by
    show F.ai _ _ _ (f+1) s _=_
    have hx':(gvs (r0::tl))[k+1]?=some x:=hx
    obtain⟨r,hr,rfl⟩:=at_ hx'
    rw[Wb]at hk
    rw[Qu]at hL
    have e:(k:Int)+1=((k+1:Nat):Int):=by omega
    rw[F.ai,Qj (by rw[hlen,Qu];omega),e,A.ixn hx',Qa]
    show(F.bn g 1).bind _=_
    rw[hfd,Qa]
    show(if(bif bif bif !true then true else decide (n1.2.1≠1)then true else decide ((7:Int)<0)then true else decide ((1073741824:Int)<7))=true then none else _)=_
    have hml:(Z.mget ([]:List Rc) s 1).length<=24:=by
     rw[hp]
     show((r0::tl).take (k+1)).length<=24
     rw[Qw];omega
    rw[may,Qd (by simp),A.gd1 rfl,A.gd1 rfl,A.gd1 rfl,A.gd1 (by simp only[Qu,Ww];omega),A.gd1 ⟨by omega,by omega⟩]
    have:=ih (Z.mins s 1 (Z.mget ([]:List Rc) s 1++[r])) (by
     rw[hp]
     show [((1:Int),(r0::tl).take (k+1)++[r])]=_
     rw[Xv (i:=k+1),hr];rfl)
    rw[e]at this
    exact this)
   (by rw[Wb];rw[Qu]at hL;omega) [(1,[r0])] rfl
  rw[Qj (by rw[hlen,Qu];omega),show A.ix (gvs (r0::tl)) 0=some (1,7,r0)from A.ixn (k:=0) rfl,Qa]
  show(F.bn g 1).bind _=_
  rw[hfd,Qa]
  show(if(bif bif bif !true then true else decide (n1.2.1≠1)then true else decide ((7:Int)<0)then true else decide ((1073741824:Int)<7))=true then none else _)=_
  rw[may,Qd (by simp),A.gd1 rfl,A.gd1 rfl,A.gd1 (show((Z.mget ([]:List Rc) ([]:List (Int×List Rc)) 1).length+[(r0:Rc)].length)*24<=140737488355328 from(show(0+1)*24<=140737488355328 by decide)),A.gd1 (by decide),Qd (by simp)]
  exact loop
theorem sort1 (s:ByteArray×Int×List Mn):F.e [s]=some [s]:=by
 have hc: ∀a b:ByteArray×Int×List Mn,F.aF a b=some (cR (0,a.1) (0,b.1)):=fun a b=>by
  rw[F.aF]
  show(F.ay a.1 b.1).bind _=_
  rw[cmps_eq,Qa]
  unfold cR
  rw[Qd (by simp[cI])]
 rw[F.e,A.gd1 (by simp)]
 exact sk_sort (k:=fun s:ByteArray×Int×List Mn=>((0:Int),s.1)) _ hc (.refl _) (Xr ..)
theorem epoch_eq (pre:List NdM)(c:NdM)(N:List (Int×NdM))(Gv:List (Int×List Rc))(K':List (KyM×List Mn))(l:List Mn)(hpre: ∀n,n∈pre->n.2.1≠15/\n.2.1≠11/\n.2.1≠16)(hc:c.2.1=15)(hl:pre.length<=100)(hne:l≠[])
  (hof:F.au A.FU (N,Gv,[],[]) c.1 (7,0,(0,0,0,0))=some (l,(N,Gv,K',[]))):
  F.aV (N,Gv,[],[]) (pre++[c]) 7=some ([(c.2.2.2.2.1,7,l)],(N,Gv,K',[])):=by
 have hFU:=Qai
 rw[F.aV]
 have hlen:(pre++[c]).length=pre.length+1:=by simp
 have:=A.lp (pre++[c]) (fun f (s:List (KyM×List Mn)×List (ByteArray×Int×List Mn)) y=>F.m (pre++[c]) 7 f N Gv [] s.1 s.2 y) (fun _ _ _=>some ([(c.2.2.2.2.1,7,l)],(N,Gv,K',[])))
  (fun k s=>(k<=pre.length->s=([],[]))/\(k=pre.length+1->s=(K',[(c.2.2.2.2.1,7,l)])))
  (fun f s hp=>by
   show F.m _ 7 (f+1) _ _ _ _ _ _=_
   rw[hp.2 hlen,F.m,Qd (by omega),sort1];rfl)
  (fun f s k x hx hk hp ih=>by
   show F.m _ 7 (f+1) _ _ _ _ _ _=_
   rw[F.m,Qj (by omega),A.ixn hx,Qa]
   by_cases h1:k<pre.length
   ·rw[Q2 h1]at hx
    obtain⟨a,b,d⟩:=hpre x (Qt hx)
    have hkp:F.b1 x.2.1=some false:=by
     rw[F.b1,Xc b,Xc d];rfl
    rw[Qj a,hkp,Qa,F.az,Qj (show(!false)=true from rfl),F.ao,A.gd1 ⟨by omega,by omega⟩]
    exact ih s ⟨fun _=>hp.1 (by omega),fun h=>by omega⟩
   ·obtain rfl:k=pre.length:=by omega
    rw[We (Qo _),Nat.sub_self]at hx
    obtain rfl:c=x:=Ws hx
    have h0:=hp.1 (Qo _)
    rw[Qd (fun h=>h hc),F.az,Qd (by simp),h0]
    show(F.au A.FU (N,Gv,[],[]) c.1 (7,0,(0,0,0,0))).bind _=_
    rw[hof,Qa]
    have hll:0<l.length:=by cases l with
     |nil=>exact absurd rfl hne
     |cons _ _=>simp
    rw[hc,Wc rfl,cond_true,Qj (Wc (show(0:Int)<(l.length:Int) by omega)),A.gd1 (by simp only[Qu,Ww];omega),F.ao,A.gd1 ⟨by omega,by omega⟩]
    exact ih (K',[(c.2.2.2.2.1,7,l)]) ⟨fun h=>by omega,fun _=>rfl⟩)
  (by omega) ([],[]) ⟨fun _=>rfl,fun h=>by omega⟩
 exact this
def nmap (g:List NdM):List (Int×NdM):=g.foldl (fun m n=>Z.mins m n.1 n) []
structure GOk (pre:List NdM) (c:NdM) (T:Nat):Prop where
 ck:F.b5 (pre++[c])=some 0
 fd: ∃n1,F.bn (pre++[c]) 1=some (n1,true)/\n1.2.1=1
 kp:F.bD ([],[],[],[]) (pre++[c]) []=some (0,(nmap (pre++[c]),[],[],[]))
 lf:F.aA ([],[],[],[]) (pre++[c])=some []
 sim: ∃kn,gOf (nmap (pre++[c])) A.FU [] c.1 (7,0,(0,0,0,0))=some (T,kn)
 kinds: ∀n,n∈pre->n.2.1≠15/\n.2.1≠11/\n.2.1≠16
 cap:c.2.1=15
 len:pre.length<=100
 ins: ∀id,(Z.mget zNd (nmap (pre++[c])) id).2.2.1.length<=1000
 pos:1<=T
theorem one7 (L:List Rc):Qby (gvs L) []=if L=[]then []else [7]:=by
 obtain⟨h3,h4,_⟩:=o_aX (gvs L) [] List.Pairwise.nil
 split
 ·rename_i h;subst h;rfl
 ·rename_i h
  refine rise_eq h3 (Xr ..) fun x=>?_
  rw[h4]
  constructor
  ·rintro(h5|⟨y,hy,rfl⟩)
   ·cases h5
   ·obtain⟨r,_,rfl⟩:=Wx.1 hy
    exact Qm.2 rfl
  ·intro h5
   rw[Qm]at h5
   subst h5
   cases L with
   |nil=>exact absurd rfl h
   |cons r t=>exact .inr ⟨_,Qg ..,rfl⟩
theorem Run_eq {pre:List NdM}{c:NdM}{T:Nat}(hG:GOk pre c T)(L:List Rc)(hL:L.length<=24)(hok: ∀r,r∈L->okT r.2=true)(hkL: ∀r,r∈L->A.h6 r.1/\r.2.size<=maxLen):
  F.bp (pre++[c]) (gvs L) []=some (if L=[]then []else [(c.2.2.2.2.1,7,scB T (Qay [] L))],[],0):=by
 obtain⟨n1,hf,hk1⟩:=hG.fd
 have hB:=Bg_of L hL hkL
 have ep:=P_Epochs (gvs L) (by rw[Wb];omega)
 rw[one7]at ep
 rw[F.bp,take_eq _ L hL hok hG.ck n1 hf hk1,Qa]
 by_cases h0:L=[]
 ·rw[Qj h0]at ep ⊢
  rw[A.om_n rfl,Qd (by simp),hG.kp,Qa,Qd (by simp),ep,Qa,show F.o []=some [] by kernel_rfl,Qa,F.co]
  show(F.aA ([],[],[],[]) (pre++[c])).bind _=_
  rw[hG.lf,Qa,Qj h0]
 ·rw[Qd h0]at ep ⊢
  rw[A.om_s rfl,Qd (by simp),hG.kp,Qa,Qd (by simp),ep,Qa,show F.o [7]=some [7] by kernel_rfl,Qa,F.bS,A.gd1 rfl,A.gd1 rfl]
  obtain⟨kn,hs⟩:=hG.sim
  have hof:=of_sim hB hL rfl hkL hG.ins A.FU [] c.1 (7,0,(0,0,0,0)) (T,kn) hs
  have hne:scB T (Qay [] L)≠[]:=by
   unfold scB
   rw[Qd (by have:=hG.pos;omega)]
   intro h
   rw[List.map_eq_nil_iff]at h
   cases L with
   |nil=>exact h0 rfl
   |cons r t=>
    have h2:=(o_bc (r::t) [] [] List.Pairwise.nil (by simp) (by simp)).2
    have hw:=(o_bb (r::t) [] List.Pairwise.nil (by simp)).2.2.1
    rw[h]at hw
    simp[wS]at hw
    omega
  have he:=epoch_eq pre c (nmap (pre++[c])) [(1,L)] _ _ hG.kinds hG.cap hG.len hne hof
  show(F.aV (nmap (pre++[c]),[(1,L)],[],[]) (pre++[c]) 7).bind _=_
  rw[he,Qa,A.gd1 (by simp only[Qu,Ww];omega),F.cp]
  show(F.aA ([],[],[],[]) (pre++[c])).bind _=_
  rw[hG.lf,Qa,Qd h0];rfl
abbrev fn0:Int×Int×ByteArray:=(0,0,ByteArray.mk #[])
abbrev tx0:ByteArray:=ByteArray.mk #[]
def inN:NdM:=(1,1,[],fn0,ByteArray.mk #[97],0,0)
def midN (c k fd:Int):List NdM:=[(k,12,[fd],fn0,tx0,0,0),(k+1,14,[k+2],fn0,tx0,1+c,1),(k+2,5,[k,k+1],fn0,tx0,0,0),(k+3,13,[k+2],fn0,tx0,0,0)]
def capN (fd:Int):NdM:=(99,15,[fd],fn0,ByteArray.mk #[99],0,0)
def preN (c:Int):Nat->List NdM
 |0=>[inN]
 |1=>[inN]++midN c 10 1
 |_=>([inN]++midN c 10 1)++midN c 20 13
def fdN:Nat->Int
 |0=>1
 |1=>13
 |_=>23
def tmN (c:Nat):Nat->Nat
 |0=>1
 |1=>c+2
 |_=>(c+2)*(c+2)
def kindB (l:List NdM):Bool:=l.all fun n=>decide (n.2.1≠15)&&decide (n.2.1≠11)&&decide (n.2.1≠16)
theorem o_n {l:List NdM}(h:kindB l=true): ∀n,n∈l->n.2.1≠15/\n.2.1≠11/\n.2.1≠16:=fun n hn=>by
 have:=Qx.1 h n hn
 simpa[and_assoc] using this
theorem o_t {m:List (Int×NdM)}(h:(m.all fun p=>decide (p.2.2.2.1.length<=1000))=true)(i:Int):(Z.mget zNd m i).2.2.1.length<=1000:=by
 cases hm:Z.mhas m i with
 |true=>exact Wf (Qx.1 h _ (Z.mget_mem (z:=zNd) hm))
 |false=>rw[Z.mget_none hm];decide
theorem Qax {x:Option (Nat×KnM)}{T:Nat}(h:x.map (·.1)=some T): ∃kn,x=some (T,kn):=by
 cases x with
 |none=>cases h
 |some r=>injection h with h;exact⟨r.2,by rw[<-h]⟩
theorem find_some {x:Option (NdM×Bool)}(h:(x.map fun r=>(r.2,r.1.2.1))=some (true,1)): ∃n1,x=some (n1,true)/\n1.2.1=1:=by
 cases x with
 |none=>cases h
 |some r=>injection h with h;injection h with h1 h2;exact⟨r.1,by rw[<-h1],h2⟩
theorem gok00:GOk (preN 0 0) (capN (fdN 0)) (tmN 0 0) where
 ck:=by kernel_rfl
 fd:=find_some (by kernel_rfl)
 kp:=by kernel_rfl
 lf:=by kernel_rfl
 sim:=Qax (by kernel_rfl)
 kinds:=o_n (by kernel_rfl)
 cap:=rfl
 len:=by decide
 ins:=o_t (by kernel_rfl)
 pos:=by decide
theorem gok10:GOk (preN 1 0) (capN (fdN 0)) (tmN 1 0) where
 ck:=by kernel_rfl
 fd:=find_some (by kernel_rfl)
 kp:=by kernel_rfl
 lf:=by kernel_rfl
 sim:=Qax (by kernel_rfl)
 kinds:=o_n (by kernel_rfl)
 cap:=rfl
 len:=by decide
 ins:=o_t (by kernel_rfl)
 pos:=by decide
theorem gok20:GOk (preN 2 0) (capN (fdN 0)) (tmN 2 0) where
 ck:=by kernel_rfl
 fd:=find_some (by kernel_rfl)
 kp:=by kernel_rfl
 lf:=by kernel_rfl
 sim:=Qax (by kernel_rfl)
 kinds:=o_n (by kernel_rfl)
 cap:=rfl
 len:=by decide
 ins:=o_t (by kernel_rfl)
 pos:=by decide
theorem gok01:GOk (preN 0 1) (capN (fdN 1)) (tmN 0 1) where
 ck:=by kernel_rfl
 fd:=find_some (by kernel_rfl)
 kp:=by kernel_rfl
 lf:=by kernel_rfl
 sim:=Qax (by kernel_rfl)
 kinds:=o_n (by kernel_rfl)
 cap:=rfl
 len:=by decide
 ins:=o_t (by kernel_rfl)
 pos:=by decide
theorem gok11:GOk (preN 1 1) (capN (fdN 1)) (tmN 1 1) where
 ck:=by kernel_rfl
 fd:=find_some (by kernel_rfl)
 kp:=by kernel_rfl
 lf:=by kernel_rfl
 sim:=Qax (by kernel_rfl)
 kinds:=o_n (by kernel_rfl)
 cap:=rfl
 len:=by decide
 ins:=o_t (by kernel_rfl)
 pos:=by decide
theorem gok21:GOk (preN 2 1) (capN (fdN 1)) (tmN 2 1) where
 ck:=by kernel_rfl
 fd:=find_some (by kernel_rfl)
 kp:=by kernel_rfl
 lf:=by kernel_rfl
 sim:=Qax (by kernel_rfl)
 kinds:=o_n (by kernel_rfl)
 cap:=rfl
 len:=by decide
 ins:=o_t (by kernel_rfl)
 pos:=by decide
theorem gok02:GOk (preN 0 2) (capN (fdN 2)) (tmN 0 2) where
 ck:=by kernel_rfl
 fd:=find_some (by kernel_rfl)
 kp:=by kernel_rfl
 lf:=by kernel_rfl
 sim:=Qax (by kernel_rfl)
 kinds:=o_n (by kernel_rfl)
 cap:=rfl
 len:=by decide
 ins:=o_t (by kernel_rfl)
 pos:=by decide
theorem gok12:GOk (preN 1 2) (capN (fdN 2)) (tmN 1 2) where
 ck:=by kernel_rfl
 fd:=find_some (by kernel_rfl)
 kp:=by kernel_rfl
 lf:=by kernel_rfl
 sim:=Qax (by kernel_rfl)
 kinds:=o_n (by kernel_rfl)
 cap:=rfl
 len:=by decide
 ins:=o_t (by kernel_rfl)
 pos:=by decide
theorem gok22:GOk (preN 2 2) (capN (fdN 2)) (tmN 2 2) where
 ck:=by kernel_rfl
 fd:=find_some (by kernel_rfl)
 kp:=by kernel_rfl
 lf:=by kernel_rfl
 sim:=Qax (by kernel_rfl)
 kinds:=o_n (by kernel_rfl)
 cap:=rfl
 len:=by decide
 ins:=o_t (by kernel_rfl)
 pos:=by decide
theorem mul_loop (a2 L:List Rc)(hLe:List.take ((min ((a2).length:Int) 24).toNat) a2=L)(B:List Mn)(hB:Bg B)(e:Int)(T:Nat)(hT:1<=T/\T<=1000)(out:List (ByteArray×Int×List Mn))(left:List EnM)(er:Int)(hL0:L=[]->B=[])(ho:L≠[]->out=[(ByteArray.mk #[99],7,scB T B)]):
  F.p a2 (B,e) (T:Int) (out,left,er) A.FU B 0=some true:=by
 have hFU:=Qai
 have hBl:=hB.len
 have:=A.lp B (fun f (s:List Mn) y=>F.p a2 (B,e) (T:Int) (out,left,er) f s y) (fun _ _ _=>some true) (fun k s=>s=((B.take k).map fun m=>(m.1,m.2*(T:Int)))++B.drop k)
  (fun f s hp=>by
   show F.p _ _ _ _ (f+1) s _=_
   rw[F.p,Qd (by show ¬((B.length:Int)<(B.length:Int));omega),hLe]
   rw[Xj (Qo _),Xd (Qo _),W8]at hp
   by_cases h0:L=[]
   ·rw[Qj (by rw[h0];rfl)];rfl
   ·have hll:0<L.length:=by
     cases L with
     |nil=>exact absurd rfl h0
     |cons _ _=>simp
    have hs:s=scB T B:=by
     rw[hp];unfold scB;rw[Qd (by omega)]
    have hsl:s.length<=24:=by rw[hp,Wb];exact hB.len
    have hout:=ho h0
    subst hout
    rw[Qd (by omega),show A.ix [(ByteArray.mk #[99],(7:Int),scB T B)] 0=some (ByteArray.mk #[99],7,scB T B)from A.ixn (k:=0) rfl,Qa]
    show(F.k (scB T B) s).bind _=_
    rw[<-hs,EqM _ _ (by omega),Wc rfl,Qa,Qj rfl]
    show(F.cs [(ByteArray.mk #[99],(7:Int),s)] (ByteArray.mk #[99]) 7).bind _=_
    rw[P_Of _ _ _ ⟨by simp,fun x hx=>by rw[Qm]at hx;subst hx;show s.length<=2000;omega⟩,Qa]
    have:ofS (ByteArray.mk #[99]) 7 [(ByteArray.mk #[99],(7:Int),s)]=s:=by
     unfold ofS;rw[Qj ⟨rfl,rfl⟩]
    rw[this,o_dm s 999 (by omega) (by decide),Xj (by show s.length<=999;omega),Qa,EqM _ _ (by omega),Wc rfl,Qa];rfl)
  (fun f s k x hx hk hp ih=>by
   show F.p _ _ _ _ (f+1) s _=_
   have hsk:s[k]?=some x:=by
    rw[hp,We (by rw[Wb,Qw];omega),Wb,Qw,Xy (by omega),Nat.sub_self,A.dropx hx];rfl
   have hxb:=hB.num x (Qt hx)
   have b1:x.2*(T:Int)<=24*(T:Int):=X4 hxb.2 (by omega)
   have b2:0<=x.2*(T:Int):=Jj (by omega) (by omega)
   rw[F.p,Qj (by show(k:Int)<(B.length:Int);omega),A.ixn hsk,Qa,A.gd1 ⟨by omega,by omega⟩,Qa,A.gd1 ⟨by omega,by omega⟩]
   refine ih _ ?_
   show s.set k (x.1,x.2*(T:Int))=_
   rw[hp,List.set_append_right _ _ (by simp;omega),Wb,Qw,Xy (by omega),Nat.sub_self,A.dropx hx,List.set_cons_zero,Xv,hx]
   simp)
  (by omega) B (by simp)
 exact this
theorem give_loop (a2 L:List Rc)(hLe:List.take ((min ((a2).length:Int) 24).toNat) a2=L)(hl:L.length<=24)(r4:List Mn×Int)(xs:List NdM)(y32 y34:Int):
  F.d a2 r4 xs y32 y34 A.FU [] 0=(F.bp (xs++[capN y32]) (gvs L) []).bind fun r75=>if(bif decide (r75.2.2≠0)then true else decide (((r75.1).length:Int)≠min 1 (L.length:Int)))=true then some false else F.p a2 r4 y34 r75 A.FU r4.1 0:=by
 have hFU:=Qai
 have:=A.lp L (fun f (s:List (Int×Int×Rc)) y=>F.d a2 r4 xs y32 y34 f s y) (fun _ r s=>(F.bp (xs++[capN y32]) (s++gvs r) []).bind fun r75=>if(bif decide (r75.2.2≠0)then true else decide (((r75.1).length:Int)≠min 1 (L.length:Int)))=true then some false else F.p a2 r4 y34 r75 A.FU r4.1 0) (fun k s=>s.length<=k)
  (fun f s hp=>by
   show F.d _ _ _ _ _ (f+1) s _=_
   rw[F.d,hLe,Qd (by omega)]
   show _=(F.bp (xs++[capN y32]) (s++[]) []).bind _
   rw[W8];rfl)
  (fun f s k x hx hk hp ih=>by
   show F.d _ _ _ _ _ (f+1) s _=_
   rw[F.d,hLe,Qj (by omega),A.ixn hx,Qa,A.gd1 (by simp only[Qu,Ww];omega),A.gd1 ⟨by omega,by omega⟩,ih _ (by simp;omega)]
   show _=(F.bp (xs++[capN y32]) (s++(1,7,x)::gvs (L.drop (k+1))) []).bind _
   rw[Ys];rfl)
  (by omega) [] (Qo _)
 exact this
theorem Qda {a0 a1:UInt8}{a2:List Rc}{r4:List Mn×Int}{f:Nat}{xs:List NdM}{y32 y34 y36 c:Int}(hc:Int.tmod (a0.toNat:Int) 3=c)(h0:0<=c/\c<=2)(h36:0<=y36/\y36<=2)(h34:0<=y34/\y34<=100)(hx:xs.length<=100)(hlt:y36<Int.tmod (a1.toNat:Int) 3):
  F.af a0 a1 a2 r4 (f+1) xs y32 y34 y36=F.af a0 a1 a2 r4 f (xs++midN c (10*(y36+1)) y32) (10*(y36+1)+3) (y34*(c+2)) (y36+1):=by
 have b1:y34*(c+2)<=100*(c+2):=X4 h34.2 (by omega)
 have b2:0<=y34*(c+2):=Jj h34.1 (by omega)
 have e:(1+c)+1=c+2:=by omega
 rw[F.af,Qj hlt,hc,e,A.gd1 ⟨⟨by omega,by omega⟩,⟨by omega,by omega⟩⟩,A.gd1 ⟨⟨by omega,by omega⟩,⟨by omega,by omega⟩⟩,A.gd1 ⟨⟨by omega,by omega⟩,⟨by omega,by omega⟩⟩,A.gd1 ⟨⟨by omega,by omega⟩,⟨by omega,by omega⟩⟩,A.gd1 (by simp only[Qu,Ww];omega),A.gd1 ⟨⟨by omega,by omega⟩,⟨by omega,by omega⟩,⟨by omega,by omega⟩⟩,A.gd1 ⟨by omega,by omega⟩]
 rfl
theorem Qes {a0 a1:UInt8}{a2:List Rc}{r4:List Mn×Int}{f:Nat}{xs:List NdM}{y32 y34 y36:Int}(hx:xs.length<=100)(hlt: ¬y36<Int.tmod (a1.toNat:Int) 3):
  F.af a0 a1 a2 r4 (f+1) xs y32 y34 y36=F.d a2 r4 xs y32 y34 A.FU [] 0:=by
 rw[F.af,Qd hlt,A.gd1 (by simp only[Qu,Ww];omega)]
theorem gok (c d:Nat)(hc:c<=2)(hd:d<=2):GOk (preN (c:Int) d) (capN (fdN d)) (tmN c d):=by
 match c,d,hc,hd with
 |0,0,_,_=>exact gok00
 |0,1,_,_=>exact gok01
 |0,2,_,_=>exact gok02
 |1,0,_,_=>exact gok10
 |1,1,_,_=>exact gok11
 |1,2,_,_=>exact gok12
 |2,0,_,_=>exact gok20
 |2,1,_,_=>exact gok21
 |2,2,_,_=>exact gok22
theorem nodes_all {a0 a1:UInt8}{a2:List Rc}{r4:List Mn×Int}{c d:Nat}(hc:Int.tmod (a0.toNat:Int) 3=c)(hd:Int.tmod (a1.toNat:Int) 3=d)(h0:c<=2)(h1:d<=2):
  F.af a0 a1 a2 r4 A.FU [inN] 1 1 0=F.d a2 r4 (preN (c:Int) d) (fdN d) (tmN c d:Int) A.FU [] 0:=by
 have hFU:=Qai
 obtain⟨f,hf⟩: ∃f',A.FU=f'+1+1+1:=⟨A.FU-3,by omega⟩
 rw[hf]
 have e1:(10*((0:Int)+1))=10:=rfl
 match d,hd,h1 with
 |0,hd,_=>
  rw[Qes (by simp) (by rw[hd];decide),hf];rfl
 |1,hd,_=>
  rw[Qda hc (by omega) (by decide) (by decide) (by simp) (by rw[hd];decide),Qes (by simp[midN]) (by rw[hd];decide),hf]
  show F.d a2 r4 ([inN]++midN c 10 1) 13 (1*((c:Int)+2)) _ [] 0=F.d a2 r4 ([inN]++midN c 10 1) 13 ((c+2:Nat):Int) _ [] 0
  rw[show 1*((c:Int)+2)=((c+2:Nat):Int) by omega]
 |2,hd,_=>
  rw[Qda hc (by omega) (by decide) (by decide) (by simp) (by rw[hd];decide),Qda hc (by omega) (by decide) (by omega) (by simp[midN]) (by rw[hd];decide),Qes (by simp[midN]) (by rw[hd];decide),hf]
  show F.d a2 r4 (([inN]++midN c 10 1)++midN c 20 13) 23 (1*((c:Int)+2)*((c:Int)+2)) _ [] 0=F.d a2 r4 (([inN]++midN c 10 1)++midN c 20 13) 23 (((c+2)*(c+2):Nat):Int) _ [] 0
  rw[show 1*((c:Int)+2)*((c:Int)+2)=(((c+2)*(c+2):Nat):Int) by rw[Int.one_mul,Int.natCast_mul];rfl]
theorem modelLoop_plain {P Q:Prop}(a0 a1:UInt8)(a2:List Rc)(_:P)(_:Q)(hok0:(Z.Ty.slice (Z.Ty.pair A.ti Z.Ty.str)).ok a2):F.bJ a0 a1 a2=some true:=by
 have hFU:=Qai
 obtain⟨L,hLe⟩: ∃L,List.take ((min ((a2).length:Int) 24).toNat) a2=L:=⟨_,rfl⟩
 have hl:L.length<=24:=by rw[<-hLe,Qw];omega
 have hmem: ∀r,r∈L->r∈a2:=fun r hr=>List.mem_of_mem_take (hLe▸hr)
 have hkL: ∀r,r∈L->A.h6 r.1/\r.2.size<=maxLen:=fun r hr=>hok0.2 r (hmem r hr)
 have bg:F.ct=some true:=rfl
 rw[F.bJ,hLe,A.gd1 ⟨by omega,by omega⟩,Bag_eq L hl,Qa]
 obtain⟨r4,hr4⟩: ∃r4,r4=(if(L.all fun r=>okT r.2)=true then(Qay [] L,(0:Int))else([],50)):=⟨_,rfl⟩
 rw[<-hr4]
 refine A.lp0 L (fun f y=>F.aw a0 a1 a2 r4 f y) (fun _ _=>some true) (fun f=>?_) (fun f k x hx hk ih=>?_) (by omega)
 ·rw[F.aw,hLe,Qd (by omega),bg,Qa]
  cases ha:(L.all fun r=>okT r.2)with
  |false=>
   rw[ha,Qd (by simp)]at hr4
   rw[hr4];rfl
  |true=>
   rw[ha,Qj rfl]at hr4
   have hok: ∀r,r∈L->okT r.2=true:=fun r hr=>Qx.1 ha r hr
   subst hr4
   rw[Qd (by simp)]
   have h0:=a0.toNat_lt
   have h1:=a1.toNat_lt
   have t0:Int.tmod (a0.toNat:Int) 3=((a0.toNat%3:Nat):Int):=rfl
   have t1:Int.tmod (a1.toNat:Int) 3=((a1.toNat%3:Nat):Int):=rfl
   rw[A.gd1 ⟨⟨by omega,by omega⟩,by decide,by rw[t0];exact⟨by omega,by omega⟩⟩,A.gd1 ⟨by decide,by rw[t1];exact⟨by omega,by omega⟩⟩]
   have hc2:a0.toNat%3<=2:=by omega
   have hd2:a1.toNat%3<=2:=by omega
   have hG:=gok (a0.toNat%3) (a1.toNat%3) hc2 hd2
   have hT:1<=tmN (a0.toNat%3) (a1.toNat%3)/\tmN (a0.toNat%3) (a1.toNat%3)<=1000:=by
    refine⟨hG.pos,?_⟩
    have: ∀c d:Nat,c<=2->d<=2->tmN c d<=1000:=by
     intro c d hc hd
     match c,d,hc,hd with
     |0,0,_,_=>decide
     |0,1,_,_=>decide
     |0,2,_,_=>decide
     |1,0,_,_=>decide
     |1,1,_,_=>decide
     |1,2,_,_=>decide
     |2,0,_,_=>decide
     |2,1,_,_=>decide
     |2,2,_,_=>decide
    exact this _ _ hc2 hd2
   refine(nodes_all t0 t1 hc2 hd2).trans ?_
   rw[give_loop a2 L hLe hl,Run_eq hG L hl hok hkL,Qa]
   have hlen:((if L=[]then([]:List (ByteArray×Int×List Mn))else [((capN (fdN (a1.toNat%3))).2.2.2.2.1,7,scB (tmN (a0.toNat%3) (a1.toNat%3)) (Qay [] L))]).length:Int)=min 1 (L.length:Int):=by
    cases L with
    |nil=>rfl
    |cons r t=>rw[Qd (by simp)];simp only[Qu,Ww];omega
   rw[Qd (by rw[hlen];simp)]
   exact mul_loop a2 L hLe (Qay [] L) (Bg_of L hl hkL) 0 _ hT _ [] 0 (fun h=>by rw[h];rfl) (fun h=>by rw[Qd h];rfl)
 ·rw[F.aw,hLe,Qj (by omega),A.ixn hx,Qa]
  by_cases h:(64:Int)<(x.2.size:Int)
  ·rw[Qj h,bg];rfl
  ·rw[Qd h,A.gd1 ⟨by omega,by omega⟩];exact ih
end Go.Proofs.YtlbdgahbamalcaaGreatDoor
end
section
namespace Go.A
open Go.RowKit Go.Z Go.Proofs Go.Lib
theorem Hall.tabs3 {w:World}{g3 g4 g i j k:Nat}{m:Int}(h:Lib.Utf8Tabs g3 g4 w)(hm:w.cell? ⟨g,0,none⟩=some (.int .i64 m)):Hall w [(i,.el none g3 0 tabF),(j,.el none g4 0 tabA),(k,.el none g 0 [.int .i64 m])]:=by
 obtain⟨h1,h2,_⟩:=Hall.tabs (i:=i) (j:=j) h
 have hc:Cells w ⟨g,0,none⟩ [.int .i64 m]:=by
  intro x v hv
  cases x with
  |zero=>cases hv;rw[Addr.add_lit];exact hm
  |succ x=>cases hv
 exact⟨h1,h2,⟨rfl,rfl,hc,World.block_lt_of_cell? w _ hm,fun _ h=>h⟩,trivial⟩
theorem handS {H:Type}{enc:TypeId×Value->H}{C:Checked}{os:Os}{f:FuncId}{fn:Func}{s:ChangeSpec}{conds:List PathCond}{apart fresh handsOn again:Bool}{X:World->Array Value->Prop}
  (hX: ∀(w w':World) (args:Array Value),w.heap=w'.heap->X w args->X w' args) (own:ownKnob C.prog.godebug=none) (started:os.Started) (noInit:C.prog.inits.idxOf? f=none) (hfn:C.prog.funcs[f]?=some fn)
  (witness: ∃(w:World) (tape:Tape) (i:Input),w.os=os/\(w.forCall tape i).Shaped C.prog/\i.vars=[]/\Input.okWide C.prog (w.forCall tape i) .any w.heap.size f i/\((s.pre enc C.prog fn conds apart (w.forCall tape i).memory i.args/\X (w.forCall tape i).memory i.args)/\sizedMet enc C.prog fn (OpenSpec.ofChange s) apart (w.forCall tape i).memory i.args)/\({}:Assume).holds C.prog (lone (Frame.enter C.prog f i.args .normal) [] (w.forCall tape i)))
  (k: ∀(W:World) (base:Nat) (args:Array Value) (ds gs:List (DataW H)) (before:List MemPlace),
   (∀(j:Nat) t v,fn.params[j]?=some t->args[j]?=some v->Value.okWide C.prog W .any base t v)->DataW.Whole enc C.prog fn.params.toList s.vars apart W args.toList ds gs before->X W args->W.ShapedOpen C.prog->
   Calls C.prog f args W fun e W'=>∃v,e=.returned v/\s.post enc C.prog fn apart fresh handsOn again W args v W'):
  ReturnsInHanded {} C os f .any (fun w args=>(s.pre enc C.prog fn conds apart w args/\X w args)/\sizedMet enc C.prog fn (OpenSpec.ofChange s) apart w args) (s.post enc C.prog fn apart fresh handsOn again):=
 returnsInHanded_of_calls own started noInit witness fun w tape i _ hsh _ hok hpre _=>by
  obtain⟨_,_,_,g,hg,_,_,_,_,hv⟩:=hok
  obtain rfl:g=fn:=Ws (hg.symm.trans hfn)
  obtain⟨⟨⟨ds,gs,bf,hw,hc⟩,hx⟩,_⟩:=hpre
  refine(k (w.forCall tape i) w.heap.size i.args ds gs bf hv (DataW.Whole.of_heap (w':=w.forCall tape i) (by rfl) hw) (hX _ _ _ (by rfl) hx) hsh).mono ?_
  rintro e W' ⟨v,rfl,hp⟩
  exact ChangeSpec.post_blind hp
end Go.A
end
section
namespace Go.Z
open Go.RowKit
def OpenT (P:Program)(T:TypeId)(t:Ty):Prop:=
 P.cellsOf T=t.size/\∀(H:Type) (enc:TypeId×Value->H) (w:World) (base:Nat) (spare:Nat->Bool) (held:Bool) (fuel:Nat) (cs:List Value) (x:DataW H×List MemPlace),
  DataW.trod enc P w base spare held fuel T cs=some x->∃y:t.den,t.rep w (nt []) cs y
section
variable {P:Program}{T e:TypeId}
theorem ot_int {k:IntKind}(hc:P.cellsOf T=1)(ht:P.underlying T=some (.int k)):OpenT P T (.int k):=⟨hc,fun H enc w base spare held fuel cs x h=>by
 obtain⟨n,rfl,_,hw⟩:=DataW.trod_int ht h
 refine⟨n,rfl,?_⟩
 simp only[Lit.wf,Qe,Xw]at hw
 exact hw⟩
theorem ot_byte (hc:P.cellsOf T=1)(ht:P.underlying T=some (.int .u8)):OpenT P T .byte:=⟨hc,fun H enc w base spare held fuel cs x h=>by
 obtain⟨n,rfl,_,hw⟩:=DataW.trod_int ht h
 simp[Lit.wf,IntKind.min,IntKind.max,IntKind.signed,IntKind.bits]at hw
 exact⟨UInt8.ofNat n.toNat,Qv (fun z=>[Value.int .u8 z]) (u8_of (by omega))⟩⟩
theorem ot_str (hc:P.cellsOf T=1)(ht:P.underlying T=some .string):OpenT P T .str:=⟨hc,fun H enc w base spare held fuel cs x h=>by
 obtain⟨s,rfl,_,hs⟩:=DataW.trod_string ht h
 exact⟨s,rfl,hs⟩⟩
def OpenPs (P:Program):List (TypeId×Nat)->Nat->Ty->Prop
 | [],_,_=>False
 | [(T,o')],o,t=>o'=o/\OpenT P T t
 |(T,o')::p::ps,o,.pair a b=>o'=o/\OpenT P T a/\OpenPs P (p::ps) (o+a.size) b
 |_::_::_,_,_=>False
theorem open_ps {H:Type}{enc:TypeId×Value->H}{w:World}{base:Nat}{spare:Nat->Bool}{held:Bool}{fuel:Nat}{cs:List Value}:
  ∀(ps:List (TypeId×Nat)) (o:Nat) (t:Ty),OpenPs P ps o t->(∀p∈ps,∃x,DataW.trod enc P w base spare held fuel p.1 ((cs.drop p.2).take (P.cellsOf p.1))=some x)->∃y:t.den,t.rep w (nt []) ((cs.drop o).take t.size) y
 | [],_,_,h,_=>h.elim
 | [(T,o')],o,t,h,hx=>by
  obtain⟨rfl,⟨hc,ho⟩⟩:=h
  obtain⟨x,hx⟩:=hx (T,o') (Qm.2 rfl)
  rw[<-hc];exact ho _ _ _ _ _ _ _ _ _ hx
 |(T,o')::p::ps,o,.pair a b,h,hx=>by
  obtain⟨rfl,⟨hc,ho⟩,hr⟩:=h
  obtain⟨x,h1⟩:=hx (T,o') (Qg ..)
  obtain⟨ya,hya⟩:=ho _ _ _ _ _ _ _ _ _ h1
  obtain⟨yb,hyb⟩:=open_ps (p::ps) _ b hr fun q hq=>hx q (Qf _ hq)
  refine⟨(ya,yb),_,_,?_,hya,hyb⟩
  show(cs.drop o').take (a.size+b.size)=_
  rw[hc,List.take_add,Xo]
 |_::_::_,_,.int _,h,_=>h.elim
 |_::_::_,_,.byte,h,_=>h.elim
 |_::_::_,_,.bool,h,_=>h.elim
 |_::_::_,_,.str,h,_=>h.elim
 |_::_::_,_,.slice _,h,_=>h.elim
theorem ot_struct {fs:List Field}{t:Ty}(hc:P.cellsOf T=t.size)(ht:P.underlying T=some (.struct fs.toArray))(h:OpenPs P (fs.map fun f=>(f.type,f.offset)) 0 t):OpenT P T t:=⟨hc,fun H enc w base spare held fuel cs x hx=>by
 obtain⟨xs,n,_,_,hl,hs,hf⟩:=DataW.trod_struct ht hx
 have hcs:cs=(cs.drop 0).take t.size:=by rw[Yv,Xj (by omega)]
 rw[hcs]
 refine open_ps (fuel:=n) (enc:=enc) (base:=base) (spare:=spare) (held:=held) _ 0 t h fun p hp=>?_
 obtain⟨f,hf1,rfl⟩:=Wx.1 hp
 obtain⟨i,hi,he⟩:=Xe hf1
 have h1:=hf i f (by rw[W9,Qh hi,he])
 rw[h1,Qh (by rw[hs];simpa using hi)]
 exact⟨_,rfl⟩⟩
theorem rows_of {t:Ty}{w:World}{g:Addr}: ∀(n:Nat),(∀i,i<n->∃(cs:List Value) (y:t.den),cs.length=t.size/\(∀j u,cs[j]?=some u->w.cell? (g.add (i*t.size+j))=some u)/\t.rep w (nt []) cs y)->
  ∃(cells:List Value) (ys:List t.den),ys.length=n/\cells.length=n*t.size/\(∀j u,cells[j]?=some u->w.cell? (g.add j)=some u)/\∀(i:Nat) (y:t.den),ys[i]?=some y->t.rep w (nt []) ((cells.drop (i*t.size)).take t.size) y
 |0,_=>⟨[],[],rfl,by simp,by simp,by simp⟩
 |n+1,h=>by
  obtain⟨cells,ys,h1,h2,h3,h4⟩:=rows_of n fun i hi=>h i (by omega)
  obtain⟨cs,y,c1,c2,c3⟩:=h n (by omega)
  refine⟨cells++cs,ys++[y],by simp[h1],by rw[Wg,h2,c1,Jt],fun j u hj=>?_,?_⟩
  ·by_cases hlt:j<cells.length
   ·rw[Q2 hlt]at hj;exact h3 j u hj
   ·rw[We (by omega)]at hj
    have:=c2 _ u hj
    rwa[h2,show n*t.size+(j-n*t.size)=j by omega]at this
  ·refine Qfj (xs:=ys) (ys:=[y]) (by rw[h2,h1]) h4 fun i y' hi=>?_
   have:i=0:=by have:=(Qb.1 hi).1;simp at this;omega
   subst this
   simp at hi;subst hi
   rw[Y0,Yv,Xj (by omega)];exact c3
theorem ot_slice {t:Ty}(hc:P.cellsOf T=1)(ht:P.underlying T=some (.slice e))(h:OpenT P e t):OpenT P T (.slice t):=⟨hc,fun H enc w base spare held fuel cs x hx=>by
 rcases DataW.trod_slice ht hx with⟨rfl,_⟩|⟨ad,len,cap,elems,rest,n,_,rfl,_,hb,hl,hm,hlen,hel,_,_⟩
 ·exact⟨[],Qev _⟩
 ·have each: ∀i,i<len->∃(cs:List Value) (y:t.den),cs.length=t.size/\(∀j u,cs[j]?=some u->w.cell? (ad.add (i*t.size+j))=some u)/\t.rep w (nt []) cs y:=fun i hi=>by
   have h1:=hel i hi
   rw[Qh (by omega),Jd]at h1
   obtain⟨cs',h2,h3⟩:=h1
   obtain⟨_,h4,h5⟩:=World.cells?_some h2
   obtain⟨y,hy⟩:=h.2 _ _ _ _ _ _ _ _ _ h3
   rw[h.1]at h4 h5
   refine⟨cs',y,h4,fun j u hj=>?_,hy⟩
   have hlt:=(Qb.1 hj).1
   have:=h5 j (by omega)
   rw[add_add]at this
   rw[this,hj]
  obtain⟨cells,ys,h1,h2,h3,h4⟩:=rows_of len each
  by_cases hz:len=0
  ·subst hz
   have:ys=[]:=Wj h1
   subst this
   exact⟨[],some ad,cap,[],rfl,by simp,hm,by simp,.inl rfl,by simp⟩
  ·have hp:=Qan t
   have hlt:0<cells.length:=by rw[h2];exact Nat.mul_pos (by omega) hp
   have h0:=h3 0 _ (Qh hlt)
   have hspot:=World.cell?_spot h0
   obtain⟨b,off,spot⟩:=ad
   simp only[Addr.add]at hspot
   subst hspot
   refine⟨ys,some ⟨b,off,none⟩,cap,cells,by rw[h1],by omega,hm,by rw[h1];exact h2,.inr ⟨b,off,rfl,by simp[nt],fun j u hj=>?_⟩,h4⟩
   have:=h3 j u hj
   rwa[Addr.add_lit]at this⟩
end
end Go.Z
end
section
namespace Go.Proofs.YtlbdgahbamalcaaGreatDoor.modelLoopDone
open Go.ChangeShapes Go.WideShapes Go.ChangeAt Go.RowKit
theorem own:ownKnob Tryz.prog.godebug=none:=by kernel_rfl
theorem laidOut:laidOutB Tryz.prog=true:=by kernel_rfl
theorem ot5:Z.OpenT Tryz.prog 5 Z.Ty.byte:=Z.ot_byte (by kernel_rfl) Tryz.underlying5
theorem ot2:Z.OpenT Tryz.prog 2 A.ti:=Z.ot_int (by kernel_rfl) Tryz.underlying2
theorem ot9:Z.OpenT Tryz.prog 9 Z.Ty.str:=Z.ot_str (by kernel_rfl) Tryz.underlying9
theorem ot28:Z.OpenT Tryz.prog 28 T27:=Z.ot_struct (by kernel_rfl) Tryz.underlying28 ⟨rfl,ot2,rfl,ot9⟩
theorem ot22:Z.OpenT Tryz.prog 22 (Z.Ty.slice T27):=Z.ot_slice (by kernel_rfl) Tryz.underlying22 ot28
set_option maxRecDepth 100000 in
theorem laid_met (os:Os)(args:Array Value):laidMetH Tryz.prog Rows.modelLoopRow.laid (({World.holding Tryz.prog os ⟨#[],#[],[]⟩with heap:=((World.holding Tryz.prog os ⟨#[],#[],[]⟩).heap.modify 0 (A.putCells A.tabF)).modify 1 (A.putCells A.tabA)}:World).forCall (fun _ _=>0) ⟨#[],args,[]⟩).memory:=by
 rw[MakeChecks.laidMetH_plain _ _ _ (by kernel_rfl)]
 exact(LaidIn.of_run (l:=Rows.modelLoopRow.laid) [1,0] 8 (by kernel_rfl) (by kernel_rfl) (by kernel_rfl) (by kernel_rfl)).met
theorem of_laid {W:World}(h:laidMetH Tryz.prog Rows.modelLoopRow.laid W):Lib.Utf8Tabs 0 1 W:=by
 rw[MakeChecks.laidMetH_plain _ _ _ (by kernel_rfl)]at h
 have h1:=Lib.laidMet.reads h (.tail _ (.head _))
 rw[show Rows.laid_unicode_utf8_first=Lib.firstData from Pinned.utf8First_eq]at h1
 have h2:=Lib.laidMet.reads h (.head _)
 rw[show(Rows.laid_unicode_utf8_acceptRanges:DataW Unit)=Lib.acceptData by kernel_rfl]at h2
 exact utf8Tabs_of_readsT (U8Types.of196 Tryz.laysValid) ⟨by kernel_rfl,by kernel_rfl,by kernel_rfl,by kernel_rfl,by kernel_rfl,by kernel_rfl,by kernel_rfl⟩ h1 h2
set_option maxHeartbeats 1000000 in
set_option maxRecDepth 100000 in
theorem lifted (os:Os)(started:os.Started)(H:Type)(enc:TypeId×Value->H):
  ReturnsInHanded {} Tryz.checked os 3 .any (fun w args=>(Rows.modelLoopSpec.pre enc Tryz.prog Tryz.f3 [] false w args/\laidMetH Tryz.prog Rows.modelLoopRow.laid w)/\sizedMet enc Tryz.prog Tryz.f3 (OpenSpec.ofChange Rows.modelLoopSpec) false w args) (Rows.modelLoopSpec.post enc Tryz.prog Tryz.f3 false true false false):=by
 refine A.handS (C:=Tryz.checked) (X:=fun w _=>laidMetH Tryz.prog Rows.modelLoopRow.laid w) (fun _ _ _ hh h=>h.of_heap hh) own started (by kernel_rfl) Tryz.func3
  (ChangeSpec.witness_shaped (enc:=enc) (C:=Tryz.checked) (os:=os) (X:=fun w _=>laidMetH Tryz.prog Rows.modelLoopRow.laid w) false ({World.holding Tryz.prog os ⟨#[],#[],[]⟩with heap:=((World.holding Tryz.prog os ⟨#[],#[],[]⟩).heap.modify 0 (A.putCells A.tabF)).modify 1 (A.putCells A.tabA)}) #[.int .u8 0,.int .u8 0,.slice none 0 0] 16 rfl (World.shaped_of_RefB (by kernel_rfl) (by kernel_rfl)) (by kernel_rfl) (by kernel_rfl) (by kernel_rfl) (laid_met os _)) ?_
 intro W base args ds gs before hval0 hW hL hsh
 obtain⟨mx,hmx⟩: ∃m,W.cell? ⟨2,0,none⟩=some (A.i m):=cell_of_shapedOpen_int (t:=3) (zero:=#[A.i 0]) hsh (Wf (by kernel_rfl)) (by kernel_rfl) (by kernel_rfl) (by kernel_rfl) (by kernel_rfl) Tryz.underlying3
 have hval: ∀(j:Nat) t v,Tryz.f3.params[j]?=some t->args[j]?=some v->Value.okWide Tryz.prog W .any base t v:=hval0
 have hW':=hW
 obtain⟨p,q,hA0,hV,rfl,hfz,hnd⟩:=hW
 have hA:DataW.TrodAll enc Tryz.prog W 0 (fun _=>true) true Tryz.f3.params.toList args.toList ds p:=hA0
 rw[Tryz.params3]at hA hval
 obtain⟨v0,vs0,d0,ds0,p0,q0,hargs,rfl,rfl,h0,r0⟩:=trodAll_cons hA
 obtain⟨v1,vs1,d1,ds1,p1,q1,rfl,rfl,rfl,h1,r1⟩:=trodAll_cons r0
 obtain⟨v2,vs2,d2,ds2,p2,q2,rfl,rfl,rfl,h2,r2⟩:=trodAll_cons r1
 obtain⟨rfl,rfl,rfl⟩:=trodAll_nil r2
 obtain rfl:args=#[v0,v1,v2]:=by cases args;simp_all
 obtain⟨rfl,rfl⟩:=trodVars_none hV
 have k0:=h0
 have lt0: ∀x∈p0,x.block<W.heap.size:=by obtain⟨m,hm⟩:=k0;exact DataW.trod_lt m _ _ _ hm
 obtain⟨fu0,hf0⟩:=h0
 obtain⟨x0,hx0⟩:=ot5.2 _ _ _ _ _ _ _ _ _ hf0
 obtain⟨u0,rfl⟩:=okWide_int Tryz.underlying5 (hval 0 5 v0 rfl rfl)
 have he0:=hx0
 replace he0:u0=(x0.toNat:Int):=by simpa[Value.cells,Z.Ty.rep] using he0
 subst he0
 have k1:=h1
 have lt1: ∀x∈p1,x.block<W.heap.size:=by obtain⟨m,hm⟩:=k1;exact DataW.trod_lt m _ _ _ hm
 obtain⟨fu1,hf1⟩:=h1
 obtain⟨x1,hx1⟩:=ot5.2 _ _ _ _ _ _ _ _ _ hf1
 obtain⟨u1,rfl⟩:=okWide_int Tryz.underlying5 (hval 1 5 v1 rfl rfl)
 have he1:=hx1
 replace he1:u1=(x1.toNat:Int):=by simpa[Value.cells,Z.Ty.rep] using he1
 subst he1
 have k2:=h2
 have lt2: ∀x∈p2,x.block<W.heap.size:=by obtain⟨m,hm⟩:=k2;exact DataW.trod_lt m _ _ _ hm
 obtain⟨fu2,hf2⟩:=h2
 obtain⟨x2,hx2⟩:=ot22.2 _ _ _ _ _ _ _ _ _ hf2
 obtain⟨a2,n2,c2,rfl⟩:=okWide_slice Tryz.underlying22 (hval 2 22 v2 rfl rfl)
 replace hx2:(Z.Ty.slice T27).rep W (Z.nt []) [.slice a2 n2 c2] x2:=hx2
 have hn2:=(Z.rep_slice_len hx2).1
 subst hn2
 clear hA0 hval0
 have htab:=of_laid hL
 have hF:F.bJ x0 x1 x2=some true:=modelLoop_plain x0 x1 x2 trivial trivial (Z.rep_ok _ hx2)
 have hct:=o_ba a2 c2 x0 x1 x2 mx true hF
 refine(hct W (fun _=>True) (A.Hp.start ⟨A.Hall.sh hx2,A.Hall.tabs3 htab hmx⟩)).mono ?_
 rintro e W' ⟨v,H',rfl,⟨rfl,rfl⟩,hh⟩
 have bel:=hh.ch.below
 exact⟨_,rfl,_,_,_,[],_,[],hW',trodAll_mk1 (shut_bool Tryz.underlying4 _),(trodAll_cons_mk (Below.trod laidOut (by kernel_rfl) (Wf (by kernel_rfl)) k0 bel lt0) (trodAll_cons_mk (Below.trod laidOut (by kernel_rfl) (Wf (by kernel_rfl)) k1 bel lt1) (trodAll_cons_mk (Below.trod laidOut (by kernel_rfl) (Wf (by kernel_rfl)) k2 bel lt2) trodAll_mk0))),rfl,bel.frame _,fun h=>by cases h⟩
theorem joinedF:joinedFacts Tryz.prog 3 Tryz.f3 Rows.modelLoopSpec Rows.modelLoopRow=true:=by kernel_rfl
theorem over:Rows.modelLoopRow.holds Tryz.pinned (OpenSpec.ofChange Rows.modelLoopSpec):=
 OpenClaim.holds_of_wide 3 Tryz.f3 rfl rfl rfl rfl rfl rfl rfl ⟨rfl,rfl,rfl,rfl,rfl⟩ rfl rfl rfl rfl rfl (by kernel_rfl) Tryz.func3 joinedF
  (Wf (by kernel_rfl)) (by unfold Func.isWrapper;first|(rw[Qj (by decide+kernel)];kernel_rfl)|(rw[Qd (by decide+kernel)];exact⟨rfl,rfl⟩))
  (fun os started H enc _=>lifted os started H enc)
theorem proved:Rows.ModelLoopCardSaid:=
 Claim7.holds_tied_plain_at .later [] [.data,.pinned] true (true,"e68e5aa3dd94ebe97bd187235bbec7ad43c4c1dd95d4011420fb773a5659b156") true
  over (fun _ h=>by cases h) (by kernel_rfl) (fun _ h=>by cases h) modelLoop_row_tie rfl ⟨rfl,rfl⟩ (by kernel_rfl) rfl
  (fun f fn hf hfn=>by
   obtain rfl:f=3:=Ws ((show Tryz.prog.funcNamed Rows.modelLoopRow.func=some 3 by kernel_rfl).symm.trans hf) |>.symm
   obtain rfl:fn=Tryz.f3:=(Ws (Tryz.func3.symm.trans hfn)).symm
   exact⟨by kernel_rfl,fun j t ht=>by
    rw[Tryz.params3]at ht
    have hm:t∈[5,5,22]:=by simpa using Array.mem_of_getElem? ht
    have hall:([5,5,22].all fun u=> !Tryz.prog.wantsStandIn u)=true:=by kernel_rfl
    exact(show Tryz.prog.wantsStandIn t=false by simpa using Qx.1 hall t hm)⟩)
  (by kernel_rfl)
#print axioms proved
end Go.Proofs.YtlbdgahbamalcaaGreatDoor.modelLoopDone
end
