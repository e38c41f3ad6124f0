/- Functions on data, what they tell, and that the code computes them. -/
import Derived.Test.YtlbnpmfggfbdoaaGreatDoorE0
import Derived.Test.YtlbnpmfggfbdoaaGreatDoorE1
import Derived.Test.YtlbnpmfggfbdoaaGreatDoorE2
import Derived.Test.YtlbnpmfggfbdoaaGreatDoorE3
set_option linter.unusedVariables false
set_option linter.unusedSimpArgs false
set_option maxRecDepth 20000
set_option maxHeartbeats 8000000
set_option synthInstance.maxSize 1000000
set_option synthInstance.maxHeartbeats 400000
section
namespace Go.Proofs.YtlbnpmfggfbdoaaGreatDoor
open Go.RowKit
abbrev l4a:List Value:=A.zz8
abbrev l4b:List Value:=[A.i 0,A.i 0,.slice none 0 0,A.i 0,A.i 0,.string (ByteArray.mk #[]),.string (ByteArray.mk #[]),A.i 0,A.i 0]
abbrev l4c:List Nat:=[1,2,4,45,12664,12831,12832,12833]
abbrev l4d:List Nat:=[0,1,2,607,608,699,740]
abbrev l4e:List Nat:=[0,1,2,607,608,742]
abbrev l4f:List Nat:=[0,1,2,607,608,699]
abbrev l4g:List Nat:=[0,1,2,83,338]
abbrev l4h:List Nat:=[0,3216,3731,3732,3733,3734,3735]
abbrev l4i:List Nat:=[0,1,2,83,338,340]
abbrev l4j:List Nat:=[0,1,2,607,608]
abbrev l4k:List Nat:=[0,1,95,190]
abbrev l4l:List Nat:=[0,3216,3904,3905]
abbrev l4m:List Nat:=[2,3,12,13,14]
abbrev l4n:List Nat:=[0,1,95]
abbrev l4o:List Nat:=[0,1,95,189]
abbrev l4p:List Nat:=[0,3216,3904]
abbrev l4q:List Nat:=[2,3,12,13]
abbrev l4r:List Nat:=[0,1,2,3]
abbrev l4s:List Nat:=[0,1]
variable(A0_ A1_ A2_ A4_ A5_ A7_ A10_ A12_ A13_:Option Addr)(b0_ g0_ b1_ c1_ c2_ g2_ c3_ b4_ b5_ c5_ b6_ c6_ c8_ g8_ g10_ c11_ c13_ c14_:Nat)
def F.dk (e:(List D44)→Int→Option (List D44))(a:Int)(f:List D44):Option (List D44):=A.gd (Z.R64 (a+1)) (e f (a+1))
def F.bz (a:(List D44))(k:D44):Nat→(List D44)→Int→Option (List D44)
 |0,_,_=>none
 |f+1,e,h=>if h<(a.length:Int)then((A.ix a h).bind fun p=>((F.bG p k).bind fun o=>(if o.2=0 then(A.gd ((List.length (α:=D44) e+List.length (α:=D44) [o.1])*64≤140737488355328) (F.dk (F.bz a k f) h (e++[o.1])))else(F.dk (F.bz a k f) h e))))else(some e)
def F.dU (a:(List D44))(e:D44):Option (List D44):=F.bz a e A.FU [] 0
theorem o_ba(t:(List D44))(h:D44)(V:A.h6 h.1)(W:A.h6 h.2.1)(X:A.h6 h.2.2.1)(Y:A.h6 h.2.2.2.1)(a2:A.h6 h.2.2.2.2.1)(a3:A.h6 h.2.2.2.2.2.1)(a4:A.h6 h.2.2.2.2.2.2.1)(a5:A.h6 h.2.2.2.2.2.2.2)(r:(List D44))(a:F.dU t h=some r):
    A.Ct Tryz.prog 41 [.slice A0_ t.length c1_,(A.raf h)] [(0,.ln T44 A0_ c1_ t)] [] (fun v H'=>∃(A0':Option Addr) (c1':Nat),v=.slice A0' r.length c1'∧H'=[(0,.own T44 45 A0' c1' r)]):=by
 refine J1 Tryz.func41 rfl Tryz.ntmps41 rfl fun w0 F0=>?_;rw[F.dU]at a;refine Jv 1 ?_;refine Vc 1 (cs:=(A.rab h)) fun g1=>?_;refine J0 1 [] (Vb 2 ?_);refine J0 1 [(5,.slice none 0 0)] (Vb 3 ?_);refine J0 3 [(10,.slice A0_ t.length c1_),(11,A.i (t.length:Int)),(12,A.i 0)] (Jw 2 ?_);refine V9 93 T44 45 ?_;refine Vo [3,10,11] l4s (fun f I J=>∃(p:List D44),∃(s:Int),∃(w:Option Addr),∃(x:Nat),I=[(5,.slice w p.length x),(12,A.i s)]∧J=[(93,.own T44 45 w x p)]∧A.h6 s∧F.bz t h f p s=some r) ⟨[],0,none,0,rfl,rfl,J5,a⟩ ?_;rintro L _ _ ⟨p,s,w,x,rfl,rfl,a7,a⟩;rcases L with _|L
 ·exact Vm a
 rw[F.bz]at a;refine Jv 1 ?_;refine J0 1 [(13,.bool (decide (s<(t.length:Int))))] (Jw 2 ?_);refine Vr a ?_ ?_<;>intro hb a
 ·refine V3 2 ?_;refine J4 [3,10,11,12] l4s (fun I J=>∃(y:List D44),∃(z:Option Addr),∃(B:Nat),I=[(5,.slice z y.length B)]∧J=[(93,.own T44 45 z B y)]∧F.dk (F.bz t h L) s y=some r) ?_ ?_
  ·refine Jv 2 ?_;have⟨E,a6,a⟩:=Vx a;refine Ua 0 182 a6 fun u=>?_;intro a8 a9;refine Jz [] [182] [.e 0 0] [(15,(A.raf E))] ?_;refine J6 183 (cs:=l4a) Tryz.zeroValue45 fun aa=>?_;refine Vu 183 [] (A.rab E) ?_;refine Vb 2 ?_;refine Jz [183,1] [] [.b 0 0,.b 1 0] [(17,(A.raf E)),(18,(A.raf h))] ?_;refine Vw 184 [] a (o_bm E h u.1 u.2.1 u.2.2.1 u.2.2.2.1 u.2.2.2.2.1 u.2.2.2.2.2.1 u.2.2.2.2.2.2.1 u.2.2.2.2.2.2.2 V W X Y a2 a3 a4 a5) .nil ?_;rintro o - a _ _ ⟨rfl,rfl,hr20,hr21,hr22,hr23,hr24,hr25,hr26,hr27,hr28⟩;refine Ve ?_;refine J0 3 [(20,(A.raf o.1)),(21,A.i o.2)] ?_;refine J6 224 (cs:=l4a) Tryz.zeroValue45 fun ab=>?_;refine Vu 224 [] (A.rab o.1) ?_;refine J0 1 [(9,A.i o.2)] (Vb 2 ?_);refine J0 2 [(23,.bool (decide (o.2=0)))] (Jw 1 ?_);refine Vr a ?_ ?_<;>intro hb a
   ·refine Jv 0 ?_;refine Jz [224] [] [.n,.b 0 0] [(24,.slice w p.length x),(25,(A.raf o.1))] ?_;refine Vp 225 (ty:=T44) (cs:=(A.rab o.1)) [o.1] ⟨⟨⟨rfl,hr20⟩,⟨rfl,hr21⟩,⟨rfl,hr22⟩,⟨rfl,hr23⟩,⟨⟨rfl,hr24⟩,⟨rfl,hr25⟩,⟨rfl,hr26⟩,⟨rfl,hr27⟩⟩⟩,rfl⟩ (fun ac=>?_) Tryz.zeroValue45 Tryz.sizeOf45
    have⟨hl33,a⟩:=Vq a;refine V1 (k:=93) [] (Uk (k:=225) rfl) Qir hl33 fun N O=>?_;refine J0 1 [(5,.slice N ((p++[o.1]).length) O)] (Ug 1 ?_);exact Vi ⟨(p++[o.1]),N,O,rfl,rfl,a⟩
   refine Vy 2 ?_;exact Vi ⟨p,w,x,rfl,rfl,a⟩
  rintro _ _ ⟨y,z,B,rfl,rfl,a⟩;rw[F.dk]at a;refine Jv 0 ?_;have⟨U,a⟩:=Vq a;refine Ub 2 [Z.R64 (s+1)] [(12,A.i (s+1))] U (Jy ?_);exact Vi ⟨_,Qh _,⟨y,(s+1),z,B,rfl,rfl,(J2 U),a⟩⟩
 refine Jv 3 ?_;refine J0 2 [(4,.slice w p.length x)] (Jw 1 ?_);obtain rfl:=J7 a;exact Va [(0,93)] ⟨w,x,rfl,rfl⟩
def F.ds (a:D39)(e:D39):Option Int:=(F.aM a.1 e.1).bind fun f=>((F.aM a.2 e.2).bind fun h=>((F.cM [f,h]).bind fun k=>(some k)))
theorem o_ax (a:D39)(e:D39)(p:A.h6 a.1)(s:A.h6 a.2)(t:A.h6 e.1)(u:A.h6 e.2)(r:Int)(f:F.ds a e=some r):
    A.Ct Tryz.prog 45 [(A.rae a),(A.rae e)] [] [] (fun v H'=>v=A.i r∧H'=[]∧A.h6 r):=by
 refine J1 Tryz.func45 rfl Tryz.ntmps45 rfl fun y z=>?_;rw[F.ds]at f;refine Jv 1 ?_;refine Vc 0 (cs:=(A.raa a)) fun B=>?_;refine Vc 1 (cs:=(A.raa e)) fun E=>?_;refine J0 1 [] (Jw 2 ?_);refine Vl mixed 13 13 (A.mb 13 0) ?_;refine Vh J3 [] l4s [0,1] [] (A.mb 13 495) 5 [(0,.n),(2,.n),(5,.n),(7,.n),(1,.b 0 0),(3,.b 1 0),(6,.b 0 1),(8,.b 1 1)] [(6,A.i a.1),(8,A.i e.1),(11,A.i a.2),(13,A.i e.2)] ?_;refine J8 4 ?_;refine Vw 2 [] f (o_d a.1 e.1 p t) .nil ?_;rintro h - f _ _ ⟨rfl,rfl,hr5⟩;refine Ve ?_;refine Vg (A.mb 13 511) l4s ?_;refine J8 9 ?_;refine Vw 42 [] f (o_d a.2 e.2 s u) .nil ?_;rintro k - f _ _ ⟨rfl,rfl,hr8⟩;refine Ve ?_;refine Vg (A.mb 13 1023) l4s ?_;refine J8 10 ?_;refine Vp 82 (ty:=A.ti) (cs:=[A.i h,A.i k]) [h,k] ⟨⟨rfl,hr5⟩,⟨⟨rfl,hr8⟩,rfl⟩⟩ (fun w=>?_) Tryz.zeroValue3 Tryz.sizeOf3
 refine Vg (A.mb 13 2047) l4s ?_;refine J8 11 ?_;refine Vw 83 [] f (o_v (some ⟨w,0,none⟩) 2 [h,k]) (.o 82 .nil) ?_;rintro x - f _ _ ⟨rfl,rfl,hr12⟩;refine Ve ?_;refine Vg (A.mb 13 4095) l4s ?_;refine Vh J3 l4s [0,1,82] [] [] (A.mb 13 8191) 0 [(12,.n)] [(4,A.i x)] (J9 ?_);refine Uy 1 ?_;obtain rfl:=J7 f;exact Va [] ⟨rfl,rfl,hr12⟩
def F.aI (a:D57)(e:D57):Option Int:=(F.ds a.1 e.1).bind fun f=>((F.ds a.2.1 e.2.1).bind fun h=>((F.cM [f,h]).bind fun k=>(some k)))
theorem o_aU(a:D57)(e:D57)(p:A.h6 a.1.1)(s:A.h6 a.1.2)(t:A.h6 a.2.1.1)(u:A.h6 a.2.1.2)(w:A.h6 e.1.1)(x:A.h6 e.1.2)(y:A.h6 e.2.1.1)(z:A.h6 e.2.1.2)(r:Int)(f:F.aI a e=some r):
    A.Ct Tryz.prog 43 [.agg #[A.i a.1.1,A.i a.1.2,A.i a.2.1.1,A.i a.2.1.2,.slice A4_ a.2.2.length c5_],.agg #[A.i e.1.1,A.i e.1.2,A.i e.2.1.1,A.i e.2.1.2,.slice A10_ e.2.2.length c11_]] [(0,.sh (.slice T44) [.slice A4_ a.2.2.length c5_] a.2.2),(1,.sh (.slice T44) [.slice A10_ e.2.2.length c11_] e.2.2)] [] (fun v H'=>v=A.i r∧H'=[]∧A.h6 r):=by
 refine J1 Tryz.func43 rfl Tryz.ntmps43 rfl fun I J=>?_;rw[F.aI]at f;refine Jv 1 ?_;refine Vc 2 (cs:=[A.i a.1.1,A.i a.1.2,A.i a.2.1.1,A.i a.2.1.2,.slice A4_ a.2.2.length c5_]) fun L=>?_;refine Vc 3 (cs:=[A.i e.1.1,A.i e.1.2,A.i e.2.1.1,A.i e.2.1.2,.slice A10_ e.2.2.length c11_]) fun N=>?_;refine J0 1 [] (Jw 2 ?_);refine Vl mixed 13 13 (A.mb 13 0) ?_;refine Vh J3 [] l4r [2,3] [] (A.mb 13 495) 5 [(0,.n),(2,.n),(5,.n),(7,.n),(1,.b 0 0),(3,.b 1 0),(6,.b 0 2),(8,.b 1 2)] [(6,(A.rae a.1)),(8,(A.rae e.1)),(11,(A.rae a.2.1)),(13,(A.rae e.2.1))] ?_;refine J8 4 ?_;refine Vw 4 [] f (o_ax a.1 e.1 p s w x) .nil ?_;rintro h - f _ _ ⟨rfl,rfl,hr5⟩;refine Ve ?_;refine Vg (A.mb 13 511) l4r ?_;refine J8 9 ?_;refine Vw 44 [] f (o_ax a.2.1 e.2.1 t u y z) .nil ?_;rintro k - f _ _ ⟨rfl,rfl,hr8⟩;refine Ve ?_;refine Vg (A.mb 13 1023) l4r ?_;refine J8 10 ?_;refine Vp 84 (ty:=A.ti) (cs:=[A.i h,A.i k]) [h,k] ⟨⟨rfl,hr5⟩,⟨⟨rfl,hr8⟩,rfl⟩⟩ (fun B=>?_) Tryz.zeroValue3 Tryz.sizeOf3
 refine Vg (A.mb 13 2047) l4r ?_;refine J8 11 ?_;refine Vw 85 [] f (o_v (some ⟨B,0,none⟩) 2 [h,k]) (.o 84 .nil) ?_;rintro E - f _ _ ⟨rfl,rfl,hr12⟩;refine Ve ?_;refine Vg (A.mb 13 4095) l4r ?_;refine Vh J3 l4r [0,1,2,3,84] [] [] (A.mb 13 8191) 0 [(12,.n)] [(4,A.i E)] (J9 ?_);refine Uy 1 ?_;obtain rfl:=J7 f;exact Va [] ⟨rfl,rfl,hr12⟩
end Go.Proofs.YtlbnpmfggfbdoaaGreatDoor
end
section
namespace Go.A
open Go.RowKit Go.Z Go.Shelf Go.Proofs Go.Sort
theorem nok_nil: ∀(n k:Nat),nok [] k n=true
 |0,_=>rfl
 |n+1,k=>by rw[nok,nok_nil n (k+1)];rfl
theorem chunks {t:Ty}{w:World}{G:Nat→Prop}{cells:List Value}: ∀(xs:List t.den) (k:Nat),(∀(i:Nat) (x:t.den),xs[i]?=some x→t.rep w G ((cells.drop ((k+i)*t.size)).take t.size) x)→
  ∃zs:List (t.den×List Value),zs.map (·.1)=xs∧(∀(i:Nat) p,zs[i]?=some p→p.2=(cells.drop ((k+i)*t.size)).take t.size)∧∀p∈zs,t.rep w G p.2 p.1
 | [],_,_=>⟨[],rfl,fun i p h=>by simp at h,fun p h=>by cases h⟩
 |x::xs,k,h=>by
  obtain⟨zs,I,J,N⟩:=chunks xs (k+1) fun i y O=>by
   have:=h (i+1) y (by simpa using O)
   rw[show k+(i+1)=k+1+i by omega]at this;exact this
  refine⟨(x,(cells.drop (k*t.size)).take t.size)::zs,by rw[Q3,I],fun i p hp=>?_,fun p hp=>?_⟩
  ·cases i with
   |zero=>simp at hp;subst hp;rw[Yz]
   |succ i=>rw[J i p (by simpa using hp),show k+1+i=k+(i+1) by omega]
  ·rcases Qk.1 hp with rfl|hp
   ·have:=h 0 x rfl;rw[Yz]at this;exact this
   ·exact N p hp
theorem Ct.sortR {P:Program}{ρ:Ren}{f:Nat}(L:SlLaysF0.n6 P ρ)(hf:ρ.f 6=f){t:Ty}[DecidableEq t.den]{e:TypeId}
  (aE: ∀w,(isAgg (ρ.t 24)).run P w=.ok true w) (zE: ∀w,(Go.sizeOf (ρ.t 24)).run P w=.ok t.size w) (A:Option Addr) (c:Nat) (g:Nat) (cmp:t.den→t.den→Option Int)
  (eg: ∀args w,(callFunc g args).run P w=.ok (.enter g args) w)
  (hc: ∀x y r,t.ok x→t.ok y→cmp x y=some r→tele (lv t) fun ps=>tele (lv t) fun qs=>∃R,Ct P g [.agg (cl t x ps).toArray,.agg (cl t y qs).toArray] (hcat (kx 0 (rs t x ps++rs t y qs)) []) [] R∧∀v H',R v H'→v=.int .i64 r)
  (xs r:List t.den) (hm:xs.length<4611686018427387904) (Y:srtF cmp xs=some r):
  Ct P f [.slice A xs.length c,.func (.func g) #[] #[]] [(0,.own t e A c xs)] (obl A) (fun v H'=>v=.tuple #[]∧H'=[(0,.own t e A c r)]∧r.length=xs.length):=fun w F hh=>by
 subst hf
 obtain⟨hord,Y⟩:ordB cmp xs=true∧srtL (cl0 cmp) xs=r:=by
  unfold srtF at Y
  split at Y
  ·rename_i h;exact⟨h,Qp Y⟩
  ·cases Y
 obtain⟨O,tot⟩:=Qiv hord
 have hlen:r.length=xs.length:=by rw[←Y];exact(srtL_perm (cl0 cmp) xs).length_eq
 obtain⟨cells,hrow,h1,h2⟩:Own t e 0 w (Fh ⟨0,[],w,obl A,F⟩ [(0,.own t e A c xs)]) A c xs:=hh.hold 0 _ rfl
 by_cases hx0:xs=[]
 ·subst hx0
  obtain rfl:r=[]:=by rw[←Y];rfl
  refine(AnyF.slices_SortFunc_none L A c _ w).mono ?_
  rintro e' w' ⟨rfl,rfl⟩
  exact⟨_,_,rfl,⟨rfl,rfl,rfl⟩,hh⟩
 rcases hrow.2 with⟨hv,hn⟩|⟨b,cap,cur,hv,hb,hg,hnc,hcm,hcs,htake⟩
 ·exact absurd (Wo hn) hx0
 injection hv with hA _ hcap
 subst hA;subst hcap
 obtain⟨G,hGd⟩: ∃G:Nat→Prop,G=Fh ⟨0,[],w,obl (some ⟨b,0,none⟩),F⟩ [(0,.own t e (some ⟨b,0,none⟩) c xs)]:=⟨_,rfl⟩
 rw[←hGd]at h2
 have hGb: ∀k,G k→k∉[b]:=fun k hk hm=>by
  rw[Qj]at hm
  subst hm
  rw[hGd]at hk
  exact hk.1 0 ⟨_,rfl,by simp[Res.bl,obl]⟩
 have hglt:b<w.heap.size:=(Qo.1 hg).1
 have hk:=Qal t
 have hbound: ∀{n i j:Nat},i<n→j<t.size→i*t.size+j<n*t.size:=fun {n i j} hi N=>by
  have:=Q9 t.size (show i+1≤n from hi);rw[Xv,X8]at this;omega
 obtain⟨zs,hz1,hz2,hz3⟩:=chunks (t:=t) (w:=w) (G:=G) (cells:=cells) xs 0 fun i x hi=>by rw[Wf];exact h2 i x hi
 have hzl:zs.length=xs.length:=by rw[←hz1,Qw]
 have J: ∀p∈zs,p.1∈xs:=fun p hp=>by rw[←hz1];exact List.mem_map_of_mem hp
 have hcell: ∀i p,zs[i]?=some p→∀j,j<t.size→cur[i*t.size+j]?=p.2[j]?:=fun i p hp j N=>by
  have hi:=(Qc.1 hp).1
  rw[hz2 i p hp,Wf,Qq N,Wc,←htake,Xe,if_pos (hbound (by omega) N)]
  simp
 have hz0:zs≠[]:=fun e=>hx0 (by rw[←hz1,e];rfl)
 haveI:Inhabited {p // p∈zs}:=⟨⟨zs.head hz0,List.head_mem hz0⟩⟩
 let enc:{p // p∈zs}→List Value:=fun p=>p.1.2
 have he: ∀x,(enc x).length=t.size:=fun x=>Qgb t (hz3 x.1 x.2)
 have hone: ∀(x:{p // p∈zs}) (v:Value),v∈enc x→v.oneCell'=true:=fun x v hv=>by
  obtain⟨i,hi⟩:=Xl x.2
  have:enc x=_:=hz2 i x.1 hi
  rw[this]at hv
  exact h1 v (List.mem_of_mem_drop (Yc hv))
 let cf:{p // p∈zs}→{p // p∈zs}→Int:=fun x y=>(cmp x.1.1 y.1.1).getD 0
 have hlt: ∀x y,ltOf cf x y=cl0 cmp x.1.1 y.1.1:=fun x y=>by
  obtain⟨c0,h0⟩:=tot x.1.1 (J _ x.2) y.1.1 (J _ y.2)
  show decide ((cmp x.1.1 y.1.1).getD 0<0)=_
  unfold cl0;rw[h0];rfl
 have hO:SWO (ltOf cf):=by
  refine⟨fun x=>?_,fun x y z I h4=>?_,fun x y z I h4=>?_⟩
  ·rw[hlt]
   cases I:cl0 cmp x.1.1 x.1.1 with
   |false=>rfl
   |true=>rw[O.asym _ (J _ x.2) _ (J _ x.2) I]at I;cases I
  ·rw[hlt]at I h4 ⊢;exact O.trans _ (J _ x.2) _ (J _ y.2) _ (J _ z.2) I h4
  ·rw[hlt]at I h4 ⊢;exact O.nt (J _ x.2) (J _ y.2) (J _ z.2) I h4
 obtain⟨d,hd⟩: ∃d:Array {p // p∈zs},d=zs.attach.toArray:=⟨_,rfl⟩
 have hds:d.size=xs.length:=by rw[hd];simp[hzl]
 have hdg: ∀(i:Nat) (x:{p // p∈zs}),d[i]?=some x→zs[i]?=some x.1:=fun i x hx=>by
  rw[hd,Ws]at hx
  have:=congrArg (Option.map Subtype.val) hx
  rw[←Qt,Yt]at this;exact this
 have hH:HoldsK enc t.size w b 0 d:=fun j N=>by
  rw[size_flatK]at N
  have hi:j / t.size<d.size:=Y1 (by rwa[Jm]at N)
  have hu:=Jo j hk
  have hje:j / t.size*t.size+j%t.size=j:=Jp j t.size
  have hx:d[j / t.size]?=some d[j / t.size]:=Wg hi
  obtain⟨_,h4⟩:=Qcy enc t.size d hx hu
  rw[hje]at h4
  have h5:=hcell _ _ (hdg _ _ hx) _ hu
  rw[hje]at h5
  refine⟨?_,by simp[World.frozen?,hg]⟩
  rw[Wf,cell_of_row w b j cur e (0,0) hg,h5,h4]
  have hl:j%t.size<(enc d[j / t.size]).length:=by rw[he];exact hu
  have e9:(enc d[j / t.size])[j%t.size]?=some ((enc d[j / t.size])[j%t.size]!):=lgetb hl
  exact e9
 have hchW: ∀(m:Nat) (dk:Array {p // p∈zs}) (os:Array Obj),Ch [b] w (sortWorldK enc t.size w b 0 m dk os):=fun m dk os=>by
  refine⟨rfl,rfl,rfl,?_,fun k hk hn2=>?_⟩
  ·show w.heap.size≤((w.heap.modify b (onCells (putCells id 0 (flatK enc t.size dk))))++os).size
   simp
  ·show((w.heap.modify b (onCells (putCells id 0 (flatK enc t.size dk))))++os)[k]?=_
   rw[Xu (by simpa using hk),Y9,if_neg (fun e=>hn2 (Qj.2 e.symm))]
 have hcl:CmpLays P g #[] enc t.size cf b 0 d.size w:=fun m os dk _ x y=>by
  obtain⟨c0,h0⟩:=tot x.1.1 (J _ x.2) y.1.1 (J _ y.2)
  have hcf:cf x y=c0:=by show(cmp x.1.1 y.1.1).getD 0=c0;rw[h0];rfl
  rw[hcf]
  obtain⟨W,hW⟩: ∃W,W=sortWorldK enc t.size w b 0 m dk os:=⟨_,rfl⟩
  have hCW:Ch [b] w W:=by rw[hW];exact hchW m dk os
  rw[←hW]
  have rp: ∀z:{p // p∈zs},t.rep W (Fh ⟨0,[],W,[],fun _=>True⟩ []) z.1.2 z.1.1:=fun z=>rep_to (hz3 z.1 z.2) hCW fun k hk _=>⟨hGb k hk,⟨fun k2 ⟨_,h,_⟩=>(by cases h),.inl trivial⟩⟩
  obtain⟨ps,hpl,hpc,hps⟩:=rep_cl (B:=Bk []) t (Qaf t (rp x))
  obtain⟨qs,hql,hqc,hqs⟩:=rep_cl (B:=Bk []) t (Qaf t (rp y))
  obtain⟨R,I,h4⟩:=Qam (Qam (hc x.1.1 y.1.1 c0 (rep_ok t (hz3 _ x.2)) (rep_ok t (hz3 _ y.2)) h0) ps hpl) qs hql
  have hp:Hp ⟨0,[],W,[],fun _=>True⟩ (hcat (kx 0 (rs t x.1.1 ps++rs t y.1.1 qs)) []) W:=Hp.adds (Hp.none W _) (nok_nil _ _) fun r Y=>by
   rcases Qn.1 Y with Y|Y
   ·exact⟨(hps r Y).2.1,(hps r Y).2.2,(hps r Y).1⟩
   ·exact⟨(hqs r Y).2.1,(hqs r Y).2.2,(hqs r Y).1⟩
  have key:=(Dr.calls (I W (fun _=>True) hp)).mono (R':=fun e w'=>e=.returned (.int .i64 c0)∧∃q os',w'=grow (W.drewN q) os') fun e w' ⟨⟨v,H',he,Y,hh⟩,hd⟩=>⟨by rw[he,h4 v H' Y],ch_grow hh.ch (hd v he)⟩
  rw[←hpc,←hqc]at key
  exact key
 have key:=AnyQ.slices_SortFunc L t.size aE zE enc he hone cf hO g #[] b 0 c d w eg hcl hH hglt (by rw[hds];exact hm)
 rw[hds]at key
 refine key.mono ?_
 rintro e' w' ⟨rfl,d',n,os,hp,hs,rfl⟩
 clear key
 obtain⟨hsz,_,hperm⟩:=hp
 have hsz2:d'.size=xs.length:=hsz.trans hds
 have hys:d'.toList.map (fun x=>x.1.1)=r:=by
  rw[←Y]
  refine srt_uniq O ?_ ?_
  ·have I:d'.toList.Perm d.toList:=by
    have e1:d'.extract 0 xs.length=d':=by rw[←hsz2];exact Jj
    have e2:d.extract 0 xs.length=d:=by rw[←hds];exact Jj
    rw[e1,e2]at hperm;exact hperm
   have h4:=I.map (fun x:{p // p∈zs}=>x.1.1)
   rw[hd]at h4
   have h5:zs.attach.toArray.toList.map (fun x:{p // p∈zs}=>x.1.1)=xs:=by
    rw[←hz1]
    show zs.attach.map (fun x:{p // p∈zs}=>x.1.1)=_
    have:=congrArg (List.map (·.1)) (Yt zs)
    rw[List.map_map]at this;exact this
   rw[h5]at h4;exact h4
  ·refine Xz.2 fun i j hi N hij=>?_
   rw[Qw,Yp]at hi N
   have I:=hs i j (Xq _) hij (by omega)
   rw[hlt,getElem!_pos d' j (by omega),getElem!_pos d' i (by omega)]at I
   simpa using I
 have hrg: ∀(i:Nat) (x:t.den),r[i]?=some x→∃y,d'[i]?=some y∧y.1.1=x:=fun i x hx=>by
  rw[←hys,Qt,Xr]at hx
  obtain⟨y,I,h4⟩:=Wt.1 hx
  exact⟨y,I,h4⟩
 have hch:=hchW n d' os
 generalize hcd:putCells id 0 (flatK enc t.size d') cur=cur'
 have hheap:(sortWorldK enc t.size w b 0 n d' os).heap[b]?=some (.cells cur' e (0,0)):=by
  show((w.heap.modify b (onCells (putCells id 0 (flatK enc t.size d'))))++os)[b]?=_
  rw[Xu (by simpa using hglt),Y9,if_pos rfl,hg]
  simp only[Wj,onCells,hcd]
 have hcs':cur'.size=cur.size:=by rw[←hcd];simp[putCells]
 have hnk:xs.length*t.size≤cur.size:=by rw[hcs];exact Q9 _ hnc
 have hget: ∀(i:Nat) (y:{p // p∈zs}),d'[i]?=some y→∀j,j<t.size→cur'[i*t.size+j]?=y.1.2[j]?:=fun i y hy j N=>by
  have hi:=(Qo.1 hy).1
  obtain⟨I,h4⟩:=Qcy enc t.size d' hy N
  have hb2:i*t.size+j<cur.size:=Q4 (hbound (by omega) N) hnk
  rw[←hcd,put_id,Wg hb2,Wj,if_pos (by rw[size_flatK];exact I),h4]
  have hl:j<(enc y).length:=by rw[he];exact N
  show some (enc y)[j]! =(enc y)[j]?
  exact(lgetb hl).symm
 have hown: ∀F':Nat→Prop,(∀k,G k→k<w.heap.size→F' k)→Own t e 0 (sortWorldK enc t.size w b 0 n d' os) F' (some ⟨b,0,none⟩) c r:=fun F' hF'=>by
  refine⟨cur'.toList.take (r.length*t.size),⟨?_,.inr ⟨b,c,cur',rfl,Xq _,hheap,by omega,hcm,by rw[hcs',hcs],rfl⟩⟩,fun u hu=>?_,fun i x hx=>?_⟩
  ·rw[Qu,Yp (xs:=cur'),hlen,hcs'];omega
  ·obtain⟨j,N,rfl⟩:=Xh hu
   rw[Qu]at N
   have hj2:j<r.length*t.size:=by omega
   have hje:j / t.size*t.size+j%t.size=j:=Jp j t.size
   have hi:j / t.size<d'.size:=by rw[hsz2,←hlen];exact Y1 (by rwa[Jm]at hj2)
   have I:=hget _ _ (Wg hi) _ (Jo j hk)
   rw[hje]at I
   rw[List.getElem_take]
   have hjc:j<cur'.size:=by have:=N;rw[Yp (xs:=cur')]at this;omega
   rw[Wg hjc]at I
   rw[Array.getElem_toList]
   exact hone d'[j / t.size] _ (Qf I.symm)
  ·obtain⟨y,hy,rfl⟩:=hrg i x hx
   have hi:=(Qc.1 hx).1
   have e1:((cur'.toList.take (r.length*t.size)).drop (i*t.size)).take t.size=y.1.2:=by
    refine Wu fun j=>?_
    by_cases N:j<t.size
    ·rw[Qq N,Wc,Xe,if_pos (hbound hi N),Xr]
     exact hget i y hy j N
    ·have:=he y
     rw[Q5 (by rw[Qu];omega),Q5 (by show(enc y).length≤j;omega)]
   rw[e1]
   exact rep_to (Qaf t (hz3 y.1 y.2)) hch fun k hk _=>⟨hGb k hk.1,hF' k hk.1 hk.2⟩
 refine⟨_,[(0,.own t e (some ⟨b,0,none⟩) c r)],rfl,⟨rfl,rfl,hlen⟩,?_⟩
 have I:=Hp.ren (Hp.upd (k:=0) (r':=.own t e (some ⟨b,0,none⟩) c r) hh hch (fun k hb2=>⟨_,rfl,hb2⟩) (fun k hb2=>.inl ⟨_,rfl,hb2⟩) (fun j N=>by cases N) fun F' B hF' _ _ _ _=>hown F' fun k hk hlt=>hF' k (by rw[hGd]at hk;exact hk) hlt) [(0,0)] rfl rfl
 exact⟨I.ch,I.hold,I.bnd,I.dis,I.ref⟩
end Go.A
end
section
namespace Go.Proofs.YtlbnpmfggfbdoaaGreatDoor
open Go.RowKit
variable(A0_ A1_ A2_ A4_ A5_ A7_ A10_ A12_ A13_:Option Addr)(b0_ g0_ b1_ c1_ c2_ g2_ c3_ b4_ b5_ c5_ b6_ c6_ c8_ g8_ g10_ c11_ c13_ c14_:Nat)
def F.ar (a:List D57):Option (List D57):=A.gd (a.length<4611686018427387904) (A.srtF (fun x y=>F.aI x y) a)
theorem o_j(a:List D57)(r:List D57)(f:F.ar a=some r):
    A.Ct Tryz.prog 42 [.slice A0_ a.length c1_,.func (.func 43) #[] #[]] [(0,.own T57 58 A0_ c1_ a)] (Z.obl A0_++[]) (fun v H'=>v=.tuple #[]∧H'=[(0,.own T57 58 A0_ c1_ r)]∧r.length=a.length):=by
 have⟨hc,f⟩:=Vq f;rw[Wk]
 exact A.Ct.sortR (t:=T57) (e:=58) Tryz.laysSortFunc42 rfl Tryz.isAgg58 Tryz.sizeOf58 A0_ c1_ 43 (fun x y=>F.aI x y) cf43 (fun x y r hx hy h=>fun k o B0 d0=>⟨_,o_aU k B0 o d0 x y hx.1.1 hx.1.2 hx.2.1.1 hx.2.1.2 hy.1.1 hy.1.2 hy.2.1.1 hy.2.1.2 r h,fun v H' h=>h.1⟩) a r hc f
def F.bH (f:(List (D88×(List D44)))→Option ((List D57)×Int))(h:(List (D88×(List D44)))→Int→Option ((List D57)×Int))(a:Int)(e:List (D88×(List D44)))(k:Bool):Option ((List D57)×Int):=if k=true then(f e)else(A.gd (Z.R64 (a+1)) (h e (a+1)))
def F.ai (a:(List (D88×(List D44)))→Option ((List D57)×Int))(s:(List (D88×(List D44)))→Int→Option ((List D57)×Int))(e:(List D53)×Int)(h:Int)(k:D41):Nat→(List (D88×(List D44)))→Int→Option ((List D57)×Int)
 |0,_,_=>none
 |f+1,o,p=>if p<(e.1.length:Int)then((A.ix e.1 p).bind fun t=>(A.lt (Z.mget ([]:(List D44)) o (k.1,t.1)) fun u=>(if(0:Int)<(u.length:Int)then((F.dU u t.2.2).bind fun x=>((F.ap o (k.1,t.2.1) x).bind fun w=>(F.bH a (F.ai a s e h k f) p w.2 w.1)))else(F.bH a (F.ai a s e h k f) p o false))))else(A.gd (Z.R64 (h+1)) (s o (h+1)))
def F.aD (h:List (D88×(List D44))):Nat→(List Nat)→(List D57)→Option ((List D57)×Int)
 |0,_,_=>none
 |f+1,k,e=>A.dem h k ((F.ar e).bind fun p=>(some (p,0))) fun o a=>(A.gd (decide (A.h6 a.1.1.1)=true∧decide (A.h6 a.1.1.2)=true∧decide (A.h6 a.1.2.1)=true∧decide (A.h6 a.1.2.2)=true) (if(0:Int)<(a.2.length:Int)then(A.gd ((List.length (α:=D57) e+List.length (α:=D57) [(a.1.1,a.1.2,a.2)])*56≤140737488355328) ((F.aD h f) (o::k) (e++[(a.1.1,a.1.2,a.2)])))else((F.aD h f) (o::k) e)))
def F.j (h:(List (D88×(List D44)))→Option ((List D57)×Int))(a:(List D41)×Int)(k:(List D53)×Int):Nat→(List (D88×(List D44)))→Int→Option ((List D57)×Int)
 |0,_,_=>none
 |f+1,o,e=>if e<(a.1.length:Int)then((A.ix a.1 e).bind fun p=>(F.ai h (F.j h a k f) k e p A.FU o 0))else(F.aD o A.FU [] [])
def F.t (a:(List D41)×Int)(e:(List D53)×Int):Nat→(List (D88×(List D44)))→Option ((List D57)×Int)
 |0,_=>none
 |f+1,h=>F.j (F.t a e f) a e A.FU h 0
def F.aE (a:(List D41)×Int)(k:(List D53)×Int):Nat→(List (D88×(List D44)))→Int→Option ((List D57)×Int)
 |0,_,_=>none
 |f+1,o,e=>if e<(a.1.length:Int)then((A.ix a.1 e).bind fun h=>((F.dn h.2).bind fun p=>((F.ap o (h.1,h.1) [p.1]).bind fun s=>(A.gd (Z.R64 (e+1)) ((F.aE a k f) s.2 (e+1))))))else(F.t a k A.FU o)
def F.aZ (f:D23):Option ((List D57)×Int):=(F.b9 f).bind fun a=>(if a.2≠0 then(some ([],a.2))else((F.ct f).bind fun e=>(if e.2≠0 then(some ([],e.2))else(F.aE a e A.FU [] 0))))
theorem o_ay(U:D23)(r:(List D57)×Int)(a:F.aZ U=some r):
    A.Ct Tryz.prog 10 [.agg #[.slice A0_ U.length c1_]] [(0,.sh (.slice T83) [.slice A0_ U.length c1_] U),(1,.el none 0 0 A.tabF),(2,.el none 1 0 A.tabA)] [] (fun v H'=>∃(A0':Option Addr) (c1':Nat),v=.tuple #[.slice A0' r.1.length c1',A.i r.2]∧H'=[(0,.own T57 58 A0' c1' r.1)]∧A.h6 r.2):=by
 refine J1 Tryz.func10 rfl Tryz.ntmps10 rfl fun w0 F0=>?_;rw[F.aZ]at a;refine Jv 1 ?_;refine Vc 3 (cs:=[.slice A0_ U.length c1_]) fun g1=>?_;refine J0 2 [] (Jw 1 ?_);refine A.AX.scope ?_;refine Jv 1 ?_;refine Jz [3] [] [.b 0 0] [(21,.agg #[.slice A0_ U.length c1_])] ?_;refine Vw 4 [] a (o_a3 A0_ c1_ U) (.s 0 (.s 1 (.s 2 .nil))) ?_;rintro p - a _ _ ⟨A4,c5,rfl,rfl,hr6⟩;refine Ve ?_;refine J0 5 [(4,.slice A4 p.1.length c5),(5,A.i p.2)] (Vb 3 ?_);refine J0 2 [(26,.bool (decide (p.2≠0)))] (Jw 1 ?_);refine Vr a ?_ ?_<;>intro hb a
 ·refine Jv 1 ?_;refine J0 3 [(2,.slice none 0 0),(3,A.i p.2)] (Jw 1 ?_);obtain rfl:=J7 a;refine V9 44 T57 58 ?_;exact V4 [(0,44)] ⟨none,0,rfl,rfl,hr6⟩
 refine Jv 3 ?_;refine Jz [3] [] [.b 0 0] [(29,.agg #[.slice A0_ U.length c1_])] ?_;refine Vw 45 [] a (o_a4 A0_ c1_ U) (.s 0 (.s 1 (.s 2 .nil))) ?_;rintro u - a _ _ ⟨A9,c10,rfl,rfl,hr11⟩;refine Ve ?_;refine J0 5 [(6,.slice A9 u.1.length c10),(5,A.i u.2)] (Vb 3 ?_);refine J0 2 [(34,.bool (decide (u.2≠0)))] (Jw 1 ?_);refine Vr a ?_ ?_<;>intro hb a
 ·refine Jv 1 ?_;refine J0 3 [(2,.slice none 0 0),(3,A.i u.2)] (Jw 1 ?_);obtain rfl:=J7 a;refine V9 85 T57 58 ?_;exact V4 [(0,85)] ⟨none,0,rfl,rfl,hr11⟩
 refine Jv 3 ?_;refine A.AL.mkm 86 D88 (fun x:D88=>(A.rah x)) (Z.Ty.slice T44) false fun w=>?_;refine J0 1 [(7,.map (some w))] (Vb 3 ?_);refine J0 3 [(37,.slice A4 p.1.length c5),(38,A.i (p.1.length:Int)),(39,A.i 0)] (Jw 2 ?_);refine Vo [4,6,7,37,38] [1,2,4,45] (fun f B E=>∃(a7:List (D88×(List D44))),∃(Y:Int),B=[(39,A.i Y)]∧E=[(86,.mp D88 (fun x:D88=>(A.rah x)) (Z.Ty.slice T44) false w a7)]∧A.h6 Y∧F.aE p u f a7 Y=some r) ⟨[],0,rfl,rfl,J5,a⟩ ?_;rintro al _ _ ⟨a7,Y,rfl,rfl,b6,a⟩;rcases al with _|al
 ·exact Vm a
 rw[F.aE]at a;refine Jv 1 ?_;refine J0 1 [(40,.bool (decide (Y<(p.1.length:Int))))] (Jw 2 ?_);refine Vr a ?_ ?_<;>intro hb a
 ·refine Jv 5 ?_;have⟨I,av,a⟩:=Vx a;refine Um 4 8787 av fun a8=>?_;intro b7 b9;refine Jz [] [8787] [.e 0 0] [(42,(A.rag I))] ?_;refine J6 8788 (cs:=[A.i 0,A.i 0,A.i 0]) Tryz.zeroValue42 fun bb=>?_;refine Vu 8788 [] (A.rac I) ?_;refine Vb 2 ?_;refine Jz [8788] [] [.n,.b 0 2] [(45,A.i I.2)] ?_;refine Vw 8789 [] a (o_am I.2 a8.2) .nil ?_;rintro a2 - a _ _ ⟨rfl,rfl,hr25,hr26,hr27,hr28,hr29,hr30,hr31,hr32,hr33⟩;refine Ve ?_;refine J0 3 [(47,(A.raf a2.1)),(48,A.i a2.2)] ?_;refine J6 8829 (cs:=l4a) Tryz.zeroValue45 fun bc=>?_;refine Vu 8829 [] (A.rab a2.1) ?_;refine J0 1 [] (Vb 1 ?_);refine Jz [8788,8829] [] [.n,.n,.b 0 0,.n,.b 0 0,.n,.b 1 0] [(49,.map (some w)),(54,.agg #[A.i I.1.1,A.i I.1.2,A.i I.1.1,A.i I.1.2]),(55,(A.raf a2.1))] ?_;refine Vp 8830 (ty:=T44) (cs:=(A.rab a2.1)) [a2.1] ⟨⟨⟨rfl,hr25⟩,⟨rfl,hr26⟩,⟨rfl,hr27⟩,⟨rfl,hr28⟩,⟨⟨rfl,hr29⟩,⟨rfl,hr30⟩,⟨rfl,hr31⟩,⟨rfl,hr32⟩⟩⟩,rfl⟩ (fun aw=>?_) Tryz.zeroValue45 Tryz.sizeOf45
  refine Vw 8831 [] a (o_al (some ⟨aw,0,none⟩) w 1 a7 (I.1,I.1) [a2.1] a8.1.1 a8.1.2 a8.1.1 a8.1.2) (.m 86 (.o 8830 .nil)) ?_;rintro ax - a _ _ ⟨rfl,rfl⟩;refine Ve ?_;refine V7 8831 86 [] ?_;refine Vb 2 ?_;have⟨am,a⟩:=Vq a;refine Ub 2 [Z.R64 (Y+1)] [(39,A.i (Y+1))] am (Jy ?_);exact Vi ⟨_,Qh _,⟨ax.2,(Y+1),rfl,rfl,(J2 am),a⟩⟩
 refine V3 7 ?_;refine Vo [4,6,7] [1,2,4,45] (fun f B E=>∃(ab:List (D88×(List D44))),B=[]∧E=[(86,.mp D88 (fun x:D88=>(A.rah x)) (Z.Ty.slice T44) false w ab)]∧F.t p u f ab=some r) ⟨a7,rfl,rfl,a⟩ ?_;rintro a1 _ _ ⟨ab,rfl,rfl,a⟩;rcases a1 with _|a1
 ·exact Vm a
 rw[F.t]at a;refine Jv 3 ?_;refine J0 3 [(59,.slice A4 p.1.length c5),(60,A.i (p.1.length:Int)),(61,A.i 0)] (Jw 2 ?_);refine Vo [4,6,7,59,60] [1,2,4,45] (fun f B E=>∃(a3:List (D88×(List D44))),∃(J:Int),B=[(61,A.i J)]∧E=[(86,.mp D88 (fun x:D88=>(A.rah x)) (Z.Ty.slice T44) false w a3)]∧A.h6 J∧F.j (F.t p u a1) p u f a3 J=some r) ⟨ab,0,rfl,rfl,J5,a⟩ ?_;rintro ac _ _ ⟨a3,J,rfl,rfl,bd,a⟩;rcases ac with _|ac
 ·exact Vm a
 rw[F.j]at a;refine Jv 1 ?_;refine J0 1 [(62,.bool (decide (J<(p.1.length:Int))))] (Jw 2 ?_);refine Vr a ?_ ?_<;>intro hb a
 ·refine Jv 5 ?_;have⟨L,ay,a⟩:=Vx a;refine Um 4 12663 ay fun an=>?_;intro be bg;refine Jz [] [12663] [.e 0 0] [(64,(A.rag L))] ?_;refine J6 12664 (cs:=[A.i 0,A.i 0,A.i 0]) Tryz.zeroValue42 fun bh=>?_;refine Vu 12664 [] (A.rac L) ?_;refine Vb 2 ?_;refine J0 3 [(65,.slice A9 u.1.length c10),(66,A.i (u.1.length:Int)),(67,A.i 0)] (Jw 2 ?_);refine Vo [4,6,7,13,59,60,61,65,66] [1,2,4,45,12664] (fun f B E=>∃(a4:List (D88×(List D44))),∃(V:Int),B=[(67,A.i V)]∧E=[(86,.mp D88 (fun x:D88=>(A.rah x)) (Z.Ty.slice T44) false w a4)]∧A.h6 V∧F.ai (F.t p u a1) (F.j (F.t p u a1) p u ac) u J L f a4 V=some r) ⟨a3,0,rfl,rfl,J5,a⟩ ?_;rintro ae _ _ ⟨a4,V,rfl,rfl,bi,a⟩;rcases ae with _|ae
  ·exact Vm a
  rw[F.ai]at a;refine Jv 1 ?_;refine J0 1 [(68,.bool (decide (V<(u.1.length:Int))))] (Jw 2 ?_);refine Vr a ?_ ?_<;>intro hb a
  ·refine Jv 5 ?_;have⟨N,az,a⟩:=Vx a;refine Um 45 12831 az fun O=>?_;intro bj bk;refine Jz [] [12831] [.e 0 0] [(70,(A.rai N))] ?_;refine J6 12832 (cs:=A.zz12) Tryz.zeroValue54 fun bl=>?_;refine Vu 12832 [] (A.rad N) ?_;refine Vb 2 ?_;refine Jz [12664,12832] [] [.n,.n,.b 0 0,.n,.b 1 0,.n] [(71,.map (some w)),(76,.agg #[A.i L.1.1,A.i L.1.2,A.i N.1.1,A.i N.1.2])] ?_;obtain⟨ad,b0,a⟩:=V5 a;refine Ux (t:=(Z.Ty.slice T44)) 86 12833 (z:=([]:(List D44))) (zs:=[.slice none 0 0]) ky89 (L.1,N.1) Tryz.zeroValue49 (.inr ⟨rfl,rfl⟩) b0 fun bm=>?_;intro af ag;refine J0 1 [(16,.slice af ad.length ag)] (Jw 1 ?_);refine J4 [4,6,7,13,59,60,61,65,66,67] [1,2,4,45,12664] (fun B E=>∃(a9:List (D88×(List D44))),∃(ah:Bool),B=[(93,.bool ah)]∧E=[(86,.mp D88 (fun x:D88=>(A.rah x)) (Z.Ty.slice T44) false w a9)]∧F.bH (F.t p u a1) (F.ai (F.t p u a1) (F.j (F.t p u a1) p u ac) u J L ae) V a9 ah=some r) ?_ ?_
   ·refine Vl mixed 16 16 (A.mb 16 0) ?_;refine Vh J3 [] l4c [] [] (A.mb 16 15) 12 [(0,.n),(1,.n),(2,.n),(3,.n)] [(81,.bool (decide ((0:Int)<(ad.length:Int))))] ?_;refine Ui (j:=81) rfl a ?_ ?_<;>intro hb a
    ·refine Vh J3 l4c l4c [12664,12832] [] (A.mb 16 8191) 3 [(4,.on .n),(5,.on .n),(7,.on .n),(10,.on .n),(11,.on .n),(6,.on (.b 0 0)),(8,.on (.b 1 2)),(12,.on (.b 1 4)),(9,.on .n)] [(82,.map (some w)),(88,.slice af ad.length ag),(90,(A.raf N.2.2)),(87,.agg #[A.i L.1.1,A.i L.1.2,A.i N.2.1.1,A.i N.2.1.2])] ?_;refine J8 13 ?_;refine Vk (dj:=81) rfl rfl ?_;refine Vw 12834 [] a (o_ba af ag ad N.2.2 O.2.2.1 O.2.2.2.1 O.2.2.2.2.1 O.2.2.2.2.2.1 O.2.2.2.2.2.2.1 O.2.2.2.2.2.2.2.1 O.2.2.2.2.2.2.2.2.1 O.2.2.2.2.2.2.2.2.2) (.l 12833 .nil) ?_;rintro b1 - a _ _ ⟨b2,b3,rfl,rfl⟩;refine Ve ?_;refine Vg (A.mb 16 16383) l4c ?_;refine J8 14 ?_;refine Vk (dj:=81) rfl rfl ?_;refine Vw 12874 [] a (o_al b2 w b3 a4 (L.1,N.2.1) b1 an.1.1 an.1.2 O.2.1.1 O.2.1.2) (.m 86 (.o 12834 .nil)) ?_;rintro aj - a _ _ ⟨rfl,rfl⟩;refine Ve ?_;refine V7 12874 86 [] ?_;refine Vg (A.mb 16 32767) l4c ?_;refine Vh J3 l4c [1,2,4,45,86,12664,12831,12832,12833,12834] [] [] (A.mb 16 65535) 0 [(15,.n)] [(93,.bool aj.1)] (J9 ?_);exact Vi ⟨aj.2,aj.1,rfl,rfl,a⟩
    refine Vh J3 l4c [1,2,4,45,86,12664,12831,12832,12833] [] [] (A.mb 16 65535) 0 [(4,.off),(5,.off),(7,.off),(10,.off),(11,.off),(6,.off),(8,.off),(12,.off),(9,.off),(13,.off),(14,.off),(15,.n)] [(93,.bool false)] (J9 ?_);exact Vi ⟨a4,false,rfl,rfl,a⟩
   rintro _ _ ⟨a9,ah,rfl,rfl,a⟩;rw[F.bH]at a;refine Ud a ?_ ?_<;>intro hb a
   ·refine Vy 1 ?_;exact Vi ⟨_,Qh _,⟨a9,rfl,rfl,a⟩⟩
   refine Jv 3 ?_;have⟨ao,a⟩:=Vq a;refine Ub 2 [Z.R64 (V+1)] [(67,A.i (V+1))] ao (Jy ?_);exact Vi ⟨_,Qh _,⟨a9,(V+1),rfl,rfl,(J2 ao),a⟩⟩
  refine Jv 3 ?_;have⟨ap,a⟩:=Vq a;refine Ub 2 [Z.R64 (J+1)] [(61,A.i (J+1))] ap (Jy ?_);exact Vi ⟨_,Qh _,⟨a4,(J+1),rfl,rfl,(J2 ap),a⟩⟩
 refine Jv 5 ?_;refine J0 1 [(17,.slice none 0 0)] (Vb 3 ?_);refine J0 1 [(96,.map (some w))] ?_;refine A.AL.rgm 86 12914 fun b4=>?_;refine Jw 2 ?_;refine V9 13007 T57 58 ?_;refine Vo [97] [1,2,86] (fun f B E=>∃(aa:List Nat),∃(y:List D57),∃(la98:Option (Value×Value)),∃(W:Option Addr),∃(X:Nat),B=[(17,.slice W y.length X)]∧E=[(12914,.mit 86 b4 w a3.length aa la98),(13007,.own T57 58 W X y)]∧F.aD a3 f aa y=some r) ⟨[],[],none,none,0,rfl,rfl,a⟩ ?_;rintro aq _ _ ⟨aa,y,la98,W,X,rfl,rfl,a⟩;rcases aq with _|aq
 ·exact Vm a
 rw[F.aD]at a;refine Jv 1 ?_;obtain⟨hend119,hev120⟩:=A.dem_some a;refine A.AL.nxm 86 12914 13134 (fun hall=>?_) (fun ak h hp108 hs109 bp=>?_)
 ·replace a:=hend119 hall
  refine J0 1 [(99,.bool false)] (Jw 2 ?_);refine Ur rfl ?_;refine Jv 3 ?_;refine J0 1 [(115,.slice W y.length X)] ?_;refine Vw 13094 [] a (o_j W X y) (.m 13007 .nil) ?_;rintro b5 - a _ _ ⟨rfl,rfl,hr105⟩;refine Ve ?_;refine V7 13094 13007 [] ?_;refine Vb 2 ?_;refine J0 3 [(2,.slice W y.length X),(3,A.i 0)] (Jw 1 ?_);obtain rfl:=J7 a;refine U3 2 (Ul (show y.length=b5.length from(Eq.symm hr105))) ?_;exact V4 [(0,13007)] ⟨W,X,rfl,rfl,J5⟩
 intro a5 a6;have a:=hev120 ak h hp108 hs109
 have⟨hkc113,a⟩:=Vq a;refine J0 1 [(99,.bool true)] (Jw 2 ?_);refine Uo rfl ?_;refine Jv 4 ?_;refine A.AL.ent 12914 ?_;refine J0 2 [(101,(A.rah h.1)),(102,.slice a5 h.2.length a6)] ?_;refine J6 13135 (cs:=[A.i 0,A.i 0,A.i 0,A.i 0]) Tryz.zeroValue89 fun bq=>?_;refine Vu 13135 [] [A.i h.1.1.1,A.i h.1.1.2,A.i h.1.2.1,A.i h.1.2.2] ?_;refine J0 1 [(19,.slice a5 h.2.length a6)] (Vb 2 ?_);refine J0 3 [(105,.bool (decide ((0:Int)<(h.2.length:Int))))] (Jw 1 ?_);refine Vr a ?_ ?_<;>intro hb a
 ·refine Jv 0 ?_;refine Jz [13135] [] [.n,.n,.b 0 0,.n,.b 0 2,.n,.n] [(106,.slice W y.length X),(112,.agg #[A.i h.1.1.1,A.i h.1.1.2,A.i h.1.2.1,A.i h.1.2.2,.slice a5 h.2.length a6])] ?_;refine Vp 13136 (ty:=T57) (cs:=[A.i h.1.1.1,A.i h.1.1.2,A.i h.1.2.1,A.i h.1.2.2,.slice a5 h.2.length a6]) [(h.1.1,h.1.2,h.2)] ⟨⟨⟨⟨rfl,(of_decide_eq_true hkc113.1)⟩,⟨rfl,(of_decide_eq_true hkc113.2.1)⟩⟩,⟨⟨rfl,(of_decide_eq_true hkc113.2.2.1)⟩,⟨rfl,(of_decide_eq_true hkc113.2.2.2)⟩⟩,.inl ⟨13134,rfl⟩⟩,rfl⟩ (fun br=>?_) Tryz.zeroValue58 Tryz.sizeOf58
  have⟨hl118,a⟩:=Vq a;refine V1 (k:=13007) [] (Uk (k:=13136) rfl) inf58 hl118 fun ar au=>?_;refine J0 1 [(17,.slice ar ((y++[(h.1.1,h.1.2,h.2)]).length) au)] (Ug 1 ?_);exact Vi ⟨_,Qh _,⟨(ak::aa),(y++[(h.1.1,h.1.2,h.2)]),(some ((A.rah h.1),.slice a5 h.2.length a6)),ar,au,rfl,rfl,a⟩⟩
 refine Vy 2 ?_;exact Vi ⟨_,Qh _,⟨(ak::aa),y,(some ((A.rah h.1),.slice a5 h.2.length a6)),W,X,rfl,rfl,a⟩⟩
def F.c0 (a:Bool):Option Bool:=some a
def F.ed:Option Bool:=(F.aZ [(1,1,[],(0,0,ByteArray.mk #[]),ByteArray.mk #[97],0,0),(2,2,[1],(1,0,ByteArray.mk #[]),ByteArray.mk #[],0,0),(3,15,[2],(0,0,ByteArray.mk #[]),ByteArray.mk #[98],0,0)]).bind fun a=>((F.dd a.1 (1,2) (3,0)).bind fun e=>(if(bif bif decide (a.2=0)then decide ((a.1.length:Int)=10)else false then decide ((e.length:Int)=1)else false)=true then((A.ix e 0).bind fun f=>(F.c0 (decide (f=(0,0,0,0,(0,0,0,0))))))else(F.c0 false)))
theorem o_aI (r:Bool)(f:F.ed=some r):
    A.Ct Tryz.prog 8 [] [(0,.el none 0 0 A.tabF),(1,.el none 1 0 A.tabA)] [] (fun v H'=>v=.bool r∧H'=[]):=by
 refine J1 Tryz.func8 rfl Tryz.ntmps8 rfl fun U V=>?_;rw[F.ed]at f;refine Jv 1 ?_;refine J0 1 [] (Vb 2 ?_);refine J0 1 [(5,.agg #[A.i 1,A.i 1,.slice none 0 0,A.i 0,A.i 0,.string (ByteArray.mk #[]),.string (ByteArray.mk #[97]),A.i 0,A.i 0])] ?_;refine Vp 2 (ty:=A.ti) (cs:=[A.i 1]) [1] ⟨⟨rfl,(Vd .i64 (1) rfl)⟩,rfl⟩ (fun E=>?_) Tryz.zeroValue3 Tryz.sizeOf3
 refine J0 2 [(8,.agg #[A.i 2,A.i 2,.slice (some ⟨E,0,none⟩) 1 1,A.i 1,A.i 0,.string (ByteArray.mk #[]),.string (ByteArray.mk #[]),A.i 0,A.i 0])] ?_;refine Vp 3 (ty:=A.ti) (cs:=[A.i 2]) [2] ⟨⟨rfl,(Vd .i64 (2) rfl)⟩,rfl⟩ (fun I=>?_) Tryz.zeroValue3 Tryz.sizeOf3
 refine J0 1 [(10,.agg #[A.i 3,A.i 15,.slice (some ⟨I,0,none⟩) 1 1,A.i 0,A.i 0,.string (ByteArray.mk #[]),.string (ByteArray.mk #[98]),A.i 0,A.i 0])] ?_;refine A.frz 2 [] ?_;refine A.frz 3 [] ?_;refine Vp 4 (ty:=T83) (cs:=[A.i 1,A.i 1,.slice none 0 0,A.i 0,A.i 0,.string (ByteArray.mk #[]),.string (ByteArray.mk #[97]),A.i 0,A.i 0,A.i 2,A.i 2,.slice (some ⟨E,0,none⟩) 1 1,A.i 1,A.i 0,.string (ByteArray.mk #[]),.string (ByteArray.mk #[]),A.i 0,A.i 0,A.i 3,A.i 15,.slice (some ⟨I,0,none⟩) 1 1,A.i 0,A.i 0,.string (ByteArray.mk #[]),.string (ByteArray.mk #[98]),A.i 0,A.i 0]) [(1,1,[],(0,0,ByteArray.mk #[]),ByteArray.mk #[97],0,0),(2,2,[1],(1,0,ByteArray.mk #[]),ByteArray.mk #[],0,0),(3,15,[2],(0,0,ByteArray.mk #[]),ByteArray.mk #[98],0,0)] ⟨⟨⟨rfl,(Vd .i64 (1) rfl)⟩,⟨rfl,(Vd .i64 (1) rfl)⟩,.inr ⟨rfl,rfl⟩,⟨⟨rfl,J5⟩,⟨rfl,J5⟩,⟨rfl,(A.szl (ByteArray.mk #[]) rfl)⟩⟩,⟨rfl,(A.szl (ByteArray.mk #[97]) rfl)⟩,⟨rfl,J5⟩,⟨rfl,J5⟩⟩,⟨⟨⟨rfl,(Vd .i64 (2) rfl)⟩,⟨rfl,(Vd .i64 (2) rfl)⟩,.inl ⟨2,rfl⟩,⟨⟨rfl,(Vd .i64 (1) rfl)⟩,⟨rfl,J5⟩,⟨rfl,(A.szl (ByteArray.mk #[]) rfl)⟩⟩,⟨rfl,(A.szl (ByteArray.mk #[]) rfl)⟩,⟨rfl,J5⟩,⟨rfl,J5⟩⟩,⟨⟨⟨rfl,(Vd .i64 (3) rfl)⟩,⟨rfl,(Vd .i64 (15) rfl)⟩,.inl ⟨3,rfl⟩,⟨⟨rfl,J5⟩,⟨rfl,J5⟩,⟨rfl,(A.szl (ByteArray.mk #[]) rfl)⟩⟩,⟨rfl,(A.szl (ByteArray.mk #[98]) rfl)⟩,⟨rfl,J5⟩,⟨rfl,J5⟩⟩,rfl⟩⟩⟩ (fun k=>?_) Tryz.zeroValue84 Tryz.sizeOf84
 refine J0 1 [(12,.agg #[.slice (some ⟨k,0,none⟩) 3 3])] ?_;refine J6 5 (cs:=[.slice none 0 0]) Tryz.zeroValue24 fun W=>?_;refine Vu 5 [] [.slice (some ⟨k,0,none⟩) 3 3] ?_;refine Vb 2 ?_;refine Jz [5] [] [.b 0 0] [(14,.agg #[.slice (some ⟨k,0,none⟩) 3 3])] ?_;refine A.frz 4 [] ?_;refine Vw 6 [] f (o_ay (some ⟨k,0,none⟩) 3 [(1,1,[],(0,0,ByteArray.mk #[]),ByteArray.mk #[97],0,0),(2,2,[1],(1,0,ByteArray.mk #[]),ByteArray.mk #[],0,0),(3,15,[2],(0,0,ByteArray.mk #[]),ByteArray.mk #[98],0,0)]) (.s 4 (.s 0 (.s 1 .nil))) ?_;rintro h - f _ _ ⟨t,u,rfl,rfl,hr9⟩;refine Ve ?_;refine J0 5 [(2,.slice t h.1.length u),(3,A.i h.2)] (Vb 2 ?_);refine J0 3 [(18,.slice t h.1.length u),(19,.agg #[A.i 1,A.i 2]),(20,.agg #[A.i 3,A.i 0])] ?_;refine Vw 46 [] f (o_aC t u h.1 (1,2) (3,0) (Vd .i64 (1) rfl) (Vd .i64 (2) rfl) (Vd .i64 (3) rfl) J5) (.o 6 .nil) ?_;rintro z - f _ _ ⟨J,c13,rfl,rfl⟩;refine Ve ?_;refine J0 1 [(4,.slice J z.length c13)] (Jw 1 ?_);refine J4 [] l4s (fun L N=>∃(B:Bool),L=[(0,.bool B)]∧N=[]∧F.c0 B=some r) ?_ ?_
 ·refine Jv 0 ?_;refine Jz [] [] [.n,.n,.n,.sy .n,.sy .n,.sy .n,.pk,.n,.sy .n,.sy .n,.sy .n,.pk,.n] [(34,.bool (bif bif decide (h.2=0)then decide ((h.1.length:Int)=10)else false then decide ((z.length:Int)=1)else false))] ?_;refine Vs (j:=34) rfl f (fun f=>?_) (fun f=>?_)
  ·refine Jz [] [] [.on .n] [(35,.slice J z.length c13)] ?_;refine Vk (dj:=34) rfl rfl ?_;have⟨p,O,f⟩:=Vx f;refine Um 46 86 O fun X=>?_;intro Y a0;refine Jz [] [86] [.on (.e 0 0),.on .n] [(37,(A.raf p)),(38,.agg #[A.i 0,A.i 0,A.i 0,A.i 0,A.i 0,A.i 0,A.i 0,A.i 0])] ?_;refine Vk (dj:=34) rfl rfl ?_;refine Uc rfl (fun a w hf hh=>eqagg_eql45 (x:=p) (y:=(0,0,0,0,(0,0,0,0))) (hf.eval rfl) (hf.eval rfl)) ?_;refine J0 2 [(0,.bool (decide (p=(0,0,0,0,(0,0,0,0)))))] (Jy ?_);exact Vi ⟨(decide (p=(0,0,0,0,(0,0,0,0)))),rfl,rfl,f⟩
  refine Jz [] [] [.off,.off,.off,.off,.off,.n,.n] [(0,.bool false)] (Jy ?_);exact Vi ⟨false,rfl,rfl,f⟩
 rintro _ _ ⟨B,rfl,rfl,f⟩;rw[F.c0]at f;obtain rfl:=J7 f;exact Va [] ⟨rfl,rfl⟩
def F.de (e:D23):Nat→Int→Int→Option Bool
 |0,_,_=>none
 |f+1,h,k=>if k<((List.take ((min (e.length:Int) 99).toNat) e).length:Int)then((A.ix (List.take ((min (e.length:Int) 99).toNat) e) k).bind fun a=>(A.gd (Z.R64 (h+(min (a.2.2.1.length:Int) 1048576))∧Z.R64 ((h+(min (a.2.2.1.length:Int) 1048576))+(min (a.2.2.2.2.1.size:Int) 1048576))∧Z.R64 (((h+(min (a.2.2.1.length:Int) 1048576))+(min (a.2.2.2.2.1.size:Int) 1048576))+(min (a.2.2.2.1.2.2.size:Int) 1048576))) (A.gd (Z.R64 (k+1)) ((F.de e f) (min (((h+(min (a.2.2.1.length:Int) 1048576))+(min (a.2.2.2.2.1.size:Int) 1048576))+(min (a.2.2.2.1.2.2.size:Int) 1048576)) 1048576) (k+1)))))else(some (bif decide ((e.length:Int)≤18)then decide (h≤2000)else false))
def F.eX (a:D23):Option Bool:=A.gd (0≤min (a.length:Int) 99∧(min (a.length:Int) 99).toNat≤a.length) (F.de a A.FU 0 0)
theorem o_bR(k:D23)(r:Bool)(h:F.eX k=some r):
    A.Ct Tryz.prog 9 [.agg #[.slice A0_ k.length c1_]] [(0,.sh (.slice T83) [.slice A0_ k.length c1_] k)] [] (fun v H'=>v=.bool r∧H'=[]):=by
 refine J1 Tryz.func9 rfl Tryz.ntmps9 rfl fun I J=>?_;rw[F.eX]at h;refine Jv 1 ?_;refine Vc 1 (cs:=[.slice A0_ k.length c1_]) fun L=>?_;refine J0 1 [] (Vb 2 ?_);refine J0 1 [(3,A.i 0)] (Vb 3 ?_);refine Jz [1] [] [.n,.b 0 0,.n,.b 0 0,.n,.n] [(7,.slice A0_ k.length c1_),(11,A.i (min (k.length:Int) 99))] ?_;have⟨s,h⟩:=Vq h;refine A.AL.cuth 0 2 (v:=(min (k.length:Int) 99).toNat) (Ww s.1).symm s.2 fun N=>?_;refine J0 2 [(13,A.i ((List.take ((min (k.length:Int) 99).toNat) k).length:Int)),(14,A.i 0)] (Jw 2 ?_);refine Vo [1,12,13] [0,1,2] (fun f z B=>∃(o:Int),∃(p:Int),z=[(3,A.i o),(14,A.i p)]∧B=[]∧A.h6 o∧A.h6 p∧F.de k f o p=some r) ⟨0,0,rfl,rfl,J5,J5,h⟩ ?_;rintro t _ _ ⟨o,p,rfl,rfl,O,U,h⟩;rcases t with _|t
 ·exact Vm h
 rw[F.de]at h;refine Jv 1 ?_;refine J0 1 [(15,.bool (decide (p<((List.take ((min (k.length:Int) 99).toNat) k).length:Int))))] (Jw 2 ?_);refine Vr h ?_ ?_<;>intro V h
 ·refine Jv 5 ?_;have⟨a,E,h⟩:=Vx h;refine V2 2 9 E fun W=>?_;intro u w X Y;refine Jz [] [9] [.e 0 0] [(17,.agg #[A.i a.1,A.i a.2.1,.slice u a.2.2.1.length w,A.i a.2.2.2.1.1,A.i a.2.2.2.1.2.1,.string a.2.2.2.1.2.2,.string a.2.2.2.2.1,A.i a.2.2.2.2.2.1,A.i a.2.2.2.2.2.2])] ?_;refine J6 11 (cs:=l4b) Tryz.zeroValue84 fun a1=>?_;refine Vu 11 [] [A.i a.1,A.i a.2.1,.slice u a.2.2.1.length w,A.i a.2.2.2.1.1,A.i a.2.2.2.1.2.1,.string a.2.2.2.1.2.2,.string a.2.2.2.2.1,A.i a.2.2.2.2.2.1,A.i a.2.2.2.2.2.2] ?_;refine Vb 1 ?_;have⟨x,h⟩:=Vq h;refine A.q [11] [] [.n,.n,.b 0 2,.n,.n,.n,.n,.b 0 6,.n,.n,.n,.n,.n,.b 0 5,.n,.n,.n,.n,.n] [Z.R64 (o+(min (a.2.2.1.length:Int) 1048576)),Z.R64 ((o+(min (a.2.2.1.length:Int) 1048576))+(min (a.2.2.2.2.1.size:Int) 1048576)),Z.R64 (((o+(min (a.2.2.1.length:Int) 1048576))+(min (a.2.2.2.2.1.size:Int) 1048576))+(min (a.2.2.2.1.2.2.size:Int) 1048576))] [(3,A.i (min (((o+(min (a.2.2.1.length:Int) 1048576))+(min (a.2.2.2.2.1.size:Int) 1048576))+(min (a.2.2.2.1.2.2.size:Int) 1048576)) 1048576))] x (Vb 2 ?_);have⟨y,h⟩:=Vq h;refine Ub 2 [Z.R64 (p+1)] [(14,A.i (p+1))] y (Jy ?_);exact Vi ⟨_,Qh _,⟨(min (((o+(min (a.2.2.1.length:Int) 1048576))+(min (a.2.2.2.2.1.size:Int) 1048576))+(min (a.2.2.2.1.2.2.size:Int) 1048576)) 1048576),(p+1),rfl,rfl,(A.has_min (J2 x.2.2) (Vd .i64 (1048576) rfl)),(J2 y),h⟩⟩
 refine Jv 3 ?_;refine Jz [1] [] [.n,.b 0 0,.n,.n,.n,.sy .n,.sy .n,.pk,.n] [(2,.bool (bif decide ((k.length:Int)≤18)then decide (o≤2000)else false))] (Jw 1 ?_);obtain rfl:=J7 h;exact Va [] ⟨rfl,rfl⟩
def F.b6 (a:D44)(e:D44):Nat→Int→Option Int
 |0,_=>none
 |f+1,h=>if(bif decide (h<(8:Int))then decide (h<(8:Int))else false)=true then((A.ix [a.1,a.2.1,a.2.2.1,a.2.2.2.1,a.2.2.2.2.1,a.2.2.2.2.2.1,a.2.2.2.2.2.2.1,a.2.2.2.2.2.2.2] h).bind fun k=>((A.ix [e.1,e.2.1,e.2.2.1,e.2.2.2.1,e.2.2.2.2.1,e.2.2.2.2.2.1,e.2.2.2.2.2.2.1,e.2.2.2.2.2.2.2] h).bind fun o=>(if k<o then(some (-1))else((A.ix [a.1,a.2.1,a.2.2.1,a.2.2.2.1,a.2.2.2.2.1,a.2.2.2.2.2.1,a.2.2.2.2.2.2.1,a.2.2.2.2.2.2.2] h).bind fun p=>((A.ix [e.1,e.2.1,e.2.2.1,e.2.2.2.1,e.2.2.2.2.1,e.2.2.2.2.2.1,e.2.2.2.2.2.2.1,e.2.2.2.2.2.2.2] h).bind fun s=>(if s<p then(some 1)else(A.gd (Z.R64 (h+1)) ((F.b6 a e f) (h+1)))))))))else(some 0)
def F.cP (a:D44)(e:D44):Option Int:=F.b6 a e A.FU 0
theorem o_az (h:D44)(k:D44)(V:A.h6 h.1)(W:A.h6 h.2.1)(X:A.h6 h.2.2.1)(Y:A.h6 h.2.2.2.1)(a2:A.h6 h.2.2.2.2.1)(a3:A.h6 h.2.2.2.2.2.1)(a4:A.h6 h.2.2.2.2.2.2.1)(a5:A.h6 h.2.2.2.2.2.2.2)(a6:A.h6 k.1)(a7:A.h6 k.2.1)(a8:A.h6 k.2.2.1)(a9:A.h6 k.2.2.2.1)(aa:A.h6 k.2.2.2.2.1)(ab:A.h6 k.2.2.2.2.2.1)(ac:A.h6 k.2.2.2.2.2.2.1)(ad:A.h6 k.2.2.2.2.2.2.2)(r:Int)(o:F.cP h k=some r):
    A.Ct Tryz.prog 90 [(A.raf h),(A.raf k)] [] [] (fun v H'=>v=A.i r∧H'=[]∧A.h6 r):=by
 refine J1 Tryz.func90 rfl Tryz.ntmps90 rfl fun w0 F0=>?_;rw[F.cP]at o;refine Jv 1 ?_;refine Vc 0 (cs:=(A.rab h)) fun s=>?_;refine Vc 1 (cs:=(A.rab k)) fun u=>?_;refine J0 1 [] (Vb 2 ?_);refine Jz [0] [] [.n,.b 0 0,.n,.b 0 1,.n,.b 0 2,.n,.b 0 3,.n] [(9,A.i h.1),(11,A.i h.2.1),(13,A.i h.2.2.1),(15,A.i h.2.2.2.1),(16,.pointer (some ⟨s,4,none⟩))] ?_;refine Uc rfl (fun a w hf hh=>V0 Tryz.underlying43 Tryz.sizeOf2 (hf.eval rfl) (hf.eval rfl) (by decide) (by decide)) ?_;refine Jz [0] [] [.b 0 4,.n] [(18,A.i h.2.2.2.2.1),(19,.pointer (some ⟨s,4,none⟩))] ?_;refine Uc rfl (fun a w hf hh=>V0 Tryz.underlying43 Tryz.sizeOf2 (hf.eval rfl) (hf.eval rfl) (by decide) (by decide)) ?_;refine Jz [0] [] [.b 0 5,.n] [(21,A.i h.2.2.2.2.2.1),(22,.pointer (some ⟨s,4,none⟩))] ?_;refine Uc rfl (fun a w hf hh=>V0 Tryz.underlying43 Tryz.sizeOf2 (hf.eval rfl) (hf.eval rfl) (by decide) (by decide)) ?_;refine Jz [0] [] [.b 0 6,.n] [(24,A.i h.2.2.2.2.2.2.1),(25,.pointer (some ⟨s,4,none⟩))] ?_;refine Uc rfl (fun a w hf hh=>V0 Tryz.underlying43 Tryz.sizeOf2 (hf.eval rfl) (hf.eval rfl) (by decide) (by decide)) ?_;refine Jz [0] [] [.b 0 7] [(27,A.i h.2.2.2.2.2.2.2)] ?_;refine Vp 2 (ty:=A.ti) (cs:=(A.rab h)) [h.1,h.2.1,h.2.2.1,h.2.2.2.1,h.2.2.2.2.1,h.2.2.2.2.2.1,h.2.2.2.2.2.2.1,h.2.2.2.2.2.2.2] ⟨⟨rfl,V⟩,⟨⟨rfl,W⟩,⟨⟨rfl,X⟩,⟨⟨rfl,Y⟩,⟨⟨rfl,a2⟩,⟨⟨rfl,a3⟩,⟨⟨rfl,a4⟩,⟨⟨rfl,a5⟩,rfl⟩⟩⟩⟩⟩⟩⟩⟩ (fun x=>?_) Tryz.zeroValue2 Tryz.sizeOf2
 refine J0 1 [(5,.slice (some ⟨x,0,none⟩) 8 8)] (Vb 2 ?_);refine Jz [1] [] [.n,.b 0 0,.n,.b 0 1,.n,.b 0 2,.n,.b 0 3,.n] [(30,A.i k.1),(32,A.i k.2.1),(34,A.i k.2.2.1),(36,A.i k.2.2.2.1),(37,.pointer (some ⟨u,4,none⟩))] ?_;refine Uc rfl (fun a w hf hh=>V0 Tryz.underlying43 Tryz.sizeOf2 (hf.eval rfl) (hf.eval rfl) (by decide) (by decide)) ?_;refine Jz [1] [] [.b 0 4,.n] [(39,A.i k.2.2.2.2.1),(40,.pointer (some ⟨u,4,none⟩))] ?_;refine Uc rfl (fun a w hf hh=>V0 Tryz.underlying43 Tryz.sizeOf2 (hf.eval rfl) (hf.eval rfl) (by decide) (by decide)) ?_;refine Jz [1] [] [.b 0 5,.n] [(42,A.i k.2.2.2.2.2.1),(43,.pointer (some ⟨u,4,none⟩))] ?_;refine Uc rfl (fun a w hf hh=>V0 Tryz.underlying43 Tryz.sizeOf2 (hf.eval rfl) (hf.eval rfl) (by decide) (by decide)) ?_;refine Jz [1] [] [.b 0 6,.n] [(45,A.i k.2.2.2.2.2.2.1),(46,.pointer (some ⟨u,4,none⟩))] ?_;refine Uc rfl (fun a w hf hh=>V0 Tryz.underlying43 Tryz.sizeOf2 (hf.eval rfl) (hf.eval rfl) (by decide) (by decide)) ?_;refine Jz [1] [] [.b 0 7] [(48,A.i k.2.2.2.2.2.2.2)] ?_;refine Vp 3 (ty:=A.ti) (cs:=(A.rab k)) [k.1,k.2.1,k.2.2.1,k.2.2.2.1,k.2.2.2.2.1,k.2.2.2.2.2.1,k.2.2.2.2.2.2.1,k.2.2.2.2.2.2.2] ⟨⟨rfl,a6⟩,⟨⟨rfl,a7⟩,⟨⟨rfl,a8⟩,⟨⟨rfl,a9⟩,⟨⟨rfl,aa⟩,⟨⟨rfl,ab⟩,⟨⟨rfl,ac⟩,⟨⟨rfl,ad⟩,rfl⟩⟩⟩⟩⟩⟩⟩⟩ (fun y=>?_) Tryz.zeroValue2 Tryz.sizeOf2
 refine J0 1 [(6,.slice (some ⟨y,0,none⟩) 8 8)] (Vb 3 ?_);refine J0 1 [(7,A.i 0)] (Jw 2 ?_);refine Vo [5,6] [2,3] (fun f nl nh=>∃(p:Int),nl=[(7,A.i p)]∧nh=[]∧A.h6 p∧F.b6 h k f p=some r) ⟨0,rfl,rfl,J5,o⟩ ?_;rintro z _ _ ⟨p,rfl,rfl,ak,o⟩;rcases z with _|z
 ·exact Vm o
 rw[F.b6]at o;refine Jv 2 ?_;refine Jz [] [] [.n,.n,.n,.n,.n,.sy .n,.sy .n,.sy .n,.sy .n,.pk] [(59,.bool (bif decide (p<(8:Int))then decide (p<(8:Int))else false))] (Jw 1 ?_);refine Ud o ?_ ?_<;>intro B o
 ·refine V3 6 ?_;refine Vl mixed 9 9 (A.mb 9 0) ?_;refine Vh J3 [] [2,3] [] [] (A.mb 9 51) 5 [(0,.n),(1,.n),(4,.n),(5,.n)] [(62,.slice (some ⟨x,0,none⟩) 8 8),(63,A.i p),(66,.slice (some ⟨y,0,none⟩) 8 8),(67,A.i p)] ?_;have⟨E,I,o⟩:=Vx o;refine Up 2 12 I fun al=>?_;intro am ae;refine Vf J3 [2,3] [2,3,12] 2 (A.mb 9 55) rfl (fun a w hf hh=>Uu (t:=A.ti) I ae hf) ?_;refine Vh J3 [2,3,12] [2,3,12] [] [12] (A.mb 9 63) 3 [(3,.e 0 0)] [(65,A.i E)] ?_;have⟨af,J,o⟩:=Vx o;refine Up 3 13 J fun an=>?_;intro ao ag;refine Vf J3 [2,3,12] l4q 6 (A.mb 9 127) rfl (fun a w hf hh=>Uu (t:=A.ti) J ag hf) ?_;refine Vh J3 l4q l4q [] [13] (A.mb 9 511) 0 [(7,.e 0 0),(8,.n)] [(70,.bool (decide (E<af)))] (J9 ?_);refine Uy 1 ?_;refine Vr o ?_ ?_<;>intro B o
  ·refine Jv 1 ?_;refine J0 1 [(4,A.i (-1))] (Jw 1 ?_);obtain rfl:=J7 o;exact Va [] ⟨rfl,rfl,(Vd .i64 (-1) rfl)⟩
  refine V3 3 ?_;refine Vl mixed 9 9 (A.mb 9 0) ?_;refine Vh J3 [] l4q [] [] (A.mb 9 51) 5 [(0,.n),(1,.n),(4,.n),(5,.n)] [(71,.slice (some ⟨x,0,none⟩) 8 8),(72,A.i p),(75,.slice (some ⟨y,0,none⟩) 8 8),(76,A.i p)] ?_;have⟨L,N,o⟩:=Vx o;refine Up 2 14 N fun ap=>?_;intro aq ah;refine Vf J3 l4q l4m 2 (A.mb 9 55) rfl (fun a w hf hh=>Uu (t:=A.ti) N ah hf) ?_;refine Vh J3 l4m l4m [] [14] (A.mb 9 63) 3 [(3,.e 0 0)] [(74,A.i L)] ?_;have⟨ai,O,o⟩:=Vx o;refine Up 3 15 O fun ar=>?_;intro au aj;refine Vf J3 l4m [2,3,12,13,14,15] 6 (A.mb 9 127) rfl (fun a w hf hh=>Uu (t:=A.ti) O aj hf) ?_;refine Vh J3 [2,3,12,13,14,15] [2,3,12,13,14,15] [] [15] (A.mb 9 511) 0 [(7,.e 0 0),(8,.n)] [(79,.bool (decide (ai<L)))] (J9 ?_);refine Uy 1 ?_;refine Vr o ?_ ?_<;>intro B o
  ·refine Jv 1 ?_;refine J0 1 [(4,A.i 1)] (Jw 1 ?_);obtain rfl:=J7 o;exact Va [] ⟨rfl,rfl,(Vd .i64 (1) rfl)⟩
  refine Jv 3 ?_;have⟨U,o⟩:=Vq o;refine Ub 3 [Z.R64 (p+1)] [(7,A.i (p+1))] U (Jy ?_);exact Vi ⟨_,Qh _,⟨(p+1),rfl,rfl,(J2 U),o⟩⟩
 refine Jv 3 ?_;refine J0 1 [(4,A.i 0)] (Jw 1 ?_);obtain rfl:=J7 o;exact Va [] ⟨rfl,rfl,J5⟩
def F.cB (e:Int→Option Int)(a:Int)(f:Bool):Option Int:=if f=true then(some 20)else(A.gd (Z.R64 (a+1)) (e (a+1)))
def F.a2 (a:D44):Nat→Int→Option Int
 |0,_=>none
 |f+1,e=>if e<4 then((A.ix [a.2.2.2.2.1,a.2.2.2.2.2.1,a.2.2.2.2.2.2.1,a.2.2.2.2.2.2.2] e).bind fun h=>(if h<0 then(F.cB (F.a2 a f) e true)else((A.ix [a.2.2.2.2.1,a.2.2.2.2.2.1,a.2.2.2.2.2.2.1,a.2.2.2.2.2.2.2] e).bind fun k=>(if(1048576:Int)<k then(F.cB (F.a2 a f) e true)else(if a.2.2.2.1≤e then((A.ix [a.2.2.2.2.1,a.2.2.2.2.2.1,a.2.2.2.2.2.2.1,a.2.2.2.2.2.2.2] e).bind fun o=>(F.cB (F.a2 a f) e (decide (o≠0))))else(F.cB (F.a2 a f) e false))))))else(some 0)
def F.aa (a:D44):Option Int:=A.gd (((bif bif bif bif bif decide (a.1<0)then true else decide ((4:Int)<a.1)then true else decide (a.2.2.2.1<0)then true else decide ((4:Int)<a.2.2.2.1)then true else decide (a.2.1<0)then true else decide (a.1<a.2.1))=false→Z.R64 (a.2.1+a.2.2.2.1))) (if(bif bif bif bif bif bif bif bif decide (a.1<0)then true else decide ((4:Int)<a.1)then true else decide (a.2.2.2.1<0)then true else decide ((4:Int)<a.2.2.2.1)then true else decide (a.2.1<0)then true else decide (a.1<a.2.1)then true else decide ((4:Int)<a.2.1+a.2.2.2.1)then true else decide (a.2.2.1<0)then true else decide ((1048576:Int)<a.2.2.1))=true then(some 20)else(if(bif decide (a.2.1=0)then decide (a.2.2.1≠0)else false)=true then(some 20)else(F.a2 a A.FU 0)))
theorem o_n (a:D44)(N:A.h6 a.1)(O:A.h6 a.2.1)(U:A.h6 a.2.2.1)(V:A.h6 a.2.2.2.1)(W:A.h6 a.2.2.2.2.1)(X:A.h6 a.2.2.2.2.2.1)(Y:A.h6 a.2.2.2.2.2.2.1)(a1:A.h6 a.2.2.2.2.2.2.2)(r:Int)(h:F.aa a=some r):
    A.Ct Tryz.prog 54 [(A.raf a)] [] [] (fun v H'=>v=A.i r∧H'=[]∧A.h6 r):=by
 refine J1 Tryz.func54 rfl Tryz.ntmps54 rfl fun w0 F0=>?_;rw[F.aa]at h;refine Jv 1 ?_;refine Vc 0 (cs:=(A.rab a)) fun p=>?_;refine J0 1 [] (Vb 3 ?_);have⟨z,h⟩:=Vq h;refine A.q [0] [] [.n,.b 0 0,.n,.n,.sy .n,.sy (.b 0 0),.sy .n,.pk,.n,.sy .n,.sy (.b 0 3),.sy .n,.pk,.n,.sy .n,.sy (.b 0 3),.sy .n,.pk,.n,.sy .n,.sy (.b 0 1),.sy .n,.pk,.n,.sy .n,.sy (.b 0 1),.sy .n,.sy (.b 0 0),.sy .n,.pk,.n,.sy .n,.sy (.b 0 1),.sy .n,.sy (.b 0 3),.sy .n,.sy .n,.pk,.n,.sy .n,.sy (.b 0 2),.sy .n,.pk,.n,.sy .n,.sy (.b 0 2),.sy .n,.pk,.n] [(bif bif bif bif bif decide (a.1<0)then true else decide ((4:Int)<a.1)then true else decide (a.2.2.2.1<0)then true else decide ((4:Int)<a.2.2.2.1)then true else decide (a.2.1<0)then true else decide (a.1<a.2.1))=false→Z.R64 (a.2.1+a.2.2.2.1)] [(52,.bool (bif bif bif bif bif bif bif bif decide (a.1<0)then true else decide ((4:Int)<a.1)then true else decide (a.2.2.2.1<0)then true else decide ((4:Int)<a.2.2.2.1)then true else decide (a.2.1<0)then true else decide (a.1<a.2.1)then true else decide ((4:Int)<a.2.1+a.2.2.2.1)then true else decide (a.2.2.1<0)then true else decide ((1048576:Int)<a.2.2.1)))] z ?_;refine Vs (j:=52) rfl h (fun h=>?_) (fun h=>?_)
 ·refine Jz [] [] [.off,.off,.off,.off,.off,.off,.off,.off,.n] [(61,.bool true)] (Jw 1 ?_);refine Uo rfl ?_;refine Jv 1 ?_;refine J0 1 [(2,A.i 20)] (Jw 1 ?_);obtain rfl:=J7 h;exact Va [] ⟨rfl,rfl,(Vd .i64 (20) rfl)⟩
 refine Jz [0] [] [.on .n,.on (.b 0 1),.on .n,.on .n,.sy .n,.sy (.b 0 2),.sy .n,.on .pk,.n] [(61,.bool (bif decide (a.2.1=0)then decide (a.2.2.1≠0)else false))] (Jw 1 ?_);refine Ud h ?_ ?_<;>intro o h
 ·refine Jv 1 ?_;refine J0 1 [(2,A.i 20)] (Jw 1 ?_);obtain rfl:=J7 h;exact Va [] ⟨rfl,rfl,(Vd .i64 (20) rfl)⟩
 refine Jv 4 ?_;refine J0 1 [(3,A.i 0)] (Jw 2 ?_);refine Vo [1] [0] (fun f s t=>∃(k:Int),s=[(3,A.i k)]∧t=[]∧A.h6 k∧F.a2 a f k=some r) ⟨0,rfl,rfl,J5,h⟩ ?_;rintro u _ _ ⟨k,rfl,rfl,a3,h⟩;rcases u with _|u
 ·exact Vm h
 rw[F.a2]at h;refine Jv 2 ?_;refine J0 2 [(63,.bool (decide (k<4)))] (Jw 1 ?_);refine Vr h ?_ ?_<;>intro o h
 ·refine V3 4 ?_;refine J4 [1,3] [0] (fun s t=>∃(w:Bool),s=[(90,.bool w)]∧t=[]∧F.cB (F.a2 a u) k w=some r) ?_ ?_
  ·refine Jv 0 ?_;refine J0 2 [(66,A.i k),(67,.pointer (some ⟨p,4,none⟩))] ?_;have⟨B,E,h⟩:=Vx h;refine A.AL.ixb 0 4 (fun v:Int=>A.i v) [a.2.2.2.2.1,a.2.2.2.2.2.1,a.2.2.2.2.2.2.1,a.2.2.2.2.2.2.2] E ?_;refine Jz [] [4] [.e 0 0,.n,.n] [(71,.bool (decide (B<0)))] ?_;refine V6 (j:=71) rfl h ?_ ?_<;>intro o h
   ·refine Jz [] [] [.off,.off,.off,.off,.off,.n,.n,.off,.off,.off,.off,.off,.off,.off,.off,.off,.off,.off,.n] [(90,.bool true)] (Jy ?_);exact Vi ⟨true,rfl,rfl,h⟩
   refine Jz [] [] [.on .n,.on .n] [(72,A.i k),(73,.pointer (some ⟨p,4,none⟩))] ?_;refine Vk (dj:=71) rfl rfl ?_;have⟨I,J,h⟩:=Vx h;refine A.AL.ixb 0 5 (fun v:Int=>A.i v) [a.2.2.2.2.1,a.2.2.2.2.2.1,a.2.2.2.2.2.2.1,a.2.2.2.2.2.2.2] J ?_;refine Jz [] [5] [.on (.e 0 0),.on .n,.n,.n] [(78,.bool (decide ((1048576:Int)<I)))] ?_;refine V6 (j:=78) rfl h ?_ ?_<;>intro o h
   ·refine Jz [] [] [.off,.off,.off,.off,.off,.off,.off,.off,.off,.off,.off,.n] [(90,.bool true)] (Jy ?_);exact Vi ⟨true,rfl,rfl,h⟩
   refine Jz [0] [] [.on .n,.on .n,.on (.b 0 3),.on .n,.on .n] [(83,.bool (decide (a.2.2.2.1≤k)))] ?_;refine V6 (j:=83) rfl h ?_ ?_<;>intro o h
   ·refine Jz [] [] [.on .n,.on .n] [(84,A.i k),(85,.pointer (some ⟨p,4,none⟩))] ?_;refine Vk (dj:=83) rfl rfl ?_;have⟨x,L,h⟩:=Vx h;refine A.AL.ixb 0 6 (fun v:Int=>A.i v) [a.2.2.2.2.1,a.2.2.2.2.2.1,a.2.2.2.2.2.2.1,a.2.2.2.2.2.2.2] L ?_;refine Jz [] [6] [.on (.e 0 0),.on .n,.on .n,.n] [(90,.bool (decide (x≠0)))] (Jy ?_);exact Vi ⟨(decide (x≠0)),rfl,rfl,h⟩
   refine Jz [] [] [.off,.off,.off,.off,.off,.on .n,.n] [(90,.bool false)] (Jy ?_);exact Vi ⟨false,rfl,rfl,h⟩
  rintro _ _ ⟨w,rfl,rfl,h⟩;rw[F.cB]at h;refine Ud h ?_ ?_<;>intro o h
  ·refine Jv 1 ?_;refine J0 1 [(2,A.i 20)] (Jw 1 ?_);obtain rfl:=J7 h;exact Va [] ⟨rfl,rfl,(Vd .i64 (20) rfl)⟩
  refine Jv 3 ?_;have⟨y,h⟩:=Vq h;refine Ub 3 [Z.R64 (k+1)] [(3,A.i (k+1))] y (Jy ?_);exact Vi ⟨_,Qh _,⟨(k+1),rfl,rfl,(J2 y),h⟩⟩
 refine Jv 3 ?_;refine J0 1 [(2,A.i 0)] (Jw 1 ?_);obtain rfl:=J7 h;exact Va [] ⟨rfl,rfl,J5⟩
def F.dV (f:D44)(h:D44)(a:Int)(k:Int)(e:Int):Option Bool:=if(bif decide (a<f.2.1)then decide (h.2.1≤a)else false)=true then(some (decide (e=1048576)))else(some (decide (k≤e)))
def F.dW (f:D44)(a:D44)(e:Int)(k:Int)(h:Int):Option Bool:=if a.2.1≤e then(A.gd (Z.R64 (e-a.2.1)) ((A.ix [a.2.2.2.2.1,a.2.2.2.2.2.1,a.2.2.2.2.2.2.1,a.2.2.2.2.2.2.2] (e-a.2.1)).bind fun o=>(F.dV f a e h o)))else(F.dV f a e h k)
def F.dX (a:D44)(f:D44)(e:Int)(k:Int)(h:Int):Option Bool:=if a.2.1≤e then(A.gd (Z.R64 (e-a.2.1)) ((A.ix [a.2.2.2.2.1,a.2.2.2.2.2.1,a.2.2.2.2.2.2.1,a.2.2.2.2.2.2.2] (e-a.2.1)).bind fun o=>(F.dW a f e h o)))else(F.dW a f e h k)
def F.dY (f:D44)(a:D44)(e:Int)(h:Int):Option Bool:=A.gd (Z.R64 (a.2.1-1)) (if e=a.2.1-1 then(F.dX f a e h a.2.2.1)else(F.dX f a e h 0))
def F.eM (a:D44)(f:D44)(e:Int):Option Bool:=A.gd (Z.R64 (a.2.1-1)) (if e=a.2.1-1 then(F.dY a f e a.2.2.1)else(F.dY a f e 0))
theorem o_bS (f:D44)(h:D44)(k:Int)(a9:A.h6 f.1)(aa:A.h6 f.2.1)(I:A.h6 f.2.2.1)(ab:A.h6 f.2.2.2.1)(J:A.h6 f.2.2.2.2.1)(L:A.h6 f.2.2.2.2.2.1)(N:A.h6 f.2.2.2.2.2.2.1)(O:A.h6 f.2.2.2.2.2.2.2)(ac:A.h6 h.1)(ad:A.h6 h.2.1)(U:A.h6 h.2.2.1)(ae:A.h6 h.2.2.2.1)(V:A.h6 h.2.2.2.2.1)(W:A.h6 h.2.2.2.2.2.1)(X:A.h6 h.2.2.2.2.2.2.1)(Y:A.h6 h.2.2.2.2.2.2.2)(af:A.h6 k)(r:Bool)(a:F.eM f h k=some r):
    A.Ct Tryz.prog 55 [(A.raf f),(A.raf h),A.i k] [] [] (fun v H'=>v=.bool r∧H'=[]):=by
 refine J1 Tryz.func55 rfl Tryz.ntmps55 rfl fun w0 F0=>?_;rw[F.eM]at a;refine Jv 1 ?_;refine Vc 0 (cs:=(A.rab f)) fun g1=>?_;refine Vc 1 (cs:=(A.rab h)) fun g2=>?_;refine J0 1 [] (Vb 2 ?_);refine J0 2 [(7,A.i 0),(8,A.i 0)] (Jw 1 ?_);refine J4 [2,3,4,8] l4s (fun o p=>∃(s:Int),o=[(7,A.i s)]∧p=[]∧A.h6 s∧F.dY f h k s=some r) ?_ ?_
 ·refine Jv 1 ?_;have⟨a3,a⟩:=Vq a;refine A.q [0] [] [.n,.n,.b 0 1,.n,.n] [Z.R64 (f.2.1-1)] [(13,.bool (decide (k=f.2.1-1)))] a3 (Jw 1 ?_);refine Vr a ?_ ?_<;>intro x a
  ·refine Jv 0 ?_;refine Jz [0] [] [.n,.b 0 2,.n] [(7,A.i f.2.2.1)] (Jy ?_);exact Vi ⟨f.2.2.1,rfl,rfl,I,a⟩
  refine Vy 1 ?_;exact Vi ⟨0,rfl,rfl,J5,a⟩
 rintro _ _ ⟨s,rfl,rfl,a4,a⟩;rw[F.dY]at a;refine J4 [2,3,4,7] l4s (fun o p=>∃(t:Int),o=[(8,A.i t)]∧p=[]∧A.h6 t∧F.dX f h k s t=some r) ?_ ?_
 ·refine Jv 1 ?_;have⟨a5,a⟩:=Vq a;refine A.q [1] [] [.n,.n,.b 0 1,.n,.n] [Z.R64 (h.2.1-1)] [(20,.bool (decide (k=h.2.1-1)))] a5 (Jw 1 ?_);refine Vr a ?_ ?_<;>intro x a
  ·refine Jv 0 ?_;refine Jz [1] [] [.n,.b 0 2,.n] [(8,A.i h.2.2.1)] (Jy ?_);exact Vi ⟨h.2.2.1,rfl,rfl,U,a⟩
  refine Vy 1 ?_;exact Vi ⟨0,rfl,rfl,J5,a⟩
 rintro _ _ ⟨t,rfl,rfl,a6,a⟩;rw[F.dX]at a;refine J4 [2,3,4,8] l4s (fun o p=>∃(u:Int),o=[(7,A.i u)]∧p=[]∧A.h6 u∧F.dW f h k t u=some r) ?_ ?_
 ·refine Jv 1 ?_;refine Jz [0] [] [.n,.n,.b 0 1,.n] [(26,.bool (decide (f.2.1≤k)))] (Jw 1 ?_);refine Vr a ?_ ?_<;>intro x a
  ·refine Jv 0 ?_;have⟨a7,a⟩:=Vq a;refine A.q [0] [] [.n,.n,.b 0 1,.n,.n] [Z.R64 (k-f.2.1)] [(30,A.i (k-f.2.1)),(31,.pointer (some ⟨g1,4,none⟩))] a7 ?_;have⟨y,z,a⟩:=Vx a;refine A.AL.ixb 0 2 (fun v:Int=>A.i v) [f.2.2.2.2.1,f.2.2.2.2.2.1,f.2.2.2.2.2.2.1,f.2.2.2.2.2.2.2] z ?_;refine Jz [] [2] [.e 0 0,.n] [(7,A.i y)] (Jy ?_);exact Vi ⟨y,rfl,rfl,(Uj z (Qb.2 ⟨J,(Qb.2 ⟨L,(Qb.2 ⟨N,(Qb.2 ⟨O,(by simp)⟩)⟩)⟩)⟩)),a⟩
  refine Vy 1 ?_;exact Vi ⟨s,rfl,rfl,a4,a⟩
 rintro _ _ ⟨u,rfl,rfl,ag,a⟩;rw[F.dW]at a;refine J4 [2,3,4,7] l4s (fun o p=>∃(w:Int),o=[(8,A.i w)]∧p=[]∧A.h6 w∧F.dV f h k u w=some r) ?_ ?_
 ·refine Jv 1 ?_;refine Jz [1] [] [.n,.n,.b 0 1,.n] [(37,.bool (decide (h.2.1≤k)))] (Jw 1 ?_);refine Vr a ?_ ?_<;>intro x a
  ·refine Jv 0 ?_;have⟨a8,a⟩:=Vq a;refine A.q [1] [] [.n,.n,.b 0 1,.n,.n] [Z.R64 (k-h.2.1)] [(41,A.i (k-h.2.1)),(42,.pointer (some ⟨g2,4,none⟩))] a8 ?_;have⟨B,E,a⟩:=Vx a;refine A.AL.ixb 1 3 (fun v:Int=>A.i v) [h.2.2.2.2.1,h.2.2.2.2.2.1,h.2.2.2.2.2.2.1,h.2.2.2.2.2.2.2] E ?_;refine Jz [] [3] [.e 0 0,.n] [(8,A.i B)] (Jy ?_);exact Vi ⟨B,rfl,rfl,(Uj E (Qb.2 ⟨V,(Qb.2 ⟨W,(Qb.2 ⟨X,(Qb.2 ⟨Y,(by simp)⟩)⟩)⟩)⟩)),a⟩
  refine Vy 1 ?_;exact Vi ⟨t,rfl,rfl,a6,a⟩
 rintro _ _ ⟨w,rfl,rfl,ah,a⟩;rw[F.dV]at a;refine Jv 2 ?_;refine Jz [0,1] [] [.n,.n,.b 0 1,.n,.n,.sy .n,.sy .n,.sy (.b 1 1),.sy .n,.pk] [(54,.bool (bif decide (k<f.2.1)then decide (h.2.1≤k)else false))] (Jw 1 ?_);refine Ud a ?_ ?_<;>intro x a
 ·refine Jv 1 ?_;refine J0 3 [(6,.bool (decide (w=1048576)))] (Jw 1 ?_);obtain rfl:=J7 a;exact Va [] ⟨rfl,rfl⟩
 refine Jv 3 ?_;refine J0 4 [(6,.bool (decide (u≤w)))] (Jw 1 ?_);obtain rfl:=J7 a;exact Va [] ⟨rfl,rfl⟩
def F.df (a:D44)(h:D44):Nat→Int→Option Bool
 |0,_=>none
 |f+1,e=>A.gd (Z.R64 (a.2.1+a.2.2.2.1)) (if e<a.2.1+a.2.2.2.1 then((F.eM a h e).bind fun k=>(if(!k)=true then(some false)else(A.gd (Z.R64 (e+1)) ((F.df a h f) (e+1)))))else(some true))
def F.er (a:D44)(e:D44)(f:Bool):Option Bool:=if f=true then(some false)else(F.df a e A.FU 0)
def F.ee (a:D44)(e:D44):Option Bool:=(F.aa a).bind fun h=>(if h≠0 then(F.er a e true)else((F.aa e).bind fun f=>(A.gd (((bif decide (f≠0)then true else decide (a.1≠e.1))=false→Z.R64 (a.2.1+a.2.2.2.1))∧((bif decide (f≠0)then true else decide (a.1≠e.1))=false→Z.R64 (e.2.1+e.2.2.2.1))) (F.er a e (bif bif decide (f≠0)then true else decide (a.1≠e.1)then true else decide (a.2.1+a.2.2.2.1≠e.2.1+e.2.2.2.1))))))
theorem o_a1 (e:D44)(h:D44)(w:A.h6 e.1)(x:A.h6 e.2.1)(y:A.h6 e.2.2.1)(z:A.h6 e.2.2.2.1)(B:A.h6 e.2.2.2.2.1)(E:A.h6 e.2.2.2.2.2.1)(I:A.h6 e.2.2.2.2.2.2.1)(J:A.h6 e.2.2.2.2.2.2.2)(L:A.h6 h.1)(N:A.h6 h.2.1)(O:A.h6 h.2.2.1)(U:A.h6 h.2.2.2.1)(V:A.h6 h.2.2.2.2.1)(W:A.h6 h.2.2.2.2.2.1)(X:A.h6 h.2.2.2.2.2.2.1)(Y:A.h6 h.2.2.2.2.2.2.2)(r:Bool)(a:F.ee e h=some r):
    A.Ct Tryz.prog 19 [(A.raf e),(A.raf h)] [] [] (fun v H'=>v=.bool r∧H'=[]):=by
 refine J1 Tryz.func19 rfl Tryz.ntmps19 rfl fun w0 F0=>?_;rw[F.ee]at a;refine Jv 1 ?_;refine Vc 0 (cs:=(A.rab e)) fun g1=>?_;refine Vc 1 (cs:=(A.rab h)) fun g2=>?_;refine J0 1 [] (Jw 2 ?_);refine J4 [2,3] l4s (fun p s=>∃(t:Bool),p=[(33,.bool t)]∧s=[]∧F.er e h t=some r) ?_ ?_
 ·refine Jv 0 ?_;refine Jz [0] [] [.b 0 0] [(6,(A.raf e))] ?_;refine Vw 2 [] a (o_n e w x y z B E I J) .nil ?_;rintro a3 - a _ _ ⟨rfl,rfl,hr13⟩;refine Ve ?_;refine J0 2 [(9,.bool (decide (a3≠0)))] ?_;refine V6 (j:=9) rfl a ?_ ?_<;>intro u a
  ·refine Jz [] [] [.off,.off,.off,.n,.n,.off,.off,.off,.off,.off,.n,.n,.off,.off,.off,.off,.off,.off,.off,.off,.off,.off,.off,.n] [(33,.bool true)] (Jy ?_);exact Vi ⟨true,rfl,rfl,a⟩
  refine Jz [1] [] [.on (.b 0 0)] [(10,(A.raf h))] ?_;refine Vk (dj:=9) rfl rfl ?_;refine Vw 42 [] a (o_n h L N O U V W X Y) .nil ?_;rintro o - a _ _ ⟨rfl,rfl,hr16⟩;refine Ve ?_;have⟨a4,a⟩:=Vq a;refine A.q [0,1] [] [.on .n,.n,.n,.sy .n,.sy (.b 0 0),.sy .n,.sy (.b 1 0),.sy .n,.pk,.n,.sy .n,.sy (.b 0 1),.sy .n,.sy (.b 0 3),.sy .n,.sy .n,.sy (.b 1 1),.sy .n,.sy (.b 1 3),.sy .n,.sy .n,.pk] [(bif decide (o≠0)then true else decide (e.1≠h.1))=false→Z.R64 (e.2.1+e.2.2.2.1),(bif decide (o≠0)then true else decide (e.1≠h.1))=false→Z.R64 (h.2.1+h.2.2.2.1)] [(33,.bool (bif bif decide (o≠0)then true else decide (e.1≠h.1)then true else decide (e.2.1+e.2.2.2.1≠h.2.1+h.2.2.2.1)))] a4 (Jy ?_);exact Vi ⟨(bif bif decide (o≠0)then true else decide (e.1≠h.1)then true else decide (e.2.1+e.2.2.2.1≠h.2.1+h.2.2.2.1)),rfl,rfl,a⟩
 rintro _ _ ⟨t,rfl,rfl,a⟩;rw[F.er]at a;refine Ud a ?_ ?_<;>intro u a
 ·refine Jv 1 ?_;refine J0 1 [(4,.bool false)] (Jw 1 ?_);obtain rfl:=J7 a;exact Va [] ⟨rfl,rfl⟩
 refine Jv 4 ?_;refine J0 1 [(5,A.i 0)] (Jw 2 ?_);refine Vo [2,3] l4s (fun f p s=>∃(k:Int),p=[(5,A.i k)]∧s=[]∧A.h6 k∧F.df e h f k=some r) ⟨0,rfl,rfl,J5,a⟩ ?_;rintro f6 _ _ ⟨k,rfl,rfl,a5,a⟩;rcases f6 with _|f6
 ·exact Vm a
 rw[F.df]at a;refine Jv 2 ?_;have⟨a6,a⟩:=Vq a;refine A.q [0] [] [.n,.n,.b 0 1,.n,.b 0 3,.n,.n] [Z.R64 (e.2.1+e.2.2.2.1)] [(40,.bool (decide (k<e.2.1+e.2.2.2.1)))] a6 (Jw 1 ?_);refine Vr a ?_ ?_<;>intro u a
 ·refine Jv 5 ?_;refine Jz [0,1] [] [.b 0 0,.b 1 0,.n] [(43,(A.raf e)),(44,(A.raf h)),(45,A.i k)] ?_;refine Vw 162 [] a (o_bS e h k w x y z B E I J L N O U V W X Y a5) .nil ?_;rintro r8 - a _ _ ⟨rfl,rfl⟩;refine Ve ?_;refine J0 1 [(47,.bool (!r8))] (Jw 1 ?_);refine Ud a ?_ ?_<;>intro u a
  ·refine Jv 1 ?_;refine J0 1 [(4,.bool false)] (Jw 1 ?_);obtain rfl:=J7 a;exact Va [] ⟨rfl,rfl⟩
  refine Jv 3 ?_;have⟨a2,a⟩:=Vq a;refine Ub 3 [Z.R64 (k+1)] [(5,A.i (k+1))] a2 (Jy ?_);exact Vi ⟨_,Qh _,⟨(k+1),rfl,rfl,(J2 a2),a⟩⟩
 refine Jv 3 ?_;refine J0 1 [(4,.bool true)] (Jw 1 ?_);obtain rfl:=J7 a;exact Va [] ⟨rfl,rfl⟩
def F.c1 (a:Bool):Option Bool:=some a
def F.ef (a:D44)(e:D44):Option Bool:=(F.ee a e).bind fun f=>(if f=true then((F.ee e a).bind fun h=>(if(!h)=true then(F.c1 true)else((F.cP a e).bind fun k=>(F.c1 (decide (k<0))))))else(F.c1 false))
theorem o_bn (e:D44)(f:D44)(h:A.h6 e.1)(k:A.h6 e.2.1)(o:A.h6 e.2.2.1)(p:A.h6 e.2.2.2.1)(s:A.h6 e.2.2.2.2.1)(t:A.h6 e.2.2.2.2.2.1)(u:A.h6 e.2.2.2.2.2.2.1)(w:A.h6 e.2.2.2.2.2.2.2)(x:A.h6 f.1)(y:A.h6 f.2.1)(z:A.h6 f.2.2.1)(B:A.h6 f.2.2.2.1)(E:A.h6 f.2.2.2.2.1)(I:A.h6 f.2.2.2.2.2.1)(J:A.h6 f.2.2.2.2.2.2.1)(L:A.h6 f.2.2.2.2.2.2.2)(r:Bool)(a:F.ef e f=some r):
    A.Ct Tryz.prog 56 [(A.raf e),(A.raf f)] [] [] (fun v H'=>v=.bool r∧H'=[]):=by
 refine J1 Tryz.func56 rfl Tryz.ntmps56 rfl fun Y F0=>?_;rw[F.ef]at a;refine Jv 1 ?_;refine Vc 0 (cs:=(A.rab e)) fun g1=>?_;refine Vc 1 (cs:=(A.rab f)) fun g2=>?_;refine J0 1 [] (Jw 1 ?_);refine J4 [] [] (fun U V=>∃(N:Bool),U=[(4,.bool N)]∧V=[]∧F.c1 N=some r) ?_ ?_
 ·refine Jv 0 ?_;refine Jz [0,1] [] [.b 0 0,.b 1 0] [(5,(A.raf e)),(6,(A.raf f))] ?_;refine Vw 2 [] a (o_a1 e f h k o p s t u w x y z B E I J L) .nil ?_;rintro W - a _ _ ⟨rfl,rfl⟩;refine Ve ?_;refine J0 1 [(8,.bool W)] ?_;refine Vs (j:=8) rfl a (fun a=>?_) (fun a=>?_)
  ·refine Jz [1,0] [] [.on (.b 0 0),.on (.b 1 0)] [(9,(A.raf f)),(10,(A.raf e))] ?_;refine Vk (dj:=8) rfl rfl ?_;refine Vw 42 [] a (o_a1 f e x y z B E I J L h k o p s t u w) .nil ?_;rintro X - a _ _ ⟨rfl,rfl⟩;refine Ve ?_;refine Jz [] [] [.on .n,.on .n] [(13,.bool (!X))] ?_;refine Vs (j:=13) rfl a (fun a=>?_) (fun a=>?_)
   ·refine Jz [] [] [.off,.off,.off,.off,.on .n,.n,.n] [(4,.bool true)] (Jy ?_);exact Vi ⟨true,rfl,rfl,a⟩
   refine Jz [0,1] [] [.on (.b 0 0),.on (.b 1 0)] [(14,(A.raf e)),(15,(A.raf f))] ?_;refine Vk (dj:=13) rfl rfl ?_;refine Vw 82 [] a (o_az e f h k o p s t u w x y z B E I J L) .nil ?_;rintro O - a _ _ ⟨rfl,rfl,hr10⟩;refine Ve ?_;refine Jz [] [] [.on .n,.on .n,.n,.n] [(4,.bool (decide (O<0)))] (Jy ?_);exact Vi ⟨(decide (O<0)),rfl,rfl,a⟩
  refine Jz [] [] [.off,.off,.off,.off,.off,.off,.off,.off,.off,.off,.n,.n] [(4,.bool false)] (Jy ?_);exact Vi ⟨false,rfl,rfl,a⟩
 rintro _ _ ⟨N,rfl,rfl,a⟩;rw[F.c1]at a;obtain rfl:=J7 a;exact Va [] ⟨rfl,rfl⟩
def F.cI (h:(List D44)→Bool→Int→Option (List D44))(k:(List D44))(a:Int)(e:List D44)(o:Bool):Option (List D44):=(A.ix k a).bind fun f=>(A.gd ((List.length (α:=D44) e+List.length (α:=D44) [f])*64≤140737488355328) (A.gd (Z.R64 (a+1)) (h (e++[f]) o (a+1))))
def F.cJ (e:(List D44)→Bool→Int→Option (List D44))(f:(List D44))(h:D44)(a:List D44)(k:Int)(o:Bool)(p:Bool):Option (List D44):=if p=true then(A.gd ((List.length (α:=D44) a+List.length (α:=D44) [h])*64≤140737488355328) (F.cI e f k (a++[h]) true))else(F.cI e f k a o)
def F.cK (k:(List D44)→Bool→Int→Option (List D44))(a:(List D44))(e:D44)(o:List D44)(f:Int)(h:Bool):Option (List D44):=if(!h)=true then((A.ix a f).bind fun p=>((F.cP e p).bind fun s=>(F.cJ k a e o f h (decide (s<0)))))else(F.cJ k a e o f h false)
def F.cL (a:List D44):Option (List D44):=some a
def F.aS (e:(List D44))(a:D44):Nat→(List D44)→Bool→Int→Option (List D44)
 |0,_,_,_=>none
 |f+1,h,o,k=>if k<(e.length:Int)then((A.ix e k).bind fun p=>(if p=a then(F.cK (F.aS e a f) e a h k true)else(F.cK (F.aS e a f) e a h k o)))else(if(!o)=true then(A.gd ((List.length (α:=D44) h+List.length (α:=D44) [a])*64≤140737488355328) (F.cL (h++[a])))else(F.cL h))
def F.es (a:(List D44))(e:D44):Option (List D44):=F.aS a e A.FU [] false 0
theorem o_bb(p:(List D44))(o:D44)(a5:A.h6 o.1)(a6:A.h6 o.2.1)(a7:A.h6 o.2.2.1)(a8:A.h6 o.2.2.2.1)(a9:A.h6 o.2.2.2.2.1)(aa:A.h6 o.2.2.2.2.2.1)(ab:A.h6 o.2.2.2.2.2.2.1)(ac:A.h6 o.2.2.2.2.2.2.2)(r:(List D44))(h:F.es p o=some r):
    A.Ct Tryz.prog 57 [.slice A0_ p.length c1_,(A.raf o)] [(0,.ln T44 A0_ c1_ p)] [] (fun v H'=>∃(A0':Option Addr) (c1':Nat),v=.slice A0' r.length c1'∧H'=[(0,.own T44 45 A0' c1' r)]):=by
 refine J1 Tryz.func57 rfl Tryz.ntmps57 rfl fun w0 F0=>?_;rw[F.es]at h;refine Jv 1 ?_;refine Vc 1 (cs:=(A.rab o)) fun g1=>?_;refine J0 1 [] (Vb 2 ?_);refine J0 1 [(5,.slice none 0 0)] (Vb 2 ?_);refine J0 1 [(6,.bool false)] (Vb 3 ?_);refine J0 1 [(7,A.i 0)] (Jw 2 ?_);refine V9 95 T44 45 ?_;refine Vo [0,3] l4s (fun f z B=>∃(s:List D44),∃(U:Bool),∃(u:Int),∃(J:Option Addr),∃(L:Nat),z=[(5,.slice J s.length L),(6,.bool U),(7,A.i u)]∧B=[(95,.own T44 45 J L s)]∧A.h6 u∧F.aS p o f s U u=some r) ⟨[],false,0,none,0,rfl,rfl,J5,h⟩ ?_;rintro V _ _ ⟨s,U,u,J,L,rfl,rfl,au,h⟩;rcases V with _|V
 ·exact Vm h
 rw[F.aS]at h;refine Jv 2 ?_;refine J0 4 [(11,.bool (decide (u<(p.length:Int))))] (Jw 1 ?_);refine Vr h ?_ ?_<;>intro hb h
 ·refine V3 4 ?_;refine J4 [0,3,5,7] l4n (fun z B=>∃(O:Bool),z=[(6,.bool O)]∧B=[]∧F.cK (F.aS p o V) p o s u O=some r) ?_ ?_
  ·refine V3 1 ?_;refine Vl mixed 6 6 (A.mb 6 0) ?_;refine Vh J3 [] l4n [1] [] (A.mb 6 19) 3 [(0,.n),(1,.n),(4,.b 0 0)] [(14,.slice A0_ p.length c1_),(15,A.i u),(18,(A.raf o))] ?_;have⟨ae,af,h⟩:=Vx h;refine Vn 0 189 af fun av=>?_;intro aw ax ap;refine Vf J3 l4n l4o 2 (A.mb 6 23) rfl (fun a w hf hh=>Vj (t:=T44) af ap hf) ?_;refine Vh J3 l4o l4o [] [189] (A.mb 6 31) 1 [(3,.e 0 0)] [(17,(A.raf ae))] ?_;refine Vf J3 l4o l4o 5 (A.mb 6 63) rfl (fun a w hf hh=>eqagg_eql45 (x:=ae) (y:=o) (hf.eval rfl) (hf.eval rfl)) ?_;refine J9 ?_;refine Uy 1 ?_;refine Vr h ?_ ?_<;>intro hb h
   ·refine Jv 0 ?_;refine J0 1 [(6,.bool true)] (Jy ?_);exact Vi ⟨true,rfl,rfl,h⟩
   refine Vy 1 ?_;exact Vi ⟨U,rfl,rfl,h⟩
  rintro _ _ ⟨O,rfl,rfl,h⟩;rw[F.cK]at h;refine J4 [0,3,7] l4s (fun z B=>∃(N:List D44),∃(a3:Bool),∃(a4:Option Addr),∃(c11:Nat),z=[(5,.slice a4 N.length c11),(6,.bool a3)]∧B=[(95,.own T44 45 a4 c11 N)]∧F.cI (F.aS p o V) p u N a3=some r) ?_ ?_
  ·refine J4 [0,3,5,6,7] l4n (fun z B=>∃(ad:Bool),z=[(30,.bool ad)]∧B=[]∧F.cJ (F.aS p o V) p o s u O ad=some r) ?_ ?_
   ·refine Vl mixed 11 11 (A.mb 11 0) ?_;refine Vh J3 [] l4n [] [] (A.mb 11 7) 8 [(0,.n),(1,.n),(2,.n)] [(22,.bool (!O))] ?_;refine A.AH.cnd (j:=22) rfl h (fun h=>?_) (fun h=>?_)
    ·refine Vh J3 l4n l4n [1] [] (A.mb 11 63) 5 [(3,.on (.b 0 0)),(4,.on .n),(5,.on .n)] [(23,(A.raf o)),(24,.slice A0_ p.length c1_),(25,A.i u)] ?_;have⟨ag,ah,h⟩:=Vx h;refine Vn 0 190 ah fun E=>?_;intro ay az aq;refine Ue J3 l4n l4k 6 (A.mb 11 127) (dj:=22) rfl (fun a w hf hh=>Vj (t:=T44) ah aq hf) ?_;refine Vh J3 l4k l4k [] [190] (A.mb 11 255) 3 [(7,.on (.e 0 0))] [(27,(A.raf ag))] ?_;refine J8 8 ?_;refine Vk (dj:=22) rfl rfl ?_;refine Vw 191 [] h (o_az o ag a5 a6 a7 a8 a9 aa ab ac E.1 E.2.1 E.2.2.1 E.2.2.2.1 E.2.2.2.2.1 E.2.2.2.2.2.1 E.2.2.2.2.2.2.1 E.2.2.2.2.2.2.2) .nil ?_;rintro ai - h _ _ ⟨rfl,rfl,hr37⟩;refine Ve ?_;refine Vg (A.mb 11 511) l4k ?_;refine Vh J3 l4k l4k [] [] (A.mb 11 2047) 0 [(9,.on .n),(10,.n)] [(30,.bool (decide (ai<0)))] (J9 ?_);exact Vi ⟨(decide (ai<0)),rfl,rfl,h⟩
    refine Vh J3 l4n l4n [] [] (A.mb 11 2047) 0 [(3,.off),(4,.off),(5,.off),(6,.off),(7,.off),(8,.off),(9,.off),(10,.n)] [(30,.bool false)] (J9 ?_);exact Vi ⟨false,rfl,rfl,h⟩
   rintro _ _ ⟨ad,rfl,rfl,h⟩;rw[F.cJ]at h;refine Ud h ?_ ?_<;>intro hb h
   ·refine Jv 1 ?_;refine Jz [1] [] [.n,.b 0 0] [(31,.slice J s.length L),(32,(A.raf o))] ?_;refine Vp 231 (ty:=T44) (cs:=(A.rab o)) [o] ⟨⟨⟨rfl,a5⟩,⟨rfl,a6⟩,⟨rfl,a7⟩,⟨rfl,a8⟩,⟨⟨rfl,a9⟩,⟨rfl,aa⟩,⟨rfl,ab⟩,⟨rfl,ac⟩⟩⟩,rfl⟩ (fun b0=>?_) Tryz.zeroValue45 Tryz.sizeOf45
    have⟨hl28,h⟩:=Vq h;refine V1 (k:=95) [] (Uk (k:=231) rfl) Qir hl28 fun aj ak=>?_;refine J0 1 [(5,.slice aj ((s++[o]).length) ak)] (Vb 1 ?_);refine J0 1 [(6,.bool true)] (Jy ?_);exact Vi ⟨(s++[o]),true,aj,ak,rfl,rfl,h⟩
   refine Vy 1 ?_;exact Vi ⟨s,O,J,L,rfl,rfl,h⟩
  rintro _ _ ⟨N,a3,a4,c11,rfl,rfl,h⟩;rw[F.cI]at h;refine Jv 0 ?_;refine J0 3 [(35,.slice a4 N.length c11),(36,.slice A0_ p.length c1_),(37,A.i u)] ?_;have⟨W,ar,h⟩:=Vx h;refine Ua 0 232 ar fun I=>?_;intro b1 b2;refine Jz [] [232] [.e 0 0] [(39,(A.raf W))] ?_;refine Vp 233 (ty:=T44) (cs:=(A.rab W)) [W] ⟨⟨⟨rfl,I.1⟩,⟨rfl,I.2.1⟩,⟨rfl,I.2.2.1⟩,⟨rfl,I.2.2.2.1⟩,⟨⟨rfl,I.2.2.2.2.1⟩,⟨rfl,I.2.2.2.2.2.1⟩,⟨rfl,I.2.2.2.2.2.2.1⟩,⟨rfl,I.2.2.2.2.2.2.2⟩⟩⟩,rfl⟩ (fun b3=>?_) Tryz.zeroValue45 Tryz.sizeOf45
  have⟨hl22,h⟩:=Vq h;refine V1 (k:=95) [] (Uk (k:=233) rfl) Qir hl22 fun al c21=>?_;refine J0 1 [(5,.slice al ((N++[W]).length) c21)] (Vb 2 ?_);have⟨am,h⟩:=Vq h;refine Ub 3 [Z.R64 (u+1)] [(7,A.i (u+1))] am (Jy ?_);exact Vi ⟨_,Qh _,⟨(N++[W]),a3,(u+1),al,c21,rfl,rfl,(J2 am),h⟩⟩
 refine V3 2 ?_;refine J4 [] [] (fun z B=>∃(X:List D44),∃(Y:Option Addr),∃(a2:Nat),z=[(5,.slice Y X.length a2)]∧B=[(95,.own T44 45 Y a2 X)]∧F.cL X=some r) ?_ ?_
 ·refine Jv 1 ?_;refine J0 2 [(43,.bool (!U))] (Jw 1 ?_);refine Ud h ?_ ?_<;>intro hb h
  ·refine Jv 0 ?_;refine Jz [1] [] [.n,.b 0 0] [(44,.slice J s.length L),(45,(A.raf o))] ?_;refine Vp 234 (ty:=T44) (cs:=(A.rab o)) [o] ⟨⟨⟨rfl,a5⟩,⟨rfl,a6⟩,⟨rfl,a7⟩,⟨rfl,a8⟩,⟨⟨rfl,a9⟩,⟨rfl,aa⟩,⟨rfl,ab⟩,⟨rfl,ac⟩⟩⟩,rfl⟩ (fun b4=>?_) Tryz.zeroValue45 Tryz.sizeOf45
   have⟨hl50,h⟩:=Vq h;refine V1 (k:=95) [] (Uk (k:=234) rfl) Qir hl50 fun an ao=>?_;refine J0 1 [(5,.slice an ((s++[o]).length) ao)] (Jy ?_);exact Vi ⟨(s++[o]),an,ao,rfl,rfl,h⟩
  refine Vy 1 ?_;exact Vi ⟨s,J,L,rfl,rfl,h⟩
 rintro _ _ ⟨X,Y,a2,rfl,rfl,h⟩;rw[F.cL]at h;refine Jv 1 ?_;refine J0 2 [(4,.slice Y X.length a2)] (Jw 1 ?_);obtain rfl:=J7 h;exact Va [(0,95)] ⟨Y,a2,rfl,rfl⟩
end Go.Proofs.YtlbnpmfggfbdoaaGreatDoor
end
section
namespace Go.A
open Go.RowKit Go.Z
def sub (a k:Nat):Bool:=Nat.beq (a&&& k) a
theorem Qgl {a k:Nat}:sub a k=true↔∀i,a.testBit i=true→k.testBit i=true:=by
 unfold sub
 constructor
 ·intro h i I
  have h:=Wr h
  rw[←h,Nat.testBit_and,Qm]at I
  exact I.2
 ·intro h
  have:a&&& k=a:=Nat.eq_of_testBit_eq fun i=>by
   rw[Nat.testBit_and]
   cases J:a.testBit i with
   |false=>rfl
   |true=>rw[h i J];rfl
  rw[this];exact Jn a
theorem Qhr: ∀(n k i:Nat),i<n→(mb n k)[i]?=some (k.testBit i)
 |0,_,_,h=>absurd h (Nat.not_lt_zero _)
 |n+1,k,0,_=>by
  rw[mb,Xd,Nat.testBit_zero]
  congr 1
  rcases Nat.mod_two_eq_zero_or_one k with h|h<;>rw[h]<;>rfl
 |n+1,k,i+1,h=>by
  rw[mb,Wq,Qhr n (k / 2) i (by omega),Nat.testBit_succ]
theorem Qgu: ∀n k,(mb n k).length=n
 |0,_=>rfl
 |n+1,k=>by rw[mb,Qi,Qgu n]
theorem Qeg {n k i:Nat}{b:Bool}(h:i<n):(mb n k).toArray.getD i b=k.testBit i:=by
 rw[Wl,Ws,Qhr n k i h];rfl
theorem mb_getD_ge {n k i:Nat}{b:Bool}(h:n≤i):(mb n k).toArray.getD i b=b:=by
 rw[Wl,Ws,Q5 (by rw[Qgu];exact h)];rfl
def Qhw (n:Nat):List Edge→Nat
 | []=>0
 |e::r=>bif Region.binds .any e then(1<<<(min e.on n))|||Qhw n r else Qhw n r
theorem Qhe {n k:Nat}(hk:k.testBit n=false): ∀l:List Edge,sub (Qhw n l) k=true↔∀e∈l,Region.binds .any e=true→e.on<n∧k.testBit e.on=true
 | []=>by rw[Qgl];simp[Qhw]
 |e::r=>by
  have W:=Qhe hk r
  rw[Qgl]at W ⊢
  unfold Qhw
  cases hb:Region.binds .any e with
  |false=>
   rw[cond_false,W]
   constructor
   ·intro h x I J
    rcases Qk.1 I with rfl|I
    ·rw[hb]at J;cases J
    ·exact h x I J
   ·intro h x I;exact h x (Qe _ I)
  |true=>
   rw[cond_true]
   constructor
   ·intro h
    have Y:=W.1 fun i N=>h i (by rw[Yi,N,Bool.or_true])
    intro x I J
    rcases Qk.1 I with rfl|I
    ·have O:=h (min x.on n) (by rw[Yi,Yj,Ji,Yu])
     by_cases hl:x.on<n
     ·rw[X7 (Nat.le_of_lt hl)]at O;exact⟨hl,O⟩
     ·rw[Nat.min_eq_right (Je hl),hk]at O;cases O
    ·exact Y x I J
   ·intro h i N
    rw[Yi,Yy]at N
    rcases N with N|N
    ·rw[Yj,Jf]at N
     have:=of_decide_eq_true N
     obtain⟨Y,O⟩:=h e (Qg ..) hb
     rw[X7 (Nat.le_of_lt Y)]at this
     rw[←this];exact O
    ·exact W.2 (fun x I=>h x (Qe _ I)) i N
def waits (ops:List Oper):List Nat:=ops.map fun o=>Qhw ops.length o.after.toList
def rdyF:List Nat→Nat→Nat→List Nat
 | [],_,_=>[]
 |a::ws,k,i=>bif !(k.testBit i)&&sub a k then i::rdyF ws k (i+1)else rdyF ws k (i+1)
theorem mem_rdyF {k j:Nat}: ∀(ws:List Nat) (i:Nat),j∈rdyF ws k i↔∃m a,j=i+m∧ws[m]?=some a∧k.testBit j=false∧sub a k=true
 | [],i=>by simp[rdyF]
 |a::ws,i=>by
  have W:=mem_rdyF (k:=k) (j:=j) ws (i+1)
  have tl:j∈rdyF ws k (i+1)↔∃m b,j=i+(m+1)∧(a::ws)[m+1]?=some b∧k.testBit j=false∧sub b k=true:=by
   rw[W]
   constructor
   ·rintro⟨m,b,N,I,J⟩;exact⟨m,b,by omega,by simpa using I,J⟩
   ·rintro⟨m,b,N,I,J⟩;exact⟨m,b,by omega,by simpa using I,J⟩
  have key:(∃m b,j=i+m∧(a::ws)[m]?=some b∧k.testBit j=false∧sub b k=true)↔(j=i∧k.testBit i=false∧sub a k=true)∨j∈rdyF ws k (i+1):=by
   rw[tl]
   constructor
   ·rintro⟨m,b,N,I,J,O⟩
    cases m with
    |zero=>simp at I;subst I;have N:j=i:=N;subst N;exact .inl ⟨rfl,J,O⟩
    |succ m=>exact .inr ⟨m,b,N,I,J,O⟩
   ·rintro(⟨rfl,J,O⟩|⟨m,b,h⟩)
    ·exact⟨0,a,rfl,rfl,J,O⟩
    ·exact⟨m+1,b,h⟩
  rw[key,rdyF]
  cases N:k.testBit i<;>cases I:sub a k<;>simp
theorem Qdy {k:Nat}: ∀(ws:List Nat) (i:Nat),rdyF ws k i=((List.range ws.length).filter fun m=> !(k.testBit (i+m))&&((ws[m]?).map fun a=>sub a k).getD false).map (i+ ·)
 | [],i=>rfl
 |a::ws,i=>by
  rw[rdyF,Qdy ws (i+1),Qi,List.range_succ_eq_map,Xk,List.filter_map,Xd,Wj,Jd,Yz]
  have e:(List.filter (fun m=> !(k.testBit (i+1+m))&&((ws[m]?).map fun a=>sub a k).getD false) (List.range ws.length)).map (i+1+ ·)=
    ((List.filter ((fun m=> !(k.testBit (i+m))&&(((a::ws)[m]?).map fun a=>sub a k).getD false)∘Nat.succ) (List.range ws.length)).map Nat.succ).map (i+ ·):=by
   rw[List.map_map]
   have I:((fun m=> !(k.testBit (i+m))&&(((a::ws)[m]?).map fun a=>sub a k).getD false)∘Nat.succ)=fun m=> !(k.testBit (i+1+m))&&((ws[m]?).map fun a=>sub a k).getD false:=by
    funext m
    simp only[Function.comp_apply,Nat.succ_eq_add_one,Wq]
    rw[show i+(m+1)=i+1+m by omega]
   rw[I]
   congr 1
   funext m
   simp only[Function.comp_apply,Nat.succ_eq_add_one];omega
  rw[e]
  cases (!(k.testBit i)&&sub a k)<;>simp
theorem Qhp {n k:Nat}(hk:k.testBit n=false)(o:Oper):(o.after.all fun e=> !Region.binds .any e||(mb n k).toArray.getD e.on false)=sub (Qhw n o.after.toList) k:=by
 rw[Y6,Qhe hk,Array.all_eq_true_iff_forall_mem]
 constructor
 ·intro h e I J
  have:=h e (Array.mem_toList_iff.1 I)
  rw[J,Xp,W6]at this
  by_cases N:e.on<n
  ·rw[Qeg N]at this;exact⟨N,this⟩
  ·rw[mb_getD_ge (Je N)]at this;cases this
 ·intro h e I
  cases J:Region.binds .any e with
  |false=>rfl
  |true=>
   obtain⟨O,W⟩:=h e (Array.mem_toList_iff.2 I) J
   rw[Xp,W6,Qeg O];exact W
theorem ready_eq {ops:List Oper}{n k:Nat}{ws:List Nat}(J:waits ops=ws)(N:ops.length=n)(hk:k.testBit n=false):Region.ready .any ops.toArray (mb n k).toArray=rdyF ws k 0:=by
 subst J;subst N
 rw[Qdy]
 unfold Region.ready waits
 rw[Qw,Yf]
 have: ∀(p:Nat→Bool),(List.filter p (List.range ops.length)).map (0+ ·)=List.filter p (List.range ops.length):=fun p=>by
  rw[show(fun x:Nat=>0+x)=id from funext fun x=>Wf x,List.map_id]
 rw[this]
 refine List.filter_congr fun i I=>?_
 have I:=Xj.1 I
 rw[Qeg I,Wf,Ws,Qt,Qd I]
 simp only[Wj,Jd]
 rw[Qhp hk]
def cloF:List Nat→Nat→Nat→Bool
 | [],_,_=>true
 |a::ws,k,i=>(!(k.testBit i)||sub a k)&&cloF ws k (i+1)
theorem cloF_get {k:Nat}: ∀{ws:List Nat} {i:Nat},cloF ws k i=true→∀m a,ws[m]?=some a→(!(k.testBit (i+m))||sub a k)=true
 | [],_,_,m,a,h=>by simp at h
 |b::ws,i,h,m,a,I=>by
  rw[cloF,Qm]at h
  cases m with
  |zero=>simp at I;subst I;exact h.1
  |succ m=>
   have:=cloF_get h.2 m a (by simpa using I)
   rw[show i+1+m=i+(m+1) by omega]at this;exact this
theorem o_b6 {ops:List Oper}{n k:Nat}{ws:List Nat}(N:waits ops=ws)(O:ops.length=n)(hk:k.testBit n=false)(h:cloF ws k 0=true):cloB ops.toArray (mb n k).toArray=true:=by
 subst N;subst O
 unfold cloB
 rw[Qz]
 intro i I;rw[Yf]at I
 have I:=Xj.1 I
 have J:=cloF_get h i (Qhw ops.length ops[i].after.toList) (by unfold waits;rw[Qt,Qd I];rfl)
 rw[Wf]at J
 rw[Ws,Qd I]
 simp only[]
 rw[Qeg I,Qhp hk];exact J
def maskL:List Nat→Nat
 | []=>0
 |j::r=>(1<<<j)|||maskL r
theorem sub_maskL {k:Nat}: ∀l:List Nat,sub (maskL l) k=true↔∀j∈l,k.testBit j=true
 | []=>by rw[Qgl];simp[maskL]
 |j::r=>by
  have N:=sub_maskL (k:=k) r
  rw[Qgl]at N ⊢
  unfold maskL
  constructor
  ·intro h x J
   rcases Qk.1 J with rfl|J
   ·exact h x (by rw[Yi,Yj,Ji,Yu])
   ·exact N.1 (fun i I=>h i (by rw[Yi,I,Bool.or_true])) x J
  ·intro h i I
   rw[Yi,Yy]at I
   rcases I with I|I
   ·rw[Yj,Jf]at I
    rw[←of_decide_eq_true I];exact h j (Qg ..)
   ·exact N.2 (fun x J=>h x (Qe _ J)) i I
def badB (ops:Array Oper)(i:Nat)(oi:Oper)(j:Nat):Bool:= !(j==i||match ops[j]? with
 |some oj=>oj.after.any (fun e=>Region.binds .any e&&e.on==i)||oi.apart ops oj
 |none=>true)
def bads (ops:List Oper):List Nat:=(List.range ops.length).map fun i=>match ops[i]? with
 |some oi=>maskL ((List.range ops.length).filter (badB ops.toArray i oi))
 |none=>0
theorem free_eq {ops:List Oper}{n k i b:Nat}{bs:List Nat}(W:bads ops=bs)(Y:ops.length=n)(J:bs[i]?=some b)(h:sub b k=true):Region.free .any ops.toArray (mb n k).toArray i=true:=by
 subst W;subst Y
 have I:=(Qc.1 J).1
 unfold bads at J I
 rw[Qw,X2]at I
 rw[Qt,Yo I,Wj,Qd I]at J
 simp only[Qr]at J
 subst J
 have h2:=(sub_maskL _).1 h
 unfold Region.free
 rw[Ws,Qd I]
 simp only[]
 rw[Qz]
 intro j N
 rw[Yf]at N
 have N:=Xj.1 N
 rw[Qeg N]
 cases hk:k.testBit j with
 |true=>simp
 |false=>
  have O:badB ops.toArray i ops[i] j=false:=by
   cases h4:badB ops.toArray i ops[i] j with
   |false=>rfl
   |true=>
    have:=h2 j (Yn.2 ⟨Xj.2 N,h4⟩)
    rw[hk]at this;cases this
  unfold badB at O
  rw[Bool.not_eq_false']at O
  rw[Jh]
  exact O
theorem mb_set {n k i:Nat}(J:i<n):(mb n k).toArray.setIfInBounds i true=(mb n (k|||(1<<<i))).toArray:=by
 refine Array.ext_getElem? fun j=>?_
 rw[Array.getElem?_setIfInBounds,Ws,Ws]
 by_cases I:i=j
 ·subst I
  rw[if_pos rfl,if_pos (by rw[Yf,Qgu];exact J),Qhr n _ i J,Yi,Yj,Ji,Bool.or_true]
 ·rw[if_neg I]
  by_cases N:j<n
  ·rw[Qhr n _ j N,Qhr n _ j N,Yi,Yj,Jf,decide_eq_false I,Jh]
  ·rw[Q5 (by rw[Qgu];omega),Q5 (by rw[Qgu];omega)]
structure Tabs (lo:List Oper) (n:Nat) (ws bs:List Nat):Prop where
 len:lo.length=n
 w:waits lo=ws
 b:bads lo=bs
 ns:(Region.noSelect lo.toArray&&Qbb lo.toArray)=true
def dqsF (P:Program)(K:Kn)(cn:Nat)(ops:List Oper)(ws bs:List Nat):List (Nat×Hint)→Nat→QS→Option (Nat×QS)
 | [],k,s=>some (k,s)
 |(i,h)::r,k,s=>match ops[i]?,ws[i]?,bs[i]? with
  |some o,some a,some b=>if(sub b k&&(!(k.testBit i)&&sub a k))=true then match q1 P K cn ops.toArray s h o with
   |some s'=>dqsF P K cn ops ws bs r (k|||(1<<<i)) s'
   |none=>none else none
  |_,_,_=>none
theorem o_bM {P:Program}{K:Kn}{cn n:Nat}{ops:List Oper}{ws bs:List Nat}(T:Tabs ops n ws bs): ∀(is:List (Nat×Hint)) (k:Nat) (s:QS) {k':Nat} {s':QS},k.testBit n=false→dqsF P K cn ops ws bs is k s=some (k',s')→dqs P K cn ops.toArray is (mb n k).toArray s=some ((mb n k').toArray,s')∧k'.testBit n=false
 | [],k,s,k',s',hk,h=>by
  rw[dqsF]at h
  obtain⟨rfl,rfl⟩:=Prod.mk.inj (Qp h)
  exact⟨rfl,hk⟩
 |(i,W)::r,k,s,k',s',hk,h=>by
  rw[dqsF]at h
  split at h
  case h_2=>cases h
  rename_i o a b O Y hb
  split at h
  case isFalse=>cases h
  rename_i I
  rw[Qm,Qm]at I
  cases hq:q1 P K cn ops.toArray s W o with
  |none=>rw[hq]at h;cases h
  |some s1=>
   rw[hq]at h
   have J:i<n:=by rw[←T.len];exact(Qc.1 O).1
   have N:(k|||(1<<<i)).testBit n=false:=by rw[Yi,hk,Yj,Jf,W6,decide_eq_false_iff_not];omega
   obtain⟨h1,h2⟩:=o_bM T r _ s1 N h
   refine⟨?_,h2⟩
   rw[dqs,Ws,O]
   simp only[]
   have hr:i∈rdyF ws k 0:=(mem_rdyF ws 0).2 ⟨i,a,(Wf i).symm,Y,by rw[←Xs];exact I.2.1,I.2.2⟩
   rw[if_pos (by rw[free_eq T.b T.len hb I.1,ready_eq T.w T.len hk,Xf,List.contains_iff_mem];exact hr),hq]
   simp only[]
   rw[mb_set J];exact h1
theorem mb_zero: ∀n,mb n 0=List.replicate n false
 |0=>rfl
 |n+1=>by rw[mb,List.replicate_succ,Nat.zero_div,mb_zero n];rfl
section
variable {r:Option Nat}{P:Program}{lo:List Oper}{Q:Exit→Act→World→Prop}{C:Cx}{l:List (Nat×Value)}{H Hq:List (Nat×Res)}{m n:Nat}{ws bs:List Nat}
theorem AX.drF {Y:Exit→Act→World→Prop}{K:List Kx}{id:Nat}(J:P.follows .mixedOrders=true)(m f:Nat)(ws bs:List Nat)(h:Tabs lo f ws bs→AH r P lo.toArray (kont r P Y K) [] m f (mb f 0) C l H)
  (I:lo.length=f:=by rfl) (N:waits lo=ws:=by kernel_rfl) (O:bads lo=bs:=by kernel_rfl) (W:(Region.noSelect lo.toArray&&Qbb lo.toArray)=true:=by kernel_rfl):AX r P Y K (.region id lo.toArray true) C l H:=
 AX.dr J m f (mb f 0) (h ⟨I,N,O,W⟩) I (by rw[Yf,I,mb_zero];simp)
theorem AH.qF (T:Tabs lo n ws bs)(hQ:Pq Q)(gs qs b es:List Nat)(k k' f:Nat)(is:List (Nat×Hint))(ks:List Nat)(cs:List Prop)(nl:List (Nat×Value)){g:Nat}(hc:conj cs)(h:AH r P lo.toArray Q (kpH H qs qs) m f (mb n k') C (cat nl l) H)
  (hg:g=f+is.length:=by rfl) (hb:is.all (fun p=>bon lo.toArray m p.1)=true:=by kernel_rfl) (hk:k.testBit n=false:=by rfl) (J:cloF ws k 0=true:=by kernel_rfl)
  (hq:((dqsF P ⟨knb (kpH H qs qs) b,kne (kpH H qs qs) es⟩ C.n lo ws bs is k (Z.q0 l)).bind fun x=>(qfin l ks x.2).map fun y=>(x.1,y))=some (k',cs,nl):=by kernel_rfl)
  (I:(dqsF P ⟨knb (kpH H qs qs) b,kne (kpH H qs qs) es⟩ C.n lo ws bs is k (Z.q0 l)).map (fun s=>s.2.q.map Prod.fst)=(dqsF P ⟨knb (kpH H qs qs) b,kne (kpH H qs qs) es⟩ C.n lo ws bs is k (Z.q0 l)).map (fun s=>s.2.q.map Prod.snd):=by kernel_rfl)
  (e:kpH (kpH H qs qs) gs gs=Hq:=by kernel_rfl):AH r P lo.toArray Q Hq m g (mb n k) C l H:=by
 cases N:dqsF P ⟨knb (kpH H qs qs) b,kne (kpH H qs qs) es⟩ C.n lo ws bs is k (Z.q0 l)with
 |none=>rw[N]at hq;cases hq
 |some x=>
  obtain⟨O,s'⟩:=x
  obtain⟨Y,h2⟩:=o_bM T is k _ hk N
  rw[N]at hq I
  have hq:((qfin l ks s').map fun y=>(O,y))=some (k',cs,nl):=hq
  have I:s'.q.map Prod.fst=s'.q.map Prod.snd:=by injection I
  cases W:qfin l ks s' with
  |none=>rw[W]at hq;cases hq
  |some y=>
   rw[W]at hq
   simp only[Wj,Qr,Jg]at hq
   obtain⟨rfl,rfl⟩:=hq
   refine AH.q hQ gs qs b es (mb n O) f is ks cs nl hc h hg hb (o_b6 T.w T.len hk J) T.ns ?_ ?_ e
   ·rw[Y]
    show((qfin l ks s').map fun y=>((mb n O).toArray.toList,y))=_
    rw[W];rfl
   ·rw[Y]
    exact congrArg some I
theorem AH.oneF (T:Tabs lo n ws bs)(i:Nat){k f:Nat}{o:Oper}(h:AL r P lo.toArray (HZ r P lo.toArray Q (Hp C Hq) m f (mb n k).toArray i) [o] C l H)(I:lo.toArray[i]?=some o:=by rfl)(hk:k.testBit n=false:=by rfl)(J:rdyF ws k 0=[i]:=by kernel_rfl):AH r P lo.toArray Q Hq m (f+1) (mb n k) C l H:=
 AH.one i h I ((ready_eq T.w T.len hk).trans J)
theorem AH.nxF {i k f:Nat}(k':Nat)(gs:List Nat)(h:AH r P lo.toArray Q Hq m f (mb n k') C l H)(e:kpH H gs gs=Hq:=by kernel_rfl)(I:Nat.blt i n=true:=by rfl)(J:k|||(1<<<i)=k':=by rfl):AL r P lo.toArray (HZ r P lo.toArray Q (Hp C Hq) m f (mb n k).toArray i) [] C l H:=
 AH.nx (mb n k') gs h e (by rw[mb_set (by simpa using I),J])
theorem AH.doneF (T:Tabs lo n ws bs){k f:Nat}{Y:Exit→Act→World→Prop}{K:List Kx}(h:AE r P Y K .normal C l H)(hk:k.testBit n=false:=by rfl)(I:rdyF ws k 0=[]:=by kernel_rfl):AH r P lo.toArray (kont r P Y K) Hq m f (mb n k) C l H:=
 AH.done h ((ready_eq T.w T.len hk).trans I)
end
end Go.A
end
section
namespace Go.Proofs.YtlbnpmfggfbdoaaGreatDoor
open Go.RowKit
variable(A0_ A1_ A2_ A4_ A5_ A7_ A10_ A12_ A13_:Option Addr)(b0_ g0_ b1_ c1_ c2_ g2_ c3_ b4_ b5_ c5_ b6_ c6_ c8_ g8_ g10_ c11_ c13_ c14_:Nat)
def F.bP (e:(List D44)→Int→Option ((List D44)×Int))(a:Int)(f:List D44):Option ((List D44)×Int):=A.gd (Z.R64 (a+1)) (e f (a+1))
def F.dA (e:Bool→Int→Option ((List D44)×Int))(a:Int)(f:Bool):Option ((List D44)×Int):=A.gd (Z.R64 (a+1)) (e f (a+1))
def F.bo (h:(List D44)→Int→Option ((List D44)×Int))(a:(List D44))(k:List D44)(e:Int):Nat→Bool→Int→Option ((List D44)×Int)
 |0,_,_=>none
 |f+1,p,o=>if o<(a.length:Int)then((A.ix a o).bind fun s=>((A.ix a e).bind fun t=>((F.ef s t).bind fun u=>(if u=true then(F.dA (F.bo h a k e f) o false)else(F.dA (F.bo h a k e f) o p)))))else(if p=true then((A.ix a e).bind fun w=>((F.es k w).bind fun x=>(F.bP h e x)))else(F.bP h e k))
def F.dB (a:(List D44)→Int→Option ((List D44)×Int))(e:(List D44))(f:List D44)(h:Int)(k:Bool):Option ((List D44)×Int):=if k=true then(some ([],11))else(F.bo a e f h A.FU true 0)
def F.aW (a:(List D44)):Nat→(List D44)→Int→Option ((List D44)×Int)
 |0,_,_=>none
 |f+1,h,e=>if e<(a.length:Int)then((A.ix a e).bind fun t=>((A.ix a 0).bind fun u=>(if t.1≠u.1 then(F.dB (F.aW a f) a h e true)else((A.ix a e).bind fun k=>((A.ix a e).bind fun o=>(A.gd (Z.R64 (k.2.1+o.2.2.2.1)) ((A.ix a 0).bind fun p=>((A.ix a 0).bind fun s=>(A.gd (Z.R64 (p.2.1+s.2.2.2.1)) (F.dB (F.aW a f) a h e (decide (k.2.1+o.2.2.2.1≠p.2.1+s.2.2.2.1))))))))))))else(some (h,0))
def F.cC (a:(List D44)):Nat→Int→Option ((List D44)×Int)
 |0,_=>none
 |f+1,e=>if e<(a.length:Int)then((A.ix a e).bind fun h=>((F.aa h).bind fun k=>(if k≠0 then(some ([],20))else(A.gd (Z.R64 (e+1)) ((F.cC a f) (e+1))))))else(F.aW a A.FU [] 0)
def F.eD (a:(List D44)):Option ((List D44)×Int):=F.cC a A.FU 0
theorem o_bo(k:(List D44))(r:(List D44)×Int)(h:F.eD k=some r):
    A.Ct Tryz.prog 21 [.slice A0_ k.length c1_] [(0,.ln T44 A0_ c1_ k)] [] (fun v H'=>∃(A0':Option Addr) (c1':Nat),v=.tuple #[.slice A0' r.1.length c1',A.i r.2]∧H'=[(0,.own T44 45 A0' c1' r.1)]∧A.h6 r.2):=by
 refine J1 Tryz.func21 rfl Tryz.ntmps21 rfl fun w0 F0=>?_;rw[F.eD]at h;refine Jv 1 ?_;refine J0 2 [] (Vb 3 ?_);refine J0 1 [(4,A.i 0)] (Jw 2 ?_);refine Vo [0] [0] (fun f s u=>∃(z:Int),s=[(4,A.i z)]∧u=[]∧A.h6 z∧F.cC k f z=some r) ⟨0,rfl,rfl,J5,h⟩ ?_;rintro f3 _ _ ⟨z,rfl,rfl,b4,h⟩;rcases f3 with _|f3
 ·exact Vm h
 rw[F.cC]at h;refine Jv 2 ?_;refine J0 4 [(12,.bool (decide (z<(k.length:Int))))] (Jw 1 ?_);refine Vr h ?_ ?_<;>intro O h
 ·refine Jv 5 ?_;refine J0 2 [(15,.slice A0_ k.length c1_),(16,A.i z)] ?_;have⟨x4,ap,h⟩:=Vx h;refine Ua 0 2659 ap fun B=>?_;intro b7 o8;refine Jz [] [2659] [.e 0 0] [(18,(A.raf x4))] ?_;refine Vw 2660 [] h (o_n x4 B.1 B.2.1 B.2.2.1 B.2.2.2.1 B.2.2.2.2.1 B.2.2.2.2.2.1 B.2.2.2.2.2.2.1 B.2.2.2.2.2.2.2) .nil ?_;rintro r9 - h _ _ ⟨rfl,rfl,hr11⟩;refine Ve ?_;refine J0 1 [(20,.bool (decide (r9≠0)))] (Jw 1 ?_);refine Vr h ?_ ?_<;>intro O h
  ·refine Jv 1 ?_;refine J0 2 [(2,.slice none 0 0),(3,A.i 20)] (Jw 1 ?_);obtain rfl:=J7 h;refine V9 2700 T44 45 ?_;exact V4 [(0,2700)] ⟨none,0,rfl,rfl,(Vd .i64 (20) rfl)⟩
  refine Jv 3 ?_;have⟨a7,h⟩:=Vq h;refine Ub 3 [Z.R64 (z+1)] [(4,A.i (z+1))] a7 (Jy ?_);exact Vi ⟨_,Qh _,⟨(z+1),rfl,rfl,(J2 a7),h⟩⟩
 refine Jv 3 ?_;refine J0 1 [(5,.slice none 0 0)] (Vb 3 ?_);refine J0 1 [(6,A.i 0)] (Jw 2 ?_);refine V9 3216 T44 45 ?_;refine Vo [0] [0] (fun f s u=>∃(x:List D44),∃(p:Int),∃(E:Option Addr),∃(I:Nat),s=[(5,.slice E x.length I),(6,A.i p)]∧u=[(3216,.own T44 45 E I x)]∧A.h6 p∧F.aW k f x p=some r) ⟨[],0,none,0,rfl,rfl,J5,h⟩ ?_;rintro U _ _ ⟨x,p,E,I,rfl,rfl,b5,h⟩;rcases U with _|U
 ·exact Vm h
 rw[F.aW]at h;refine Jv 2 ?_;refine J0 4 [(24,.bool (decide (p<(k.length:Int))))] (Jw 1 ?_);refine Vr h ?_ ?_<;>intro O h
 ·refine V3 2 ?_;refine J4 [0,6] [0] (fun s u=>∃(V:List D44),∃(Y:Option Addr),∃(c20:Nat),s=[(5,.slice Y V.length c20)]∧u=[(3987,.own T44 45 Y c20 V)]∧F.bP (F.aW k U) p V=some r) ?_ ?_
  ·refine V3 2 ?_;refine J4 [0,5,6] [0,3216] (fun s u=>∃(a4:Bool),s=[(59,.bool a4)]∧u=[]∧F.dB (F.aW k U) k x p a4=some r) ?_ ?_
   ·refine A.AX.drF mixed 33 33 [0,0,3,4,8,0,32,64,128,272,512,1024,1024,7168,9216,17408,1024,1024,197632,263168,525312,1082368,1024,4195328,8389632,16778240,1024,67109888,134218752,268436480,570426368,1075840000,2147484672] [0,0,3,4,8,0,32,64,128,272,512,1024,1024,7168,9216,17408,1024,1024,197632,263168,525312,1082368,1024,4195328,8389632,16778240,1024,67109888,134218752,268436480,570426368,1075840000,2147484672] fun hT53=>?_;refine A.AH.qF hT53 J3 [] [0,3216] [] [] 0 35 30 [(0,.n),(1,.n),(5,.n)] [27,28,32] [] [(27,.slice A0_ k.length c1_),(28,A.i p),(32,.slice A0_ k.length c1_)] trivial ?_;have⟨a8,a9,h⟩:=Vx h;refine Vn 0 3731 a9 fun b6=>?_;intro b9 bb aq;refine Vf J3 [0,3216] [0,3216,3731] 2 (A.mb 33 39) rfl (fun a w hf hh=>Vj (t:=T44) a9 aq hf) ?_;refine A.AH.qF hT53 J3 [0,3216,3731] [0,3216,3731] [] [3731] 39 63 27 [(3,.n),(4,.e 0 0)] [31] [] [(31,A.i a8.1)] trivial ?_;have⟨ar,aa,h⟩:=Vx h;refine Vn 0 3732 aa fun bc=>?_;intro bd be au;refine Vf J3 [0,3216,3731] [0,3216,3731,3732] 6 (A.mb 33 127) rfl (fun a w hf hh=>Vj (t:=T44) aa au hf) ?_;refine A.AH.qF hT53 J3 [0,3216,3731,3732] [0,3216,3731,3732] [] [3732] 127 2047 22 [(7,.n),(8,.e 0 0),(9,.n),(10,.n)] [37] [] [(37,.bool (decide (a8.1≠ar.1)))] trivial ?_;refine Ui (j:=37) rfl h ?_ ?_<;>intro O h
    ·refine A.AH.qF hT53 J3 [0,3216,3731,3732] [0,3216,3731,3732] [] [] 2047 8589934591 0 [(11,.off),(12,.off),(16,.off),(17,.off),(22,.off),(26,.off),(13,.off),(18,.off),(23,.off),(27,.off),(14,.off),(19,.off),(24,.off),(28,.off),(15,.off),(20,.off),(25,.off),(29,.off),(21,.off),(30,.off),(31,.off),(32,.n)] [59] [] [(59,.bool true)] trivial ?_;refine A.AH.doneF hT53 ?_;exact Vi ⟨true,rfl,rfl,h⟩
    refine A.AH.qF hT53 J3 [0,3216,3731,3732] [0,3216,3731,3732] [] [] 2047 71507967 16 [(11,.on .n),(12,.on .n),(16,.on .n),(17,.on .n),(22,.on .n),(26,.on .n)] [38,39,43,44,49,53] [] [(38,.slice A0_ k.length c1_),(39,A.i p),(43,.slice A0_ k.length c1_),(44,A.i p),(49,.slice A0_ k.length c1_),(53,.slice A0_ k.length c1_)] trivial ?_;have⟨W,ab,h⟩:=Vx h;refine Vn 0 3733 ab fun bg=>?_;intro bh bi av;refine Ue J3 [0,3216,3731,3732] [0,3216,3731,3732,3733] 13 (A.mb 33 71516159) (dj:=37) rfl (fun a w hf hh=>Vj (t:=T44) ab av hf) ?_;refine A.AH.qF hT53 J3 [0,3216,3731,3732,3733] [0,3216,3731,3732,3733] [] [3733] 71516159 71565311 13 [(14,.on .n),(15,.on (.e 0 1))] [42] [] [(42,A.i W.2.1)] trivial ?_;have⟨a1,ac,h⟩:=Vx h;refine Vn 0 3734 ac fun bj=>?_;intro bk bl aw;refine Ue J3 [0,3216,3731,3732,3733] [0,3216,3731,3732,3733,3734] 18 (A.mb 33 71827455) (dj:=37) rfl (fun a w hf hh=>Vj (t:=T44) ac aw hf) ?_;have⟨ax,h⟩:=Vq h;refine A.AH.qF hT53 J3 [0,3216,3731,3732,3733,3734] [0,3216,3731,3732,3733,3734] [] [3734] 71827455 75497471 9 [(19,.on .n),(20,.on (.e 0 3)),(21,.on .n)] [48] [Z.R64 (W.2.1+a1.2.2.2.1)] [(48,A.i (W.2.1+a1.2.2.2.1))] ax ?_;have⟨a2,ad,h⟩:=Vx h;refine Vn 0 3735 ad fun bm=>?_;intro bp bq ay;refine Ue J3 [0,3216,3731,3732,3733,3734] l4h 23 (A.mb 33 83886079) (dj:=37) rfl (fun a w hf hh=>Vj (t:=T44) ad ay hf) ?_;refine A.AH.qF hT53 J3 [0,3216,3731,3732,3733,3734,3735] [0,3216,3731,3732,3733,3734,3735] [] [3735] 83886079 134217727 6 [(24,.on .n),(25,.on (.e 0 1))] [52] [] [(52,A.i a2.2.1)] trivial ?_;have⟨a5,ae,h⟩:=Vx h;refine Vn 0 3736 ae fun br=>?_;intro bt bu az;refine Ue J3 l4h [0,3216,3731,3732,3733,3734,3735,3736] 27 (A.mb 33 268435455) (dj:=37) rfl (fun a w hf hh=>Vj (t:=T44) ae az hf) ?_;have⟨b0,h⟩:=Vq h;refine A.AH.qF hT53 J3 [0,3216,3731,3732,3733,3734,3735,3736] [0,3216,3731,3732,3733,3734,3735,3736] [] [3736] 268435455 8589934591 0 [(28,.on .n),(29,.on (.e 0 3)),(30,.on .n),(31,.on .n),(32,.n)] [59] [Z.R64 (a2.2.1+a5.2.2.2.1)] [(59,.bool (decide (W.2.1+a1.2.2.2.1≠a2.2.1+a5.2.2.2.1)))] b0 ?_;refine A.AH.doneF hT53 ?_;exact Vi ⟨(decide (W.2.1+a1.2.2.2.1≠a2.2.1+a5.2.2.2.1)),rfl,rfl,h⟩
   rintro _ _ ⟨a4,rfl,rfl,h⟩;rw[F.dB]at h;refine Ud h ?_ ?_<;>intro O h
   ·refine Jv 1 ?_;refine J0 2 [(2,.slice none 0 0),(3,A.i 11)] (Jw 1 ?_);obtain rfl:=J7 h;refine V9 3737 T44 45 ?_;exact V4 [(0,3737)] ⟨none,0,rfl,rfl,(Vd .i64 (11) rfl)⟩
   refine Jv 3 ?_;refine J0 1 [(7,.bool true)] (Vb 3 ?_);refine J0 1 [(8,A.i 0)] (Jw 2 ?_);refine Vo [0,5,6] [0,3216] (fun f s u=>∃(X:Bool),∃(y:Int),s=[(7,.bool X),(8,A.i y)]∧u=[]∧A.h6 y∧F.bo (F.aW k U) k x p f X y=some r) ⟨true,0,rfl,rfl,J5,h⟩ ?_;rintro a6 _ _ ⟨X,y,rfl,rfl,bv,h⟩;rcases a6 with _|a6
   ·exact Vm h
   rw[F.bo]at h;refine Jv 2 ?_;refine J0 4 [(63,.bool (decide (y<(k.length:Int))))] (Jw 1 ?_);refine Vr h ?_ ?_<;>intro O h
   ·refine V3 2 ?_;refine J4 [0,5,6,8] [0,3216] (fun s u=>∃(a3:Bool),s=[(7,.bool a3)]∧u=[]∧F.dA (F.bo (F.aW k U) k x p a6) y a3=some r) ?_ ?_
    ·refine V3 2 ?_;refine Vl mixed 8 9 (A.mb 9 0) ?_;refine Vh J3 [] [0,3216] [] [] (A.mb 9 51) 5 [(0,.n),(1,.n),(4,.n),(5,.n)] [(66,.slice A0_ k.length c1_),(67,A.i y),(70,.slice A0_ k.length c1_),(71,A.i p)] ?_;have⟨af,ag,h⟩:=Vx h;refine Vn 0 3904 ag fun J=>?_;intro bw bx b1;refine Vf J3 [0,3216] l4p 2 (A.mb 9 55) rfl (fun a w hf hh=>Vj (t:=T44) ag b1 hf) ?_;refine Vh J3 l4p l4p [] [3904] (A.mb 9 63) 3 [(3,.e 0 0)] [(69,(A.raf af))] ?_;have⟨ah,ai,h⟩:=Vx h;refine Vn 0 3905 ai fun L=>?_;intro bz c0 b2;refine Vf J3 l4p l4l 6 (A.mb 9 127) rfl (fun a w hf hh=>Vj (t:=T44) ai b2 hf) ?_;refine Vh J3 l4l l4l [] [3905] (A.mb 9 255) 1 [(7,.e 0 0)] [(73,(A.raf ah))] ?_;refine J8 8 ?_;refine Vw 3906 [] h (o_bn af ah J.1 J.2.1 J.2.2.1 J.2.2.2.1 J.2.2.2.2.1 J.2.2.2.2.2.1 J.2.2.2.2.2.2.1 J.2.2.2.2.2.2.2 L.1 L.2.1 L.2.2.1 L.2.2.2.1 L.2.2.2.2.1 L.2.2.2.2.2.1 L.2.2.2.2.2.2.1 L.2.2.2.2.2.2.2) .nil ?_;rintro c1 - h _ _ ⟨rfl,rfl⟩;refine Ve ?_;refine Ut (A.mb 9 511) ?_;refine J9 ?_;refine Uy 1 ?_;refine Ud h ?_ ?_<;>intro O h
     ·refine Jv 0 ?_;refine J0 1 [(7,.bool false)] (Ug 1 ?_);exact Vi ⟨false,rfl,rfl,h⟩
     refine Vy 2 ?_;exact Vi ⟨X,rfl,rfl,h⟩
    rintro _ _ ⟨a3,rfl,rfl,h⟩;rw[F.dA]at h;refine Jv 0 ?_;have⟨aj,h⟩:=Vq h;refine Ub 3 [Z.R64 (y+1)] [(8,A.i (y+1))] aj (Jy ?_);exact Vi ⟨_,Qh _,⟨a3,(y+1),rfl,rfl,(J2 aj),h⟩⟩
   refine Jv 3 ?_;refine J0 1 [(75,.bool X)] (Jw 1 ?_);refine Ud h ?_ ?_<;>intro O h
   ·refine Jv 0 ?_;refine J0 3 [(76,.slice E x.length I),(77,.slice A0_ k.length c1_),(78,A.i p)] ?_;have⟨ak,b3,h⟩:=Vx h;refine Ua 0 3946 b3 fun N=>?_;intro c2 c3;refine Jz [] [3946] [.e 0 0] [(80,(A.raf ak))] ?_;refine Vw 3947 [] h (o_bb E I x ak N.1 N.2.1 N.2.2.1 N.2.2.2.1 N.2.2.2.2.1 N.2.2.2.2.2.1 N.2.2.2.2.2.2.1 N.2.2.2.2.2.2.2) (.o 3216 .nil) ?_;rintro al - h _ _ ⟨am,an,rfl,rfl⟩;refine Ve ?_;refine J0 1 [(5,.slice am al.length an)] (Ug 1 ?_);refine A.mv 3947 3987 [] ?_;exact Vi ⟨al,am,an,rfl,rfl,h⟩
   refine Vy 2 ?_;refine A.mv 3216 3987 [] ?_;exact Vi ⟨x,E,I,rfl,rfl,h⟩
  rintro _ _ ⟨V,Y,c20,rfl,rfl,h⟩;rw[F.bP]at h;refine Jv 0 ?_;have⟨ao,h⟩:=Vq h;refine Ub 3 [Z.R64 (p+1)] [(6,A.i (p+1))] ao (Jy ?_);refine A.mv 3987 3216 [] ?_;exact Vi ⟨_,Qh _,⟨V,(p+1),Y,c20,rfl,rfl,(J2 ao),h⟩⟩
 refine Jv 3 ?_;refine J0 3 [(2,.slice E x.length I),(3,A.i 0)] (Jw 1 ?_);obtain rfl:=J7 h;exact V4 [(0,3216)] ⟨E,I,rfl,rfl,J5⟩
def F.cQ (e:(List D44))(h:(List D44)):Nat→Int→Option Bool
 |0,_=>none
 |f+1,a=>if a<(e.length:Int)then((A.ix e a).bind fun k=>((A.ix h a).bind fun o=>(if k≠o then(some false)else(A.gd (Z.R64 (a+1)) ((F.cQ e h f) (a+1))))))else(some true)
def F.eN (a:(List D44))(e:(List D44)):Option Bool:=if(a.length:Int)≠(e.length:Int)then(some false)else(F.cQ a e A.FU 0)
theorem o_bF(o:(List D44))(p:(List D44))(r:Bool)(h:F.eN o p=some r):
    A.Ct Tryz.prog 22 [.slice A0_ o.length c1_,.slice A2_ p.length c3_] [(0,.ln T44 A0_ c1_ o),(1,.ln T44 A2_ c3_ p)] [] (fun v H'=>v=.bool r∧H'=[]):=by
 refine J1 Tryz.func22 rfl Tryz.ntmps22 rfl fun V W=>?_;rw[F.eN]at h;refine Jv 1 ?_;refine J0 1 [] (Vb 3 ?_);refine J0 5 [(10,.bool (decide ((o.length:Int)≠(p.length:Int))))] (Jw 1 ?_);refine Vr h ?_ ?_<;>intro s h
 ·refine Jv 1 ?_;refine J0 1 [(4,.bool false)] (Jw 1 ?_);obtain rfl:=J7 h;exact Va [] ⟨rfl,rfl⟩
 refine Jv 4 ?_;refine J0 1 [(5,A.i 0)] (Jw 2 ?_);refine Vo l4s l4s (fun f L N=>∃(k:Int),L=[(5,A.i k)]∧N=[]∧A.h6 k∧F.cQ o p f k=some r) ⟨0,rfl,rfl,J5,h⟩ ?_;rintro u _ _ ⟨k,rfl,rfl,X,h⟩;rcases u with _|u
 ·exact Vm h
 rw[F.cQ]at h;refine Jv 2 ?_;refine J0 4 [(14,.bool (decide (k<(o.length:Int))))] (Jw 1 ?_);refine Vr h ?_ ?_<;>intro s h
 ·refine V3 5 ?_;refine Vl mixed 9 9 (A.mb 9 0) ?_;refine Vh J3 [] l4s [] [] (A.mb 9 51) 5 [(0,.n),(1,.n),(4,.n),(5,.n)] [(17,.slice A0_ o.length c1_),(18,A.i k),(21,.slice A2_ p.length c3_),(22,A.i k)] ?_;have⟨z,B,h⟩:=Vx h;refine Vn 0 6 B fun Y=>?_;intro b8 o9 O;refine Vf J3 l4s [0,1,6] 2 (A.mb 9 55) rfl (fun a w hf hh=>Vj (t:=T44) B O hf) ?_;refine Vh J3 [0,1,6] [0,1,6] [] [6] (A.mb 9 63) 3 [(3,.e 0 0)] [(20,(A.raf z))] ?_;have⟨E,I,h⟩:=Vx h;refine Vn 1 7 I fun a2=>?_;intro a3 a4 U;refine Vf J3 [0,1,6] [0,1,6,7] 6 (A.mb 9 127) rfl (fun a w hf hh=>Vj (t:=T44) I U hf) ?_;refine Vh J3 [0,1,6,7] [0,1,6,7] [] [7] (A.mb 9 255) 1 [(7,.e 0 0)] [(24,(A.raf E))] ?_;refine Vf J3 [0,1,6,7] [0,1,6,7] 8 (A.mb 9 511) rfl (fun a w hf hh=>eqagg_neq45 (x:=z) (y:=E) (hf.eval rfl) (hf.eval rfl)) ?_;refine J9 ?_;refine Uy 1 ?_;refine Vr h ?_ ?_<;>intro s h
  ·refine Jv 1 ?_;refine J0 1 [(4,.bool false)] (Jw 1 ?_);obtain rfl:=J7 h;exact Va [] ⟨rfl,rfl⟩
  refine Jv 3 ?_;have⟨J,h⟩:=Vq h;refine Ub 3 [Z.R64 (k+1)] [(5,A.i (k+1))] J (Jy ?_);exact Vi ⟨_,Qh _,⟨(k+1),rfl,rfl,(J2 J),h⟩⟩
 refine Jv 3 ?_;refine J0 1 [(4,.bool true)] (Jw 1 ?_);obtain rfl:=J7 h;exact Va [] ⟨rfl,rfl⟩
end Go.Proofs.YtlbnpmfggfbdoaaGreatDoor
end
section
namespace Go.Proofs.YtlbnpmfggfbdoaaGreatDoor
open Go.RowKit
variable(A0_ A1_ A2_ A4_ A5_ A7_ A10_ A12_ A13_:Option Addr)(b0_ g0_ b1_ c1_ c2_ g2_ c3_ b4_ b5_ c5_ b6_ c6_ c8_ g8_ g10_ c11_ c13_ c14_:Nat)
def F.ca (f:Int→Int→Int→Int→Int→Int→Int→Int→Int→Option (D44×Int))(h:Int)(k:Int)(o:Int)(a:Int)(e:Int)(p:Int)(s:Int)(t:Int)(u:Int):Option (D44×Int):=A.gd (Z.R64 (a+1)) (A.gd (Z.R64 (e+1)) (f h k o (a+1) p s t u (e+1)))
def F.cb (e:D44):Nat→Int→Int→Int→Int→Int→Int→Int→Int→Int→Option (D44×Int)
 |0,_,_,_,_,_,_,_,_,_=>none
 |f+1,u,w,x,a,h,k,o,p,s=>if s<e.2.2.2.1 then((A.ix [e.2.2.2.2.1,e.2.2.2.2.2.1,e.2.2.2.2.2.2.1,e.2.2.2.2.2.2.2] s).bind fun t=>((A.ix [h,k,o,p] a).bind fun z=>(A.gd (Z.R64 (a+1)) (A.gd (Z.R64 (s+1)) ((F.cb e f) u w x (a+1) (if a=0 then t else h) (if a=1 then t else k) (if a=2 then t else o) (if a=3 then t else p) (s+1))))))else((F.aa (u,w,x,a,(h,k,o,p))).bind fun y=>(if y≠0 then(some ((0,0,0,0,(0,0,0,0)),12))else(some ((u,w,x,a,(h,k,o,p)),0))))
def F.bp (k:D44)(h:D44):Nat→Int→Int→Int→Int→Int→Int→Int→Int→Int→Option (D44×Int)
 |0,_,_,_,_,_,_,_,_,_=>none
 |f+1,x,y,z,a,o,p,s,t,u=>if u<h.2.1 then(A.gd (Z.R64 (u-k.2.1)) ((A.ix [k.2.2.2.2.1,k.2.2.2.2.2.1,k.2.2.2.2.2.2.1,k.2.2.2.2.2.2.2] (u-k.2.1)).bind fun e=>((A.ix [o,p,s,t] a).bind fun B=>(A.gd (Z.R64 (h.2.1-1)) (if u=h.2.1-1 then((A.ix [(if a=0 then e else o),(if a=1 then e else p),(if a=2 then e else s),(if a=3 then e else t)] a).bind fun w=>(A.gd (Z.R64 (w+h.2.2.1)) ((A.ix [(if a=0 then e else o),(if a=1 then e else p),(if a=2 then e else s),(if a=3 then e else t)] a).bind fun E=>(F.ca (F.bp k h f) x y z a u (if a=0 then w+h.2.2.1 else(if a=0 then e else o)) (if a=1 then w+h.2.2.1 else(if a=1 then e else p)) (if a=2 then w+h.2.2.1 else(if a=2 then e else s)) (if a=3 then w+h.2.2.1 else(if a=3 then e else t))))))else(F.ca (F.bp k h f) x y z a u (if a=0 then e else o) (if a=1 then e else p) (if a=2 then e else s) (if a=3 then e else t)))))))else(F.cb h A.FU x y z a o p s t 0)
def F.cc (a:D44)(e:D44)(f:Int):Option (D44×Int):=F.bp a e A.FU a.1 (min a.2.1 e.2.1) f 0 0 0 0 0 a.2.1
def F.cd (e:D44)(a:D44)(f:Int):Option (D44×Int):=if a.2.1≤e.2.1 then(A.gd (Z.R64 (f+a.2.2.1)) (F.cc e a (f+a.2.2.1)))else(F.cc e a f)
def F.ce (a:D44)(e:D44)(f:Bool):Option (D44×Int):=if f=true then(some ((0,0,0,0,(0,0,0,0)),20))else(A.gd (Z.R64 (a.2.1+a.2.2.2.1)) (if a.2.1+a.2.2.2.1≠e.1 then(some ((0,0,0,0,(0,0,0,0)),11))else(if a.2.1≤e.2.1 then(F.cd a e a.2.2.1)else(F.cd a e 0))))
def F.b7 (a:D44)(e:D44):Option (D44×Int):=(F.aa a).bind fun f=>(if f≠0 then(F.ce a e true)else((F.aa e).bind fun h=>(F.ce a e (decide (h≠0)))))
theorem o_bG (o:D44)(k:D44)(b3:A.h6 o.1)(an:A.h6 o.2.1)(b4:A.h6 o.2.2.1)(bl:A.h6 o.2.2.2.1)(a5:A.h6 o.2.2.2.2.1)(a6:A.h6 o.2.2.2.2.2.1)(a7:A.h6 o.2.2.2.2.2.2.1)(a8:A.h6 o.2.2.2.2.2.2.2)(bm:A.h6 k.1)(b5:A.h6 k.2.1)(bq:A.h6 k.2.2.1)(br:A.h6 k.2.2.2.1)(af:A.h6 k.2.2.2.2.1)(ag:A.h6 k.2.2.2.2.2.1)(ah:A.h6 k.2.2.2.2.2.2.1)(ai:A.h6 k.2.2.2.2.2.2.2)(r:D44×Int)(h:F.b7 o k=some r):
    A.Ct Tryz.prog 20 [(A.raf o),(A.raf k)] [] [] (fun v H'=>v=.tuple #[(A.raf r.1),A.i r.2]∧H'=[]∧A.h6 r.1.1∧A.h6 r.1.2.1∧A.h6 r.1.2.2.1∧A.h6 r.1.2.2.2.1∧A.h6 r.1.2.2.2.2.1∧A.h6 r.1.2.2.2.2.2.1∧A.h6 r.1.2.2.2.2.2.2.1∧A.h6 r.1.2.2.2.2.2.2.2∧A.h6 r.2):=by
 refine J1 Tryz.func20 rfl Tryz.ntmps20 rfl fun w0 F0=>?_;rw[F.b7]at h;refine Jv 1 ?_;refine Vc 0 (cs:=(A.rab o)) fun g1=>?_;refine Vc 1 (cs:=(A.rab k)) fun g2=>?_;refine J6 2 (cs:=l4a) Tryz.zeroValue45 fun g3=>?_;refine J0 1 [] (Jw 2 ?_);refine J4 [2,3,4] [0,1,2] (fun nl nh=>∃(y4:Bool),nl=[(16,.bool y4)]∧nh=[]∧F.ce o k y4=some r) ?_ ?_
 ·refine Jv 0 ?_;refine Jz [0] [] [.b 0 0] [(9,(A.raf o))] ?_;refine Vw 3 [] h (o_n o b3 an b4 bl a5 a6 a7 a8) .nil ?_;rintro bt - h _ _ ⟨rfl,rfl,hr82⟩;refine Ve ?_;refine J0 2 [(12,.bool (decide (bt≠0)))] ?_;refine V6 (j:=12) rfl h ?_ ?_<;>intro hb h
  ·refine Jz [] [] [.off,.off,.off,.n] [(16,.bool true)] (Jy ?_);exact Vi ⟨true,rfl,rfl,h⟩
  refine Jz [1] [] [.on (.b 0 0)] [(13,(A.raf k))] ?_;refine Vk (dj:=12) rfl rfl ?_;refine Vw 43 [] h (o_n k bm b5 bq br af ag ah ai) .nil ?_;rintro b6 - h _ _ ⟨rfl,rfl,hr85⟩;refine Ve ?_;refine Jz [] [] [.on .n,.n] [(16,.bool (decide (b6≠0)))] (Jy ?_);exact Vi ⟨(decide (b6≠0)),rfl,rfl,h⟩
 rintro _ _ ⟨y4,rfl,rfl,h⟩;rw[F.ce]at h;refine Ud h ?_ ?_<;>intro hb h
 ·refine Jv 1 ?_;refine J0 1 [(17,.agg #[A.i 0,A.i 0,A.i 0,A.i 0,A.i 0,A.i 0,A.i 0,A.i 0])] ?_;refine Vu 2 [] A.zz8 ?_;refine J0 1 [(5,A.i 20)] (Jw 1 ?_);obtain rfl:=J7 h;exact Vv [] (.tuple #[.agg #[A.i 0,A.i 0,A.i 0,A.i 0,A.i 0,A.i 0,A.i 0,A.i 0],A.i 20]) (fun a w hf hh=>V8 rfl (Uf hf rfl Tryz.isAgg45 Tryz.sizeOf45 (Vt hh 2) rfl) (Vz hf rfl)) (⟨rfl,rfl,J5,J5,J5,J5,J5,J5,J5,J5,(Vd .i64 (20) rfl)⟩)
 refine Jv 4 ?_;have⟨bu,h⟩:=Vq h;refine A.q [0,1] [] [.n,.b 0 1,.n,.b 0 3,.n,.n,.b 1 0,.n] [Z.R64 (o.2.1+o.2.2.2.1)] [(25,.bool (decide (o.2.1+o.2.2.2.1≠k.1)))] bu (Jw 1 ?_);refine Vr h ?_ ?_<;>intro hb h
 ·refine Jv 1 ?_;refine J0 1 [(26,.agg #[A.i 0,A.i 0,A.i 0,A.i 0,A.i 0,A.i 0,A.i 0,A.i 0])] ?_;refine Vu 2 [] A.zz8 ?_;refine J0 1 [(5,A.i 11)] (Jw 1 ?_);obtain rfl:=J7 h;exact Vv [] (.tuple #[.agg #[A.i 0,A.i 0,A.i 0,A.i 0,A.i 0,A.i 0,A.i 0,A.i 0],A.i 11]) (fun a w hf hh=>V8 rfl (Uf hf rfl Tryz.isAgg45 Tryz.sizeOf45 (Vt hh 2) rfl) (Vz hf rfl)) (⟨rfl,rfl,J5,J5,J5,J5,J5,J5,J5,J5,(Vd .i64 (11) rfl)⟩)
 refine Jv 3 ?_;refine Jz [0,1] [] [.n,.b 0 0,.n,.b 0 1,.n,.b 1 1,.n,.n] [(34,.agg #[A.i o.1,A.i (min o.2.1 k.2.1),A.i 0,A.i 0,A.i 0,A.i 0,A.i 0,A.i 0])] ?_;refine J6 83 (cs:=l4a) Tryz.zeroValue45 fun N=>?_;refine Vu 83 [] [A.i o.1,A.i (min o.2.1 k.2.1),A.i 0,A.i 0,A.i 0,A.i 0,A.i 0,A.i 0] ?_;refine Jw 1 ?_;refine J4 [2,3,4,6] [0,1,2] (fun nl nh=>∃(y7:Int),nl=[]∧nh=[(83,.blk N 45 [A.i o.1,A.i (min o.2.1 k.2.1),A.i y7,A.i 0,A.i 0,A.i 0,A.i 0,A.i 0])]∧A.h6 y7∧F.cd o k y7=some r) ?_ ?_
 ·refine Jv 1 ?_;refine Jz [1,0] [] [.n,.b 0 1,.n,.b 1 1,.n] [(39,.bool (decide (o.2.1≤k.2.1)))] (Jw 1 ?_);refine Vr h ?_ ?_<;>intro hb h
  ·refine Jv 0 ?_;refine Jz [0] [] [.n,.b 0 2,.n] [(41,A.i o.2.2.1),(42,.pointer (some ⟨N,2,none⟩))] ?_;refine Un 83 [] (new:=[A.i o.2.2.1]) (cs':=[A.i o.1,A.i (min o.2.1 k.2.1),A.i o.2.2.1,A.i 0,A.i 0,A.i 0,A.i 0,A.i 0]) ?_;refine Jy ?_;exact Vi ⟨o.2.2.1,rfl,rfl,b4,h⟩
  refine Vy 1 ?_;exact Vi ⟨0,rfl,rfl,J5,h⟩
 rintro _ _ ⟨y7,rfl,rfl,bv,h⟩;rw[F.cd]at h;refine J4 [2,3,4,6] [0,1,2] (fun nl nh=>∃(y9:Int),nl=[]∧nh=[(83,.blk N 45 [A.i o.1,A.i (min o.2.1 k.2.1),A.i y9,A.i 0,A.i 0,A.i 0,A.i 0,A.i 0])]∧A.h6 y9∧F.cc o k y9=some r) ?_ ?_
 ·refine Jv 1 ?_;refine Jz [1,0] [] [.n,.b 0 1,.n,.b 1 1,.n] [(47,.bool (decide (k.2.1≤o.2.1)))] (Jw 1 ?_);refine Vr h ?_ ?_<;>intro hb h
  ·refine Jv 0 ?_;have⟨b9,h⟩:=Vq h;refine A.q [83,1] [] [.n,.b 0 2,.n,.b 1 2,.n,.n] [Z.R64 (y7+k.2.2.1)] [(52,A.i (y7+k.2.2.1)),(53,.pointer (some ⟨N,2,none⟩))] b9 ?_;refine Un 83 [] (new:=[A.i (y7+k.2.2.1)]) (cs':=[A.i o.1,A.i (min o.2.1 k.2.1),A.i (y7+k.2.2.1),A.i 0,A.i 0,A.i 0,A.i 0,A.i 0]) ?_;refine Jy ?_;exact Vi ⟨(y7+k.2.2.1),rfl,rfl,(J2 b9),h⟩
  refine Vy 1 ?_;exact Vi ⟨y7,rfl,rfl,bv,h⟩
 rintro _ _ ⟨y9,rfl,rfl,bw,h⟩;rw[F.cc]at h;refine Jv 2 ?_;refine Jz [0] [] [.n,.b 0 1,.n] [(7,A.i o.2.1)] (Jw 2 ?_);refine Vo [2,3,4,6] [0,1,2] (fun f nl nh=>∃(O:Int),∃(U:Int),∃(V:Int),∃(p:Int),∃(u:Int),∃(x:Int),∃(y:Int),∃(z:Int),∃(a2:Int),nl=[(7,A.i a2)]∧nh=[(83,.blk N 45 [A.i O,A.i U,A.i V,A.i p,A.i u,A.i x,A.i y,A.i z])]∧A.h6 O∧A.h6 U∧A.h6 V∧A.h6 p∧A.h6 u∧A.h6 x∧A.h6 y∧A.h6 z∧A.h6 a2∧F.bp o k f O U V p u x y z a2=some r) ⟨o.1,(min o.2.1 k.2.1),y9,0,0,0,0,0,o.2.1,rfl,rfl,b3,(A.has_min an b5),bw,J5,J5,J5,J5,J5,an,h⟩ ?_;rintro ao _ _ ⟨O,U,V,p,u,x,y,z,a2,rfl,rfl,bb,bc,bd,bx,ap,aq,ar,au,c6,h⟩;rcases ao with _|ao
 ·exact Vm h
 rw[F.bp]at h;refine Jv 2 ?_;refine Jz [1] [] [.n,.n,.b 0 1,.n] [(59,.bool (decide (a2<k.2.1)))] (Jw 1 ?_);refine Vr h ?_ ?_<;>intro hb h
 ·refine V3 5 ?_;refine Vl mixed 11 12 (A.mb 12 0) ?_;have⟨bz,h⟩:=Vq h;refine Us J3 [] [0,1,2,83] [83,0] [] (A.mb 12 639) 4 [(0,.n),(2,.n),(3,.n),(6,.n),(9,.n),(1,.b 0 3),(4,.b 1 1),(5,.n)] [68,71,63,67] [Z.R64 (a2-o.2.1)] [(68,.pointer (some ⟨g1,4,none⟩)),(71,.pointer (some ⟨N,4,none⟩)),(63,A.i p),(67,A.i (a2-o.2.1))] bz ?_;have⟨s,a3,h⟩:=Vx h;refine A.pkb 0 338 (fun v:Int=>A.i v) [o.2.2.2.2.1,o.2.2.2.2.2.1,o.2.2.2.2.2.2.1,o.2.2.2.2.2.2.2] 4 a3 ?_;refine Vf J3 [0,1,2,83] l4g 7 (A.mb 12 767) rfl (fun a w hf hh=>V0 Tryz.underlying43 Tryz.sizeOf2 (hf.eval rfl) (hf.eval rfl) (Uq a3).1 (Uq a3).2) ?_;refine Vh J3 l4g l4g [] [338] (A.mb 12 1023) 2 [(8,.e 0 0)] [(70,A.i s)] ?_;have⟨c7,aj,h⟩:=Vx h;refine A.pkb 83 339 (fun v:Int=>A.i v) [u,x,y,z] 4 aj ?_;refine Vf J3 l4g [0,1,2,83,338,339] 10 (A.mb 12 2047) rfl (fun a w hf hh=>V0 Tryz.underlying43 Tryz.sizeOf2 (hf.eval rfl) (hf.eval rfl) (Uq aj).1 (Uq aj).2) ?_;refine J8 11 ?_;refine A.AL.stb 83 [339] aj (A.arr4 (Q:=fun i=>[A.i O,A.i U,A.i V,A.i p,A.i (if i=0 then s else u),A.i (if i=1 then s else x),A.i (if i=2 then s else y),A.i (if i=3 then s else z)]=List.set [A.i O,A.i U,A.i V,A.i p,A.i u,A.i x,A.i y,A.i z] (4+i.toNat*1) (A.i s)) aj rfl rfl rfl rfl) ?_;refine Ut (A.mb 12 4095) ?_;refine J9 ?_;refine Uy 1 ?_;refine J4 [2,3,4,6,7] [0,1,2] (fun nl nh=>∃(ab:Int),∃(ac:Int),∃(ad:Int),∃(ae:Int),nl=[]∧nh=[(83,.blk N 45 [A.i O,A.i U,A.i V,A.i p,A.i ab,A.i ac,A.i ad,A.i ae])]∧A.h6 ab∧A.h6 ac∧A.h6 ad∧A.h6 ae∧F.ca (F.bp o k ao) O U V p a2 ab ac ad ae=some r) ?_ ?_
  ·refine Jv 1 ?_;have⟨c0,h⟩:=Vq h;refine A.q [1] [] [.n,.n,.b 0 1,.n,.n] [Z.R64 (k.2.1-1)] [(77,.bool (decide (a2=k.2.1-1)))] c0 (Jw 1 ?_);refine Vr h ?_ ?_<;>intro hb h
   ·refine Vl mixed 10 11 (A.mb 11 0) ?_;refine Vh J3 [] l4g [83,1] [] (A.mb 11 359) 5 [(0,.n),(2,.n),(5,.n),(8,.n),(1,.b 0 3),(6,.b 1 2)] [(80,.pointer (some ⟨N,4,none⟩)),(86,.pointer (some ⟨N,4,none⟩)),(79,A.i p),(84,A.i k.2.2.1)] ?_;have⟨a4,av,h⟩:=Vx h;refine A.pkb 83 340 (fun v:Int=>A.i v) [(if p=0 then s else u),(if p=1 then s else x),(if p=2 then s else y),(if p=3 then s else z)] 4 av ?_;refine Vf J3 l4g l4i 3 (A.mb 11 367) rfl (fun a w hf hh=>V0 Tryz.underlying43 Tryz.sizeOf2 (hf.eval rfl) (hf.eval rfl) (Uq av).1 (Uq av).2) ?_;have⟨ak,h⟩:=Vq h;refine Us J3 l4i l4i [] [340] (A.mb 11 511) 2 [(4,.e 0 0),(7,.n)] [85] [Z.R64 (a4+k.2.2.1)] [(85,A.i (a4+k.2.2.1))] ak ?_;have⟨c8,al,h⟩:=Vx h;refine A.pkb 83 341 (fun v:Int=>A.i v) [(if p=0 then s else u),(if p=1 then s else x),(if p=2 then s else y),(if p=3 then s else z)] 4 al ?_;refine Vf J3 l4i [0,1,2,83,338,340,341] 9 (A.mb 11 1023) rfl (fun a w hf hh=>V0 Tryz.underlying43 Tryz.sizeOf2 (hf.eval rfl) (hf.eval rfl) (Uq al).1 (Uq al).2) ?_;refine J8 10 ?_;refine A.AL.stb 83 [340,341] al (A.arr4 (Q:=fun i=>[A.i O,A.i U,A.i V,A.i p,A.i (if i=0 then a4+k.2.2.1 else(if p=0 then s else u)),A.i (if i=1 then a4+k.2.2.1 else(if p=1 then s else x)),A.i (if i=2 then a4+k.2.2.1 else(if p=2 then s else y)),A.i (if i=3 then a4+k.2.2.1 else(if p=3 then s else z))]=List.set [A.i O,A.i U,A.i V,A.i p,A.i (if p=0 then s else u),A.i (if p=1 then s else x),A.i (if p=2 then s else y),A.i (if p=3 then s else z)] (4+i.toNat*1) (A.i (a4+k.2.2.1))) al rfl rfl rfl rfl) ?_;refine Ut (A.mb 11 2047) ?_;refine J9 ?_;exact Vi ⟨(if p=0 then a4+k.2.2.1 else(if p=0 then s else u)),(if p=1 then a4+k.2.2.1 else(if p=1 then s else x)),(if p=2 then a4+k.2.2.1 else(if p=2 then s else y)),(if p=3 then a4+k.2.2.1 else(if p=3 then s else z)),rfl,rfl,(A.ite_has (J2 ak) (A.ite_has (Uj a3 (Qb.2 ⟨a5,(Qb.2 ⟨a6,(Qb.2 ⟨a7,(Qb.2 ⟨a8,(by simp)⟩)⟩)⟩)⟩)) ap)),(A.ite_has (J2 ak) (A.ite_has (Uj a3 (Qb.2 ⟨a5,(Qb.2 ⟨a6,(Qb.2 ⟨a7,(Qb.2 ⟨a8,(by simp)⟩)⟩)⟩)⟩)) aq)),(A.ite_has (J2 ak) (A.ite_has (Uj a3 (Qb.2 ⟨a5,(Qb.2 ⟨a6,(Qb.2 ⟨a7,(Qb.2 ⟨a8,(by simp)⟩)⟩)⟩)⟩)) ar)),(A.ite_has (J2 ak) (A.ite_has (Uj a3 (Qb.2 ⟨a5,(Qb.2 ⟨a6,(Qb.2 ⟨a7,(Qb.2 ⟨a8,(by simp)⟩)⟩)⟩)⟩)) au)),h⟩
   refine Vy 1 ?_;exact Vi ⟨(if p=0 then s else u),(if p=1 then s else x),(if p=2 then s else y),(if p=3 then s else z),rfl,rfl,(A.ite_has (Uj a3 (Qb.2 ⟨a5,(Qb.2 ⟨a6,(Qb.2 ⟨a7,(Qb.2 ⟨a8,(by simp)⟩)⟩)⟩)⟩)) ap),(A.ite_has (Uj a3 (Qb.2 ⟨a5,(Qb.2 ⟨a6,(Qb.2 ⟨a7,(Qb.2 ⟨a8,(by simp)⟩)⟩)⟩)⟩)) aq),(A.ite_has (Uj a3 (Qb.2 ⟨a5,(Qb.2 ⟨a6,(Qb.2 ⟨a7,(Qb.2 ⟨a8,(by simp)⟩)⟩)⟩)⟩)) ar),(A.ite_has (Uj a3 (Qb.2 ⟨a5,(Qb.2 ⟨a6,(Qb.2 ⟨a7,(Qb.2 ⟨a8,(by simp)⟩)⟩)⟩)⟩)) au),h⟩
  rintro _ _ ⟨ab,ac,ad,ae,rfl,rfl,c1,c2,c3,c4,h⟩;rw[F.ca]at h;refine Jv 0 ?_;have⟨be,h⟩:=Vq h;refine A.q [83] [] [.n,.b 0 3,.n,.n] [Z.R64 (p+1)] [(90,A.i (p+1)),(91,.pointer (some ⟨N,3,none⟩))] be ?_;refine Un 83 [] (new:=[A.i (p+1)]) (cs':=[A.i O,A.i U,A.i V,A.i (p+1),A.i ab,A.i ac,A.i ad,A.i ae]) ?_;refine Vb 2 ?_;have⟨bg,h⟩:=Vq h;refine Ub 3 [Z.R64 (a2+1)] [(7,A.i (a2+1))] bg (Jy ?_);exact Vi ⟨_,Qh _,⟨O,U,V,(p+1),ab,ac,ad,ae,(a2+1),rfl,rfl,bb,bc,bd,(J2 be),c1,c2,c3,c4,(J2 bg),h⟩⟩
 refine Jv 4 ?_;refine J0 1 [(8,A.i 0)] (Jw 2 ?_);refine Vo [3,4,6] [1,2] (fun f nl nh=>∃(W:Int),∃(X:Int),∃(Y:Int),∃(t:Int),∃(B:Int),∃(E:Int),∃(I:Int),∃(J:Int),∃(a9:Int),nl=[(8,A.i a9)]∧nh=[(83,.blk N 45 [A.i W,A.i X,A.i Y,A.i t,A.i B,A.i E,A.i I,A.i J])]∧A.h6 W∧A.h6 X∧A.h6 Y∧A.h6 t∧A.h6 B∧A.h6 E∧A.h6 I∧A.h6 J∧A.h6 a9∧F.cb k f W X Y t B E I J a9=some r) ⟨O,U,V,p,u,x,y,z,0,rfl,rfl,bb,bc,bd,bx,ap,aq,ar,au,J5,h⟩ ?_;rintro bh _ _ ⟨W,X,Y,t,B,E,I,J,a9,rfl,rfl,aw,ax,ay,bi,az,b0,b1,b2,c9,h⟩;rcases bh with _|bh
 ·exact Vm h
 rw[F.cb]at h;refine Jv 2 ?_;refine Jz [1] [] [.n,.n,.b 0 3,.n] [(95,.bool (decide (a9<k.2.2.2.1)))] (Jw 1 ?_);refine Vr h ?_ ?_<;>intro hb h
 ·refine V3 5 ?_;refine Vl mixed 8 9 (A.mb 9 0) ?_;refine Vh J3 [] [1,2,83] [83] [] (A.mb 9 79) 4 [(0,.n),(2,.n),(3,.n),(6,.n),(1,.b 0 3)] [(100,A.i a9),(101,.pointer (some ⟨g2,4,none⟩)),(104,.pointer (some ⟨N,4,none⟩)),(99,A.i t)] ?_;have⟨L,aa,h⟩:=Vx h;refine A.pkb 1 425 (fun v:Int=>A.i v) [k.2.2.2.2.1,k.2.2.2.2.2.1,k.2.2.2.2.2.2.1,k.2.2.2.2.2.2.2] 4 aa ?_;refine Vf J3 [1,2,83] [1,2,83,425] 4 (A.mb 9 95) rfl (fun a w hf hh=>V0 Tryz.underlying43 Tryz.sizeOf2 (hf.eval rfl) (hf.eval rfl) (Uq aa).1 (Uq aa).2) ?_;refine Vh J3 [1,2,83,425] [1,2,83,425] [] [425] (A.mb 9 127) 2 [(5,.e 0 0)] [(103,A.i L)] ?_;have⟨cf,am,h⟩:=Vx h;refine A.pkb 83 426 (fun v:Int=>A.i v) [B,E,I,J] 4 am ?_;refine Vf J3 [1,2,83,425] [1,2,83,425,426] 7 (A.mb 9 255) rfl (fun a w hf hh=>V0 Tryz.underlying43 Tryz.sizeOf2 (hf.eval rfl) (hf.eval rfl) (Uq am).1 (Uq am).2) ?_;refine J8 8 ?_;refine A.AL.stb 83 [426] am (A.arr4 (Q:=fun i=>[A.i W,A.i X,A.i Y,A.i t,A.i (if i=0 then L else B),A.i (if i=1 then L else E),A.i (if i=2 then L else I),A.i (if i=3 then L else J)]=List.set [A.i W,A.i X,A.i Y,A.i t,A.i B,A.i E,A.i I,A.i J] (4+i.toNat*1) (A.i L)) am rfl rfl rfl rfl) ?_;refine Ut (A.mb 9 511) ?_;refine J9 ?_;refine A.el 1 ?_;have⟨bj,h⟩:=Vq h;refine A.q [83] [] [.n,.b 0 3,.n,.n] [Z.R64 (t+1)] [(108,A.i (t+1)),(109,.pointer (some ⟨N,3,none⟩))] bj ?_;refine Un 83 [] (new:=[A.i (t+1)]) (cs':=[A.i W,A.i X,A.i Y,A.i (t+1),A.i (if t=0 then L else B),A.i (if t=1 then L else E),A.i (if t=2 then L else I),A.i (if t=3 then L else J)]) ?_;refine Vb 2 ?_;have⟨bk,h⟩:=Vq h;refine Ub 3 [Z.R64 (a9+1)] [(8,A.i (a9+1))] bk (Jy ?_);exact Vi ⟨_,Qh _,⟨W,X,Y,(t+1),(if t=0 then L else B),(if t=1 then L else E),(if t=2 then L else I),(if t=3 then L else J),(a9+1),rfl,rfl,aw,ax,ay,(J2 bj),(A.ite_has (Uj aa (Qb.2 ⟨af,(Qb.2 ⟨ag,(Qb.2 ⟨ah,(Qb.2 ⟨ai,(by simp)⟩)⟩)⟩)⟩)) az),(A.ite_has (Uj aa (Qb.2 ⟨af,(Qb.2 ⟨ag,(Qb.2 ⟨ah,(Qb.2 ⟨ai,(by simp)⟩)⟩)⟩)⟩)) b0),(A.ite_has (Uj aa (Qb.2 ⟨af,(Qb.2 ⟨ag,(Qb.2 ⟨ah,(Qb.2 ⟨ai,(by simp)⟩)⟩)⟩)⟩)) b1),(A.ite_has (Uj aa (Qb.2 ⟨af,(Qb.2 ⟨ag,(Qb.2 ⟨ah,(Qb.2 ⟨ai,(by simp)⟩)⟩)⟩)⟩)) b2),(J2 bk),h⟩⟩
 refine Jv 4 ?_;refine Jz [83] [] [.b 0 0] [(110,.agg #[A.i W,A.i X,A.i Y,A.i t,A.i B,A.i E,A.i I,A.i J])] ?_;refine Vw 427 [] h (o_n (W,X,Y,t,(B,E,I,J)) aw ax ay bi az b0 b1 b2) .nil ?_;rintro c5 - h _ _ ⟨rfl,rfl,hr78⟩;refine Ve ?_;refine J0 1 [(112,.bool (decide (c5≠0)))] (Jw 1 ?_);refine Vr h ?_ ?_<;>intro hb h
 ·refine Jv 1 ?_;refine J0 1 [(113,.agg #[A.i 0,A.i 0,A.i 0,A.i 0,A.i 0,A.i 0,A.i 0,A.i 0])] ?_;refine Vu 2 [] A.zz8 ?_;refine J0 1 [(5,A.i 12)] (Jw 1 ?_);obtain rfl:=J7 h;exact Vv [] (.tuple #[.agg #[A.i 0,A.i 0,A.i 0,A.i 0,A.i 0,A.i 0,A.i 0,A.i 0],A.i 12]) (fun a w hf hh=>V8 rfl (Uf hf rfl Tryz.isAgg45 Tryz.sizeOf45 (Vt hh 2) rfl) (Vz hf rfl)) (⟨rfl,rfl,J5,J5,J5,J5,J5,J5,J5,J5,(Vd .i64 (12) rfl)⟩)
 refine Jv 3 ?_;refine Jz [83] [] [.b 0 0] [(114,.agg #[A.i W,A.i X,A.i Y,A.i t,A.i B,A.i E,A.i I,A.i J])] ?_;refine Vu 2 [] [A.i W,A.i X,A.i Y,A.i t,A.i B,A.i E,A.i I,A.i J] ?_;refine J0 1 [(5,A.i 0)] (Jw 1 ?_);obtain rfl:=J7 h;exact Vv [] (.tuple #[.agg #[A.i W,A.i X,A.i Y,A.i t,A.i B,A.i E,A.i I,A.i J],A.i 0]) (fun a w hf hh=>V8 rfl (Uf hf rfl Tryz.isAgg45 Tryz.sizeOf45 (Vt hh 2) rfl) (Vz hf rfl)) (⟨rfl,rfl,aw,ax,ay,bi,az,b0,b1,b2,J5⟩)
def F.ew (a:Int)(e:Int)(f:Int)(h:Int):Option (D44×Int):=(F.aa (a,e,f,h,(0,0,0,0))).bind fun k=>(if k≠0 then(some ((0,0,0,0,(0,0,0,0)),11))else(some ((a,e,f,h,(0,0,0,0)),0)))
theorem o_aj (e:Int)(f:Int)(h:Int)(k:Int)(p:A.h6 e)(s:A.h6 f)(t:A.h6 h)(u:A.h6 k)(r:D44×Int)(o:F.ew e f h k=some r):
    A.Ct Tryz.prog 51 [A.i e,A.i f,A.i h,A.i k] [] [] (fun v H'=>v=.tuple #[(A.raf r.1),A.i r.2]∧H'=[]∧A.h6 r.1.1∧A.h6 r.1.2.1∧A.h6 r.1.2.2.1∧A.h6 r.1.2.2.2.1∧A.h6 r.1.2.2.2.2.1∧A.h6 r.1.2.2.2.2.2.1∧A.h6 r.1.2.2.2.2.2.2.1∧A.h6 r.1.2.2.2.2.2.2.2∧A.h6 r.2):=by
 refine J1 Tryz.func51 rfl Tryz.ntmps51 rfl fun y z=>?_;rw[F.ew]at o;refine Jv 1 ?_;refine J6 0 (cs:=l4a) Tryz.zeroValue45 fun B=>?_;refine J0 1 [] (Vb 2 ?_);refine J0 5 [(15,.agg #[A.i e,A.i f,A.i h,A.i k,A.i 0,A.i 0,A.i 0,A.i 0])] ?_;refine J6 1 (cs:=l4a) Tryz.zeroValue45 fun E=>?_;refine Vu 1 [] [A.i e,A.i f,A.i h,A.i k,A.i 0,A.i 0,A.i 0,A.i 0] ?_;refine Vb 3 ?_;refine Jz [1] [] [.b 0 0] [(16,.agg #[A.i e,A.i f,A.i h,A.i k,A.i 0,A.i 0,A.i 0,A.i 0])] ?_;refine Vw 2 [] o (o_n (e,f,h,k,(0,0,0,0)) p s t u J5 J5 J5 J5) .nil ?_;rintro x - o _ _ ⟨rfl,rfl,hr5⟩;refine Ve ?_;refine J0 1 [(18,.bool (decide (x≠0)))] (Jw 1 ?_);refine Vr o ?_ ?_<;>intro I o
 ·refine Jv 1 ?_;refine J0 1 [(19,.agg #[A.i 0,A.i 0,A.i 0,A.i 0,A.i 0,A.i 0,A.i 0,A.i 0])] ?_;refine Vu 0 [] A.zz8 ?_;refine J0 1 [(9,A.i 11)] (Jw 1 ?_);obtain rfl:=J7 o;exact Vv [] (.tuple #[.agg #[A.i 0,A.i 0,A.i 0,A.i 0,A.i 0,A.i 0,A.i 0,A.i 0],A.i 11]) (fun a w hf hh=>V8 rfl (Uf hf rfl Tryz.isAgg45 Tryz.sizeOf45 (Vt hh 0) rfl) (Vz hf rfl)) (⟨rfl,rfl,J5,J5,J5,J5,J5,J5,J5,J5,(Vd .i64 (11) rfl)⟩)
 refine Jv 3 ?_;refine Jz [1] [] [.b 0 0] [(20,.agg #[A.i e,A.i f,A.i h,A.i k,A.i 0,A.i 0,A.i 0,A.i 0])] ?_;refine Vu 0 [] [A.i e,A.i f,A.i h,A.i k,A.i 0,A.i 0,A.i 0,A.i 0] ?_;refine J0 1 [(9,A.i 0)] (Jw 1 ?_);obtain rfl:=J7 o;exact Vv [] (.tuple #[.agg #[A.i e,A.i f,A.i h,A.i k,A.i 0,A.i 0,A.i 0,A.i 0],A.i 0]) (fun a w hf hh=>V8 rfl (Uf hf rfl Tryz.isAgg45 Tryz.sizeOf45 (Vt hh 0) rfl) (Vz hf rfl)) (⟨rfl,rfl,p,s,t,u,J5,J5,J5,J5,J5⟩)
def F.eE (a:Int):Option (D44×Int):=(F.ew a a 0 0).bind fun e=>(some e)
theorem o_aJ (e:Int)(k:A.h6 e)(r:D44×Int)(h:F.eE e=some r):
    A.Ct Tryz.prog 15 [A.i e] [] [] (fun v H'=>v=.tuple #[(A.raf r.1),A.i r.2]∧H'=[]∧A.h6 r.1.1∧A.h6 r.1.2.1∧A.h6 r.1.2.2.1∧A.h6 r.1.2.2.2.1∧A.h6 r.1.2.2.2.2.1∧A.h6 r.1.2.2.2.2.2.1∧A.h6 r.1.2.2.2.2.2.2.1∧A.h6 r.1.2.2.2.2.2.2.2∧A.h6 r.2):=by
 refine J1 Tryz.func15 rfl Tryz.ntmps15 rfl fun o p=>?_;rw[F.eE]at h;refine Jv 1 ?_;refine J6 0 (cs:=l4a) Tryz.zeroValue45 fun s=>?_;refine J0 1 [] (Vb 2 ?_);refine J0 2 [(4,A.i e),(5,A.i e)] ?_;refine Vw 1 [] h (o_aj e e 0 0 k k J5 J5) .nil ?_;rintro f - h _ _ ⟨rfl,rfl,hr4,hr5,hr6,hr7,hr8,hr9,hr10,hr11,hr12⟩;refine Ve ?_;refine J0 2 [(7,(A.raf f.1)),(8,A.i f.2)] ?_;refine Vu 0 [] (A.rab f.1) ?_;refine J0 1 [(3,A.i f.2)] (Jw 1 ?_);obtain rfl:=J7 h;exact Vv [] (.tuple #[(A.raf f.1),A.i f.2]) (fun a w hf hh=>V8 rfl (Uf hf rfl Tryz.isAgg45 Tryz.sizeOf45 (Vt hh 0) rfl) (Vz hf rfl)) (⟨rfl,rfl,hr4,hr5,hr6,hr7,hr8,hr9,hr10,hr11,hr12⟩)
def F.cD (e:D23)(h:Int):Nat→Int→Option Int
 |0,_=>none
 |f+1,a=>if a<(e.length:Int)then((A.ix e a).bind fun k=>(if k.1=h then(some a)else(A.gd (Z.R64 (a+1)) ((F.cD e h f) (a+1)))))else(some (-1))
def F.cO (a:D23)(e:Int):Option Int:=F.cD a e A.FU 0
theorem o_s(k:D23)(o:Int)(B:A.h6 o)(r:Int)(a:F.cO k o=some r):
    A.Ct Tryz.prog 87 [.agg #[.slice A0_ k.length c1_],A.i o] [(0,.sh (.slice T83) [.slice A0_ k.length c1_] k)] [] (fun v H'=>v=A.i r∧H'=[]∧A.h6 r):=by
 refine J1 Tryz.func87 rfl Tryz.ntmps87 rfl fun E I=>?_;rw[F.cO]at a;refine Jv 1 ?_;refine Vc 1 (cs:=[.slice A0_ k.length c1_]) fun J=>?_;refine J0 1 [] (Vb 3 ?_);refine J0 1 [(5,A.i 0)] (Jw 2 ?_);refine Vo [1,2] l4s (fun f t u=>∃(h:Int),t=[(5,A.i h)]∧u=[]∧A.h6 h∧F.cD k o f h=some r) ⟨0,rfl,rfl,J5,a⟩ ?_;rintro p _ _ ⟨h,rfl,rfl,w,a⟩;rcases p with _|p
 ·exact Vm a
 rw[F.cD]at a;refine Jv 2 ?_;refine Jz [1] [] [.n,.n,.b 0 0,.n,.n] [(10,.bool (decide (h<(k.length:Int))))] (Jw 1 ?_);refine Vr a ?_ ?_<;>intro x a
 ·refine Jv 5 ?_;refine Jz [1] [] [.n,.b 0 0,.n] [(14,.slice A0_ k.length c1_),(15,A.i h)] ?_;have⟨y,z,a⟩:=Vx a;refine V2 0 6 z fun L=>?_;intro N O U V;refine Jz [] [6] [.n,.e 0 0,.n,.n] [(20,.bool (decide (y.1=o)))] (Jw 1 ?_);refine Vr a ?_ ?_<;>intro x a
  ·refine Jv 1 ?_;refine J0 2 [(4,A.i h)] (Jw 1 ?_);obtain rfl:=J7 a;exact Va [] ⟨rfl,rfl,w⟩
  refine Jv 3 ?_;have⟨s,a⟩:=Vq a;refine Ub 3 [Z.R64 (h+1)] [(5,A.i (h+1))] s (Jy ?_);exact Vi ⟨_,Qh _,⟨(h+1),rfl,rfl,(J2 s),a⟩⟩
 refine Jv 3 ?_;refine J0 1 [(4,A.i (-1))] (Jw 1 ?_);obtain rfl:=J7 a;exact Va [] ⟨rfl,rfl,(Vd .i64 (-1) rfl)⟩
def F.dC (e:(List D41)→Int→Option (List D41))(a:Int)(f:List D41):Option (List D41):=A.gd (Z.R64 (a+1)) (e f (a+1))
def F.ch (o:(List D41)→Int→Option (List D41))(s:D23)(p:(List Int))(k:Int)(a:D83):Nat→(List D41)→Int→Option (List D41)
 |0,_,_=>none
 |f+1,h,e=>if e<(a.2.2.1.length:Int)then((A.ix a.2.2.1 e).bind fun w=>((F.cO s w).bind fun x=>((A.ix p x).bind fun t=>(A.gd ((List.length (α:=D41) h+List.length (α:=D41) [((a.1,e),t)])*24≤140737488355328) (A.gd (Z.R64 (e+1)) ((F.ch o s p k a f) (h++[((a.1,e),t)]) (e+1)))))))else(if a.2.1≠15 then((A.ix p k).bind fun u=>(A.gd ((List.length (α:=D41) h+List.length (α:=D41) [((a.1,2),u)])*24≤140737488355328) (F.dC o k (h++[((a.1,2),u)]))))else(F.dC o k h))
def F.bQ (a:D23)(h:(List Int)):Nat→(List D41)→Int→Option (List D41)
 |0,_,_=>none
 |f+1,k,e=>if(bif decide (e<(a.length:Int))then decide (e<(h.length:Int))else false)=true then((A.ix a e).bind fun o=>(F.ch (F.bQ a h f) a h e o A.FU k 0))else(some k)
def F.eg (a:D23)(e:(List Int)):Option (List D41):=F.bQ a e A.FU [] 0
theorem o_aK(u:D23)(z:(List Int))(r:(List D41))(h:F.eg u z=some r):
    A.Ct Tryz.prog 49 [.agg #[.slice A0_ u.length c1_],.slice A2_ z.length c3_] [(0,.sh (.slice T83) [.slice A0_ u.length c1_] u),(1,.ln A.ti A2_ c3_ z)] [] (fun v H'=>∃(A0':Option Addr) (c1':Nat),v=.slice A0' r.length c1'∧H'=[(0,.own T41 42 A0' c1' r)]):=by
 refine J1 Tryz.func49 rfl Tryz.ntmps49 rfl fun w0 F0=>?_;rw[F.eg]at h;refine Jv 1 ?_;refine Vc 2 (cs:=[.slice A0_ u.length c1_]) fun g1=>?_;refine J0 1 [] (Vb 2 ?_);refine J0 1 [(5,.slice none 0 0)] (Vb 3 ?_);refine J0 1 [(6,A.i 0)] (Jw 2 ?_);refine V9 329 T41 42 ?_;refine Vo [1,2] [0,1,2] (fun f L N=>∃(B:List D41),∃(x:Int),∃(E:Option Addr),∃(I:Nat),L=[(5,.slice E B.length I),(6,A.i x)]∧N=[(329,.own T41 42 E I B)]∧A.h6 x∧F.bQ u z f B x=some r) ⟨[],0,none,0,rfl,rfl,J5,h⟩ ?_;rintro W _ _ ⟨B,x,E,I,rfl,rfl,ao,h⟩;rcases W with _|W
 ·exact Vm h
 rw[F.bQ]at h;refine Jv 2 ?_;refine Jz [2] [] [.n,.n,.b 0 0,.n,.n,.n,.sy .n,.sy .n,.sy .n,.sy .n,.pk] [(19,.bool (bif decide (x<(u.length:Int))then decide (x<(z.length:Int))else false))] (Jw 1 ?_);refine Ud h ?_ ?_<;>intro hb h
 ·refine V3 2 ?_;refine J4 [1,2,6] [0,1,2] (fun L N=>∃(O:List D41),∃(X:Option Addr),∃(Y:Nat),L=[(5,.slice X O.length Y)]∧N=[(329,.own T41 42 X Y O)]∧F.dC (F.bQ u z W) x O=some r) ?_ ?_
  ·refine Jv 2 ?_;refine Jz [2] [] [.n,.b 0 0,.n] [(23,.slice A0_ u.length c1_),(24,A.i x)] ?_;have⟨o,ag,h⟩:=Vx h;refine V2 0 606 ag fun a4=>?_;intro a2 a3 ap aq;refine Jz [] [606] [.e 0 0] [(26,.agg #[A.i o.1,A.i o.2.1,.slice a2 o.2.2.1.length a3,A.i o.2.2.2.1.1,A.i o.2.2.2.1.2.1,.string o.2.2.2.1.2.2,.string o.2.2.2.2.1,A.i o.2.2.2.2.2.1,A.i o.2.2.2.2.2.2])] ?_;refine J6 608 (cs:=l4b) Tryz.zeroValue84 fun ar=>?_;refine Vu 608 [] [A.i o.1,A.i o.2.1,.slice a2 o.2.2.1.length a3,A.i o.2.2.2.1.1,A.i o.2.2.2.1.2.1,.string o.2.2.2.1.2.2,.string o.2.2.2.2.1,A.i o.2.2.2.2.2.1,A.i o.2.2.2.2.2.2] ?_;refine Vb 3 ?_;refine J0 1 [(8,A.i 0)] (Jw 2 ?_);refine Vo [1,2,6,7] l4j (fun f L N=>∃(y:List D41),∃(p:Int),∃(J:Option Addr),∃(c21:Nat),L=[(5,.slice J y.length c21),(8,A.i p)]∧N=[(329,.own T41 42 J c21 y)]∧A.h6 p∧F.ch (F.bQ u z W) u z x o f y p=some r) ⟨B,0,E,I,rfl,rfl,J5,h⟩ ?_;rintro a5 _ _ ⟨y,p,J,c21,rfl,rfl,ah,h⟩;rcases a5 with _|a5
   ·exact Vm h
   rw[F.ch]at h;refine Jv 2 ?_;refine Jz [608] [] [.n,.n,.b 0 2,.n,.n] [(31,.bool (decide (p<(o.2.2.1.length:Int))))] (Jw 1 ?_);refine Vr h ?_ ?_<;>intro hb h
   ·refine V3 4 ?_;refine Vl mixed 19 19 (A.mb 19 0) ?_;refine Vh J3 [] l4j [2,608] [] (A.mb 19 1023) 9 [(0,.n),(1,.n),(3,.n),(5,.n),(6,.b 0 0),(7,.n),(9,.n),(2,.b 1 0),(8,.b 1 2),(4,.n)] [(34,.slice J y.length c21),(39,.slice A2_ z.length c3_),(40,.agg #[.slice A0_ u.length c1_]),(43,A.i p),(42,.slice a2 o.2.2.1.length a3),(38,.agg #[A.i o.1,A.i p])] ?_;have⟨a6,a7,h⟩:=Vx h;refine Uh 607 699 a7 fun ai=>?_;intro au av aj;refine Vf J3 l4j l4f 10 (A.mb 19 2047) rfl (fun a w hf hh=>Vj (t:=A.ti) a7 aj hf) ?_;refine Vh J3 l4f l4f [] [699] (A.mb 19 4095) 7 [(11,.e 0 0)] [(45,A.i a6)] ?_;refine J8 12 ?_;refine Vw 700 [] h (o_s A0_ c1_ u a6 ai) (.s 0 .nil) ?_;rintro aw - h _ _ ⟨rfl,rfl,hr34⟩;refine Ve ?_;refine Vg (A.mb 19 8191) l4f ?_;have⟨U,a8,h⟩:=Vx h;refine Vn 1 740 a8 fun ak=>?_;intro ax ay al;refine Vf J3 l4f l4d 13 (A.mb 19 16383) rfl (fun a w hf hh=>Vj (t:=A.ti) a8 al hf) ?_;refine Vh J3 l4d l4d [] [740] (A.mb 19 65535) 3 [(14,.e 0 0),(15,.n)] [(49,.agg #[A.i o.1,A.i p,A.i U])] ?_;refine J8 16 ?_;refine Vp 741 (ty:=T41) (cs:=[A.i o.1,A.i p,A.i U]) [((o.1,p),U)] ⟨⟨⟨⟨rfl,a4.1⟩,⟨rfl,ah⟩⟩,⟨rfl,ak⟩⟩,rfl⟩ (fun az=>?_) Tryz.zeroValue42 Tryz.sizeOf42
    refine Vg (A.mb 19 131071) l4d ?_;refine J8 17 ?_;have⟨hl44,h⟩:=Vq h;refine V1 (k:=329) [] (Uk (k:=741) rfl) inf42 hl44 fun a9 aa=>?_;refine Vg (A.mb 19 262143) l4d ?_;refine Vh J3 l4d [0,1,2,329,607,608,699,740,741] [] [] (A.mb 19 524287) 0 [(18,.n)] [(5,.slice a9 ((y++[((o.1,p),U)]).length) aa)] (J9 ?_);refine A.el 2 ?_;have⟨ab,h⟩:=Vq h;refine Ub 3 [Z.R64 (p+1)] [(8,A.i (p+1))] ab (Jy ?_);exact Vi ⟨_,Qh _,⟨(y++[((o.1,p),U)]),(p+1),a9,aa,rfl,rfl,(J2 ab),h⟩⟩
   refine Jv 3 ?_;refine Jz [608] [] [.n,.b 0 1,.n] [(54,.bool (decide (o.2.1≠15)))] (Jw 1 ?_);refine Vr h ?_ ?_<;>intro hb h
   ·refine Vl mixed 12 12 (A.mb 12 0) ?_;refine Vh J3 [] l4j [608] [] (A.mb 12 63) 6 [(0,.n),(1,.n),(4,.n),(5,.n),(2,.b 0 0),(3,.n)] [(55,.slice J y.length c21),(59,.slice A2_ z.length c3_),(60,A.i x),(58,.agg #[A.i o.1,A.i 2])] ?_;have⟨V,ac,h⟩:=Vx h;refine Vn 1 742 ac fun am=>?_;intro b0 b1 an;refine Vf J3 l4j l4e 6 (A.mb 12 127) rfl (fun a w hf hh=>Vj (t:=A.ti) ac an hf) ?_;refine Vh J3 l4e l4e [] [742] (A.mb 12 511) 3 [(7,.e 0 0),(8,.n)] [(63,.agg #[A.i o.1,A.i 2,A.i V])] ?_;refine J8 9 ?_;refine Vp 743 (ty:=T41) (cs:=[A.i o.1,A.i 2,A.i V]) [((o.1,2),V)] ⟨⟨⟨⟨rfl,a4.1⟩,⟨rfl,(Vd .i64 (2) rfl)⟩⟩,⟨rfl,am⟩⟩,rfl⟩ (fun b2=>?_) Tryz.zeroValue42 Tryz.sizeOf42
    refine Vg (A.mb 12 1023) l4e ?_;refine J8 10 ?_;have⟨hl55,h⟩:=Vq h;refine V1 (k:=329) [] (Uk (k:=743) rfl) inf42 hl55 fun ad ae=>?_;refine Vg (A.mb 12 2047) l4e ?_;refine Vh J3 l4e [0,1,2,329,607,608,742,743] [] [] (A.mb 12 4095) 0 [(11,.n)] [(5,.slice ad ((y++[((o.1,2),V)]).length) ae)] (J9 ?_);refine A.ee 1 ?_;exact Vi ⟨(y++[((o.1,2),V)]),ad,ae,rfl,rfl,h⟩
   refine Vy 2 ?_;exact Vi ⟨y,J,c21,rfl,rfl,h⟩
  rintro _ _ ⟨O,X,Y,rfl,rfl,h⟩;rw[F.dC]at h;refine Jv 0 ?_;have⟨af,h⟩:=Vq h;refine Ub 3 [Z.R64 (x+1)] [(6,A.i (x+1))] af (Jy ?_);exact Vi ⟨_,Qh _,⟨O,(x+1),X,Y,rfl,rfl,(J2 af),h⟩⟩
 refine Jv 3 ?_;refine J0 2 [(4,.slice E B.length I)] (Jw 1 ?_);obtain rfl:=J7 h;exact Va [(0,329)] ⟨E,I,rfl,rfl⟩
def F.ex (e:D23)(h:Int):Option (D83×Bool):=(F.cO e h).bind fun f=>(if f<0 then(some ((0,0,[],(0,0,ByteArray.mk #[]),ByteArray.mk #[],0,0),false))else((A.ix e f).bind fun a=>(A.gd ((List.length (α:=Int) []+List.length (α:=Int) a.2.2.1)*8≤140737488355328) (some ((a.1,a.2.1,[]++a.2.2.1,a.2.2.2.1,a.2.2.2.2.1,a.2.2.2.2.2.1,a.2.2.2.2.2.2),true)))))
theorem o_aS(o:D23)(x:Int)(B:A.h6 x)(r:D83×Bool)(h:F.ex o x=some r):
    A.Ct Tryz.prog 88 [.agg #[.slice A0_ o.length c1_],A.i x] [(0,.sh (.slice T83) [.slice A0_ o.length c1_] o)] [] (fun v H'=>∃(A0':Option Addr) (c1':Nat),v=.tuple #[.agg #[A.i r.1.1,A.i r.1.2.1,.slice A0' r.1.2.2.1.length c1',A.i r.1.2.2.2.1.1,A.i r.1.2.2.2.1.2.1,.string r.1.2.2.2.1.2.2,.string r.1.2.2.2.2.1,A.i r.1.2.2.2.2.2.1,A.i r.1.2.2.2.2.2.2],.bool r.2]∧H'=[(0,.sh A.TI [.slice A0' r.1.2.2.1.length c1'] r.1.2.2.1)]∧A.h6 r.1.1∧A.h6 r.1.2.1∧A.h6 r.1.2.2.2.1.1∧A.h6 r.1.2.2.2.1.2.1∧r.1.2.2.2.1.2.2.size≤maxLen∧r.1.2.2.2.2.1.size≤maxLen∧A.h6 r.1.2.2.2.2.2.1∧A.h6 r.1.2.2.2.2.2.2):=by
 refine J1 Tryz.func88 rfl Tryz.ntmps88 rfl fun J L=>?_;rw[F.ex]at h;refine Jv 1 ?_;refine Vc 1 (cs:=[.slice A0_ o.length c1_]) fun N=>?_;refine J6 2 (cs:=l4b) Tryz.zeroValue84 fun O=>?_;refine J0 1 [] (Vb 2 ?_);refine Jz [1] [] [.b 0 0,.n] [(8,.agg #[.slice A0_ o.length c1_]),(9,A.i x)] ?_;refine Vw 3 [] h (o_s A0_ c1_ o x B) (.s 0 .nil) ?_;rintro y - h _ _ ⟨rfl,rfl,hr5⟩;refine Ve ?_;refine J0 1 [(6,A.i y)] (Vb 3 ?_);refine J0 2 [(12,.bool (decide (y<0)))] (Jw 1 ?_);refine Vr h ?_ ?_<;>intro U h
 ·refine Jv 1 ?_;refine J0 1 [(13,.agg #[A.i 0,A.i 0,.slice none 0 0,A.i 0,A.i 0,.string (ByteArray.mk #[]),.string (ByteArray.mk #[]),A.i 0,A.i 0])] ?_;refine Vu 2 [] [A.i 0,A.i 0,.slice none 0 0,A.i 0,A.i 0,.string (ByteArray.mk #[]),.string (ByteArray.mk #[]),A.i 0,A.i 0] ?_;refine J0 1 [(5,.bool false)] (Jw 1 ?_);obtain rfl:=J7 h;refine A.snil 43 A.ti ?_;exact Vv [(0,43)] (.tuple #[.agg #[A.i 0,A.i 0,.slice none 0 0,A.i 0,A.i 0,.string (ByteArray.mk #[]),.string (ByteArray.mk #[]),A.i 0,A.i 0],.bool false]) (fun a w hf hh=>V8 rfl (Uf hf rfl Tryz.isAgg84 Tryz.sizeOf84 (Vt hh 2) rfl) (Vz hf rfl)) (⟨none,0,rfl,rfl,J5,J5,J5,J5,(A.szl (ByteArray.mk #[]) rfl),(A.szl (ByteArray.mk #[]) rfl),J5,J5⟩)
 refine Jv 3 ?_;refine Jz [1] [] [.n,.b 0 0,.n] [(15,.slice A0_ o.length c1_),(16,A.i y)] ?_;have⟨f,E,h⟩:=Vx h;refine V2 0 44 E fun p=>?_;intro z c10 V W;refine Jz [] [44] [.e 0 0] [(18,.agg #[A.i f.1,A.i f.2.1,.slice z f.2.2.1.length c10,A.i f.2.2.2.1.1,A.i f.2.2.2.1.2.1,.string f.2.2.2.1.2.2,.string f.2.2.2.2.1,A.i f.2.2.2.2.2.1,A.i f.2.2.2.2.2.2])] ?_;refine J6 46 (cs:=l4b) Tryz.zeroValue84 fun I=>?_;refine Vu 46 [] [A.i f.1,A.i f.2.1,.slice z f.2.2.1.length c10,A.i f.2.2.2.1.1,A.i f.2.2.2.1.2.1,.string f.2.2.2.1.2.2,.string f.2.2.2.2.1,A.i f.2.2.2.2.2.1,A.i f.2.2.2.2.2.2] ?_;refine Vb 2 ?_;refine Jz [46] [] [.n,.b 0 2] [(20,.slice z f.2.2.1.length c10)] ?_;refine V9 47 A.ti 3 ?_;have⟨hl16,h⟩:=Vq h;refine V1 (k:=47) [] (A.rowS (k:=45) rfl) inf3 hl16 fun t u=>?_;refine J0 1 [(22,.pointer (some ⟨I,2,none⟩))] ?_;refine Un 46 [] (new:=[.slice t (([]++f.2.2.1).length) u]) (cs':=[A.i f.1,A.i f.2.1,.slice t (([]++f.2.2.1).length) u,A.i f.2.2.2.1.1,A.i f.2.2.2.1.2.1,.string f.2.2.2.1.2.2,.string f.2.2.2.2.1,A.i f.2.2.2.2.2.1,A.i f.2.2.2.2.2.2]) ?_;refine Vb 2 ?_;refine Jz [46] [] [.b 0 0] [(23,.agg #[A.i f.1,A.i f.2.1,.slice t (([]++f.2.2.1).length) u,A.i f.2.2.2.1.1,A.i f.2.2.2.1.2.1,.string f.2.2.2.1.2.2,.string f.2.2.2.2.1,A.i f.2.2.2.2.2.1,A.i f.2.2.2.2.2.2])] ?_;refine Vu 2 [] [A.i f.1,A.i f.2.1,.slice t (([]++f.2.2.1).length) u,A.i f.2.2.2.1.1,A.i f.2.2.2.1.2.1,.string f.2.2.2.1.2.2,.string f.2.2.2.2.1,A.i f.2.2.2.2.2.1,A.i f.2.2.2.2.2.2] ?_;refine J0 1 [(5,.bool true)] (Jw 1 ?_);obtain rfl:=J7 h;refine A.frz 47 [] ?_;exact Vv [(0,47)] (.tuple #[.agg #[A.i f.1,A.i f.2.1,.slice t (([]++f.2.2.1).length) u,A.i f.2.2.2.1.1,A.i f.2.2.2.1.2.1,.string f.2.2.2.1.2.2,.string f.2.2.2.2.1,A.i f.2.2.2.2.2.1,A.i f.2.2.2.2.2.2],.bool true]) (fun a w hf hh=>V8 rfl (Uf hf rfl Tryz.isAgg84 Tryz.sizeOf84 (Vt hh 2) rfl) (Vz hf rfl)) (⟨t,u,rfl,rfl,p.1,p.2.1,p.2.2.2.1.1,p.2.2.2.1.2.1,p.2.2.2.1.2.2,p.2.2.2.2.1,p.2.2.2.2.2.1,p.2.2.2.2.2.2⟩)
def F.eF (a:Int):Option (D44×Int):=(F.ew a a 0 1).bind fun e=>(some e)
theorem o_bp (e:Int)(k:A.h6 e)(r:D44×Int)(h:F.eF e=some r):
    A.Ct Tryz.prog 129 [A.i e] [] [] (fun v H'=>v=.tuple #[(A.raf r.1),A.i r.2]∧H'=[]∧A.h6 r.1.1∧A.h6 r.1.2.1∧A.h6 r.1.2.2.1∧A.h6 r.1.2.2.2.1∧A.h6 r.1.2.2.2.2.1∧A.h6 r.1.2.2.2.2.2.1∧A.h6 r.1.2.2.2.2.2.2.1∧A.h6 r.1.2.2.2.2.2.2.2∧A.h6 r.2):=by
 refine J1 Tryz.func129 rfl Tryz.ntmps129 rfl fun o p=>?_;rw[F.eF]at h;refine Jv 1 ?_;refine J6 0 (cs:=l4a) Tryz.zeroValue45 fun s=>?_;refine J0 1 [] (Vb 2 ?_);refine J0 2 [(4,A.i e),(5,A.i e)] ?_;refine Vw 1 [] h (o_aj e e 0 1 k k J5 (Vd .i64 (1) rfl)) .nil ?_;rintro f - h _ _ ⟨rfl,rfl,hr4,hr5,hr6,hr7,hr8,hr9,hr10,hr11,hr12⟩;refine Ve ?_;refine J0 2 [(7,(A.raf f.1)),(8,A.i f.2)] ?_;refine Vu 0 [] (A.rab f.1) ?_;refine J0 1 [(3,A.i f.2)] (Jw 1 ?_);obtain rfl:=J7 h;exact Vv [] (.tuple #[(A.raf f.1),A.i f.2]) (fun a w hf hh=>V8 rfl (Uf hf rfl Tryz.isAgg45 Tryz.sizeOf45 (Vt hh 0) rfl) (Vz hf rfl)) (⟨rfl,rfl,hr4,hr5,hr6,hr7,hr8,hr9,hr10,hr11,hr12⟩)
def F.eG (a:Int):Option (D44×Int):=if a<1 then(some ((0,0,0,0,(0,0,0,0)),11))else(A.gd (Z.R64 (a-1)) ((F.ew a (a-1) 0 0).bind fun e=>(some e)))
theorem o_bq (e:Int)(o:A.h6 e)(r:D44×Int)(f:F.eG e=some r):
    A.Ct Tryz.prog 130 [A.i e] [] [] (fun v H'=>v=.tuple #[(A.raf r.1),A.i r.2]∧H'=[]∧A.h6 r.1.1∧A.h6 r.1.2.1∧A.h6 r.1.2.2.1∧A.h6 r.1.2.2.2.1∧A.h6 r.1.2.2.2.2.1∧A.h6 r.1.2.2.2.2.2.1∧A.h6 r.1.2.2.2.2.2.2.1∧A.h6 r.1.2.2.2.2.2.2.2∧A.h6 r.2):=by
 refine J1 Tryz.func130 rfl Tryz.ntmps130 rfl fun p s=>?_;rw[F.eG]at f;refine Jv 1 ?_;refine J6 0 (cs:=l4a) Tryz.zeroValue45 fun t=>?_;refine J0 1 [] (Vb 3 ?_);refine J0 2 [(5,.bool (decide (e<1)))] (Jw 1 ?_);refine Vr f ?_ ?_<;>intro u f
 ·refine Jv 1 ?_;refine J0 1 [(6,.agg #[A.i 0,A.i 0,A.i 0,A.i 0,A.i 0,A.i 0,A.i 0,A.i 0])] ?_;refine Vu 0 [] A.zz8 ?_;refine J0 1 [(3,A.i 11)] (Jw 1 ?_);obtain rfl:=J7 f;exact Vv [] (.tuple #[.agg #[A.i 0,A.i 0,A.i 0,A.i 0,A.i 0,A.i 0,A.i 0,A.i 0],A.i 11]) (fun a w hf hh=>V8 rfl (Uf hf rfl Tryz.isAgg45 Tryz.sizeOf45 (Vt hh 0) rfl) (Vz hf rfl)) (⟨rfl,rfl,J5,J5,J5,J5,J5,J5,J5,J5,(Vd .i64 (11) rfl)⟩)
 refine Jv 3 ?_;have⟨k,f⟩:=Vq f;refine Ub 3 [Z.R64 (e-1)] [(7,A.i e),(9,A.i (e-1))] k ?_;refine Vw 1 [] f (o_aj e (e-1) 0 0 o (J2 k) J5 J5) .nil ?_;rintro h - f _ _ ⟨rfl,rfl,hr5,hr6,hr7,hr8,hr9,hr10,hr11,hr12,hr13⟩;refine Ve ?_;refine J0 2 [(11,(A.raf h.1)),(12,A.i h.2)] ?_;refine Vu 0 [] (A.rab h.1) ?_;refine J0 1 [(3,A.i h.2)] (Jw 1 ?_);obtain rfl:=J7 f;exact Vv [] (.tuple #[(A.raf h.1),A.i h.2]) (fun a w hf hh=>V8 rfl (Uf hf rfl Tryz.isAgg45 Tryz.sizeOf45 (Vt hh 0) rfl) (Vz hf rfl)) (⟨rfl,rfl,hr5,hr6,hr7,hr8,hr9,hr10,hr11,hr12,hr13⟩)
def F.eO (a:Int):Option (D44×Int):=(F.ew a a 1 0).bind fun e=>(some e)
theorem o_bH (e:Int)(k:A.h6 e)(r:D44×Int)(h:F.eO e=some r):
    A.Ct Tryz.prog 131 [A.i e] [] [] (fun v H'=>v=.tuple #[(A.raf r.1),A.i r.2]∧H'=[]∧A.h6 r.1.1∧A.h6 r.1.2.1∧A.h6 r.1.2.2.1∧A.h6 r.1.2.2.2.1∧A.h6 r.1.2.2.2.2.1∧A.h6 r.1.2.2.2.2.2.1∧A.h6 r.1.2.2.2.2.2.2.1∧A.h6 r.1.2.2.2.2.2.2.2∧A.h6 r.2):=by
 refine J1 Tryz.func131 rfl Tryz.ntmps131 rfl fun o p=>?_;rw[F.eO]at h;refine Jv 1 ?_;refine J6 0 (cs:=l4a) Tryz.zeroValue45 fun s=>?_;refine J0 1 [] (Vb 2 ?_);refine J0 2 [(4,A.i e),(5,A.i e)] ?_;refine Vw 1 [] h (o_aj e e 1 0 k k (Vd .i64 (1) rfl) J5) .nil ?_;rintro f - h _ _ ⟨rfl,rfl,hr4,hr5,hr6,hr7,hr8,hr9,hr10,hr11,hr12⟩;refine Ve ?_;refine J0 2 [(7,(A.raf f.1)),(8,A.i f.2)] ?_;refine Vu 0 [] (A.rab f.1) ?_;refine J0 1 [(3,A.i f.2)] (Jw 1 ?_);obtain rfl:=J7 h;exact Vv [] (.tuple #[(A.raf f.1),A.i f.2]) (fun a w hf hh=>V8 rfl (Uf hf rfl Tryz.isAgg45 Tryz.sizeOf45 (Vt hh 0) rfl) (Vz hf rfl)) (⟨rfl,rfl,hr4,hr5,hr6,hr7,hr8,hr9,hr10,hr11,hr12⟩)
def F.cp (a:Int)(e:Int)(f:Int)(h:Int)(k:Int)(o:Int)(p:Int)(s:Int):Option D44:=some (a,e,f,h,(k,o,p,s))
def F.dZ (o:D83)(k:Int):Option D44:=(F.eE k).bind fun a=>(if o.2.1=12 then((F.eF k).bind fun e=>(F.cp e.1.1 e.1.2.1 e.1.2.2.1 e.1.2.2.2.1 e.1.2.2.2.2.1 e.1.2.2.2.2.2.1 e.1.2.2.2.2.2.2.1 e.1.2.2.2.2.2.2.2))else(if o.2.1=13 then((F.eG k).bind fun f=>(F.cp f.1.1 f.1.2.1 f.1.2.2.1 f.1.2.2.2.1 f.1.2.2.2.2.1 f.1.2.2.2.2.2.1 f.1.2.2.2.2.2.2.1 f.1.2.2.2.2.2.2.2))else(if o.2.1=14 then((F.eO k).bind fun h=>(F.cp h.1.1 h.1.2.1 h.1.2.2.1 h.1.2.2.2.1 h.1.2.2.2.2.1 h.1.2.2.2.2.2.1 h.1.2.2.2.2.2.2.1 h.1.2.2.2.2.2.2.2))else(F.cp a.1.1 a.1.2.1 a.1.2.2.1 a.1.2.2.2.1 a.1.2.2.2.2.1 a.1.2.2.2.2.2.1 a.1.2.2.2.2.2.2.1 a.1.2.2.2.2.2.2.2))))
theorem o_bc(e:D83)(h:Int)(a6:A.h6 e.1)(a7:A.h6 e.2.1)(a8:A.h6 e.2.2.2.1.1)(a9:A.h6 e.2.2.2.1.2.1)(aa:e.2.2.2.1.2.2.size≤maxLen)(ab:e.2.2.2.2.1.size≤maxLen)(ac:A.h6 e.2.2.2.2.2.1)(ad:A.h6 e.2.2.2.2.2.2)(J:A.h6 h)(r:D44)(f:F.dZ e h=some r):
    A.Ct Tryz.prog 89 [.agg #[A.i e.1,A.i e.2.1,.slice A2_ e.2.2.1.length c3_,A.i e.2.2.2.1.1,A.i e.2.2.2.1.2.1,.string e.2.2.2.1.2.2,.string e.2.2.2.2.1,A.i e.2.2.2.2.2.1,A.i e.2.2.2.2.2.2],A.i h] [(0,.sh A.TI [.slice A2_ e.2.2.1.length c3_] e.2.2.1)] [] (fun v H'=>v=(A.raf r)∧H'=[]∧A.h6 r.1∧A.h6 r.2.1∧A.h6 r.2.2.1∧A.h6 r.2.2.2.1∧A.h6 r.2.2.2.2.1∧A.h6 r.2.2.2.2.2.1∧A.h6 r.2.2.2.2.2.2.1∧A.h6 r.2.2.2.2.2.2.2):=by
 refine J1 Tryz.func89 rfl Tryz.ntmps89 rfl fun w0 F0=>?_;rw[F.dZ]at f;refine Jv 1 ?_;refine Vc 1 (cs:=[A.i e.1,A.i e.2.1,.slice A2_ e.2.2.1.length c3_,A.i e.2.2.2.1.1,A.i e.2.2.2.1.2.1,.string e.2.2.2.1.2.2,.string e.2.2.2.2.1,A.i e.2.2.2.2.2.1,A.i e.2.2.2.2.2.2]) fun g1=>?_;refine J6 2 (cs:=l4a) Tryz.zeroValue45 fun g2=>?_;refine Vb 2 ?_;refine J0 1 [(8,A.i h)] ?_;refine Vw 3 [] f (o_aJ h J) .nil ?_;rintro k - f _ _ ⟨rfl,rfl,hr5,hr6,hr7,hr8,hr9,hr10,hr11,hr12,hr13⟩;refine Ve ?_;refine J0 3 [(10,(A.raf k.1)),(11,A.i k.2)] ?_;refine J6 43 (cs:=l4a) Tryz.zeroValue45 fun N=>?_;refine Vu 43 [] (A.rab k.1) ?_;refine J0 1 [] (Jw 1 ?_);refine J4 [4,5] [2] (fun O U=>∃(t:Int),∃(u:Int),∃(x:Int),∃(y:Int),∃(z:Int),∃(B:Int),∃(E:Int),∃(I:Int),O=[]∧U=[(43,.blk N 45 [A.i t,A.i u,A.i x,A.i y,A.i z,A.i B,A.i E,A.i I])]∧A.h6 t∧A.h6 u∧A.h6 x∧A.h6 y∧A.h6 z∧A.h6 B∧A.h6 E∧A.h6 I∧F.cp t u x y z B E I=some r) ?_ ?_
 ·refine Jv 1 ?_;refine Jz [1] [] [.n,.b 0 1] [(13,A.i e.2.1)] (Vb 3 ?_);refine J0 2 [(14,.bool (decide (e.2.1=12)))] (Jw 1 ?_);refine Vr f ?_ ?_<;>intro L f
  ·refine Jv 0 ?_;refine J0 1 [(17,A.i h)] ?_;refine Vw 44 [] f (o_bp h J) .nil ?_;rintro o - f _ _ ⟨rfl,rfl,hr33,hr34,hr35,hr36,hr37,hr38,hr39,hr40,hr41⟩;refine Ve ?_;refine J0 3 [(19,(A.raf o.1))] ?_;refine Vu 43 [] (A.rab o.1) ?_;refine Ug 1 ?_;exact Vi ⟨o.1.1,o.1.2.1,o.1.2.2.1,o.1.2.2.2.1,o.1.2.2.2.2.1,o.1.2.2.2.2.2.1,o.1.2.2.2.2.2.2.1,o.1.2.2.2.2.2.2.2,rfl,rfl,hr33,hr34,hr35,hr36,hr37,hr38,hr39,hr40,f⟩
  refine Jv 1 ?_;refine J0 2 [(21,.bool (decide (e.2.1=13)))] (Jw 1 ?_);refine Vr f ?_ ?_<;>intro L f
  ·refine Jv 0 ?_;refine J0 1 [(24,A.i h)] ?_;refine Vw 84 [] f (o_bq h J) .nil ?_;rintro p - f _ _ ⟨rfl,rfl,hr44,hr45,hr46,hr47,hr48,hr49,hr50,hr51,hr52⟩;refine Ve ?_;refine J0 3 [(26,(A.raf p.1))] ?_;refine Vu 43 [] (A.rab p.1) ?_;refine Ug 1 ?_;exact Vi ⟨p.1.1,p.1.2.1,p.1.2.2.1,p.1.2.2.2.1,p.1.2.2.2.2.1,p.1.2.2.2.2.2.1,p.1.2.2.2.2.2.2.1,p.1.2.2.2.2.2.2.2,rfl,rfl,hr44,hr45,hr46,hr47,hr48,hr49,hr50,hr51,f⟩
  refine Jv 1 ?_;refine J0 2 [(28,.bool (decide (e.2.1=14)))] (Jw 1 ?_);refine Vr f ?_ ?_<;>intro L f
  ·refine Jv 0 ?_;refine J0 1 [(31,A.i h)] ?_;refine Vw 124 [] f (o_bH h J) .nil ?_;rintro s - f _ _ ⟨rfl,rfl,hr55,hr56,hr57,hr58,hr59,hr60,hr61,hr62,hr63⟩;refine Ve ?_;refine J0 3 [(33,(A.raf s.1))] ?_;refine Vu 43 [] (A.rab s.1) ?_;refine Ug 1 ?_;exact Vi ⟨s.1.1,s.1.2.1,s.1.2.2.1,s.1.2.2.2.1,s.1.2.2.2.2.1,s.1.2.2.2.2.2.1,s.1.2.2.2.2.2.2.1,s.1.2.2.2.2.2.2.2,rfl,rfl,hr55,hr56,hr57,hr58,hr59,hr60,hr61,hr62,f⟩
  refine Vy 2 ?_;exact Vi ⟨k.1.1,k.1.2.1,k.1.2.2.1,k.1.2.2.2.1,k.1.2.2.2.2.1,k.1.2.2.2.2.2.1,k.1.2.2.2.2.2.2.1,k.1.2.2.2.2.2.2.2,rfl,rfl,hr5,hr6,hr7,hr8,hr9,hr10,hr11,hr12,f⟩
 rintro _ _ ⟨t,u,x,y,z,B,E,I,rfl,rfl,V,W,X,Y,a2,a3,a4,a5,f⟩;rw[F.cp]at f;refine Jv 1 ?_;refine Jz [43] [] [.b 0 0] [(35,.agg #[A.i t,A.i u,A.i x,A.i y,A.i z,A.i B,A.i E,A.i I])] ?_;refine Vu 2 [] [A.i t,A.i u,A.i x,A.i y,A.i z,A.i B,A.i E,A.i I] ?_;refine Jw 1 ?_;obtain rfl:=J7 f;exact Vv [] (.agg #[A.i t,A.i u,A.i x,A.i y,A.i z,A.i B,A.i E,A.i I]) (fun a w hf hh=>Uz rfl (Uf hf rfl Tryz.isAgg45 Tryz.sizeOf45 (Vt hh 2) rfl)) (⟨rfl,rfl,V,W,X,Y,a2,a3,a4,a5⟩)
end Go.Proofs.YtlbnpmfggfbdoaaGreatDoor
end
