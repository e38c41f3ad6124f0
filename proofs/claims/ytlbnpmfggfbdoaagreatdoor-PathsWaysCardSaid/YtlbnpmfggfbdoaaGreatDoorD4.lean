/- Functions on data, what they tell, and that the code computes them. -/
import Derived.Test.YtlbnpmfggfbdoaaGreatDoorD0
import Derived.Test.YtlbnpmfggfbdoaaGreatDoorD1
import Derived.Test.YtlbnpmfggfbdoaaGreatDoorD2
import Derived.Test.YtlbnpmfggfbdoaaGreatDoorD3
set_option linter.unusedVariables false
set_option linter.unusedSimpArgs false
set_option maxRecDepth 20000
set_option maxHeartbeats 8000000
set_option synthInstance.maxSize 1000000
set_option synthInstance.maxHeartbeats 400000
section
namespace Go.Proofs.YtlbnpmfggfbdoaaGreatDoor
open Go.RowKit
abbrev l4a:List Value:=A.zz8
abbrev l4b:List Value:=[A.i 0,A.i 0,.slice none 0 0,A.i 0,A.i 0,.string (ByteArray.mk #[]),.string (ByteArray.mk #[]),A.i 0,A.i 0]
abbrev l4c:List Nat:=[0,1,2,889,890,930,1014,1079,1080,1081,1082,1083,1084,1085]
abbrev l4d:List Nat:=[1,2,4,45,12664,12831,12832,12833]
abbrev l4e:List Nat:=[0,1,2,888,889,890,930,931]
abbrev l4f:List Nat:=[0,1,2,489,889,890,930,1014,1079,1080,1081,1082]
abbrev l4g:List Nat:=[0,1,2,489,889,890,930,1014,1079,1080,1081,1082,1083]
abbrev l4h:List Nat:=[0,1,2,607,608,699,740]
abbrev l4i:List Nat:=[0,1,2,607,608,742]
abbrev l4j:List Nat:=[0,1,2,889,890,930,1014,1079,1080,1081,1082,1083]
abbrev l4k:List Nat:=[0,1,2,607,608,699]
abbrev l4l:List Nat:=[0,1,2,489,889,890,930,1014,1079,1080]
abbrev l4m:List Nat:=[0,1,2,83,338]
abbrev l4n:List Nat:=[0,1,2,889,890,930,1014]
abbrev l4o:List Nat:=[0,1,2,83,338,340]
abbrev l4p:List Nat:=[0,1,2,607,608]
abbrev l4q:List Nat:=[0,1,2]
abbrev l4r:List Nat:=[0,1,2,3]
abbrev l4s:List Nat:=[0,1]
variable(A0_ A1_ A2_ A4_ A5_ A7_ A10_ A12_ A13_:Option Addr)(b0_ g0_ b1_ c1_ c2_ g2_ c3_ b4_ b5_ c5_ b6_ c6_ c8_ g8_ g10_ c11_ c13_ c14_:Nat)
def F.c5 (e:(List D44)→Int→Option (List D44))(a:Int)(f:List D44):Option (List D44):=A.gd (Z.R64 (a+1)) (e f (a+1))
def F.bt (a:(List D44))(k:D44):Nat→(List D44)→Int→Option (List D44)
 |0,_,_=>none
 |f+1,e,h=>if h<(a.length:Int)then((A.ix a h).bind fun p=>((F.bC p k).bind fun o=>(if o.2=0 then(A.gd ((List.length (α:=D44) e+List.length (α:=D44) [o.1])*64≤140737488355328) (F.c5 (F.bt a k f) h (e++[o.1])))else(F.c5 (F.bt a k f) h e))))else(some e)
def F.dE (a:(List D44))(e:D44):Option (List D44):=F.bt a e A.FU [] 0
theorem o_bc(t:(List D44))(h:D44)(V:A.h6 h.1)(W:A.h6 h.2.1)(X:A.h6 h.2.2.1)(Y:A.h6 h.2.2.2.1)(a2:A.h6 h.2.2.2.2.1)(a3:A.h6 h.2.2.2.2.2.1)(a4:A.h6 h.2.2.2.2.2.2.1)(a5:A.h6 h.2.2.2.2.2.2.2)(r:(List D44))(a:F.dE t h=some r):
    A.Ct Tryz.prog 41 [.slice A0_ t.length c1_,(A.raf h)] [(0,.ln T44 A0_ c1_ t)] [] (fun v H'=>∃(A0':Option Addr) (c1':Nat),v=.slice A0' r.length c1'∧H'=[(0,.own T44 45 A0' c1' r)]):=by
 refine Jv Tryz.func41 rfl Tryz.ntmps41 rfl fun w0 F0=>?_;rw[F.dE]at a;refine Js 1 ?_;refine J8 1 (cs:=(A.rab h)) fun g1=>?_;refine Jw 1 [] (J7 2 ?_);refine Jw 1 [(5,.slice none 0 0)] (J7 3 ?_);refine Jw 3 [(10,.slice A0_ t.length c1_),(11,A.i (t.length:Int)),(12,A.i 0)] (Jt 2 ?_);refine V4 93 T44 45 ?_;refine Vk [3,10,11] l4s (fun f I J=>∃(p:List D44),∃(s:Int),∃(w:Option Addr),∃(x:Nat),I=[(5,.slice w p.length x),(12,A.i s)]∧J=[(93,.own T44 45 w x p)]∧A.h6 s∧F.bt t h f p s=some r) ⟨[],0,none,0,rfl,rfl,J0,a⟩ ?_;rintro L _ _ ⟨p,s,w,x,rfl,rfl,a7,a⟩;rcases L with _|L
 ·exact Vi a
 rw[F.bt]at a;refine Js 1 ?_;refine Jw 1 [(13,.bool (decide (s<(t.length:Int))))] (Jt 2 ?_);refine Vm a ?_ ?_<;>intro hb a
 ·refine V1 2 ?_;refine J2 [3,10,11,12] l4s (fun I J=>∃(y:List D44),∃(z:Option Addr),∃(B:Nat),I=[(5,.slice z y.length B)]∧J=[(93,.own T44 45 z B y)]∧F.c5 (F.bt t h L) s y=some r) ?_ ?_
  ·refine Js 2 ?_;have⟨E,a6,a⟩:=Vu a;refine V7 0 182 a6 fun u=>?_;intro a8 a9;refine Jy [] [182] [.e 0 0] [(15,(A.raf E))] ?_;refine J3 183 (cs:=l4a) Tryz.zeroValue45 fun aa=>?_;refine Vp 183 [] (A.rab E) ?_;refine J7 2 ?_;refine Jy [183,1] [] [.b 0 0,.b 1 0] [(17,(A.raf E)),(18,(A.raf h))] ?_;refine Vs 184 [] a (o_bn E h u.1 u.2.1 u.2.2.1 u.2.2.2.1 u.2.2.2.2.1 u.2.2.2.2.2.1 u.2.2.2.2.2.2.1 u.2.2.2.2.2.2.2 V W X Y a2 a3 a4 a5) .nil ?_;rintro o - a _ _ ⟨rfl,rfl,hr20,hr21,hr22,hr23,hr24,hr25,hr26,hr27,hr28⟩;refine Vb ?_;refine Jw 3 [(20,(A.raf o.1)),(21,A.i o.2)] ?_;refine J3 224 (cs:=l4a) Tryz.zeroValue45 fun ab=>?_;refine Vp 224 [] (A.rab o.1) ?_;refine Jw 1 [(9,A.i o.2)] (J7 2 ?_);refine Jw 2 [(23,.bool (decide (o.2=0)))] (Jt 1 ?_);refine Vm a ?_ ?_<;>intro hb a
   ·refine Js 0 ?_;refine Jy [224] [] [.n,.b 0 0] [(24,.slice w p.length x),(25,(A.raf o.1))] ?_;refine Vq 225 (ty:=T44) (cs:=(A.rab o.1)) [o.1] ⟨⟨⟨rfl,hr20⟩,⟨rfl,hr21⟩,⟨rfl,hr22⟩,⟨rfl,hr23⟩,⟨⟨rfl,hr24⟩,⟨rfl,hr25⟩,⟨rfl,hr26⟩,⟨rfl,hr27⟩⟩⟩,rfl⟩ (fun ac=>?_) Tryz.zeroValue45 Tryz.sizeOf45
    have⟨hl33,a⟩:=Vl a;refine Vy (k:=93) [] (Ui (k:=225) rfl) inf45 hl33 fun N O=>?_;refine Jw 1 [(5,.slice N ((p++[o.1]).length) O)] (Uc 1 ?_);exact Vf ⟨(p++[o.1]),N,O,rfl,rfl,a⟩
   refine Vw 2 ?_;exact Vf ⟨p,w,x,rfl,rfl,a⟩
  rintro _ _ ⟨y,z,B,rfl,rfl,a⟩;rw[F.c5]at a;refine Js 0 ?_;have⟨U,a⟩:=Vl a;refine V5 2 [Z.R64 (s+1)] [(12,A.i (s+1))] U (Ju ?_);exact Vf ⟨_,Qi _,⟨y,(s+1),z,B,rfl,rfl,(Jz U),a⟩⟩
 refine Js 3 ?_;refine Jw 2 [(4,.slice w p.length x)] (Jt 1 ?_);obtain rfl:=J4 a;exact J5 [(0,93)] ⟨w,x,rfl,rfl⟩
def F.dd (a:D39)(e:D39):Option Int:=(F.aL a.1 e.1).bind fun f=>((F.aL a.2 e.2).bind fun h=>((F.cA [f,h]).bind fun k=>(some k)))
theorem o_az (a:D39)(e:D39)(p:A.h6 a.1)(s:A.h6 a.2)(t:A.h6 e.1)(u:A.h6 e.2)(r:Int)(f:F.dd a e=some r):
    A.Ct Tryz.prog 45 [(A.rae a),(A.rae e)] [] [] (fun v H'=>v=A.i r∧H'=[]∧A.h6 r):=by
 refine Jv Tryz.func45 rfl Tryz.ntmps45 rfl fun y z=>?_;rw[F.dd]at f;refine Js 1 ?_;refine J8 0 (cs:=(A.raa a)) fun B=>?_;refine J8 1 (cs:=(A.raa e)) fun E=>?_;refine Jw 1 [] (Jt 2 ?_);refine Vh mixed 13 13 (A.mb 13 0) ?_;refine Ve J1 [] l4s [0,1] [] (A.mb 13 495) 5 [(0,.n),(2,.n),(5,.n),(7,.n),(1,.b 0 0),(3,.b 1 0),(6,.b 0 1),(8,.b 1 1)] [(6,A.i a.1),(8,A.i e.1),(11,A.i a.2),(13,A.i e.2)] ?_;refine J6 4 ?_;refine Vs 2 [] f (o_d a.1 e.1 p t) .nil ?_;rintro h - f _ _ ⟨rfl,rfl,hr5⟩;refine Vb ?_;refine Vc (A.mb 13 511) l4s ?_;refine J6 9 ?_;refine Vs 42 [] f (o_d a.2 e.2 s u) .nil ?_;rintro k - f _ _ ⟨rfl,rfl,hr8⟩;refine Vb ?_;refine Vc (A.mb 13 1023) l4s ?_;refine J6 10 ?_;refine Vq 82 (ty:=A.ti) (cs:=[A.i h,A.i k]) [h,k] ⟨⟨rfl,hr5⟩,⟨⟨rfl,hr8⟩,rfl⟩⟩ (fun w=>?_) Tryz.zeroValue3 Tryz.sizeOf3
 refine Vc (A.mb 13 2047) l4s ?_;refine J6 11 ?_;refine Vs 83 [] f (o_x (some ⟨w,0,none⟩) 2 [h,k]) (.o 82 .nil) ?_;rintro x - f _ _ ⟨rfl,rfl,hr12⟩;refine Vb ?_;refine Vc (A.mb 13 4095) l4s ?_;refine Ve J1 l4s [0,1,82] [] [] (A.mb 13 8191) 0 [(12,.n)] [(4,A.i x)] (J9 ?_);refine Uu 1 ?_;obtain rfl:=J4 f;exact J5 [] ⟨rfl,rfl,hr12⟩
def F.aH (a:D57)(e:D57):Option Int:=(F.dd a.1 e.1).bind fun f=>((F.dd a.2.1 e.2.1).bind fun h=>((F.cA [f,h]).bind fun k=>(some k)))
theorem o_aW(a:D57)(e:D57)(p:A.h6 a.1.1)(s:A.h6 a.1.2)(t:A.h6 a.2.1.1)(u:A.h6 a.2.1.2)(w:A.h6 e.1.1)(x:A.h6 e.1.2)(y:A.h6 e.2.1.1)(z:A.h6 e.2.1.2)(r:Int)(f:F.aH a e=some r):
    A.Ct Tryz.prog 43 [.agg #[A.i a.1.1,A.i a.1.2,A.i a.2.1.1,A.i a.2.1.2,.slice A4_ a.2.2.length c5_],.agg #[A.i e.1.1,A.i e.1.2,A.i e.2.1.1,A.i e.2.1.2,.slice A10_ e.2.2.length c11_]] [(0,.sh (.slice T44) [.slice A4_ a.2.2.length c5_] a.2.2),(1,.sh (.slice T44) [.slice A10_ e.2.2.length c11_] e.2.2)] [] (fun v H'=>v=A.i r∧H'=[]∧A.h6 r):=by
 refine Jv Tryz.func43 rfl Tryz.ntmps43 rfl fun I J=>?_;rw[F.aH]at f;refine Js 1 ?_;refine J8 2 (cs:=[A.i a.1.1,A.i a.1.2,A.i a.2.1.1,A.i a.2.1.2,.slice A4_ a.2.2.length c5_]) fun L=>?_;refine J8 3 (cs:=[A.i e.1.1,A.i e.1.2,A.i e.2.1.1,A.i e.2.1.2,.slice A10_ e.2.2.length c11_]) fun N=>?_;refine Jw 1 [] (Jt 2 ?_);refine Vh mixed 13 13 (A.mb 13 0) ?_;refine Ve J1 [] l4r [2,3] [] (A.mb 13 495) 5 [(0,.n),(2,.n),(5,.n),(7,.n),(1,.b 0 0),(3,.b 1 0),(6,.b 0 2),(8,.b 1 2)] [(6,(A.rae a.1)),(8,(A.rae e.1)),(11,(A.rae a.2.1)),(13,(A.rae e.2.1))] ?_;refine J6 4 ?_;refine Vs 4 [] f (o_az a.1 e.1 p s w x) .nil ?_;rintro h - f _ _ ⟨rfl,rfl,hr5⟩;refine Vb ?_;refine Vc (A.mb 13 511) l4r ?_;refine J6 9 ?_;refine Vs 44 [] f (o_az a.2.1 e.2.1 t u y z) .nil ?_;rintro k - f _ _ ⟨rfl,rfl,hr8⟩;refine Vb ?_;refine Vc (A.mb 13 1023) l4r ?_;refine J6 10 ?_;refine Vq 84 (ty:=A.ti) (cs:=[A.i h,A.i k]) [h,k] ⟨⟨rfl,hr5⟩,⟨⟨rfl,hr8⟩,rfl⟩⟩ (fun B=>?_) Tryz.zeroValue3 Tryz.sizeOf3
 refine Vc (A.mb 13 2047) l4r ?_;refine J6 11 ?_;refine Vs 85 [] f (o_x (some ⟨B,0,none⟩) 2 [h,k]) (.o 84 .nil) ?_;rintro E - f _ _ ⟨rfl,rfl,hr12⟩;refine Vb ?_;refine Vc (A.mb 13 4095) l4r ?_;refine Ve J1 l4r [0,1,2,3,84] [] [] (A.mb 13 8191) 0 [(12,.n)] [(4,A.i E)] (J9 ?_);refine Uu 1 ?_;obtain rfl:=J4 f;exact J5 [] ⟨rfl,rfl,hr12⟩
end Go.Proofs.YtlbnpmfggfbdoaaGreatDoor
end
section
namespace Go.A
open Go.RowKit Go.Z Go.Shelf Go.Proofs Go.Sort
theorem nok_nil: ∀(n k:Nat),nok [] k n=true
 |0,_=>rfl
 |n+1,k=>by rw[nok,nok_nil n (k+1)];rfl
theorem chunks {t:Ty}{w:World}{G:Nat→Prop}{cells:List Value}: ∀(xs:List t.den) (k:Nat),(∀(i:Nat) (x:t.den),xs[i]?=some x→t.rep w G ((cells.drop ((k+i)*t.size)).take t.size) x)→
  ∃zs:List (t.den×List Value),zs.map (·.1)=xs∧(∀(i:Nat) p,zs[i]?=some p→p.2=(cells.drop ((k+i)*t.size)).take t.size)∧∀p∈zs,t.rep w G p.2 p.1
 | [],_,_=>⟨[],rfl,fun i p h=>by simp at h,fun p h=>by cases h⟩
 |x::xs,k,h=>by
  obtain⟨zs,I,J,N⟩:=chunks xs (k+1) fun i y O=>by
   have:=h (i+1) y (by simpa using O)
   rw[show k+(i+1)=k+1+i by omega]at this;exact this
  refine⟨(x,(cells.drop (k*t.size)).take t.size)::zs,by rw[Q3,I],fun i p hp=>?_,fun p hp=>?_⟩
  ·cases i with
   |zero=>simp at hp;subst hp;rw[Yw]
   |succ i=>rw[J i p (by simpa using hp),show k+1+i=k+(i+1) by omega]
  ·rcases Qk.1 hp with rfl|hp
   ·have:=h 0 x rfl;rw[Yw]at this;exact this
   ·exact N p hp
theorem Ct.sortR {P:Program}{ρ:Ren}{f:Nat}(L:SlLaysF0.n6 P ρ)(hf:ρ.f 6=f){t:Ty}[DecidableEq t.den]{e:TypeId}
  (aE: ∀w,(isAgg (ρ.t 24)).run P w=.ok true w) (zE: ∀w,(Go.sizeOf (ρ.t 24)).run P w=.ok t.size w) (A:Option Addr) (c:Nat) (g:Nat) (cmp:t.den→t.den→Option Int)
  (eg: ∀args w,(callFunc g args).run P w=.ok (.enter g args) w)
  (hc: ∀x y r,t.ok x→t.ok y→cmp x y=some r→tele (lv t) fun ps=>tele (lv t) fun qs=>∃R,Ct P g [.agg (cl t x ps).toArray,.agg (cl t y qs).toArray] (hcat (kx 0 (rs t x ps++rs t y qs)) []) [] R∧∀v H',R v H'→v=.int .i64 r)
  (xs r:List t.den) (hm:xs.length<4611686018427387904) (Y:srtF cmp xs=some r):
  Ct P f [.slice A xs.length c,.func (.func g) #[] #[]] [(0,.own t e A c xs)] (obl A) (fun v H'=>v=.tuple #[]∧H'=[(0,.own t e A c r)]∧r.length=xs.length):=fun w F hh=>by
 subst hf
 obtain⟨hord,Y⟩:ordB cmp xs=true∧srtL (cl0 cmp) xs=r:=by
  unfold srtF at Y
  split at Y
  ·rename_i h;exact⟨h,Qq Y⟩
  ·cases Y
 obtain⟨O,tot⟩:=Qik hord
 have hlen:r.length=xs.length:=by rw[←Y];exact(srtL_perm (cl0 cmp) xs).length_eq
 obtain⟨cells,hrow,h1,h2⟩:Own t e 0 w (Fh ⟨0,[],w,obl A,F⟩ [(0,.own t e A c xs)]) A c xs:=hh.hold 0 _ rfl
 by_cases hx0:xs=[]
 ·subst hx0
  obtain rfl:r=[]:=by rw[←Y];rfl
  refine(AnyF.slices_SortFunc_none L A c _ w).mono ?_
  rintro e' w' ⟨rfl,rfl⟩
  exact⟨_,_,rfl,⟨rfl,rfl,rfl⟩,hh⟩
 rcases hrow.2 with⟨hv,hn⟩|⟨b,cap,cur,hv,hb,hg,hnc,hcm,hcs,htake⟩
 ·exact absurd (Wn hn) hx0
 injection hv with hA _ hcap
 subst hA;subst hcap
 obtain⟨G,hGd⟩: ∃G:Nat→Prop,G=Fh ⟨0,[],w,obl (some ⟨b,0,none⟩),F⟩ [(0,.own t e (some ⟨b,0,none⟩) c xs)]:=⟨_,rfl⟩
 rw[←hGd]at h2
 have hGb: ∀k,G k→k∉[b]:=fun k hk hm=>by
  rw[Qj]at hm
  subst hm
  rw[hGd]at hk
  exact hk.1 0 ⟨_,rfl,by simp[Res.bl,obl]⟩
 have hglt:b<w.heap.size:=(Qo.1 hg).1
 have hk:=Qak t
 have hbound: ∀{n i j:Nat},i<n→j<t.size→i*t.size+j<n*t.size:=fun {n i j} hi N=>by
  have:=Q9 t.size (show i+1≤n from hi);rw[Xt,X7]at this;omega
 obtain⟨zs,hz1,hz2,hz3⟩:=chunks (t:=t) (w:=w) (G:=G) (cells:=cells) xs 0 fun i x hi=>by rw[Wc];exact h2 i x hi
 have hzl:zs.length=xs.length:=by rw[←hz1,Qw]
 have J: ∀p∈zs,p.1∈xs:=fun p hp=>by rw[←hz1];exact List.mem_map_of_mem hp
 have hcell: ∀i p,zs[i]?=some p→∀j,j<t.size→cur[i*t.size+j]?=p.2[j]?:=fun i p hp j N=>by
  have hi:=(Qc.1 hp).1
  rw[hz2 i p hp,Wc,Qp N,Wd,←htake,Xc,if_pos (hbound (by omega) N)]
  simp
 have hz0:zs≠[]:=fun e=>hx0 (by rw[←hz1,e];rfl)
 haveI:Inhabited {p // p∈zs}:=⟨⟨zs.head hz0,List.head_mem hz0⟩⟩
 let enc:{p // p∈zs}→List Value:=fun p=>p.1.2
 have he: ∀x,(enc x).length=t.size:=fun x=>Qff t (hz3 x.1 x.2)
 have hone: ∀(x:{p // p∈zs}) (v:Value),v∈enc x→v.oneCell'=true:=fun x v hv=>by
  obtain⟨i,hi⟩:=Xh x.2
  have:enc x=_:=hz2 i x.1 hi
  rw[this]at hv
  exact h1 v (List.mem_of_mem_drop (Ya hv))
 let cf:{p // p∈zs}→{p // p∈zs}→Int:=fun x y=>(cmp x.1.1 y.1.1).getD 0
 have hlt: ∀x y,ltOf cf x y=cl0 cmp x.1.1 y.1.1:=fun x y=>by
  obtain⟨c0,h0⟩:=tot x.1.1 (J _ x.2) y.1.1 (J _ y.2)
  show decide ((cmp x.1.1 y.1.1).getD 0<0)=_
  unfold cl0;rw[h0];rfl
 have hO:SWO (ltOf cf):=by
  refine⟨fun x=>?_,fun x y z I h4=>?_,fun x y z I h4=>?_⟩
  ·rw[hlt]
   cases I:cl0 cmp x.1.1 x.1.1 with
   |false=>rfl
   |true=>rw[O.asym _ (J _ x.2) _ (J _ x.2) I]at I;cases I
  ·rw[hlt]at I h4 ⊢;exact O.trans _ (J _ x.2) _ (J _ y.2) _ (J _ z.2) I h4
  ·rw[hlt]at I h4 ⊢;exact O.nt (J _ x.2) (J _ y.2) (J _ z.2) I h4
 obtain⟨d,hd⟩: ∃d:Array {p // p∈zs},d=zs.attach.toArray:=⟨_,rfl⟩
 have hds:d.size=xs.length:=by rw[hd];simp[hzl]
 have hdg: ∀(i:Nat) (x:{p // p∈zs}),d[i]?=some x→zs[i]?=some x.1:=fun i x hx=>by
  rw[hd,Ws]at hx
  have:=congrArg (Option.map Subtype.val) hx
  rw[←Qu,Yt]at this;exact this
 have hH:HoldsK enc t.size w b 0 d:=fun j N=>by
  rw[size_flatK]at N
  have hi:j / t.size<d.size:=Yy (by rwa[Jl]at N)
  have hu:=Jh j hk
  have hje:j / t.size*t.size+j%t.size=j:=Jn j t.size
  have hx:d[j / t.size]?=some d[j / t.size]:=Wg hi
  obtain⟨_,h4⟩:=Qda enc t.size d hx hu
  rw[hje]at h4
  have h5:=hcell _ _ (hdg _ _ hx) _ hu
  rw[hje]at h5
  refine⟨?_,by simp[World.frozen?,hg]⟩
  rw[Wc,cell_of_row w b j cur e (0,0) hg,h5,h4]
  have hl:j%t.size<(enc d[j / t.size]).length:=by rw[he];exact hu
  have e9:(enc d[j / t.size])[j%t.size]?=some ((enc d[j / t.size])[j%t.size]!):=lgetb hl
  exact e9
 have hchW: ∀(m:Nat) (dk:Array {p // p∈zs}) (os:Array Obj),Ch [b] w (sortWorldK enc t.size w b 0 m dk os):=fun m dk os=>by
  refine⟨rfl,rfl,rfl,?_,fun k hk hn2=>?_⟩
  ·show w.heap.size≤((w.heap.modify b (onCells (putCells id 0 (flatK enc t.size dk))))++os).size
   simp
  ·show((w.heap.modify b (onCells (putCells id 0 (flatK enc t.size dk))))++os)[k]?=_
   rw[Xs (by simpa using hk),Y8,if_neg (fun e=>hn2 (Qj.2 e.symm))]
 have hcl:CmpLays P g #[] enc t.size cf b 0 d.size w:=fun m os dk _ x y=>by
  obtain⟨c0,h0⟩:=tot x.1.1 (J _ x.2) y.1.1 (J _ y.2)
  have hcf:cf x y=c0:=by show(cmp x.1.1 y.1.1).getD 0=c0;rw[h0];rfl
  rw[hcf]
  obtain⟨W,hW⟩: ∃W,W=sortWorldK enc t.size w b 0 m dk os:=⟨_,rfl⟩
  have hCW:Ch [b] w W:=by rw[hW];exact hchW m dk os
  rw[←hW]
  have rp: ∀z:{p // p∈zs},t.rep W (Fh ⟨0,[],W,[],fun _=>True⟩ []) z.1.2 z.1.1:=fun z=>rep_to (hz3 z.1 z.2) hCW fun k hk _=>⟨hGb k hk,⟨fun k2 ⟨_,h,_⟩=>(by cases h),.inl trivial⟩⟩
  obtain⟨ps,hpl,hpc,hps⟩:=rep_cl (B:=Bk []) t (Qaf t (rp x))
  obtain⟨qs,hql,hqc,hqs⟩:=rep_cl (B:=Bk []) t (Qaf t (rp y))
  obtain⟨R,I,h4⟩:=Qan (Qan (hc x.1.1 y.1.1 c0 (rep_ok t (hz3 _ x.2)) (rep_ok t (hz3 _ y.2)) h0) ps hpl) qs hql
  have hp:Hp ⟨0,[],W,[],fun _=>True⟩ (hcat (kx 0 (rs t x.1.1 ps++rs t y.1.1 qs)) []) W:=Hp.adds (Hp.none W _) (nok_nil _ _) fun r Y=>by
   rcases Qn.1 Y with Y|Y
   ·exact⟨(hps r Y).2.1,(hps r Y).2.2,(hps r Y).1⟩
   ·exact⟨(hqs r Y).2.1,(hqs r Y).2.2,(hqs r Y).1⟩
  have key:=(Dr.calls (I W (fun _=>True) hp)).mono (R':=fun e w'=>e=.returned (.int .i64 c0)∧∃q os',w'=grow (W.drewN q) os') fun e w' ⟨⟨v,H',he,Y,hh⟩,hd⟩=>⟨by rw[he,h4 v H' Y],ch_grow hh.ch (hd v he)⟩
  rw[←hpc,←hqc]at key
  exact key
 have key:=AnyQ.slices_SortFunc L t.size aE zE enc he hone cf hO g #[] b 0 c d w eg hcl hH hglt (by rw[hds];exact hm)
 rw[hds]at key
 refine key.mono ?_
 rintro e' w' ⟨rfl,d',n,os,hp,hs,rfl⟩
 clear key
 obtain⟨hsz,_,hperm⟩:=hp
 have hsz2:d'.size=xs.length:=hsz.trans hds
 have hys:d'.toList.map (fun x=>x.1.1)=r:=by
  rw[←Y]
  refine srt_uniq O ?_ ?_
  ·have I:d'.toList.Perm d.toList:=by
    have e1:d'.extract 0 xs.length=d':=by rw[←hsz2];exact Ji
    have e2:d.extract 0 xs.length=d:=by rw[←hds];exact Ji
    rw[e1,e2]at hperm;exact hperm
   have h4:=I.map (fun x:{p // p∈zs}=>x.1.1)
   rw[hd]at h4
   have h5:zs.attach.toArray.toList.map (fun x:{p // p∈zs}=>x.1.1)=xs:=by
    rw[←hz1]
    show zs.attach.map (fun x:{p // p∈zs}=>x.1.1)=_
    have:=congrArg (List.map (·.1)) (Yt zs)
    rw[List.map_map]at this;exact this
   rw[h5]at h4;exact h4
  ·refine Xx.2 fun i j hi N hij=>?_
   rw[Qw,Yp]at hi N
   have I:=hs i j (Xn _) hij (by omega)
   rw[hlt,getElem!_pos d' j (by omega),getElem!_pos d' i (by omega)]at I
   simpa using I
 have hrg: ∀(i:Nat) (x:t.den),r[i]?=some x→∃y,d'[i]?=some y∧y.1.1=x:=fun i x hx=>by
  rw[←hys,Qu,Xo]at hx
  obtain⟨y,I,h4⟩:=Wt.1 hx
  exact⟨y,I,h4⟩
 have hch:=hchW n d' os
 generalize hcd:putCells id 0 (flatK enc t.size d') cur=cur'
 have hheap:(sortWorldK enc t.size w b 0 n d' os).heap[b]?=some (.cells cur' e (0,0)):=by
  show((w.heap.modify b (onCells (putCells id 0 (flatK enc t.size d'))))++os)[b]?=_
  rw[Xs (by simpa using hglt),Y8,if_pos rfl,hg]
  simp only[Wi,onCells,hcd]
 have hcs':cur'.size=cur.size:=by rw[←hcd];simp[putCells]
 have hnk:xs.length*t.size≤cur.size:=by rw[hcs];exact Q9 _ hnc
 have hget: ∀(i:Nat) (y:{p // p∈zs}),d'[i]?=some y→∀j,j<t.size→cur'[i*t.size+j]?=y.1.2[j]?:=fun i y hy j N=>by
  have hi:=(Qo.1 hy).1
  obtain⟨I,h4⟩:=Qda enc t.size d' hy N
  have hb2:i*t.size+j<cur.size:=Q4 (hbound (by omega) N) hnk
  rw[←hcd,put_id,Wg hb2,Wi,if_pos (by rw[size_flatK];exact I),h4]
  have hl:j<(enc y).length:=by rw[he];exact N
  show some (enc y)[j]! =(enc y)[j]?
  exact(lgetb hl).symm
 have hown: ∀F':Nat→Prop,(∀k,G k→k<w.heap.size→F' k)→Own t e 0 (sortWorldK enc t.size w b 0 n d' os) F' (some ⟨b,0,none⟩) c r:=fun F' hF'=>by
  refine⟨cur'.toList.take (r.length*t.size),⟨?_,.inr ⟨b,c,cur',rfl,Xn _,hheap,by omega,hcm,by rw[hcs',hcs],rfl⟩⟩,fun u hu=>?_,fun i x hx=>?_⟩
  ·rw[Qt,Yp (xs:=cur'),hlen,hcs'];omega
  ·obtain⟨j,N,rfl⟩:=Xe hu
   rw[Qt]at N
   have hj2:j<r.length*t.size:=by omega
   have hje:j / t.size*t.size+j%t.size=j:=Jn j t.size
   have hi:j / t.size<d'.size:=by rw[hsz2,←hlen];exact Yy (by rwa[Jl]at hj2)
   have I:=hget _ _ (Wg hi) _ (Jh j hk)
   rw[hje]at I
   rw[List.getElem_take]
   have hjc:j<cur'.size:=by have:=N;rw[Yp (xs:=cur')]at this;omega
   rw[Wg hjc]at I
   rw[Array.getElem_toList]
   exact hone d'[j / t.size] _ (Qg I.symm)
  ·obtain⟨y,hy,rfl⟩:=hrg i x hx
   have hi:=(Qc.1 hx).1
   have e1:((cur'.toList.take (r.length*t.size)).drop (i*t.size)).take t.size=y.1.2:=by
    refine Wu fun j=>?_
    by_cases N:j<t.size
    ·rw[Qp N,Wd,Xc,if_pos (hbound hi N),Xo]
     exact hget i y hy j N
    ·have:=he y
     rw[Q5 (by rw[Qt];omega),Q5 (by show(enc y).length≤j;omega)]
   rw[e1]
   exact rep_to (Qaf t (hz3 y.1 y.2)) hch fun k hk _=>⟨hGb k hk.1,hF' k hk.1 hk.2⟩
 refine⟨_,[(0,.own t e (some ⟨b,0,none⟩) c r)],rfl,⟨rfl,rfl,hlen⟩,?_⟩
 have I:=Hp.ren (Hp.upd (k:=0) (r':=.own t e (some ⟨b,0,none⟩) c r) hh hch (fun k hb2=>⟨_,rfl,hb2⟩) (fun k hb2=>.inl ⟨_,rfl,hb2⟩) (fun j N=>by cases N) fun F' B hF' _ _ _ _=>hown F' fun k hk hlt=>hF' k (by rw[hGd]at hk;exact hk) hlt) [(0,0)] rfl rfl
 exact⟨I.ch,I.hold,I.bnd,I.dis,I.ref⟩
end Go.A
end
section
namespace Go.Proofs.YtlbnpmfggfbdoaaGreatDoor
open Go.RowKit
variable(A0_ A1_ A2_ A4_ A5_ A7_ A10_ A12_ A13_:Option Addr)(b0_ g0_ b1_ c1_ c2_ g2_ c3_ b4_ b5_ c5_ b6_ c6_ c8_ g8_ g10_ c11_ c13_ c14_:Nat)
def F.ar (a:List D57):Option (List D57):=A.gd (a.length<4611686018427387904) (A.srtF (fun x y=>F.aH x y) a)
theorem o_l(a:List D57)(r:List D57)(f:F.ar a=some r):
    A.Ct Tryz.prog 42 [.slice A0_ a.length c1_,.func (.func 43) #[] #[]] [(0,.own T57 58 A0_ c1_ a)] (Z.obl A0_++[]) (fun v H'=>v=.tuple #[]∧H'=[(0,.own T57 58 A0_ c1_ r)]∧r.length=a.length):=by
 have⟨hc,f⟩:=Vl f;rw[Wl]
 exact A.Ct.sortR (t:=T57) (e:=58) Tryz.laysSortFunc42 rfl Tryz.isAgg58 Tryz.sizeOf58 A0_ c1_ 43 (fun x y=>F.aH x y) cf43 (fun x y r hx hy h=>fun k o B0 d0=>⟨_,o_aW k B0 o d0 x y hx.1.1 hx.1.2 hx.2.1.1 hx.2.1.2 hy.1.1 hy.1.2 hy.2.1.1 hy.2.1.2 r h,fun v H' h=>h.1⟩) a r hc f
def F.bD (f:(List (D88×(List D44)))→Option ((List D57)×Int))(h:(List (D88×(List D44)))→Int→Option ((List D57)×Int))(a:Int)(e:List (D88×(List D44)))(k:Bool):Option ((List D57)×Int):=if k=true then(f e)else(A.gd (Z.R64 (a+1)) (h e (a+1)))
def F.ai (a:(List (D88×(List D44)))→Option ((List D57)×Int))(s:(List (D88×(List D44)))→Int→Option ((List D57)×Int))(e:(List D53)×Int)(h:Int)(k:D41):Nat→(List (D88×(List D44)))→Int→Option ((List D57)×Int)
 |0,_,_=>none
 |f+1,o,p=>if p<(e.1.length:Int)then((A.ix e.1 p).bind fun t=>(A.lt (Z.mget ([]:(List D44)) o (k.1,t.1)) fun u=>(if(0:Int)<(u.length:Int)then((F.dE u t.2.2).bind fun x=>((F.ap o (k.1,t.2.1) x).bind fun w=>(F.bD a (F.ai a s e h k f) p w.2 w.1)))else(F.bD a (F.ai a s e h k f) p o false))))else(A.gd (Z.R64 (h+1)) (s o (h+1)))
def F.aC (h:List (D88×(List D44))):Nat→(List Nat)→(List D57)→Option ((List D57)×Int)
 |0,_,_=>none
 |f+1,k,e=>A.dem h k ((F.ar e).bind fun p=>(some (p,0))) fun o a=>(A.gd (decide (A.h6 a.1.1.1)=true∧decide (A.h6 a.1.1.2)=true∧decide (A.h6 a.1.2.1)=true∧decide (A.h6 a.1.2.2)=true) (if(0:Int)<(a.2.length:Int)then(A.gd ((List.length (α:=D57) e+List.length (α:=D57) [(a.1.1,a.1.2,a.2)])*56≤140737488355328) ((F.aC h f) (o::k) (e++[(a.1.1,a.1.2,a.2)])))else((F.aC h f) (o::k) e)))
def F.k (h:(List (D88×(List D44)))→Option ((List D57)×Int))(a:(List D41)×Int)(o:(List D53)×Int):Nat→(List (D88×(List D44)))→Int→Option ((List D57)×Int)
 |0,_,_=>none
 |f+1,p,e=>if e<(a.1.length:Int)then((A.ix a.1 e).bind fun s=>(F.ai h (F.k h a o f) o e s A.FU p 0))else(F.aC p A.FU [] [])
def F.v (a:(List D41)×Int)(e:(List D53)×Int):Nat→(List (D88×(List D44)))→Option ((List D57)×Int)
 |0,_=>none
 |f+1,h=>F.k (F.v a e f) a e A.FU h 0
def F.aD (a:(List D41)×Int)(k:(List D53)×Int):Nat→(List (D88×(List D44)))→Int→Option ((List D57)×Int)
 |0,_,_=>none
 |f+1,o,e=>if e<(a.1.length:Int)then((A.ix a.1 e).bind fun h=>((F.c9 h.2).bind fun p=>((F.ap o (h.1,h.1) [p.1]).bind fun s=>(A.gd (Z.R64 (e+1)) ((F.aD a k f) s.2 (e+1))))))else(F.v a k A.FU o)
def F.aX (f:D23):Option ((List D57)×Int):=(F.b2 f).bind fun a=>(if a.2≠0 then(some ([],a.2))else((F.cl f).bind fun e=>(if e.2≠0 then(some ([],e.2))else(F.aD a e A.FU [] 0))))
theorem o_aA(U:D23)(r:(List D57)×Int)(a:F.aX U=some r):
    A.Ct Tryz.prog 10 [.agg #[.slice A0_ U.length c1_]] [(0,.sh (.slice T83) [.slice A0_ U.length c1_] U),(1,.el none 0 0 A.tabF),(2,.el none 1 0 A.tabA)] [] (fun v H'=>∃(A0':Option Addr) (c1':Nat),v=.tuple #[.slice A0' r.1.length c1',A.i r.2]∧H'=[(0,.own T57 58 A0' c1' r.1)]∧A.h6 r.2):=by
 refine Jv Tryz.func10 rfl Tryz.ntmps10 rfl fun w0 F0=>?_;rw[F.aX]at a;refine Js 1 ?_;refine J8 3 (cs:=[.slice A0_ U.length c1_]) fun g1=>?_;refine Jw 2 [] (Jt 1 ?_);refine A.AX.scope ?_;refine Js 1 ?_;refine Jy [3] [] [.b 0 0] [(21,.agg #[.slice A0_ U.length c1_])] ?_;refine Vs 4 [] a (o_a5 A0_ c1_ U) (.s 0 (.s 1 (.s 2 .nil))) ?_;rintro p - a _ _ ⟨A4,c5,rfl,rfl,hr6⟩;refine Vb ?_;refine Jw 5 [(4,.slice A4 p.1.length c5),(5,A.i p.2)] (J7 3 ?_);refine Jw 2 [(26,.bool (decide (p.2≠0)))] (Jt 1 ?_);refine Vm a ?_ ?_<;>intro hb a
 ·refine Js 1 ?_;refine Jw 3 [(2,.slice none 0 0),(3,A.i p.2)] (Jt 1 ?_);obtain rfl:=J4 a;refine V4 44 T57 58 ?_;exact Vz [(0,44)] ⟨none,0,rfl,rfl,hr6⟩
 refine Js 3 ?_;refine Jy [3] [] [.b 0 0] [(29,.agg #[.slice A0_ U.length c1_])] ?_;refine Vs 45 [] a (o_a6 A0_ c1_ U) (.s 0 (.s 1 (.s 2 .nil))) ?_;rintro u - a _ _ ⟨A9,c10,rfl,rfl,hr11⟩;refine Vb ?_;refine Jw 5 [(6,.slice A9 u.1.length c10),(5,A.i u.2)] (J7 3 ?_);refine Jw 2 [(34,.bool (decide (u.2≠0)))] (Jt 1 ?_);refine Vm a ?_ ?_<;>intro hb a
 ·refine Js 1 ?_;refine Jw 3 [(2,.slice none 0 0),(3,A.i u.2)] (Jt 1 ?_);obtain rfl:=J4 a;refine V4 85 T57 58 ?_;exact Vz [(0,85)] ⟨none,0,rfl,rfl,hr11⟩
 refine Js 3 ?_;refine A.AL.mkm 86 D88 (fun x:D88=>(A.rah x)) (Z.Ty.slice T44) false fun w=>?_;refine Jw 1 [(7,.map (some w))] (J7 3 ?_);refine Jw 3 [(37,.slice A4 p.1.length c5),(38,A.i (p.1.length:Int)),(39,A.i 0)] (Jt 2 ?_);refine Vk [4,6,7,37,38] [1,2,4,45] (fun f B E=>∃(a7:List (D88×(List D44))),∃(Y:Int),B=[(39,A.i Y)]∧E=[(86,.mp D88 (fun x:D88=>(A.rah x)) (Z.Ty.slice T44) false w a7)]∧A.h6 Y∧F.aD p u f a7 Y=some r) ⟨[],0,rfl,rfl,J0,a⟩ ?_;rintro al _ _ ⟨a7,Y,rfl,rfl,b6,a⟩;rcases al with _|al
 ·exact Vi a
 rw[F.aD]at a;refine Js 1 ?_;refine Jw 1 [(40,.bool (decide (Y<(p.1.length:Int))))] (Jt 2 ?_);refine Vm a ?_ ?_<;>intro hb a
 ·refine Js 5 ?_;have⟨I,av,a⟩:=Vu a;refine Uf 4 8787 av fun a8=>?_;intro b7 b9;refine Jy [] [8787] [.e 0 0] [(42,(A.rag I))] ?_;refine J3 8788 (cs:=[A.i 0,A.i 0,A.i 0]) Tryz.zeroValue42 fun bb=>?_;refine Vp 8788 [] (A.rac I) ?_;refine J7 2 ?_;refine Jy [8788] [] [.n,.b 0 2] [(45,A.i I.2)] ?_;refine Vs 8789 [] a (o_ao I.2 a8.2) .nil ?_;rintro a2 - a _ _ ⟨rfl,rfl,hr25,hr26,hr27,hr28,hr29,hr30,hr31,hr32,hr33⟩;refine Vb ?_;refine Jw 3 [(47,(A.raf a2.1)),(48,A.i a2.2)] ?_;refine J3 8829 (cs:=l4a) Tryz.zeroValue45 fun bc=>?_;refine Vp 8829 [] (A.rab a2.1) ?_;refine Jw 1 [] (J7 1 ?_);refine Jy [8788,8829] [] [.n,.n,.b 0 0,.n,.b 0 0,.n,.b 1 0] [(49,.map (some w)),(54,.agg #[A.i I.1.1,A.i I.1.2,A.i I.1.1,A.i I.1.2]),(55,(A.raf a2.1))] ?_;refine Vq 8830 (ty:=T44) (cs:=(A.rab a2.1)) [a2.1] ⟨⟨⟨rfl,hr25⟩,⟨rfl,hr26⟩,⟨rfl,hr27⟩,⟨rfl,hr28⟩,⟨⟨rfl,hr29⟩,⟨rfl,hr30⟩,⟨rfl,hr31⟩,⟨rfl,hr32⟩⟩⟩,rfl⟩ (fun aw=>?_) Tryz.zeroValue45 Tryz.sizeOf45
  refine Vs 8831 [] a (o_an (some ⟨aw,0,none⟩) w 1 a7 (I.1,I.1) [a2.1] a8.1.1 a8.1.2 a8.1.1 a8.1.2) (.m 86 (.o 8830 .nil)) ?_;rintro ax - a _ _ ⟨rfl,rfl⟩;refine Vb ?_;refine V2 8831 86 [] ?_;refine J7 2 ?_;have⟨am,a⟩:=Vl a;refine V5 2 [Z.R64 (Y+1)] [(39,A.i (Y+1))] am (Ju ?_);exact Vf ⟨_,Qi _,⟨ax.2,(Y+1),rfl,rfl,(Jz am),a⟩⟩
 refine V1 7 ?_;refine Vk [4,6,7] [1,2,4,45] (fun f B E=>∃(ab:List (D88×(List D44))),B=[]∧E=[(86,.mp D88 (fun x:D88=>(A.rah x)) (Z.Ty.slice T44) false w ab)]∧F.v p u f ab=some r) ⟨a7,rfl,rfl,a⟩ ?_;rintro a1 _ _ ⟨ab,rfl,rfl,a⟩;rcases a1 with _|a1
 ·exact Vi a
 rw[F.v]at a;refine Js 3 ?_;refine Jw 3 [(59,.slice A4 p.1.length c5),(60,A.i (p.1.length:Int)),(61,A.i 0)] (Jt 2 ?_);refine Vk [4,6,7,59,60] [1,2,4,45] (fun f B E=>∃(a3:List (D88×(List D44))),∃(J:Int),B=[(61,A.i J)]∧E=[(86,.mp D88 (fun x:D88=>(A.rah x)) (Z.Ty.slice T44) false w a3)]∧A.h6 J∧F.k (F.v p u a1) p u f a3 J=some r) ⟨ab,0,rfl,rfl,J0,a⟩ ?_;rintro ac _ _ ⟨a3,J,rfl,rfl,bd,a⟩;rcases ac with _|ac
 ·exact Vi a
 rw[F.k]at a;refine Js 1 ?_;refine Jw 1 [(62,.bool (decide (J<(p.1.length:Int))))] (Jt 2 ?_);refine Vm a ?_ ?_<;>intro hb a
 ·refine Js 5 ?_;have⟨L,ay,a⟩:=Vu a;refine Uf 4 12663 ay fun an=>?_;intro be bg;refine Jy [] [12663] [.e 0 0] [(64,(A.rag L))] ?_;refine J3 12664 (cs:=[A.i 0,A.i 0,A.i 0]) Tryz.zeroValue42 fun bh=>?_;refine Vp 12664 [] (A.rac L) ?_;refine J7 2 ?_;refine Jw 3 [(65,.slice A9 u.1.length c10),(66,A.i (u.1.length:Int)),(67,A.i 0)] (Jt 2 ?_);refine Vk [4,6,7,13,59,60,61,65,66] [1,2,4,45,12664] (fun f B E=>∃(a4:List (D88×(List D44))),∃(V:Int),B=[(67,A.i V)]∧E=[(86,.mp D88 (fun x:D88=>(A.rah x)) (Z.Ty.slice T44) false w a4)]∧A.h6 V∧F.ai (F.v p u a1) (F.k (F.v p u a1) p u ac) u J L f a4 V=some r) ⟨a3,0,rfl,rfl,J0,a⟩ ?_;rintro ae _ _ ⟨a4,V,rfl,rfl,bi,a⟩;rcases ae with _|ae
  ·exact Vi a
  rw[F.ai]at a;refine Js 1 ?_;refine Jw 1 [(68,.bool (decide (V<(u.1.length:Int))))] (Jt 2 ?_);refine Vm a ?_ ?_<;>intro hb a
  ·refine Js 5 ?_;have⟨N,az,a⟩:=Vu a;refine Uf 45 12831 az fun O=>?_;intro bj bk;refine Jy [] [12831] [.e 0 0] [(70,(A.rai N))] ?_;refine J3 12832 (cs:=A.zz12) Tryz.zeroValue54 fun bl=>?_;refine Vp 12832 [] (A.rad N) ?_;refine J7 2 ?_;refine Jy [12664,12832] [] [.n,.n,.b 0 0,.n,.b 1 0,.n] [(71,.map (some w)),(76,.agg #[A.i L.1.1,A.i L.1.2,A.i N.1.1,A.i N.1.2])] ?_;obtain⟨ad,b0,a⟩:=V0 a;refine Uq (t:=(Z.Ty.slice T44)) 86 12833 (z:=([]:(List D44))) (zs:=[.slice none 0 0]) ky89 (L.1,N.1) Tryz.zeroValue49 (.inr ⟨rfl,rfl⟩) b0 fun bm=>?_;intro af ag;refine Jw 1 [(16,.slice af ad.length ag)] (Jt 1 ?_);refine J2 [4,6,7,13,59,60,61,65,66,67] [1,2,4,45,12664] (fun B E=>∃(a9:List (D88×(List D44))),∃(ah:Bool),B=[(93,.bool ah)]∧E=[(86,.mp D88 (fun x:D88=>(A.rah x)) (Z.Ty.slice T44) false w a9)]∧F.bD (F.v p u a1) (F.ai (F.v p u a1) (F.k (F.v p u a1) p u ac) u J L ae) V a9 ah=some r) ?_ ?_
   ·refine Vh mixed 16 16 (A.mb 16 0) ?_;refine Ve J1 [] l4d [] [] (A.mb 16 15) 12 [(0,.n),(1,.n),(2,.n),(3,.n)] [(81,.bool (decide ((0:Int)<(ad.length:Int))))] ?_;refine Ue (j:=81) rfl a ?_ ?_<;>intro hb a
    ·refine Ve J1 l4d l4d [12664,12832] [] (A.mb 16 8191) 3 [(4,.on .n),(5,.on .n),(7,.on .n),(10,.on .n),(11,.on .n),(6,.on (.b 0 0)),(8,.on (.b 1 2)),(12,.on (.b 1 4)),(9,.on .n)] [(82,.map (some w)),(88,.slice af ad.length ag),(90,(A.raf N.2.2)),(87,.agg #[A.i L.1.1,A.i L.1.2,A.i N.2.1.1,A.i N.2.1.2])] ?_;refine J6 13 ?_;refine Vg (dj:=81) rfl rfl ?_;refine Vs 12834 [] a (o_bc af ag ad N.2.2 O.2.2.1 O.2.2.2.1 O.2.2.2.2.1 O.2.2.2.2.2.1 O.2.2.2.2.2.2.1 O.2.2.2.2.2.2.2.1 O.2.2.2.2.2.2.2.2.1 O.2.2.2.2.2.2.2.2.2) (.l 12833 .nil) ?_;rintro b1 - a _ _ ⟨b2,b3,rfl,rfl⟩;refine Vb ?_;refine Vc (A.mb 16 16383) l4d ?_;refine J6 14 ?_;refine Vg (dj:=81) rfl rfl ?_;refine Vs 12874 [] a (o_an b2 w b3 a4 (L.1,N.2.1) b1 an.1.1 an.1.2 O.2.1.1 O.2.1.2) (.m 86 (.o 12834 .nil)) ?_;rintro aj - a _ _ ⟨rfl,rfl⟩;refine Vb ?_;refine V2 12874 86 [] ?_;refine Vc (A.mb 16 32767) l4d ?_;refine Ve J1 l4d [1,2,4,45,86,12664,12831,12832,12833,12834] [] [] (A.mb 16 65535) 0 [(15,.n)] [(93,.bool aj.1)] (J9 ?_);exact Vf ⟨aj.2,aj.1,rfl,rfl,a⟩
    refine Ve J1 l4d [1,2,4,45,86,12664,12831,12832,12833] [] [] (A.mb 16 65535) 0 [(4,.off),(5,.off),(7,.off),(10,.off),(11,.off),(6,.off),(8,.off),(12,.off),(9,.off),(13,.off),(14,.off),(15,.n)] [(93,.bool false)] (J9 ?_);exact Vf ⟨a4,false,rfl,rfl,a⟩
   rintro _ _ ⟨a9,ah,rfl,rfl,a⟩;rw[F.bD]at a;refine Ua a ?_ ?_<;>intro hb a
   ·refine Vw 1 ?_;exact Vf ⟨_,Qi _,⟨a9,rfl,rfl,a⟩⟩
   refine Js 3 ?_;have⟨ao,a⟩:=Vl a;refine V5 2 [Z.R64 (V+1)] [(67,A.i (V+1))] ao (Ju ?_);exact Vf ⟨_,Qi _,⟨a9,(V+1),rfl,rfl,(Jz ao),a⟩⟩
  refine Js 3 ?_;have⟨ap,a⟩:=Vl a;refine V5 2 [Z.R64 (J+1)] [(61,A.i (J+1))] ap (Ju ?_);exact Vf ⟨_,Qi _,⟨a4,(J+1),rfl,rfl,(Jz ap),a⟩⟩
 refine Js 5 ?_;refine Jw 1 [(17,.slice none 0 0)] (J7 3 ?_);refine Jw 1 [(96,.map (some w))] ?_;refine A.AL.rgm 86 12914 fun b4=>?_;refine Jt 2 ?_;refine V4 13007 T57 58 ?_;refine Vk [97] [1,2,86] (fun f B E=>∃(aa:List Nat),∃(y:List D57),∃(la98:Option (Value×Value)),∃(W:Option Addr),∃(X:Nat),B=[(17,.slice W y.length X)]∧E=[(12914,.mit 86 b4 w a3.length aa la98),(13007,.own T57 58 W X y)]∧F.aC a3 f aa y=some r) ⟨[],[],none,none,0,rfl,rfl,a⟩ ?_;rintro aq _ _ ⟨aa,y,la98,W,X,rfl,rfl,a⟩;rcases aq with _|aq
 ·exact Vi a
 rw[F.aC]at a;refine Js 1 ?_;obtain⟨hend119,hev120⟩:=A.dem_some a;refine A.AL.nxm 86 12914 13134 (fun hall=>?_) (fun ak h hp108 hs109 bp=>?_)
 ·replace a:=hend119 hall
  refine Jw 1 [(99,.bool false)] (Jt 2 ?_);refine Um rfl ?_;refine Js 3 ?_;refine Jw 1 [(115,.slice W y.length X)] ?_;refine Vs 13094 [] a (o_l W X y) (.m 13007 .nil) ?_;rintro b5 - a _ _ ⟨rfl,rfl,hr105⟩;refine Vb ?_;refine V2 13094 13007 [] ?_;refine J7 2 ?_;refine Jw 3 [(2,.slice W y.length X),(3,A.i 0)] (Jt 1 ?_);obtain rfl:=J4 a;refine U0 2 (Ud (show y.length=b5.length from(Eq.symm hr105))) ?_;exact Vz [(0,13007)] ⟨W,X,rfl,rfl,J0⟩
 intro a5 a6;have a:=hev120 ak h hp108 hs109
 have⟨hkc113,a⟩:=Vl a;refine Jw 1 [(99,.bool true)] (Jt 2 ?_);refine Uh rfl ?_;refine Js 4 ?_;refine A.AL.ent 12914 ?_;refine Jw 2 [(101,(A.rah h.1)),(102,.slice a5 h.2.length a6)] ?_;refine J3 13135 (cs:=[A.i 0,A.i 0,A.i 0,A.i 0]) Tryz.zeroValue89 fun bq=>?_;refine Vp 13135 [] [A.i h.1.1.1,A.i h.1.1.2,A.i h.1.2.1,A.i h.1.2.2] ?_;refine Jw 1 [(19,.slice a5 h.2.length a6)] (J7 2 ?_);refine Jw 3 [(105,.bool (decide ((0:Int)<(h.2.length:Int))))] (Jt 1 ?_);refine Vm a ?_ ?_<;>intro hb a
 ·refine Js 0 ?_;refine Jy [13135] [] [.n,.n,.b 0 0,.n,.b 0 2,.n,.n] [(106,.slice W y.length X),(112,.agg #[A.i h.1.1.1,A.i h.1.1.2,A.i h.1.2.1,A.i h.1.2.2,.slice a5 h.2.length a6])] ?_;refine Vq 13136 (ty:=T57) (cs:=[A.i h.1.1.1,A.i h.1.1.2,A.i h.1.2.1,A.i h.1.2.2,.slice a5 h.2.length a6]) [(h.1.1,h.1.2,h.2)] ⟨⟨⟨⟨rfl,(of_decide_eq_true hkc113.1)⟩,⟨rfl,(of_decide_eq_true hkc113.2.1)⟩⟩,⟨⟨rfl,(of_decide_eq_true hkc113.2.2.1)⟩,⟨rfl,(of_decide_eq_true hkc113.2.2.2)⟩⟩,.inl ⟨13134,rfl⟩⟩,rfl⟩ (fun br=>?_) Tryz.zeroValue58 Tryz.sizeOf58
  have⟨hl118,a⟩:=Vl a;refine Vy (k:=13007) [] (Ui (k:=13136) rfl) inf58 hl118 fun ar au=>?_;refine Jw 1 [(17,.slice ar ((y++[(h.1.1,h.1.2,h.2)]).length) au)] (Uc 1 ?_);exact Vf ⟨_,Qi _,⟨(ak::aa),(y++[(h.1.1,h.1.2,h.2)]),(some ((A.rah h.1),.slice a5 h.2.length a6)),ar,au,rfl,rfl,a⟩⟩
 refine Vw 2 ?_;exact Vf ⟨_,Qi _,⟨(ak::aa),y,(some ((A.rah h.1),.slice a5 h.2.length a6)),W,X,rfl,rfl,a⟩⟩
def F.cM (a:Bool):Option Bool:=some a
def F.dX:Option Bool:=(F.aX [(1,1,[],(0,0,ByteArray.mk #[]),ByteArray.mk #[97],0,0),(2,2,[1],(1,0,ByteArray.mk #[]),ByteArray.mk #[],0,0),(3,15,[2],(0,0,ByteArray.mk #[]),ByteArray.mk #[98],0,0)]).bind fun a=>((F.cY a.1 (1,2) (3,0)).bind fun e=>(if(bif bif decide (a.2=0)then decide ((a.1.length:Int)=10)else false then decide ((e.length:Int)=1)else false)=true then((A.ix e 0).bind fun f=>(F.cM (decide (f=(0,0,0,0,(0,0,0,0))))))else(F.cM false)))
theorem o_aJ (r:Bool)(f:F.dX=some r):
    A.Ct Tryz.prog 8 [] [(0,.el none 0 0 A.tabF),(1,.el none 1 0 A.tabA)] [] (fun v H'=>v=.bool r∧H'=[]):=by
 refine Jv Tryz.func8 rfl Tryz.ntmps8 rfl fun U V=>?_;rw[F.dX]at f;refine Js 1 ?_;refine Jw 1 [] (J7 2 ?_);refine Jw 1 [(5,.agg #[A.i 1,A.i 1,.slice none 0 0,A.i 0,A.i 0,.string (ByteArray.mk #[]),.string (ByteArray.mk #[97]),A.i 0,A.i 0])] ?_;refine Vq 2 (ty:=A.ti) (cs:=[A.i 1]) [1] ⟨⟨rfl,(Va .i64 (1) rfl)⟩,rfl⟩ (fun E=>?_) Tryz.zeroValue3 Tryz.sizeOf3
 refine Jw 2 [(8,.agg #[A.i 2,A.i 2,.slice (some ⟨E,0,none⟩) 1 1,A.i 1,A.i 0,.string (ByteArray.mk #[]),.string (ByteArray.mk #[]),A.i 0,A.i 0])] ?_;refine Vq 3 (ty:=A.ti) (cs:=[A.i 2]) [2] ⟨⟨rfl,(Va .i64 (2) rfl)⟩,rfl⟩ (fun I=>?_) Tryz.zeroValue3 Tryz.sizeOf3
 refine Jw 1 [(10,.agg #[A.i 3,A.i 15,.slice (some ⟨I,0,none⟩) 1 1,A.i 0,A.i 0,.string (ByteArray.mk #[]),.string (ByteArray.mk #[98]),A.i 0,A.i 0])] ?_;refine A.frz 2 [] ?_;refine A.frz 3 [] ?_;refine Vq 4 (ty:=T83) (cs:=[A.i 1,A.i 1,.slice none 0 0,A.i 0,A.i 0,.string (ByteArray.mk #[]),.string (ByteArray.mk #[97]),A.i 0,A.i 0,A.i 2,A.i 2,.slice (some ⟨E,0,none⟩) 1 1,A.i 1,A.i 0,.string (ByteArray.mk #[]),.string (ByteArray.mk #[]),A.i 0,A.i 0,A.i 3,A.i 15,.slice (some ⟨I,0,none⟩) 1 1,A.i 0,A.i 0,.string (ByteArray.mk #[]),.string (ByteArray.mk #[98]),A.i 0,A.i 0]) [(1,1,[],(0,0,ByteArray.mk #[]),ByteArray.mk #[97],0,0),(2,2,[1],(1,0,ByteArray.mk #[]),ByteArray.mk #[],0,0),(3,15,[2],(0,0,ByteArray.mk #[]),ByteArray.mk #[98],0,0)] ⟨⟨⟨rfl,(Va .i64 (1) rfl)⟩,⟨rfl,(Va .i64 (1) rfl)⟩,.inr ⟨rfl,rfl⟩,⟨⟨rfl,J0⟩,⟨rfl,J0⟩,⟨rfl,(A.szl (ByteArray.mk #[]) rfl)⟩⟩,⟨rfl,(A.szl (ByteArray.mk #[97]) rfl)⟩,⟨rfl,J0⟩,⟨rfl,J0⟩⟩,⟨⟨⟨rfl,(Va .i64 (2) rfl)⟩,⟨rfl,(Va .i64 (2) rfl)⟩,.inl ⟨2,rfl⟩,⟨⟨rfl,(Va .i64 (1) rfl)⟩,⟨rfl,J0⟩,⟨rfl,(A.szl (ByteArray.mk #[]) rfl)⟩⟩,⟨rfl,(A.szl (ByteArray.mk #[]) rfl)⟩,⟨rfl,J0⟩,⟨rfl,J0⟩⟩,⟨⟨⟨rfl,(Va .i64 (3) rfl)⟩,⟨rfl,(Va .i64 (15) rfl)⟩,.inl ⟨3,rfl⟩,⟨⟨rfl,J0⟩,⟨rfl,J0⟩,⟨rfl,(A.szl (ByteArray.mk #[]) rfl)⟩⟩,⟨rfl,(A.szl (ByteArray.mk #[98]) rfl)⟩,⟨rfl,J0⟩,⟨rfl,J0⟩⟩,rfl⟩⟩⟩ (fun k=>?_) Tryz.zeroValue84 Tryz.sizeOf84
 refine Jw 1 [(12,.agg #[.slice (some ⟨k,0,none⟩) 3 3])] ?_;refine J3 5 (cs:=[.slice none 0 0]) Tryz.zeroValue24 fun W=>?_;refine Vp 5 [] [.slice (some ⟨k,0,none⟩) 3 3] ?_;refine J7 2 ?_;refine Jy [5] [] [.b 0 0] [(14,.agg #[.slice (some ⟨k,0,none⟩) 3 3])] ?_;refine A.frz 4 [] ?_;refine Vs 6 [] f (o_aA (some ⟨k,0,none⟩) 3 [(1,1,[],(0,0,ByteArray.mk #[]),ByteArray.mk #[97],0,0),(2,2,[1],(1,0,ByteArray.mk #[]),ByteArray.mk #[],0,0),(3,15,[2],(0,0,ByteArray.mk #[]),ByteArray.mk #[98],0,0)]) (.s 4 (.s 0 (.s 1 .nil))) ?_;rintro h - f _ _ ⟨t,u,rfl,rfl,hr9⟩;refine Vb ?_;refine Jw 5 [(2,.slice t h.1.length u),(3,A.i h.2)] (J7 2 ?_);refine Jw 3 [(18,.slice t h.1.length u),(19,.agg #[A.i 1,A.i 2]),(20,.agg #[A.i 3,A.i 0])] ?_;refine Vs 46 [] f (o_aD t u h.1 (1,2) (3,0) (Va .i64 (1) rfl) (Va .i64 (2) rfl) (Va .i64 (3) rfl) J0) (.o 6 .nil) ?_;rintro z - f _ _ ⟨J,c13,rfl,rfl⟩;refine Vb ?_;refine Jw 1 [(4,.slice J z.length c13)] (Jt 1 ?_);refine J2 [] l4s (fun L N=>∃(B:Bool),L=[(0,.bool B)]∧N=[]∧F.cM B=some r) ?_ ?_
 ·refine Js 0 ?_;refine Jy [] [] [.n,.n,.n,.sy .n,.sy .n,.sy .n,.pk,.n,.sy .n,.sy .n,.sy .n,.pk,.n] [(34,.bool (bif bif decide (h.2=0)then decide ((h.1.length:Int)=10)else false then decide ((z.length:Int)=1)else false))] ?_;refine Vt (j:=34) rfl f (fun f=>?_) (fun f=>?_)
  ·refine Jy [] [] [.on .n] [(35,.slice J z.length c13)] ?_;refine Vg (dj:=34) rfl rfl ?_;have⟨p,O,f⟩:=Vu f;refine Uf 46 86 O fun X=>?_;intro Y a0;refine Jy [] [86] [.on (.e 0 0),.on .n] [(37,(A.raf p)),(38,.agg #[A.i 0,A.i 0,A.i 0,A.i 0,A.i 0,A.i 0,A.i 0,A.i 0])] ?_;refine Vg (dj:=34) rfl rfl ?_;refine Uy rfl (fun a w hf hh=>eqagg_eql45 (x:=p) (y:=(0,0,0,0,(0,0,0,0))) (hf.eval rfl) (hf.eval rfl)) ?_;refine Jw 2 [(0,.bool (decide (p=(0,0,0,0,(0,0,0,0)))))] (Ju ?_);exact Vf ⟨(decide (p=(0,0,0,0,(0,0,0,0)))),rfl,rfl,f⟩
  refine Jy [] [] [.off,.off,.off,.off,.off,.n,.n] [(0,.bool false)] (Ju ?_);exact Vf ⟨false,rfl,rfl,f⟩
 rintro _ _ ⟨B,rfl,rfl,f⟩;rw[F.cM]at f;obtain rfl:=J4 f;exact J5 [] ⟨rfl,rfl⟩
def F.cZ (e:D23):Nat→Int→Int→Option Bool
 |0,_,_=>none
 |f+1,h,k=>if k<((List.take ((min (e.length:Int) 99).toNat) e).length:Int)then((A.ix (List.take ((min (e.length:Int) 99).toNat) e) k).bind fun a=>(A.gd (Z.R64 (h+(min (a.2.2.1.length:Int) 1048576))∧Z.R64 ((h+(min (a.2.2.1.length:Int) 1048576))+(min (a.2.2.2.2.1.size:Int) 1048576))∧Z.R64 (((h+(min (a.2.2.1.length:Int) 1048576))+(min (a.2.2.2.2.1.size:Int) 1048576))+(min (a.2.2.2.1.2.2.size:Int) 1048576))) (A.gd (Z.R64 (k+1)) ((F.cZ e f) (min (((h+(min (a.2.2.1.length:Int) 1048576))+(min (a.2.2.2.2.1.size:Int) 1048576))+(min (a.2.2.2.1.2.2.size:Int) 1048576)) 1048576) (k+1)))))else(some (bif decide ((e.length:Int)≤18)then decide (h≤2000)else false))
def F.eD (a:D23):Option Bool:=A.gd (0≤min (a.length:Int) 99∧(min (a.length:Int) 99).toNat≤a.length) (F.cZ a A.FU 0 0)
theorem o_bO(k:D23)(r:Bool)(h:F.eD k=some r):
    A.Ct Tryz.prog 9 [.agg #[.slice A0_ k.length c1_]] [(0,.sh (.slice T83) [.slice A0_ k.length c1_] k)] [] (fun v H'=>v=.bool r∧H'=[]):=by
 refine Jv Tryz.func9 rfl Tryz.ntmps9 rfl fun I J=>?_;rw[F.eD]at h;refine Js 1 ?_;refine J8 1 (cs:=[.slice A0_ k.length c1_]) fun L=>?_;refine Jw 1 [] (J7 2 ?_);refine Jw 1 [(3,A.i 0)] (J7 3 ?_);refine Jy [1] [] [.n,.b 0 0,.n,.b 0 0,.n,.n] [(7,.slice A0_ k.length c1_),(11,A.i (min (k.length:Int) 99))] ?_;have⟨s,h⟩:=Vl h;refine A.AL.cuth 0 2 (v:=(min (k.length:Int) 99).toNat) (Wp s.1).symm s.2 fun N=>?_;refine Jw 2 [(13,A.i ((List.take ((min (k.length:Int) 99).toNat) k).length:Int)),(14,A.i 0)] (Jt 2 ?_);refine Vk [1,12,13] l4q (fun f z B=>∃(o:Int),∃(p:Int),z=[(3,A.i o),(14,A.i p)]∧B=[]∧A.h6 o∧A.h6 p∧F.cZ k f o p=some r) ⟨0,0,rfl,rfl,J0,J0,h⟩ ?_;rintro t _ _ ⟨o,p,rfl,rfl,O,U,h⟩;rcases t with _|t
 ·exact Vi h
 rw[F.cZ]at h;refine Js 1 ?_;refine Jw 1 [(15,.bool (decide (p<((List.take ((min (k.length:Int) 99).toNat) k).length:Int))))] (Jt 2 ?_);refine Vm h ?_ ?_<;>intro V h
 ·refine Js 5 ?_;have⟨a,E,h⟩:=Vu h;refine Vv 2 9 E fun W=>?_;intro u w X Y;refine Jy [] [9] [.e 0 0] [(17,.agg #[A.i a.1,A.i a.2.1,.slice u a.2.2.1.length w,A.i a.2.2.2.1.1,A.i a.2.2.2.1.2.1,.string a.2.2.2.1.2.2,.string a.2.2.2.2.1,A.i a.2.2.2.2.2.1,A.i a.2.2.2.2.2.2])] ?_;refine J3 11 (cs:=l4b) Tryz.zeroValue84 fun a1=>?_;refine Vp 11 [] [A.i a.1,A.i a.2.1,.slice u a.2.2.1.length w,A.i a.2.2.2.1.1,A.i a.2.2.2.1.2.1,.string a.2.2.2.1.2.2,.string a.2.2.2.2.1,A.i a.2.2.2.2.2.1,A.i a.2.2.2.2.2.2] ?_;refine J7 1 ?_;have⟨x,h⟩:=Vl h;refine A.q [11] [] [.n,.n,.b 0 2,.n,.n,.n,.n,.b 0 6,.n,.n,.n,.n,.n,.b 0 5,.n,.n,.n,.n,.n] [Z.R64 (o+(min (a.2.2.1.length:Int) 1048576)),Z.R64 ((o+(min (a.2.2.1.length:Int) 1048576))+(min (a.2.2.2.2.1.size:Int) 1048576)),Z.R64 (((o+(min (a.2.2.1.length:Int) 1048576))+(min (a.2.2.2.2.1.size:Int) 1048576))+(min (a.2.2.2.1.2.2.size:Int) 1048576))] [(3,A.i (min (((o+(min (a.2.2.1.length:Int) 1048576))+(min (a.2.2.2.2.1.size:Int) 1048576))+(min (a.2.2.2.1.2.2.size:Int) 1048576)) 1048576))] x (J7 2 ?_);have⟨y,h⟩:=Vl h;refine V5 2 [Z.R64 (p+1)] [(14,A.i (p+1))] y (Ju ?_);exact Vf ⟨_,Qi _,⟨(min (((o+(min (a.2.2.1.length:Int) 1048576))+(min (a.2.2.2.2.1.size:Int) 1048576))+(min (a.2.2.2.1.2.2.size:Int) 1048576)) 1048576),(p+1),rfl,rfl,(A.has_min (Jz x.2.2) (Va .i64 (1048576) rfl)),(Jz y),h⟩⟩
 refine Js 3 ?_;refine Jy [1] [] [.n,.b 0 0,.n,.n,.n,.sy .n,.sy .n,.pk,.n] [(2,.bool (bif decide ((k.length:Int)≤18)then decide (o≤2000)else false))] (Jt 1 ?_);obtain rfl:=J4 h;exact J5 [] ⟨rfl,rfl⟩
def F.ct (e:Int→Option Int)(a:Int)(f:Bool):Option Int:=if f=true then(some 20)else(A.gd (Z.R64 (a+1)) (e (a+1)))
def F.a1 (a:D44):Nat→Int→Option Int
 |0,_=>none
 |f+1,e=>if e<4 then((A.ix [a.2.2.2.2.1,a.2.2.2.2.2.1,a.2.2.2.2.2.2.1,a.2.2.2.2.2.2.2] e).bind fun h=>(if h<0 then(F.ct (F.a1 a f) e true)else((A.ix [a.2.2.2.2.1,a.2.2.2.2.2.1,a.2.2.2.2.2.2.1,a.2.2.2.2.2.2.2] e).bind fun k=>(if(1048576:Int)<k then(F.ct (F.a1 a f) e true)else(if a.2.2.2.1≤e then((A.ix [a.2.2.2.2.1,a.2.2.2.2.2.1,a.2.2.2.2.2.2.1,a.2.2.2.2.2.2.2] e).bind fun o=>(F.ct (F.a1 a f) e (decide (o≠0))))else(F.ct (F.a1 a f) e false))))))else(some 0)
def F.ac (a:D44):Option Int:=A.gd (((bif bif bif bif bif decide (a.1<0)then true else decide ((4:Int)<a.1)then true else decide (a.2.2.2.1<0)then true else decide ((4:Int)<a.2.2.2.1)then true else decide (a.2.1<0)then true else decide (a.1<a.2.1))=false→Z.R64 (a.2.1+a.2.2.2.1))) (if(bif bif bif bif bif bif bif bif decide (a.1<0)then true else decide ((4:Int)<a.1)then true else decide (a.2.2.2.1<0)then true else decide ((4:Int)<a.2.2.2.1)then true else decide (a.2.1<0)then true else decide (a.1<a.2.1)then true else decide ((4:Int)<a.2.1+a.2.2.2.1)then true else decide (a.2.2.1<0)then true else decide ((1048576:Int)<a.2.2.1))=true then(some 20)else(if(bif decide (a.2.1=0)then decide (a.2.2.1≠0)else false)=true then(some 20)else(F.a1 a A.FU 0)))
theorem o_t (a:D44)(N:A.h6 a.1)(O:A.h6 a.2.1)(U:A.h6 a.2.2.1)(V:A.h6 a.2.2.2.1)(W:A.h6 a.2.2.2.2.1)(X:A.h6 a.2.2.2.2.2.1)(Y:A.h6 a.2.2.2.2.2.2.1)(a2:A.h6 a.2.2.2.2.2.2.2)(r:Int)(h:F.ac a=some r):
    A.Ct Tryz.prog 54 [(A.raf a)] [] [] (fun v H'=>v=A.i r∧H'=[]∧A.h6 r):=by
 refine Jv Tryz.func54 rfl Tryz.ntmps54 rfl fun w0 F0=>?_;rw[F.ac]at h;refine Js 1 ?_;refine J8 0 (cs:=(A.rab a)) fun p=>?_;refine Jw 1 [] (J7 3 ?_);have⟨z,h⟩:=Vl h;refine A.q [0] [] [.n,.b 0 0,.n,.n,.sy .n,.sy (.b 0 0),.sy .n,.pk,.n,.sy .n,.sy (.b 0 3),.sy .n,.pk,.n,.sy .n,.sy (.b 0 3),.sy .n,.pk,.n,.sy .n,.sy (.b 0 1),.sy .n,.pk,.n,.sy .n,.sy (.b 0 1),.sy .n,.sy (.b 0 0),.sy .n,.pk,.n,.sy .n,.sy (.b 0 1),.sy .n,.sy (.b 0 3),.sy .n,.sy .n,.pk,.n,.sy .n,.sy (.b 0 2),.sy .n,.pk,.n,.sy .n,.sy (.b 0 2),.sy .n,.pk,.n] [(bif bif bif bif bif decide (a.1<0)then true else decide ((4:Int)<a.1)then true else decide (a.2.2.2.1<0)then true else decide ((4:Int)<a.2.2.2.1)then true else decide (a.2.1<0)then true else decide (a.1<a.2.1))=false→Z.R64 (a.2.1+a.2.2.2.1)] [(52,.bool (bif bif bif bif bif bif bif bif decide (a.1<0)then true else decide ((4:Int)<a.1)then true else decide (a.2.2.2.1<0)then true else decide ((4:Int)<a.2.2.2.1)then true else decide (a.2.1<0)then true else decide (a.1<a.2.1)then true else decide ((4:Int)<a.2.1+a.2.2.2.1)then true else decide (a.2.2.1<0)then true else decide ((1048576:Int)<a.2.2.1)))] z ?_;refine Vt (j:=52) rfl h (fun h=>?_) (fun h=>?_)
 ·refine Jy [] [] [.off,.off,.off,.off,.off,.off,.off,.off,.n] [(61,.bool true)] (Jt 1 ?_);refine Uh rfl ?_;refine Js 1 ?_;refine Jw 1 [(2,A.i 20)] (Jt 1 ?_);obtain rfl:=J4 h;exact J5 [] ⟨rfl,rfl,(Va .i64 (20) rfl)⟩
 refine Jy [0] [] [.on .n,.on (.b 0 1),.on .n,.on .n,.sy .n,.sy (.b 0 2),.sy .n,.on .pk,.n] [(61,.bool (bif decide (a.2.1=0)then decide (a.2.2.1≠0)else false))] (Jt 1 ?_);refine Ua h ?_ ?_<;>intro o h
 ·refine Js 1 ?_;refine Jw 1 [(2,A.i 20)] (Jt 1 ?_);obtain rfl:=J4 h;exact J5 [] ⟨rfl,rfl,(Va .i64 (20) rfl)⟩
 refine Js 4 ?_;refine Jw 1 [(3,A.i 0)] (Jt 2 ?_);refine Vk [1] [0] (fun f s t=>∃(k:Int),s=[(3,A.i k)]∧t=[]∧A.h6 k∧F.a1 a f k=some r) ⟨0,rfl,rfl,J0,h⟩ ?_;rintro u _ _ ⟨k,rfl,rfl,a3,h⟩;rcases u with _|u
 ·exact Vi h
 rw[F.a1]at h;refine Js 2 ?_;refine Jw 2 [(63,.bool (decide (k<4)))] (Jt 1 ?_);refine Vm h ?_ ?_<;>intro o h
 ·refine V1 4 ?_;refine J2 [1,3] [0] (fun s t=>∃(w:Bool),s=[(90,.bool w)]∧t=[]∧F.ct (F.a1 a u) k w=some r) ?_ ?_
  ·refine Js 0 ?_;refine Jw 2 [(66,A.i k),(67,.pointer (some ⟨p,4,none⟩))] ?_;have⟨B,E,h⟩:=Vu h;refine A.AL.ixb 0 4 (fun v:Int=>A.i v) [a.2.2.2.2.1,a.2.2.2.2.2.1,a.2.2.2.2.2.2.1,a.2.2.2.2.2.2.2] E ?_;refine Jy [] [4] [.e 0 0,.n,.n] [(71,.bool (decide (B<0)))] ?_;refine V8 (j:=71) rfl h ?_ ?_<;>intro o h
   ·refine Jy [] [] [.off,.off,.off,.off,.off,.n,.n,.off,.off,.off,.off,.off,.off,.off,.off,.off,.off,.off,.n] [(90,.bool true)] (Ju ?_);exact Vf ⟨true,rfl,rfl,h⟩
   refine Jy [] [] [.on .n,.on .n] [(72,A.i k),(73,.pointer (some ⟨p,4,none⟩))] ?_;refine Vg (dj:=71) rfl rfl ?_;have⟨I,J,h⟩:=Vu h;refine A.AL.ixb 0 5 (fun v:Int=>A.i v) [a.2.2.2.2.1,a.2.2.2.2.2.1,a.2.2.2.2.2.2.1,a.2.2.2.2.2.2.2] J ?_;refine Jy [] [5] [.on (.e 0 0),.on .n,.n,.n] [(78,.bool (decide ((1048576:Int)<I)))] ?_;refine V8 (j:=78) rfl h ?_ ?_<;>intro o h
   ·refine Jy [] [] [.off,.off,.off,.off,.off,.off,.off,.off,.off,.off,.off,.n] [(90,.bool true)] (Ju ?_);exact Vf ⟨true,rfl,rfl,h⟩
   refine Jy [0] [] [.on .n,.on .n,.on (.b 0 3),.on .n,.on .n] [(83,.bool (decide (a.2.2.2.1≤k)))] ?_;refine V8 (j:=83) rfl h ?_ ?_<;>intro o h
   ·refine Jy [] [] [.on .n,.on .n] [(84,A.i k),(85,.pointer (some ⟨p,4,none⟩))] ?_;refine Vg (dj:=83) rfl rfl ?_;have⟨x,L,h⟩:=Vu h;refine A.AL.ixb 0 6 (fun v:Int=>A.i v) [a.2.2.2.2.1,a.2.2.2.2.2.1,a.2.2.2.2.2.2.1,a.2.2.2.2.2.2.2] L ?_;refine Jy [] [6] [.on (.e 0 0),.on .n,.on .n,.n] [(90,.bool (decide (x≠0)))] (Ju ?_);exact Vf ⟨(decide (x≠0)),rfl,rfl,h⟩
   refine Jy [] [] [.off,.off,.off,.off,.off,.on .n,.n] [(90,.bool false)] (Ju ?_);exact Vf ⟨false,rfl,rfl,h⟩
  rintro _ _ ⟨w,rfl,rfl,h⟩;rw[F.ct]at h;refine Ua h ?_ ?_<;>intro o h
  ·refine Js 1 ?_;refine Jw 1 [(2,A.i 20)] (Jt 1 ?_);obtain rfl:=J4 h;exact J5 [] ⟨rfl,rfl,(Va .i64 (20) rfl)⟩
  refine Js 3 ?_;have⟨y,h⟩:=Vl h;refine V5 3 [Z.R64 (k+1)] [(3,A.i (k+1))] y (Ju ?_);exact Vf ⟨_,Qi _,⟨(k+1),rfl,rfl,(Jz y),h⟩⟩
 refine Js 3 ?_;refine Jw 1 [(2,A.i 0)] (Jt 1 ?_);obtain rfl:=J4 h;exact J5 [] ⟨rfl,rfl,J0⟩
def F.dF (f:D44)(h:D44)(a:Int)(k:Int)(e:Int):Option Bool:=if(bif decide (a<f.2.1)then decide (h.2.1≤a)else false)=true then(some (decide (e=1048576)))else(some (decide (k≤e)))
def F.dG (f:D44)(a:D44)(e:Int)(k:Int)(h:Int):Option Bool:=if a.2.1≤e then(A.gd (Z.R64 (e-a.2.1)) ((A.ix [a.2.2.2.2.1,a.2.2.2.2.2.1,a.2.2.2.2.2.2.1,a.2.2.2.2.2.2.2] (e-a.2.1)).bind fun o=>(F.dF f a e h o)))else(F.dF f a e h k)
def F.dH (a:D44)(f:D44)(e:Int)(k:Int)(h:Int):Option Bool:=if a.2.1≤e then(A.gd (Z.R64 (e-a.2.1)) ((A.ix [a.2.2.2.2.1,a.2.2.2.2.2.1,a.2.2.2.2.2.2.1,a.2.2.2.2.2.2.2] (e-a.2.1)).bind fun o=>(F.dG a f e h o)))else(F.dG a f e h k)
def F.dI (f:D44)(a:D44)(e:Int)(h:Int):Option Bool:=A.gd (Z.R64 (a.2.1-1)) (if e=a.2.1-1 then(F.dH f a e h a.2.2.1)else(F.dH f a e h 0))
def F.es (a:D44)(f:D44)(e:Int):Option Bool:=A.gd (Z.R64 (a.2.1-1)) (if e=a.2.1-1 then(F.dI a f e a.2.2.1)else(F.dI a f e 0))
theorem o_bP (f:D44)(h:D44)(k:Int)(a9:A.h6 f.1)(aa:A.h6 f.2.1)(I:A.h6 f.2.2.1)(ab:A.h6 f.2.2.2.1)(J:A.h6 f.2.2.2.2.1)(L:A.h6 f.2.2.2.2.2.1)(N:A.h6 f.2.2.2.2.2.2.1)(O:A.h6 f.2.2.2.2.2.2.2)(ac:A.h6 h.1)(ad:A.h6 h.2.1)(U:A.h6 h.2.2.1)(ae:A.h6 h.2.2.2.1)(V:A.h6 h.2.2.2.2.1)(W:A.h6 h.2.2.2.2.2.1)(X:A.h6 h.2.2.2.2.2.2.1)(Y:A.h6 h.2.2.2.2.2.2.2)(af:A.h6 k)(r:Bool)(a:F.es f h k=some r):
    A.Ct Tryz.prog 55 [(A.raf f),(A.raf h),A.i k] [] [] (fun v H'=>v=.bool r∧H'=[]):=by
 refine Jv Tryz.func55 rfl Tryz.ntmps55 rfl fun w0 F0=>?_;rw[F.es]at a;refine Js 1 ?_;refine J8 0 (cs:=(A.rab f)) fun g1=>?_;refine J8 1 (cs:=(A.rab h)) fun g2=>?_;refine Jw 1 [] (J7 2 ?_);refine Jw 2 [(7,A.i 0),(8,A.i 0)] (Jt 1 ?_);refine J2 [2,3,4,8] l4s (fun o p=>∃(s:Int),o=[(7,A.i s)]∧p=[]∧A.h6 s∧F.dI f h k s=some r) ?_ ?_
 ·refine Js 1 ?_;have⟨a3,a⟩:=Vl a;refine A.q [0] [] [.n,.n,.b 0 1,.n,.n] [Z.R64 (f.2.1-1)] [(13,.bool (decide (k=f.2.1-1)))] a3 (Jt 1 ?_);refine Vm a ?_ ?_<;>intro x a
  ·refine Js 0 ?_;refine Jy [0] [] [.n,.b 0 2,.n] [(7,A.i f.2.2.1)] (Ju ?_);exact Vf ⟨f.2.2.1,rfl,rfl,I,a⟩
  refine Vw 1 ?_;exact Vf ⟨0,rfl,rfl,J0,a⟩
 rintro _ _ ⟨s,rfl,rfl,a4,a⟩;rw[F.dI]at a;refine J2 [2,3,4,7] l4s (fun o p=>∃(t:Int),o=[(8,A.i t)]∧p=[]∧A.h6 t∧F.dH f h k s t=some r) ?_ ?_
 ·refine Js 1 ?_;have⟨a5,a⟩:=Vl a;refine A.q [1] [] [.n,.n,.b 0 1,.n,.n] [Z.R64 (h.2.1-1)] [(20,.bool (decide (k=h.2.1-1)))] a5 (Jt 1 ?_);refine Vm a ?_ ?_<;>intro x a
  ·refine Js 0 ?_;refine Jy [1] [] [.n,.b 0 2,.n] [(8,A.i h.2.2.1)] (Ju ?_);exact Vf ⟨h.2.2.1,rfl,rfl,U,a⟩
  refine Vw 1 ?_;exact Vf ⟨0,rfl,rfl,J0,a⟩
 rintro _ _ ⟨t,rfl,rfl,a6,a⟩;rw[F.dH]at a;refine J2 [2,3,4,8] l4s (fun o p=>∃(u:Int),o=[(7,A.i u)]∧p=[]∧A.h6 u∧F.dG f h k t u=some r) ?_ ?_
 ·refine Js 1 ?_;refine Jy [0] [] [.n,.n,.b 0 1,.n] [(26,.bool (decide (f.2.1≤k)))] (Jt 1 ?_);refine Vm a ?_ ?_<;>intro x a
  ·refine Js 0 ?_;have⟨a7,a⟩:=Vl a;refine A.q [0] [] [.n,.n,.b 0 1,.n,.n] [Z.R64 (k-f.2.1)] [(30,A.i (k-f.2.1)),(31,.pointer (some ⟨g1,4,none⟩))] a7 ?_;have⟨y,z,a⟩:=Vu a;refine A.AL.ixb 0 2 (fun v:Int=>A.i v) [f.2.2.2.2.1,f.2.2.2.2.2.1,f.2.2.2.2.2.2.1,f.2.2.2.2.2.2.2] z ?_;refine Jy [] [2] [.e 0 0,.n] [(7,A.i y)] (Ju ?_);exact Vf ⟨y,rfl,rfl,(Ub z (Qb.2 ⟨J,(Qb.2 ⟨L,(Qb.2 ⟨N,(Qb.2 ⟨O,(by simp)⟩)⟩)⟩)⟩)),a⟩
  refine Vw 1 ?_;exact Vf ⟨s,rfl,rfl,a4,a⟩
 rintro _ _ ⟨u,rfl,rfl,ag,a⟩;rw[F.dG]at a;refine J2 [2,3,4,7] l4s (fun o p=>∃(w:Int),o=[(8,A.i w)]∧p=[]∧A.h6 w∧F.dF f h k u w=some r) ?_ ?_
 ·refine Js 1 ?_;refine Jy [1] [] [.n,.n,.b 0 1,.n] [(37,.bool (decide (h.2.1≤k)))] (Jt 1 ?_);refine Vm a ?_ ?_<;>intro x a
  ·refine Js 0 ?_;have⟨a8,a⟩:=Vl a;refine A.q [1] [] [.n,.n,.b 0 1,.n,.n] [Z.R64 (k-h.2.1)] [(41,A.i (k-h.2.1)),(42,.pointer (some ⟨g2,4,none⟩))] a8 ?_;have⟨B,E,a⟩:=Vu a;refine A.AL.ixb 1 3 (fun v:Int=>A.i v) [h.2.2.2.2.1,h.2.2.2.2.2.1,h.2.2.2.2.2.2.1,h.2.2.2.2.2.2.2] E ?_;refine Jy [] [3] [.e 0 0,.n] [(8,A.i B)] (Ju ?_);exact Vf ⟨B,rfl,rfl,(Ub E (Qb.2 ⟨V,(Qb.2 ⟨W,(Qb.2 ⟨X,(Qb.2 ⟨Y,(by simp)⟩)⟩)⟩)⟩)),a⟩
  refine Vw 1 ?_;exact Vf ⟨t,rfl,rfl,a6,a⟩
 rintro _ _ ⟨w,rfl,rfl,ah,a⟩;rw[F.dF]at a;refine Js 2 ?_;refine Jy [0,1] [] [.n,.n,.b 0 1,.n,.n,.sy .n,.sy .n,.sy (.b 1 1),.sy .n,.pk] [(54,.bool (bif decide (k<f.2.1)then decide (h.2.1≤k)else false))] (Jt 1 ?_);refine Ua a ?_ ?_<;>intro x a
 ·refine Js 1 ?_;refine Jw 3 [(6,.bool (decide (w=1048576)))] (Jt 1 ?_);obtain rfl:=J4 a;exact J5 [] ⟨rfl,rfl⟩
 refine Js 3 ?_;refine Jw 4 [(6,.bool (decide (u≤w)))] (Jt 1 ?_);obtain rfl:=J4 a;exact J5 [] ⟨rfl,rfl⟩
def F.c0 (a:D44)(h:D44):Nat→Int→Option Bool
 |0,_=>none
 |f+1,e=>A.gd (Z.R64 (a.2.1+a.2.2.2.1)) (if e<a.2.1+a.2.2.2.1 then((F.es a h e).bind fun k=>(if(!k)=true then(some false)else(A.gd (Z.R64 (e+1)) ((F.c0 a h f) (e+1)))))else(some true))
def F.d9 (a:D44)(e:D44)(f:Bool):Option Bool:=if f=true then(some false)else(F.c0 a e A.FU 0)
def F.et (a:D44)(e:D44):Option Bool:=(F.ac a).bind fun h=>(if h≠0 then(F.d9 a e true)else((F.ac e).bind fun f=>(A.gd (((bif decide (f≠0)then true else decide (a.1≠e.1))=false→Z.R64 (a.2.1+a.2.2.2.1))∧((bif decide (f≠0)then true else decide (a.1≠e.1))=false→Z.R64 (e.2.1+e.2.2.2.1))) (F.d9 a e (bif bif decide (f≠0)then true else decide (a.1≠e.1)then true else decide (a.2.1+a.2.2.2.1≠e.2.1+e.2.2.2.1))))))
theorem o_bQ (e:D44)(h:D44)(w:A.h6 e.1)(x:A.h6 e.2.1)(y:A.h6 e.2.2.1)(z:A.h6 e.2.2.2.1)(B:A.h6 e.2.2.2.2.1)(E:A.h6 e.2.2.2.2.2.1)(I:A.h6 e.2.2.2.2.2.2.1)(J:A.h6 e.2.2.2.2.2.2.2)(L:A.h6 h.1)(N:A.h6 h.2.1)(O:A.h6 h.2.2.1)(U:A.h6 h.2.2.2.1)(V:A.h6 h.2.2.2.2.1)(W:A.h6 h.2.2.2.2.2.1)(X:A.h6 h.2.2.2.2.2.2.1)(Y:A.h6 h.2.2.2.2.2.2.2)(r:Bool)(a:F.et e h=some r):
    A.Ct Tryz.prog 19 [(A.raf e),(A.raf h)] [] [] (fun v H'=>v=.bool r∧H'=[]):=by
 refine Jv Tryz.func19 rfl Tryz.ntmps19 rfl fun w0 F0=>?_;rw[F.et]at a;refine Js 1 ?_;refine J8 0 (cs:=(A.rab e)) fun g1=>?_;refine J8 1 (cs:=(A.rab h)) fun g2=>?_;refine Jw 1 [] (Jt 2 ?_);refine J2 [2,3] l4s (fun p s=>∃(t:Bool),p=[(33,.bool t)]∧s=[]∧F.d9 e h t=some r) ?_ ?_
 ·refine Js 0 ?_;refine Jy [0] [] [.b 0 0] [(6,(A.raf e))] ?_;refine Vs 2 [] a (o_t e w x y z B E I J) .nil ?_;rintro a3 - a _ _ ⟨rfl,rfl,hr13⟩;refine Vb ?_;refine Jw 2 [(9,.bool (decide (a3≠0)))] ?_;refine V8 (j:=9) rfl a ?_ ?_<;>intro u a
  ·refine Jy [] [] [.off,.off,.off,.n,.n,.off,.off,.off,.off,.off,.n,.n,.off,.off,.off,.off,.off,.off,.off,.off,.off,.off,.off,.n] [(33,.bool true)] (Ju ?_);exact Vf ⟨true,rfl,rfl,a⟩
  refine Jy [1] [] [.on (.b 0 0)] [(10,(A.raf h))] ?_;refine Vg (dj:=9) rfl rfl ?_;refine Vs 42 [] a (o_t h L N O U V W X Y) .nil ?_;rintro o - a _ _ ⟨rfl,rfl,hr16⟩;refine Vb ?_;have⟨a4,a⟩:=Vl a;refine A.q [0,1] [] [.on .n,.n,.n,.sy .n,.sy (.b 0 0),.sy .n,.sy (.b 1 0),.sy .n,.pk,.n,.sy .n,.sy (.b 0 1),.sy .n,.sy (.b 0 3),.sy .n,.sy .n,.sy (.b 1 1),.sy .n,.sy (.b 1 3),.sy .n,.sy .n,.pk] [(bif decide (o≠0)then true else decide (e.1≠h.1))=false→Z.R64 (e.2.1+e.2.2.2.1),(bif decide (o≠0)then true else decide (e.1≠h.1))=false→Z.R64 (h.2.1+h.2.2.2.1)] [(33,.bool (bif bif decide (o≠0)then true else decide (e.1≠h.1)then true else decide (e.2.1+e.2.2.2.1≠h.2.1+h.2.2.2.1)))] a4 (Ju ?_);exact Vf ⟨(bif bif decide (o≠0)then true else decide (e.1≠h.1)then true else decide (e.2.1+e.2.2.2.1≠h.2.1+h.2.2.2.1)),rfl,rfl,a⟩
 rintro _ _ ⟨t,rfl,rfl,a⟩;rw[F.d9]at a;refine Ua a ?_ ?_<;>intro u a
 ·refine Js 1 ?_;refine Jw 1 [(4,.bool false)] (Jt 1 ?_);obtain rfl:=J4 a;exact J5 [] ⟨rfl,rfl⟩
 refine Js 4 ?_;refine Jw 1 [(5,A.i 0)] (Jt 2 ?_);refine Vk [2,3] l4s (fun f p s=>∃(k:Int),p=[(5,A.i k)]∧s=[]∧A.h6 k∧F.c0 e h f k=some r) ⟨0,rfl,rfl,J0,a⟩ ?_;rintro f6 _ _ ⟨k,rfl,rfl,a5,a⟩;rcases f6 with _|f6
 ·exact Vi a
 rw[F.c0]at a;refine Js 2 ?_;have⟨a6,a⟩:=Vl a;refine A.q [0] [] [.n,.n,.b 0 1,.n,.b 0 3,.n,.n] [Z.R64 (e.2.1+e.2.2.2.1)] [(40,.bool (decide (k<e.2.1+e.2.2.2.1)))] a6 (Jt 1 ?_);refine Vm a ?_ ?_<;>intro u a
 ·refine Js 5 ?_;refine Jy [0,1] [] [.b 0 0,.b 1 0,.n] [(43,(A.raf e)),(44,(A.raf h)),(45,A.i k)] ?_;refine Vs 162 [] a (o_bP e h k w x y z B E I J L N O U V W X Y a5) .nil ?_;rintro r8 - a _ _ ⟨rfl,rfl⟩;refine Vb ?_;refine Jw 1 [(47,.bool (!r8))] (Jt 1 ?_);refine Ua a ?_ ?_<;>intro u a
  ·refine Js 1 ?_;refine Jw 1 [(4,.bool false)] (Jt 1 ?_);obtain rfl:=J4 a;exact J5 [] ⟨rfl,rfl⟩
  refine Js 3 ?_;have⟨a2,a⟩:=Vl a;refine V5 3 [Z.R64 (k+1)] [(5,A.i (k+1))] a2 (Ju ?_);exact Vf ⟨_,Qi _,⟨(k+1),rfl,rfl,(Jz a2),a⟩⟩
 refine Js 3 ?_;refine Jw 1 [(4,.bool true)] (Jt 1 ?_);obtain rfl:=J4 a;exact J5 [] ⟨rfl,rfl⟩
end Go.Proofs.YtlbnpmfggfbdoaaGreatDoor
end
section
namespace Go.A
open Go.RowKit Go.Z
def sub (a k:Nat):Bool:=Nat.beq (a&&& k) a
theorem Qfg {a k:Nat}:sub a k=true↔∀i,a.testBit i=true→k.testBit i=true:=by
 unfold sub
 constructor
 ·intro h i I
  have h:=Wr h
  rw[←h,Nat.testBit_and,Ql]at I
  exact I.2
 ·intro h
  have:a&&& k=a:=Nat.eq_of_testBit_eq fun i=>by
   rw[Nat.testBit_and]
   cases J:a.testBit i with
   |false=>rfl
   |true=>rw[h i J];rfl
  rw[this];exact Jm a
theorem Qhr: ∀(n k i:Nat),i<n→(mb n k)[i]?=some (k.testBit i)
 |0,_,_,h=>absurd h (Nat.not_lt_zero _)
 |n+1,k,0,_=>by
  rw[mb,Xb,Nat.testBit_zero]
  congr 1
  rcases Nat.mod_two_eq_zero_or_one k with h|h<;>rw[h]<;>rfl
 |n+1,k,i+1,h=>by
  rw[mb,Wq,Qhr n (k / 2) i (by omega),Nat.testBit_succ]
theorem Qhi: ∀n k,(mb n k).length=n
 |0,_=>rfl
 |n+1,k=>by rw[mb,Qh,Qhi n]
theorem Qdh {n k i:Nat}{b:Bool}(h:i<n):(mb n k).toArray.getD i b=k.testBit i:=by
 rw[Wj,Ws,Qhr n k i h];rfl
theorem mb_getD_ge {n k i:Nat}{b:Bool}(h:n≤i):(mb n k).toArray.getD i b=b:=by
 rw[Wj,Ws,Q5 (by rw[Qhi];exact h)];rfl
def Qgv (n:Nat):List Edge→Nat
 | []=>0
 |e::r=>bif Region.binds .any e then(1<<<(min e.on n))|||Qgv n r else Qgv n r
theorem Qhl {n k:Nat}(hk:k.testBit n=false): ∀l:List Edge,sub (Qgv n l) k=true↔∀e∈l,Region.binds .any e=true→e.on<n∧k.testBit e.on=true
 | []=>by rw[Qfg];simp[Qgv]
 |e::r=>by
  have W:=Qhl hk r
  rw[Qfg]at W ⊢
  unfold Qgv
  cases hb:Region.binds .any e with
  |false=>
   rw[cond_false,W]
   constructor
   ·intro h x I J
    rcases Qk.1 I with rfl|I
    ·rw[hb]at J;cases J
    ·exact h x I J
   ·intro h x I;exact h x (Qe _ I)
  |true=>
   rw[cond_true]
   constructor
   ·intro h
    have Y:=W.1 fun i N=>h i (by rw[Yh,N,Bool.or_true])
    intro x I J
    rcases Qk.1 I with rfl|I
    ·have O:=h (min x.on n) (by rw[Yh,Yj,Jg,Bool.true_or])
     by_cases hl:x.on<n
     ·rw[X6 (Nat.le_of_lt hl)]at O;exact⟨hl,O⟩
     ·rw[Nat.min_eq_right (Jd hl),hk]at O;cases O
    ·exact Y x I J
   ·intro h i N
    rw[Yh,Y5]at N
    rcases N with N|N
    ·rw[Yj,Je]at N
     have:=of_decide_eq_true N
     obtain⟨Y,O⟩:=h e (Qf ..) hb
     rw[X6 (Nat.le_of_lt Y)]at this
     rw[←this];exact O
    ·exact W.2 (fun x I=>h x (Qe _ I)) i N
def waits (ops:List Oper):List Nat:=ops.map fun o=>Qgv ops.length o.after.toList
def rdyF:List Nat→Nat→Nat→List Nat
 | [],_,_=>[]
 |a::ws,k,i=>bif !(k.testBit i)&&sub a k then i::rdyF ws k (i+1)else rdyF ws k (i+1)
theorem mem_rdyF {k j:Nat}: ∀(ws:List Nat) (i:Nat),j∈rdyF ws k i↔∃m a,j=i+m∧ws[m]?=some a∧k.testBit j=false∧sub a k=true
 | [],i=>by simp[rdyF]
 |a::ws,i=>by
  have W:=mem_rdyF (k:=k) (j:=j) ws (i+1)
  have tl:j∈rdyF ws k (i+1)↔∃m b,j=i+(m+1)∧(a::ws)[m+1]?=some b∧k.testBit j=false∧sub b k=true:=by
   rw[W]
   constructor
   ·rintro⟨m,b,N,I,J⟩;exact⟨m,b,by omega,by simpa using I,J⟩
   ·rintro⟨m,b,N,I,J⟩;exact⟨m,b,by omega,by simpa using I,J⟩
  have key:(∃m b,j=i+m∧(a::ws)[m]?=some b∧k.testBit j=false∧sub b k=true)↔(j=i∧k.testBit i=false∧sub a k=true)∨j∈rdyF ws k (i+1):=by
   rw[tl]
   constructor
   ·rintro⟨m,b,N,I,J,O⟩
    cases m with
    |zero=>simp at I;subst I;have N:j=i:=N;subst N;exact .inl ⟨rfl,J,O⟩
    |succ m=>exact .inr ⟨m,b,N,I,J,O⟩
   ·rintro(⟨rfl,J,O⟩|⟨m,b,h⟩)
    ·exact⟨0,a,rfl,rfl,J,O⟩
    ·exact⟨m+1,b,h⟩
  rw[key,rdyF]
  cases N:k.testBit i<;>cases I:sub a k<;>simp
theorem Qde {k:Nat}: ∀(ws:List Nat) (i:Nat),rdyF ws k i=((List.range ws.length).filter fun m=> !(k.testBit (i+m))&&((ws[m]?).map fun a=>sub a k).getD false).map (i+ ·)
 | [],i=>rfl
 |a::ws,i=>by
  rw[rdyF,Qde ws (i+1),Qh,List.range_succ_eq_map,Xl,List.filter_map,Xb,Wi,Jc,Yw]
  have e:(List.filter (fun m=> !(k.testBit (i+1+m))&&((ws[m]?).map fun a=>sub a k).getD false) (List.range ws.length)).map (i+1+ ·)=
    ((List.filter ((fun m=> !(k.testBit (i+m))&&(((a::ws)[m]?).map fun a=>sub a k).getD false)∘Nat.succ) (List.range ws.length)).map Nat.succ).map (i+ ·):=by
   rw[List.map_map]
   have I:((fun m=> !(k.testBit (i+m))&&(((a::ws)[m]?).map fun a=>sub a k).getD false)∘Nat.succ)=fun m=> !(k.testBit (i+1+m))&&((ws[m]?).map fun a=>sub a k).getD false:=by
    funext m
    simp only[Function.comp_apply,Nat.succ_eq_add_one,Wq]
    rw[show i+(m+1)=i+1+m by omega]
   rw[I]
   congr 1
   funext m
   simp only[Function.comp_apply,Nat.succ_eq_add_one];omega
  rw[e]
  cases (!(k.testBit i)&&sub a k)<;>simp
theorem Qhq {n k:Nat}(hk:k.testBit n=false)(o:Oper):(o.after.all fun e=> !Region.binds .any e||(mb n k).toArray.getD e.on false)=sub (Qgv n o.after.toList) k:=by
 rw[Y4,Qhl hk,Array.all_eq_true_iff_forall_mem]
 constructor
 ·intro h e I J
  have:=h e (Array.mem_toList_iff.1 I)
  rw[J,Xk,X3]at this
  by_cases N:e.on<n
  ·rw[Qdh N]at this;exact⟨N,this⟩
  ·rw[mb_getD_ge (Jd N)]at this;cases this
 ·intro h e I
  cases J:Region.binds .any e with
  |false=>rfl
  |true=>
   obtain⟨O,W⟩:=h e (Array.mem_toList_iff.2 I) J
   rw[Xk,X3,Qdh O];exact W
theorem ready_eq {ops:List Oper}{n k:Nat}{ws:List Nat}(J:waits ops=ws)(N:ops.length=n)(hk:k.testBit n=false):Region.ready .any ops.toArray (mb n k).toArray=rdyF ws k 0:=by
 subst J;subst N
 rw[Qde]
 unfold Region.ready waits
 rw[Qw,Ye]
 have: ∀(p:Nat→Bool),(List.filter p (List.range ops.length)).map (0+ ·)=List.filter p (List.range ops.length):=fun p=>by
  rw[show(fun x:Nat=>0+x)=id from funext fun x=>Wc x,List.map_id]
 rw[this]
 refine List.filter_congr fun i I=>?_
 have I:=Xg.1 I
 rw[Qdh I,Wc,Ws,Qu,Qd I]
 simp only[Wi,Jc]
 rw[Qhq hk]
def cloF:List Nat→Nat→Nat→Bool
 | [],_,_=>true
 |a::ws,k,i=>(!(k.testBit i)||sub a k)&&cloF ws k (i+1)
theorem cloF_get {k:Nat}: ∀{ws:List Nat} {i:Nat},cloF ws k i=true→∀m a,ws[m]?=some a→(!(k.testBit (i+m))||sub a k)=true
 | [],_,_,m,a,h=>by simp at h
 |b::ws,i,h,m,a,I=>by
  rw[cloF,Ql]at h
  cases m with
  |zero=>simp at I;subst I;exact h.1
  |succ m=>
   have:=cloF_get h.2 m a (by simpa using I)
   rw[show i+1+m=i+(m+1) by omega]at this;exact this
theorem o_b4 {ops:List Oper}{n k:Nat}{ws:List Nat}(N:waits ops=ws)(O:ops.length=n)(hk:k.testBit n=false)(h:cloF ws k 0=true):cloB ops.toArray (mb n k).toArray=true:=by
 subst N;subst O
 unfold cloB
 rw[Qy]
 intro i I;rw[Ye]at I
 have I:=Xg.1 I
 have J:=cloF_get h i (Qgv ops.length ops[i].after.toList) (by unfold waits;rw[Qu,Qd I];rfl)
 rw[Wc]at J
 rw[Ws,Qd I]
 simp only[]
 rw[Qdh I,Qhq hk];exact J
def maskL:List Nat→Nat
 | []=>0
 |j::r=>(1<<<j)|||maskL r
theorem sub_maskL {k:Nat}: ∀l:List Nat,sub (maskL l) k=true↔∀j∈l,k.testBit j=true
 | []=>by rw[Qfg];simp[maskL]
 |j::r=>by
  have N:=sub_maskL (k:=k) r
  rw[Qfg]at N ⊢
  unfold maskL
  constructor
  ·intro h x J
   rcases Qk.1 J with rfl|J
   ·exact h x (by rw[Yh,Yj,Jg,Bool.true_or])
   ·exact N.1 (fun i I=>h i (by rw[Yh,I,Bool.or_true])) x J
  ·intro h i I
   rw[Yh,Y5]at I
   rcases I with I|I
   ·rw[Yj,Je]at I
    rw[←of_decide_eq_true I];exact h j (Qf ..)
   ·exact N.2 (fun x J=>h x (Qe _ J)) i I
def badB (ops:Array Oper)(i:Nat)(oi:Oper)(j:Nat):Bool:= !(j==i||match ops[j]? with
 |some oj=>oj.after.any (fun e=>Region.binds .any e&&e.on==i)||oi.apart ops oj
 |none=>true)
def bads (ops:List Oper):List Nat:=(List.range ops.length).map fun i=>match ops[i]? with
 |some oi=>maskL ((List.range ops.length).filter (badB ops.toArray i oi))
 |none=>0
theorem free_eq {ops:List Oper}{n k i b:Nat}{bs:List Nat}(W:bads ops=bs)(Y:ops.length=n)(J:bs[i]?=some b)(h:sub b k=true):Region.free .any ops.toArray (mb n k).toArray i=true:=by
 subst W;subst Y
 have I:=(Qc.1 J).1
 unfold bads at J I
 rw[Qw,Xz]at I
 rw[Qu,Yo I,Wi,Qd I]at J
 simp only[Qr]at J
 subst J
 have h2:=(sub_maskL _).1 h
 unfold Region.free
 rw[Ws,Qd I]
 simp only[]
 rw[Qy]
 intro j N
 rw[Ye]at N
 have N:=Xg.1 N
 rw[Qdh N]
 cases hk:k.testBit j with
 |true=>simp
 |false=>
  have O:badB ops.toArray i ops[i] j=false:=by
   cases h4:badB ops.toArray i ops[i] j with
   |false=>rfl
   |true=>
    have:=h2 j (Yn.2 ⟨Xg.2 N,h4⟩)
    rw[hk]at this;cases this
  unfold badB at O
  rw[Bool.not_eq_false']at O
  rw[Bool.or_false]
  exact O
theorem mb_set {n k i:Nat}(J:i<n):(mb n k).toArray.setIfInBounds i true=(mb n (k|||(1<<<i))).toArray:=by
 refine Array.ext_getElem? fun j=>?_
 rw[Array.getElem?_setIfInBounds,Ws,Ws]
 by_cases I:i=j
 ·subst I
  rw[if_pos rfl,if_pos (by rw[Ye,Qhi];exact J),Qhr n _ i J,Yh,Yj,Jg,Bool.or_true]
 ·rw[if_neg I]
  by_cases N:j<n
  ·rw[Qhr n _ j N,Qhr n _ j N,Yh,Yj,Je,decide_eq_false I,Bool.or_false]
  ·rw[Q5 (by rw[Qhi];omega),Q5 (by rw[Qhi];omega)]
structure Tabs (lo:List Oper) (n:Nat) (ws bs:List Nat):Prop where
 len:lo.length=n
 w:waits lo=ws
 b:bads lo=bs
 ns:(Region.noSelect lo.toArray&&Qba lo.toArray)=true
def dqsF (P:Program)(K:Kn)(cn:Nat)(ops:List Oper)(ws bs:List Nat):List (Nat×Hint)→Nat→QS→Option (Nat×QS)
 | [],k,s=>some (k,s)
 |(i,h)::r,k,s=>match ops[i]?,ws[i]?,bs[i]? with
  |some o,some a,some b=>if(sub b k&&(!(k.testBit i)&&sub a k))=true then match q1 P K cn ops.toArray s h o with
   |some s'=>dqsF P K cn ops ws bs r (k|||(1<<<i)) s'
   |none=>none else none
  |_,_,_=>none
theorem o_bJ {P:Program}{K:Kn}{cn n:Nat}{ops:List Oper}{ws bs:List Nat}(T:Tabs ops n ws bs): ∀(is:List (Nat×Hint)) (k:Nat) (s:QS) {k':Nat} {s':QS},k.testBit n=false→dqsF P K cn ops ws bs is k s=some (k',s')→dqs P K cn ops.toArray is (mb n k).toArray s=some ((mb n k').toArray,s')∧k'.testBit n=false
 | [],k,s,k',s',hk,h=>by
  rw[dqsF]at h
  obtain⟨rfl,rfl⟩:=Prod.mk.inj (Qq h)
  exact⟨rfl,hk⟩
 |(i,W)::r,k,s,k',s',hk,h=>by
  rw[dqsF]at h
  split at h
  case h_2=>cases h
  rename_i o a b O Y hb
  split at h
  case isFalse=>cases h
  rename_i I
  rw[Ql,Ql]at I
  cases hq:q1 P K cn ops.toArray s W o with
  |none=>rw[hq]at h;cases h
  |some s1=>
   rw[hq]at h
   have J:i<n:=by rw[←T.len];exact(Qc.1 O).1
   have N:(k|||(1<<<i)).testBit n=false:=by rw[Yh,hk,Yj,Je,X3,decide_eq_false_iff_not];omega
   obtain⟨h1,h2⟩:=o_bJ T r _ s1 N h
   refine⟨?_,h2⟩
   rw[dqs,Ws,O]
   simp only[]
   have hr:i∈rdyF ws k 0:=(mem_rdyF ws 0).2 ⟨i,a,(Wc i).symm,Y,by rw[←Xp];exact I.2.1,I.2.2⟩
   rw[if_pos (by rw[free_eq T.b T.len hb I.1,ready_eq T.w T.len hk,Xm,List.contains_iff_mem];exact hr),hq]
   simp only[]
   rw[mb_set J];exact h1
theorem mb_zero: ∀n,mb n 0=List.replicate n false
 |0=>rfl
 |n+1=>by rw[mb,List.replicate_succ,Nat.zero_div,mb_zero n];rfl
section
variable {r:Option Nat}{P:Program}{lo:List Oper}{Q:Exit→Act→World→Prop}{C:Cx}{l:List (Nat×Value)}{H Hq:List (Nat×Res)}{m n:Nat}{ws bs:List Nat}
theorem AX.drF {Y:Exit→Act→World→Prop}{K:List Kx}{id:Nat}(J:P.follows .mixedOrders=true)(m f:Nat)(ws bs:List Nat)(h:Tabs lo f ws bs→AH r P lo.toArray (kont r P Y K) [] m f (mb f 0) C l H)
  (I:lo.length=f:=by rfl) (N:waits lo=ws:=by kernel_rfl) (O:bads lo=bs:=by kernel_rfl) (W:(Region.noSelect lo.toArray&&Qba lo.toArray)=true:=by kernel_rfl):AX r P Y K (.region id lo.toArray true) C l H:=
 AX.dr J m f (mb f 0) (h ⟨I,N,O,W⟩) I (by rw[Ye,I,mb_zero];simp)
theorem AH.qF (T:Tabs lo n ws bs)(hQ:Pq Q)(gs qs b es:List Nat)(k k' f:Nat)(is:List (Nat×Hint))(ks:List Nat)(cs:List Prop)(nl:List (Nat×Value)){g:Nat}(hc:conj cs)(h:AH r P lo.toArray Q (kpH H qs qs) m f (mb n k') C (cat nl l) H)
  (hg:g=f+is.length:=by rfl) (hb:is.all (fun p=>bon lo.toArray m p.1)=true:=by kernel_rfl) (hk:k.testBit n=false:=by rfl) (J:cloF ws k 0=true:=by kernel_rfl)
  (hq:((dqsF P ⟨knb (kpH H qs qs) b,kne (kpH H qs qs) es⟩ C.n lo ws bs is k (Z.q0 l)).bind fun x=>(qfin l ks x.2).map fun y=>(x.1,y))=some (k',cs,nl):=by kernel_rfl)
  (I:(dqsF P ⟨knb (kpH H qs qs) b,kne (kpH H qs qs) es⟩ C.n lo ws bs is k (Z.q0 l)).map (fun s=>s.2.q.map Prod.fst)=(dqsF P ⟨knb (kpH H qs qs) b,kne (kpH H qs qs) es⟩ C.n lo ws bs is k (Z.q0 l)).map (fun s=>s.2.q.map Prod.snd):=by kernel_rfl)
  (e:kpH (kpH H qs qs) gs gs=Hq:=by kernel_rfl):AH r P lo.toArray Q Hq m g (mb n k) C l H:=by
 cases N:dqsF P ⟨knb (kpH H qs qs) b,kne (kpH H qs qs) es⟩ C.n lo ws bs is k (Z.q0 l)with
 |none=>rw[N]at hq;cases hq
 |some x=>
  obtain⟨O,s'⟩:=x
  obtain⟨Y,h2⟩:=o_bJ T is k _ hk N
  rw[N]at hq I
  have hq:((qfin l ks s').map fun y=>(O,y))=some (k',cs,nl):=hq
  have I:s'.q.map Prod.fst=s'.q.map Prod.snd:=by injection I
  cases W:qfin l ks s' with
  |none=>rw[W]at hq;cases hq
  |some y=>
   rw[W]at hq
   simp only[Wi,Qr,Jf]at hq
   obtain⟨rfl,rfl⟩:=hq
   refine AH.q hQ gs qs b es (mb n O) f is ks cs nl hc h hg hb (o_b4 T.w T.len hk J) T.ns ?_ ?_ e
   ·rw[Y]
    show((qfin l ks s').map fun y=>((mb n O).toArray.toList,y))=_
    rw[W];rfl
   ·rw[Y]
    exact congrArg some I
theorem AH.oneF (T:Tabs lo n ws bs)(i:Nat){k f:Nat}{o:Oper}(h:AL r P lo.toArray (HZ r P lo.toArray Q (Hp C Hq) m f (mb n k).toArray i) [o] C l H)(I:lo.toArray[i]?=some o:=by rfl)(hk:k.testBit n=false:=by rfl)(J:rdyF ws k 0=[i]:=by kernel_rfl):AH r P lo.toArray Q Hq m (f+1) (mb n k) C l H:=
 AH.one i h I ((ready_eq T.w T.len hk).trans J)
theorem AH.nxF {i k f:Nat}(k':Nat)(gs:List Nat)(h:AH r P lo.toArray Q Hq m f (mb n k') C l H)(e:kpH H gs gs=Hq:=by kernel_rfl)(I:Nat.blt i n=true:=by rfl)(J:k|||(1<<<i)=k':=by rfl):AL r P lo.toArray (HZ r P lo.toArray Q (Hp C Hq) m f (mb n k).toArray i) [] C l H:=
 AH.nx (mb n k') gs h e (by rw[mb_set (by simpa using I),J])
theorem AH.doneF (T:Tabs lo n ws bs){k f:Nat}{Y:Exit→Act→World→Prop}{K:List Kx}(h:AE r P Y K .normal C l H)(hk:k.testBit n=false:=by rfl)(I:rdyF ws k 0=[]:=by kernel_rfl):AH r P lo.toArray (kont r P Y K) Hq m f (mb n k) C l H:=
 AH.done h ((ready_eq T.w T.len hk).trans I)
end
end Go.A
end
section
namespace Go.Proofs.YtlbnpmfggfbdoaaGreatDoor
open Go.RowKit
variable(A0_ A1_ A2_ A4_ A5_ A7_ A10_ A12_ A13_:Option Addr)(b0_ g0_ b1_ c1_ c2_ g2_ c3_ b4_ b5_ c5_ b6_ c6_ c8_ g8_ g10_ c11_ c13_ c14_:Nat)
def F.b3 (f:Int→Int→Int→Int→Int→Int→Int→Int→Int→Option (D44×Int))(h:Int)(k:Int)(o:Int)(a:Int)(e:Int)(p:Int)(s:Int)(t:Int)(u:Int):Option (D44×Int):=A.gd (Z.R64 (a+1)) (A.gd (Z.R64 (e+1)) (f h k o (a+1) p s t u (e+1)))
def F.b4 (e:D44):Nat→Int→Int→Int→Int→Int→Int→Int→Int→Int→Option (D44×Int)
 |0,_,_,_,_,_,_,_,_,_=>none
 |f+1,u,w,x,a,h,k,o,p,s=>if s<e.2.2.2.1 then((A.ix [e.2.2.2.2.1,e.2.2.2.2.2.1,e.2.2.2.2.2.2.1,e.2.2.2.2.2.2.2] s).bind fun t=>((A.ix [h,k,o,p] a).bind fun z=>(A.gd (Z.R64 (a+1)) (A.gd (Z.R64 (s+1)) ((F.b4 e f) u w x (a+1) (if a=0 then t else h) (if a=1 then t else k) (if a=2 then t else o) (if a=3 then t else p) (s+1))))))else((F.ac (u,w,x,a,(h,k,o,p))).bind fun y=>(if y≠0 then(some ((0,0,0,0,(0,0,0,0)),12))else(some ((u,w,x,a,(h,k,o,p)),0))))
def F.bk (k:D44)(h:D44):Nat→Int→Int→Int→Int→Int→Int→Int→Int→Int→Option (D44×Int)
 |0,_,_,_,_,_,_,_,_,_=>none
 |f+1,x,y,z,a,o,p,s,t,u=>if u<h.2.1 then(A.gd (Z.R64 (u-k.2.1)) ((A.ix [k.2.2.2.2.1,k.2.2.2.2.2.1,k.2.2.2.2.2.2.1,k.2.2.2.2.2.2.2] (u-k.2.1)).bind fun e=>((A.ix [o,p,s,t] a).bind fun B=>(A.gd (Z.R64 (h.2.1-1)) (if u=h.2.1-1 then((A.ix [(if a=0 then e else o),(if a=1 then e else p),(if a=2 then e else s),(if a=3 then e else t)] a).bind fun w=>(A.gd (Z.R64 (w+h.2.2.1)) ((A.ix [(if a=0 then e else o),(if a=1 then e else p),(if a=2 then e else s),(if a=3 then e else t)] a).bind fun E=>(F.b3 (F.bk k h f) x y z a u (if a=0 then w+h.2.2.1 else(if a=0 then e else o)) (if a=1 then w+h.2.2.1 else(if a=1 then e else p)) (if a=2 then w+h.2.2.1 else(if a=2 then e else s)) (if a=3 then w+h.2.2.1 else(if a=3 then e else t))))))else(F.b3 (F.bk k h f) x y z a u (if a=0 then e else o) (if a=1 then e else p) (if a=2 then e else s) (if a=3 then e else t)))))))else(F.b4 h A.FU x y z a o p s t 0)
def F.b5 (a:D44)(e:D44)(f:Int):Option (D44×Int):=F.bk a e A.FU a.1 (min a.2.1 e.2.1) f 0 0 0 0 0 a.2.1
def F.b6 (e:D44)(a:D44)(f:Int):Option (D44×Int):=if a.2.1≤e.2.1 then(A.gd (Z.R64 (f+a.2.2.1)) (F.b5 e a (f+a.2.2.1)))else(F.b5 e a f)
def F.b7 (a:D44)(e:D44)(f:Bool):Option (D44×Int):=if f=true then(some ((0,0,0,0,(0,0,0,0)),20))else(A.gd (Z.R64 (a.2.1+a.2.2.2.1)) (if a.2.1+a.2.2.2.1≠e.1 then(some ((0,0,0,0,(0,0,0,0)),11))else(if a.2.1≤e.2.1 then(F.b6 a e a.2.2.1)else(F.b6 a e 0))))
def F.ci (a:D44)(e:D44):Option (D44×Int):=(F.ac a).bind fun f=>(if f≠0 then(F.b7 a e true)else((F.ac e).bind fun h=>(F.b7 a e (decide (h≠0)))))
theorem o_bD (o:D44)(k:D44)(b9:A.h6 o.1)(an:A.h6 o.2.1)(bb:A.h6 o.2.2.1)(bt:A.h6 o.2.2.2.1)(a5:A.h6 o.2.2.2.2.1)(a6:A.h6 o.2.2.2.2.2.1)(a7:A.h6 o.2.2.2.2.2.2.1)(a8:A.h6 o.2.2.2.2.2.2.2)(bu:A.h6 k.1)(bc:A.h6 k.2.1)(bv:A.h6 k.2.2.1)(bw:A.h6 k.2.2.2.1)(af:A.h6 k.2.2.2.2.1)(ag:A.h6 k.2.2.2.2.2.1)(ah:A.h6 k.2.2.2.2.2.2.1)(ai:A.h6 k.2.2.2.2.2.2.2)(r:D44×Int)(h:F.ci o k=some r):
    A.Ct Tryz.prog 20 [(A.raf o),(A.raf k)] [] [] (fun v H'=>v=.tuple #[(A.raf r.1),A.i r.2]∧H'=[]∧A.h6 r.1.1∧A.h6 r.1.2.1∧A.h6 r.1.2.2.1∧A.h6 r.1.2.2.2.1∧A.h6 r.1.2.2.2.2.1∧A.h6 r.1.2.2.2.2.2.1∧A.h6 r.1.2.2.2.2.2.2.1∧A.h6 r.1.2.2.2.2.2.2.2∧A.h6 r.2):=by
 refine Jv Tryz.func20 rfl Tryz.ntmps20 rfl fun w0 F0=>?_;rw[F.ci]at h;refine Js 1 ?_;refine J8 0 (cs:=(A.rab o)) fun g1=>?_;refine J8 1 (cs:=(A.rab k)) fun g2=>?_;refine J3 2 (cs:=l4a) Tryz.zeroValue45 fun g3=>?_;refine Jw 1 [] (Jt 2 ?_);refine J2 [2,3,4] l4q (fun nl nh=>∃(y4:Bool),nl=[(16,.bool y4)]∧nh=[]∧F.b7 o k y4=some r) ?_ ?_
 ·refine Js 0 ?_;refine Jy [0] [] [.b 0 0] [(9,(A.raf o))] ?_;refine Vs 3 [] h (o_t o b9 an bb bt a5 a6 a7 a8) .nil ?_;rintro bx - h _ _ ⟨rfl,rfl,hr82⟩;refine Vb ?_;refine Jw 2 [(12,.bool (decide (bx≠0)))] ?_;refine V8 (j:=12) rfl h ?_ ?_<;>intro hb h
  ·refine Jy [] [] [.off,.off,.off,.n] [(16,.bool true)] (Ju ?_);exact Vf ⟨true,rfl,rfl,h⟩
  refine Jy [1] [] [.on (.b 0 0)] [(13,(A.raf k))] ?_;refine Vg (dj:=12) rfl rfl ?_;refine Vs 43 [] h (o_t k bu bc bv bw af ag ah ai) .nil ?_;rintro bd - h _ _ ⟨rfl,rfl,hr85⟩;refine Vb ?_;refine Jy [] [] [.on .n,.n] [(16,.bool (decide (bd≠0)))] (Ju ?_);exact Vf ⟨(decide (bd≠0)),rfl,rfl,h⟩
 rintro _ _ ⟨y4,rfl,rfl,h⟩;rw[F.b7]at h;refine Ua h ?_ ?_<;>intro hb h
 ·refine Js 1 ?_;refine Jw 1 [(17,.agg #[A.i 0,A.i 0,A.i 0,A.i 0,A.i 0,A.i 0,A.i 0,A.i 0])] ?_;refine Vp 2 [] A.zz8 ?_;refine Jw 1 [(5,A.i 20)] (Jt 1 ?_);obtain rfl:=J4 h;exact Vr [] (.tuple #[.agg #[A.i 0,A.i 0,A.i 0,A.i 0,A.i 0,A.i 0,A.i 0,A.i 0],A.i 20]) (fun a w hf hh=>V3 rfl (V6 hf rfl Tryz.isAgg45 Tryz.sizeOf45 (Vn hh 2) rfl) (Vx hf rfl)) (⟨rfl,rfl,J0,J0,J0,J0,J0,J0,J0,J0,(Va .i64 (20) rfl)⟩)
 refine Js 4 ?_;have⟨bz,h⟩:=Vl h;refine A.q [0,1] [] [.n,.b 0 1,.n,.b 0 3,.n,.n,.b 1 0,.n] [Z.R64 (o.2.1+o.2.2.2.1)] [(25,.bool (decide (o.2.1+o.2.2.2.1≠k.1)))] bz (Jt 1 ?_);refine Vm h ?_ ?_<;>intro hb h
 ·refine Js 1 ?_;refine Jw 1 [(26,.agg #[A.i 0,A.i 0,A.i 0,A.i 0,A.i 0,A.i 0,A.i 0,A.i 0])] ?_;refine Vp 2 [] A.zz8 ?_;refine Jw 1 [(5,A.i 11)] (Jt 1 ?_);obtain rfl:=J4 h;exact Vr [] (.tuple #[.agg #[A.i 0,A.i 0,A.i 0,A.i 0,A.i 0,A.i 0,A.i 0,A.i 0],A.i 11]) (fun a w hf hh=>V3 rfl (V6 hf rfl Tryz.isAgg45 Tryz.sizeOf45 (Vn hh 2) rfl) (Vx hf rfl)) (⟨rfl,rfl,J0,J0,J0,J0,J0,J0,J0,J0,(Va .i64 (11) rfl)⟩)
 refine Js 3 ?_;refine Jy [0,1] [] [.n,.b 0 0,.n,.b 0 1,.n,.b 1 1,.n,.n] [(34,.agg #[A.i o.1,A.i (min o.2.1 k.2.1),A.i 0,A.i 0,A.i 0,A.i 0,A.i 0,A.i 0])] ?_;refine J3 83 (cs:=l4a) Tryz.zeroValue45 fun N=>?_;refine Vp 83 [] [A.i o.1,A.i (min o.2.1 k.2.1),A.i 0,A.i 0,A.i 0,A.i 0,A.i 0,A.i 0] ?_;refine Jt 1 ?_;refine J2 [2,3,4,6] l4q (fun nl nh=>∃(y7:Int),nl=[]∧nh=[(83,.blk N 45 [A.i o.1,A.i (min o.2.1 k.2.1),A.i y7,A.i 0,A.i 0,A.i 0,A.i 0,A.i 0])]∧A.h6 y7∧F.b6 o k y7=some r) ?_ ?_
 ·refine Js 1 ?_;refine Jy [1,0] [] [.n,.b 0 1,.n,.b 1 1,.n] [(39,.bool (decide (o.2.1≤k.2.1)))] (Jt 1 ?_);refine Vm h ?_ ?_<;>intro hb h
  ·refine Js 0 ?_;refine Jy [0] [] [.n,.b 0 2,.n] [(41,A.i o.2.2.1),(42,.pointer (some ⟨N,2,none⟩))] ?_;refine Ug 83 [] (new:=[A.i o.2.2.1]) (cs':=[A.i o.1,A.i (min o.2.1 k.2.1),A.i o.2.2.1,A.i 0,A.i 0,A.i 0,A.i 0,A.i 0]) ?_;refine Ju ?_;exact Vf ⟨o.2.2.1,rfl,rfl,bb,h⟩
  refine Vw 1 ?_;exact Vf ⟨0,rfl,rfl,J0,h⟩
 rintro _ _ ⟨y7,rfl,rfl,c0,h⟩;rw[F.b6]at h;refine J2 [2,3,4,6] l4q (fun nl nh=>∃(y9:Int),nl=[]∧nh=[(83,.blk N 45 [A.i o.1,A.i (min o.2.1 k.2.1),A.i y9,A.i 0,A.i 0,A.i 0,A.i 0,A.i 0])]∧A.h6 y9∧F.b5 o k y9=some r) ?_ ?_
 ·refine Js 1 ?_;refine Jy [1,0] [] [.n,.b 0 1,.n,.b 1 1,.n] [(47,.bool (decide (k.2.1≤o.2.1)))] (Jt 1 ?_);refine Vm h ?_ ?_<;>intro hb h
  ·refine Js 0 ?_;have⟨be,h⟩:=Vl h;refine A.q [83,1] [] [.n,.b 0 2,.n,.b 1 2,.n,.n] [Z.R64 (y7+k.2.2.1)] [(52,A.i (y7+k.2.2.1)),(53,.pointer (some ⟨N,2,none⟩))] be ?_;refine Ug 83 [] (new:=[A.i (y7+k.2.2.1)]) (cs':=[A.i o.1,A.i (min o.2.1 k.2.1),A.i (y7+k.2.2.1),A.i 0,A.i 0,A.i 0,A.i 0,A.i 0]) ?_;refine Ju ?_;exact Vf ⟨(y7+k.2.2.1),rfl,rfl,(Jz be),h⟩
  refine Vw 1 ?_;exact Vf ⟨y7,rfl,rfl,c0,h⟩
 rintro _ _ ⟨y9,rfl,rfl,c1,h⟩;rw[F.b5]at h;refine Js 2 ?_;refine Jy [0] [] [.n,.b 0 1,.n] [(7,A.i o.2.1)] (Jt 2 ?_);refine Vk [2,3,4,6] l4q (fun f nl nh=>∃(O:Int),∃(U:Int),∃(V:Int),∃(p:Int),∃(u:Int),∃(x:Int),∃(y:Int),∃(z:Int),∃(a2:Int),nl=[(7,A.i a2)]∧nh=[(83,.blk N 45 [A.i O,A.i U,A.i V,A.i p,A.i u,A.i x,A.i y,A.i z])]∧A.h6 O∧A.h6 U∧A.h6 V∧A.h6 p∧A.h6 u∧A.h6 x∧A.h6 y∧A.h6 z∧A.h6 a2∧F.bk o k f O U V p u x y z a2=some r) ⟨o.1,(min o.2.1 k.2.1),y9,0,0,0,0,0,o.2.1,rfl,rfl,b9,(A.has_min an bc),c1,J0,J0,J0,J0,J0,an,h⟩ ?_;rintro ao _ _ ⟨O,U,V,p,u,x,y,z,a2,rfl,rfl,bg,bh,bi,c2,ap,aq,ar,au,ca,h⟩;rcases ao with _|ao
 ·exact Vi h
 rw[F.bk]at h;refine Js 2 ?_;refine Jy [1] [] [.n,.n,.b 0 1,.n] [(59,.bool (decide (a2<k.2.1)))] (Jt 1 ?_);refine Vm h ?_ ?_<;>intro hb h
 ·refine V1 5 ?_;refine Vh mixed 11 12 (A.mb 12 0) ?_;have⟨c3,h⟩:=Vl h;refine Un J1 [] [0,1,2,83] [83,0] [] (A.mb 12 639) 4 [(0,.n),(2,.n),(3,.n),(6,.n),(9,.n),(1,.b 0 3),(4,.b 1 1),(5,.n)] [68,71,63,67] [Z.R64 (a2-o.2.1)] [(68,.pointer (some ⟨g1,4,none⟩)),(71,.pointer (some ⟨N,4,none⟩)),(63,A.i p),(67,A.i (a2-o.2.1))] c3 ?_;have⟨s,a3,h⟩:=Vu h;refine A.pkb 0 338 (fun v:Int=>A.i v) [o.2.2.2.2.1,o.2.2.2.2.2.1,o.2.2.2.2.2.2.1,o.2.2.2.2.2.2.2] 4 a3 ?_;refine Vd J1 [0,1,2,83] l4m 7 (A.mb 12 767) rfl (fun a w hf hh=>Uk Tryz.underlying43 Tryz.sizeOf2 (hf.eval rfl) (hf.eval rfl) (Ul a3).1 (Ul a3).2) ?_;refine Ve J1 l4m l4m [] [338] (A.mb 12 1023) 2 [(8,.e 0 0)] [(70,A.i s)] ?_;have⟨cb,aj,h⟩:=Vu h;refine A.pkb 83 339 (fun v:Int=>A.i v) [u,x,y,z] 4 aj ?_;refine Vd J1 l4m [0,1,2,83,338,339] 10 (A.mb 12 2047) rfl (fun a w hf hh=>Uk Tryz.underlying43 Tryz.sizeOf2 (hf.eval rfl) (hf.eval rfl) (Ul aj).1 (Ul aj).2) ?_;refine J6 11 ?_;refine A.AL.stb 83 [339] aj (A.arr4 (Q:=fun i=>[A.i O,A.i U,A.i V,A.i p,A.i (if i=0 then s else u),A.i (if i=1 then s else x),A.i (if i=2 then s else y),A.i (if i=3 then s else z)]=List.set [A.i O,A.i U,A.i V,A.i p,A.i u,A.i x,A.i y,A.i z] (4+i.toNat*1) (A.i s)) aj rfl rfl rfl rfl) ?_;refine Uo (A.mb 12 4095) ?_;refine J9 ?_;refine Uu 1 ?_;refine J2 [2,3,4,6,7] l4q (fun nl nh=>∃(ab:Int),∃(ac:Int),∃(ad:Int),∃(ae:Int),nl=[]∧nh=[(83,.blk N 45 [A.i O,A.i U,A.i V,A.i p,A.i ab,A.i ac,A.i ad,A.i ae])]∧A.h6 ab∧A.h6 ac∧A.h6 ad∧A.h6 ae∧F.b3 (F.bk o k ao) O U V p a2 ab ac ad ae=some r) ?_ ?_
  ·refine Js 1 ?_;have⟨c4,h⟩:=Vl h;refine A.q [1] [] [.n,.n,.b 0 1,.n,.n] [Z.R64 (k.2.1-1)] [(77,.bool (decide (a2=k.2.1-1)))] c4 (Jt 1 ?_);refine Vm h ?_ ?_<;>intro hb h
   ·refine Vh mixed 10 11 (A.mb 11 0) ?_;refine Ve J1 [] l4m [83,1] [] (A.mb 11 359) 5 [(0,.n),(2,.n),(5,.n),(8,.n),(1,.b 0 3),(6,.b 1 2)] [(80,.pointer (some ⟨N,4,none⟩)),(86,.pointer (some ⟨N,4,none⟩)),(79,A.i p),(84,A.i k.2.2.1)] ?_;have⟨a4,av,h⟩:=Vu h;refine A.pkb 83 340 (fun v:Int=>A.i v) [(if p=0 then s else u),(if p=1 then s else x),(if p=2 then s else y),(if p=3 then s else z)] 4 av ?_;refine Vd J1 l4m l4o 3 (A.mb 11 367) rfl (fun a w hf hh=>Uk Tryz.underlying43 Tryz.sizeOf2 (hf.eval rfl) (hf.eval rfl) (Ul av).1 (Ul av).2) ?_;have⟨ak,h⟩:=Vl h;refine Un J1 l4o l4o [] [340] (A.mb 11 511) 2 [(4,.e 0 0),(7,.n)] [85] [Z.R64 (a4+k.2.2.1)] [(85,A.i (a4+k.2.2.1))] ak ?_;have⟨cc,al,h⟩:=Vu h;refine A.pkb 83 341 (fun v:Int=>A.i v) [(if p=0 then s else u),(if p=1 then s else x),(if p=2 then s else y),(if p=3 then s else z)] 4 al ?_;refine Vd J1 l4o [0,1,2,83,338,340,341] 9 (A.mb 11 1023) rfl (fun a w hf hh=>Uk Tryz.underlying43 Tryz.sizeOf2 (hf.eval rfl) (hf.eval rfl) (Ul al).1 (Ul al).2) ?_;refine J6 10 ?_;refine A.AL.stb 83 [340,341] al (A.arr4 (Q:=fun i=>[A.i O,A.i U,A.i V,A.i p,A.i (if i=0 then a4+k.2.2.1 else(if p=0 then s else u)),A.i (if i=1 then a4+k.2.2.1 else(if p=1 then s else x)),A.i (if i=2 then a4+k.2.2.1 else(if p=2 then s else y)),A.i (if i=3 then a4+k.2.2.1 else(if p=3 then s else z))]=List.set [A.i O,A.i U,A.i V,A.i p,A.i (if p=0 then s else u),A.i (if p=1 then s else x),A.i (if p=2 then s else y),A.i (if p=3 then s else z)] (4+i.toNat*1) (A.i (a4+k.2.2.1))) al rfl rfl rfl rfl) ?_;refine Uo (A.mb 11 2047) ?_;refine J9 ?_;exact Vf ⟨(if p=0 then a4+k.2.2.1 else(if p=0 then s else u)),(if p=1 then a4+k.2.2.1 else(if p=1 then s else x)),(if p=2 then a4+k.2.2.1 else(if p=2 then s else y)),(if p=3 then a4+k.2.2.1 else(if p=3 then s else z)),rfl,rfl,(A.ite_has (Jz ak) (A.ite_has (Ub a3 (Qb.2 ⟨a5,(Qb.2 ⟨a6,(Qb.2 ⟨a7,(Qb.2 ⟨a8,(by simp)⟩)⟩)⟩)⟩)) ap)),(A.ite_has (Jz ak) (A.ite_has (Ub a3 (Qb.2 ⟨a5,(Qb.2 ⟨a6,(Qb.2 ⟨a7,(Qb.2 ⟨a8,(by simp)⟩)⟩)⟩)⟩)) aq)),(A.ite_has (Jz ak) (A.ite_has (Ub a3 (Qb.2 ⟨a5,(Qb.2 ⟨a6,(Qb.2 ⟨a7,(Qb.2 ⟨a8,(by simp)⟩)⟩)⟩)⟩)) ar)),(A.ite_has (Jz ak) (A.ite_has (Ub a3 (Qb.2 ⟨a5,(Qb.2 ⟨a6,(Qb.2 ⟨a7,(Qb.2 ⟨a8,(by simp)⟩)⟩)⟩)⟩)) au)),h⟩
   refine Vw 1 ?_;exact Vf ⟨(if p=0 then s else u),(if p=1 then s else x),(if p=2 then s else y),(if p=3 then s else z),rfl,rfl,(A.ite_has (Ub a3 (Qb.2 ⟨a5,(Qb.2 ⟨a6,(Qb.2 ⟨a7,(Qb.2 ⟨a8,(by simp)⟩)⟩)⟩)⟩)) ap),(A.ite_has (Ub a3 (Qb.2 ⟨a5,(Qb.2 ⟨a6,(Qb.2 ⟨a7,(Qb.2 ⟨a8,(by simp)⟩)⟩)⟩)⟩)) aq),(A.ite_has (Ub a3 (Qb.2 ⟨a5,(Qb.2 ⟨a6,(Qb.2 ⟨a7,(Qb.2 ⟨a8,(by simp)⟩)⟩)⟩)⟩)) ar),(A.ite_has (Ub a3 (Qb.2 ⟨a5,(Qb.2 ⟨a6,(Qb.2 ⟨a7,(Qb.2 ⟨a8,(by simp)⟩)⟩)⟩)⟩)) au),h⟩
  rintro _ _ ⟨ab,ac,ad,ae,rfl,rfl,c5,c6,c7,c8,h⟩;rw[F.b3]at h;refine Js 0 ?_;have⟨bj,h⟩:=Vl h;refine A.q [83] [] [.n,.b 0 3,.n,.n] [Z.R64 (p+1)] [(90,A.i (p+1)),(91,.pointer (some ⟨N,3,none⟩))] bj ?_;refine Ug 83 [] (new:=[A.i (p+1)]) (cs':=[A.i O,A.i U,A.i V,A.i (p+1),A.i ab,A.i ac,A.i ad,A.i ae]) ?_;refine J7 2 ?_;have⟨bl,h⟩:=Vl h;refine V5 3 [Z.R64 (a2+1)] [(7,A.i (a2+1))] bl (Ju ?_);exact Vf ⟨_,Qi _,⟨O,U,V,(p+1),ab,ac,ad,ae,(a2+1),rfl,rfl,bg,bh,bi,(Jz bj),c5,c6,c7,c8,(Jz bl),h⟩⟩
 refine Js 4 ?_;refine Jw 1 [(8,A.i 0)] (Jt 2 ?_);refine Vk [3,4,6] [1,2] (fun f nl nh=>∃(W:Int),∃(X:Int),∃(Y:Int),∃(t:Int),∃(B:Int),∃(E:Int),∃(I:Int),∃(J:Int),∃(a9:Int),nl=[(8,A.i a9)]∧nh=[(83,.blk N 45 [A.i W,A.i X,A.i Y,A.i t,A.i B,A.i E,A.i I,A.i J])]∧A.h6 W∧A.h6 X∧A.h6 Y∧A.h6 t∧A.h6 B∧A.h6 E∧A.h6 I∧A.h6 J∧A.h6 a9∧F.b4 k f W X Y t B E I J a9=some r) ⟨O,U,V,p,u,x,y,z,0,rfl,rfl,bg,bh,bi,c2,ap,aq,ar,au,J0,h⟩ ?_;rintro bm _ _ ⟨W,X,Y,t,B,E,I,J,a9,rfl,rfl,aw,ax,ay,bp,az,b0,b1,b2,cd,h⟩;rcases bm with _|bm
 ·exact Vi h
 rw[F.b4]at h;refine Js 2 ?_;refine Jy [1] [] [.n,.n,.b 0 3,.n] [(95,.bool (decide (a9<k.2.2.2.1)))] (Jt 1 ?_);refine Vm h ?_ ?_<;>intro hb h
 ·refine V1 5 ?_;refine Vh mixed 8 9 (A.mb 9 0) ?_;refine Ve J1 [] [1,2,83] [83] [] (A.mb 9 79) 4 [(0,.n),(2,.n),(3,.n),(6,.n),(1,.b 0 3)] [(100,A.i a9),(101,.pointer (some ⟨g2,4,none⟩)),(104,.pointer (some ⟨N,4,none⟩)),(99,A.i t)] ?_;have⟨L,aa,h⟩:=Vu h;refine A.pkb 1 425 (fun v:Int=>A.i v) [k.2.2.2.2.1,k.2.2.2.2.2.1,k.2.2.2.2.2.2.1,k.2.2.2.2.2.2.2] 4 aa ?_;refine Vd J1 [1,2,83] [1,2,83,425] 4 (A.mb 9 95) rfl (fun a w hf hh=>Uk Tryz.underlying43 Tryz.sizeOf2 (hf.eval rfl) (hf.eval rfl) (Ul aa).1 (Ul aa).2) ?_;refine Ve J1 [1,2,83,425] [1,2,83,425] [] [425] (A.mb 9 127) 2 [(5,.e 0 0)] [(103,A.i L)] ?_;have⟨ce,am,h⟩:=Vu h;refine A.pkb 83 426 (fun v:Int=>A.i v) [B,E,I,J] 4 am ?_;refine Vd J1 [1,2,83,425] [1,2,83,425,426] 7 (A.mb 9 255) rfl (fun a w hf hh=>Uk Tryz.underlying43 Tryz.sizeOf2 (hf.eval rfl) (hf.eval rfl) (Ul am).1 (Ul am).2) ?_;refine J6 8 ?_;refine A.AL.stb 83 [426] am (A.arr4 (Q:=fun i=>[A.i W,A.i X,A.i Y,A.i t,A.i (if i=0 then L else B),A.i (if i=1 then L else E),A.i (if i=2 then L else I),A.i (if i=3 then L else J)]=List.set [A.i W,A.i X,A.i Y,A.i t,A.i B,A.i E,A.i I,A.i J] (4+i.toNat*1) (A.i L)) am rfl rfl rfl rfl) ?_;refine Uo (A.mb 9 511) ?_;refine J9 ?_;refine A.el 1 ?_;have⟨bq,h⟩:=Vl h;refine A.q [83] [] [.n,.b 0 3,.n,.n] [Z.R64 (t+1)] [(108,A.i (t+1)),(109,.pointer (some ⟨N,3,none⟩))] bq ?_;refine Ug 83 [] (new:=[A.i (t+1)]) (cs':=[A.i W,A.i X,A.i Y,A.i (t+1),A.i (if t=0 then L else B),A.i (if t=1 then L else E),A.i (if t=2 then L else I),A.i (if t=3 then L else J)]) ?_;refine J7 2 ?_;have⟨br,h⟩:=Vl h;refine V5 3 [Z.R64 (a9+1)] [(8,A.i (a9+1))] br (Ju ?_);exact Vf ⟨_,Qi _,⟨W,X,Y,(t+1),(if t=0 then L else B),(if t=1 then L else E),(if t=2 then L else I),(if t=3 then L else J),(a9+1),rfl,rfl,aw,ax,ay,(Jz bq),(A.ite_has (Ub aa (Qb.2 ⟨af,(Qb.2 ⟨ag,(Qb.2 ⟨ah,(Qb.2 ⟨ai,(by simp)⟩)⟩)⟩)⟩)) az),(A.ite_has (Ub aa (Qb.2 ⟨af,(Qb.2 ⟨ag,(Qb.2 ⟨ah,(Qb.2 ⟨ai,(by simp)⟩)⟩)⟩)⟩)) b0),(A.ite_has (Ub aa (Qb.2 ⟨af,(Qb.2 ⟨ag,(Qb.2 ⟨ah,(Qb.2 ⟨ai,(by simp)⟩)⟩)⟩)⟩)) b1),(A.ite_has (Ub aa (Qb.2 ⟨af,(Qb.2 ⟨ag,(Qb.2 ⟨ah,(Qb.2 ⟨ai,(by simp)⟩)⟩)⟩)⟩)) b2),(Jz br),h⟩⟩
 refine Js 4 ?_;refine Jy [83] [] [.b 0 0] [(110,.agg #[A.i W,A.i X,A.i Y,A.i t,A.i B,A.i E,A.i I,A.i J])] ?_;refine Vs 427 [] h (o_t (W,X,Y,t,(B,E,I,J)) aw ax ay bp az b0 b1 b2) .nil ?_;rintro c9 - h _ _ ⟨rfl,rfl,hr78⟩;refine Vb ?_;refine Jw 1 [(112,.bool (decide (c9≠0)))] (Jt 1 ?_);refine Vm h ?_ ?_<;>intro hb h
 ·refine Js 1 ?_;refine Jw 1 [(113,.agg #[A.i 0,A.i 0,A.i 0,A.i 0,A.i 0,A.i 0,A.i 0,A.i 0])] ?_;refine Vp 2 [] A.zz8 ?_;refine Jw 1 [(5,A.i 12)] (Jt 1 ?_);obtain rfl:=J4 h;exact Vr [] (.tuple #[.agg #[A.i 0,A.i 0,A.i 0,A.i 0,A.i 0,A.i 0,A.i 0,A.i 0],A.i 12]) (fun a w hf hh=>V3 rfl (V6 hf rfl Tryz.isAgg45 Tryz.sizeOf45 (Vn hh 2) rfl) (Vx hf rfl)) (⟨rfl,rfl,J0,J0,J0,J0,J0,J0,J0,J0,(Va .i64 (12) rfl)⟩)
 refine Js 3 ?_;refine Jy [83] [] [.b 0 0] [(114,.agg #[A.i W,A.i X,A.i Y,A.i t,A.i B,A.i E,A.i I,A.i J])] ?_;refine Vp 2 [] [A.i W,A.i X,A.i Y,A.i t,A.i B,A.i E,A.i I,A.i J] ?_;refine Jw 1 [(5,A.i 0)] (Jt 1 ?_);obtain rfl:=J4 h;exact Vr [] (.tuple #[.agg #[A.i W,A.i X,A.i Y,A.i t,A.i B,A.i E,A.i I,A.i J],A.i 0]) (fun a w hf hh=>V3 rfl (V6 hf rfl Tryz.isAgg45 Tryz.sizeOf45 (Vn hh 2) rfl) (Vx hf rfl)) (⟨rfl,rfl,aw,ax,ay,bp,az,b0,b1,b2,J0⟩)
def F.ed (a:Int)(e:Int)(f:Int)(h:Int):Option (D44×Int):=(F.ac (a,e,f,h,(0,0,0,0))).bind fun k=>(if k≠0 then(some ((0,0,0,0,(0,0,0,0)),11))else(some ((a,e,f,h,(0,0,0,0)),0)))
theorem o_al (e:Int)(f:Int)(h:Int)(k:Int)(p:A.h6 e)(s:A.h6 f)(t:A.h6 h)(u:A.h6 k)(r:D44×Int)(o:F.ed e f h k=some r):
    A.Ct Tryz.prog 51 [A.i e,A.i f,A.i h,A.i k] [] [] (fun v H'=>v=.tuple #[(A.raf r.1),A.i r.2]∧H'=[]∧A.h6 r.1.1∧A.h6 r.1.2.1∧A.h6 r.1.2.2.1∧A.h6 r.1.2.2.2.1∧A.h6 r.1.2.2.2.2.1∧A.h6 r.1.2.2.2.2.2.1∧A.h6 r.1.2.2.2.2.2.2.1∧A.h6 r.1.2.2.2.2.2.2.2∧A.h6 r.2):=by
 refine Jv Tryz.func51 rfl Tryz.ntmps51 rfl fun y z=>?_;rw[F.ed]at o;refine Js 1 ?_;refine J3 0 (cs:=l4a) Tryz.zeroValue45 fun B=>?_;refine Jw 1 [] (J7 2 ?_);refine Jw 5 [(15,.agg #[A.i e,A.i f,A.i h,A.i k,A.i 0,A.i 0,A.i 0,A.i 0])] ?_;refine J3 1 (cs:=l4a) Tryz.zeroValue45 fun E=>?_;refine Vp 1 [] [A.i e,A.i f,A.i h,A.i k,A.i 0,A.i 0,A.i 0,A.i 0] ?_;refine J7 3 ?_;refine Jy [1] [] [.b 0 0] [(16,.agg #[A.i e,A.i f,A.i h,A.i k,A.i 0,A.i 0,A.i 0,A.i 0])] ?_;refine Vs 2 [] o (o_t (e,f,h,k,(0,0,0,0)) p s t u J0 J0 J0 J0) .nil ?_;rintro x - o _ _ ⟨rfl,rfl,hr5⟩;refine Vb ?_;refine Jw 1 [(18,.bool (decide (x≠0)))] (Jt 1 ?_);refine Vm o ?_ ?_<;>intro I o
 ·refine Js 1 ?_;refine Jw 1 [(19,.agg #[A.i 0,A.i 0,A.i 0,A.i 0,A.i 0,A.i 0,A.i 0,A.i 0])] ?_;refine Vp 0 [] A.zz8 ?_;refine Jw 1 [(9,A.i 11)] (Jt 1 ?_);obtain rfl:=J4 o;exact Vr [] (.tuple #[.agg #[A.i 0,A.i 0,A.i 0,A.i 0,A.i 0,A.i 0,A.i 0,A.i 0],A.i 11]) (fun a w hf hh=>V3 rfl (V6 hf rfl Tryz.isAgg45 Tryz.sizeOf45 (Vn hh 0) rfl) (Vx hf rfl)) (⟨rfl,rfl,J0,J0,J0,J0,J0,J0,J0,J0,(Va .i64 (11) rfl)⟩)
 refine Js 3 ?_;refine Jy [1] [] [.b 0 0] [(20,.agg #[A.i e,A.i f,A.i h,A.i k,A.i 0,A.i 0,A.i 0,A.i 0])] ?_;refine Vp 0 [] [A.i e,A.i f,A.i h,A.i k,A.i 0,A.i 0,A.i 0,A.i 0] ?_;refine Jw 1 [(9,A.i 0)] (Jt 1 ?_);obtain rfl:=J4 o;exact Vr [] (.tuple #[.agg #[A.i e,A.i f,A.i h,A.i k,A.i 0,A.i 0,A.i 0,A.i 0],A.i 0]) (fun a w hf hh=>V3 rfl (V6 hf rfl Tryz.isAgg45 Tryz.sizeOf45 (Vn hh 0) rfl) (Vx hf rfl)) (⟨rfl,rfl,p,s,t,u,J0,J0,J0,J0,J0⟩)
def F.ek (a:Int):Option (D44×Int):=(F.ed a a 0 0).bind fun e=>(some e)
theorem o_aK (e:Int)(k:A.h6 e)(r:D44×Int)(h:F.ek e=some r):
    A.Ct Tryz.prog 15 [A.i e] [] [] (fun v H'=>v=.tuple #[(A.raf r.1),A.i r.2]∧H'=[]∧A.h6 r.1.1∧A.h6 r.1.2.1∧A.h6 r.1.2.2.1∧A.h6 r.1.2.2.2.1∧A.h6 r.1.2.2.2.2.1∧A.h6 r.1.2.2.2.2.2.1∧A.h6 r.1.2.2.2.2.2.2.1∧A.h6 r.1.2.2.2.2.2.2.2∧A.h6 r.2):=by
 refine Jv Tryz.func15 rfl Tryz.ntmps15 rfl fun o p=>?_;rw[F.ek]at h;refine Js 1 ?_;refine J3 0 (cs:=l4a) Tryz.zeroValue45 fun s=>?_;refine Jw 1 [] (J7 2 ?_);refine Jw 2 [(4,A.i e),(5,A.i e)] ?_;refine Vs 1 [] h (o_al e e 0 0 k k J0 J0) .nil ?_;rintro f - h _ _ ⟨rfl,rfl,hr4,hr5,hr6,hr7,hr8,hr9,hr10,hr11,hr12⟩;refine Vb ?_;refine Jw 2 [(7,(A.raf f.1)),(8,A.i f.2)] ?_;refine Vp 0 [] (A.rab f.1) ?_;refine Jw 1 [(3,A.i f.2)] (Jt 1 ?_);obtain rfl:=J4 h;exact Vr [] (.tuple #[(A.raf f.1),A.i f.2]) (fun a w hf hh=>V3 rfl (V6 hf rfl Tryz.isAgg45 Tryz.sizeOf45 (Vn hh 0) rfl) (Vx hf rfl)) (⟨rfl,rfl,hr4,hr5,hr6,hr7,hr8,hr9,hr10,hr11,hr12⟩)
def F.cu (e:D23)(h:Int):Nat→Int→Option Int
 |0,_=>none
 |f+1,a=>if a<(e.length:Int)then((A.ix e a).bind fun k=>(if k.1=h then(some a)else(A.gd (Z.R64 (a+1)) ((F.cu e h f) (a+1)))))else(some (-1))
def F.cC (a:D23)(e:Int):Option Int:=F.cu a e A.FU 0
theorem o_u(k:D23)(o:Int)(B:A.h6 o)(r:Int)(a:F.cC k o=some r):
    A.Ct Tryz.prog 87 [.agg #[.slice A0_ k.length c1_],A.i o] [(0,.sh (.slice T83) [.slice A0_ k.length c1_] k)] [] (fun v H'=>v=A.i r∧H'=[]∧A.h6 r):=by
 refine Jv Tryz.func87 rfl Tryz.ntmps87 rfl fun E I=>?_;rw[F.cC]at a;refine Js 1 ?_;refine J8 1 (cs:=[.slice A0_ k.length c1_]) fun J=>?_;refine Jw 1 [] (J7 3 ?_);refine Jw 1 [(5,A.i 0)] (Jt 2 ?_);refine Vk [1,2] l4s (fun f t u=>∃(h:Int),t=[(5,A.i h)]∧u=[]∧A.h6 h∧F.cu k o f h=some r) ⟨0,rfl,rfl,J0,a⟩ ?_;rintro p _ _ ⟨h,rfl,rfl,w,a⟩;rcases p with _|p
 ·exact Vi a
 rw[F.cu]at a;refine Js 2 ?_;refine Jy [1] [] [.n,.n,.b 0 0,.n,.n] [(10,.bool (decide (h<(k.length:Int))))] (Jt 1 ?_);refine Vm a ?_ ?_<;>intro x a
 ·refine Js 5 ?_;refine Jy [1] [] [.n,.b 0 0,.n] [(14,.slice A0_ k.length c1_),(15,A.i h)] ?_;have⟨y,z,a⟩:=Vu a;refine Vv 0 6 z fun L=>?_;intro N O U V;refine Jy [] [6] [.n,.e 0 0,.n,.n] [(20,.bool (decide (y.1=o)))] (Jt 1 ?_);refine Vm a ?_ ?_<;>intro x a
  ·refine Js 1 ?_;refine Jw 2 [(4,A.i h)] (Jt 1 ?_);obtain rfl:=J4 a;exact J5 [] ⟨rfl,rfl,w⟩
  refine Js 3 ?_;have⟨s,a⟩:=Vl a;refine V5 3 [Z.R64 (h+1)] [(5,A.i (h+1))] s (Ju ?_);exact Vf ⟨_,Qi _,⟨(h+1),rfl,rfl,(Jz s),a⟩⟩
 refine Js 3 ?_;refine Jw 1 [(4,A.i (-1))] (Jt 1 ?_);obtain rfl:=J4 a;exact J5 [] ⟨rfl,rfl,(Va .i64 (-1) rfl)⟩
def F.dm (e:(List D41)→Int→Option (List D41))(a:Int)(f:List D41):Option (List D41):=A.gd (Z.R64 (a+1)) (e f (a+1))
def F.ca (o:(List D41)→Int→Option (List D41))(s:D23)(p:(List Int))(k:Int)(a:D83):Nat→(List D41)→Int→Option (List D41)
 |0,_,_=>none
 |f+1,h,e=>if e<(a.2.2.1.length:Int)then((A.ix a.2.2.1 e).bind fun w=>((F.cC s w).bind fun x=>((A.ix p x).bind fun t=>(A.gd ((List.length (α:=D41) h+List.length (α:=D41) [((a.1,e),t)])*24≤140737488355328) (A.gd (Z.R64 (e+1)) ((F.ca o s p k a f) (h++[((a.1,e),t)]) (e+1)))))))else(if a.2.1≠15 then((A.ix p k).bind fun u=>(A.gd ((List.length (α:=D41) h+List.length (α:=D41) [((a.1,2),u)])*24≤140737488355328) (F.dm o k (h++[((a.1,2),u)]))))else(F.dm o k h))
def F.bL (a:D23)(h:(List Int)):Nat→(List D41)→Int→Option (List D41)
 |0,_,_=>none
 |f+1,k,e=>if(bif decide (e<(a.length:Int))then decide (e<(h.length:Int))else false)=true then((A.ix a e).bind fun o=>(F.ca (F.bL a h f) a h e o A.FU k 0))else(some k)
def F.dY (a:D23)(e:(List Int)):Option (List D41):=F.bL a e A.FU [] 0
theorem o_aL(u:D23)(z:(List Int))(r:(List D41))(h:F.dY u z=some r):
    A.Ct Tryz.prog 49 [.agg #[.slice A0_ u.length c1_],.slice A2_ z.length c3_] [(0,.sh (.slice T83) [.slice A0_ u.length c1_] u),(1,.ln A.ti A2_ c3_ z)] [] (fun v H'=>∃(A0':Option Addr) (c1':Nat),v=.slice A0' r.length c1'∧H'=[(0,.own T41 42 A0' c1' r)]):=by
 refine Jv Tryz.func49 rfl Tryz.ntmps49 rfl fun w0 F0=>?_;rw[F.dY]at h;refine Js 1 ?_;refine J8 2 (cs:=[.slice A0_ u.length c1_]) fun g1=>?_;refine Jw 1 [] (J7 2 ?_);refine Jw 1 [(5,.slice none 0 0)] (J7 3 ?_);refine Jw 1 [(6,A.i 0)] (Jt 2 ?_);refine V4 329 T41 42 ?_;refine Vk [1,2] l4q (fun f L N=>∃(B:List D41),∃(x:Int),∃(E:Option Addr),∃(I:Nat),L=[(5,.slice E B.length I),(6,A.i x)]∧N=[(329,.own T41 42 E I B)]∧A.h6 x∧F.bL u z f B x=some r) ⟨[],0,none,0,rfl,rfl,J0,h⟩ ?_;rintro W _ _ ⟨B,x,E,I,rfl,rfl,ao,h⟩;rcases W with _|W
 ·exact Vi h
 rw[F.bL]at h;refine Js 2 ?_;refine Jy [2] [] [.n,.n,.b 0 0,.n,.n,.n,.sy .n,.sy .n,.sy .n,.sy .n,.pk] [(19,.bool (bif decide (x<(u.length:Int))then decide (x<(z.length:Int))else false))] (Jt 1 ?_);refine Ua h ?_ ?_<;>intro hb h
 ·refine V1 2 ?_;refine J2 [1,2,6] l4q (fun L N=>∃(O:List D41),∃(X:Option Addr),∃(Y:Nat),L=[(5,.slice X O.length Y)]∧N=[(329,.own T41 42 X Y O)]∧F.dm (F.bL u z W) x O=some r) ?_ ?_
  ·refine Js 2 ?_;refine Jy [2] [] [.n,.b 0 0,.n] [(23,.slice A0_ u.length c1_),(24,A.i x)] ?_;have⟨o,ag,h⟩:=Vu h;refine Vv 0 606 ag fun a4=>?_;intro a2 a3 ap aq;refine Jy [] [606] [.e 0 0] [(26,.agg #[A.i o.1,A.i o.2.1,.slice a2 o.2.2.1.length a3,A.i o.2.2.2.1.1,A.i o.2.2.2.1.2.1,.string o.2.2.2.1.2.2,.string o.2.2.2.2.1,A.i o.2.2.2.2.2.1,A.i o.2.2.2.2.2.2])] ?_;refine J3 608 (cs:=l4b) Tryz.zeroValue84 fun ar=>?_;refine Vp 608 [] [A.i o.1,A.i o.2.1,.slice a2 o.2.2.1.length a3,A.i o.2.2.2.1.1,A.i o.2.2.2.1.2.1,.string o.2.2.2.1.2.2,.string o.2.2.2.2.1,A.i o.2.2.2.2.2.1,A.i o.2.2.2.2.2.2] ?_;refine J7 3 ?_;refine Jw 1 [(8,A.i 0)] (Jt 2 ?_);refine Vk [1,2,6,7] l4p (fun f L N=>∃(y:List D41),∃(p:Int),∃(J:Option Addr),∃(c21:Nat),L=[(5,.slice J y.length c21),(8,A.i p)]∧N=[(329,.own T41 42 J c21 y)]∧A.h6 p∧F.ca (F.bL u z W) u z x o f y p=some r) ⟨B,0,E,I,rfl,rfl,J0,h⟩ ?_;rintro a5 _ _ ⟨y,p,J,c21,rfl,rfl,ah,h⟩;rcases a5 with _|a5
   ·exact Vi h
   rw[F.ca]at h;refine Js 2 ?_;refine Jy [608] [] [.n,.n,.b 0 2,.n,.n] [(31,.bool (decide (p<(o.2.2.1.length:Int))))] (Jt 1 ?_);refine Vm h ?_ ?_<;>intro hb h
   ·refine V1 4 ?_;refine Vh mixed 19 19 (A.mb 19 0) ?_;refine Ve J1 [] l4p [2,608] [] (A.mb 19 1023) 9 [(0,.n),(1,.n),(3,.n),(5,.n),(6,.b 0 0),(7,.n),(9,.n),(2,.b 1 0),(8,.b 1 2),(4,.n)] [(34,.slice J y.length c21),(39,.slice A2_ z.length c3_),(40,.agg #[.slice A0_ u.length c1_]),(43,A.i p),(42,.slice a2 o.2.2.1.length a3),(38,.agg #[A.i o.1,A.i p])] ?_;have⟨a6,a7,h⟩:=Vu h;refine V9 607 699 a7 fun ai=>?_;intro au av aj;refine Vd J1 l4p l4k 10 (A.mb 19 2047) rfl (fun a w hf hh=>Vj (t:=A.ti) a7 aj hf) ?_;refine Ve J1 l4k l4k [] [699] (A.mb 19 4095) 7 [(11,.e 0 0)] [(45,A.i a6)] ?_;refine J6 12 ?_;refine Vs 700 [] h (o_u A0_ c1_ u a6 ai) (.s 0 .nil) ?_;rintro aw - h _ _ ⟨rfl,rfl,hr34⟩;refine Vb ?_;refine Vc (A.mb 19 8191) l4k ?_;have⟨U,a8,h⟩:=Vu h;refine Vo 1 740 a8 fun ak=>?_;intro ax ay al;refine Vd J1 l4k l4h 13 (A.mb 19 16383) rfl (fun a w hf hh=>Vj (t:=A.ti) a8 al hf) ?_;refine Ve J1 l4h l4h [] [740] (A.mb 19 65535) 3 [(14,.e 0 0),(15,.n)] [(49,.agg #[A.i o.1,A.i p,A.i U])] ?_;refine J6 16 ?_;refine Vq 741 (ty:=T41) (cs:=[A.i o.1,A.i p,A.i U]) [((o.1,p),U)] ⟨⟨⟨⟨rfl,a4.1⟩,⟨rfl,ah⟩⟩,⟨rfl,ak⟩⟩,rfl⟩ (fun az=>?_) Tryz.zeroValue42 Tryz.sizeOf42
    refine Vc (A.mb 19 131071) l4h ?_;refine J6 17 ?_;have⟨hl44,h⟩:=Vl h;refine Vy (k:=329) [] (Ui (k:=741) rfl) inf42 hl44 fun a9 aa=>?_;refine Vc (A.mb 19 262143) l4h ?_;refine Ve J1 l4h [0,1,2,329,607,608,699,740,741] [] [] (A.mb 19 524287) 0 [(18,.n)] [(5,.slice a9 ((y++[((o.1,p),U)]).length) aa)] (J9 ?_);refine A.el 2 ?_;have⟨ab,h⟩:=Vl h;refine V5 3 [Z.R64 (p+1)] [(8,A.i (p+1))] ab (Ju ?_);exact Vf ⟨_,Qi _,⟨(y++[((o.1,p),U)]),(p+1),a9,aa,rfl,rfl,(Jz ab),h⟩⟩
   refine Js 3 ?_;refine Jy [608] [] [.n,.b 0 1,.n] [(54,.bool (decide (o.2.1≠15)))] (Jt 1 ?_);refine Vm h ?_ ?_<;>intro hb h
   ·refine Vh mixed 12 12 (A.mb 12 0) ?_;refine Ve J1 [] l4p [608] [] (A.mb 12 63) 6 [(0,.n),(1,.n),(4,.n),(5,.n),(2,.b 0 0),(3,.n)] [(55,.slice J y.length c21),(59,.slice A2_ z.length c3_),(60,A.i x),(58,.agg #[A.i o.1,A.i 2])] ?_;have⟨V,ac,h⟩:=Vu h;refine Vo 1 742 ac fun am=>?_;intro b0 b1 an;refine Vd J1 l4p l4i 6 (A.mb 12 127) rfl (fun a w hf hh=>Vj (t:=A.ti) ac an hf) ?_;refine Ve J1 l4i l4i [] [742] (A.mb 12 511) 3 [(7,.e 0 0),(8,.n)] [(63,.agg #[A.i o.1,A.i 2,A.i V])] ?_;refine J6 9 ?_;refine Vq 743 (ty:=T41) (cs:=[A.i o.1,A.i 2,A.i V]) [((o.1,2),V)] ⟨⟨⟨⟨rfl,a4.1⟩,⟨rfl,(Va .i64 (2) rfl)⟩⟩,⟨rfl,am⟩⟩,rfl⟩ (fun b2=>?_) Tryz.zeroValue42 Tryz.sizeOf42
    refine Vc (A.mb 12 1023) l4i ?_;refine J6 10 ?_;have⟨hl55,h⟩:=Vl h;refine Vy (k:=329) [] (Ui (k:=743) rfl) inf42 hl55 fun ad ae=>?_;refine Vc (A.mb 12 2047) l4i ?_;refine Ve J1 l4i [0,1,2,329,607,608,742,743] [] [] (A.mb 12 4095) 0 [(11,.n)] [(5,.slice ad ((y++[((o.1,2),V)]).length) ae)] (J9 ?_);refine A.ee 1 ?_;exact Vf ⟨(y++[((o.1,2),V)]),ad,ae,rfl,rfl,h⟩
   refine Vw 2 ?_;exact Vf ⟨y,J,c21,rfl,rfl,h⟩
  rintro _ _ ⟨O,X,Y,rfl,rfl,h⟩;rw[F.dm]at h;refine Js 0 ?_;have⟨af,h⟩:=Vl h;refine V5 3 [Z.R64 (x+1)] [(6,A.i (x+1))] af (Ju ?_);exact Vf ⟨_,Qi _,⟨O,(x+1),X,Y,rfl,rfl,(Jz af),h⟩⟩
 refine Js 3 ?_;refine Jw 2 [(4,.slice E B.length I)] (Jt 1 ?_);obtain rfl:=J4 h;exact J5 [(0,329)] ⟨E,I,rfl,rfl⟩
def F.ee (e:D23)(h:Int):Option (D83×Bool):=(F.cC e h).bind fun f=>(if f<0 then(some ((0,0,[],(0,0,ByteArray.mk #[]),ByteArray.mk #[],0,0),false))else((A.ix e f).bind fun a=>(A.gd ((List.length (α:=Int) []+List.length (α:=Int) a.2.2.1)*8≤140737488355328) (some ((a.1,a.2.1,[]++a.2.2.1,a.2.2.2.1,a.2.2.2.2.1,a.2.2.2.2.2.1,a.2.2.2.2.2.2),true)))))
theorem o_aU(o:D23)(x:Int)(B:A.h6 x)(r:D83×Bool)(h:F.ee o x=some r):
    A.Ct Tryz.prog 88 [.agg #[.slice A0_ o.length c1_],A.i x] [(0,.sh (.slice T83) [.slice A0_ o.length c1_] o)] [] (fun v H'=>∃(A0':Option Addr) (c1':Nat),v=.tuple #[.agg #[A.i r.1.1,A.i r.1.2.1,.slice A0' r.1.2.2.1.length c1',A.i r.1.2.2.2.1.1,A.i r.1.2.2.2.1.2.1,.string r.1.2.2.2.1.2.2,.string r.1.2.2.2.2.1,A.i r.1.2.2.2.2.2.1,A.i r.1.2.2.2.2.2.2],.bool r.2]∧H'=[(0,.sh A.TI [.slice A0' r.1.2.2.1.length c1'] r.1.2.2.1)]∧A.h6 r.1.1∧A.h6 r.1.2.1∧A.h6 r.1.2.2.2.1.1∧A.h6 r.1.2.2.2.1.2.1∧r.1.2.2.2.1.2.2.size≤maxLen∧r.1.2.2.2.2.1.size≤maxLen∧A.h6 r.1.2.2.2.2.2.1∧A.h6 r.1.2.2.2.2.2.2):=by
 refine Jv Tryz.func88 rfl Tryz.ntmps88 rfl fun J L=>?_;rw[F.ee]at h;refine Js 1 ?_;refine J8 1 (cs:=[.slice A0_ o.length c1_]) fun N=>?_;refine J3 2 (cs:=l4b) Tryz.zeroValue84 fun O=>?_;refine Jw 1 [] (J7 2 ?_);refine Jy [1] [] [.b 0 0,.n] [(8,.agg #[.slice A0_ o.length c1_]),(9,A.i x)] ?_;refine Vs 3 [] h (o_u A0_ c1_ o x B) (.s 0 .nil) ?_;rintro y - h _ _ ⟨rfl,rfl,hr5⟩;refine Vb ?_;refine Jw 1 [(6,A.i y)] (J7 3 ?_);refine Jw 2 [(12,.bool (decide (y<0)))] (Jt 1 ?_);refine Vm h ?_ ?_<;>intro U h
 ·refine Js 1 ?_;refine Jw 1 [(13,.agg #[A.i 0,A.i 0,.slice none 0 0,A.i 0,A.i 0,.string (ByteArray.mk #[]),.string (ByteArray.mk #[]),A.i 0,A.i 0])] ?_;refine Vp 2 [] [A.i 0,A.i 0,.slice none 0 0,A.i 0,A.i 0,.string (ByteArray.mk #[]),.string (ByteArray.mk #[]),A.i 0,A.i 0] ?_;refine Jw 1 [(5,.bool false)] (Jt 1 ?_);obtain rfl:=J4 h;refine A.snil 43 A.ti ?_;exact Vr [(0,43)] (.tuple #[.agg #[A.i 0,A.i 0,.slice none 0 0,A.i 0,A.i 0,.string (ByteArray.mk #[]),.string (ByteArray.mk #[]),A.i 0,A.i 0],.bool false]) (fun a w hf hh=>V3 rfl (V6 hf rfl Tryz.isAgg84 Tryz.sizeOf84 (Vn hh 2) rfl) (Vx hf rfl)) (⟨none,0,rfl,rfl,J0,J0,J0,J0,(A.szl (ByteArray.mk #[]) rfl),(A.szl (ByteArray.mk #[]) rfl),J0,J0⟩)
 refine Js 3 ?_;refine Jy [1] [] [.n,.b 0 0,.n] [(15,.slice A0_ o.length c1_),(16,A.i y)] ?_;have⟨f,E,h⟩:=Vu h;refine Vv 0 44 E fun p=>?_;intro z c10 V W;refine Jy [] [44] [.e 0 0] [(18,.agg #[A.i f.1,A.i f.2.1,.slice z f.2.2.1.length c10,A.i f.2.2.2.1.1,A.i f.2.2.2.1.2.1,.string f.2.2.2.1.2.2,.string f.2.2.2.2.1,A.i f.2.2.2.2.2.1,A.i f.2.2.2.2.2.2])] ?_;refine J3 46 (cs:=l4b) Tryz.zeroValue84 fun I=>?_;refine Vp 46 [] [A.i f.1,A.i f.2.1,.slice z f.2.2.1.length c10,A.i f.2.2.2.1.1,A.i f.2.2.2.1.2.1,.string f.2.2.2.1.2.2,.string f.2.2.2.2.1,A.i f.2.2.2.2.2.1,A.i f.2.2.2.2.2.2] ?_;refine J7 2 ?_;refine Jy [46] [] [.n,.b 0 2] [(20,.slice z f.2.2.1.length c10)] ?_;refine V4 47 A.ti 3 ?_;have⟨hl16,h⟩:=Vl h;refine Vy (k:=47) [] (A.rowS (k:=45) rfl) inf3 hl16 fun t u=>?_;refine Jw 1 [(22,.pointer (some ⟨I,2,none⟩))] ?_;refine Ug 46 [] (new:=[.slice t (([]++f.2.2.1).length) u]) (cs':=[A.i f.1,A.i f.2.1,.slice t (([]++f.2.2.1).length) u,A.i f.2.2.2.1.1,A.i f.2.2.2.1.2.1,.string f.2.2.2.1.2.2,.string f.2.2.2.2.1,A.i f.2.2.2.2.2.1,A.i f.2.2.2.2.2.2]) ?_;refine J7 2 ?_;refine Jy [46] [] [.b 0 0] [(23,.agg #[A.i f.1,A.i f.2.1,.slice t (([]++f.2.2.1).length) u,A.i f.2.2.2.1.1,A.i f.2.2.2.1.2.1,.string f.2.2.2.1.2.2,.string f.2.2.2.2.1,A.i f.2.2.2.2.2.1,A.i f.2.2.2.2.2.2])] ?_;refine Vp 2 [] [A.i f.1,A.i f.2.1,.slice t (([]++f.2.2.1).length) u,A.i f.2.2.2.1.1,A.i f.2.2.2.1.2.1,.string f.2.2.2.1.2.2,.string f.2.2.2.2.1,A.i f.2.2.2.2.2.1,A.i f.2.2.2.2.2.2] ?_;refine Jw 1 [(5,.bool true)] (Jt 1 ?_);obtain rfl:=J4 h;refine A.frz 47 [] ?_;exact Vr [(0,47)] (.tuple #[.agg #[A.i f.1,A.i f.2.1,.slice t (([]++f.2.2.1).length) u,A.i f.2.2.2.1.1,A.i f.2.2.2.1.2.1,.string f.2.2.2.1.2.2,.string f.2.2.2.2.1,A.i f.2.2.2.2.2.1,A.i f.2.2.2.2.2.2],.bool true]) (fun a w hf hh=>V3 rfl (V6 hf rfl Tryz.isAgg84 Tryz.sizeOf84 (Vn hh 2) rfl) (Vx hf rfl)) (⟨t,u,rfl,rfl,p.1,p.2.1,p.2.2.2.1.1,p.2.2.2.1.2.1,p.2.2.2.1.2.2,p.2.2.2.2.1,p.2.2.2.2.2.1,p.2.2.2.2.2.2⟩)
def F.el (a:Int):Option (D44×Int):=(F.ed a a 0 1).bind fun e=>(some e)
theorem o_bo (e:Int)(k:A.h6 e)(r:D44×Int)(h:F.el e=some r):
    A.Ct Tryz.prog 129 [A.i e] [] [] (fun v H'=>v=.tuple #[(A.raf r.1),A.i r.2]∧H'=[]∧A.h6 r.1.1∧A.h6 r.1.2.1∧A.h6 r.1.2.2.1∧A.h6 r.1.2.2.2.1∧A.h6 r.1.2.2.2.2.1∧A.h6 r.1.2.2.2.2.2.1∧A.h6 r.1.2.2.2.2.2.2.1∧A.h6 r.1.2.2.2.2.2.2.2∧A.h6 r.2):=by
 refine Jv Tryz.func129 rfl Tryz.ntmps129 rfl fun o p=>?_;rw[F.el]at h;refine Js 1 ?_;refine J3 0 (cs:=l4a) Tryz.zeroValue45 fun s=>?_;refine Jw 1 [] (J7 2 ?_);refine Jw 2 [(4,A.i e),(5,A.i e)] ?_;refine Vs 1 [] h (o_al e e 0 1 k k J0 (Va .i64 (1) rfl)) .nil ?_;rintro f - h _ _ ⟨rfl,rfl,hr4,hr5,hr6,hr7,hr8,hr9,hr10,hr11,hr12⟩;refine Vb ?_;refine Jw 2 [(7,(A.raf f.1)),(8,A.i f.2)] ?_;refine Vp 0 [] (A.rab f.1) ?_;refine Jw 1 [(3,A.i f.2)] (Jt 1 ?_);obtain rfl:=J4 h;exact Vr [] (.tuple #[(A.raf f.1),A.i f.2]) (fun a w hf hh=>V3 rfl (V6 hf rfl Tryz.isAgg45 Tryz.sizeOf45 (Vn hh 0) rfl) (Vx hf rfl)) (⟨rfl,rfl,hr4,hr5,hr6,hr7,hr8,hr9,hr10,hr11,hr12⟩)
def F.em (a:Int):Option (D44×Int):=if a<1 then(some ((0,0,0,0,(0,0,0,0)),11))else(A.gd (Z.R64 (a-1)) ((F.ed a (a-1) 0 0).bind fun e=>(some e)))
theorem o_bp (e:Int)(o:A.h6 e)(r:D44×Int)(f:F.em e=some r):
    A.Ct Tryz.prog 130 [A.i e] [] [] (fun v H'=>v=.tuple #[(A.raf r.1),A.i r.2]∧H'=[]∧A.h6 r.1.1∧A.h6 r.1.2.1∧A.h6 r.1.2.2.1∧A.h6 r.1.2.2.2.1∧A.h6 r.1.2.2.2.2.1∧A.h6 r.1.2.2.2.2.2.1∧A.h6 r.1.2.2.2.2.2.2.1∧A.h6 r.1.2.2.2.2.2.2.2∧A.h6 r.2):=by
 refine Jv Tryz.func130 rfl Tryz.ntmps130 rfl fun p s=>?_;rw[F.em]at f;refine Js 1 ?_;refine J3 0 (cs:=l4a) Tryz.zeroValue45 fun t=>?_;refine Jw 1 [] (J7 3 ?_);refine Jw 2 [(5,.bool (decide (e<1)))] (Jt 1 ?_);refine Vm f ?_ ?_<;>intro u f
 ·refine Js 1 ?_;refine Jw 1 [(6,.agg #[A.i 0,A.i 0,A.i 0,A.i 0,A.i 0,A.i 0,A.i 0,A.i 0])] ?_;refine Vp 0 [] A.zz8 ?_;refine Jw 1 [(3,A.i 11)] (Jt 1 ?_);obtain rfl:=J4 f;exact Vr [] (.tuple #[.agg #[A.i 0,A.i 0,A.i 0,A.i 0,A.i 0,A.i 0,A.i 0,A.i 0],A.i 11]) (fun a w hf hh=>V3 rfl (V6 hf rfl Tryz.isAgg45 Tryz.sizeOf45 (Vn hh 0) rfl) (Vx hf rfl)) (⟨rfl,rfl,J0,J0,J0,J0,J0,J0,J0,J0,(Va .i64 (11) rfl)⟩)
 refine Js 3 ?_;have⟨k,f⟩:=Vl f;refine V5 3 [Z.R64 (e-1)] [(7,A.i e),(9,A.i (e-1))] k ?_;refine Vs 1 [] f (o_al e (e-1) 0 0 o (Jz k) J0 J0) .nil ?_;rintro h - f _ _ ⟨rfl,rfl,hr5,hr6,hr7,hr8,hr9,hr10,hr11,hr12,hr13⟩;refine Vb ?_;refine Jw 2 [(11,(A.raf h.1)),(12,A.i h.2)] ?_;refine Vp 0 [] (A.rab h.1) ?_;refine Jw 1 [(3,A.i h.2)] (Jt 1 ?_);obtain rfl:=J4 f;exact Vr [] (.tuple #[(A.raf h.1),A.i h.2]) (fun a w hf hh=>V3 rfl (V6 hf rfl Tryz.isAgg45 Tryz.sizeOf45 (Vn hh 0) rfl) (Vx hf rfl)) (⟨rfl,rfl,hr5,hr6,hr7,hr8,hr9,hr10,hr11,hr12,hr13⟩)
def F.eu (a:Int):Option (D44×Int):=(F.ed a a 1 0).bind fun e=>(some e)
theorem o_bE (e:Int)(k:A.h6 e)(r:D44×Int)(h:F.eu e=some r):
    A.Ct Tryz.prog 131 [A.i e] [] [] (fun v H'=>v=.tuple #[(A.raf r.1),A.i r.2]∧H'=[]∧A.h6 r.1.1∧A.h6 r.1.2.1∧A.h6 r.1.2.2.1∧A.h6 r.1.2.2.2.1∧A.h6 r.1.2.2.2.2.1∧A.h6 r.1.2.2.2.2.2.1∧A.h6 r.1.2.2.2.2.2.2.1∧A.h6 r.1.2.2.2.2.2.2.2∧A.h6 r.2):=by
 refine Jv Tryz.func131 rfl Tryz.ntmps131 rfl fun o p=>?_;rw[F.eu]at h;refine Js 1 ?_;refine J3 0 (cs:=l4a) Tryz.zeroValue45 fun s=>?_;refine Jw 1 [] (J7 2 ?_);refine Jw 2 [(4,A.i e),(5,A.i e)] ?_;refine Vs 1 [] h (o_al e e 1 0 k k (Va .i64 (1) rfl) J0) .nil ?_;rintro f - h _ _ ⟨rfl,rfl,hr4,hr5,hr6,hr7,hr8,hr9,hr10,hr11,hr12⟩;refine Vb ?_;refine Jw 2 [(7,(A.raf f.1)),(8,A.i f.2)] ?_;refine Vp 0 [] (A.rab f.1) ?_;refine Jw 1 [(3,A.i f.2)] (Jt 1 ?_);obtain rfl:=J4 h;exact Vr [] (.tuple #[(A.raf f.1),A.i f.2]) (fun a w hf hh=>V3 rfl (V6 hf rfl Tryz.isAgg45 Tryz.sizeOf45 (Vn hh 0) rfl) (Vx hf rfl)) (⟨rfl,rfl,hr4,hr5,hr6,hr7,hr8,hr9,hr10,hr11,hr12⟩)
def F.cj (a:Int)(e:Int)(f:Int)(h:Int)(k:Int)(o:Int)(p:Int)(s:Int):Option D44:=some (a,e,f,h,(k,o,p,s))
def F.dJ (o:D83)(k:Int):Option D44:=(F.ek k).bind fun a=>(if o.2.1=12 then((F.el k).bind fun e=>(F.cj e.1.1 e.1.2.1 e.1.2.2.1 e.1.2.2.2.1 e.1.2.2.2.2.1 e.1.2.2.2.2.2.1 e.1.2.2.2.2.2.2.1 e.1.2.2.2.2.2.2.2))else(if o.2.1=13 then((F.em k).bind fun f=>(F.cj f.1.1 f.1.2.1 f.1.2.2.1 f.1.2.2.2.1 f.1.2.2.2.2.1 f.1.2.2.2.2.2.1 f.1.2.2.2.2.2.2.1 f.1.2.2.2.2.2.2.2))else(if o.2.1=14 then((F.eu k).bind fun h=>(F.cj h.1.1 h.1.2.1 h.1.2.2.1 h.1.2.2.2.1 h.1.2.2.2.2.1 h.1.2.2.2.2.2.1 h.1.2.2.2.2.2.2.1 h.1.2.2.2.2.2.2.2))else(F.cj a.1.1 a.1.2.1 a.1.2.2.1 a.1.2.2.2.1 a.1.2.2.2.2.1 a.1.2.2.2.2.2.1 a.1.2.2.2.2.2.2.1 a.1.2.2.2.2.2.2.2))))
theorem o_bd(e:D83)(h:Int)(a6:A.h6 e.1)(a7:A.h6 e.2.1)(a8:A.h6 e.2.2.2.1.1)(a9:A.h6 e.2.2.2.1.2.1)(aa:e.2.2.2.1.2.2.size≤maxLen)(ab:e.2.2.2.2.1.size≤maxLen)(ac:A.h6 e.2.2.2.2.2.1)(ad:A.h6 e.2.2.2.2.2.2)(J:A.h6 h)(r:D44)(f:F.dJ e h=some r):
    A.Ct Tryz.prog 89 [.agg #[A.i e.1,A.i e.2.1,.slice A2_ e.2.2.1.length c3_,A.i e.2.2.2.1.1,A.i e.2.2.2.1.2.1,.string e.2.2.2.1.2.2,.string e.2.2.2.2.1,A.i e.2.2.2.2.2.1,A.i e.2.2.2.2.2.2],A.i h] [(0,.sh A.TI [.slice A2_ e.2.2.1.length c3_] e.2.2.1)] [] (fun v H'=>v=(A.raf r)∧H'=[]∧A.h6 r.1∧A.h6 r.2.1∧A.h6 r.2.2.1∧A.h6 r.2.2.2.1∧A.h6 r.2.2.2.2.1∧A.h6 r.2.2.2.2.2.1∧A.h6 r.2.2.2.2.2.2.1∧A.h6 r.2.2.2.2.2.2.2):=by
 refine Jv Tryz.func89 rfl Tryz.ntmps89 rfl fun w0 F0=>?_;rw[F.dJ]at f;refine Js 1 ?_;refine J8 1 (cs:=[A.i e.1,A.i e.2.1,.slice A2_ e.2.2.1.length c3_,A.i e.2.2.2.1.1,A.i e.2.2.2.1.2.1,.string e.2.2.2.1.2.2,.string e.2.2.2.2.1,A.i e.2.2.2.2.2.1,A.i e.2.2.2.2.2.2]) fun g1=>?_;refine J3 2 (cs:=l4a) Tryz.zeroValue45 fun g2=>?_;refine J7 2 ?_;refine Jw 1 [(8,A.i h)] ?_;refine Vs 3 [] f (o_aK h J) .nil ?_;rintro k - f _ _ ⟨rfl,rfl,hr5,hr6,hr7,hr8,hr9,hr10,hr11,hr12,hr13⟩;refine Vb ?_;refine Jw 3 [(10,(A.raf k.1)),(11,A.i k.2)] ?_;refine J3 43 (cs:=l4a) Tryz.zeroValue45 fun N=>?_;refine Vp 43 [] (A.rab k.1) ?_;refine Jw 1 [] (Jt 1 ?_);refine J2 [4,5] [2] (fun O U=>∃(t:Int),∃(u:Int),∃(x:Int),∃(y:Int),∃(z:Int),∃(B:Int),∃(E:Int),∃(I:Int),O=[]∧U=[(43,.blk N 45 [A.i t,A.i u,A.i x,A.i y,A.i z,A.i B,A.i E,A.i I])]∧A.h6 t∧A.h6 u∧A.h6 x∧A.h6 y∧A.h6 z∧A.h6 B∧A.h6 E∧A.h6 I∧F.cj t u x y z B E I=some r) ?_ ?_
 ·refine Js 1 ?_;refine Jy [1] [] [.n,.b 0 1] [(13,A.i e.2.1)] (J7 3 ?_);refine Jw 2 [(14,.bool (decide (e.2.1=12)))] (Jt 1 ?_);refine Vm f ?_ ?_<;>intro L f
  ·refine Js 0 ?_;refine Jw 1 [(17,A.i h)] ?_;refine Vs 44 [] f (o_bo h J) .nil ?_;rintro o - f _ _ ⟨rfl,rfl,hr33,hr34,hr35,hr36,hr37,hr38,hr39,hr40,hr41⟩;refine Vb ?_;refine Jw 3 [(19,(A.raf o.1))] ?_;refine Vp 43 [] (A.rab o.1) ?_;refine Uc 1 ?_;exact Vf ⟨o.1.1,o.1.2.1,o.1.2.2.1,o.1.2.2.2.1,o.1.2.2.2.2.1,o.1.2.2.2.2.2.1,o.1.2.2.2.2.2.2.1,o.1.2.2.2.2.2.2.2,rfl,rfl,hr33,hr34,hr35,hr36,hr37,hr38,hr39,hr40,f⟩
  refine Js 1 ?_;refine Jw 2 [(21,.bool (decide (e.2.1=13)))] (Jt 1 ?_);refine Vm f ?_ ?_<;>intro L f
  ·refine Js 0 ?_;refine Jw 1 [(24,A.i h)] ?_;refine Vs 84 [] f (o_bp h J) .nil ?_;rintro p - f _ _ ⟨rfl,rfl,hr44,hr45,hr46,hr47,hr48,hr49,hr50,hr51,hr52⟩;refine Vb ?_;refine Jw 3 [(26,(A.raf p.1))] ?_;refine Vp 43 [] (A.rab p.1) ?_;refine Uc 1 ?_;exact Vf ⟨p.1.1,p.1.2.1,p.1.2.2.1,p.1.2.2.2.1,p.1.2.2.2.2.1,p.1.2.2.2.2.2.1,p.1.2.2.2.2.2.2.1,p.1.2.2.2.2.2.2.2,rfl,rfl,hr44,hr45,hr46,hr47,hr48,hr49,hr50,hr51,f⟩
  refine Js 1 ?_;refine Jw 2 [(28,.bool (decide (e.2.1=14)))] (Jt 1 ?_);refine Vm f ?_ ?_<;>intro L f
  ·refine Js 0 ?_;refine Jw 1 [(31,A.i h)] ?_;refine Vs 124 [] f (o_bE h J) .nil ?_;rintro s - f _ _ ⟨rfl,rfl,hr55,hr56,hr57,hr58,hr59,hr60,hr61,hr62,hr63⟩;refine Vb ?_;refine Jw 3 [(33,(A.raf s.1))] ?_;refine Vp 43 [] (A.rab s.1) ?_;refine Uc 1 ?_;exact Vf ⟨s.1.1,s.1.2.1,s.1.2.2.1,s.1.2.2.2.1,s.1.2.2.2.2.1,s.1.2.2.2.2.2.1,s.1.2.2.2.2.2.2.1,s.1.2.2.2.2.2.2.2,rfl,rfl,hr55,hr56,hr57,hr58,hr59,hr60,hr61,hr62,f⟩
  refine Vw 2 ?_;exact Vf ⟨k.1.1,k.1.2.1,k.1.2.2.1,k.1.2.2.2.1,k.1.2.2.2.2.1,k.1.2.2.2.2.2.1,k.1.2.2.2.2.2.2.1,k.1.2.2.2.2.2.2.2,rfl,rfl,hr5,hr6,hr7,hr8,hr9,hr10,hr11,hr12,f⟩
 rintro _ _ ⟨t,u,x,y,z,B,E,I,rfl,rfl,V,W,X,Y,a2,a3,a4,a5,f⟩;rw[F.cj]at f;refine Js 1 ?_;refine Jy [43] [] [.b 0 0] [(35,.agg #[A.i t,A.i u,A.i x,A.i y,A.i z,A.i B,A.i E,A.i I])] ?_;refine Vp 2 [] [A.i t,A.i u,A.i x,A.i y,A.i z,A.i B,A.i E,A.i I] ?_;refine Jt 1 ?_;obtain rfl:=J4 f;exact Vr [] (.agg #[A.i t,A.i u,A.i x,A.i y,A.i z,A.i B,A.i E,A.i I]) (fun a w hf hh=>Us rfl (V6 hf rfl Tryz.isAgg45 Tryz.sizeOf45 (Vn hh 2) rfl)) (⟨rfl,rfl,V,W,X,Y,a2,a3,a4,a5⟩)
def F.cN (e:(List D53)→Int→Option (List D53))(a:Int)(f:List D53):Option (List D53):=A.gd (Z.R64 (a+1)) (e f (a+1))
def F.dn (a:(List D53)→Int→Option (List D53))(e:Int)(f:List D53):Option (List D53):=F.cN a e f
def F.dp (e:(List D53)→Int→Option (List D53))(a:Int)(f:List D53):Option (List D53):=A.gd (Z.R64 (a+1)) (e f (a+1))
def F.bl (s:(List D53)→Int→Option (List D53))(h:D23)(k:D41)(t:D83×Bool)(o:D44×Int)(a:Int):Nat→(List D53)→Int→Option (List D53)
 |0,_,_=>none
 |f+1,p,e=>(A.ix h a).bind fun w=>(if e<(w.2.2.1.length:Int)then((A.ix h a).bind fun x=>((A.ix x.2.2.1 e).bind fun y=>(if y=t.1.1 then((A.ix h a).bind fun u=>(A.gd ((List.length (α:=D53) p+List.length (α:=D53) [(k.1,(u.1,e),o.1)])*96≤140737488355328) (F.dp (F.bl s h k t o a f) e (p++[(k.1,(u.1,e),o.1)]))))else(F.dp (F.bl s h k t o a f) e p))))else(A.gd (Z.R64 (a+1)) (s p (a+1))))
def F.bm (e:(List D53)→Int→Option (List D53))(a:D23)(h:Int)(k:D41)(o:D83×Bool)(p:D44×Int):Nat→(List D53)→Int→Option (List D53)
 |0,_,_=>none
 |f+1,s,t=>if t<(a.length:Int)then(F.bl (F.bm e a h k o p f) a k o p t A.FU s 0)else(F.cN e h s)
def F.aM (h:D23)(a:(List D41)):Nat→(List D53)→Int→Option (List D53)
 |0,_,_=>none
 |f+1,k,e=>if e<(a.length:Int)then((A.ix a e).bind fun o=>((F.ee h o.1.1).bind fun p=>(if o.1.2≠2 then(if p.1.2.1≠15 then((A.ix a e).bind fun t=>((F.dJ p.1 t.2).bind fun s=>(A.gd ((List.length (α:=D53) k+List.length (α:=D53) [(o.1,(p.1.1,2),s)])*96≤140737488355328) (F.dn (F.aM h a f) e (k++[(o.1,(p.1.1,2),s)])))))else(F.dn (F.aM h a f) e k))else((A.ix a e).bind fun u=>((F.ek u.2).bind fun w=>(F.bm (F.aM h a f) h e o p w A.FU k 0))))))else(some k)
def F.dq (a:D23)(e:(List D41)):Option (List D53):=F.aM a e A.FU [] 0
theorem o_aM(x:D23)(E:(List D41))(r:(List D53))(h:F.dq x E=some r):
    A.Ct Tryz.prog 50 [.agg #[.slice A0_ x.length c1_],.slice A2_ E.length c3_] [(0,.sh (.slice T83) [.slice A0_ x.length c1_] x),(1,.ln T41 A2_ c3_ E)] [] (fun v H'=>∃(A0':Option Addr) (c1':Nat),v=.slice A0' r.length c1'∧H'=[(0,.own T53 54 A0' c1' r)]):=by
 refine Jv Tryz.func50 rfl Tryz.ntmps50 rfl fun w0 F0=>?_;rw[F.dq]at h;refine Js 1 ?_;refine J8 2 (cs:=[.slice A0_ x.length c1_]) fun g1=>?_;refine Jw 1 [] (J7 2 ?_);refine Jw 1 [(5,.slice none 0 0)] (J7 3 ?_);refine Jw 1 [(6,A.i 0)] (Jt 2 ?_);refine V4 489 T53 54 ?_;refine Vk [1,2] l4q (fun f J L=>∃(N:List D53),∃(B:Int),∃(U:Option Addr),∃(V:Nat),J=[(5,.slice U N.length V),(6,A.i B)]∧L=[(489,.own T53 54 U V N)]∧A.h6 B∧F.aM x E f N B=some r) ⟨[],0,none,0,rfl,rfl,J0,h⟩ ?_;rintro W _ _ ⟨N,B,U,V,rfl,rfl,bg,h⟩;rcases W with _|W
 ·exact Vi h
 rw[F.aM]at h;refine Js 2 ?_;refine Jw 4 [(17,.bool (decide (B<(E.length:Int))))] (Jt 1 ?_);refine Vm h ?_ ?_<;>intro hb h
 ·refine V1 2 ?_;refine J2 [1,2,6] l4q (fun J L=>∃(a3:List D53),∃(A8:Option Addr),∃(c9:Nat),J=[(5,.slice A8 a3.length c9)]∧L=[(489,.own T53 54 A8 c9 a3)]∧F.cN (F.aM x E W) B a3=some r) ?_ ?_
  ·refine Js 2 ?_;refine Jw 2 [(20,.slice A2_ E.length c3_),(21,A.i B)] ?_;have⟨u,ax,h⟩:=Vu h;refine V7 1 888 ax fun a4=>?_;intro bh bi;refine Jy [] [888] [.n,.e 0 0] [(24,(A.rae u.1))] ?_;refine J3 889 (cs:=[A.i 0,A.i 0]) Tryz.zeroValue40 fun bj=>?_;refine Vp 889 [] (A.raa u.1) ?_;refine J7 2 ?_;refine Jy [2,889] [] [.b 0 0,.n,.b 1 0] [(26,.agg #[.slice A0_ x.length c1_]),(28,A.i u.1.1)] ?_;refine Vs 890 [] h (o_aU A0_ c1_ x u.1.1 a4.1.1) (.s 0 .nil) ?_;rintro o - h _ _ ⟨aa,ab,rfl,rfl,hr20,hr21,hr24,hr25,hr26,hr27,hr28,hr29⟩;refine Vb ?_;refine Jw 3 [(30,.agg #[A.i o.1.1,A.i o.1.2.1,.slice aa o.1.2.2.1.length ab,A.i o.1.2.2.2.1.1,A.i o.1.2.2.2.1.2.1,.string o.1.2.2.2.1.2.2,.string o.1.2.2.2.2.1,A.i o.1.2.2.2.2.2.1,A.i o.1.2.2.2.2.2.2]),(31,.bool o.2)] ?_;refine J3 930 (cs:=l4b) Tryz.zeroValue84 fun bk=>?_;refine Vp 930 [] [A.i o.1.1,A.i o.1.2.1,.slice aa o.1.2.2.1.length ab,A.i o.1.2.2.2.1.1,A.i o.1.2.2.2.1.2.1,.string o.1.2.2.2.1.2.2,.string o.1.2.2.2.2.1,A.i o.1.2.2.2.2.2.1,A.i o.1.2.2.2.2.2.2] ?_;refine Jw 1 [] (J7 3 ?_);refine Jy [889] [] [.n,.b 0 1,.n] [(34,.bool (decide (u.1.2≠2)))] (Jt 1 ?_);refine Vm h ?_ ?_<;>intro hb h
   ·refine J2 [1,2,6] l4q (fun J L=>∃(a5:List D53),∃(ac:Option Addr),∃(ad:Nat),J=[(5,.slice ac a5.length ad)]∧L=[(489,.own T53 54 ac ad a5)]∧F.dn (F.aM x E W) B a5=some r) ?_ ?_
    ·refine Js 1 ?_;refine Jy [930] [] [.n,.b 0 1,.n] [(37,.bool (decide (o.1.2.1≠15)))] (Jt 1 ?_);refine Vm h ?_ ?_<;>intro hb h
     ·refine Vh mixed 16 16 (A.mb 16 0) ?_;refine Ve J1 [] [0,1,2,888,889,890,930] [889,930] [] (A.mb 16 255) 8 [(0,.n),(1,.b 0 0),(2,.n),(5,.b 1 0),(6,.n),(7,.n),(3,.b 1 0),(4,.n)] [(38,.slice U N.length V),(39,(A.rae u.1)),(43,.agg #[A.i o.1.1,A.i o.1.2.1,.slice aa o.1.2.2.1.length ab,A.i o.1.2.2.2.1.1,A.i o.1.2.2.2.1.2.1,.string o.1.2.2.2.1.2.2,.string o.1.2.2.2.2.1,A.i o.1.2.2.2.2.2.1,A.i o.1.2.2.2.2.2.2]),(44,.slice A2_ E.length c3_),(45,A.i B),(42,.agg #[A.i o.1.1,A.i 2])] ?_;have⟨ai,aj,h⟩:=Vu h;refine Vo 1 931 aj fun ay=>?_;intro bp bq az;refine Vd J1 [0,1,2,888,889,890,930] l4e 8 (A.mb 16 511) rfl (fun a w hf hh=>Vj (t:=T41) aj az hf) ?_;refine Ve J1 l4e l4e [] [931] (A.mb 16 2047) 5 [(9,.n),(10,.e 0 2)] [(48,A.i ai.2)] ?_;refine J6 11 ?_;refine Vs 932 [] h (o_bd aa ab o.1 ai.2 hr20 hr21 hr24 hr25 hr26 hr27 hr28 hr29 ay.2) (.s 890 .nil) ?_;rintro y - h _ _ ⟨rfl,rfl,hr42,hr43,hr44,hr45,hr46,hr47,hr48,hr49⟩;refine Vb ?_;refine Vc (A.mb 16 4095) l4e ?_;refine Ve J1 l4e l4e [] [] (A.mb 16 8191) 3 [(12,.n)] [(50,.agg #[A.i u.1.1,A.i u.1.2,A.i o.1.1,A.i 2,A.i y.1,A.i y.2.1,A.i y.2.2.1,A.i y.2.2.2.1,A.i y.2.2.2.2.1,A.i y.2.2.2.2.2.1,A.i y.2.2.2.2.2.2.1,A.i y.2.2.2.2.2.2.2])] ?_;refine J6 13 ?_;refine Vq 972 (ty:=T53) (cs:=[A.i u.1.1,A.i u.1.2,A.i o.1.1,A.i 2,A.i y.1,A.i y.2.1,A.i y.2.2.1,A.i y.2.2.2.1,A.i y.2.2.2.2.1,A.i y.2.2.2.2.2.1,A.i y.2.2.2.2.2.2.1,A.i y.2.2.2.2.2.2.2]) [(u.1,(o.1.1,2),y)] ⟨⟨⟨⟨rfl,a4.1.1⟩,⟨rfl,a4.1.2⟩⟩,⟨⟨rfl,hr20⟩,⟨rfl,(Va .i64 (2) rfl)⟩⟩,⟨⟨rfl,hr42⟩,⟨rfl,hr43⟩,⟨rfl,hr44⟩,⟨rfl,hr45⟩,⟨⟨rfl,hr46⟩,⟨rfl,hr47⟩,⟨rfl,hr48⟩,⟨rfl,hr49⟩⟩⟩⟩,rfl⟩ (fun br=>?_) Tryz.zeroValue54 Tryz.sizeOf54
      refine Vc (A.mb 16 16383) l4e ?_;refine J6 14 ?_;have⟨hl53,h⟩:=Vl h;refine Vy (k:=489) [] (Ui (k:=972) rfl) inf54 hl53 fun ak al=>?_;refine Vc (A.mb 16 32767) l4e ?_;refine Ve J1 l4e [0,1,2,489,888,889,890,930,931,972] [] [] (A.mb 16 65535) 0 [(15,.n)] [(5,.slice ak ((N++[(u.1,(o.1.1,2),y)]).length) al)] (J9 ?_);exact Vf ⟨(N++[(u.1,(o.1.1,2),y)]),ak,al,rfl,rfl,h⟩
     refine Vw 1 ?_;exact Vf ⟨N,U,V,rfl,rfl,h⟩
    rintro _ _ ⟨a5,ac,ad,rfl,rfl,h⟩;rw[F.dn]at h;refine Vw 1 ?_;exact Vf ⟨a5,ac,ad,rfl,rfl,h⟩
   refine Js 3 ?_;refine Jw 2 [(54,.slice A2_ E.length c3_),(55,A.i B)] ?_;have⟨am,b0,h⟩:=Vu h;refine V7 1 973 b0 fun b1=>?_;intro bt bu;refine Jy [] [973] [.n,.e 0 2] [(58,A.i am.2)] ?_;refine Vs 974 [] h (o_aK am.2 b1.2) .nil ?_;rintro p - h _ _ ⟨rfl,rfl,hr61,hr62,hr63,hr64,hr65,hr66,hr67,hr68,hr69⟩;refine Vb ?_;refine Jw 3 [(60,(A.raf p.1)),(61,A.i p.2)] ?_;refine J3 1014 (cs:=l4a) Tryz.zeroValue45 fun bv=>?_;refine Vp 1014 [] (A.rab p.1) ?_;refine Jw 1 [] (J7 2 ?_);refine Jw 1 [(12,A.i 0)] (Jt 2 ?_);refine Vk [1,2,6,7,8,10] l4n (fun f J L=>∃(X:List D53),∃(I:Int),∃(a6:Option Addr),∃(a7:Nat),J=[(5,.slice a6 X.length a7),(12,A.i I)]∧L=[(489,.own T53 54 a6 a7 X)]∧A.h6 I∧F.bm (F.aM x E W) x B u o p f X I=some r) ⟨N,0,U,V,rfl,rfl,J0,h⟩ ?_;rintro ae _ _ ⟨X,I,a6,a7,rfl,rfl,bw,h⟩;rcases ae with _|ae
   ·exact Vi h
   rw[F.bm]at h;refine Js 2 ?_;refine Jy [2] [] [.n,.n,.b 0 0,.n,.n] [(66,.bool (decide (I<(x.length:Int))))] (Jt 1 ?_);refine Vm h ?_ ?_<;>intro hb h
   ·refine Js 5 ?_;refine Jw 1 [(13,A.i 0)] (Jt 2 ?_);refine Vk [1,2,6,7,8,10,12] l4n (fun f J L=>∃(O:List D53),∃(z:Int),∃(Y:Option Addr),∃(a2:Nat),J=[(5,.slice Y O.length a2),(13,A.i z)]∧L=[(489,.own T53 54 Y a2 O)]∧A.h6 z∧F.bl (F.bm (F.aM x E W) x B u o p ae) x u o p I f O z=some r) ⟨X,0,a6,a7,rfl,rfl,J0,h⟩ ?_;rintro ah _ _ ⟨O,z,Y,a2,rfl,rfl,b2,h⟩;rcases ah with _|ah
    ·exact Vi h
    rw[F.bl]at h;refine Js 2 ?_;refine Jy [2] [] [.n,.n,.b 0 0,.n] [(69,A.i z),(71,.slice A0_ x.length c1_),(72,A.i I)] ?_;have⟨b3,b4,h⟩:=Vu h;refine Vv 0 1079 b4 fun bx=>?_;intro bz c0 c1 c2;refine Jy [] [1079] [.n,.e 0 2,.n,.n] [(77,.bool (decide (z<(b3.2.2.1.length:Int))))] (Jt 1 ?_);refine Vm h ?_ ?_<;>intro hb h
    ·refine V1 2 ?_;refine J2 [1,2,6,7,8,10,12,13] l4n (fun J L=>∃(a8:List D53),∃(af:Option Addr),∃(ag:Nat),J=[(5,.slice af a8.length ag)]∧L=[(489,.own T53 54 af ag a8)]∧F.dp (F.bl (F.bm (F.aM x E W) x B u o p ae) x u o p I ah) z a8=some r) ?_ ?_
     ·refine V1 2 ?_;refine Vh mixed 12 12 (A.mb 12 0) ?_;refine Ve J1 [] l4l [2,930] [] (A.mb 12 1607) 6 [(0,.n),(2,.n),(6,.n),(9,.n),(1,.b 0 0),(10,.b 1 0)] [(82,A.i I),(86,A.i z),(81,.slice A0_ x.length c1_),(90,A.i o.1.1)] ?_;have⟨b5,an,h⟩:=Vu h;refine V9 0 1081 an fun c4=>?_;intro b6 b7 c5 c6 b9;refine Vd J1 l4l l4f 3 (A.mb 12 1615) rfl (fun a w hf hh=>Vj (t:=T83) an b9 hf) ?_;refine Ve J1 l4f l4f [] [1081] (A.mb 12 1663) 3 [(4,.n),(5,.e 0 2)] [(85,.slice b6 b5.2.2.1.length b7)] ?_;have⟨bb,ao,h⟩:=Vu h;refine V9 1082 1083 ao fun c7=>?_;intro c8 ca bc;refine Vd J1 l4f l4g 7 (A.mb 12 1791) rfl (fun a w hf hh=>Vj (t:=A.ti) ao bc hf) ?_;refine Ve J1 l4g l4g [] [1083] (A.mb 12 4095) 0 [(8,.e 0 0),(11,.n)] [(91,.bool (decide (bb=o.1.1)))] (J9 ?_);refine Uu 1 ?_;refine Vm h ?_ ?_<;>intro hb h
      ·refine Vh mixed 15 15 (A.mb 15 0) ?_;refine Ve J1 [] l4j [889,1014,2] [] (A.mb 15 1311) 8 [(0,.n),(1,.b 0 0),(2,.n),(4,.n),(8,.n),(10,.b 1 0),(3,.b 2 0)] [(92,.slice Y O.length a2),(93,(A.rae u.1)),(96,A.i I),(100,A.i z),(102,(A.raf p.1)),(95,.slice A0_ x.length c1_)] ?_;have⟨a9,ap,h⟩:=Vu h;refine V9 0 1084 ap fun bd=>?_;intro cb cc cd ce be;refine Vd J1 l4j l4c 5 (A.mb 15 1343) rfl (fun a w hf hh=>Vj (t:=T83) ap be hf) ?_;refine Ve J1 l4c l4c [] [1084] (A.mb 15 4095) 3 [(6,.n),(7,.e 0 0),(9,.n),(11,.n)] [(103,.agg #[A.i u.1.1,A.i u.1.2,A.i a9.1,A.i z,A.i p.1.1,A.i p.1.2.1,A.i p.1.2.2.1,A.i p.1.2.2.2.1,A.i p.1.2.2.2.2.1,A.i p.1.2.2.2.2.2.1,A.i p.1.2.2.2.2.2.2.1,A.i p.1.2.2.2.2.2.2.2])] ?_;refine J6 12 ?_;refine Vq 1086 (ty:=T53) (cs:=[A.i u.1.1,A.i u.1.2,A.i a9.1,A.i z,A.i p.1.1,A.i p.1.2.1,A.i p.1.2.2.1,A.i p.1.2.2.2.1,A.i p.1.2.2.2.2.1,A.i p.1.2.2.2.2.2.1,A.i p.1.2.2.2.2.2.2.1,A.i p.1.2.2.2.2.2.2.2]) [(u.1,(a9.1,z),p.1)] ⟨⟨⟨⟨rfl,a4.1.1⟩,⟨rfl,a4.1.2⟩⟩,⟨⟨rfl,bd.1⟩,⟨rfl,b2⟩⟩,⟨⟨rfl,hr61⟩,⟨rfl,hr62⟩,⟨rfl,hr63⟩,⟨rfl,hr64⟩,⟨⟨rfl,hr65⟩,⟨rfl,hr66⟩,⟨rfl,hr67⟩,⟨rfl,hr68⟩⟩⟩⟩,rfl⟩ (fun cf=>?_) Tryz.zeroValue54 Tryz.sizeOf54
       refine Vc (A.mb 15 8191) l4c ?_;refine J6 13 ?_;have⟨hl119,h⟩:=Vl h;refine Vy (k:=489) [] (Ui (k:=1086) rfl) inf54 hl119 fun aq ar=>?_;refine Vc (A.mb 15 16383) l4c ?_;refine Ve J1 l4c [0,1,2,489,889,890,930,1014,1079,1080,1081,1082,1083,1084,1085,1086] [] [] (A.mb 15 32767) 0 [(14,.n)] [(5,.slice aq ((O++[(u.1,(a9.1,z),p.1)]).length) ar)] (J9 ?_);refine A.ee 1 ?_;exact Vf ⟨(O++[(u.1,(a9.1,z),p.1)]),aq,ar,rfl,rfl,h⟩
      refine Vw 2 ?_;exact Vf ⟨O,Y,a2,rfl,rfl,h⟩
     rintro _ _ ⟨a8,af,ag,rfl,rfl,h⟩;rw[F.dp]at h;refine Js 0 ?_;have⟨au,h⟩:=Vl h;refine V5 3 [Z.R64 (z+1)] [(13,A.i (z+1))] au (Ju ?_);exact Vf ⟨_,Qi _,⟨a8,(z+1),af,ag,rfl,rfl,(Jz au),h⟩⟩
    refine Js 3 ?_;have⟨av,h⟩:=Vl h;refine V5 3 [Z.R64 (I+1)] [(12,A.i (I+1))] av (Ju ?_);exact Vf ⟨_,Qi _,⟨O,(I+1),Y,a2,rfl,rfl,(Jz av),h⟩⟩
   refine Vw 2 ?_;exact Vf ⟨X,a6,a7,rfl,rfl,h⟩
  rintro _ _ ⟨a3,A8,c9,rfl,rfl,h⟩;rw[F.cN]at h;refine Js 0 ?_;have⟨aw,h⟩:=Vl h;refine V5 3 [Z.R64 (B+1)] [(6,A.i (B+1))] aw (Ju ?_);exact Vf ⟨_,Qi _,⟨a3,(B+1),A8,c9,rfl,rfl,(Jz aw),h⟩⟩
 refine Js 3 ?_;refine Jw 2 [(4,.slice U N.length V)] (Jt 1 ?_);obtain rfl:=J4 h;exact J5 [(0,489)] ⟨U,V,rfl,rfl⟩
def F.dK (a:Int):Option Int:=if(bif decide (a<1)then true else decide ((16:Int)<a))=true then(some (-1))else(if a=1 then(some 0)else(if(bif decide (a=5)then true else decide (a=9))=true then(some 2)else(some 1)))
theorem o_ap (e:Int)(h:A.h6 e)(r:Int)(a:F.dK e=some r):
    A.Ct Tryz.prog 157 [A.i e] [] [] (fun v H'=>v=A.i r∧H'=[]∧A.h6 r):=by
 refine Jv Tryz.func157 rfl Tryz.ntmps157 rfl fun k o=>?_;rw[F.dK]at a;refine Js 1 ?_;refine Jw 1 [] (J7 4 ?_);refine Jy [] [] [.n,.n,.n,.sy .n,.sy .n,.pk,.n] [(3,.bool (bif decide (e<1)then true else decide ((16:Int)<e)))] (Jt 1 ?_);refine Ua a ?_ ?_<;>intro f a
 ·refine Js 1 ?_;refine Jw 1 [(2,A.i (-1))] (Jt 1 ?_);obtain rfl:=J4 a;exact J5 [] ⟨rfl,rfl,(Va .i64 (-1) rfl)⟩
 refine Js 1 ?_;refine Jw 3 [(10,.bool (decide (e=1)))] (Jt 1 ?_);refine Vm a ?_ ?_<;>intro f a
 ·refine Js 1 ?_;refine Jw 1 [(2,A.i 0)] (Jt 1 ?_);obtain rfl:=J4 a;exact J5 [] ⟨rfl,rfl,J0⟩
 refine Js 1 ?_;refine Jy [] [] [.n,.n,.n,.sy .n,.sy .n,.pk,.n] [(13,.bool (bif decide (e=5)then true else decide (e=9)))] (Jt 1 ?_);refine Ua a ?_ ?_<;>intro f a
 ·refine Js 1 ?_;refine Jw 1 [(2,A.i 2)] (Jt 1 ?_);obtain rfl:=J4 a;exact J5 [] ⟨rfl,rfl,(Va .i64 (2) rfl)⟩
 refine Js 4 ?_;refine Jw 1 [(2,A.i 1)] (Jt 1 ?_);obtain rfl:=J4 a;exact J5 [] ⟨rfl,rfl,(Va .i64 (1) rfl)⟩
def F.dr (e:Int→Option (Int×Bool))(f:D23)(a:Int)(h:Bool):Option (Int×Bool):=if h=true then((A.ix f a).bind fun k=>(some (k.1,true)))else(A.gd (Z.R64 (a+1)) (e (a+1)))
def F.bM (a:D23)(h:Int)(k:ByteArray):Nat→Int→Option (Int×Bool)
 |0,_=>none
 |f+1,e=>if e<(a.length:Int)then((A.ix a e).bind fun o=>(if o.2.1=h then((A.ix a e).bind fun p=>(F.dr (F.bM a h k f) a e (decide (p.2.2.2.2.1=k))))else(F.dr (F.bM a h k f) a e false)))else(some (0,false))
def F.ey (a:D23)(e:Int)(f:ByteArray):Option (Int×Bool):=F.bM a e f A.FU 0
theorem o_bq(h:D23)(p:Int)(o:ByteArray)(O:A.h6 p)(U:o.size≤maxLen)(r:Int×Bool)(a:F.ey h p o=some r):
    A.Ct Tryz.prog 158 [.agg #[.slice A0_ h.length c1_],A.i p,.string o] [(0,.sh (.slice T83) [.slice A0_ h.length c1_] h)] [] (fun v H'=>v=.tuple #[A.i r.1,.bool r.2]∧H'=[]∧A.h6 r.1):=by
 refine Jv Tryz.func158 rfl Tryz.ntmps158 rfl fun V W=>?_;rw[F.ey]at a;refine Js 1 ?_;refine J8 1 (cs:=[.slice A0_ h.length c1_]) fun X=>?_;refine Jw 2 [] (J7 3 ?_);refine Jw 1 [(8,A.i 0)] (Jt 2 ?_);refine Vk [1,2,3] l4s (fun f s t=>∃(k:Int),s=[(8,A.i k)]∧t=[]∧A.h6 k∧F.bM h p o f k=some r) ⟨0,rfl,rfl,J0,a⟩ ?_;rintro u _ _ ⟨k,rfl,rfl,Y,a⟩;rcases u with _|u
 ·exact Vi a
 rw[F.bM]at a;refine Js 2 ?_;refine Jy [1] [] [.n,.n,.b 0 0,.n,.n] [(13,.bool (decide (k<(h.length:Int))))] (Jt 1 ?_);refine Vm a ?_ ?_<;>intro x a
 ·refine V1 4 ?_;refine J2 [1,2,3,8] l4s (fun s t=>∃(w:Bool),s=[(33,.bool w)]∧t=[]∧F.dr (F.bM h p o u) h k w=some r) ?_ ?_
  ·refine Js 0 ?_;refine Jy [1] [] [.n,.b 0 0,.n] [(17,.slice A0_ h.length c1_),(18,A.i k)] ?_;have⟨B,E,a⟩:=Vu a;refine Vv 0 14 E fun a3=>?_;intro a4 a5 a6 a7;refine Jy [] [14] [.n,.e 0 1,.n,.n,.n] [(24,.bool (decide (B.2.1=p)))] ?_;refine V8 (j:=24) rfl a ?_ ?_<;>intro x a
   ·refine Jy [1] [] [.on .n,.on (.b 0 0),.on .n] [(26,.slice A0_ h.length c1_),(27,A.i k)] ?_;refine Vg (dj:=24) rfl rfl ?_;have⟨y,I,a⟩:=Vu a;refine Vv 0 16 I fun a8=>?_;intro a9 aa ab ac;refine Jy [] [16] [.on .n,.on (.e 0 6),.on .n,.on .n,.n] [(33,.bool (decide (y.2.2.2.2.1=o)))] (Ju ?_);exact Vf ⟨(decide (y.2.2.2.2.1=o)),rfl,rfl,a⟩
   refine Jy [] [] [.off,.off,.off,.off,.off,.off,.off,.off,.n] [(33,.bool false)] (Ju ?_);exact Vf ⟨false,rfl,rfl,a⟩
  rintro _ _ ⟨w,rfl,rfl,a⟩;rw[F.dr]at a;refine Ua a ?_ ?_<;>intro x a
  ·refine Js 1 ?_;refine Jy [1] [] [.n,.b 0 0,.n] [(35,.slice A0_ h.length c1_),(36,A.i k)] ?_;have⟨J,L,a⟩:=Vu a;refine Vv 0 18 L fun N=>?_;intro A9 c10 ad ae;refine Jy [] [18] [.n,.e 0 0,.n,.n] [(6,A.i J.1),(7,.bool true)] (Jt 1 ?_);obtain rfl:=J4 a;exact Vz [] ⟨rfl,rfl,N.1⟩
  refine Js 3 ?_;have⟨z,a⟩:=Vl a;refine V5 3 [Z.R64 (k+1)] [(8,A.i (k+1))] z (Ju ?_);exact Vf ⟨_,Qi _,⟨(k+1),rfl,rfl,(Jz z),a⟩⟩
 refine Js 3 ?_;refine Jw 2 [(6,A.i 0),(7,.bool false)] (Jt 1 ?_);obtain rfl:=J4 a;exact Vz [] ⟨rfl,rfl,J0⟩
def F.dL (a:UInt8):Option Bool:=if(bif decide ((97:Int)≤(a.toNat:Int))then decide ((a.toNat:Int)≤122)else false)=true then(some true)else(some (bif decide ((65:Int)≤(a.toNat:Int))then decide ((a.toNat:Int)≤90)else false))
theorem o_aE (a:UInt8)(r:Bool)(e:F.dL a=some r):
    A.Ct Tryz.prog 180 [.int .u8 (a.toNat:Int)] [] [] (fun v H'=>v=.bool r∧H'=[]):=by
 refine Jv Tryz.func180 rfl Tryz.ntmps180 rfl fun f h=>?_;rw[F.dL]at e;refine Js 1 ?_;refine Jw 1 [] (J7 2 ?_);refine Jy [] [] [.n,.n,.n,.sy .n,.sy .n,.pk,.n] [(9,.bool (bif decide ((97:Int)≤(a.toNat:Int))then decide ((a.toNat:Int)≤122)else false))] ?_;refine Vt (j:=9) rfl e (fun e=>?_) (fun e=>?_)
 ·refine Jy [] [] [.off,.off,.off,.off,.off,.off,.n,.n] [(2,.bool true)] (Jt 1 ?_);obtain rfl:=J4 e;exact J5 [] ⟨rfl,rfl⟩
 refine Jy [] [] [.on .n,.on .n,.on .n,.sy .n,.sy .n,.on .pk,.n,.n] [(2,.bool (bif decide ((65:Int)≤(a.toNat:Int))then decide ((a.toNat:Int)≤90)else false))] (Jt 1 ?_);obtain rfl:=J4 e;exact J5 [] ⟨rfl,rfl⟩
def F.en (a:UInt8):Option Bool:=some (bif decide ((48:Int)≤(a.toNat:Int))then decide ((a.toNat:Int)≤57)else false)
theorem o_br (a:UInt8)(r:Bool)(e:F.en a=some r):
    A.Ct Tryz.prog 181 [.int .u8 (a.toNat:Int)] [] [] (fun v H'=>v=.bool r∧H'=[]):=by
 refine Jv Tryz.func181 rfl Tryz.ntmps181 rfl fun f h=>?_;rw[F.en]at e;refine Js 1 ?_;refine Jw 1 [] (J7 2 ?_);refine Jy [] [] [.n,.n,.n,.sy .n,.sy .n,.pk,.n] [(2,.bool (bif decide ((48:Int)≤(a.toNat:Int))then decide ((a.toNat:Int)≤57)else false))] (Jt 1 ?_);obtain rfl:=J4 e;exact J5 [] ⟨rfl,rfl⟩
def F.de (e:Int→Option Bool)(a:Int)(f:Bool):Option Bool:=if f=true then(some false)else(A.gd (Z.R64 (a+1)) (e (a+1)))
def F.bH (a:ByteArray):Nat→Int→Option Bool
 |0,_=>none
 |f+1,e=>if e<(a.size:Int)then((A.ix a.data.toList e).bind fun h=>((F.dL h).bind fun k=>(if(!k)=true then((A.ix a.data.toList e).bind fun o=>((F.en o).bind fun p=>(F.de (F.bH a f) e (!p))))else(F.de (F.bH a f) e false))))else(some true)
def F.cD (a:ByteArray)(e:Bool):Option Bool:=if e=true then(some false)else(F.bH a A.FU 0)
def F.ev (a:ByteArray):Option Bool:=if(bif decide (a=(ByteArray.mk #[]))then true else decide ((16:Int)<(a.size:Int)))=true then(F.cD a true)else((A.ix a.data.toList 0).bind fun e=>((F.dL e).bind fun f=>(F.cD a (!f))))
theorem o_bF (e:ByteArray)(O:e.size≤maxLen)(r:Bool)(a:F.ev e=some r):
    A.Ct Tryz.prog 159 [.string e] [] [] (fun v H'=>v=.bool r∧H'=[]):=by
 refine Jv Tryz.func159 rfl Tryz.ntmps159 rfl fun U V=>?_;rw[F.ev]at a;refine Js 1 ?_;refine Jw 1 [] (Jt 2 ?_);refine J2 [0] [] (fun k o=>∃(p:Bool),k=[(16,.bool p)]∧o=[]∧F.cD e p=some r) ?_ ?_
 ·refine Js 0 ?_;refine Jy [] [] [.n,.n,.n,.sy .n,.sy .n,.sy .n,.pk,.n] [(11,.bool (bif decide (e=(ByteArray.mk #[]))then true else decide ((16:Int)<(e.size:Int))))] ?_;refine Vt (j:=11) rfl a (fun a=>?_) (fun a=>?_)
  ·refine Jy [] [] [.off,.off,.off,.off,.n] [(16,.bool true)] (Ju ?_);exact Vf ⟨true,rfl,rfl,a⟩
  refine Jy [] [] [.on .n] [(12,.string e)] ?_;refine Vg (dj:=11) rfl rfl ?_;have⟨z,B,a⟩:=Vu a;refine Ut B ?_;refine Vg (dj:=11) rfl rfl ?_;refine Vs 0 [] a (o_aE z) .nil ?_;rintro u - a _ _ ⟨rfl,rfl⟩;refine Vb ?_;refine Jy [] [] [.on .n,.n] [(16,.bool (!u))] (Ju ?_);exact Vf ⟨(!u),rfl,rfl,a⟩
 rintro _ _ ⟨p,rfl,rfl,a⟩;rw[F.cD]at a;refine Ua a ?_ ?_<;>intro w a
 ·refine Js 1 ?_;refine Jw 1 [(2,.bool false)] (Jt 1 ?_);obtain rfl:=J4 a;exact J5 [] ⟨rfl,rfl⟩
 refine Js 4 ?_;refine Jw 1 [(3,A.i 0)] (Jt 2 ?_);refine Vk [0] [] (fun f k o=>∃(h:Int),k=[(3,A.i h)]∧o=[]∧A.h6 h∧F.bH e f h=some r) ⟨0,rfl,rfl,J0,a⟩ ?_;rintro s _ _ ⟨h,rfl,rfl,W,a⟩;rcases s with _|s
 ·exact Vi a
 rw[F.bH]at a;refine Js 2 ?_;refine Jw 4 [(20,.bool (decide (h<(e.size:Int))))] (Jt 1 ?_);refine Vm a ?_ ?_<;>intro w a
 ·refine V1 4 ?_;refine J2 [0,3] [] (fun k o=>∃(t:Bool),k=[(34,.bool t)]∧o=[]∧F.de (F.bH e s) h t=some r) ?_ ?_
  ·refine Js 0 ?_;refine Jw 2 [(23,.string e),(24,A.i h)] ?_;have⟨E,I,a⟩:=Vu a;refine Ut I ?_;refine Vs 200 [] a (o_aE E) .nil ?_;rintro J - a _ _ ⟨rfl,rfl⟩;refine Vb ?_;refine Jw 2 [(28,.bool (!J))] ?_;refine Vt (j:=28) rfl a (fun a=>?_) (fun a=>?_)
   ·refine Jy [] [] [.on .n,.on .n] [(29,.string e),(30,A.i h)] ?_;refine Vg (dj:=28) rfl rfl ?_;have⟨L,N,a⟩:=Vu a;refine Ut N ?_;refine Vg (dj:=28) rfl rfl ?_;refine Vs 240 [] a (o_br L) .nil ?_;rintro x - a _ _ ⟨rfl,rfl⟩;refine Vb ?_;refine Jy [] [] [.on .n,.n] [(34,.bool (!x))] (Ju ?_);exact Vf ⟨(!x),rfl,rfl,a⟩
   refine Jy [] [] [.off,.off,.off,.off,.off,.n] [(34,.bool false)] (Ju ?_);exact Vf ⟨false,rfl,rfl,a⟩
  rintro _ _ ⟨t,rfl,rfl,a⟩;rw[F.de]at a;refine Ua a ?_ ?_<;>intro w a
  ·refine Js 1 ?_;refine Jw 1 [(2,.bool false)] (Jt 1 ?_);obtain rfl:=J4 a;exact J5 [] ⟨rfl,rfl⟩
  refine Js 3 ?_;have⟨y,a⟩:=Vl a;refine V5 3 [Z.R64 (h+1)] [(3,A.i (h+1))] y (Ju ?_);exact Vf ⟨_,Qi _,⟨(h+1),rfl,rfl,(Jz y),a⟩⟩
 refine Js 3 ?_;refine Jw 1 [(2,.bool true)] (Jt 1 ?_);obtain rfl:=J4 a;exact J5 [] ⟨rfl,rfl⟩
def F.dM (e:D23)(a:D83):Option Bool:=if(bif decide (a.2.1≠1)then decide (a.2.1≠15)else false)=true then(some (decide (a.2.2.2.2.1=(ByteArray.mk #[]))))else((F.ey e a.2.1 a.2.2.2.2.1).bind fun f=>((F.ev a.2.2.2.2.1).bind fun h=>(some (bif h then decide (f.1=a.1)else false))))
def F.bu (e:D23)(a:D83)(f:Bool):Option Bool:=if f=true then(some false)else(if a.2.1=14 then(if(bif bif bif decide (a.2.2.2.2.2.1<1)then true else decide ((8:Int)<a.2.2.2.2.2.1)then true else decide (a.2.2.2.2.2.2<1)then true else decide ((4:Int)<a.2.2.2.2.2.2))=true then(some false)else(F.dM e a))else(if(bif decide (a.2.2.2.2.2.1≠0)then true else decide (a.2.2.2.2.2.2≠0))=true then(some false)else(F.dM e a)))
def F.eE (e:D23)(f:Int):Option Bool:=(A.ix e f).bind fun a=>(if(bif decide (a.1<1)then true else decide ((255:Int)<a.1))=true then(F.bu e a true)else(if(0:Int)<f then(A.gd (Z.R64 (f-1)) ((A.ix e (f-1)).bind fun h=>(if a.1≤h.1 then(F.bu e a true)else((F.dK a.2.1).bind fun k=>(if k<0 then(F.bu e a true)else((F.dK a.2.1).bind fun o=>(F.bu e a (decide ((a.2.2.1.length:Int)≠o)))))))))else((F.dK a.2.1).bind fun p=>(if p<0 then(F.bu e a true)else((F.dK a.2.1).bind fun s=>(F.bu e a (decide ((a.2.2.1.length:Int)≠s))))))))
theorem o_bR(k:D23)(p:Int)(a3:A.h6 p)(r:Bool)(f:F.eE k p=some r):
    A.Ct Tryz.prog 123 [.agg #[.slice A0_ k.length c1_],A.i p] [(0,.sh (.slice T83) [.slice A0_ k.length c1_] k)] [] (fun v H'=>v=.bool r∧H'=[]):=by
 refine Jv Tryz.func123 rfl Tryz.ntmps123 rfl fun w0 F0=>?_;rw[F.eE]at f;refine Js 1 ?_;refine J8 1 (cs:=[.slice A0_ k.length c1_]) fun g1=>?_;refine Jw 1 [] (J7 2 ?_);refine Jy [1] [] [.n,.b 0 0,.n] [(9,.slice A0_ k.length c1_),(10,A.i p)] ?_;have⟨h,O,f⟩:=Vu f;refine Vv 0 2 O fun u=>?_;intro B E b7 o8;refine Jy [] [2] [.e 0 0] [(12,.agg #[A.i h.1,A.i h.2.1,.slice B h.2.2.1.length E,A.i h.2.2.2.1.1,A.i h.2.2.2.1.2.1,.string h.2.2.2.1.2.2,.string h.2.2.2.2.1,A.i h.2.2.2.2.2.1,A.i h.2.2.2.2.2.2])] ?_;refine J3 4 (cs:=l4b) Tryz.zeroValue84 fun g9=>?_;refine Vp 4 [] [A.i h.1,A.i h.2.1,.slice B h.2.2.1.length E,A.i h.2.2.2.1.1,A.i h.2.2.2.1.2.1,.string h.2.2.2.1.2.2,.string h.2.2.2.2.1,A.i h.2.2.2.2.2.1,A.i h.2.2.2.2.2.2] ?_;refine Jt 2 ?_;refine J2 [2,5] [0,1,3,4] (fun x y=>∃(z:Bool),x=[(51,.bool z)]∧y=[]∧F.bu k h z=some r) ?_ ?_
 ·refine A.AX.drF mixed 39 39 [0,1,2,4,8,24,40,72,136,256,768,1280,2048,6144,2048,18432,2048,67584,165888,264192,526336,1058816,2099456,4194560,8390656,16777216,50331648,83886080,150994944,285212672,671088640,1073741824,3221225472,5368709120,1073741824,18253611008,35433480192,78383153152,138512695296] [0,1,2,4,8,24,40,72,128,256,768,1280,2048,6144,2048,18432,2048,67584,165888,264192,526336,1058816,2099456,4194560,8388608,16777216,50331648,83886080,150994944,285212672,536870912,1073741824,3221225472,5368709120,1073741824,18253611008,35433480192,78383153152,138512695296] fun hT16=>?_;refine A.AH.qF hT16 J1 [] [0,1,2,3,4] [4] [] 0 511 30 [(0,.n),(1,.b 0 0),(2,.n),(3,.n),(4,.sy .n),(5,.sy (.b 0 0)),(6,.sy .n),(7,.pk),(8,.n)] [21] [] [(21,.bool (bif decide (h.1<1)then true else decide ((255:Int)<h.1)))] trivial ?_;refine A.AH.cnd (j:=21) rfl f (fun f=>?_) (fun f=>?_)
  ·refine A.AH.qF hT16 J1 [0,1,2,3,4] [0,1,2,3,4] [] [] 511 549755813887 0 [(9,.off),(10,.off),(11,.off),(12,.off),(14,.off),(16,.off),(13,.off),(15,.off),(17,.off),(18,.off),(19,.off),(20,.off),(21,.off),(22,.off),(23,.n),(24,.n),(25,.off),(26,.off),(27,.off),(28,.off),(29,.n),(30,.n),(31,.off),(34,.off),(32,.off),(35,.off),(33,.off),(36,.off),(37,.off),(38,.n)] [51] [] [(51,.bool true)] trivial ?_;refine A.AH.doneF hT16 ?_;exact Vf ⟨true,rfl,rfl,f⟩
  refine A.AH.qF hT16 J1 [0,1,2,3,4] [0,1,2,3,4] [] [] 511 4095 27 [(9,.on .n),(10,.on .n),(11,.on .n)] [24] [] [(24,.bool (decide ((0:Int)<p)))] trivial ?_;refine Ue (j:=24) rfl f ?_ ?_<;>intro o f
  ·have⟨U,f⟩:=Vl f;refine A.AH.qF hT16 J1 [0,1,2,3,4] [0,1,2,3,4] [4,1] [] 4095 262143 21 [(12,.on .n),(14,.on .n),(16,.on .n),(13,.on (.b 0 0)),(15,.on (.b 1 0)),(17,.on .n)] [26,28,30] [Z.R64 (p-1)] [(26,A.i h.1),(28,.slice A0_ k.length c1_),(30,A.i (p-1))] U ?_;have⟨V,I,f⟩:=Vu f;refine V9 0 5 I fun a4=>?_;intro a5 a6 a7 a8 W;refine Uj J1 [0,1,2,3,4] [0,1,2,3,4,5,6] 18 (A.mb 39 524287) (dj:=24) rfl (fun a w hf hh=>Vj (t:=T83) I W hf) ?_;refine A.AH.qF hT16 J1 [0,1,2,3,4,5,6] [0,1,2,3,4,5,6] [] [5] 524287 33554431 14 [(19,.on .n),(20,.on (.e 0 0)),(21,.on .n),(22,.on .n),(23,.n),(24,.n)] [37] [] [(37,.bool (decide (h.1≤V.1)))] trivial ?_;refine Ue (j:=37) rfl f ?_ ?_<;>intro o f
   ·refine A.AH.qF hT16 J1 [0,1,2,3,4,5,6] [0,1,2,3,4,5,6] [] [] 33554431 549755813887 0 [(25,.off),(26,.off),(27,.off),(28,.off),(29,.n),(30,.n),(31,.off),(34,.off),(32,.off),(35,.off),(33,.off),(36,.off),(37,.off),(38,.n)] [51] [] [(51,.bool true)] trivial ?_;refine A.AH.doneF hT16 ?_;exact Vf ⟨true,rfl,rfl,f⟩
   refine A.AH.qF hT16 J1 [0,1,2,3,4,5,6] [0,1,2,3,4,5,6] [4] [] 33554431 134217727 12 [(25,.on .n),(26,.on (.b 0 1))] [39] [] [(39,A.i h.2.1)] trivial ?_;refine A.AH.oneF hT16 27 ?_;refine Vg (dj:=37) rfl rfl ?_;refine Vs 7 [] f (o_ap h.2.1 u.2.1) .nil ?_;rintro X - f _ _ ⟨rfl,rfl,hr28⟩;refine Vb ?_;refine A.AH.nxF 268435455 [0,1,2,3,4,5,6] ?_;refine A.AH.qF hT16 J1 [0,1,2,3,4,5,6] [0,1,2,3,4,5,6] [] [] 268435455 2147483647 8 [(28,.on .n),(29,.n),(30,.n)] [43] [] [(43,.bool (decide (X<0)))] trivial ?_;refine Ue (j:=43) rfl f ?_ ?_<;>intro o f
   ·refine A.AH.qF hT16 J1 [0,1,2,3,4,5,6] [0,1,2,3,4,5,6] [] [] 2147483647 549755813887 0 [(31,.off),(34,.off),(32,.off),(35,.off),(33,.off),(36,.off),(37,.off),(38,.n)] [51] [] [(51,.bool true)] trivial ?_;refine A.AH.doneF hT16 ?_;exact Vf ⟨true,rfl,rfl,f⟩
   refine A.AH.qF hT16 J1 [0,1,2,3,4,5,6] [0,1,2,3,4,5,6] [4] [] 2147483647 68719476735 3 [(31,.on .n),(34,.on .n),(32,.on (.b 0 2)),(35,.on (.b 0 1)),(33,.on .n)] [48,46] [] [(48,A.i h.2.1),(46,A.i (h.2.2.1.length:Int))] trivial ?_;refine A.AH.oneF hT16 36 ?_;refine Vg (dj:=43) rfl rfl ?_;refine Vs 47 [] f (o_ap h.2.1 u.2.1) .nil ?_;rintro J - f _ _ ⟨rfl,rfl,hr31⟩;refine Vb ?_;refine A.AH.nxF 137438953471 [0,1,2,3,4,5,6] ?_;refine A.AH.qF hT16 J1 [0,1,2,3,4,5,6] [0,1,2,3,4,5,6] [] [] 137438953471 549755813887 0 [(37,.on .n),(38,.n)] [51] [] [(51,.bool (decide ((h.2.2.1.length:Int)≠J)))] trivial ?_;refine A.AH.doneF hT16 ?_;exact Vf ⟨(decide ((h.2.2.1.length:Int)≠J)),rfl,rfl,f⟩
  refine A.AH.qF hT16 J1 [0,1,2,3,4] [0,1,2,3,4] [4] [] 4095 134217727 12 [(12,.off),(14,.off),(16,.off),(13,.off),(15,.off),(17,.off),(18,.off),(19,.off),(20,.off),(21,.off),(22,.on .n),(23,.n),(24,.n),(25,.on .n),(26,.on (.b 0 1))] [37,39] [] [(37,.bool false),(39,A.i h.2.1)] trivial ?_;refine A.AH.oneF hT16 27 ?_;refine Vg (dj:=37) rfl rfl ?_;refine Vs 87 [] f (o_ap h.2.1 u.2.1) .nil ?_;rintro Y - f _ _ ⟨rfl,rfl,hr34⟩;refine Vb ?_;refine A.AH.nxF 268435455 [0,1,2,3,4] ?_;refine A.AH.qF hT16 J1 [0,1,2,3,4] [0,1,2,3,4] [] [] 268435455 2147483647 8 [(28,.on .n),(29,.n),(30,.n)] [43] [] [(43,.bool (decide (Y<0)))] trivial ?_;refine Ue (j:=43) rfl f ?_ ?_<;>intro o f
  ·refine A.AH.qF hT16 J1 [0,1,2,3,4] [0,1,2,3,4] [] [] 2147483647 549755813887 0 [(31,.off),(34,.off),(32,.off),(35,.off),(33,.off),(36,.off),(37,.off),(38,.n)] [51] [] [(51,.bool true)] trivial ?_;refine A.AH.doneF hT16 ?_;exact Vf ⟨true,rfl,rfl,f⟩
  refine A.AH.qF hT16 J1 [0,1,2,3,4] [0,1,2,3,4] [4] [] 2147483647 68719476735 3 [(31,.on .n),(34,.on .n),(32,.on (.b 0 2)),(35,.on (.b 0 1)),(33,.on .n)] [48,46] [] [(48,A.i h.2.1),(46,A.i (h.2.2.1.length:Int))] trivial ?_;refine A.AH.oneF hT16 36 ?_;refine Vg (dj:=43) rfl rfl ?_;refine Vs 127 [] f (o_ap h.2.1 u.2.1) .nil ?_;rintro L - f _ _ ⟨rfl,rfl,hr37⟩;refine Vb ?_;refine A.AH.nxF 137438953471 [0,1,2,3,4] ?_;refine A.AH.qF hT16 J1 [0,1,2,3,4] [0,1,2,3,4] [] [] 137438953471 549755813887 0 [(37,.on .n),(38,.n)] [51] [] [(51,.bool (decide ((h.2.2.1.length:Int)≠L)))] trivial ?_;refine A.AH.doneF hT16 ?_;exact Vf ⟨(decide ((h.2.2.1.length:Int)≠L)),rfl,rfl,f⟩
 rintro _ _ ⟨z,rfl,rfl,f⟩;rw[F.bu]at f;refine Ua f ?_ ?_<;>intro o f
 ·refine Js 1 ?_;refine Jw 1 [(4,.bool false)] (Jt 1 ?_);obtain rfl:=J4 f;exact J5 [] ⟨rfl,rfl⟩
 refine V1 2 ?_;refine J2 [2,5] [0,1,3,4] (fun x y=>x=[]∧y=[]∧F.dM k h=some r) ?_ ?_
 ·refine Js 1 ?_;refine Jy [4] [] [.n,.b 0 1,.n] [(54,.bool (decide (h.2.1=14)))] (Jt 1 ?_);refine Vm f ?_ ?_<;>intro o f
  ·refine Js 1 ?_;refine Jy [4] [] [.n,.b 0 7,.n,.n,.sy .n,.sy (.b 0 7),.sy .n,.pk,.n,.sy .n,.sy (.b 0 8),.sy .n,.pk,.n,.sy .n,.sy (.b 0 8),.sy .n,.pk] [(72,.bool (bif bif bif decide (h.2.2.2.2.2.1<1)then true else decide ((8:Int)<h.2.2.2.2.2.1)then true else decide (h.2.2.2.2.2.2<1)then true else decide ((4:Int)<h.2.2.2.2.2.2)))] (Jt 1 ?_);refine Ua f ?_ ?_<;>intro o f
   ·refine Js 1 ?_;refine Jw 1 [(4,.bool false)] (Jt 1 ?_);obtain rfl:=J4 f;exact J5 [] ⟨rfl,rfl⟩
   refine Vw 1 ?_;exact Vf ⟨rfl,rfl,f⟩
  refine Js 1 ?_;refine Jy [4] [] [.n,.b 0 7,.n,.n,.sy .n,.sy (.b 0 8),.sy .n,.pk] [(80,.bool (bif decide (h.2.2.2.2.2.1≠0)then true else decide (h.2.2.2.2.2.2≠0)))] (Jt 1 ?_);refine Ua f ?_ ?_<;>intro o f
  ·refine Js 1 ?_;refine Jw 1 [(4,.bool false)] (Jt 1 ?_);obtain rfl:=J4 f;exact J5 [] ⟨rfl,rfl⟩
  refine Vw 1 ?_;exact Vf ⟨rfl,rfl,f⟩
 rintro _ _ ⟨rfl,rfl,f⟩;rw[F.dM]at f;refine Js 2 ?_;refine Jy [4] [] [.n,.b 0 1,.n,.n,.sy .n,.sy (.b 0 1),.sy .n,.pk] [(88,.bool (bif decide (h.2.1≠1)then decide (h.2.1≠15)else false))] (Jt 1 ?_);refine Ua f ?_ ?_<;>intro o f
 ·refine Js 1 ?_;refine Jy [4] [] [.n,.b 0 6,.n,.n] [(4,.bool (decide (h.2.2.2.2.1=(ByteArray.mk #[]))))] (Jt 1 ?_);obtain rfl:=J4 f;exact J5 [] ⟨rfl,rfl⟩
 refine Js 3 ?_;refine Jy [1,4] [] [.b 0 0,.n,.b 1 1,.n,.b 1 6] [(93,.agg #[.slice A0_ k.length c1_]),(95,A.i h.2.1),(97,.string h.2.2.2.2.1)] ?_;refine Vs 167 [] f (o_bq A0_ c1_ k h.2.1 h.2.2.2.2.1 u.2.1 u.2.2.2.2.1) (.s 0 .nil) ?_;rintro N - f _ _ ⟨rfl,rfl,hr13⟩;refine Vb ?_;refine Jw 5 [(6,A.i N.1)] (J7 2 ?_);refine Jy [4] [] [.n,.b 0 6] [(102,.string h.2.2.2.2.1)] ?_;refine Vs 207 [] f (o_bF h.2.2.2.2.1 u.2.2.2.2.1) .nil ?_;rintro a2 - f _ _ ⟨rfl,rfl⟩;refine Vb ?_;refine Jy [4] [] [.n,.sy .n,.sy .n,.sy (.b 0 0),.sy .n,.pk,.n] [(4,.bool (bif a2 then decide (N.1=h.1)else false))] (Jt 1 ?_);obtain rfl:=J4 f;exact J5 [] ⟨rfl,rfl⟩
def F.eg (h:Int):Nat→(List Int)→Int→Option (List Int)
 |0,_,_=>none
 |f+1,e,a=>if a≤h then(A.gd ((List.length (α:=Int) e+List.length (α:=Int) [a])*8≤140737488355328) (A.gd (Z.R64 (a+1)) ((F.eg h f) (e++[a]) (a+1))))else(some e)
def F.b8 (a:Int)(e:Int):Option (List Int):=F.eg e A.FU [] a
def F.cE (a:Int):Option (List Int):=if a=2 then(F.b8 1 8)else(if a=3 then(F.b8 11 13)else(if a=4 then(F.b8 21 22)else(if a=8 then(F.b8 31 34)else(if a=11 then(F.b8 41 42)else(F.b8 1 0)))))
theorem o_bG (h:Int)(L:A.h6 h)(r:(List Int))(a:F.cE h=some r):
    A.Ct Tryz.prog 160 [A.i h] [] [] (fun v H'=>∃(A0':Option Addr) (c1':Nat),v=.slice A0' r.length c1'∧H'=[(0,.own A.ti 3 A0' c1' r)]):=by
 refine Jv Tryz.func160 rfl Tryz.ntmps160 rfl fun N O=>?_;rw[F.cE]at a;refine Js 1 ?_;refine Jw 1 [] (J7 2 ?_);refine Jw 2 [(3,A.i 1),(4,A.i 0)] (Jt 1 ?_);refine J2 [] [] (fun x y=>∃(p:Int),∃(s:Int),x=[(3,A.i p),(4,A.i s)]∧y=[]∧A.h6 p∧A.h6 s∧F.b8 p s=some r) ?_ ?_
 ·refine Js 1 ?_;refine Jw 1 [(7,A.i h)] (J7 3 ?_);refine Jw 2 [(8,.bool (decide (h=2)))] (Jt 1 ?_);refine Vm a ?_ ?_<;>intro w a
  ·refine Js 0 ?_;refine Jw 2 [(3,A.i 1),(4,A.i 8)] (Uc 1 ?_);exact Vf ⟨1,8,rfl,rfl,(Va .i64 (1) rfl),(Va .i64 (8) rfl),a⟩
  refine Js 1 ?_;refine Jw 2 [(10,.bool (decide (h=3)))] (Jt 1 ?_);refine Vm a ?_ ?_<;>intro w a
  ·refine Js 0 ?_;refine Jw 2 [(3,A.i 11),(4,A.i 13)] (Uc 1 ?_);exact Vf ⟨11,13,rfl,rfl,(Va .i64 (11) rfl),(Va .i64 (13) rfl),a⟩
  refine Js 1 ?_;refine Jw 2 [(12,.bool (decide (h=4)))] (Jt 1 ?_);refine Vm a ?_ ?_<;>intro w a
  ·refine Js 0 ?_;refine Jw 2 [(3,A.i 21),(4,A.i 22)] (Uc 1 ?_);exact Vf ⟨21,22,rfl,rfl,(Va .i64 (21) rfl),(Va .i64 (22) rfl),a⟩
  refine Js 1 ?_;refine Jw 2 [(14,.bool (decide (h=8)))] (Jt 1 ?_);refine Vm a ?_ ?_<;>intro w a
  ·refine Js 0 ?_;refine Jw 2 [(3,A.i 31),(4,A.i 34)] (Uc 1 ?_);exact Vf ⟨31,34,rfl,rfl,(Va .i64 (31) rfl),(Va .i64 (34) rfl),a⟩
  refine Js 1 ?_;refine Jw 2 [(16,.bool (decide (h=11)))] (Jt 1 ?_);refine Vm a ?_ ?_<;>intro w a
  ·refine Js 0 ?_;refine Jw 2 [(3,A.i 41),(4,A.i 42)] (Uc 1 ?_);exact Vf ⟨41,42,rfl,rfl,(Va .i64 (41) rfl),(Va .i64 (42) rfl),a⟩
  refine Vw 2 ?_;exact Vf ⟨1,0,rfl,rfl,(Va .i64 (1) rfl),J0,a⟩
 rintro _ _ ⟨p,s,rfl,rfl,I,U,a⟩;rw[F.b8]at a;refine Js 1 ?_;refine Jw 1 [(5,.slice none 0 0)] (J7 3 ?_);refine Jw 2 [(6,A.i p)] (Jt 2 ?_);refine V4 3 A.ti 3 ?_;refine Vk [4] [] (fun f x y=>∃(o:List Int),∃(e:Int),∃(t:Option Addr),∃(u:Nat),x=[(5,.slice t o.length u),(6,A.i e)]∧y=[(3,.own A.ti 3 t u o)]∧A.h6 e∧F.eg s f o e=some r) ⟨[],p,none,0,rfl,rfl,I,a⟩ ?_;rintro z _ _ ⟨o,e,t,u,rfl,rfl,J,a⟩;rcases z with _|z
 ·exact Vi a
 rw[F.eg]at a;refine Js 2 ?_;refine Jw 3 [(21,.bool (decide (e≤s)))] (Jt 1 ?_);refine Vm a ?_ ?_<;>intro w a
 ·refine Js 4 ?_;refine Jw 2 [(24,.slice t o.length u),(25,A.i e)] ?_;refine Vq 6 (ty:=A.ti) (cs:=[A.i e]) [e] ⟨⟨rfl,J⟩,rfl⟩ (fun V=>?_) Tryz.zeroValue3 Tryz.sizeOf3
  have⟨hl14,a⟩:=Vl a;refine Vy (k:=3) [] (Ui (k:=6) rfl) inf3 hl14 fun B c13=>?_;refine Jw 1 [(5,.slice B ((o++[e]).length) c13)] (J7 2 ?_);have⟨E,a⟩:=Vl a;refine V5 3 [Z.R64 (e+1)] [(6,A.i (e+1))] E (Ju ?_);exact Vf ⟨_,Qi _,⟨(o++[e]),(e+1),B,c13,rfl,rfl,(Jz E),a⟩⟩
 refine Js 3 ?_;refine Jw 2 [(2,.slice t o.length u)] (Jt 1 ?_);obtain rfl:=J4 a;exact J5 [(0,3)] ⟨t,u,rfl,rfl⟩
def F.dR (a:D81)(e:Bool):Option Bool:=if e=true then(some (bif decide ((1:Int)≤a.2.1)then decide (a.2.1≤1048576)else false))else(some (decide (a.2.1=0)))
def F.dS (a:D81)(e:Bool):Option Bool:=if e=true then(some (bif decide ((0:Int)≤a.2.1)then decide (a.2.1≤64)else false))else(if a.1=6 then(F.dR a (decide (a.1=6)))else(F.dR a (decide (a.1=11))))
def F.er (a:D81):Option Bool:=if a.1=3 then(F.dS a (decide (a.1=3)))else(F.dS a (decide (a.1=13)))
theorem o_be (a:D81)(s:A.h6 a.1)(t:A.h6 a.2.1)(u:a.2.2.size≤maxLen)(r:Bool)(e:F.er a=some r):
    A.Ct Tryz.prog 161 [.agg #[A.i a.1,A.i a.2.1,.string a.2.2]] [] [] (fun v H'=>v=.bool r∧H'=[]):=by
 refine Jv Tryz.func161 rfl Tryz.ntmps161 rfl fun w x=>?_;rw[F.er]at e;refine Js 1 ?_;refine J8 0 (cs:=[A.i a.1,A.i a.2.1,.string a.2.2]) fun y=>?_;refine Jw 1 [] (J7 2 ?_);refine Jy [0] [] [.n,.b 0 0] [(4,A.i a.1)] (Jt 2 ?_);refine J2 [1,4] [0] (fun f h=>∃(k:Bool),f=[(8,.bool k)]∧h=[]∧F.dS a k=some r) ?_ ?_
 ·refine Js 1 ?_;refine Jw 2 [(8,.bool (decide (a.1=3)))] (Jt 1 ?_);refine Vm e ?_ ?_<;>intro o e
  ·refine Vw 1 ?_;exact Vf ⟨(decide (a.1=3)),rfl,rfl,e⟩
  refine Js 0 ?_;refine Jw 2 [(8,.bool (decide (a.1=13)))] (Ju ?_);exact Vf ⟨(decide (a.1=13)),rfl,rfl,e⟩
 rintro _ _ ⟨k,rfl,rfl,e⟩;rw[F.dS]at e;refine Ua e ?_ ?_<;>intro o e
 ·refine Js 1 ?_;refine Jy [0] [] [.n,.b 0 1,.n,.n,.sy .n,.sy (.b 0 1),.sy .n,.pk,.n] [(2,.bool (bif decide ((0:Int)≤a.2.1)then decide (a.2.1≤64)else false))] (Jt 1 ?_);obtain rfl:=J4 e;exact J5 [] ⟨rfl,rfl⟩
 refine J2 [1] [0] (fun f h=>∃(p:Bool),f=[(19,.bool p)]∧h=[]∧F.dR a p=some r) ?_ ?_
 ·refine Js 1 ?_;refine Jw 2 [(19,.bool (decide (a.1=6)))] (Jt 1 ?_);refine Vm e ?_ ?_<;>intro o e
  ·refine Vw 1 ?_;exact Vf ⟨(decide (a.1=6)),rfl,rfl,e⟩
  refine Js 0 ?_;refine Jw 2 [(19,.bool (decide (a.1=11)))] (Ju ?_);exact Vf ⟨(decide (a.1=11)),rfl,rfl,e⟩
 rintro _ _ ⟨p,rfl,rfl,e⟩;rw[F.dR]at e;refine Ua e ?_ ?_<;>intro o e
 ·refine Js 1 ?_;refine Jy [0] [] [.n,.b 0 1,.n,.n,.sy .n,.sy (.b 0 1),.sy .n,.pk,.n] [(2,.bool (bif decide ((1:Int)≤a.2.1)then decide (a.2.1≤1048576)else false))] (Jt 1 ?_);obtain rfl:=J4 e;exact J5 [] ⟨rfl,rfl⟩
 refine Js 1 ?_;refine Jy [0] [] [.n,.b 0 1,.n,.n] [(2,.bool (decide (a.2.1=0)))] (Jt 1 ?_);obtain rfl:=J4 e;exact J5 [] ⟨rfl,rfl⟩
def F.cF (a:UInt8):Option Bool:=some (bif decide ((128:Int)≤(a.toNat:Int))then decide ((a.toNat:Int)≤191)else false)
theorem o_z (a:UInt8)(r:Bool)(e:F.cF a=some r):
    A.Ct Tryz.prog 192 [.int .u8 (a.toNat:Int)] [] [] (fun v H'=>v=.bool r∧H'=[]):=by
 refine Jv Tryz.func192 rfl Tryz.ntmps192 rfl fun f h=>?_;rw[F.cF]at e;refine Js 1 ?_;refine Jw 1 [] (J7 2 ?_);refine Jy [] [] [.n,.n,.n,.sy .n,.sy .n,.pk,.n] [(2,.bool (bif decide ((128:Int)≤(a.toNat:Int))then decide ((a.toNat:Int)≤191)else false))] (Jt 1 ?_);obtain rfl:=J4 e;exact J5 [] ⟨rfl,rfl⟩
end Go.Proofs.YtlbnpmfggfbdoaaGreatDoor
end
