/- Functions on data, what they tell, and that the code computes them. -/
import Derived.Test.YtlbnpmfggfbdoaaGreatDoorL0
import Derived.Test.YtlbnpmfggfbdoaaGreatDoorL1
import Derived.Test.YtlbnpmfggfbdoaaGreatDoorL2
import Derived.Test.YtlbnpmfggfbdoaaGreatDoorL3
set_option linter.unusedVariables false
set_option linter.unusedSimpArgs false
set_option maxRecDepth 20000
set_option maxHeartbeats 8000000
set_option synthInstance.maxSize 1000000
set_option synthInstance.maxHeartbeats 400000
section
namespace Go.Proofs.YtlbnpmfggfbdoaaGreatDoor
open Go.RowKit
abbrev l4a:List Value:=[A.i 0,A.i 0,.slice none 0 0,A.i 0,A.i 0,.string (ByteArray.mk #[]),.string (ByteArray.mk #[]),A.i 0,A.i 0]
abbrev l4b:List Value:=A.zz8
abbrev l4c:List Nat:=[0,1,2,889,890,930,1014,1079,1080,1081,1082,1083,1084,1085]
abbrev l4d:List Nat:=[1,2,4,45,12664,12831,12832,12833]
abbrev l4e:List Nat:=[0,1,2,888,889,890,930,931]
abbrev l4f:List Nat:=[0,1,2,489,889,890,930,1014,1079,1080,1081,1082]
abbrev l4g:List Nat:=[0,1,2,489,889,890,930,1014,1079,1080,1081,1082,1083]
abbrev l4h:List Nat:=[0,1,2,607,608,699,740]
abbrev l4i:List Nat:=[0,1,2,607,608,742]
abbrev l4j:List Nat:=[0,1,2,889,890,930,1014,1079,1080,1081,1082,1083]
abbrev l4k:List Nat:=[0,1,2,607,608,699]
abbrev l4l:List Nat:=[0,1,2,489,889,890,930,1014,1079,1080]
abbrev l4m:List Nat:=[0,1,2,889,890,930,1014]
abbrev l4n:List Nat:=[0,1,2,607,608]
abbrev l4o:List Nat:=[0,1,2,3]
abbrev l4p:List Nat:=[43]
variable(A0_ A1_ A2_ A4_ A5_ A7_ A10_ A12_ A13_:Option Addr)(b0_ g0_ b1_ c1_ c2_ g2_ c3_ b4_ b5_ c5_ b6_ c6_ c8_ g8_ g9_ g10_ c11_ c13_ c14_ g15_:Nat)
def F.dv (e:(List D44)→Int→Option (List D44))(a:Int)(f:List D44):Option (List D44):=A.gd (Z.R64 (a+1)) (e f (a+1))
def F.bJ (a:(List D44))(k:D44):Nat→(List D44)→Int→Option (List D44)
 |0,_,_=>none
 |f+1,e,h=>if h<(a.length:Int)then((A.ix a h).bind fun p=>((F.bS p k).bind fun o=>(if o.2=0 then(A.gd ((List.length (α:=D44) e+List.length (α:=D44) [o.1])*64≤140737488355328) (F.dv (F.bJ a k f) h (e++[o.1])))else(F.dv (F.bJ a k f) h e))))else(some e)
def F.dZ (a:(List D44))(e:D44):Option (List D44):=F.bJ a e A.FU [] 0
theorem o_bj(t:(List D44))(h:D44)(V:A.h6 h.1)(W:A.h6 h.2.1)(X:A.h6 h.2.2.1)(Y:A.h6 h.2.2.2.1)(a2:A.h6 h.2.2.2.2.1)(a3:A.h6 h.2.2.2.2.2.1)(a4:A.h6 h.2.2.2.2.2.2.1)(a5:A.h6 h.2.2.2.2.2.2.2)(r:(List D44))(a:F.dZ t h=some r):
    A.Ct Tryz.prog 41 [.slice A0_ t.length c1_,(A.rai h)] [(0,.ln T44 A0_ c1_ t)] [] (fun v H'=>∃(A0':Option Addr) (c1':Nat),v=.slice A0' r.length c1'∧H'=[(0,.own T44 45 A0' c1' r)]):=by
 refine J1 Tryz.func41 rfl Tryz.ntmps41 rfl fun w0 F0=>?_;rw[F.dZ]at a;refine Jw 1 ?_;refine Va 1 (cs:=(A.rac h)) fun g1=>?_;refine J3 1 [] (Vb 2 ?_);refine J3 1 [(5,.slice none 0 0)] (Vb 3 ?_);refine J3 3 [(10,.slice A0_ t.length c1_),(11,A.i (t.length:Int)),(12,A.i 0)] (Jy 2 ?_);refine Uf 93 T44 45 ?_;refine Vo [3,10,11] [0,1] (fun f I J=>∃(p:List D44),∃(s:Int),∃(w:Option Addr),∃(x:Nat),I=[(5,.slice w p.length x),(12,A.i s)]∧J=[(93,.own T44 45 w x p)]∧A.h6 s∧F.bJ t h f p s=some r) ⟨[],0,none,0,rfl,rfl,J0,a⟩ ?_;rintro L _ _ ⟨p,s,w,x,rfl,rfl,a7,a⟩;rcases L with _|L
 ·exact Vm a
 rw[F.bJ]at a;refine Jw 1 ?_;refine J3 1 [(13,.bool (decide (s<(t.length:Int))))] (Jy 2 ?_);refine Vu a ?_ ?_<;>intro hb a
 ·refine V6 2 ?_;refine J7 [3,10,11,12] [0,1] (fun I J=>∃(y:List D44),∃(z:Option Addr),∃(B:Nat),I=[(5,.slice z y.length B)]∧J=[(93,.own T44 45 z B y)]∧F.dv (F.bJ t h L) s y=some r) ?_ ?_
  ·refine Jw 2 ?_;have⟨E,a6,a⟩:=Vy a;refine Ud 0 182 a6 fun u=>?_;intro a8 a9;refine J2 [] [182] [.e 0 0] [(15,(A.rai E))] ?_;refine J5 183 (cs:=l4b) Tryz.zeroValue45 fun aa=>?_;refine Vp 183 [] (A.rac E) ?_;refine Vb 2 ?_;refine J2 [183,1] [] [.b 0 0,.b 1 0] [(17,(A.rai E)),(18,(A.rai h))] ?_;refine Vv 184 [] a (o_bw E h u.1 u.2.1 u.2.2.1 u.2.2.2.1 u.2.2.2.2.1 u.2.2.2.2.2.1 u.2.2.2.2.2.2.1 u.2.2.2.2.2.2.2 V W X Y a2 a3 a4 a5) .nil ?_;rintro o - a _ _ ⟨rfl,rfl,hr20,hr21,hr22,hr23,hr24,hr25,hr26,hr27,hr28⟩;refine Vf ?_;refine J3 3 [(20,(A.rai o.1)),(21,A.i o.2)] ?_;refine J5 224 (cs:=l4b) Tryz.zeroValue45 fun ab=>?_;refine Vp 224 [] (A.rac o.1) ?_;refine J3 1 [(9,A.i o.2)] (Vb 2 ?_);refine J3 2 [(23,.bool (decide (o.2=0)))] (Jy 1 ?_);refine Vu a ?_ ?_<;>intro hb a
   ·refine Jw 0 ?_;refine J2 [224] [] [.n,.b 0 0] [(24,.slice w p.length x),(25,(A.rai o.1))] ?_;refine Vx 225 (ty:=T44) (cs:=(A.rac o.1)) [o.1] ⟨⟨⟨rfl,hr20⟩,⟨rfl,hr21⟩,⟨rfl,hr22⟩,⟨rfl,hr23⟩,⟨⟨rfl,hr24⟩,⟨rfl,hr25⟩,⟨rfl,hr26⟩,⟨rfl,hr27⟩⟩⟩,rfl⟩ (fun ac=>?_) Tryz.zeroValue45 Tryz.sizeOf45
    have⟨hl33,a⟩:=Vt a;refine V4 (k:=93) [] (Um (k:=225) rfl) inf45 hl33 fun N O=>?_;refine J3 1 [(5,.slice N ((p++[o.1]).length) O)] (Uh 1 ?_);exact Vk ⟨(p++[o.1]),N,O,rfl,rfl,a⟩
   refine V1 2 ?_;exact Vk ⟨p,w,x,rfl,rfl,a⟩
  rintro _ _ ⟨y,z,B,rfl,rfl,a⟩;rw[F.dv]at a;refine Jw 0 ?_;have⟨U,a⟩:=Vt a;refine Uc 2 [Z.R64 (s+1)] [(12,A.i (s+1))] U (Jz ?_);exact Vk ⟨_,Qi _,⟨y,(s+1),z,B,rfl,rfl,(J4 U),a⟩⟩
 refine Jw 3 ?_;refine J3 2 [(4,.slice w p.length x)] (Jy 1 ?_);obtain rfl:=J8 a;exact J9 [(0,93)] ⟨w,x,rfl,rfl⟩
def F.dD (a:D39)(e:D39):Option Int:=(F.aX a.1 e.1).bind fun f=>((F.aX a.2 e.2).bind fun h=>((F.cY [f,h]).bind fun k=>(some k)))
theorem o_aH (a:D39)(e:D39)(p:A.h6 a.1)(s:A.h6 a.2)(t:A.h6 e.1)(u:A.h6 e.2)(r:Int)(f:F.dD a e=some r):
    A.Ct Tryz.prog 45 [(A.raf a),(A.raf e)] [] [] (fun v H'=>v=A.i r∧H'=[]∧A.h6 r):=by
 refine J1 Tryz.func45 rfl Tryz.ntmps45 rfl fun y z=>?_;rw[F.dD]at f;refine Jw 1 ?_;refine Va 0 (cs:=(A.raa a)) fun B=>?_;refine Va 1 (cs:=(A.raa e)) fun E=>?_;refine J3 1 [] (Jy 2 ?_);refine Vl mixed 13 13 (A.mb 13 0) ?_;refine Vj J6 [] [0,1] [0,1] [] (A.mb 13 495) 5 [(0,.n),(2,.n),(5,.n),(7,.n),(1,.b 0 0),(3,.b 1 0),(6,.b 0 1),(8,.b 1 1)] [(6,A.i a.1),(8,A.i e.1),(11,A.i a.2),(13,A.i e.2)] ?_;refine Vc 4 ?_;refine Vv 2 [] f (o_f a.1 e.1 p t) .nil ?_;rintro h - f _ _ ⟨rfl,rfl,hr5⟩;refine Vf ?_;refine Vg (A.mb 13 511) [0,1] ?_;refine Vc 9 ?_;refine Vv 42 [] f (o_f a.2 e.2 s u) .nil ?_;rintro k - f _ _ ⟨rfl,rfl,hr8⟩;refine Vf ?_;refine Vg (A.mb 13 1023) [0,1] ?_;refine Vc 10 ?_;refine Vx 82 (ty:=A.ti) (cs:=[A.i h,A.i k]) [h,k] ⟨⟨rfl,hr5⟩,⟨⟨rfl,hr8⟩,rfl⟩⟩ (fun w=>?_) Tryz.zeroValue3 Tryz.sizeOf3
 refine Vg (A.mb 13 2047) [0,1] ?_;refine Vc 11 ?_;refine Vv 83 [] f (o_z (some ⟨w,0,none⟩) 2 [h,k]) (.o 82 .nil) ?_;rintro x - f _ _ ⟨rfl,rfl,hr12⟩;refine Vf ?_;refine Vg (A.mb 13 4095) [0,1] ?_;refine Vj J6 [0,1] [0,1,82] [] [] (A.mb 13 8191) 0 [(12,.n)] [(4,A.i x)] (Ve ?_);refine U2 1 ?_;obtain rfl:=J8 f;exact J9 [] ⟨rfl,rfl,hr12⟩
def F.aT (a:D57)(e:D57):Option Int:=(F.dD a.1 e.1).bind fun f=>((F.dD a.2.1 e.2.1).bind fun h=>((F.cY [f,h]).bind fun k=>(some k)))
theorem o_aZ(a:D57)(e:D57)(p:A.h6 a.1.1)(s:A.h6 a.1.2)(t:A.h6 a.2.1.1)(u:A.h6 a.2.1.2)(w:A.h6 e.1.1)(x:A.h6 e.1.2)(y:A.h6 e.2.1.1)(z:A.h6 e.2.1.2)(r:Int)(f:F.aT a e=some r):
    A.Ct Tryz.prog 43 [.agg #[A.i a.1.1,A.i a.1.2,A.i a.2.1.1,A.i a.2.1.2,.slice A4_ a.2.2.length c5_],.agg #[A.i e.1.1,A.i e.1.2,A.i e.2.1.1,A.i e.2.1.2,.slice A10_ e.2.2.length c11_]] [(0,.sh (.slice T44) [.slice A4_ a.2.2.length c5_] a.2.2),(1,.sh (.slice T44) [.slice A10_ e.2.2.length c11_] e.2.2)] [] (fun v H'=>v=A.i r∧H'=[]∧A.h6 r):=by
 refine J1 Tryz.func43 rfl Tryz.ntmps43 rfl fun I J=>?_;rw[F.aT]at f;refine Jw 1 ?_;refine Va 2 (cs:=[A.i a.1.1,A.i a.1.2,A.i a.2.1.1,A.i a.2.1.2,.slice A4_ a.2.2.length c5_]) fun L=>?_;refine Va 3 (cs:=[A.i e.1.1,A.i e.1.2,A.i e.2.1.1,A.i e.2.1.2,.slice A10_ e.2.2.length c11_]) fun N=>?_;refine J3 1 [] (Jy 2 ?_);refine Vl mixed 13 13 (A.mb 13 0) ?_;refine Vj J6 [] l4o [2,3] [] (A.mb 13 495) 5 [(0,.n),(2,.n),(5,.n),(7,.n),(1,.b 0 0),(3,.b 1 0),(6,.b 0 2),(8,.b 1 2)] [(6,(A.raf a.1)),(8,(A.raf e.1)),(11,(A.raf a.2.1)),(13,(A.raf e.2.1))] ?_;refine Vc 4 ?_;refine Vv 4 [] f (o_aH a.1 e.1 p s w x) .nil ?_;rintro h - f _ _ ⟨rfl,rfl,hr5⟩;refine Vf ?_;refine Vg (A.mb 13 511) l4o ?_;refine Vc 9 ?_;refine Vv 44 [] f (o_aH a.2.1 e.2.1 t u y z) .nil ?_;rintro k - f _ _ ⟨rfl,rfl,hr8⟩;refine Vf ?_;refine Vg (A.mb 13 1023) l4o ?_;refine Vc 10 ?_;refine Vx 84 (ty:=A.ti) (cs:=[A.i h,A.i k]) [h,k] ⟨⟨rfl,hr5⟩,⟨⟨rfl,hr8⟩,rfl⟩⟩ (fun B=>?_) Tryz.zeroValue3 Tryz.sizeOf3
 refine Vg (A.mb 13 2047) l4o ?_;refine Vc 11 ?_;refine Vv 85 [] f (o_z (some ⟨B,0,none⟩) 2 [h,k]) (.o 84 .nil) ?_;rintro E - f _ _ ⟨rfl,rfl,hr12⟩;refine Vf ?_;refine Vg (A.mb 13 4095) l4o ?_;refine Vj J6 l4o [0,1,2,3,84] [] [] (A.mb 13 8191) 0 [(12,.n)] [(4,A.i E)] (Ve ?_);refine U2 1 ?_;obtain rfl:=J8 f;exact J9 [] ⟨rfl,rfl,hr12⟩
end Go.Proofs.YtlbnpmfggfbdoaaGreatDoor
end
section
namespace Go.A
open Go.RowKit Go.Z Go.Shelf Go.Proofs Go.Sort
theorem nok_nil: ∀(n k:Nat),nok [] k n=true
 |0,_=>rfl
 |n+1,k=>by rw[nok,nok_nil n (k+1)];rfl
theorem chunks {t:Ty}{w:World}{G:Nat→Prop}{cells:List Value}: ∀(xs:List t.den) (k:Nat),(∀(i:Nat) (x:t.den),xs[i]?=some x→t.rep w G ((cells.drop ((k+i)*t.size)).take t.size) x)→
  ∃zs:List (t.den×List Value),zs.map (·.1)=xs∧(∀(i:Nat) p,zs[i]?=some p→p.2=(cells.drop ((k+i)*t.size)).take t.size)∧∀p∈zs,t.rep w G p.2 p.1
 | [],_,_=>⟨[],rfl,fun i p h=>by simp at h,fun p h=>by cases h⟩
 |x::xs,k,h=>by
  obtain⟨zs,I,J,N⟩:=chunks xs (k+1) fun i y O=>by
   have:=h (i+1) y (by simpa using O)
   rw[show k+(i+1)=k+1+i by omega]at this;exact this
  refine⟨(x,(cells.drop (k*t.size)).take t.size)::zs,by rw[Q3,I],fun i p hp=>?_,fun p hp=>?_⟩
  ·cases i with
   |zero=>simp at hp;subst hp;rw[Yx]
   |succ i=>rw[J i p (by simpa using hp),show k+1+i=k+(i+1) by omega]
  ·rcases Qk.1 hp with rfl|hp
   ·have:=h 0 x rfl;rw[Yx]at this;exact this
   ·exact N p hp
theorem Ct.sortR {P:Program}{ρ:Ren}{f:Nat}(L:SlLaysF0.n6 P ρ)(hf:ρ.f 6=f){t:Ty}[DecidableEq t.den]{e:TypeId}
  (aE: ∀w,(isAgg (ρ.t 24)).run P w=.ok true w) (zE: ∀w,(Go.sizeOf (ρ.t 24)).run P w=.ok t.size w) (A:Option Addr) (c:Nat) (g:Nat) (cmp:t.den→t.den→Option Int)
  (eg: ∀args w,(callFunc g args).run P w=.ok (.enter g args) w)
  (hc: ∀x y r,t.ok x→t.ok y→cmp x y=some r→tele (lv t) fun ps=>tele (lv t) fun qs=>∃R,Ct P g [.agg (cl t x ps).toArray,.agg (cl t y qs).toArray] (hcat (kx 0 (rs t x ps++rs t y qs)) []) [] R∧∀v H',R v H'→v=.int .i64 r)
  (xs r:List t.den) (hm:xs.length<4611686018427387904) (Y:srtF cmp xs=some r):
  Ct P f [.slice A xs.length c,.func (.func g) #[] #[]] [(0,.own t e A c xs)] (obl A) (fun v H'=>v=.tuple #[]∧H'=[(0,.own t e A c r)]∧r.length=xs.length):=fun w F hh=>by
 subst hf
 obtain⟨hord,Y⟩:ordB cmp xs=true∧srtL (cl0 cmp) xs=r:=by
  unfold srtF at Y
  split at Y
  ·rename_i h;exact⟨h,Qo Y⟩
  ·cases Y
 obtain⟨O,tot⟩:=Qin hord
 have hlen:r.length=xs.length:=by rw[←Y];exact(srtL_perm (cl0 cmp) xs).length_eq
 obtain⟨cells,hrow,h1,h2⟩:Own t e 0 w (Fh ⟨0,[],w,obl A,F⟩ [(0,.own t e A c xs)]) A c xs:=hh.hold 0 _ rfl
 by_cases hx0:xs=[]
 ·subst hx0
  obtain rfl:r=[]:=by rw[←Y];rfl
  refine(AnyF.slices_SortFunc_none L A c _ w).mono ?_
  rintro e' w' ⟨rfl,rfl⟩
  exact⟨_,_,rfl,⟨rfl,rfl,rfl⟩,hh⟩
 rcases hrow.2 with⟨hv,hn⟩|⟨b,cap,cur,hv,hb,hg,hnc,hcm,hcs,htake⟩
 ·exact absurd (Wq hn) hx0
 injection hv with hA _ hcap
 subst hA;subst hcap
 obtain⟨G,hGd⟩: ∃G:Nat→Prop,G=Fh ⟨0,[],w,obl (some ⟨b,0,none⟩),F⟩ [(0,.own t e (some ⟨b,0,none⟩) c xs)]:=⟨_,rfl⟩
 rw[←hGd]at h2
 have hGb: ∀k,G k→k∉[b]:=fun k hk hm=>by
  rw[Qj]at hm
  subst hm
  rw[hGd]at hk
  exact hk.1 0 ⟨_,rfl,by simp[Res.bl,obl]⟩
 have hglt:b<w.heap.size:=(Qp.1 hg).1
 have hk:=Qan t
 have hbound: ∀{n i j:Nat},i<n→j<t.size→i*t.size+j<n*t.size:=fun {n i j} hi N=>by
  have:=Wa t.size (show i+1≤n from hi);rw[Xz,X9]at this;omega
 obtain⟨zs,hz1,hz2,hz3⟩:=chunks (t:=t) (w:=w) (G:=G) (cells:=cells) xs 0 fun i x hi=>by rw[Wh];exact h2 i x hi
 have hzl:zs.length=xs.length:=by rw[←hz1,Qw]
 have J: ∀p∈zs,p.1∈xs:=fun p hp=>by rw[←hz1];exact List.mem_map_of_mem hp
 have hcell: ∀i p,zs[i]?=some p→∀j,j<t.size→cur[i*t.size+j]?=p.2[j]?:=fun i p hp j N=>by
  have hi:=(Qc.1 hp).1
  rw[hz2 i p hp,Wh,Qr N,We,←htake,Xg,if_pos (hbound (by omega) N)]
  simp
 have hz0:zs≠[]:=fun e=>hx0 (by rw[←hz1,e];rfl)
 haveI:Inhabited {p // p∈zs}:=⟨⟨zs.head hz0,List.head_mem hz0⟩⟩
 let enc:{p // p∈zs}→List Value:=fun p=>p.1.2
 have he: ∀x,(enc x).length=t.size:=fun x=>Qgo t (hz3 x.1 x.2)
 have hone: ∀(x:{p // p∈zs}) (v:Value),v∈enc x→v.oneCell'=true:=fun x v hv=>by
  obtain⟨i,hi⟩:=Xo x.2
  have:enc x=_:=hz2 i x.1 hi
  rw[this]at hv
  exact h1 v (List.mem_of_mem_drop (Yc hv))
 let cf:{p // p∈zs}→{p // p∈zs}→Int:=fun x y=>(cmp x.1.1 y.1.1).getD 0
 have hlt: ∀x y,ltOf cf x y=cl0 cmp x.1.1 y.1.1:=fun x y=>by
  obtain⟨c0,h0⟩:=tot x.1.1 (J _ x.2) y.1.1 (J _ y.2)
  show decide ((cmp x.1.1 y.1.1).getD 0<0)=_
  unfold cl0;rw[h0];rfl
 have hO:SWO (ltOf cf):=by
  refine⟨fun x=>?_,fun x y z I h4=>?_,fun x y z I h4=>?_⟩
  ·rw[hlt]
   cases I:cl0 cmp x.1.1 x.1.1 with
   |false=>rfl
   |true=>rw[O.asym _ (J _ x.2) _ (J _ x.2) I]at I;cases I
  ·rw[hlt]at I h4 ⊢;exact O.trans _ (J _ x.2) _ (J _ y.2) _ (J _ z.2) I h4
  ·rw[hlt]at I h4 ⊢;exact O.nt (J _ x.2) (J _ y.2) (J _ z.2) I h4
 obtain⟨d,hd⟩: ∃d:Array {p // p∈zs},d=zs.attach.toArray:=⟨_,rfl⟩
 have hds:d.size=xs.length:=by rw[hd];simp[hzl]
 have hdg: ∀(i:Nat) (x:{p // p∈zs}),d[i]?=some x→zs[i]?=some x.1:=fun i x hx=>by
  rw[hd,Ww]at hx
  have:=congrArg (Option.map Subtype.val) hx
  rw[←Qu,Yt]at this;exact this
 have hH:HoldsK enc t.size w b 0 d:=fun j N=>by
  rw[size_flatK]at N
  have hi:j / t.size<d.size:=Yz (by rwa[Jn]at N)
  have hu:=Jh j hk
  have hje:j / t.size*t.size+j%t.size=j:=Jr j t.size
  have hx:d[j / t.size]?=some d[j / t.size]:=Wi hi
  obtain⟨_,h4⟩:=Qdh enc t.size d hx hu
  rw[hje]at h4
  have h5:=hcell _ _ (hdg _ _ hx) _ hu
  rw[hje]at h5
  refine⟨?_,by simp[World.frozen?,hg]⟩
  rw[Wh,cell_of_row w b j cur e (0,0) hg,h5,h4]
  have hl:j%t.size<(enc d[j / t.size]).length:=by rw[he];exact hu
  have e9:(enc d[j / t.size])[j%t.size]?=some ((enc d[j / t.size])[j%t.size]!):=lgetb hl
  exact e9
 have hchW: ∀(m:Nat) (dk:Array {p // p∈zs}) (os:Array Obj),Ch [b] w (sortWorldK enc t.size w b 0 m dk os):=fun m dk os=>by
  refine⟨rfl,rfl,rfl,?_,fun k hk hn2=>?_⟩
  ·show w.heap.size≤((w.heap.modify b (onCells (putCells id 0 (flatK enc t.size dk))))++os).size
   simp
  ·show((w.heap.modify b (onCells (putCells id 0 (flatK enc t.size dk))))++os)[k]?=_
   rw[Xy (by simpa using hk),Ja,if_neg (fun e=>hn2 (Qj.2 e.symm))]
 have hcl:CmpLays P g #[] enc t.size cf b 0 d.size w:=fun m os dk _ x y=>by
  obtain⟨c0,h0⟩:=tot x.1.1 (J _ x.2) y.1.1 (J _ y.2)
  have hcf:cf x y=c0:=by show(cmp x.1.1 y.1.1).getD 0=c0;rw[h0];rfl
  rw[hcf]
  obtain⟨W,hW⟩: ∃W,W=sortWorldK enc t.size w b 0 m dk os:=⟨_,rfl⟩
  have hCW:Ch [b] w W:=by rw[hW];exact hchW m dk os
  rw[←hW]
  have rp: ∀z:{p // p∈zs},t.rep W (Fh ⟨0,[],W,[],fun _=>True⟩ []) z.1.2 z.1.1:=fun z=>rep_to (hz3 z.1 z.2) hCW fun k hk _=>⟨hGb k hk,⟨fun k2 ⟨_,h,_⟩=>(by cases h),.inl trivial⟩⟩
  obtain⟨ps,hpl,hpc,hps⟩:=rep_cl (B:=Bk []) t (Qah t (rp x))
  obtain⟨qs,hql,hqc,hqs⟩:=rep_cl (B:=Bk []) t (Qah t (rp y))
  obtain⟨R,I,h4⟩:=Qaq (Qaq (hc x.1.1 y.1.1 c0 (rep_ok t (hz3 _ x.2)) (rep_ok t (hz3 _ y.2)) h0) ps hpl) qs hql
  have hp:Hp ⟨0,[],W,[],fun _=>True⟩ (hcat (kx 0 (rs t x.1.1 ps++rs t y.1.1 qs)) []) W:=Hp.adds (Hp.none W _) (nok_nil _ _) fun r Y=>by
   rcases Qn.1 Y with Y|Y
   ·exact⟨(hps r Y).2.1,(hps r Y).2.2,(hps r Y).1⟩
   ·exact⟨(hqs r Y).2.1,(hqs r Y).2.2,(hqs r Y).1⟩
  have key:=(Dr.calls (I W (fun _=>True) hp)).mono (R':=fun e w'=>e=.returned (.int .i64 c0)∧∃q os',w'=grow (W.drewN q) os') fun e w' ⟨⟨v,H',he,Y,hh⟩,hd⟩=>⟨by rw[he,h4 v H' Y],ch_grow hh.ch (hd v he)⟩
  rw[←hpc,←hqc]at key
  exact key
 have key:=AnyQ.slices_SortFunc L t.size aE zE enc he hone cf hO g #[] b 0 c d w eg hcl hH hglt (by rw[hds];exact hm)
 rw[hds]at key
 refine key.mono ?_
 rintro e' w' ⟨rfl,d',n,os,hp,hs,rfl⟩
 clear key
 obtain⟨hsz,_,hperm⟩:=hp
 have hsz2:d'.size=xs.length:=hsz.trans hds
 have hys:d'.toList.map (fun x=>x.1.1)=r:=by
  rw[←Y]
  refine srt_uniq O ?_ ?_
  ·have I:d'.toList.Perm d.toList:=by
    have e1:d'.extract 0 xs.length=d':=by rw[←hsz2];exact Ji
    have e2:d.extract 0 xs.length=d:=by rw[←hds];exact Ji
    rw[e1,e2]at hperm;exact hperm
   have h4:=I.map (fun x:{p // p∈zs}=>x.1.1)
   rw[hd]at h4
   have h5:zs.attach.toArray.toList.map (fun x:{p // p∈zs}=>x.1.1)=xs:=by
    rw[←hz1]
    show zs.attach.map (fun x:{p // p∈zs}=>x.1.1)=_
    have:=congrArg (List.map (·.1)) (Yt zs)
    rw[List.map_map]at this;exact this
   rw[h5]at h4;exact h4
  ·refine X2.2 fun i j hi N hij=>?_
   rw[Qw,Yp]at hi N
   have I:=hs i j (Xn _) hij (by omega)
   rw[hlt,getElem!_pos d' j (by omega),getElem!_pos d' i (by omega)]at I
   simpa using I
 have hrg: ∀(i:Nat) (x:t.den),r[i]?=some x→∃y,d'[i]?=some y∧y.1.1=x:=fun i x hx=>by
  rw[←hys,Qu,Xr]at hx
  obtain⟨y,I,h4⟩:=Wn.1 hx
  exact⟨y,I,h4⟩
 have hch:=hchW n d' os
 generalize hcd:putCells id 0 (flatK enc t.size d') cur=cur'
 have hheap:(sortWorldK enc t.size w b 0 n d' os).heap[b]?=some (.cells cur' e (0,0)):=by
  show((w.heap.modify b (onCells (putCells id 0 (flatK enc t.size d'))))++os)[b]?=_
  rw[Xy (by simpa using hglt),Ja,if_pos rfl,hg]
  simp only[Wl,onCells,hcd]
 have hcs':cur'.size=cur.size:=by rw[←hcd];simp[putCells]
 have hnk:xs.length*t.size≤cur.size:=by rw[hcs];exact Wa _ hnc
 have hget: ∀(i:Nat) (y:{p // p∈zs}),d'[i]?=some y→∀j,j<t.size→cur'[i*t.size+j]?=y.1.2[j]?:=fun i y hy j N=>by
  have hi:=(Qp.1 hy).1
  obtain⟨I,h4⟩:=Qdh enc t.size d' hy N
  have hb2:i*t.size+j<cur.size:=Q5 (hbound (by omega) N) hnk
  rw[←hcd,put_id,Wi hb2,Wl,if_pos (by rw[size_flatK];exact I),h4]
  have hl:j<(enc y).length:=by rw[he];exact N
  show some (enc y)[j]! =(enc y)[j]?
  exact(lgetb hl).symm
 have hown: ∀F':Nat→Prop,(∀k,G k→k<w.heap.size→F' k)→Own t e 0 (sortWorldK enc t.size w b 0 n d' os) F' (some ⟨b,0,none⟩) c r:=fun F' hF'=>by
  refine⟨cur'.toList.take (r.length*t.size),⟨?_,.inr ⟨b,c,cur',rfl,Xn _,hheap,by omega,hcm,by rw[hcs',hcs],rfl⟩⟩,fun u hu=>?_,fun i x hx=>?_⟩
  ·rw[Qs,Yp (xs:=cur'),hlen,hcs'];omega
  ·obtain⟨j,N,rfl⟩:=Xe hu
   rw[Qs]at N
   have hj2:j<r.length*t.size:=by omega
   have hje:j / t.size*t.size+j%t.size=j:=Jr j t.size
   have hi:j / t.size<d'.size:=by rw[hsz2,←hlen];exact Yz (by rwa[Jn]at hj2)
   have I:=hget _ _ (Wi hi) _ (Jh j hk)
   rw[hje]at I
   rw[List.getElem_take]
   have hjc:j<cur'.size:=by have:=N;rw[Yp (xs:=cur')]at this;omega
   rw[Wi hjc]at I
   rw[Array.getElem_toList]
   exact hone d'[j / t.size] _ (Qg I.symm)
  ·obtain⟨y,hy,rfl⟩:=hrg i x hx
   have hi:=(Qc.1 hx).1
   have e1:((cur'.toList.take (r.length*t.size)).drop (i*t.size)).take t.size=y.1.2:=by
    refine Wz fun j=>?_
    by_cases N:j<t.size
    ·rw[Qr N,We,Xg,if_pos (hbound hi N),Xr]
     exact hget i y hy j N
    ·have:=he y
     rw[Q7 (by rw[Qs];omega),Q7 (by show(enc y).length≤j;omega)]
   rw[e1]
   exact rep_to (Qah t (hz3 y.1 y.2)) hch fun k hk _=>⟨hGb k hk.1,hF' k hk.1 hk.2⟩
 refine⟨_,[(0,.own t e (some ⟨b,0,none⟩) c r)],rfl,⟨rfl,rfl,hlen⟩,?_⟩
 have I:=Hp.ren (Hp.upd (k:=0) (r':=.own t e (some ⟨b,0,none⟩) c r) hh hch (fun k hb2=>⟨_,rfl,hb2⟩) (fun k hb2=>.inl ⟨_,rfl,hb2⟩) (fun j N=>by cases N) fun F' B hF' _ _ _ _=>hown F' fun k hk hlt=>hF' k (by rw[hGd]at hk;exact hk) hlt) [(0,0)] rfl rfl
 exact⟨I.ch,I.hold,I.bnd,I.dis,I.ref⟩
end Go.A
end
section
namespace Go.Proofs.YtlbnpmfggfbdoaaGreatDoor
open Go.RowKit
variable(A0_ A1_ A2_ A4_ A5_ A7_ A10_ A12_ A13_:Option Addr)(b0_ g0_ b1_ c1_ c2_ g2_ c3_ b4_ b5_ c5_ b6_ c6_ c8_ g8_ g9_ g10_ c11_ c13_ c14_ g15_:Nat)
def F.aD (a:List D57):Option (List D57):=A.gd (a.length<4611686018427387904) (A.srtF (fun x y=>F.aT x y) a)
theorem o_m(a:List D57)(r:List D57)(f:F.aD a=some r):
    A.Ct Tryz.prog 42 [.slice A0_ a.length c1_,.func (.func 43) #[] #[]] [(0,.own T57 58 A0_ c1_ a)] (Z.obl A0_++[]) (fun v H'=>v=.tuple #[]∧H'=[(0,.own T57 58 A0_ c1_ r)]∧r.length=a.length):=by
 have⟨hc,f⟩:=Vt f;rw[Wm]
 exact A.Ct.sortR (t:=T57) (e:=58) Tryz.laysSortFunc42 rfl Tryz.isAgg58 Tryz.sizeOf58 A0_ c1_ 43 (fun x y=>F.aT x y) cf43 (fun x y r hx hy h=>fun k o B0 d0=>⟨_,o_aZ k B0 o d0 x y hx.1.1 hx.1.2 hx.2.1.1 hx.2.1.2 hy.1.1 hy.1.2 hy.2.1.1 hy.2.1.2 r h,fun v H' h=>h.1⟩) a r hc f
def F.bT (f:(List (D88×(List D44)))→Option ((List D57)×Int))(h:(List (D88×(List D44)))→Int→Option ((List D57)×Int))(a:Int)(e:List (D88×(List D44)))(k:Bool):Option ((List D57)×Int):=if k=true then(f e)else(A.gd (Z.R64 (a+1)) (h e (a+1)))
def F.au (a:(List (D88×(List D44)))→Option ((List D57)×Int))(s:(List (D88×(List D44)))→Int→Option ((List D57)×Int))(e:(List D53)×Int)(h:Int)(k:D41):Nat→(List (D88×(List D44)))→Int→Option ((List D57)×Int)
 |0,_,_=>none
 |f+1,o,p=>if p<(e.1.length:Int)then((A.ix e.1 p).bind fun t=>(A.lt (Z.mget ([]:(List D44)) o (k.1,t.1)) fun u=>(if(0:Int)<(u.length:Int)then((F.dZ u t.2.2).bind fun x=>((F.aC o (k.1,t.2.1) x).bind fun w=>(F.bT a (F.au a s e h k f) p w.2 w.1)))else(F.bT a (F.au a s e h k f) p o false))))else(A.gd (Z.R64 (h+1)) (s o (h+1)))
def F.aO (h:List (D88×(List D44))):Nat→(List Nat)→(List D57)→Option ((List D57)×Int)
 |0,_,_=>none
 |f+1,k,e=>A.dem h k ((F.aD e).bind fun p=>(some (p,0))) fun o a=>(A.gd (decide (A.h6 a.1.1.1)=true∧decide (A.h6 a.1.1.2)=true∧decide (A.h6 a.1.2.1)=true∧decide (A.h6 a.1.2.2)=true) (if(0:Int)<(a.2.length:Int)then(A.gd ((List.length (α:=D57) e+List.length (α:=D57) [(a.1.1,a.1.2,a.2)])*56≤140737488355328) ((F.aO h f) (o::k) (e++[(a.1.1,a.1.2,a.2)])))else((F.aO h f) (o::k) e)))
def F.o (h:(List (D88×(List D44)))→Option ((List D57)×Int))(a:(List D41)×Int)(k:(List D53)×Int):Nat→(List (D88×(List D44)))→Int→Option ((List D57)×Int)
 |0,_,_=>none
 |f+1,p,e=>if e<(a.1.length:Int)then((A.ix a.1 e).bind fun s=>(F.au h (F.o h a k f) k e s A.FU p 0))else(F.aO p A.FU [] [])
def F.z (a:(List D41)×Int)(e:(List D53)×Int):Nat→(List (D88×(List D44)))→Option ((List D57)×Int)
 |0,_=>none
 |f+1,h=>F.o (F.z a e f) a e A.FU h 0
def F.aP (a:(List D41)×Int)(k:(List D53)×Int):Nat→(List (D88×(List D44)))→Int→Option ((List D57)×Int)
 |0,_,_=>none
 |f+1,o,e=>if e<(a.1.length:Int)then((A.ix a.1 e).bind fun h=>((F.dz h.2).bind fun p=>((F.aC o (h.1,h.1) [p.1]).bind fun s=>(A.gd (Z.R64 (e+1)) ((F.aP a k f) s.2 (e+1))))))else(F.z a k A.FU o)
def F.a9 (f:D23):Option ((List D57)×Int):=(F.cm f).bind fun a=>(if a.2≠0 then(some ([],a.2))else((F.cF f).bind fun e=>(if e.2≠0 then(some ([],e.2))else(F.aP a e A.FU [] 0))))
theorem o_aI(U:D23)(r:(List D57)×Int)(a:F.a9 U=some r):
    A.Ct Tryz.prog 10 [.agg #[.slice A0_ U.length c1_]] [(0,.sh (.slice T83) [.slice A0_ U.length c1_] U),(1,.el none 0 0 A.tabF),(2,.el none 1 0 A.tabA)] [] (fun v H'=>∃(A0':Option Addr) (c1':Nat),v=.tuple #[.slice A0' r.1.length c1',A.i r.2]∧H'=[(0,.own T57 58 A0' c1' r.1)]∧A.h6 r.2):=by
 refine J1 Tryz.func10 rfl Tryz.ntmps10 rfl fun w0 F0=>?_;rw[F.a9]at a;refine Jw 1 ?_;refine Va 3 (cs:=[.slice A0_ U.length c1_]) fun g1=>?_;refine J3 2 [] (Jy 1 ?_);refine A.AX.scope ?_;refine Jw 1 ?_;refine J2 [3] [] [.b 0 0] [(21,.agg #[.slice A0_ U.length c1_])] ?_;refine Vv 4 [] a (o_a9 A0_ c1_ U) (.s 0 (.s 1 (.s 2 .nil))) ?_;rintro p - a _ _ ⟨A4,c5,rfl,rfl,hr6⟩;refine Vf ?_;refine J3 5 [(4,.slice A4 p.1.length c5),(5,A.i p.2)] (Vb 3 ?_);refine J3 2 [(26,.bool (decide (p.2≠0)))] (Jy 1 ?_);refine Vu a ?_ ?_<;>intro hb a
 ·refine Jw 1 ?_;refine J3 3 [(2,.slice none 0 0),(3,A.i p.2)] (Jy 1 ?_);obtain rfl:=J8 a;refine Uf 44 T57 58 ?_;exact V8 [(0,44)] ⟨none,0,rfl,rfl,hr6⟩
 refine Jw 3 ?_;refine J2 [3] [] [.b 0 0] [(29,.agg #[.slice A0_ U.length c1_])] ?_;refine Vv 45 [] a (o_ba A0_ c1_ U) (.s 0 (.s 1 (.s 2 .nil))) ?_;rintro u - a _ _ ⟨A9,c10,rfl,rfl,hr11⟩;refine Vf ?_;refine J3 5 [(6,.slice A9 u.1.length c10),(5,A.i u.2)] (Vb 3 ?_);refine J3 2 [(34,.bool (decide (u.2≠0)))] (Jy 1 ?_);refine Vu a ?_ ?_<;>intro hb a
 ·refine Jw 1 ?_;refine J3 3 [(2,.slice none 0 0),(3,A.i u.2)] (Jy 1 ?_);obtain rfl:=J8 a;refine Uf 85 T57 58 ?_;exact V8 [(0,85)] ⟨none,0,rfl,rfl,hr11⟩
 refine Jw 3 ?_;refine A.AL.mkm 86 D88 (fun x:D88=>(A.rak x)) (Z.Ty.slice T44) false fun w=>?_;refine J3 1 [(7,.map (some w))] (Vb 3 ?_);refine J3 3 [(37,.slice A4 p.1.length c5),(38,A.i (p.1.length:Int)),(39,A.i 0)] (Jy 2 ?_);refine Vo [4,6,7,37,38] [1,2,4,45] (fun f B E=>∃(a7:List (D88×(List D44))),∃(Y:Int),B=[(39,A.i Y)]∧E=[(86,.mp D88 (fun x:D88=>(A.rak x)) (Z.Ty.slice T44) false w a7)]∧A.h6 Y∧F.aP p u f a7 Y=some r) ⟨[],0,rfl,rfl,J0,a⟩ ?_;rintro al _ _ ⟨a7,Y,rfl,rfl,b9,a⟩;rcases al with _|al
 ·exact Vm a
 rw[F.aP]at a;refine Jw 1 ?_;refine J3 1 [(40,.bool (decide (Y<(p.1.length:Int))))] (Jy 2 ?_);refine Vu a ?_ ?_<;>intro hb a
 ·refine Jw 5 ?_;have⟨I,ax,a⟩:=Vy a;refine Uk 4 8787 ax fun a8=>?_;intro bb bc;refine J2 [] [8787] [.e 0 0] [(42,(A.raj I))] ?_;refine J5 8788 (cs:=[A.i 0,A.i 0,A.i 0]) Tryz.zeroValue42 fun bd=>?_;refine Vp 8788 [] (A.rad I) ?_;refine Vb 2 ?_;refine J2 [8788] [] [.n,.b 0 2] [(45,A.i I.2)] ?_;refine Vv 8789 [] a (o_ax I.2 a8.2) .nil ?_;rintro a2 - a _ _ ⟨rfl,rfl,hr25,hr26,hr27,hr28,hr29,hr30,hr31,hr32,hr33⟩;refine Vf ?_;refine J3 3 [(47,(A.rai a2.1)),(48,A.i a2.2)] ?_;refine J5 8829 (cs:=l4b) Tryz.zeroValue45 fun be=>?_;refine Vp 8829 [] (A.rac a2.1) ?_;refine J3 1 [] (Vb 1 ?_);refine J2 [8788,8829] [] [.n,.n,.b 0 0,.n,.b 0 0,.n,.b 1 0] [(49,.map (some w)),(54,.agg #[A.i I.1.1,A.i I.1.2,A.i I.1.1,A.i I.1.2]),(55,(A.rai a2.1))] ?_;refine Vx 8830 (ty:=T44) (cs:=(A.rac a2.1)) [a2.1] ⟨⟨⟨rfl,hr25⟩,⟨rfl,hr26⟩,⟨rfl,hr27⟩,⟨rfl,hr28⟩,⟨⟨rfl,hr29⟩,⟨rfl,hr30⟩,⟨rfl,hr31⟩,⟨rfl,hr32⟩⟩⟩,rfl⟩ (fun ay=>?_) Tryz.zeroValue45 Tryz.sizeOf45
  refine Vv 8831 [] a (o_au (some ⟨ay,0,none⟩) w 1 a7 (I.1,I.1) [a2.1] a8.1.1 a8.1.2 a8.1.1 a8.1.2) (.m 86 (.o 8830 .nil)) ?_;rintro az - a _ _ ⟨rfl,rfl⟩;refine Vf ?_;refine V9 8831 86 [] ?_;refine Vb 2 ?_;have⟨am,a⟩:=Vt a;refine Uc 2 [Z.R64 (Y+1)] [(39,A.i (Y+1))] am (Jz ?_);exact Vk ⟨_,Qi _,⟨az.2,(Y+1),rfl,rfl,(J4 am),a⟩⟩
 refine V6 7 ?_;refine Vo [4,6,7] [1,2,4,45] (fun f B E=>∃(ac:List (D88×(List D44))),B=[]∧E=[(86,.mp D88 (fun x:D88=>(A.rak x)) (Z.Ty.slice T44) false w ac)]∧F.z p u f ac=some r) ⟨a7,rfl,rfl,a⟩ ?_;rintro a1 _ _ ⟨ac,rfl,rfl,a⟩;rcases a1 with _|a1
 ·exact Vm a
 rw[F.z]at a;refine Jw 3 ?_;refine J3 3 [(59,.slice A4 p.1.length c5),(60,A.i (p.1.length:Int)),(61,A.i 0)] (Jy 2 ?_);refine Vo [4,6,7,59,60] [1,2,4,45] (fun f B E=>∃(a3:List (D88×(List D44))),∃(J:Int),B=[(61,A.i J)]∧E=[(86,.mp D88 (fun x:D88=>(A.rak x)) (Z.Ty.slice T44) false w a3)]∧A.h6 J∧F.o (F.z p u a1) p u f a3 J=some r) ⟨ac,0,rfl,rfl,J0,a⟩ ?_;rintro ad _ _ ⟨a3,J,rfl,rfl,bg,a⟩;rcases ad with _|ad
 ·exact Vm a
 rw[F.o]at a;refine Jw 1 ?_;refine J3 1 [(62,.bool (decide (J<(p.1.length:Int))))] (Jy 2 ?_);refine Vu a ?_ ?_<;>intro hb a
 ·refine Jw 5 ?_;have⟨L,b0,a⟩:=Vy a;refine Uk 4 12663 b0 fun an=>?_;intro bh bi;refine J2 [] [12663] [.e 0 0] [(64,(A.raj L))] ?_;refine J5 12664 (cs:=[A.i 0,A.i 0,A.i 0]) Tryz.zeroValue42 fun bj=>?_;refine Vp 12664 [] (A.rad L) ?_;refine Vb 2 ?_;refine J3 3 [(65,.slice A9 u.1.length c10),(66,A.i (u.1.length:Int)),(67,A.i 0)] (Jy 2 ?_);refine Vo [4,6,7,13,59,60,61,65,66] [1,2,4,45,12664] (fun f B E=>∃(a4:List (D88×(List D44))),∃(V:Int),B=[(67,A.i V)]∧E=[(86,.mp D88 (fun x:D88=>(A.rak x)) (Z.Ty.slice T44) false w a4)]∧A.h6 V∧F.au (F.z p u a1) (F.o (F.z p u a1) p u ad) u J L f a4 V=some r) ⟨a3,0,rfl,rfl,J0,a⟩ ?_;rintro af _ _ ⟨a4,V,rfl,rfl,bk,a⟩;rcases af with _|af
  ·exact Vm a
  rw[F.au]at a;refine Jw 1 ?_;refine J3 1 [(68,.bool (decide (V<(u.1.length:Int))))] (Jy 2 ?_);refine Vu a ?_ ?_<;>intro hb a
  ·refine Jw 5 ?_;have⟨N,b1,a⟩:=Vy a;refine Uk 45 12831 b1 fun O=>?_;intro bl bm;refine J2 [] [12831] [.e 0 0] [(70,(A.ral N))] ?_;refine J5 12832 (cs:=A.zz12) Tryz.zeroValue54 fun bp=>?_;refine Vp 12832 [] (A.rae N) ?_;refine Vb 2 ?_;refine J2 [12664,12832] [] [.n,.n,.b 0 0,.n,.b 1 0,.n] [(71,.map (some w)),(76,.agg #[A.i L.1.1,A.i L.1.2,A.i N.1.1,A.i N.1.2])] ?_;obtain⟨ae,b2,a⟩:=V7 a;refine Uw (t:=(Z.Ty.slice T44)) 86 12833 (z:=([]:(List D44))) (zs:=[.slice none 0 0]) ky89 (L.1,N.1) Tryz.zeroValue49 (.inr ⟨rfl,rfl⟩) b2 fun bq=>?_;intro ag ah;refine J3 1 [(16,.slice ag ae.length ah)] (Jy 1 ?_);refine J7 [4,6,7,13,59,60,61,65,66,67] [1,2,4,45,12664] (fun B E=>∃(aa:List (D88×(List D44))),∃(ai:Bool),B=[(93,.bool ai)]∧E=[(86,.mp D88 (fun x:D88=>(A.rak x)) (Z.Ty.slice T44) false w aa)]∧F.bT (F.z p u a1) (F.au (F.z p u a1) (F.o (F.z p u a1) p u ad) u J L af) V aa ai=some r) ?_ ?_
   ·refine Vl mixed 16 16 (A.mb 16 0) ?_;refine Vj J6 [] l4d [] [] (A.mb 16 15) 12 [(0,.n),(1,.n),(2,.n),(3,.n)] [(81,.bool (decide ((0:Int)<(ae.length:Int))))] ?_;refine Uj (j:=81) rfl a ?_ ?_<;>intro hb a
    ·refine Vj J6 l4d l4d [12664,12832] [] (A.mb 16 8191) 3 [(4,.on .n),(5,.on .n),(7,.on .n),(10,.on .n),(11,.on .n),(6,.on (.b 0 0)),(8,.on (.b 1 2)),(12,.on (.b 1 4)),(9,.on .n)] [(82,.map (some w)),(88,.slice ag ae.length ah),(90,(A.rai N.2.2)),(87,.agg #[A.i L.1.1,A.i L.1.2,A.i N.2.1.1,A.i N.2.1.2])] ?_;refine Vc 13 ?_;refine Vi (dj:=81) rfl rfl ?_;refine Vv 12834 [] a (o_bj ag ah ae N.2.2 O.2.2.1 O.2.2.2.1 O.2.2.2.2.1 O.2.2.2.2.2.1 O.2.2.2.2.2.2.1 O.2.2.2.2.2.2.2.1 O.2.2.2.2.2.2.2.2.1 O.2.2.2.2.2.2.2.2.2) (.l 12833 .nil) ?_;rintro b3 - a _ _ ⟨b4,b5,rfl,rfl⟩;refine Vf ?_;refine Vg (A.mb 16 16383) l4d ?_;refine Vc 14 ?_;refine Vi (dj:=81) rfl rfl ?_;refine Vv 12874 [] a (o_au b4 w b5 a4 (L.1,N.2.1) b3 an.1.1 an.1.2 O.2.1.1 O.2.1.2) (.m 86 (.o 12834 .nil)) ?_;rintro aj - a _ _ ⟨rfl,rfl⟩;refine Vf ?_;refine V9 12874 86 [] ?_;refine Vg (A.mb 16 32767) l4d ?_;refine Vj J6 l4d [1,2,4,45,86,12664,12831,12832,12833,12834] [] [] (A.mb 16 65535) 0 [(15,.n)] [(93,.bool aj.1)] (Ve ?_);exact Vk ⟨aj.2,aj.1,rfl,rfl,a⟩
    refine Vj J6 l4d [1,2,4,45,86,12664,12831,12832,12833] [] [] (A.mb 16 65535) 0 [(4,.off),(5,.off),(7,.off),(10,.off),(11,.off),(6,.off),(8,.off),(12,.off),(9,.off),(13,.off),(14,.off),(15,.n)] [(93,.bool false)] (Ve ?_);exact Vk ⟨a4,false,rfl,rfl,a⟩
   rintro _ _ ⟨aa,ai,rfl,rfl,a⟩;rw[F.bT]at a;refine Ue a ?_ ?_<;>intro hb a
   ·refine V1 1 ?_;exact Vk ⟨_,Qi _,⟨aa,rfl,rfl,a⟩⟩
   refine Jw 3 ?_;have⟨ao,a⟩:=Vt a;refine Uc 2 [Z.R64 (V+1)] [(67,A.i (V+1))] ao (Jz ?_);exact Vk ⟨_,Qi _,⟨aa,(V+1),rfl,rfl,(J4 ao),a⟩⟩
  refine Jw 3 ?_;have⟨aq,a⟩:=Vt a;refine Uc 2 [Z.R64 (J+1)] [(61,A.i (J+1))] aq (Jz ?_);exact Vk ⟨_,Qi _,⟨a4,(J+1),rfl,rfl,(J4 aq),a⟩⟩
 refine Jw 5 ?_;refine J3 1 [(17,.slice none 0 0)] (Vb 3 ?_);refine J3 1 [(96,.map (some w))] ?_;refine A.AL.rgm 86 12914 fun b6=>?_;refine Jy 2 ?_;refine Uf 13007 T57 58 ?_;refine Vo [97] [1,2,86] (fun f B E=>∃(ab:List Nat),∃(y:List D57),∃(la98:Option (Value×Value)),∃(W:Option Addr),∃(X:Nat),B=[(17,.slice W y.length X)]∧E=[(12914,.mit 86 b6 w a3.length ab la98),(13007,.own T57 58 W X y)]∧F.aO a3 f ab y=some r) ⟨[],[],none,none,0,rfl,rfl,a⟩ ?_;rintro ar _ _ ⟨ab,y,la98,W,X,rfl,rfl,a⟩;rcases ar with _|ar
 ·exact Vm a
 rw[F.aO]at a;refine Jw 1 ?_;obtain⟨hend119,hev120⟩:=A.dem_some a;refine A.AL.nxm 86 12914 13134 (fun hall=>?_) (fun ak h hp108 hs109 br=>?_)
 ·replace a:=hend119 hall
  refine J3 1 [(99,.bool false)] (Jy 2 ?_);refine Ur rfl ?_;refine Jw 3 ?_;refine J3 1 [(115,.slice W y.length X)] ?_;refine Vv 13094 [] a (o_m W X y) (.m 13007 .nil) ?_;rintro b7 - a _ _ ⟨rfl,rfl,hr105⟩;refine Vf ?_;refine V9 13094 13007 [] ?_;refine Vb 2 ?_;refine J3 3 [(2,.slice W y.length X),(3,A.i 0)] (Jy 1 ?_);obtain rfl:=J8 a;refine U3 2 (Ub (show y.length=b7.length from(Eq.symm hr105))) ?_;exact V8 [(0,13007)] ⟨W,X,rfl,rfl,J0⟩
 intro a5 a6;have a:=hev120 ak h hp108 hs109
 have⟨hkc113,a⟩:=Vt a;refine J3 1 [(99,.bool true)] (Jy 2 ?_);refine Ui rfl ?_;refine Jw 4 ?_;refine A.AL.ent 12914 ?_;refine J3 2 [(101,(A.rak h.1)),(102,.slice a5 h.2.length a6)] ?_;refine J5 13135 (cs:=[A.i 0,A.i 0,A.i 0,A.i 0]) Tryz.zeroValue89 fun bt=>?_;refine Vp 13135 [] [A.i h.1.1.1,A.i h.1.1.2,A.i h.1.2.1,A.i h.1.2.2] ?_;refine J3 1 [(19,.slice a5 h.2.length a6)] (Vb 2 ?_);refine J3 3 [(105,.bool (decide ((0:Int)<(h.2.length:Int))))] (Jy 1 ?_);refine Vu a ?_ ?_<;>intro hb a
 ·refine Jw 0 ?_;refine J2 [13135] [] [.n,.n,.b 0 0,.n,.b 0 2,.n,.n] [(106,.slice W y.length X),(112,.agg #[A.i h.1.1.1,A.i h.1.1.2,A.i h.1.2.1,A.i h.1.2.2,.slice a5 h.2.length a6])] ?_;refine Vx 13136 (ty:=T57) (cs:=[A.i h.1.1.1,A.i h.1.1.2,A.i h.1.2.1,A.i h.1.2.2,.slice a5 h.2.length a6]) [(h.1.1,h.1.2,h.2)] ⟨⟨⟨⟨rfl,(of_decide_eq_true hkc113.1)⟩,⟨rfl,(of_decide_eq_true hkc113.2.1)⟩⟩,⟨⟨rfl,(of_decide_eq_true hkc113.2.2.1)⟩,⟨rfl,(of_decide_eq_true hkc113.2.2.2)⟩⟩,.inl ⟨13134,rfl⟩⟩,rfl⟩ (fun bu=>?_) Tryz.zeroValue58 Tryz.sizeOf58
  have⟨hl118,a⟩:=Vt a;refine V4 (k:=13007) [] (Um (k:=13136) rfl) inf58 hl118 fun av aw=>?_;refine J3 1 [(17,.slice av ((y++[(h.1.1,h.1.2,h.2)]).length) aw)] (Uh 1 ?_);exact Vk ⟨_,Qi _,⟨(ak::ab),(y++[(h.1.1,h.1.2,h.2)]),(some ((A.rak h.1),.slice a5 h.2.length a6)),av,aw,rfl,rfl,a⟩⟩
 refine V1 2 ?_;exact Vk ⟨_,Qi _,⟨(ak::ab),y,(some ((A.rak h.1),.slice a5 h.2.length a6)),W,X,rfl,rfl,a⟩⟩
def F.db (a:Bool):Option Bool:=some a
def F.eh:Option Bool:=(F.a9 [(1,1,[],(0,0,ByteArray.mk #[]),ByteArray.mk #[97],0,0),(2,2,[1],(1,0,ByteArray.mk #[]),ByteArray.mk #[],0,0),(3,15,[2],(0,0,ByteArray.mk #[]),ByteArray.mk #[98],0,0)]).bind fun a=>((F.cD a.1 (1,2) (3,0)).bind fun e=>(if(bif bif decide (a.2=0)then decide ((a.1.length:Int)=10)else false then decide ((e.length:Int)=1)else false)=true then((A.ix e 0).bind fun f=>(F.db (decide (f=(0,0,0,0,(0,0,0,0))))))else(F.db false)))
theorem o_aP (r:Bool)(f:F.eh=some r):
    A.Ct Tryz.prog 8 [] [(0,.el none 0 0 A.tabF),(1,.el none 1 0 A.tabA)] [] (fun v H'=>v=.bool r∧H'=[]):=by
 refine J1 Tryz.func8 rfl Tryz.ntmps8 rfl fun U V=>?_;rw[F.eh]at f;refine Jw 1 ?_;refine J3 1 [] (Vb 2 ?_);refine J3 1 [(5,.agg #[A.i 1,A.i 1,.slice none 0 0,A.i 0,A.i 0,.string (ByteArray.mk #[]),.string (ByteArray.mk #[97]),A.i 0,A.i 0])] ?_;refine Vx 2 (ty:=A.ti) (cs:=[A.i 1]) [1] ⟨⟨rfl,(Vd .i64 (1) rfl)⟩,rfl⟩ (fun E=>?_) Tryz.zeroValue3 Tryz.sizeOf3
 refine J3 2 [(8,.agg #[A.i 2,A.i 2,.slice (some ⟨E,0,none⟩) 1 1,A.i 1,A.i 0,.string (ByteArray.mk #[]),.string (ByteArray.mk #[]),A.i 0,A.i 0])] ?_;refine Vx 3 (ty:=A.ti) (cs:=[A.i 2]) [2] ⟨⟨rfl,(Vd .i64 (2) rfl)⟩,rfl⟩ (fun I=>?_) Tryz.zeroValue3 Tryz.sizeOf3
 refine J3 1 [(10,.agg #[A.i 3,A.i 15,.slice (some ⟨I,0,none⟩) 1 1,A.i 0,A.i 0,.string (ByteArray.mk #[]),.string (ByteArray.mk #[98]),A.i 0,A.i 0])] ?_;refine A.frz 2 [] ?_;refine A.frz 3 [] ?_;refine Vx 4 (ty:=T83) (cs:=[A.i 1,A.i 1,.slice none 0 0,A.i 0,A.i 0,.string (ByteArray.mk #[]),.string (ByteArray.mk #[97]),A.i 0,A.i 0,A.i 2,A.i 2,.slice (some ⟨E,0,none⟩) 1 1,A.i 1,A.i 0,.string (ByteArray.mk #[]),.string (ByteArray.mk #[]),A.i 0,A.i 0,A.i 3,A.i 15,.slice (some ⟨I,0,none⟩) 1 1,A.i 0,A.i 0,.string (ByteArray.mk #[]),.string (ByteArray.mk #[98]),A.i 0,A.i 0]) [(1,1,[],(0,0,ByteArray.mk #[]),ByteArray.mk #[97],0,0),(2,2,[1],(1,0,ByteArray.mk #[]),ByteArray.mk #[],0,0),(3,15,[2],(0,0,ByteArray.mk #[]),ByteArray.mk #[98],0,0)] ⟨⟨⟨rfl,(Vd .i64 (1) rfl)⟩,⟨rfl,(Vd .i64 (1) rfl)⟩,.inr ⟨rfl,rfl⟩,⟨⟨rfl,J0⟩,⟨rfl,J0⟩,⟨rfl,(A.szl (ByteArray.mk #[]) rfl)⟩⟩,⟨rfl,(A.szl (ByteArray.mk #[97]) rfl)⟩,⟨rfl,J0⟩,⟨rfl,J0⟩⟩,⟨⟨⟨rfl,(Vd .i64 (2) rfl)⟩,⟨rfl,(Vd .i64 (2) rfl)⟩,.inl ⟨2,rfl⟩,⟨⟨rfl,(Vd .i64 (1) rfl)⟩,⟨rfl,J0⟩,⟨rfl,(A.szl (ByteArray.mk #[]) rfl)⟩⟩,⟨rfl,(A.szl (ByteArray.mk #[]) rfl)⟩,⟨rfl,J0⟩,⟨rfl,J0⟩⟩,⟨⟨⟨rfl,(Vd .i64 (3) rfl)⟩,⟨rfl,(Vd .i64 (15) rfl)⟩,.inl ⟨3,rfl⟩,⟨⟨rfl,J0⟩,⟨rfl,J0⟩,⟨rfl,(A.szl (ByteArray.mk #[]) rfl)⟩⟩,⟨rfl,(A.szl (ByteArray.mk #[98]) rfl)⟩,⟨rfl,J0⟩,⟨rfl,J0⟩⟩,rfl⟩⟩⟩ (fun k=>?_) Tryz.zeroValue84 Tryz.sizeOf84
 refine J3 1 [(12,.agg #[.slice (some ⟨k,0,none⟩) 3 3])] ?_;refine J5 5 (cs:=[.slice none 0 0]) Tryz.zeroValue24 fun W=>?_;refine Vp 5 [] [.slice (some ⟨k,0,none⟩) 3 3] ?_;refine Vb 2 ?_;refine J2 [5] [] [.b 0 0] [(14,.agg #[.slice (some ⟨k,0,none⟩) 3 3])] ?_;refine A.frz 4 [] ?_;refine Vv 6 [] f (o_aI (some ⟨k,0,none⟩) 3 [(1,1,[],(0,0,ByteArray.mk #[]),ByteArray.mk #[97],0,0),(2,2,[1],(1,0,ByteArray.mk #[]),ByteArray.mk #[],0,0),(3,15,[2],(0,0,ByteArray.mk #[]),ByteArray.mk #[98],0,0)]) (.s 4 (.s 0 (.s 1 .nil))) ?_;rintro h - f _ _ ⟨t,u,rfl,rfl,hr9⟩;refine Vf ?_;refine J3 5 [(2,.slice t h.1.length u),(3,A.i h.2)] (Vb 2 ?_);refine J3 3 [(18,.slice t h.1.length u),(19,.agg #[A.i 1,A.i 2]),(20,.agg #[A.i 3,A.i 0])] ?_;refine Vv 46 [] f (o_av t u h.1 (1,2) (3,0) (Vd .i64 (1) rfl) (Vd .i64 (2) rfl) (Vd .i64 (3) rfl) J0) (.o 6 .nil) ?_;rintro z - f _ _ ⟨J,c13,rfl,rfl⟩;refine Vf ?_;refine J3 1 [(4,.slice J z.length c13)] (Jy 1 ?_);refine J7 [] [0,1] (fun L N=>∃(B:Bool),L=[(0,.bool B)]∧N=[]∧F.db B=some r) ?_ ?_
 ·refine Jw 0 ?_;refine J2 [] [] [.n,.n,.n,.sy .n,.sy .n,.sy .n,.pk,.n,.sy .n,.sy .n,.sy .n,.pk,.n] [(34,.bool (bif bif decide (h.2=0)then decide ((h.1.length:Int)=10)else false then decide ((z.length:Int)=1)else false))] ?_;refine Vs (j:=34) rfl f (fun f=>?_) (fun f=>?_)
  ·refine J2 [] [] [.on .n] [(35,.slice J z.length c13)] ?_;refine Vi (dj:=34) rfl rfl ?_;have⟨p,O,f⟩:=Vy f;refine Uk 46 86 O fun X=>?_;intro Y a0;refine J2 [] [86] [.on (.e 0 0),.on .n] [(37,(A.rai p)),(38,.agg #[A.i 0,A.i 0,A.i 0,A.i 0,A.i 0,A.i 0,A.i 0,A.i 0])] ?_;refine Vi (dj:=34) rfl rfl ?_;refine Uu rfl (fun a w hf hh=>eqagg_eql45 (x:=p) (y:=(0,0,0,0,(0,0,0,0))) (hf.eval rfl) (hf.eval rfl)) ?_;refine J3 2 [(0,.bool (decide (p=(0,0,0,0,(0,0,0,0)))))] (Jz ?_);exact Vk ⟨(decide (p=(0,0,0,0,(0,0,0,0)))),rfl,rfl,f⟩
  refine J2 [] [] [.off,.off,.off,.off,.off,.n,.n] [(0,.bool false)] (Jz ?_);exact Vk ⟨false,rfl,rfl,f⟩
 rintro _ _ ⟨B,rfl,rfl,f⟩;rw[F.db]at f;obtain rfl:=J8 f;exact J9 [] ⟨rfl,rfl⟩
def F.dq (e:D23):Nat→Int→Int→Option Bool
 |0,_,_=>none
 |f+1,h,k=>if k<((List.take ((min (e.length:Int) 99).toNat) e).length:Int)then((A.ix (List.take ((min (e.length:Int) 99).toNat) e) k).bind fun a=>(A.gd (Z.R64 (h+(min (a.2.2.1.length:Int) 1048576))∧Z.R64 ((h+(min (a.2.2.1.length:Int) 1048576))+(min (a.2.2.2.2.1.size:Int) 1048576))∧Z.R64 (((h+(min (a.2.2.1.length:Int) 1048576))+(min (a.2.2.2.2.1.size:Int) 1048576))+(min (a.2.2.2.1.2.2.size:Int) 1048576))) (A.gd (Z.R64 (k+1)) ((F.dq e f) (min (((h+(min (a.2.2.1.length:Int) 1048576))+(min (a.2.2.2.2.1.size:Int) 1048576))+(min (a.2.2.2.1.2.2.size:Int) 1048576)) 1048576) (k+1)))))else(some (bif decide ((e.length:Int)≤18)then decide (h≤2000)else false))
def F.eS (a:D23):Option Bool:=A.gd (0≤min (a.length:Int) 99∧(min (a.length:Int) 99).toNat≤a.length) (F.dq a A.FU 0 0)
theorem o_bY(k:D23)(r:Bool)(h:F.eS k=some r):
    A.Ct Tryz.prog 9 [.agg #[.slice A0_ k.length c1_]] [(0,.sh (.slice T83) [.slice A0_ k.length c1_] k)] [] (fun v H'=>v=.bool r∧H'=[]):=by
 refine J1 Tryz.func9 rfl Tryz.ntmps9 rfl fun I J=>?_;rw[F.eS]at h;refine Jw 1 ?_;refine Va 1 (cs:=[.slice A0_ k.length c1_]) fun L=>?_;refine J3 1 [] (Vb 2 ?_);refine J3 1 [(3,A.i 0)] (Vb 3 ?_);refine J2 [1] [] [.n,.b 0 0,.n,.b 0 0,.n,.n] [(7,.slice A0_ k.length c1_),(11,A.i (min (k.length:Int) 99))] ?_;have⟨s,h⟩:=Vt h;refine A.AL.cuth 0 2 (v:=(min (k.length:Int) 99).toNat) (Wb s.1).symm s.2 fun N=>?_;refine J3 2 [(13,A.i ((List.take ((min (k.length:Int) 99).toNat) k).length:Int)),(14,A.i 0)] (Jy 2 ?_);refine Vo [1,12,13] [0,1,2] (fun f z B=>∃(o:Int),∃(p:Int),z=[(3,A.i o),(14,A.i p)]∧B=[]∧A.h6 o∧A.h6 p∧F.dq k f o p=some r) ⟨0,0,rfl,rfl,J0,J0,h⟩ ?_;rintro t _ _ ⟨o,p,rfl,rfl,O,U,h⟩;rcases t with _|t
 ·exact Vm h
 rw[F.dq]at h;refine Jw 1 ?_;refine J3 1 [(15,.bool (decide (p<((List.take ((min (k.length:Int) 99).toNat) k).length:Int))))] (Jy 2 ?_);refine Vu h ?_ ?_<;>intro V h
 ·refine Jw 5 ?_;have⟨a,E,h⟩:=Vy h;refine V0 2 9 E fun W=>?_;intro u w X Y;refine J2 [] [9] [.e 0 0] [(17,.agg #[A.i a.1,A.i a.2.1,.slice u a.2.2.1.length w,A.i a.2.2.2.1.1,A.i a.2.2.2.1.2.1,.string a.2.2.2.1.2.2,.string a.2.2.2.2.1,A.i a.2.2.2.2.2.1,A.i a.2.2.2.2.2.2])] ?_;refine J5 11 (cs:=l4a) Tryz.zeroValue84 fun a1=>?_;refine Vp 11 [] [A.i a.1,A.i a.2.1,.slice u a.2.2.1.length w,A.i a.2.2.2.1.1,A.i a.2.2.2.1.2.1,.string a.2.2.2.1.2.2,.string a.2.2.2.2.1,A.i a.2.2.2.2.2.1,A.i a.2.2.2.2.2.2] ?_;refine Vb 1 ?_;have⟨x,h⟩:=Vt h;refine A.q [11] [] [.n,.n,.b 0 2,.n,.n,.n,.n,.b 0 6,.n,.n,.n,.n,.n,.b 0 5,.n,.n,.n,.n,.n] [Z.R64 (o+(min (a.2.2.1.length:Int) 1048576)),Z.R64 ((o+(min (a.2.2.1.length:Int) 1048576))+(min (a.2.2.2.2.1.size:Int) 1048576)),Z.R64 (((o+(min (a.2.2.1.length:Int) 1048576))+(min (a.2.2.2.2.1.size:Int) 1048576))+(min (a.2.2.2.1.2.2.size:Int) 1048576))] [(3,A.i (min (((o+(min (a.2.2.1.length:Int) 1048576))+(min (a.2.2.2.2.1.size:Int) 1048576))+(min (a.2.2.2.1.2.2.size:Int) 1048576)) 1048576))] x (Vb 2 ?_);have⟨y,h⟩:=Vt h;refine Uc 2 [Z.R64 (p+1)] [(14,A.i (p+1))] y (Jz ?_);exact Vk ⟨_,Qi _,⟨(min (((o+(min (a.2.2.1.length:Int) 1048576))+(min (a.2.2.2.2.1.size:Int) 1048576))+(min (a.2.2.2.1.2.2.size:Int) 1048576)) 1048576),(p+1),rfl,rfl,(A.has_min (J4 x.2.2) (Vd .i64 (1048576) rfl)),(J4 y),h⟩⟩
 refine Jw 3 ?_;refine J2 [1] [] [.n,.b 0 0,.n,.n,.n,.sy .n,.sy .n,.pk,.n] [(2,.bool (bif decide ((k.length:Int)≤18)then decide (o≤2000)else false))] (Jy 1 ?_);obtain rfl:=J8 h;exact J9 [] ⟨rfl,rfl⟩
def F.cP (e:Int→Option Int)(a:Int)(f:Bool):Option Int:=if f=true then(some 20)else(A.gd (Z.R64 (a+1)) (e (a+1)))
def F.bc (a:D44):Nat→Int→Option Int
 |0,_=>none
 |f+1,e=>if e<4 then((A.ix [a.2.2.2.2.1,a.2.2.2.2.2.1,a.2.2.2.2.2.2.1,a.2.2.2.2.2.2.2] e).bind fun h=>(if h<0 then(F.cP (F.bc a f) e true)else((A.ix [a.2.2.2.2.1,a.2.2.2.2.2.1,a.2.2.2.2.2.2.1,a.2.2.2.2.2.2.2] e).bind fun k=>(if(1048576:Int)<k then(F.cP (F.bc a f) e true)else(if a.2.2.2.1≤e then((A.ix [a.2.2.2.2.1,a.2.2.2.2.2.1,a.2.2.2.2.2.2.1,a.2.2.2.2.2.2.2] e).bind fun o=>(F.cP (F.bc a f) e (decide (o≠0))))else(F.cP (F.bc a f) e false))))))else(some 0)
def F.ad (a:D44):Option Int:=A.gd (((bif bif bif bif bif decide (a.1<0)then true else decide ((4:Int)<a.1)then true else decide (a.2.2.2.1<0)then true else decide ((4:Int)<a.2.2.2.1)then true else decide (a.2.1<0)then true else decide (a.1<a.2.1))=false→Z.R64 (a.2.1+a.2.2.2.1))) (if(bif bif bif bif bif bif bif bif decide (a.1<0)then true else decide ((4:Int)<a.1)then true else decide (a.2.2.2.1<0)then true else decide ((4:Int)<a.2.2.2.1)then true else decide (a.2.1<0)then true else decide (a.1<a.2.1)then true else decide ((4:Int)<a.2.1+a.2.2.2.1)then true else decide (a.2.2.1<0)then true else decide ((1048576:Int)<a.2.2.1))=true then(some 20)else(if(bif decide (a.2.1=0)then decide (a.2.2.1≠0)else false)=true then(some 20)else(F.bc a A.FU 0)))
theorem o_aQ (a:D44)(N:A.h6 a.1)(O:A.h6 a.2.1)(U:A.h6 a.2.2.1)(V:A.h6 a.2.2.2.1)(W:A.h6 a.2.2.2.2.1)(X:A.h6 a.2.2.2.2.2.1)(Y:A.h6 a.2.2.2.2.2.2.1)(a1:A.h6 a.2.2.2.2.2.2.2)(r:Int)(h:F.ad a=some r):
    A.Ct Tryz.prog 54 [(A.rai a)] [] [] (fun v H'=>v=A.i r∧H'=[]∧A.h6 r):=by
 refine J1 Tryz.func54 rfl Tryz.ntmps54 rfl fun w0 F0=>?_;rw[F.ad]at h;refine Jw 1 ?_;refine Va 0 (cs:=(A.rac a)) fun p=>?_;refine J3 1 [] (Vb 3 ?_);have⟨z,h⟩:=Vt h;refine A.q [0] [] [.n,.b 0 0,.n,.n,.sy .n,.sy (.b 0 0),.sy .n,.pk,.n,.sy .n,.sy (.b 0 3),.sy .n,.pk,.n,.sy .n,.sy (.b 0 3),.sy .n,.pk,.n,.sy .n,.sy (.b 0 1),.sy .n,.pk,.n,.sy .n,.sy (.b 0 1),.sy .n,.sy (.b 0 0),.sy .n,.pk,.n,.sy .n,.sy (.b 0 1),.sy .n,.sy (.b 0 3),.sy .n,.sy .n,.pk,.n,.sy .n,.sy (.b 0 2),.sy .n,.pk,.n,.sy .n,.sy (.b 0 2),.sy .n,.pk,.n] [(bif bif bif bif bif decide (a.1<0)then true else decide ((4:Int)<a.1)then true else decide (a.2.2.2.1<0)then true else decide ((4:Int)<a.2.2.2.1)then true else decide (a.2.1<0)then true else decide (a.1<a.2.1))=false→Z.R64 (a.2.1+a.2.2.2.1)] [(52,.bool (bif bif bif bif bif bif bif bif decide (a.1<0)then true else decide ((4:Int)<a.1)then true else decide (a.2.2.2.1<0)then true else decide ((4:Int)<a.2.2.2.1)then true else decide (a.2.1<0)then true else decide (a.1<a.2.1)then true else decide ((4:Int)<a.2.1+a.2.2.2.1)then true else decide (a.2.2.1<0)then true else decide ((1048576:Int)<a.2.2.1)))] z ?_;refine Vs (j:=52) rfl h (fun h=>?_) (fun h=>?_)
 ·refine J2 [] [] [.off,.off,.off,.off,.off,.off,.off,.off,.n] [(61,.bool true)] (Jy 1 ?_);refine Ui rfl ?_;refine Jw 1 ?_;refine J3 1 [(2,A.i 20)] (Jy 1 ?_);obtain rfl:=J8 h;exact J9 [] ⟨rfl,rfl,(Vd .i64 (20) rfl)⟩
 refine J2 [0] [] [.on .n,.on (.b 0 1),.on .n,.on .n,.sy .n,.sy (.b 0 2),.sy .n,.on .pk,.n] [(61,.bool (bif decide (a.2.1=0)then decide (a.2.2.1≠0)else false))] (Jy 1 ?_);refine Ue h ?_ ?_<;>intro o h
 ·refine Jw 1 ?_;refine J3 1 [(2,A.i 20)] (Jy 1 ?_);obtain rfl:=J8 h;exact J9 [] ⟨rfl,rfl,(Vd .i64 (20) rfl)⟩
 refine Jw 4 ?_;refine J3 1 [(3,A.i 0)] (Jy 2 ?_);refine Vo [1] [0] (fun f s t=>∃(k:Int),s=[(3,A.i k)]∧t=[]∧A.h6 k∧F.bc a f k=some r) ⟨0,rfl,rfl,J0,h⟩ ?_;rintro u _ _ ⟨k,rfl,rfl,a2,h⟩;rcases u with _|u
 ·exact Vm h
 rw[F.bc]at h;refine Jw 2 ?_;refine J3 2 [(63,.bool (decide (k<4)))] (Jy 1 ?_);refine Vu h ?_ ?_<;>intro o h
 ·refine V6 4 ?_;refine J7 [1,3] [0] (fun s t=>∃(w:Bool),s=[(90,.bool w)]∧t=[]∧F.cP (F.bc a u) k w=some r) ?_ ?_
  ·refine Jw 0 ?_;refine J3 2 [(66,A.i k),(67,.pointer (some ⟨p,4,none⟩))] ?_;have⟨B,E,h⟩:=Vy h;refine Ul 0 4 (fun v:Int=>A.i v) [a.2.2.2.2.1,a.2.2.2.2.2.1,a.2.2.2.2.2.2.1,a.2.2.2.2.2.2.2] E ?_;refine J2 [] [4] [.e 0 0,.n,.n] [(71,.bool (decide (B<0)))] ?_;refine V2 (j:=71) rfl h ?_ ?_<;>intro o h
   ·refine J2 [] [] [.off,.off,.off,.off,.off,.n,.n,.off,.off,.off,.off,.off,.off,.off,.off,.off,.off,.off,.n] [(90,.bool true)] (Jz ?_);exact Vk ⟨true,rfl,rfl,h⟩
   refine J2 [] [] [.on .n,.on .n] [(72,A.i k),(73,.pointer (some ⟨p,4,none⟩))] ?_;refine Vi (dj:=71) rfl rfl ?_;have⟨I,J,h⟩:=Vy h;refine Ul 0 5 (fun v:Int=>A.i v) [a.2.2.2.2.1,a.2.2.2.2.2.1,a.2.2.2.2.2.2.1,a.2.2.2.2.2.2.2] J ?_;refine J2 [] [5] [.on (.e 0 0),.on .n,.n,.n] [(78,.bool (decide ((1048576:Int)<I)))] ?_;refine V2 (j:=78) rfl h ?_ ?_<;>intro o h
   ·refine J2 [] [] [.off,.off,.off,.off,.off,.off,.off,.off,.off,.off,.off,.n] [(90,.bool true)] (Jz ?_);exact Vk ⟨true,rfl,rfl,h⟩
   refine J2 [0] [] [.on .n,.on .n,.on (.b 0 3),.on .n,.on .n] [(83,.bool (decide (a.2.2.2.1≤k)))] ?_;refine V2 (j:=83) rfl h ?_ ?_<;>intro o h
   ·refine J2 [] [] [.on .n,.on .n] [(84,A.i k),(85,.pointer (some ⟨p,4,none⟩))] ?_;refine Vi (dj:=83) rfl rfl ?_;have⟨x,L,h⟩:=Vy h;refine Ul 0 6 (fun v:Int=>A.i v) [a.2.2.2.2.1,a.2.2.2.2.2.1,a.2.2.2.2.2.2.1,a.2.2.2.2.2.2.2] L ?_;refine J2 [] [6] [.on (.e 0 0),.on .n,.on .n,.n] [(90,.bool (decide (x≠0)))] (Jz ?_);exact Vk ⟨(decide (x≠0)),rfl,rfl,h⟩
   refine J2 [] [] [.off,.off,.off,.off,.off,.on .n,.n] [(90,.bool false)] (Jz ?_);exact Vk ⟨false,rfl,rfl,h⟩
  rintro _ _ ⟨w,rfl,rfl,h⟩;rw[F.cP]at h;refine Ue h ?_ ?_<;>intro o h
  ·refine Jw 1 ?_;refine J3 1 [(2,A.i 20)] (Jy 1 ?_);obtain rfl:=J8 h;exact J9 [] ⟨rfl,rfl,(Vd .i64 (20) rfl)⟩
  refine Jw 3 ?_;have⟨y,h⟩:=Vt h;refine Uc 3 [Z.R64 (k+1)] [(3,A.i (k+1))] y (Jz ?_);exact Vk ⟨_,Qi _,⟨(k+1),rfl,rfl,(J4 y),h⟩⟩
 refine Jw 3 ?_;refine J3 1 [(2,A.i 0)] (Jy 1 ?_);obtain rfl:=J8 h;exact J9 [] ⟨rfl,rfl,J0⟩
end Go.Proofs.YtlbnpmfggfbdoaaGreatDoor
end
section
namespace Go.Proofs.YtlbnpmfggfbdoaaGreatDoor
open Go.RowKit
end Go.Proofs.YtlbnpmfggfbdoaaGreatDoor
end
section
namespace Go.A
open Go.RowKit Go.Z
def sub (a k:Nat):Bool:=Nat.beq (a&&& k) a
theorem Qfm {a k:Nat}:sub a k=true↔∀i,a.testBit i=true→k.testBit i=true:=by
 unfold sub
 constructor
 ·intro h i I
  have h:=Wu h
  rw[←h,Nat.testBit_and,Ql]at I
  exact I.2
 ·intro h
  have:a&&& k=a:=Nat.eq_of_testBit_eq fun i=>by
   rw[Nat.testBit_and]
   cases J:a.testBit i with
   |false=>rfl
   |true=>rw[h i J];rfl
  rw[this];exact Jo a
theorem Qif: ∀(n k i:Nat),i<n→(mb n k)[i]?=some (k.testBit i)
 |0,_,_,h=>absurd h (Nat.not_lt_zero _)
 |n+1,k,0,_=>by
  rw[mb,Xd,Nat.testBit_zero]
  congr 1
  rcases Nat.mod_two_eq_zero_or_one k with h|h<;>rw[h]<;>rfl
 |n+1,k,i+1,h=>by
  rw[mb,Wj,Qif n (k / 2) i (by omega),Nat.testBit_succ]
theorem Qhh: ∀n k,(mb n k).length=n
 |0,_=>rfl
 |n+1,k=>by rw[mb,Qh,Qhh n]
theorem Qdt {n k i:Nat}{b:Bool}(h:i<n):(mb n k).toArray.getD i b=k.testBit i:=by
 rw[Wo,Ww,Qif n k i h];rfl
theorem mb_getD_ge {n k i:Nat}{b:Bool}(h:n≤i):(mb n k).toArray.getD i b=b:=by
 rw[Wo,Ww,Q7 (by rw[Qhh];exact h)];rfl
def Qib (n:Nat):List Edge→Nat
 | []=>0
 |e::r=>bif Region.binds .any e then(1<<<(min e.on n))|||Qib n r else Qib n r
theorem Qhm {n k:Nat}(hk:k.testBit n=false): ∀l:List Edge,sub (Qib n l) k=true↔∀e∈l,Region.binds .any e=true→e.on<n∧k.testBit e.on=true
 | []=>by rw[Qfm];simp[Qib]
 |e::r=>by
  have W:=Qhm hk r
  rw[Qfm]at W ⊢
  unfold Qib
  cases hb:Region.binds .any e with
  |false=>
   rw[cond_false,W]
   constructor
   ·intro h x I J
    rcases Qk.1 I with rfl|I
    ·rw[hb]at J;cases J
    ·exact h x I J
   ·intro h x I;exact h x (Qe _ I)
  |true=>
   rw[cond_true]
   constructor
   ·intro h
    have Y:=W.1 fun i N=>h i (by rw[Yj,N,Bool.or_true])
    intro x I J
    rcases Qk.1 I with rfl|I
    ·have O:=h (min x.on n) (by rw[Yj,Yn,Jg,Bool.true_or])
     by_cases hl:x.on<n
     ·rw[X8 (Nat.le_of_lt hl)]at O;exact⟨hl,O⟩
     ·rw[Nat.min_eq_right (Jd hl),hk]at O;cases O
    ·exact Y x I J
   ·intro h i N
    rw[Yj,Y8]at N
    rcases N with N|N
    ·rw[Yn,Je]at N
     have:=of_decide_eq_true N
     obtain⟨Y,O⟩:=h e (Qf ..) hb
     rw[X8 (Nat.le_of_lt Y)]at this
     rw[←this];exact O
    ·exact W.2 (fun x I=>h x (Qe _ I)) i N
def waits (ops:List Oper):List Nat:=ops.map fun o=>Qib ops.length o.after.toList
def rdyF:List Nat→Nat→Nat→List Nat
 | [],_,_=>[]
 |a::ws,k,i=>bif !(k.testBit i)&&sub a k then i::rdyF ws k (i+1)else rdyF ws k (i+1)
theorem mem_rdyF {k j:Nat}: ∀(ws:List Nat) (i:Nat),j∈rdyF ws k i↔∃m a,j=i+m∧ws[m]?=some a∧k.testBit j=false∧sub a k=true
 | [],i=>by simp[rdyF]
 |a::ws,i=>by
  have W:=mem_rdyF (k:=k) (j:=j) ws (i+1)
  have tl:j∈rdyF ws k (i+1)↔∃m b,j=i+(m+1)∧(a::ws)[m+1]?=some b∧k.testBit j=false∧sub b k=true:=by
   rw[W]
   constructor
   ·rintro⟨m,b,N,I,J⟩;exact⟨m,b,by omega,by simpa using I,J⟩
   ·rintro⟨m,b,N,I,J⟩;exact⟨m,b,by omega,by simpa using I,J⟩
  have key:(∃m b,j=i+m∧(a::ws)[m]?=some b∧k.testBit j=false∧sub b k=true)↔(j=i∧k.testBit i=false∧sub a k=true)∨j∈rdyF ws k (i+1):=by
   rw[tl]
   constructor
   ·rintro⟨m,b,N,I,J,O⟩
    cases m with
    |zero=>simp at I;subst I;have N:j=i:=N;subst N;exact .inl ⟨rfl,J,O⟩
    |succ m=>exact .inr ⟨m,b,N,I,J,O⟩
   ·rintro(⟨rfl,J,O⟩|⟨m,b,h⟩)
    ·exact⟨0,a,rfl,rfl,J,O⟩
    ·exact⟨m+1,b,h⟩
  rw[key,rdyF]
  cases N:k.testBit i<;>cases I:sub a k<;>simp
theorem Qee {k:Nat}: ∀(ws:List Nat) (i:Nat),rdyF ws k i=((List.range ws.length).filter fun m=> !(k.testBit (i+m))&&((ws[m]?).map fun a=>sub a k).getD false).map (i+ ·)
 | [],i=>rfl
 |a::ws,i=>by
  rw[rdyF,Qee ws (i+1),Qh,List.range_succ_eq_map,Xl,List.filter_map,Xd,Wl,Jc,Yx]
  have e:(List.filter (fun m=> !(k.testBit (i+1+m))&&((ws[m]?).map fun a=>sub a k).getD false) (List.range ws.length)).map (i+1+ ·)=
    ((List.filter ((fun m=> !(k.testBit (i+m))&&(((a::ws)[m]?).map fun a=>sub a k).getD false)∘Nat.succ) (List.range ws.length)).map Nat.succ).map (i+ ·):=by
   rw[List.map_map]
   have I:((fun m=> !(k.testBit (i+m))&&(((a::ws)[m]?).map fun a=>sub a k).getD false)∘Nat.succ)=fun m=> !(k.testBit (i+1+m))&&((ws[m]?).map fun a=>sub a k).getD false:=by
    funext m
    simp only[Function.comp_apply,Nat.succ_eq_add_one,Wj]
    rw[show i+(m+1)=i+1+m by omega]
   rw[I]
   congr 1
   funext m
   simp only[Function.comp_apply,Nat.succ_eq_add_one];omega
  rw[e]
  cases (!(k.testBit i)&&sub a k)<;>simp
theorem Qhw {n k:Nat}(hk:k.testBit n=false)(o:Oper):(o.after.all fun e=> !Region.binds .any e||(mb n k).toArray.getD e.on false)=sub (Qib n o.after.toList) k:=by
 rw[Y7,Qhm hk,Array.all_eq_true_iff_forall_mem]
 constructor
 ·intro h e I J
  have:=h e (Array.mem_toList_iff.1 I)
  rw[J,Xh,X4]at this
  by_cases N:e.on<n
  ·rw[Qdt N]at this;exact⟨N,this⟩
  ·rw[mb_getD_ge (Jd N)]at this;cases this
 ·intro h e I
  cases J:Region.binds .any e with
  |false=>rfl
  |true=>
   obtain⟨O,W⟩:=h e (Array.mem_toList_iff.2 I) J
   rw[Xh,X4,Qdt O];exact W
theorem ready_eq {ops:List Oper}{n k:Nat}{ws:List Nat}(J:waits ops=ws)(N:ops.length=n)(hk:k.testBit n=false):Region.ready .any ops.toArray (mb n k).toArray=rdyF ws k 0:=by
 subst J;subst N
 rw[Qee]
 unfold Region.ready waits
 rw[Qw,Yf]
 have: ∀(p:Nat→Bool),(List.filter p (List.range ops.length)).map (0+ ·)=List.filter p (List.range ops.length):=fun p=>by
  rw[show(fun x:Nat=>0+x)=id from funext fun x=>Wh x,List.map_id]
 rw[this]
 refine List.filter_congr fun i I=>?_
 have I:=Xf.1 I
 rw[Qdt I,Wh,Ww,Qu,Qd I]
 simp only[Wl,Jc]
 rw[Qhw hk]
def cloF:List Nat→Nat→Nat→Bool
 | [],_,_=>true
 |a::ws,k,i=>(!(k.testBit i)||sub a k)&&cloF ws k (i+1)
theorem cloF_get {k:Nat}: ∀{ws:List Nat} {i:Nat},cloF ws k i=true→∀m a,ws[m]?=some a→(!(k.testBit (i+m))||sub a k)=true
 | [],_,_,m,a,h=>by simp at h
 |b::ws,i,h,m,a,I=>by
  rw[cloF,Ql]at h
  cases m with
  |zero=>simp at I;subst I;exact h.1
  |succ m=>
   have:=cloF_get h.2 m a (by simpa using I)
   rw[show i+1+m=i+(m+1) by omega]at this;exact this
theorem o_ci {ops:List Oper}{n k:Nat}{ws:List Nat}(N:waits ops=ws)(O:ops.length=n)(hk:k.testBit n=false)(h:cloF ws k 0=true):cloB ops.toArray (mb n k).toArray=true:=by
 subst N;subst O
 unfold cloB
 rw[Qy]
 intro i I;rw[Yf]at I
 have I:=Xf.1 I
 have J:=cloF_get h i (Qib ops.length ops[i].after.toList) (by unfold waits;rw[Qu,Qd I];rfl)
 rw[Wh]at J
 rw[Ww,Qd I]
 simp only[]
 rw[Qdt I,Qhw hk];exact J
def maskL:List Nat→Nat
 | []=>0
 |j::r=>(1<<<j)|||maskL r
theorem sub_maskL {k:Nat}: ∀l:List Nat,sub (maskL l) k=true↔∀j∈l,k.testBit j=true
 | []=>by rw[Qfm];simp[maskL]
 |j::r=>by
  have N:=sub_maskL (k:=k) r
  rw[Qfm]at N ⊢
  unfold maskL
  constructor
  ·intro h x J
   rcases Qk.1 J with rfl|J
   ·exact h x (by rw[Yj,Yn,Jg,Bool.true_or])
   ·exact N.1 (fun i I=>h i (by rw[Yj,I,Bool.or_true])) x J
  ·intro h i I
   rw[Yj,Y8]at I
   rcases I with I|I
   ·rw[Yn,Je]at I
    rw[←of_decide_eq_true I];exact h j (Qf ..)
   ·exact N.2 (fun x J=>h x (Qe _ J)) i I
def badB (ops:Array Oper)(i:Nat)(oi:Oper)(j:Nat):Bool:= !(j==i||match ops[j]? with
 |some oj=>oj.after.any (fun e=>Region.binds .any e&&e.on==i)||oi.apart ops oj
 |none=>true)
def bads (ops:List Oper):List Nat:=(List.range ops.length).map fun i=>match ops[i]? with
 |some oi=>maskL ((List.range ops.length).filter (badB ops.toArray i oi))
 |none=>0
theorem free_eq {ops:List Oper}{n k i b:Nat}{bs:List Nat}(W:bads ops=bs)(Y:ops.length=n)(J:bs[i]?=some b)(h:sub b k=true):Region.free .any ops.toArray (mb n k).toArray i=true:=by
 subst W;subst Y
 have I:=(Qc.1 J).1
 unfold bads at J I
 rw[Qw,Y1]at I
 rw[Qu,Yo I,Wl,Qd I]at J
 simp only[Qt]at J
 subst J
 have h2:=(sub_maskL _).1 h
 unfold Region.free
 rw[Ww,Qd I]
 simp only[]
 rw[Qy]
 intro j N
 rw[Yf]at N
 have N:=Xf.1 N
 rw[Qdt N]
 cases hk:k.testBit j with
 |true=>simp
 |false=>
  have O:badB ops.toArray i ops[i] j=false:=by
   cases h4:badB ops.toArray i ops[i] j with
   |false=>rfl
   |true=>
    have:=h2 j (Yh.2 ⟨Xf.2 N,h4⟩)
    rw[hk]at this;cases this
  unfold badB at O
  rw[Bool.not_eq_false']at O
  rw[Bool.or_false]
  exact O
theorem mb_set {n k i:Nat}(J:i<n):(mb n k).toArray.setIfInBounds i true=(mb n (k|||(1<<<i))).toArray:=by
 refine Array.ext_getElem? fun j=>?_
 rw[Array.getElem?_setIfInBounds,Ww,Ww]
 by_cases I:i=j
 ·subst I
  rw[if_pos rfl,if_pos (by rw[Yf,Qhh];exact J),Qif n _ i J,Yj,Yn,Jg,Bool.or_true]
 ·rw[if_neg I]
  by_cases N:j<n
  ·rw[Qif n _ j N,Qif n _ j N,Yj,Yn,Je,decide_eq_false I,Bool.or_false]
  ·rw[Q7 (by rw[Qhh];omega),Q7 (by rw[Qhh];omega)]
structure Tabs (lo:List Oper) (n:Nat) (ws bs:List Nat):Prop where
 len:lo.length=n
 w:waits lo=ws
 b:bads lo=bs
 ns:(Region.noSelect lo.toArray&&Qbc lo.toArray)=true
def dqsF (P:Program)(K:Kn)(cn:Nat)(ops:List Oper)(ws bs:List Nat):List (Nat×Hint)→Nat→QS→Option (Nat×QS)
 | [],k,s=>some (k,s)
 |(i,h)::r,k,s=>match ops[i]?,ws[i]?,bs[i]? with
  |some o,some a,some b=>if(sub b k&&(!(k.testBit i)&&sub a k))=true then match q1 P K cn ops.toArray s h o with
   |some s'=>dqsF P K cn ops ws bs r (k|||(1<<<i)) s'
   |none=>none else none
  |_,_,_=>none
theorem o_bT {P:Program}{K:Kn}{cn n:Nat}{ops:List Oper}{ws bs:List Nat}(T:Tabs ops n ws bs): ∀(is:List (Nat×Hint)) (k:Nat) (s:QS) {k':Nat} {s':QS},k.testBit n=false→dqsF P K cn ops ws bs is k s=some (k',s')→dqs P K cn ops.toArray is (mb n k).toArray s=some ((mb n k').toArray,s')∧k'.testBit n=false
 | [],k,s,k',s',hk,h=>by
  rw[dqsF]at h
  obtain⟨rfl,rfl⟩:=Prod.mk.inj (Qo h)
  exact⟨rfl,hk⟩
 |(i,W)::r,k,s,k',s',hk,h=>by
  rw[dqsF]at h
  split at h
  case h_2=>cases h
  rename_i o a b O Y hb
  split at h
  case isFalse=>cases h
  rename_i I
  rw[Ql,Ql]at I
  cases hq:q1 P K cn ops.toArray s W o with
  |none=>rw[hq]at h;cases h
  |some s1=>
   rw[hq]at h
   have J:i<n:=by rw[←T.len];exact(Qc.1 O).1
   have N:(k|||(1<<<i)).testBit n=false:=by rw[Yj,hk,Yn,Je,X4,decide_eq_false_iff_not];omega
   obtain⟨h1,h2⟩:=o_bT T r _ s1 N h
   refine⟨?_,h2⟩
   rw[dqs,Ww,O]
   simp only[]
   have hr:i∈rdyF ws k 0:=(mem_rdyF ws 0).2 ⟨i,a,(Wh i).symm,Y,by rw[←Xt];exact I.2.1,I.2.2⟩
   rw[if_pos (by rw[free_eq T.b T.len hb I.1,ready_eq T.w T.len hk,Xi,List.contains_iff_mem];exact hr),hq]
   simp only[]
   rw[mb_set J];exact h1
theorem mb_zero: ∀n,mb n 0=List.replicate n false
 |0=>rfl
 |n+1=>by rw[mb,List.replicate_succ,Nat.zero_div,mb_zero n];rfl
section
variable {r:Option Nat}{P:Program}{lo:List Oper}{Q:Exit→Act→World→Prop}{C:Cx}{l:List (Nat×Value)}{H Hq:List (Nat×Res)}{m n:Nat}{ws bs:List Nat}
theorem AX.drF {Y:Exit→Act→World→Prop}{K:List Kx}{id:Nat}(J:P.follows .mixedOrders=true)(m f:Nat)(ws bs:List Nat)(h:Tabs lo f ws bs→AH r P lo.toArray (kont r P Y K) [] m f (mb f 0) C l H)
  (I:lo.length=f:=by rfl) (N:waits lo=ws:=by kernel_rfl) (O:bads lo=bs:=by kernel_rfl) (W:(Region.noSelect lo.toArray&&Qbc lo.toArray)=true:=by kernel_rfl):AX r P Y K (.region id lo.toArray true) C l H:=
 AX.dr J m f (mb f 0) (h ⟨I,N,O,W⟩) I (by rw[Yf,I,mb_zero];simp)
theorem AH.qF (T:Tabs lo n ws bs)(hQ:Pq Q)(gs qs b es:List Nat)(k k' f:Nat)(is:List (Nat×Hint))(ks:List Nat)(cs:List Prop)(nl:List (Nat×Value)){g:Nat}(hc:conj cs)(h:AH r P lo.toArray Q (kpH H qs qs) m f (mb n k') C (cat nl l) H)
  (hg:g=f+is.length:=by rfl) (hb:is.all (fun p=>bon lo.toArray m p.1)=true:=by kernel_rfl) (hk:k.testBit n=false:=by rfl) (J:cloF ws k 0=true:=by kernel_rfl)
  (hq:((dqsF P ⟨knb (kpH H qs qs) b,kne (kpH H qs qs) es⟩ C.n lo ws bs is k (Z.q0 l)).bind fun x=>(qfin l ks x.2).map fun y=>(x.1,y))=some (k',cs,nl):=by kernel_rfl)
  (I:(dqsF P ⟨knb (kpH H qs qs) b,kne (kpH H qs qs) es⟩ C.n lo ws bs is k (Z.q0 l)).map (fun s=>s.2.q.map Prod.fst)=(dqsF P ⟨knb (kpH H qs qs) b,kne (kpH H qs qs) es⟩ C.n lo ws bs is k (Z.q0 l)).map (fun s=>s.2.q.map Prod.snd):=by kernel_rfl)
  (e:kpH (kpH H qs qs) gs gs=Hq:=by kernel_rfl):AH r P lo.toArray Q Hq m g (mb n k) C l H:=by
 cases N:dqsF P ⟨knb (kpH H qs qs) b,kne (kpH H qs qs) es⟩ C.n lo ws bs is k (Z.q0 l)with
 |none=>rw[N]at hq;cases hq
 |some x=>
  obtain⟨O,s'⟩:=x
  obtain⟨Y,h2⟩:=o_bT T is k _ hk N
  rw[N]at hq I
  have hq:((qfin l ks s').map fun y=>(O,y))=some (k',cs,nl):=hq
  have I:s'.q.map Prod.fst=s'.q.map Prod.snd:=by injection I
  cases W:qfin l ks s' with
  |none=>rw[W]at hq;cases hq
  |some y=>
   rw[W]at hq
   simp only[Wl,Qt,Jf]at hq
   obtain⟨rfl,rfl⟩:=hq
   refine AH.q hQ gs qs b es (mb n O) f is ks cs nl hc h hg hb (o_ci T.w T.len hk J) T.ns ?_ ?_ e
   ·rw[Y]
    show((qfin l ks s').map fun y=>((mb n O).toArray.toList,y))=_
    rw[W];rfl
   ·rw[Y]
    exact congrArg some I
theorem AH.oneF (T:Tabs lo n ws bs)(i:Nat){k f:Nat}{o:Oper}(h:AL r P lo.toArray (HZ r P lo.toArray Q (Hp C Hq) m f (mb n k).toArray i) [o] C l H)(I:lo.toArray[i]?=some o:=by rfl)(hk:k.testBit n=false:=by rfl)(J:rdyF ws k 0=[i]:=by kernel_rfl):AH r P lo.toArray Q Hq m (f+1) (mb n k) C l H:=
 AH.one i h I ((ready_eq T.w T.len hk).trans J)
theorem AH.twoF (T:Tabs lo n ws bs)(i j:Nat){k f:Nat}{oi oj:Oper}(I:AL r P lo.toArray (HZ r P lo.toArray Q (Hp C Hq) m f (mb n k).toArray i) [oi] C l H)(J:AL r P lo.toArray (HZ r P lo.toArray Q (Hp C Hq) m f (mb n k).toArray j) [oj] C l H)(N:lo.toArray[i]?=some oi:=by rfl)(O:lo.toArray[j]?=some oj:=by rfl)(hk:k.testBit n=false:=by rfl)(W:rdyF ws k 0=[i,j]:=by kernel_rfl):AH r P lo.toArray Q Hq m (f+1) (mb n k) C l H:=
 AH.two i j I J N O ((ready_eq T.w T.len hk).trans W)
theorem AH.nxF {i k f:Nat}(k':Nat)(gs:List Nat)(h:AH r P lo.toArray Q Hq m f (mb n k') C l H)(e:kpH H gs gs=Hq:=by kernel_rfl)(I:Nat.blt i n=true:=by rfl)(J:k|||(1<<<i)=k':=by rfl):AL r P lo.toArray (HZ r P lo.toArray Q (Hp C Hq) m f (mb n k).toArray i) [] C l H:=
 AH.nx (mb n k') gs h e (by rw[mb_set (by simpa using I),J])
theorem AH.nmF {i k f:Nat}(k':Nat)(h:AH r P lo.toArray Q Hq m f (mb n k') C l H)(I:Nat.blt i n=true:=by rfl)(J:k|||(1<<<i)=k':=by rfl)(N:gn lo.toArray (mb n k').toArray m=true:=by kernel_rfl):AL r P lo.toArray (HZ r P lo.toArray Q (Hp C Hq) m f (mb n k).toArray i) [] C l H:=
 AH.nm (mb n k') h (by rw[mb_set (by simpa using I),J]) N
theorem AH.doneF (T:Tabs lo n ws bs){k f:Nat}{Y:Exit→Act→World→Prop}{K:List Kx}(h:AE r P Y K .normal C l H)(hk:k.testBit n=false:=by rfl)(I:rdyF ws k 0=[]:=by kernel_rfl):AH r P lo.toArray (kont r P Y K) Hq m f (mb n k) C l H:=
 AH.done h ((ready_eq T.w T.len hk).trans I)
end
end Go.A
end
section
namespace Go.Proofs.YtlbnpmfggfbdoaaGreatDoor
open Go.RowKit
variable(A0_ A1_ A2_ A4_ A5_ A7_ A10_ A12_ A13_:Option Addr)(b0_ g0_ b1_ c1_ c2_ g2_ c3_ b4_ b5_ c5_ b6_ c6_ c8_ g8_ g9_ g10_ c11_ c13_ c14_ g15_:Nat)
def F.cn (f:Int→Int→Int→Int→Int→Int→Int→Int→Int→Option (D44×Int))(h:Int)(k:Int)(o:Int)(a:Int)(e:Int)(p:Int)(s:Int)(t:Int)(u:Int):Option (D44×Int):=A.gd (Z.R64 (a+1)) (A.gd (Z.R64 (e+1)) (f h k o (a+1) p s t u (e+1)))
theorem eqq_R02_Then_j1:True:=(fun _=>trivial) @F.cn.eq_1
def F.bY (e:D44):Nat→Int→Int→Int→Int→Int→Int→Int→Int→Int→Option (D44×Int)
 |0,_,_,_,_,_,_,_,_,_=>none
 |f+1,u,w,x,a,h,k,o,p,s=>if s<e.2.2.2.1 then((A.ix [e.2.2.2.2.1,e.2.2.2.2.2.1,e.2.2.2.2.2.2.1,e.2.2.2.2.2.2.2] s).bind fun t=>((A.ix [h,k,o,p] a).bind fun z=>(A.gd (Z.R64 (a+1)) (A.gd (Z.R64 (s+1)) ((F.bY e f) u w x (a+1) (if a=0 then t else h) (if a=1 then t else k) (if a=2 then t else o) (if a=3 then t else p) (s+1))))))else((F.ad (u,w,x,a,(h,k,o,p))).bind fun y=>(if y≠0 then(some ((0,0,0,0,(0,0,0,0)),12))else(some ((u,w,x,a,(h,k,o,p)),0))))
def F.bz (k:D44)(h:D44):Nat→Int→Int→Int→Int→Int→Int→Int→Int→Int→Option (D44×Int)
 |0,_,_,_,_,_,_,_,_,_=>none
 |f+1,x,y,z,a,o,p,s,t,u=>if u<h.2.1 then(A.gd (Z.R64 (u-k.2.1)) ((A.ix [k.2.2.2.2.1,k.2.2.2.2.2.1,k.2.2.2.2.2.2.1,k.2.2.2.2.2.2.2] (u-k.2.1)).bind fun e=>((A.ix [o,p,s,t] a).bind fun B=>(A.gd (Z.R64 (h.2.1-1)) (if u=h.2.1-1 then((A.ix [(if a=0 then e else o),(if a=1 then e else p),(if a=2 then e else s),(if a=3 then e else t)] a).bind fun w=>(A.gd (Z.R64 (w+h.2.2.1)) ((A.ix [(if a=0 then e else o),(if a=1 then e else p),(if a=2 then e else s),(if a=3 then e else t)] a).bind fun E=>(F.cn (F.bz k h f) x y z a u (if a=0 then w+h.2.2.1 else(if a=0 then e else o)) (if a=1 then w+h.2.2.1 else(if a=1 then e else p)) (if a=2 then w+h.2.2.1 else(if a=2 then e else s)) (if a=3 then w+h.2.2.1 else(if a=3 then e else t))))))else(F.cn (F.bz k h f) x y z a u (if a=0 then e else o) (if a=1 then e else p) (if a=2 then e else s) (if a=3 then e else t)))))))else(F.bY h A.FU x y z a o p s t 0)
def F.co (a:D44)(e:D44)(f:Int):Option (D44×Int):=F.bz a e A.FU a.1 (min a.2.1 e.2.1) f 0 0 0 0 0 a.2.1
def F.cp (e:D44)(a:D44)(f:Int):Option (D44×Int):=if a.2.1≤e.2.1 then(A.gd (Z.R64 (f+a.2.2.1)) (F.co e a (f+a.2.2.1)))else(F.co e a f)
def F.cq (a:D44)(e:D44)(f:Bool):Option (D44×Int):=if f=true then(some ((0,0,0,0,(0,0,0,0)),20))else(A.gd (Z.R64 (a.2.1+a.2.2.2.1)) (if a.2.1+a.2.2.2.1≠e.1 then(some ((0,0,0,0,(0,0,0,0)),11))else(if a.2.1≤e.2.1 then(F.cp a e a.2.2.1)else(F.cp a e 0))))
theorem eqq_R02_Then_j6:True:=(fun _=>trivial) @F.cq.eq_1
def F.cQ (a:D44)(e:D44):Option (D44×Int):=(F.ad a).bind fun f=>(if f≠0 then(F.cq a e true)else((F.ad e).bind fun h=>(F.cq a e (decide (h≠0)))))
theorem eqq_R02_Then:True:=(fun _=>trivial) @F.cQ.eq_1
def F.eu (a:Int)(e:Int)(f:Int)(h:Int):Option (D44×Int):=(F.ad (a,e,f,h,(0,0,0,0))).bind fun k=>(if k≠0 then(some ((0,0,0,0,(0,0,0,0)),11))else(some ((a,e,f,h,(0,0,0,0)),0)))
theorem o_aq (e:Int)(f:Int)(h:Int)(k:Int)(p:A.h6 e)(s:A.h6 f)(t:A.h6 h)(u:A.h6 k)(r:D44×Int)(o:F.eu e f h k=some r):
    A.Ct Tryz.prog 51 [A.i e,A.i f,A.i h,A.i k] [] [] (fun v H'=>v=.tuple #[(A.rai r.1),A.i r.2]∧H'=[]∧A.h6 r.1.1∧A.h6 r.1.2.1∧A.h6 r.1.2.2.1∧A.h6 r.1.2.2.2.1∧A.h6 r.1.2.2.2.2.1∧A.h6 r.1.2.2.2.2.2.1∧A.h6 r.1.2.2.2.2.2.2.1∧A.h6 r.1.2.2.2.2.2.2.2∧A.h6 r.2):=by
 refine J1 Tryz.func51 rfl Tryz.ntmps51 rfl fun y z=>?_;rw[F.eu]at o;refine Jw 1 ?_;refine J5 0 (cs:=l4b) Tryz.zeroValue45 fun B=>?_;refine J3 1 [] (Vb 2 ?_);refine J3 5 [(15,.agg #[A.i e,A.i f,A.i h,A.i k,A.i 0,A.i 0,A.i 0,A.i 0])] ?_;refine J5 1 (cs:=l4b) Tryz.zeroValue45 fun E=>?_;refine Vp 1 [] [A.i e,A.i f,A.i h,A.i k,A.i 0,A.i 0,A.i 0,A.i 0] ?_;refine Vb 3 ?_;refine J2 [1] [] [.b 0 0] [(16,.agg #[A.i e,A.i f,A.i h,A.i k,A.i 0,A.i 0,A.i 0,A.i 0])] ?_;refine Vv 2 [] o (o_aQ (e,f,h,k,(0,0,0,0)) p s t u J0 J0 J0 J0) .nil ?_;rintro x - o _ _ ⟨rfl,rfl,hr5⟩;refine Vf ?_;refine J3 1 [(18,.bool (decide (x≠0)))] (Jy 1 ?_);refine Vu o ?_ ?_<;>intro I o
 ·refine Jw 1 ?_;refine J3 1 [(19,.agg #[A.i 0,A.i 0,A.i 0,A.i 0,A.i 0,A.i 0,A.i 0,A.i 0])] ?_;refine Vp 0 [] A.zz8 ?_;refine J3 1 [(9,A.i 11)] (Jy 1 ?_);obtain rfl:=J8 o;exact Vr [] (.tuple #[.agg #[A.i 0,A.i 0,A.i 0,A.i 0,A.i 0,A.i 0,A.i 0,A.i 0],A.i 11]) (fun a w hf hh=>V3 rfl (V5 hf rfl Tryz.isAgg45 Tryz.sizeOf45 (Vq hh 0) rfl) (Vz hf rfl)) (⟨rfl,rfl,J0,J0,J0,J0,J0,J0,J0,J0,(Vd .i64 (11) rfl)⟩)
 refine Jw 3 ?_;refine J2 [1] [] [.b 0 0] [(20,.agg #[A.i e,A.i f,A.i h,A.i k,A.i 0,A.i 0,A.i 0,A.i 0])] ?_;refine Vp 0 [] [A.i e,A.i f,A.i h,A.i k,A.i 0,A.i 0,A.i 0,A.i 0] ?_;refine J3 1 [(9,A.i 0)] (Jy 1 ?_);obtain rfl:=J8 o;exact Vr [] (.tuple #[.agg #[A.i e,A.i f,A.i h,A.i k,A.i 0,A.i 0,A.i 0,A.i 0],A.i 0]) (fun a w hf hh=>V3 rfl (V5 hf rfl Tryz.isAgg45 Tryz.sizeOf45 (Vq hh 0) rfl) (Vz hf rfl)) (⟨rfl,rfl,p,s,t,u,J0,J0,J0,J0,J0⟩)
def F.eI (a:Int):Option (D44×Int):=(F.eu a a 0 0).bind fun e=>(some e)
theorem o_bc (e:Int)(k:A.h6 e)(r:D44×Int)(h:F.eI e=some r):
    A.Ct Tryz.prog 15 [A.i e] [] [] (fun v H'=>v=.tuple #[(A.rai r.1),A.i r.2]∧H'=[]∧A.h6 r.1.1∧A.h6 r.1.2.1∧A.h6 r.1.2.2.1∧A.h6 r.1.2.2.2.1∧A.h6 r.1.2.2.2.2.1∧A.h6 r.1.2.2.2.2.2.1∧A.h6 r.1.2.2.2.2.2.2.1∧A.h6 r.1.2.2.2.2.2.2.2∧A.h6 r.2):=by
 refine J1 Tryz.func15 rfl Tryz.ntmps15 rfl fun o p=>?_;rw[F.eI]at h;refine Jw 1 ?_;refine J5 0 (cs:=l4b) Tryz.zeroValue45 fun s=>?_;refine J3 1 [] (Vb 2 ?_);refine J3 2 [(4,A.i e),(5,A.i e)] ?_;refine Vv 1 [] h (o_aq e e 0 0 k k J0 J0) .nil ?_;rintro f - h _ _ ⟨rfl,rfl,hr4,hr5,hr6,hr7,hr8,hr9,hr10,hr11,hr12⟩;refine Vf ?_;refine J3 2 [(7,(A.rai f.1)),(8,A.i f.2)] ?_;refine Vp 0 [] (A.rac f.1) ?_;refine J3 1 [(3,A.i f.2)] (Jy 1 ?_);obtain rfl:=J8 h;exact Vr [] (.tuple #[(A.rai f.1),A.i f.2]) (fun a w hf hh=>V3 rfl (V5 hf rfl Tryz.isAgg45 Tryz.sizeOf45 (Vq hh 0) rfl) (Vz hf rfl)) (⟨rfl,rfl,hr4,hr5,hr6,hr7,hr8,hr9,hr10,hr11,hr12⟩)
def F.cR (e:D23)(h:Int):Nat→Int→Option Int
 |0,_=>none
 |f+1,a=>if a<(e.length:Int)then((A.ix e a).bind fun k=>(if k.1=h then(some a)else(A.gd (Z.R64 (a+1)) ((F.cR e h f) (a+1)))))else(some (-1))
def F.c0 (a:D23)(e:Int):Option Int:=F.cR a e A.FU 0
theorem o_w(k:D23)(o:Int)(B:A.h6 o)(r:Int)(a:F.c0 k o=some r):
    A.Ct Tryz.prog 87 [.agg #[.slice A0_ k.length c1_],A.i o] [(0,.sh (.slice T83) [.slice A0_ k.length c1_] k)] [] (fun v H'=>v=A.i r∧H'=[]∧A.h6 r):=by
 refine J1 Tryz.func87 rfl Tryz.ntmps87 rfl fun E I=>?_;rw[F.c0]at a;refine Jw 1 ?_;refine Va 1 (cs:=[.slice A0_ k.length c1_]) fun J=>?_;refine J3 1 [] (Vb 3 ?_);refine J3 1 [(5,A.i 0)] (Jy 2 ?_);refine Vo [1,2] [0,1] (fun f t u=>∃(h:Int),t=[(5,A.i h)]∧u=[]∧A.h6 h∧F.cR k o f h=some r) ⟨0,rfl,rfl,J0,a⟩ ?_;rintro p _ _ ⟨h,rfl,rfl,w,a⟩;rcases p with _|p
 ·exact Vm a
 rw[F.cR]at a;refine Jw 2 ?_;refine J2 [1] [] [.n,.n,.b 0 0,.n,.n] [(10,.bool (decide (h<(k.length:Int))))] (Jy 1 ?_);refine Vu a ?_ ?_<;>intro x a
 ·refine Jw 5 ?_;refine J2 [1] [] [.n,.b 0 0,.n] [(14,.slice A0_ k.length c1_),(15,A.i h)] ?_;have⟨y,z,a⟩:=Vy a;refine V0 0 6 z fun L=>?_;intro N O U V;refine J2 [] [6] [.n,.e 0 0,.n,.n] [(20,.bool (decide (y.1=o)))] (Jy 1 ?_);refine Vu a ?_ ?_<;>intro x a
  ·refine Jw 1 ?_;refine J3 2 [(4,A.i h)] (Jy 1 ?_);obtain rfl:=J8 a;exact J9 [] ⟨rfl,rfl,w⟩
  refine Jw 3 ?_;have⟨s,a⟩:=Vt a;refine Uc 3 [Z.R64 (h+1)] [(5,A.i (h+1))] s (Jz ?_);exact Vk ⟨_,Qi _,⟨(h+1),rfl,rfl,(J4 s),a⟩⟩
 refine Jw 3 ?_;refine J3 1 [(4,A.i (-1))] (Jy 1 ?_);obtain rfl:=J8 a;exact J9 [] ⟨rfl,rfl,(Vd .i64 (-1) rfl)⟩
def F.dL (e:(List D41)→Int→Option (List D41))(a:Int)(f:List D41):Option (List D41):=A.gd (Z.R64 (a+1)) (e f (a+1))
def F.ct (o:(List D41)→Int→Option (List D41))(s:D23)(p:(List Int))(k:Int)(a:D83):Nat→(List D41)→Int→Option (List D41)
 |0,_,_=>none
 |f+1,h,e=>if e<(a.2.2.1.length:Int)then((A.ix a.2.2.1 e).bind fun w=>((F.c0 s w).bind fun x=>((A.ix p x).bind fun t=>(A.gd ((List.length (α:=D41) h+List.length (α:=D41) [((a.1,e),t)])*24≤140737488355328) (A.gd (Z.R64 (e+1)) ((F.ct o s p k a f) (h++[((a.1,e),t)]) (e+1)))))))else(if a.2.1≠15 then((A.ix p k).bind fun u=>(A.gd ((List.length (α:=D41) h+List.length (α:=D41) [((a.1,2),u)])*24≤140737488355328) (F.dL o k (h++[((a.1,2),u)]))))else(F.dL o k h))
def F.b3 (a:D23)(h:(List Int)):Nat→(List D41)→Int→Option (List D41)
 |0,_,_=>none
 |f+1,k,e=>if(bif decide (e<(a.length:Int))then decide (e<(h.length:Int))else false)=true then((A.ix a e).bind fun o=>(F.ct (F.b3 a h f) a h e o A.FU k 0))else(some k)
def F.ei (a:D23)(e:(List Int)):Option (List D41):=F.b3 a e A.FU [] 0
theorem o_aR(u:D23)(z:(List Int))(r:(List D41))(h:F.ei u z=some r):
    A.Ct Tryz.prog 49 [.agg #[.slice A0_ u.length c1_],.slice A2_ z.length c3_] [(0,.sh (.slice T83) [.slice A0_ u.length c1_] u),(1,.ln A.ti A2_ c3_ z)] [] (fun v H'=>∃(A0':Option Addr) (c1':Nat),v=.slice A0' r.length c1'∧H'=[(0,.own T41 42 A0' c1' r)]):=by
 refine J1 Tryz.func49 rfl Tryz.ntmps49 rfl fun w0 F0=>?_;rw[F.ei]at h;refine Jw 1 ?_;refine Va 2 (cs:=[.slice A0_ u.length c1_]) fun g1=>?_;refine J3 1 [] (Vb 2 ?_);refine J3 1 [(5,.slice none 0 0)] (Vb 3 ?_);refine J3 1 [(6,A.i 0)] (Jy 2 ?_);refine Uf 329 T41 42 ?_;refine Vo [1,2] [0,1,2] (fun f L N=>∃(B:List D41),∃(x:Int),∃(E:Option Addr),∃(I:Nat),L=[(5,.slice E B.length I),(6,A.i x)]∧N=[(329,.own T41 42 E I B)]∧A.h6 x∧F.b3 u z f B x=some r) ⟨[],0,none,0,rfl,rfl,J0,h⟩ ?_;rintro W _ _ ⟨B,x,E,I,rfl,rfl,ao,h⟩;rcases W with _|W
 ·exact Vm h
 rw[F.b3]at h;refine Jw 2 ?_;refine J2 [2] [] [.n,.n,.b 0 0,.n,.n,.n,.sy .n,.sy .n,.sy .n,.sy .n,.pk] [(19,.bool (bif decide (x<(u.length:Int))then decide (x<(z.length:Int))else false))] (Jy 1 ?_);refine Ue h ?_ ?_<;>intro hb h
 ·refine V6 2 ?_;refine J7 [1,2,6] [0,1,2] (fun L N=>∃(O:List D41),∃(X:Option Addr),∃(Y:Nat),L=[(5,.slice X O.length Y)]∧N=[(329,.own T41 42 X Y O)]∧F.dL (F.b3 u z W) x O=some r) ?_ ?_
  ·refine Jw 2 ?_;refine J2 [2] [] [.n,.b 0 0,.n] [(23,.slice A0_ u.length c1_),(24,A.i x)] ?_;have⟨o,ag,h⟩:=Vy h;refine V0 0 606 ag fun a4=>?_;intro a2 a3 aq ar;refine J2 [] [606] [.e 0 0] [(26,.agg #[A.i o.1,A.i o.2.1,.slice a2 o.2.2.1.length a3,A.i o.2.2.2.1.1,A.i o.2.2.2.1.2.1,.string o.2.2.2.1.2.2,.string o.2.2.2.2.1,A.i o.2.2.2.2.2.1,A.i o.2.2.2.2.2.2])] ?_;refine J5 608 (cs:=l4a) Tryz.zeroValue84 fun au=>?_;refine Vp 608 [] [A.i o.1,A.i o.2.1,.slice a2 o.2.2.1.length a3,A.i o.2.2.2.1.1,A.i o.2.2.2.1.2.1,.string o.2.2.2.1.2.2,.string o.2.2.2.2.1,A.i o.2.2.2.2.2.1,A.i o.2.2.2.2.2.2] ?_;refine Vb 3 ?_;refine J3 1 [(8,A.i 0)] (Jy 2 ?_);refine Vo [1,2,6,7] l4n (fun f L N=>∃(y:List D41),∃(p:Int),∃(J:Option Addr),∃(c21:Nat),L=[(5,.slice J y.length c21),(8,A.i p)]∧N=[(329,.own T41 42 J c21 y)]∧A.h6 p∧F.ct (F.b3 u z W) u z x o f y p=some r) ⟨B,0,E,I,rfl,rfl,J0,h⟩ ?_;rintro a5 _ _ ⟨y,p,J,c21,rfl,rfl,ah,h⟩;rcases a5 with _|a5
   ·exact Vm h
   rw[F.ct]at h;refine Jw 2 ?_;refine J2 [608] [] [.n,.n,.b 0 2,.n,.n] [(31,.bool (decide (p<(o.2.2.1.length:Int))))] (Jy 1 ?_);refine Vu h ?_ ?_<;>intro hb h
   ·refine V6 4 ?_;refine Vl mixed 19 19 (A.mb 19 0) ?_;refine Vj J6 [] l4n [2,608] [] (A.mb 19 1023) 9 [(0,.n),(1,.n),(3,.n),(5,.n),(6,.b 0 0),(7,.n),(9,.n),(2,.b 1 0),(8,.b 1 2),(4,.n)] [(34,.slice J y.length c21),(39,.slice A2_ z.length c3_),(40,.agg #[.slice A0_ u.length c1_]),(43,A.i p),(42,.slice a2 o.2.2.1.length a3),(38,.agg #[A.i o.1,A.i p])] ?_;have⟨a6,a7,h⟩:=Vy h;refine Ug 607 699 a7 fun ai=>?_;intro av aw aj;refine Vh J6 l4n l4k 10 (A.mb 19 2047) rfl (fun a w hf hh=>Vn (t:=A.ti) a7 aj hf) ?_;refine Vj J6 l4k l4k [] [699] (A.mb 19 4095) 7 [(11,.e 0 0)] [(45,A.i a6)] ?_;refine Vc 12 ?_;refine Vv 700 [] h (o_w A0_ c1_ u a6 ai) (.s 0 .nil) ?_;rintro ax - h _ _ ⟨rfl,rfl,hr34⟩;refine Vf ?_;refine Vg (A.mb 19 8191) l4k ?_;have⟨U,a8,h⟩:=Vy h;refine Vw 1 740 a8 fun ak=>?_;intro ay az al;refine Vh J6 l4k l4h 13 (A.mb 19 16383) rfl (fun a w hf hh=>Vn (t:=A.ti) a8 al hf) ?_;refine Vj J6 l4h l4h [] [740] (A.mb 19 65535) 3 [(14,.e 0 0),(15,.n)] [(49,.agg #[A.i o.1,A.i p,A.i U])] ?_;refine Vc 16 ?_;refine Vx 741 (ty:=T41) (cs:=[A.i o.1,A.i p,A.i U]) [((o.1,p),U)] ⟨⟨⟨⟨rfl,a4.1⟩,⟨rfl,ah⟩⟩,⟨rfl,ak⟩⟩,rfl⟩ (fun b0=>?_) Tryz.zeroValue42 Tryz.sizeOf42
    refine Vg (A.mb 19 131071) l4h ?_;refine Vc 17 ?_;have⟨hl44,h⟩:=Vt h;refine V4 (k:=329) [] (Um (k:=741) rfl) inf42 hl44 fun a9 aa=>?_;refine Vg (A.mb 19 262143) l4h ?_;refine Vj J6 l4h [0,1,2,329,607,608,699,740,741] [] [] (A.mb 19 524287) 0 [(18,.n)] [(5,.slice a9 ((y++[((o.1,p),U)]).length) aa)] (Ve ?_);refine A.el 2 ?_;have⟨ab,h⟩:=Vt h;refine Uc 3 [Z.R64 (p+1)] [(8,A.i (p+1))] ab (Jz ?_);exact Vk ⟨_,Qi _,⟨(y++[((o.1,p),U)]),(p+1),a9,aa,rfl,rfl,(J4 ab),h⟩⟩
   refine Jw 3 ?_;refine J2 [608] [] [.n,.b 0 1,.n] [(54,.bool (decide (o.2.1≠15)))] (Jy 1 ?_);refine Vu h ?_ ?_<;>intro hb h
   ·refine Vl mixed 12 12 (A.mb 12 0) ?_;refine Vj J6 [] l4n [608] [] (A.mb 12 63) 6 [(0,.n),(1,.n),(4,.n),(5,.n),(2,.b 0 0),(3,.n)] [(55,.slice J y.length c21),(59,.slice A2_ z.length c3_),(60,A.i x),(58,.agg #[A.i o.1,A.i 2])] ?_;have⟨V,ac,h⟩:=Vy h;refine Vw 1 742 ac fun am=>?_;intro b1 b2 an;refine Vh J6 l4n l4i 6 (A.mb 12 127) rfl (fun a w hf hh=>Vn (t:=A.ti) ac an hf) ?_;refine Vj J6 l4i l4i [] [742] (A.mb 12 511) 3 [(7,.e 0 0),(8,.n)] [(63,.agg #[A.i o.1,A.i 2,A.i V])] ?_;refine Vc 9 ?_;refine Vx 743 (ty:=T41) (cs:=[A.i o.1,A.i 2,A.i V]) [((o.1,2),V)] ⟨⟨⟨⟨rfl,a4.1⟩,⟨rfl,(Vd .i64 (2) rfl)⟩⟩,⟨rfl,am⟩⟩,rfl⟩ (fun b4=>?_) Tryz.zeroValue42 Tryz.sizeOf42
    refine Vg (A.mb 12 1023) l4i ?_;refine Vc 10 ?_;have⟨hl55,h⟩:=Vt h;refine V4 (k:=329) [] (Um (k:=743) rfl) inf42 hl55 fun ad ae=>?_;refine Vg (A.mb 12 2047) l4i ?_;refine Vj J6 l4i [0,1,2,329,607,608,742,743] [] [] (A.mb 12 4095) 0 [(11,.n)] [(5,.slice ad ((y++[((o.1,2),V)]).length) ae)] (Ve ?_);refine A.ee 1 ?_;exact Vk ⟨(y++[((o.1,2),V)]),ad,ae,rfl,rfl,h⟩
   refine V1 2 ?_;exact Vk ⟨y,J,c21,rfl,rfl,h⟩
  rintro _ _ ⟨O,X,Y,rfl,rfl,h⟩;rw[F.dL]at h;refine Jw 0 ?_;have⟨af,h⟩:=Vt h;refine Uc 3 [Z.R64 (x+1)] [(6,A.i (x+1))] af (Jz ?_);exact Vk ⟨_,Qi _,⟨O,(x+1),X,Y,rfl,rfl,(J4 af),h⟩⟩
 refine Jw 3 ?_;refine J3 2 [(4,.slice E B.length I)] (Jy 1 ?_);obtain rfl:=J8 h;exact J9 [(0,329)] ⟨E,I,rfl,rfl⟩
def F.ev (e:D23)(h:Int):Option (D83×Bool):=(F.c0 e h).bind fun f=>(if f<0 then(some ((0,0,[],(0,0,ByteArray.mk #[]),ByteArray.mk #[],0,0),false))else((A.ix e f).bind fun a=>(A.gd ((List.length (α:=Int) []+List.length (α:=Int) a.2.2.1)*8≤140737488355328) (some ((a.1,a.2.1,[]++a.2.2.1,a.2.2.2.1,a.2.2.2.2.1,a.2.2.2.2.2.1,a.2.2.2.2.2.2),true)))))
theorem o_aX(o:D23)(x:Int)(B:A.h6 x)(r:D83×Bool)(h:F.ev o x=some r):
    A.Ct Tryz.prog 88 [.agg #[.slice A0_ o.length c1_],A.i x] [(0,.sh (.slice T83) [.slice A0_ o.length c1_] o)] [] (fun v H'=>∃(A0':Option Addr) (c1':Nat),v=.tuple #[.agg #[A.i r.1.1,A.i r.1.2.1,.slice A0' r.1.2.2.1.length c1',A.i r.1.2.2.2.1.1,A.i r.1.2.2.2.1.2.1,.string r.1.2.2.2.1.2.2,.string r.1.2.2.2.2.1,A.i r.1.2.2.2.2.2.1,A.i r.1.2.2.2.2.2.2],.bool r.2]∧H'=[(0,.sh A.TI [.slice A0' r.1.2.2.1.length c1'] r.1.2.2.1)]∧A.h6 r.1.1∧A.h6 r.1.2.1∧A.h6 r.1.2.2.2.1.1∧A.h6 r.1.2.2.2.1.2.1∧r.1.2.2.2.1.2.2.size≤maxLen∧r.1.2.2.2.2.1.size≤maxLen∧A.h6 r.1.2.2.2.2.2.1∧A.h6 r.1.2.2.2.2.2.2):=by
 refine J1 Tryz.func88 rfl Tryz.ntmps88 rfl fun J L=>?_;rw[F.ev]at h;refine Jw 1 ?_;refine Va 1 (cs:=[.slice A0_ o.length c1_]) fun N=>?_;refine J5 2 (cs:=l4a) Tryz.zeroValue84 fun O=>?_;refine J3 1 [] (Vb 2 ?_);refine J2 [1] [] [.b 0 0,.n] [(8,.agg #[.slice A0_ o.length c1_]),(9,A.i x)] ?_;refine Vv 3 [] h (o_w A0_ c1_ o x B) (.s 0 .nil) ?_;rintro y - h _ _ ⟨rfl,rfl,hr5⟩;refine Vf ?_;refine J3 1 [(6,A.i y)] (Vb 3 ?_);refine J3 2 [(12,.bool (decide (y<0)))] (Jy 1 ?_);refine Vu h ?_ ?_<;>intro U h
 ·refine Jw 1 ?_;refine J3 1 [(13,.agg #[A.i 0,A.i 0,.slice none 0 0,A.i 0,A.i 0,.string (ByteArray.mk #[]),.string (ByteArray.mk #[]),A.i 0,A.i 0])] ?_;refine Vp 2 [] [A.i 0,A.i 0,.slice none 0 0,A.i 0,A.i 0,.string (ByteArray.mk #[]),.string (ByteArray.mk #[]),A.i 0,A.i 0] ?_;refine J3 1 [(5,.bool false)] (Jy 1 ?_);obtain rfl:=J8 h;refine A.snil 43 A.ti ?_;exact Vr [(0,43)] (.tuple #[.agg #[A.i 0,A.i 0,.slice none 0 0,A.i 0,A.i 0,.string (ByteArray.mk #[]),.string (ByteArray.mk #[]),A.i 0,A.i 0],.bool false]) (fun a w hf hh=>V3 rfl (V5 hf rfl Tryz.isAgg84 Tryz.sizeOf84 (Vq hh 2) rfl) (Vz hf rfl)) (⟨none,0,rfl,rfl,J0,J0,J0,J0,(A.szl (ByteArray.mk #[]) rfl),(A.szl (ByteArray.mk #[]) rfl),J0,J0⟩)
 refine Jw 3 ?_;refine J2 [1] [] [.n,.b 0 0,.n] [(15,.slice A0_ o.length c1_),(16,A.i y)] ?_;have⟨f,E,h⟩:=Vy h;refine V0 0 44 E fun p=>?_;intro z c10 V W;refine J2 [] [44] [.e 0 0] [(18,.agg #[A.i f.1,A.i f.2.1,.slice z f.2.2.1.length c10,A.i f.2.2.2.1.1,A.i f.2.2.2.1.2.1,.string f.2.2.2.1.2.2,.string f.2.2.2.2.1,A.i f.2.2.2.2.2.1,A.i f.2.2.2.2.2.2])] ?_;refine J5 46 (cs:=l4a) Tryz.zeroValue84 fun I=>?_;refine Vp 46 [] [A.i f.1,A.i f.2.1,.slice z f.2.2.1.length c10,A.i f.2.2.2.1.1,A.i f.2.2.2.1.2.1,.string f.2.2.2.1.2.2,.string f.2.2.2.2.1,A.i f.2.2.2.2.2.1,A.i f.2.2.2.2.2.2] ?_;refine Vb 2 ?_;refine J2 [46] [] [.n,.b 0 2] [(20,.slice z f.2.2.1.length c10)] ?_;refine Uf 47 A.ti 3 ?_;have⟨hl16,h⟩:=Vt h;refine V4 (k:=47) [] (A.rowS (k:=45) rfl) inf3 hl16 fun t u=>?_;refine J3 1 [(22,.pointer (some ⟨I,2,none⟩))] ?_;refine Uz 46 [] (new:=[.slice t (([]++f.2.2.1).length) u]) (cs':=[A.i f.1,A.i f.2.1,.slice t (([]++f.2.2.1).length) u,A.i f.2.2.2.1.1,A.i f.2.2.2.1.2.1,.string f.2.2.2.1.2.2,.string f.2.2.2.2.1,A.i f.2.2.2.2.2.1,A.i f.2.2.2.2.2.2]) ?_;refine Vb 2 ?_;refine J2 [46] [] [.b 0 0] [(23,.agg #[A.i f.1,A.i f.2.1,.slice t (([]++f.2.2.1).length) u,A.i f.2.2.2.1.1,A.i f.2.2.2.1.2.1,.string f.2.2.2.1.2.2,.string f.2.2.2.2.1,A.i f.2.2.2.2.2.1,A.i f.2.2.2.2.2.2])] ?_;refine Vp 2 [] [A.i f.1,A.i f.2.1,.slice t (([]++f.2.2.1).length) u,A.i f.2.2.2.1.1,A.i f.2.2.2.1.2.1,.string f.2.2.2.1.2.2,.string f.2.2.2.2.1,A.i f.2.2.2.2.2.1,A.i f.2.2.2.2.2.2] ?_;refine J3 1 [(5,.bool true)] (Jy 1 ?_);obtain rfl:=J8 h;refine A.frz 47 [] ?_;exact Vr [(0,47)] (.tuple #[.agg #[A.i f.1,A.i f.2.1,.slice t (([]++f.2.2.1).length) u,A.i f.2.2.2.1.1,A.i f.2.2.2.1.2.1,.string f.2.2.2.1.2.2,.string f.2.2.2.2.1,A.i f.2.2.2.2.2.1,A.i f.2.2.2.2.2.2],.bool true]) (fun a w hf hh=>V3 rfl (V5 hf rfl Tryz.isAgg84 Tryz.sizeOf84 (Vq hh 2) rfl) (Vz hf rfl)) (⟨t,u,rfl,rfl,p.1,p.2.1,p.2.2.2.1.1,p.2.2.2.1.2.1,p.2.2.2.1.2.2,p.2.2.2.2.1,p.2.2.2.2.2.1,p.2.2.2.2.2.2⟩)
def F.eB (a:Int):Option (D44×Int):=(F.eu a a 0 1).bind fun e=>(some e)
theorem o_bx (e:Int)(k:A.h6 e)(r:D44×Int)(h:F.eB e=some r):
    A.Ct Tryz.prog 129 [A.i e] [] [] (fun v H'=>v=.tuple #[(A.rai r.1),A.i r.2]∧H'=[]∧A.h6 r.1.1∧A.h6 r.1.2.1∧A.h6 r.1.2.2.1∧A.h6 r.1.2.2.2.1∧A.h6 r.1.2.2.2.2.1∧A.h6 r.1.2.2.2.2.2.1∧A.h6 r.1.2.2.2.2.2.2.1∧A.h6 r.1.2.2.2.2.2.2.2∧A.h6 r.2):=by
 refine J1 Tryz.func129 rfl Tryz.ntmps129 rfl fun o p=>?_;rw[F.eB]at h;refine Jw 1 ?_;refine J5 0 (cs:=l4b) Tryz.zeroValue45 fun s=>?_;refine J3 1 [] (Vb 2 ?_);refine J3 2 [(4,A.i e),(5,A.i e)] ?_;refine Vv 1 [] h (o_aq e e 0 1 k k J0 (Vd .i64 (1) rfl)) .nil ?_;rintro f - h _ _ ⟨rfl,rfl,hr4,hr5,hr6,hr7,hr8,hr9,hr10,hr11,hr12⟩;refine Vf ?_;refine J3 2 [(7,(A.rai f.1)),(8,A.i f.2)] ?_;refine Vp 0 [] (A.rac f.1) ?_;refine J3 1 [(3,A.i f.2)] (Jy 1 ?_);obtain rfl:=J8 h;exact Vr [] (.tuple #[(A.rai f.1),A.i f.2]) (fun a w hf hh=>V3 rfl (V5 hf rfl Tryz.isAgg45 Tryz.sizeOf45 (Vq hh 0) rfl) (Vz hf rfl)) (⟨rfl,rfl,hr4,hr5,hr6,hr7,hr8,hr9,hr10,hr11,hr12⟩)
def F.eC (a:Int):Option (D44×Int):=if a<1 then(some ((0,0,0,0,(0,0,0,0)),11))else(A.gd (Z.R64 (a-1)) ((F.eu a (a-1) 0 0).bind fun e=>(some e)))
theorem o_bz (e:Int)(o:A.h6 e)(r:D44×Int)(f:F.eC e=some r):
    A.Ct Tryz.prog 130 [A.i e] [] [] (fun v H'=>v=.tuple #[(A.rai r.1),A.i r.2]∧H'=[]∧A.h6 r.1.1∧A.h6 r.1.2.1∧A.h6 r.1.2.2.1∧A.h6 r.1.2.2.2.1∧A.h6 r.1.2.2.2.2.1∧A.h6 r.1.2.2.2.2.2.1∧A.h6 r.1.2.2.2.2.2.2.1∧A.h6 r.1.2.2.2.2.2.2.2∧A.h6 r.2):=by
 refine J1 Tryz.func130 rfl Tryz.ntmps130 rfl fun p s=>?_;rw[F.eC]at f;refine Jw 1 ?_;refine J5 0 (cs:=l4b) Tryz.zeroValue45 fun t=>?_;refine J3 1 [] (Vb 3 ?_);refine J3 2 [(5,.bool (decide (e<1)))] (Jy 1 ?_);refine Vu f ?_ ?_<;>intro u f
 ·refine Jw 1 ?_;refine J3 1 [(6,.agg #[A.i 0,A.i 0,A.i 0,A.i 0,A.i 0,A.i 0,A.i 0,A.i 0])] ?_;refine Vp 0 [] A.zz8 ?_;refine J3 1 [(3,A.i 11)] (Jy 1 ?_);obtain rfl:=J8 f;exact Vr [] (.tuple #[.agg #[A.i 0,A.i 0,A.i 0,A.i 0,A.i 0,A.i 0,A.i 0,A.i 0],A.i 11]) (fun a w hf hh=>V3 rfl (V5 hf rfl Tryz.isAgg45 Tryz.sizeOf45 (Vq hh 0) rfl) (Vz hf rfl)) (⟨rfl,rfl,J0,J0,J0,J0,J0,J0,J0,J0,(Vd .i64 (11) rfl)⟩)
 refine Jw 3 ?_;have⟨k,f⟩:=Vt f;refine Uc 3 [Z.R64 (e-1)] [(7,A.i e),(9,A.i (e-1))] k ?_;refine Vv 1 [] f (o_aq e (e-1) 0 0 o (J4 k) J0 J0) .nil ?_;rintro h - f _ _ ⟨rfl,rfl,hr5,hr6,hr7,hr8,hr9,hr10,hr11,hr12,hr13⟩;refine Vf ?_;refine J3 2 [(11,(A.rai h.1)),(12,A.i h.2)] ?_;refine Vp 0 [] (A.rac h.1) ?_;refine J3 1 [(3,A.i h.2)] (Jy 1 ?_);obtain rfl:=J8 f;exact Vr [] (.tuple #[(A.rai h.1),A.i h.2]) (fun a w hf hh=>V3 rfl (V5 hf rfl Tryz.isAgg45 Tryz.sizeOf45 (Vq hh 0) rfl) (Vz hf rfl)) (⟨rfl,rfl,hr5,hr6,hr7,hr8,hr9,hr10,hr11,hr12,hr13⟩)
def F.eJ (a:Int):Option (D44×Int):=(F.eu a a 1 0).bind fun e=>(some e)
theorem o_bO (e:Int)(k:A.h6 e)(r:D44×Int)(h:F.eJ e=some r):
    A.Ct Tryz.prog 131 [A.i e] [] [] (fun v H'=>v=.tuple #[(A.rai r.1),A.i r.2]∧H'=[]∧A.h6 r.1.1∧A.h6 r.1.2.1∧A.h6 r.1.2.2.1∧A.h6 r.1.2.2.2.1∧A.h6 r.1.2.2.2.2.1∧A.h6 r.1.2.2.2.2.2.1∧A.h6 r.1.2.2.2.2.2.2.1∧A.h6 r.1.2.2.2.2.2.2.2∧A.h6 r.2):=by
 refine J1 Tryz.func131 rfl Tryz.ntmps131 rfl fun o p=>?_;rw[F.eJ]at h;refine Jw 1 ?_;refine J5 0 (cs:=l4b) Tryz.zeroValue45 fun s=>?_;refine J3 1 [] (Vb 2 ?_);refine J3 2 [(4,A.i e),(5,A.i e)] ?_;refine Vv 1 [] h (o_aq e e 1 0 k k (Vd .i64 (1) rfl) J0) .nil ?_;rintro f - h _ _ ⟨rfl,rfl,hr4,hr5,hr6,hr7,hr8,hr9,hr10,hr11,hr12⟩;refine Vf ?_;refine J3 2 [(7,(A.rai f.1)),(8,A.i f.2)] ?_;refine Vp 0 [] (A.rac f.1) ?_;refine J3 1 [(3,A.i f.2)] (Jy 1 ?_);obtain rfl:=J8 h;exact Vr [] (.tuple #[(A.rai f.1),A.i f.2]) (fun a w hf hh=>V3 rfl (V5 hf rfl Tryz.isAgg45 Tryz.sizeOf45 (Vq hh 0) rfl) (Vz hf rfl)) (⟨rfl,rfl,hr4,hr5,hr6,hr7,hr8,hr9,hr10,hr11,hr12⟩)
def F.cC (a:Int)(e:Int)(f:Int)(h:Int)(k:Int)(o:Int)(p:Int)(s:Int):Option D44:=some (a,e,f,h,(k,o,p,s))
def F.d0 (o:D83)(k:Int):Option D44:=(F.eI k).bind fun a=>(if o.2.1=12 then((F.eB k).bind fun e=>(F.cC e.1.1 e.1.2.1 e.1.2.2.1 e.1.2.2.2.1 e.1.2.2.2.2.1 e.1.2.2.2.2.2.1 e.1.2.2.2.2.2.2.1 e.1.2.2.2.2.2.2.2))else(if o.2.1=13 then((F.eC k).bind fun f=>(F.cC f.1.1 f.1.2.1 f.1.2.2.1 f.1.2.2.2.1 f.1.2.2.2.2.1 f.1.2.2.2.2.2.1 f.1.2.2.2.2.2.2.1 f.1.2.2.2.2.2.2.2))else(if o.2.1=14 then((F.eJ k).bind fun h=>(F.cC h.1.1 h.1.2.1 h.1.2.2.1 h.1.2.2.2.1 h.1.2.2.2.2.1 h.1.2.2.2.2.2.1 h.1.2.2.2.2.2.2.1 h.1.2.2.2.2.2.2.2))else(F.cC a.1.1 a.1.2.1 a.1.2.2.1 a.1.2.2.2.1 a.1.2.2.2.2.1 a.1.2.2.2.2.2.1 a.1.2.2.2.2.2.2.1 a.1.2.2.2.2.2.2.2))))
theorem o_bk(e:D83)(h:Int)(a6:A.h6 e.1)(a7:A.h6 e.2.1)(a8:A.h6 e.2.2.2.1.1)(a9:A.h6 e.2.2.2.1.2.1)(aa:e.2.2.2.1.2.2.size≤maxLen)(ab:e.2.2.2.2.1.size≤maxLen)(ac:A.h6 e.2.2.2.2.2.1)(ad:A.h6 e.2.2.2.2.2.2)(J:A.h6 h)(r:D44)(f:F.d0 e h=some r):
    A.Ct Tryz.prog 89 [.agg #[A.i e.1,A.i e.2.1,.slice A2_ e.2.2.1.length c3_,A.i e.2.2.2.1.1,A.i e.2.2.2.1.2.1,.string e.2.2.2.1.2.2,.string e.2.2.2.2.1,A.i e.2.2.2.2.2.1,A.i e.2.2.2.2.2.2],A.i h] [(0,.sh A.TI [.slice A2_ e.2.2.1.length c3_] e.2.2.1)] [] (fun v H'=>v=(A.rai r)∧H'=[]∧A.h6 r.1∧A.h6 r.2.1∧A.h6 r.2.2.1∧A.h6 r.2.2.2.1∧A.h6 r.2.2.2.2.1∧A.h6 r.2.2.2.2.2.1∧A.h6 r.2.2.2.2.2.2.1∧A.h6 r.2.2.2.2.2.2.2):=by
 refine J1 Tryz.func89 rfl Tryz.ntmps89 rfl fun w0 F0=>?_;rw[F.d0]at f;refine Jw 1 ?_;refine Va 1 (cs:=[A.i e.1,A.i e.2.1,.slice A2_ e.2.2.1.length c3_,A.i e.2.2.2.1.1,A.i e.2.2.2.1.2.1,.string e.2.2.2.1.2.2,.string e.2.2.2.2.1,A.i e.2.2.2.2.2.1,A.i e.2.2.2.2.2.2]) fun g1=>?_;refine J5 2 (cs:=l4b) Tryz.zeroValue45 fun g2=>?_;refine Vb 2 ?_;refine J3 1 [(8,A.i h)] ?_;refine Vv 3 [] f (o_bc h J) .nil ?_;rintro k - f _ _ ⟨rfl,rfl,hr5,hr6,hr7,hr8,hr9,hr10,hr11,hr12,hr13⟩;refine Vf ?_;refine J3 3 [(10,(A.rai k.1)),(11,A.i k.2)] ?_;refine J5 43 (cs:=l4b) Tryz.zeroValue45 fun N=>?_;refine Vp 43 [] (A.rac k.1) ?_;refine J3 1 [] (Jy 1 ?_);refine J7 [4,5] [2] (fun O U=>∃(t:Int),∃(u:Int),∃(x:Int),∃(y:Int),∃(z:Int),∃(B:Int),∃(E:Int),∃(I:Int),O=[]∧U=[(43,.blk N 45 [A.i t,A.i u,A.i x,A.i y,A.i z,A.i B,A.i E,A.i I])]∧A.h6 t∧A.h6 u∧A.h6 x∧A.h6 y∧A.h6 z∧A.h6 B∧A.h6 E∧A.h6 I∧F.cC t u x y z B E I=some r) ?_ ?_
 ·refine Jw 1 ?_;refine J2 [1] [] [.n,.b 0 1] [(13,A.i e.2.1)] (Vb 3 ?_);refine J3 2 [(14,.bool (decide (e.2.1=12)))] (Jy 1 ?_);refine Vu f ?_ ?_<;>intro L f
  ·refine Jw 0 ?_;refine J3 1 [(17,A.i h)] ?_;refine Vv 44 [] f (o_bx h J) .nil ?_;rintro o - f _ _ ⟨rfl,rfl,hr33,hr34,hr35,hr36,hr37,hr38,hr39,hr40,hr41⟩;refine Vf ?_;refine J3 3 [(19,(A.rai o.1))] ?_;refine Vp 43 [] (A.rac o.1) ?_;refine Uh 1 ?_;exact Vk ⟨o.1.1,o.1.2.1,o.1.2.2.1,o.1.2.2.2.1,o.1.2.2.2.2.1,o.1.2.2.2.2.2.1,o.1.2.2.2.2.2.2.1,o.1.2.2.2.2.2.2.2,rfl,rfl,hr33,hr34,hr35,hr36,hr37,hr38,hr39,hr40,f⟩
  refine Jw 1 ?_;refine J3 2 [(21,.bool (decide (e.2.1=13)))] (Jy 1 ?_);refine Vu f ?_ ?_<;>intro L f
  ·refine Jw 0 ?_;refine J3 1 [(24,A.i h)] ?_;refine Vv 84 [] f (o_bz h J) .nil ?_;rintro p - f _ _ ⟨rfl,rfl,hr44,hr45,hr46,hr47,hr48,hr49,hr50,hr51,hr52⟩;refine Vf ?_;refine J3 3 [(26,(A.rai p.1))] ?_;refine Vp 43 [] (A.rac p.1) ?_;refine Uh 1 ?_;exact Vk ⟨p.1.1,p.1.2.1,p.1.2.2.1,p.1.2.2.2.1,p.1.2.2.2.2.1,p.1.2.2.2.2.2.1,p.1.2.2.2.2.2.2.1,p.1.2.2.2.2.2.2.2,rfl,rfl,hr44,hr45,hr46,hr47,hr48,hr49,hr50,hr51,f⟩
  refine Jw 1 ?_;refine J3 2 [(28,.bool (decide (e.2.1=14)))] (Jy 1 ?_);refine Vu f ?_ ?_<;>intro L f
  ·refine Jw 0 ?_;refine J3 1 [(31,A.i h)] ?_;refine Vv 124 [] f (o_bO h J) .nil ?_;rintro s - f _ _ ⟨rfl,rfl,hr55,hr56,hr57,hr58,hr59,hr60,hr61,hr62,hr63⟩;refine Vf ?_;refine J3 3 [(33,(A.rai s.1))] ?_;refine Vp 43 [] (A.rac s.1) ?_;refine Uh 1 ?_;exact Vk ⟨s.1.1,s.1.2.1,s.1.2.2.1,s.1.2.2.2.1,s.1.2.2.2.2.1,s.1.2.2.2.2.2.1,s.1.2.2.2.2.2.2.1,s.1.2.2.2.2.2.2.2,rfl,rfl,hr55,hr56,hr57,hr58,hr59,hr60,hr61,hr62,f⟩
  refine V1 2 ?_;exact Vk ⟨k.1.1,k.1.2.1,k.1.2.2.1,k.1.2.2.2.1,k.1.2.2.2.2.1,k.1.2.2.2.2.2.1,k.1.2.2.2.2.2.2.1,k.1.2.2.2.2.2.2.2,rfl,rfl,hr5,hr6,hr7,hr8,hr9,hr10,hr11,hr12,f⟩
 rintro _ _ ⟨t,u,x,y,z,B,E,I,rfl,rfl,V,W,X,Y,a2,a3,a4,a5,f⟩;rw[F.cC]at f;refine Jw 1 ?_;refine J2 [43] [] [.b 0 0] [(35,.agg #[A.i t,A.i u,A.i x,A.i y,A.i z,A.i B,A.i E,A.i I])] ?_;refine Vp 2 [] [A.i t,A.i u,A.i x,A.i y,A.i z,A.i B,A.i E,A.i I] ?_;refine Jy 1 ?_;obtain rfl:=J8 f;exact Vr [] (.agg #[A.i t,A.i u,A.i x,A.i y,A.i z,A.i B,A.i E,A.i I]) (fun a w hf hh=>U0 rfl (V5 hf rfl Tryz.isAgg45 Tryz.sizeOf45 (Vq hh 2) rfl)) (⟨rfl,rfl,V,W,X,Y,a2,a3,a4,a5⟩)
def F.dc (e:(List D53)→Int→Option (List D53))(a:Int)(f:List D53):Option (List D53):=A.gd (Z.R64 (a+1)) (e f (a+1))
def F.dM (a:(List D53)→Int→Option (List D53))(e:Int)(f:List D53):Option (List D53):=F.dc a e f
def F.dN (e:(List D53)→Int→Option (List D53))(a:Int)(f:List D53):Option (List D53):=A.gd (Z.R64 (a+1)) (e f (a+1))
def F.bA (s:(List D53)→Int→Option (List D53))(h:D23)(k:D41)(t:D83×Bool)(o:D44×Int)(a:Int):Nat→(List D53)→Int→Option (List D53)
 |0,_,_=>none
 |f+1,p,e=>(A.ix h a).bind fun w=>(if e<(w.2.2.1.length:Int)then((A.ix h a).bind fun x=>((A.ix x.2.2.1 e).bind fun y=>(if y=t.1.1 then((A.ix h a).bind fun u=>(A.gd ((List.length (α:=D53) p+List.length (α:=D53) [(k.1,(u.1,e),o.1)])*96≤140737488355328) (F.dN (F.bA s h k t o a f) e (p++[(k.1,(u.1,e),o.1)]))))else(F.dN (F.bA s h k t o a f) e p))))else(A.gd (Z.R64 (a+1)) (s p (a+1))))
def F.bB (e:(List D53)→Int→Option (List D53))(a:D23)(h:Int)(k:D41)(o:D83×Bool)(p:D44×Int):Nat→(List D53)→Int→Option (List D53)
 |0,_,_=>none
 |f+1,s,t=>if t<(a.length:Int)then(F.bA (F.bB e a h k o p f) a k o p t A.FU s 0)else(F.dc e h s)
def F.aY (h:D23)(a:(List D41)):Nat→(List D53)→Int→Option (List D53)
 |0,_,_=>none
 |f+1,k,e=>if e<(a.length:Int)then((A.ix a e).bind fun o=>((F.ev h o.1.1).bind fun p=>(if o.1.2≠2 then(if p.1.2.1≠15 then((A.ix a e).bind fun t=>((F.d0 p.1 t.2).bind fun s=>(A.gd ((List.length (α:=D53) k+List.length (α:=D53) [(o.1,(p.1.1,2),s)])*96≤140737488355328) (F.dM (F.aY h a f) e (k++[(o.1,(p.1.1,2),s)])))))else(F.dM (F.aY h a f) e k))else((A.ix a e).bind fun u=>((F.eI u.2).bind fun w=>(F.bB (F.aY h a f) h e o p w A.FU k 0))))))else(some k)
def F.dO (a:D23)(e:(List D41)):Option (List D53):=F.aY a e A.FU [] 0
theorem o_bA(x:D23)(E:(List D41))(r:(List D53))(h:F.dO x E=some r):
    A.Ct Tryz.prog 50 [.agg #[.slice A0_ x.length c1_],.slice A2_ E.length c3_] [(0,.sh (.slice T83) [.slice A0_ x.length c1_] x),(1,.ln T41 A2_ c3_ E)] [] (fun v H'=>∃(A0':Option Addr) (c1':Nat),v=.slice A0' r.length c1'∧H'=[(0,.own T53 54 A0' c1' r)]):=by
 refine J1 Tryz.func50 rfl Tryz.ntmps50 rfl fun w0 F0=>?_;rw[F.dO]at h;refine Jw 1 ?_;refine Va 2 (cs:=[.slice A0_ x.length c1_]) fun g1=>?_;refine J3 1 [] (Vb 2 ?_);refine J3 1 [(5,.slice none 0 0)] (Vb 3 ?_);refine J3 1 [(6,A.i 0)] (Jy 2 ?_);refine Uf 489 T53 54 ?_;refine Vo [1,2] [0,1,2] (fun f J L=>∃(N:List D53),∃(B:Int),∃(U:Option Addr),∃(V:Nat),J=[(5,.slice U N.length V),(6,A.i B)]∧L=[(489,.own T53 54 U V N)]∧A.h6 B∧F.aY x E f N B=some r) ⟨[],0,none,0,rfl,rfl,J0,h⟩ ?_;rintro W _ _ ⟨N,B,U,V,rfl,rfl,bh,h⟩;rcases W with _|W
 ·exact Vm h
 rw[F.aY]at h;refine Jw 2 ?_;refine J3 4 [(17,.bool (decide (B<(E.length:Int))))] (Jy 1 ?_);refine Vu h ?_ ?_<;>intro hb h
 ·refine V6 2 ?_;refine J7 [1,2,6] [0,1,2] (fun J L=>∃(a3:List D53),∃(A8:Option Addr),∃(c9:Nat),J=[(5,.slice A8 a3.length c9)]∧L=[(489,.own T53 54 A8 c9 a3)]∧F.dc (F.aY x E W) B a3=some r) ?_ ?_
  ·refine Jw 2 ?_;refine J3 2 [(20,.slice A2_ E.length c3_),(21,A.i B)] ?_;have⟨u,ay,h⟩:=Vy h;refine Ud 1 888 ay fun a4=>?_;intro bi bj;refine J2 [] [888] [.n,.e 0 0] [(24,(A.raf u.1))] ?_;refine J5 889 (cs:=[A.i 0,A.i 0]) Tryz.zeroValue40 fun bk=>?_;refine Vp 889 [] (A.raa u.1) ?_;refine Vb 2 ?_;refine J2 [2,889] [] [.b 0 0,.n,.b 1 0] [(26,.agg #[.slice A0_ x.length c1_]),(28,A.i u.1.1)] ?_;refine Vv 890 [] h (o_aX A0_ c1_ x u.1.1 a4.1.1) (.s 0 .nil) ?_;rintro o - h _ _ ⟨aa,ab,rfl,rfl,hr20,hr21,hr24,hr25,hr26,hr27,hr28,hr29⟩;refine Vf ?_;refine J3 3 [(30,.agg #[A.i o.1.1,A.i o.1.2.1,.slice aa o.1.2.2.1.length ab,A.i o.1.2.2.2.1.1,A.i o.1.2.2.2.1.2.1,.string o.1.2.2.2.1.2.2,.string o.1.2.2.2.2.1,A.i o.1.2.2.2.2.2.1,A.i o.1.2.2.2.2.2.2]),(31,.bool o.2)] ?_;refine J5 930 (cs:=l4a) Tryz.zeroValue84 fun bl=>?_;refine Vp 930 [] [A.i o.1.1,A.i o.1.2.1,.slice aa o.1.2.2.1.length ab,A.i o.1.2.2.2.1.1,A.i o.1.2.2.2.1.2.1,.string o.1.2.2.2.1.2.2,.string o.1.2.2.2.2.1,A.i o.1.2.2.2.2.2.1,A.i o.1.2.2.2.2.2.2] ?_;refine J3 1 [] (Vb 3 ?_);refine J2 [889] [] [.n,.b 0 1,.n] [(34,.bool (decide (u.1.2≠2)))] (Jy 1 ?_);refine Vu h ?_ ?_<;>intro hb h
   ·refine J7 [1,2,6] [0,1,2] (fun J L=>∃(a5:List D53),∃(ac:Option Addr),∃(ad:Nat),J=[(5,.slice ac a5.length ad)]∧L=[(489,.own T53 54 ac ad a5)]∧F.dM (F.aY x E W) B a5=some r) ?_ ?_
    ·refine Jw 1 ?_;refine J2 [930] [] [.n,.b 0 1,.n] [(37,.bool (decide (o.1.2.1≠15)))] (Jy 1 ?_);refine Vu h ?_ ?_<;>intro hb h
     ·refine Vl mixed 16 16 (A.mb 16 0) ?_;refine Vj J6 [] [0,1,2,888,889,890,930] [889,930] [] (A.mb 16 255) 8 [(0,.n),(1,.b 0 0),(2,.n),(5,.b 1 0),(6,.n),(7,.n),(3,.b 1 0),(4,.n)] [(38,.slice U N.length V),(39,(A.raf u.1)),(43,.agg #[A.i o.1.1,A.i o.1.2.1,.slice aa o.1.2.2.1.length ab,A.i o.1.2.2.2.1.1,A.i o.1.2.2.2.1.2.1,.string o.1.2.2.2.1.2.2,.string o.1.2.2.2.2.1,A.i o.1.2.2.2.2.2.1,A.i o.1.2.2.2.2.2.2]),(44,.slice A2_ E.length c3_),(45,A.i B),(42,.agg #[A.i o.1.1,A.i 2])] ?_;have⟨ai,aj,h⟩:=Vy h;refine Vw 1 931 aj fun az=>?_;intro bm bp b0;refine Vh J6 [0,1,2,888,889,890,930] l4e 8 (A.mb 16 511) rfl (fun a w hf hh=>Vn (t:=T41) aj b0 hf) ?_;refine Vj J6 l4e l4e [] [931] (A.mb 16 2047) 5 [(9,.n),(10,.e 0 2)] [(48,A.i ai.2)] ?_;refine Vc 11 ?_;refine Vv 932 [] h (o_bk aa ab o.1 ai.2 hr20 hr21 hr24 hr25 hr26 hr27 hr28 hr29 az.2) (.s 890 .nil) ?_;rintro y - h _ _ ⟨rfl,rfl,hr42,hr43,hr44,hr45,hr46,hr47,hr48,hr49⟩;refine Vf ?_;refine Vg (A.mb 16 4095) l4e ?_;refine Vj J6 l4e l4e [] [] (A.mb 16 8191) 3 [(12,.n)] [(50,.agg #[A.i u.1.1,A.i u.1.2,A.i o.1.1,A.i 2,A.i y.1,A.i y.2.1,A.i y.2.2.1,A.i y.2.2.2.1,A.i y.2.2.2.2.1,A.i y.2.2.2.2.2.1,A.i y.2.2.2.2.2.2.1,A.i y.2.2.2.2.2.2.2])] ?_;refine Vc 13 ?_;refine Vx 972 (ty:=T53) (cs:=[A.i u.1.1,A.i u.1.2,A.i o.1.1,A.i 2,A.i y.1,A.i y.2.1,A.i y.2.2.1,A.i y.2.2.2.1,A.i y.2.2.2.2.1,A.i y.2.2.2.2.2.1,A.i y.2.2.2.2.2.2.1,A.i y.2.2.2.2.2.2.2]) [(u.1,(o.1.1,2),y)] ⟨⟨⟨⟨rfl,a4.1.1⟩,⟨rfl,a4.1.2⟩⟩,⟨⟨rfl,hr20⟩,⟨rfl,(Vd .i64 (2) rfl)⟩⟩,⟨⟨rfl,hr42⟩,⟨rfl,hr43⟩,⟨rfl,hr44⟩,⟨rfl,hr45⟩,⟨⟨rfl,hr46⟩,⟨rfl,hr47⟩,⟨rfl,hr48⟩,⟨rfl,hr49⟩⟩⟩⟩,rfl⟩ (fun bq=>?_) Tryz.zeroValue54 Tryz.sizeOf54
      refine Vg (A.mb 16 16383) l4e ?_;refine Vc 14 ?_;have⟨hl53,h⟩:=Vt h;refine V4 (k:=489) [] (Um (k:=972) rfl) inf54 hl53 fun ak al=>?_;refine Vg (A.mb 16 32767) l4e ?_;refine Vj J6 l4e [0,1,2,489,888,889,890,930,931,972] [] [] (A.mb 16 65535) 0 [(15,.n)] [(5,.slice ak ((N++[(u.1,(o.1.1,2),y)]).length) al)] (Ve ?_);exact Vk ⟨(N++[(u.1,(o.1.1,2),y)]),ak,al,rfl,rfl,h⟩
     refine V1 1 ?_;exact Vk ⟨N,U,V,rfl,rfl,h⟩
    rintro _ _ ⟨a5,ac,ad,rfl,rfl,h⟩;rw[F.dM]at h;refine V1 1 ?_;exact Vk ⟨a5,ac,ad,rfl,rfl,h⟩
   refine Jw 3 ?_;refine J3 2 [(54,.slice A2_ E.length c3_),(55,A.i B)] ?_;have⟨am,b1,h⟩:=Vy h;refine Ud 1 973 b1 fun b2=>?_;intro br bt;refine J2 [] [973] [.n,.e 0 2] [(58,A.i am.2)] ?_;refine Vv 974 [] h (o_bc am.2 b2.2) .nil ?_;rintro p - h _ _ ⟨rfl,rfl,hr61,hr62,hr63,hr64,hr65,hr66,hr67,hr68,hr69⟩;refine Vf ?_;refine J3 3 [(60,(A.rai p.1)),(61,A.i p.2)] ?_;refine J5 1014 (cs:=l4b) Tryz.zeroValue45 fun bu=>?_;refine Vp 1014 [] (A.rac p.1) ?_;refine J3 1 [] (Vb 2 ?_);refine J3 1 [(12,A.i 0)] (Jy 2 ?_);refine Vo [1,2,6,7,8,10] l4m (fun f J L=>∃(X:List D53),∃(I:Int),∃(a6:Option Addr),∃(a7:Nat),J=[(5,.slice a6 X.length a7),(12,A.i I)]∧L=[(489,.own T53 54 a6 a7 X)]∧A.h6 I∧F.bB (F.aY x E W) x B u o p f X I=some r) ⟨N,0,U,V,rfl,rfl,J0,h⟩ ?_;rintro ae _ _ ⟨X,I,a6,a7,rfl,rfl,bv,h⟩;rcases ae with _|ae
   ·exact Vm h
   rw[F.bB]at h;refine Jw 2 ?_;refine J2 [2] [] [.n,.n,.b 0 0,.n,.n] [(66,.bool (decide (I<(x.length:Int))))] (Jy 1 ?_);refine Vu h ?_ ?_<;>intro hb h
   ·refine Jw 5 ?_;refine J3 1 [(13,A.i 0)] (Jy 2 ?_);refine Vo [1,2,6,7,8,10,12] l4m (fun f J L=>∃(O:List D53),∃(z:Int),∃(Y:Option Addr),∃(a2:Nat),J=[(5,.slice Y O.length a2),(13,A.i z)]∧L=[(489,.own T53 54 Y a2 O)]∧A.h6 z∧F.bA (F.bB (F.aY x E W) x B u o p ae) x u o p I f O z=some r) ⟨X,0,a6,a7,rfl,rfl,J0,h⟩ ?_;rintro ah _ _ ⟨O,z,Y,a2,rfl,rfl,b3,h⟩;rcases ah with _|ah
    ·exact Vm h
    rw[F.bA]at h;refine Jw 2 ?_;refine J2 [2] [] [.n,.n,.b 0 0,.n] [(69,A.i z),(71,.slice A0_ x.length c1_),(72,A.i I)] ?_;have⟨b4,b5,h⟩:=Vy h;refine V0 0 1079 b5 fun bw=>?_;intro bx bz c0 c1;refine J2 [] [1079] [.n,.e 0 2,.n,.n] [(77,.bool (decide (z<(b4.2.2.1.length:Int))))] (Jy 1 ?_);refine Vu h ?_ ?_<;>intro hb h
    ·refine V6 2 ?_;refine J7 [1,2,6,7,8,10,12,13] l4m (fun J L=>∃(a8:List D53),∃(af:Option Addr),∃(ag:Nat),J=[(5,.slice af a8.length ag)]∧L=[(489,.own T53 54 af ag a8)]∧F.dN (F.bA (F.bB (F.aY x E W) x B u o p ae) x u o p I ah) z a8=some r) ?_ ?_
     ·refine V6 2 ?_;refine Vl mixed 12 12 (A.mb 12 0) ?_;refine Vj J6 [] l4l [2,930] [] (A.mb 12 1607) 6 [(0,.n),(2,.n),(6,.n),(9,.n),(1,.b 0 0),(10,.b 1 0)] [(82,A.i I),(86,A.i z),(81,.slice A0_ x.length c1_),(90,A.i o.1.1)] ?_;have⟨b6,an,h⟩:=Vy h;refine Ug 0 1081 an fun c2=>?_;intro b7 b9 c4 c5 bb;refine Vh J6 l4l l4f 3 (A.mb 12 1615) rfl (fun a w hf hh=>Vn (t:=T83) an bb hf) ?_;refine Vj J6 l4f l4f [] [1081] (A.mb 12 1663) 3 [(4,.n),(5,.e 0 2)] [(85,.slice b7 b6.2.2.1.length b9)] ?_;have⟨bc,ao,h⟩:=Vy h;refine Ug 1082 1083 ao fun c6=>?_;intro c7 c8 bd;refine Vh J6 l4f l4g 7 (A.mb 12 1791) rfl (fun a w hf hh=>Vn (t:=A.ti) ao bd hf) ?_;refine Vj J6 l4g l4g [] [1083] (A.mb 12 4095) 0 [(8,.e 0 0),(11,.n)] [(91,.bool (decide (bc=o.1.1)))] (Ve ?_);refine U2 1 ?_;refine Vu h ?_ ?_<;>intro hb h
      ·refine Vl mixed 15 15 (A.mb 15 0) ?_;refine Vj J6 [] l4j [889,1014,2] [] (A.mb 15 1311) 8 [(0,.n),(1,.b 0 0),(2,.n),(4,.n),(8,.n),(10,.b 1 0),(3,.b 2 0)] [(92,.slice Y O.length a2),(93,(A.raf u.1)),(96,A.i I),(100,A.i z),(102,(A.rai p.1)),(95,.slice A0_ x.length c1_)] ?_;have⟨a9,aq,h⟩:=Vy h;refine Ug 0 1084 aq fun be=>?_;intro ca cb cc cd bg;refine Vh J6 l4j l4c 5 (A.mb 15 1343) rfl (fun a w hf hh=>Vn (t:=T83) aq bg hf) ?_;refine Vj J6 l4c l4c [] [1084] (A.mb 15 4095) 3 [(6,.n),(7,.e 0 0),(9,.n),(11,.n)] [(103,.agg #[A.i u.1.1,A.i u.1.2,A.i a9.1,A.i z,A.i p.1.1,A.i p.1.2.1,A.i p.1.2.2.1,A.i p.1.2.2.2.1,A.i p.1.2.2.2.2.1,A.i p.1.2.2.2.2.2.1,A.i p.1.2.2.2.2.2.2.1,A.i p.1.2.2.2.2.2.2.2])] ?_;refine Vc 12 ?_;refine Vx 1086 (ty:=T53) (cs:=[A.i u.1.1,A.i u.1.2,A.i a9.1,A.i z,A.i p.1.1,A.i p.1.2.1,A.i p.1.2.2.1,A.i p.1.2.2.2.1,A.i p.1.2.2.2.2.1,A.i p.1.2.2.2.2.2.1,A.i p.1.2.2.2.2.2.2.1,A.i p.1.2.2.2.2.2.2.2]) [(u.1,(a9.1,z),p.1)] ⟨⟨⟨⟨rfl,a4.1.1⟩,⟨rfl,a4.1.2⟩⟩,⟨⟨rfl,be.1⟩,⟨rfl,b3⟩⟩,⟨⟨rfl,hr61⟩,⟨rfl,hr62⟩,⟨rfl,hr63⟩,⟨rfl,hr64⟩,⟨⟨rfl,hr65⟩,⟨rfl,hr66⟩,⟨rfl,hr67⟩,⟨rfl,hr68⟩⟩⟩⟩,rfl⟩ (fun ce=>?_) Tryz.zeroValue54 Tryz.sizeOf54
       refine Vg (A.mb 15 8191) l4c ?_;refine Vc 13 ?_;have⟨hl119,h⟩:=Vt h;refine V4 (k:=489) [] (Um (k:=1086) rfl) inf54 hl119 fun ar au=>?_;refine Vg (A.mb 15 16383) l4c ?_;refine Vj J6 l4c [0,1,2,489,889,890,930,1014,1079,1080,1081,1082,1083,1084,1085,1086] [] [] (A.mb 15 32767) 0 [(14,.n)] [(5,.slice ar ((O++[(u.1,(a9.1,z),p.1)]).length) au)] (Ve ?_);refine A.ee 1 ?_;exact Vk ⟨(O++[(u.1,(a9.1,z),p.1)]),ar,au,rfl,rfl,h⟩
      refine V1 2 ?_;exact Vk ⟨O,Y,a2,rfl,rfl,h⟩
     rintro _ _ ⟨a8,af,ag,rfl,rfl,h⟩;rw[F.dN]at h;refine Jw 0 ?_;have⟨av,h⟩:=Vt h;refine Uc 3 [Z.R64 (z+1)] [(13,A.i (z+1))] av (Jz ?_);exact Vk ⟨_,Qi _,⟨a8,(z+1),af,ag,rfl,rfl,(J4 av),h⟩⟩
    refine Jw 3 ?_;have⟨aw,h⟩:=Vt h;refine Uc 3 [Z.R64 (I+1)] [(12,A.i (I+1))] aw (Jz ?_);exact Vk ⟨_,Qi _,⟨O,(I+1),Y,a2,rfl,rfl,(J4 aw),h⟩⟩
   refine V1 2 ?_;exact Vk ⟨X,a6,a7,rfl,rfl,h⟩
  rintro _ _ ⟨a3,A8,c9,rfl,rfl,h⟩;rw[F.dc]at h;refine Jw 0 ?_;have⟨ax,h⟩:=Vt h;refine Uc 3 [Z.R64 (B+1)] [(6,A.i (B+1))] ax (Jz ?_);exact Vk ⟨_,Qi _,⟨a3,(B+1),A8,c9,rfl,rfl,(J4 ax),h⟩⟩
 refine Jw 3 ?_;refine J3 2 [(4,.slice U N.length V)] (Jy 1 ?_);obtain rfl:=J8 h;exact J9 [(0,489)] ⟨U,V,rfl,rfl⟩
def F.d1 (a:Int):Option Int:=if(bif decide (a<1)then true else decide ((16:Int)<a))=true then(some (-1))else(if a=1 then(some 0)else(if(bif decide (a=5)then true else decide (a=9))=true then(some 2)else(some 1)))
theorem o_ay (e:Int)(h:A.h6 e)(r:Int)(a:F.d1 e=some r):
    A.Ct Tryz.prog 157 [A.i e] [] [] (fun v H'=>v=A.i r∧H'=[]∧A.h6 r):=by
 refine J1 Tryz.func157 rfl Tryz.ntmps157 rfl fun k o=>?_;rw[F.d1]at a;refine Jw 1 ?_;refine J3 1 [] (Vb 4 ?_);refine J2 [] [] [.n,.n,.n,.sy .n,.sy .n,.pk,.n] [(3,.bool (bif decide (e<1)then true else decide ((16:Int)<e)))] (Jy 1 ?_);refine Ue a ?_ ?_<;>intro f a
 ·refine Jw 1 ?_;refine J3 1 [(2,A.i (-1))] (Jy 1 ?_);obtain rfl:=J8 a;exact J9 [] ⟨rfl,rfl,(Vd .i64 (-1) rfl)⟩
 refine Jw 1 ?_;refine J3 3 [(10,.bool (decide (e=1)))] (Jy 1 ?_);refine Vu a ?_ ?_<;>intro f a
 ·refine Jw 1 ?_;refine J3 1 [(2,A.i 0)] (Jy 1 ?_);obtain rfl:=J8 a;exact J9 [] ⟨rfl,rfl,J0⟩
 refine Jw 1 ?_;refine J2 [] [] [.n,.n,.n,.sy .n,.sy .n,.pk,.n] [(13,.bool (bif decide (e=5)then true else decide (e=9)))] (Jy 1 ?_);refine Ue a ?_ ?_<;>intro f a
 ·refine Jw 1 ?_;refine J3 1 [(2,A.i 2)] (Jy 1 ?_);obtain rfl:=J8 a;exact J9 [] ⟨rfl,rfl,(Vd .i64 (2) rfl)⟩
 refine Jw 4 ?_;refine J3 1 [(2,A.i 1)] (Jy 1 ?_);obtain rfl:=J8 a;exact J9 [] ⟨rfl,rfl,(Vd .i64 (1) rfl)⟩
def F.dP (e:Int→Option (Int×Bool))(f:D23)(a:Int)(h:Bool):Option (Int×Bool):=if h=true then((A.ix f a).bind fun k=>(some (k.1,true)))else(A.gd (Z.R64 (a+1)) (e (a+1)))
def F.b4 (a:D23)(h:Int)(k:ByteArray):Nat→Int→Option (Int×Bool)
 |0,_=>none
 |f+1,e=>if e<(a.length:Int)then((A.ix a e).bind fun o=>(if o.2.1=h then((A.ix a e).bind fun p=>(F.dP (F.b4 a h k f) a e (decide (p.2.2.2.2.1=k))))else(F.dP (F.b4 a h k f) a e false)))else(some (0,false))
def F.eN (a:D23)(e:Int)(f:ByteArray):Option (Int×Bool):=F.b4 a e f A.FU 0
theorem o_bB(h:D23)(p:Int)(o:ByteArray)(O:A.h6 p)(U:o.size≤maxLen)(r:Int×Bool)(a:F.eN h p o=some r):
    A.Ct Tryz.prog 158 [.agg #[.slice A0_ h.length c1_],A.i p,.string o] [(0,.sh (.slice T83) [.slice A0_ h.length c1_] h)] [] (fun v H'=>v=.tuple #[A.i r.1,.bool r.2]∧H'=[]∧A.h6 r.1):=by
 refine J1 Tryz.func158 rfl Tryz.ntmps158 rfl fun V W=>?_;rw[F.eN]at a;refine Jw 1 ?_;refine Va 1 (cs:=[.slice A0_ h.length c1_]) fun X=>?_;refine J3 2 [] (Vb 3 ?_);refine J3 1 [(8,A.i 0)] (Jy 2 ?_);refine Vo [1,2,3] [0,1] (fun f s t=>∃(k:Int),s=[(8,A.i k)]∧t=[]∧A.h6 k∧F.b4 h p o f k=some r) ⟨0,rfl,rfl,J0,a⟩ ?_;rintro u _ _ ⟨k,rfl,rfl,Y,a⟩;rcases u with _|u
 ·exact Vm a
 rw[F.b4]at a;refine Jw 2 ?_;refine J2 [1] [] [.n,.n,.b 0 0,.n,.n] [(13,.bool (decide (k<(h.length:Int))))] (Jy 1 ?_);refine Vu a ?_ ?_<;>intro x a
 ·refine V6 4 ?_;refine J7 [1,2,3,8] [0,1] (fun s t=>∃(w:Bool),s=[(33,.bool w)]∧t=[]∧F.dP (F.b4 h p o u) h k w=some r) ?_ ?_
  ·refine Jw 0 ?_;refine J2 [1] [] [.n,.b 0 0,.n] [(17,.slice A0_ h.length c1_),(18,A.i k)] ?_;have⟨B,E,a⟩:=Vy a;refine V0 0 14 E fun a3=>?_;intro a4 a5 a6 a7;refine J2 [] [14] [.n,.e 0 1,.n,.n,.n] [(24,.bool (decide (B.2.1=p)))] ?_;refine V2 (j:=24) rfl a ?_ ?_<;>intro x a
   ·refine J2 [1] [] [.on .n,.on (.b 0 0),.on .n] [(26,.slice A0_ h.length c1_),(27,A.i k)] ?_;refine Vi (dj:=24) rfl rfl ?_;have⟨y,I,a⟩:=Vy a;refine V0 0 16 I fun a8=>?_;intro a9 aa ab ac;refine J2 [] [16] [.on .n,.on (.e 0 6),.on .n,.on .n,.n] [(33,.bool (decide (y.2.2.2.2.1=o)))] (Jz ?_);exact Vk ⟨(decide (y.2.2.2.2.1=o)),rfl,rfl,a⟩
   refine J2 [] [] [.off,.off,.off,.off,.off,.off,.off,.off,.n] [(33,.bool false)] (Jz ?_);exact Vk ⟨false,rfl,rfl,a⟩
  rintro _ _ ⟨w,rfl,rfl,a⟩;rw[F.dP]at a;refine Ue a ?_ ?_<;>intro x a
  ·refine Jw 1 ?_;refine J2 [1] [] [.n,.b 0 0,.n] [(35,.slice A0_ h.length c1_),(36,A.i k)] ?_;have⟨J,L,a⟩:=Vy a;refine V0 0 18 L fun N=>?_;intro A9 c10 ad ae;refine J2 [] [18] [.n,.e 0 0,.n,.n] [(6,A.i J.1),(7,.bool true)] (Jy 1 ?_);obtain rfl:=J8 a;exact V8 [] ⟨rfl,rfl,N.1⟩
  refine Jw 3 ?_;have⟨z,a⟩:=Vt a;refine Uc 3 [Z.R64 (k+1)] [(8,A.i (k+1))] z (Jz ?_);exact Vk ⟨_,Qi _,⟨(k+1),rfl,rfl,(J4 z),a⟩⟩
 refine Jw 3 ?_;refine J3 2 [(6,A.i 0),(7,.bool false)] (Jy 1 ?_);obtain rfl:=J8 a;exact V8 [] ⟨rfl,rfl,J0⟩
def F.d2 (a:UInt8):Option Bool:=if(bif decide ((97:Int)≤(a.toNat:Int))then decide ((a.toNat:Int)≤122)else false)=true then(some true)else(some (bif decide ((65:Int)≤(a.toNat:Int))then decide ((a.toNat:Int)≤90)else false))
theorem o_aK (a:UInt8)(r:Bool)(e:F.d2 a=some r):
    A.Ct Tryz.prog 180 [.int .u8 (a.toNat:Int)] [] [] (fun v H'=>v=.bool r∧H'=[]):=by
 refine J1 Tryz.func180 rfl Tryz.ntmps180 rfl fun f h=>?_;rw[F.d2]at e;refine Jw 1 ?_;refine J3 1 [] (Vb 2 ?_);refine J2 [] [] [.n,.n,.n,.sy .n,.sy .n,.pk,.n] [(9,.bool (bif decide ((97:Int)≤(a.toNat:Int))then decide ((a.toNat:Int)≤122)else false))] ?_;refine Vs (j:=9) rfl e (fun e=>?_) (fun e=>?_)
 ·refine J2 [] [] [.off,.off,.off,.off,.off,.off,.n,.n] [(2,.bool true)] (Jy 1 ?_);obtain rfl:=J8 e;exact J9 [] ⟨rfl,rfl⟩
 refine J2 [] [] [.on .n,.on .n,.on .n,.sy .n,.sy .n,.on .pk,.n,.n] [(2,.bool (bif decide ((65:Int)≤(a.toNat:Int))then decide ((a.toNat:Int)≤90)else false))] (Jy 1 ?_);obtain rfl:=J8 e;exact J9 [] ⟨rfl,rfl⟩
def F.eD (a:UInt8):Option Bool:=some (bif decide ((48:Int)≤(a.toNat:Int))then decide ((a.toNat:Int)≤57)else false)
theorem o_bC (a:UInt8)(r:Bool)(e:F.eD a=some r):
    A.Ct Tryz.prog 181 [.int .u8 (a.toNat:Int)] [] [] (fun v H'=>v=.bool r∧H'=[]):=by
 refine J1 Tryz.func181 rfl Tryz.ntmps181 rfl fun f h=>?_;rw[F.eD]at e;refine Jw 1 ?_;refine J3 1 [] (Vb 2 ?_);refine J2 [] [] [.n,.n,.n,.sy .n,.sy .n,.pk,.n] [(2,.bool (bif decide ((48:Int)≤(a.toNat:Int))then decide ((a.toNat:Int)≤57)else false))] (Jy 1 ?_);obtain rfl:=J8 e;exact J9 [] ⟨rfl,rfl⟩
def F.dE (e:Int→Option Bool)(a:Int)(f:Bool):Option Bool:=if f=true then(some false)else(A.gd (Z.R64 (a+1)) (e (a+1)))
def F.bZ (a:ByteArray):Nat→Int→Option Bool
 |0,_=>none
 |f+1,e=>if e<(a.size:Int)then((A.ix a.data.toList e).bind fun h=>((F.d2 h).bind fun k=>(if(!k)=true then((A.ix a.data.toList e).bind fun o=>((F.eD o).bind fun p=>(F.dE (F.bZ a f) e (!p))))else(F.dE (F.bZ a f) e false))))else(some true)
def F.c2 (a:ByteArray)(e:Bool):Option Bool:=if e=true then(some false)else(F.bZ a A.FU 0)
def F.eK (a:ByteArray):Option Bool:=if(bif decide (a=(ByteArray.mk #[]))then true else decide ((16:Int)<(a.size:Int)))=true then(F.c2 a true)else((A.ix a.data.toList 0).bind fun e=>((F.d2 e).bind fun f=>(F.c2 a (!f))))
theorem o_bP (e:ByteArray)(O:e.size≤maxLen)(r:Bool)(a:F.eK e=some r):
    A.Ct Tryz.prog 159 [.string e] [] [] (fun v H'=>v=.bool r∧H'=[]):=by
 refine J1 Tryz.func159 rfl Tryz.ntmps159 rfl fun U V=>?_;rw[F.eK]at a;refine Jw 1 ?_;refine J3 1 [] (Jy 2 ?_);refine J7 [0] [] (fun k o=>∃(p:Bool),k=[(16,.bool p)]∧o=[]∧F.c2 e p=some r) ?_ ?_
 ·refine Jw 0 ?_;refine J2 [] [] [.n,.n,.n,.sy .n,.sy .n,.sy .n,.pk,.n] [(11,.bool (bif decide (e=(ByteArray.mk #[]))then true else decide ((16:Int)<(e.size:Int))))] ?_;refine Vs (j:=11) rfl a (fun a=>?_) (fun a=>?_)
  ·refine J2 [] [] [.off,.off,.off,.off,.n] [(16,.bool true)] (Jz ?_);exact Vk ⟨true,rfl,rfl,a⟩
  refine J2 [] [] [.on .n] [(12,.string e)] ?_;refine Vi (dj:=11) rfl rfl ?_;have⟨z,B,a⟩:=Vy a;refine U1 B ?_;refine Vi (dj:=11) rfl rfl ?_;refine Vv 0 [] a (o_aK z) .nil ?_;rintro u - a _ _ ⟨rfl,rfl⟩;refine Vf ?_;refine J2 [] [] [.on .n,.n] [(16,.bool (!u))] (Jz ?_);exact Vk ⟨(!u),rfl,rfl,a⟩
 rintro _ _ ⟨p,rfl,rfl,a⟩;rw[F.c2]at a;refine Ue a ?_ ?_<;>intro w a
 ·refine Jw 1 ?_;refine J3 1 [(2,.bool false)] (Jy 1 ?_);obtain rfl:=J8 a;exact J9 [] ⟨rfl,rfl⟩
 refine Jw 4 ?_;refine J3 1 [(3,A.i 0)] (Jy 2 ?_);refine Vo [0] [] (fun f k o=>∃(h:Int),k=[(3,A.i h)]∧o=[]∧A.h6 h∧F.bZ e f h=some r) ⟨0,rfl,rfl,J0,a⟩ ?_;rintro s _ _ ⟨h,rfl,rfl,W,a⟩;rcases s with _|s
 ·exact Vm a
 rw[F.bZ]at a;refine Jw 2 ?_;refine J3 4 [(20,.bool (decide (h<(e.size:Int))))] (Jy 1 ?_);refine Vu a ?_ ?_<;>intro w a
 ·refine V6 4 ?_;refine J7 [0,3] [] (fun k o=>∃(t:Bool),k=[(34,.bool t)]∧o=[]∧F.dE (F.bZ e s) h t=some r) ?_ ?_
  ·refine Jw 0 ?_;refine J3 2 [(23,.string e),(24,A.i h)] ?_;have⟨E,I,a⟩:=Vy a;refine U1 I ?_;refine Vv 200 [] a (o_aK E) .nil ?_;rintro J - a _ _ ⟨rfl,rfl⟩;refine Vf ?_;refine J3 2 [(28,.bool (!J))] ?_;refine Vs (j:=28) rfl a (fun a=>?_) (fun a=>?_)
   ·refine J2 [] [] [.on .n,.on .n] [(29,.string e),(30,A.i h)] ?_;refine Vi (dj:=28) rfl rfl ?_;have⟨L,N,a⟩:=Vy a;refine U1 N ?_;refine Vi (dj:=28) rfl rfl ?_;refine Vv 240 [] a (o_bC L) .nil ?_;rintro x - a _ _ ⟨rfl,rfl⟩;refine Vf ?_;refine J2 [] [] [.on .n,.n] [(34,.bool (!x))] (Jz ?_);exact Vk ⟨(!x),rfl,rfl,a⟩
   refine J2 [] [] [.off,.off,.off,.off,.off,.n] [(34,.bool false)] (Jz ?_);exact Vk ⟨false,rfl,rfl,a⟩
  rintro _ _ ⟨t,rfl,rfl,a⟩;rw[F.dE]at a;refine Ue a ?_ ?_<;>intro w a
  ·refine Jw 1 ?_;refine J3 1 [(2,.bool false)] (Jy 1 ?_);obtain rfl:=J8 a;exact J9 [] ⟨rfl,rfl⟩
  refine Jw 3 ?_;have⟨y,a⟩:=Vt a;refine Uc 3 [Z.R64 (h+1)] [(3,A.i (h+1))] y (Jz ?_);exact Vk ⟨_,Qi _,⟨(h+1),rfl,rfl,(J4 y),a⟩⟩
 refine Jw 3 ?_;refine J3 1 [(2,.bool true)] (Jy 1 ?_);obtain rfl:=J8 a;exact J9 [] ⟨rfl,rfl⟩
def F.d3 (e:D23)(a:D83):Option Bool:=if(bif decide (a.2.1≠1)then decide (a.2.1≠15)else false)=true then(some (decide (a.2.2.2.2.1=(ByteArray.mk #[]))))else((F.eN e a.2.1 a.2.2.2.2.1).bind fun f=>((F.eK a.2.2.2.2.1).bind fun h=>(some (bif h then decide (f.1=a.1)else false))))
def F.bK (e:D23)(a:D83)(f:Bool):Option Bool:=if f=true then(some false)else(if a.2.1=14 then(if(bif bif bif decide (a.2.2.2.2.2.1<1)then true else decide ((8:Int)<a.2.2.2.2.2.1)then true else decide (a.2.2.2.2.2.2<1)then true else decide ((4:Int)<a.2.2.2.2.2.2))=true then(some false)else(F.d3 e a))else(if(bif decide (a.2.2.2.2.2.1≠0)then true else decide (a.2.2.2.2.2.2≠0))=true then(some false)else(F.d3 e a)))
def F.eT (e:D23)(f:Int):Option Bool:=(A.ix e f).bind fun a=>(if(bif decide (a.1<1)then true else decide ((255:Int)<a.1))=true then(F.bK e a true)else(if(0:Int)<f then(A.gd (Z.R64 (f-1)) ((A.ix e (f-1)).bind fun h=>(if a.1≤h.1 then(F.bK e a true)else((F.d1 a.2.1).bind fun k=>(if k<0 then(F.bK e a true)else((F.d1 a.2.1).bind fun o=>(F.bK e a (decide ((a.2.2.1.length:Int)≠o)))))))))else((F.d1 a.2.1).bind fun p=>(if p<0 then(F.bK e a true)else((F.d1 a.2.1).bind fun s=>(F.bK e a (decide ((a.2.2.1.length:Int)≠s))))))))
theorem o_bZ(k:D23)(p:Int)(a3:A.h6 p)(r:Bool)(f:F.eT k p=some r):
    A.Ct Tryz.prog 123 [.agg #[.slice A0_ k.length c1_],A.i p] [(0,.sh (.slice T83) [.slice A0_ k.length c1_] k)] [] (fun v H'=>v=.bool r∧H'=[]):=by
 refine J1 Tryz.func123 rfl Tryz.ntmps123 rfl fun w0 F0=>?_;rw[F.eT]at f;refine Jw 1 ?_;refine Va 1 (cs:=[.slice A0_ k.length c1_]) fun g1=>?_;refine J3 1 [] (Vb 2 ?_);refine J2 [1] [] [.n,.b 0 0,.n] [(9,.slice A0_ k.length c1_),(10,A.i p)] ?_;have⟨h,O,f⟩:=Vy f;refine V0 0 2 O fun u=>?_;intro B E b7 o8;refine J2 [] [2] [.e 0 0] [(12,.agg #[A.i h.1,A.i h.2.1,.slice B h.2.2.1.length E,A.i h.2.2.2.1.1,A.i h.2.2.2.1.2.1,.string h.2.2.2.1.2.2,.string h.2.2.2.2.1,A.i h.2.2.2.2.2.1,A.i h.2.2.2.2.2.2])] ?_;refine J5 4 (cs:=l4a) Tryz.zeroValue84 fun g9=>?_;refine Vp 4 [] [A.i h.1,A.i h.2.1,.slice B h.2.2.1.length E,A.i h.2.2.2.1.1,A.i h.2.2.2.1.2.1,.string h.2.2.2.1.2.2,.string h.2.2.2.2.1,A.i h.2.2.2.2.2.1,A.i h.2.2.2.2.2.2] ?_;refine Jy 2 ?_;refine J7 [2,5] [0,1,3,4] (fun x y=>∃(z:Bool),x=[(51,.bool z)]∧y=[]∧F.bK k h z=some r) ?_ ?_
 ·refine A.AX.drF mixed 39 39 [0,1,2,4,8,24,40,72,136,256,768,1280,2048,6144,2048,18432,2048,67584,165888,264192,526336,1058816,2099456,4194560,8390656,16777216,50331648,83886080,150994944,285212672,671088640,1073741824,3221225472,5368709120,1073741824,18253611008,35433480192,78383153152,138512695296] [0,1,2,4,8,24,40,72,128,256,768,1280,2048,6144,2048,18432,2048,67584,165888,264192,526336,1058816,2099456,4194560,8388608,16777216,50331648,83886080,150994944,285212672,536870912,1073741824,3221225472,5368709120,1073741824,18253611008,35433480192,78383153152,138512695296] fun hT16=>?_;refine A.AH.qF hT16 J6 [] [0,1,2,3,4] [4] [] 0 511 30 [(0,.n),(1,.b 0 0),(2,.n),(3,.n),(4,.sy .n),(5,.sy (.b 0 0)),(6,.sy .n),(7,.pk),(8,.n)] [21] [] [(21,.bool (bif decide (h.1<1)then true else decide ((255:Int)<h.1)))] trivial ?_;refine A.AH.cnd (j:=21) rfl f (fun f=>?_) (fun f=>?_)
  ·refine A.AH.qF hT16 J6 [0,1,2,3,4] [0,1,2,3,4] [] [] 511 549755813887 0 [(9,.off),(10,.off),(11,.off),(12,.off),(14,.off),(16,.off),(13,.off),(15,.off),(17,.off),(18,.off),(19,.off),(20,.off),(21,.off),(22,.off),(23,.n),(24,.n),(25,.off),(26,.off),(27,.off),(28,.off),(29,.n),(30,.n),(31,.off),(34,.off),(32,.off),(35,.off),(33,.off),(36,.off),(37,.off),(38,.n)] [51] [] [(51,.bool true)] trivial ?_;refine A.AH.doneF hT16 ?_;exact Vk ⟨true,rfl,rfl,f⟩
  refine A.AH.qF hT16 J6 [0,1,2,3,4] [0,1,2,3,4] [] [] 511 4095 27 [(9,.on .n),(10,.on .n),(11,.on .n)] [24] [] [(24,.bool (decide ((0:Int)<p)))] trivial ?_;refine Uj (j:=24) rfl f ?_ ?_<;>intro o f
  ·have⟨U,f⟩:=Vt f;refine A.AH.qF hT16 J6 [0,1,2,3,4] [0,1,2,3,4] [4,1] [] 4095 262143 21 [(12,.on .n),(14,.on .n),(16,.on .n),(13,.on (.b 0 0)),(15,.on (.b 1 0)),(17,.on .n)] [26,28,30] [Z.R64 (p-1)] [(26,A.i h.1),(28,.slice A0_ k.length c1_),(30,A.i (p-1))] U ?_;have⟨V,I,f⟩:=Vy f;refine Ug 0 5 I fun a4=>?_;intro a5 a6 a7 a8 W;refine Un J6 [0,1,2,3,4] [0,1,2,3,4,5,6] 18 (A.mb 39 524287) (dj:=24) rfl (fun a w hf hh=>Vn (t:=T83) I W hf) ?_;refine A.AH.qF hT16 J6 [0,1,2,3,4,5,6] [0,1,2,3,4,5,6] [] [5] 524287 33554431 14 [(19,.on .n),(20,.on (.e 0 0)),(21,.on .n),(22,.on .n),(23,.n),(24,.n)] [37] [] [(37,.bool (decide (h.1≤V.1)))] trivial ?_;refine Uj (j:=37) rfl f ?_ ?_<;>intro o f
   ·refine A.AH.qF hT16 J6 [0,1,2,3,4,5,6] [0,1,2,3,4,5,6] [] [] 33554431 549755813887 0 [(25,.off),(26,.off),(27,.off),(28,.off),(29,.n),(30,.n),(31,.off),(34,.off),(32,.off),(35,.off),(33,.off),(36,.off),(37,.off),(38,.n)] [51] [] [(51,.bool true)] trivial ?_;refine A.AH.doneF hT16 ?_;exact Vk ⟨true,rfl,rfl,f⟩
   refine A.AH.qF hT16 J6 [0,1,2,3,4,5,6] [0,1,2,3,4,5,6] [4] [] 33554431 134217727 12 [(25,.on .n),(26,.on (.b 0 1))] [39] [] [(39,A.i h.2.1)] trivial ?_;refine A.AH.oneF hT16 27 ?_;refine Vi (dj:=37) rfl rfl ?_;refine Vv 7 [] f (o_ay h.2.1 u.2.1) .nil ?_;rintro X - f _ _ ⟨rfl,rfl,hr28⟩;refine Vf ?_;refine A.AH.nxF 268435455 [0,1,2,3,4,5,6] ?_;refine A.AH.qF hT16 J6 [0,1,2,3,4,5,6] [0,1,2,3,4,5,6] [] [] 268435455 2147483647 8 [(28,.on .n),(29,.n),(30,.n)] [43] [] [(43,.bool (decide (X<0)))] trivial ?_;refine Uj (j:=43) rfl f ?_ ?_<;>intro o f
   ·refine A.AH.qF hT16 J6 [0,1,2,3,4,5,6] [0,1,2,3,4,5,6] [] [] 2147483647 549755813887 0 [(31,.off),(34,.off),(32,.off),(35,.off),(33,.off),(36,.off),(37,.off),(38,.n)] [51] [] [(51,.bool true)] trivial ?_;refine A.AH.doneF hT16 ?_;exact Vk ⟨true,rfl,rfl,f⟩
   refine A.AH.qF hT16 J6 [0,1,2,3,4,5,6] [0,1,2,3,4,5,6] [4] [] 2147483647 68719476735 3 [(31,.on .n),(34,.on .n),(32,.on (.b 0 2)),(35,.on (.b 0 1)),(33,.on .n)] [48,46] [] [(48,A.i h.2.1),(46,A.i (h.2.2.1.length:Int))] trivial ?_;refine A.AH.oneF hT16 36 ?_;refine Vi (dj:=43) rfl rfl ?_;refine Vv 47 [] f (o_ay h.2.1 u.2.1) .nil ?_;rintro J - f _ _ ⟨rfl,rfl,hr31⟩;refine Vf ?_;refine A.AH.nxF 137438953471 [0,1,2,3,4,5,6] ?_;refine A.AH.qF hT16 J6 [0,1,2,3,4,5,6] [0,1,2,3,4,5,6] [] [] 137438953471 549755813887 0 [(37,.on .n),(38,.n)] [51] [] [(51,.bool (decide ((h.2.2.1.length:Int)≠J)))] trivial ?_;refine A.AH.doneF hT16 ?_;exact Vk ⟨(decide ((h.2.2.1.length:Int)≠J)),rfl,rfl,f⟩
  refine A.AH.qF hT16 J6 [0,1,2,3,4] [0,1,2,3,4] [4] [] 4095 134217727 12 [(12,.off),(14,.off),(16,.off),(13,.off),(15,.off),(17,.off),(18,.off),(19,.off),(20,.off),(21,.off),(22,.on .n),(23,.n),(24,.n),(25,.on .n),(26,.on (.b 0 1))] [37,39] [] [(37,.bool false),(39,A.i h.2.1)] trivial ?_;refine A.AH.oneF hT16 27 ?_;refine Vi (dj:=37) rfl rfl ?_;refine Vv 87 [] f (o_ay h.2.1 u.2.1) .nil ?_;rintro Y - f _ _ ⟨rfl,rfl,hr34⟩;refine Vf ?_;refine A.AH.nxF 268435455 [0,1,2,3,4] ?_;refine A.AH.qF hT16 J6 [0,1,2,3,4] [0,1,2,3,4] [] [] 268435455 2147483647 8 [(28,.on .n),(29,.n),(30,.n)] [43] [] [(43,.bool (decide (Y<0)))] trivial ?_;refine Uj (j:=43) rfl f ?_ ?_<;>intro o f
  ·refine A.AH.qF hT16 J6 [0,1,2,3,4] [0,1,2,3,4] [] [] 2147483647 549755813887 0 [(31,.off),(34,.off),(32,.off),(35,.off),(33,.off),(36,.off),(37,.off),(38,.n)] [51] [] [(51,.bool true)] trivial ?_;refine A.AH.doneF hT16 ?_;exact Vk ⟨true,rfl,rfl,f⟩
  refine A.AH.qF hT16 J6 [0,1,2,3,4] [0,1,2,3,4] [4] [] 2147483647 68719476735 3 [(31,.on .n),(34,.on .n),(32,.on (.b 0 2)),(35,.on (.b 0 1)),(33,.on .n)] [48,46] [] [(48,A.i h.2.1),(46,A.i (h.2.2.1.length:Int))] trivial ?_;refine A.AH.oneF hT16 36 ?_;refine Vi (dj:=43) rfl rfl ?_;refine Vv 127 [] f (o_ay h.2.1 u.2.1) .nil ?_;rintro L - f _ _ ⟨rfl,rfl,hr37⟩;refine Vf ?_;refine A.AH.nxF 137438953471 [0,1,2,3,4] ?_;refine A.AH.qF hT16 J6 [0,1,2,3,4] [0,1,2,3,4] [] [] 137438953471 549755813887 0 [(37,.on .n),(38,.n)] [51] [] [(51,.bool (decide ((h.2.2.1.length:Int)≠L)))] trivial ?_;refine A.AH.doneF hT16 ?_;exact Vk ⟨(decide ((h.2.2.1.length:Int)≠L)),rfl,rfl,f⟩
 rintro _ _ ⟨z,rfl,rfl,f⟩;rw[F.bK]at f;refine Ue f ?_ ?_<;>intro o f
 ·refine Jw 1 ?_;refine J3 1 [(4,.bool false)] (Jy 1 ?_);obtain rfl:=J8 f;exact J9 [] ⟨rfl,rfl⟩
 refine V6 2 ?_;refine J7 [2,5] [0,1,3,4] (fun x y=>x=[]∧y=[]∧F.d3 k h=some r) ?_ ?_
 ·refine Jw 1 ?_;refine J2 [4] [] [.n,.b 0 1,.n] [(54,.bool (decide (h.2.1=14)))] (Jy 1 ?_);refine Vu f ?_ ?_<;>intro o f
  ·refine Jw 1 ?_;refine J2 [4] [] [.n,.b 0 7,.n,.n,.sy .n,.sy (.b 0 7),.sy .n,.pk,.n,.sy .n,.sy (.b 0 8),.sy .n,.pk,.n,.sy .n,.sy (.b 0 8),.sy .n,.pk] [(72,.bool (bif bif bif decide (h.2.2.2.2.2.1<1)then true else decide ((8:Int)<h.2.2.2.2.2.1)then true else decide (h.2.2.2.2.2.2<1)then true else decide ((4:Int)<h.2.2.2.2.2.2)))] (Jy 1 ?_);refine Ue f ?_ ?_<;>intro o f
   ·refine Jw 1 ?_;refine J3 1 [(4,.bool false)] (Jy 1 ?_);obtain rfl:=J8 f;exact J9 [] ⟨rfl,rfl⟩
   refine V1 1 ?_;exact Vk ⟨rfl,rfl,f⟩
  refine Jw 1 ?_;refine J2 [4] [] [.n,.b 0 7,.n,.n,.sy .n,.sy (.b 0 8),.sy .n,.pk] [(80,.bool (bif decide (h.2.2.2.2.2.1≠0)then true else decide (h.2.2.2.2.2.2≠0)))] (Jy 1 ?_);refine Ue f ?_ ?_<;>intro o f
  ·refine Jw 1 ?_;refine J3 1 [(4,.bool false)] (Jy 1 ?_);obtain rfl:=J8 f;exact J9 [] ⟨rfl,rfl⟩
  refine V1 1 ?_;exact Vk ⟨rfl,rfl,f⟩
 rintro _ _ ⟨rfl,rfl,f⟩;rw[F.d3]at f;refine Jw 2 ?_;refine J2 [4] [] [.n,.b 0 1,.n,.n,.sy .n,.sy (.b 0 1),.sy .n,.pk] [(88,.bool (bif decide (h.2.1≠1)then decide (h.2.1≠15)else false))] (Jy 1 ?_);refine Ue f ?_ ?_<;>intro o f
 ·refine Jw 1 ?_;refine J2 [4] [] [.n,.b 0 6,.n,.n] [(4,.bool (decide (h.2.2.2.2.1=(ByteArray.mk #[]))))] (Jy 1 ?_);obtain rfl:=J8 f;exact J9 [] ⟨rfl,rfl⟩
 refine Jw 3 ?_;refine J2 [1,4] [] [.b 0 0,.n,.b 1 1,.n,.b 1 6] [(93,.agg #[.slice A0_ k.length c1_]),(95,A.i h.2.1),(97,.string h.2.2.2.2.1)] ?_;refine Vv 167 [] f (o_bB A0_ c1_ k h.2.1 h.2.2.2.2.1 u.2.1 u.2.2.2.2.1) (.s 0 .nil) ?_;rintro N - f _ _ ⟨rfl,rfl,hr13⟩;refine Vf ?_;refine J3 5 [(6,A.i N.1)] (Vb 2 ?_);refine J2 [4] [] [.n,.b 0 6] [(102,.string h.2.2.2.2.1)] ?_;refine Vv 207 [] f (o_bP h.2.2.2.2.1 u.2.2.2.2.1) .nil ?_;rintro a2 - f _ _ ⟨rfl,rfl⟩;refine Vf ?_;refine J2 [4] [] [.n,.sy .n,.sy .n,.sy (.b 0 0),.sy .n,.pk,.n] [(4,.bool (bif a2 then decide (N.1=h.1)else false))] (Jy 1 ?_);obtain rfl:=J8 f;exact J9 [] ⟨rfl,rfl⟩
def F.ex (h:Int):Nat→(List Int)→Int→Option (List Int)
 |0,_,_=>none
 |f+1,e,a=>if a≤h then(A.gd ((List.length (α:=Int) e+List.length (α:=Int) [a])*8≤140737488355328) (A.gd (Z.R64 (a+1)) ((F.ex h f) (e++[a]) (a+1))))else(some e)
def F.cr (a:Int)(e:Int):Option (List Int):=F.ex e A.FU [] a
def F.c3 (a:Int):Option (List Int):=if a=2 then(F.cr 1 8)else(if a=3 then(F.cr 11 13)else(if a=4 then(F.cr 21 22)else(if a=8 then(F.cr 31 34)else(if a=11 then(F.cr 41 42)else(F.cr 1 0)))))
theorem o_bQ (h:Int)(L:A.h6 h)(r:(List Int))(a:F.c3 h=some r):
    A.Ct Tryz.prog 160 [A.i h] [] [] (fun v H'=>∃(A0':Option Addr) (c1':Nat),v=.slice A0' r.length c1'∧H'=[(0,.own A.ti 3 A0' c1' r)]):=by
 refine J1 Tryz.func160 rfl Tryz.ntmps160 rfl fun N O=>?_;rw[F.c3]at a;refine Jw 1 ?_;refine J3 1 [] (Vb 2 ?_);refine J3 2 [(3,A.i 1),(4,A.i 0)] (Jy 1 ?_);refine J7 [] [] (fun x y=>∃(p:Int),∃(s:Int),x=[(3,A.i p),(4,A.i s)]∧y=[]∧A.h6 p∧A.h6 s∧F.cr p s=some r) ?_ ?_
 ·refine Jw 1 ?_;refine J3 1 [(7,A.i h)] (Vb 3 ?_);refine J3 2 [(8,.bool (decide (h=2)))] (Jy 1 ?_);refine Vu a ?_ ?_<;>intro w a
  ·refine Jw 0 ?_;refine J3 2 [(3,A.i 1),(4,A.i 8)] (Uh 1 ?_);exact Vk ⟨1,8,rfl,rfl,(Vd .i64 (1) rfl),(Vd .i64 (8) rfl),a⟩
  refine Jw 1 ?_;refine J3 2 [(10,.bool (decide (h=3)))] (Jy 1 ?_);refine Vu a ?_ ?_<;>intro w a
  ·refine Jw 0 ?_;refine J3 2 [(3,A.i 11),(4,A.i 13)] (Uh 1 ?_);exact Vk ⟨11,13,rfl,rfl,(Vd .i64 (11) rfl),(Vd .i64 (13) rfl),a⟩
  refine Jw 1 ?_;refine J3 2 [(12,.bool (decide (h=4)))] (Jy 1 ?_);refine Vu a ?_ ?_<;>intro w a
  ·refine Jw 0 ?_;refine J3 2 [(3,A.i 21),(4,A.i 22)] (Uh 1 ?_);exact Vk ⟨21,22,rfl,rfl,(Vd .i64 (21) rfl),(Vd .i64 (22) rfl),a⟩
  refine Jw 1 ?_;refine J3 2 [(14,.bool (decide (h=8)))] (Jy 1 ?_);refine Vu a ?_ ?_<;>intro w a
  ·refine Jw 0 ?_;refine J3 2 [(3,A.i 31),(4,A.i 34)] (Uh 1 ?_);exact Vk ⟨31,34,rfl,rfl,(Vd .i64 (31) rfl),(Vd .i64 (34) rfl),a⟩
  refine Jw 1 ?_;refine J3 2 [(16,.bool (decide (h=11)))] (Jy 1 ?_);refine Vu a ?_ ?_<;>intro w a
  ·refine Jw 0 ?_;refine J3 2 [(3,A.i 41),(4,A.i 42)] (Uh 1 ?_);exact Vk ⟨41,42,rfl,rfl,(Vd .i64 (41) rfl),(Vd .i64 (42) rfl),a⟩
  refine V1 2 ?_;exact Vk ⟨1,0,rfl,rfl,(Vd .i64 (1) rfl),J0,a⟩
 rintro _ _ ⟨p,s,rfl,rfl,I,U,a⟩;rw[F.cr]at a;refine Jw 1 ?_;refine J3 1 [(5,.slice none 0 0)] (Vb 3 ?_);refine J3 2 [(6,A.i p)] (Jy 2 ?_);refine Uf 3 A.ti 3 ?_;refine Vo [4] [] (fun f x y=>∃(o:List Int),∃(e:Int),∃(t:Option Addr),∃(u:Nat),x=[(5,.slice t o.length u),(6,A.i e)]∧y=[(3,.own A.ti 3 t u o)]∧A.h6 e∧F.ex s f o e=some r) ⟨[],p,none,0,rfl,rfl,I,a⟩ ?_;rintro z _ _ ⟨o,e,t,u,rfl,rfl,J,a⟩;rcases z with _|z
 ·exact Vm a
 rw[F.ex]at a;refine Jw 2 ?_;refine J3 3 [(21,.bool (decide (e≤s)))] (Jy 1 ?_);refine Vu a ?_ ?_<;>intro w a
 ·refine Jw 4 ?_;refine J3 2 [(24,.slice t o.length u),(25,A.i e)] ?_;refine Vx 6 (ty:=A.ti) (cs:=[A.i e]) [e] ⟨⟨rfl,J⟩,rfl⟩ (fun V=>?_) Tryz.zeroValue3 Tryz.sizeOf3
  have⟨hl14,a⟩:=Vt a;refine V4 (k:=3) [] (Um (k:=6) rfl) inf3 hl14 fun B c13=>?_;refine J3 1 [(5,.slice B ((o++[e]).length) c13)] (Vb 2 ?_);have⟨E,a⟩:=Vt a;refine Uc 3 [Z.R64 (e+1)] [(6,A.i (e+1))] E (Jz ?_);exact Vk ⟨_,Qi _,⟨(o++[e]),(e+1),B,c13,rfl,rfl,(J4 E),a⟩⟩
 refine Jw 3 ?_;refine J3 2 [(2,.slice t o.length u)] (Jy 1 ?_);obtain rfl:=J8 a;exact J9 [(0,3)] ⟨t,u,rfl,rfl⟩
def F.eb (a:D81)(e:Bool):Option Bool:=if e=true then(some (bif decide ((1:Int)≤a.2.1)then decide (a.2.1≤1048576)else false))else(some (decide (a.2.1=0)))
def F.ec (a:D81)(e:Bool):Option Bool:=if e=true then(some (bif decide ((0:Int)≤a.2.1)then decide (a.2.1≤64)else false))else(if a.1=6 then(F.eb a (decide (a.1=6)))else(F.eb a (decide (a.1=11))))
def F.eH (a:D81):Option Bool:=if a.1=3 then(F.ec a (decide (a.1=3)))else(F.ec a (decide (a.1=13)))
theorem o_bl (a:D81)(s:A.h6 a.1)(t:A.h6 a.2.1)(u:a.2.2.size≤maxLen)(r:Bool)(e:F.eH a=some r):
    A.Ct Tryz.prog 161 [.agg #[A.i a.1,A.i a.2.1,.string a.2.2]] [] [] (fun v H'=>v=.bool r∧H'=[]):=by
 refine J1 Tryz.func161 rfl Tryz.ntmps161 rfl fun w x=>?_;rw[F.eH]at e;refine Jw 1 ?_;refine Va 0 (cs:=[A.i a.1,A.i a.2.1,.string a.2.2]) fun y=>?_;refine J3 1 [] (Vb 2 ?_);refine J2 [0] [] [.n,.b 0 0] [(4,A.i a.1)] (Jy 2 ?_);refine J7 [1,4] [0] (fun f h=>∃(k:Bool),f=[(8,.bool k)]∧h=[]∧F.ec a k=some r) ?_ ?_
 ·refine Jw 1 ?_;refine J3 2 [(8,.bool (decide (a.1=3)))] (Jy 1 ?_);refine Vu e ?_ ?_<;>intro o e
  ·refine V1 1 ?_;exact Vk ⟨(decide (a.1=3)),rfl,rfl,e⟩
  refine Jw 0 ?_;refine J3 2 [(8,.bool (decide (a.1=13)))] (Jz ?_);exact Vk ⟨(decide (a.1=13)),rfl,rfl,e⟩
 rintro _ _ ⟨k,rfl,rfl,e⟩;rw[F.ec]at e;refine Ue e ?_ ?_<;>intro o e
 ·refine Jw 1 ?_;refine J2 [0] [] [.n,.b 0 1,.n,.n,.sy .n,.sy (.b 0 1),.sy .n,.pk,.n] [(2,.bool (bif decide ((0:Int)≤a.2.1)then decide (a.2.1≤64)else false))] (Jy 1 ?_);obtain rfl:=J8 e;exact J9 [] ⟨rfl,rfl⟩
 refine J7 [1] [0] (fun f h=>∃(p:Bool),f=[(19,.bool p)]∧h=[]∧F.eb a p=some r) ?_ ?_
 ·refine Jw 1 ?_;refine J3 2 [(19,.bool (decide (a.1=6)))] (Jy 1 ?_);refine Vu e ?_ ?_<;>intro o e
  ·refine V1 1 ?_;exact Vk ⟨(decide (a.1=6)),rfl,rfl,e⟩
  refine Jw 0 ?_;refine J3 2 [(19,.bool (decide (a.1=11)))] (Jz ?_);exact Vk ⟨(decide (a.1=11)),rfl,rfl,e⟩
 rintro _ _ ⟨p,rfl,rfl,e⟩;rw[F.eb]at e;refine Ue e ?_ ?_<;>intro o e
 ·refine Jw 1 ?_;refine J2 [0] [] [.n,.b 0 1,.n,.n,.sy .n,.sy (.b 0 1),.sy .n,.pk,.n] [(2,.bool (bif decide ((1:Int)≤a.2.1)then decide (a.2.1≤1048576)else false))] (Jy 1 ?_);obtain rfl:=J8 e;exact J9 [] ⟨rfl,rfl⟩
 refine Jw 1 ?_;refine J2 [0] [] [.n,.b 0 1,.n,.n] [(2,.bool (decide (a.2.1=0)))] (Jy 1 ?_);obtain rfl:=J8 e;exact J9 [] ⟨rfl,rfl⟩
def F.c4 (a:UInt8):Option Bool:=some (bif decide ((128:Int)≤(a.toNat:Int))then decide ((a.toNat:Int)≤191)else false)
theorem o_aa (a:UInt8)(r:Bool)(e:F.c4 a=some r):
    A.Ct Tryz.prog 192 [.int .u8 (a.toNat:Int)] [] [] (fun v H'=>v=.bool r∧H'=[]):=by
 refine J1 Tryz.func192 rfl Tryz.ntmps192 rfl fun f h=>?_;rw[F.c4]at e;refine Jw 1 ?_;refine J3 1 [] (Vb 2 ?_);refine J2 [] [] [.n,.n,.n,.sy .n,.sy .n,.pk,.n] [(2,.bool (bif decide ((128:Int)≤(a.toNat:Int))then decide ((a.toNat:Int)≤191)else false))] (Jy 1 ?_);obtain rfl:=J8 e;exact J9 [] ⟨rfl,rfl⟩
def F.cu (a:UInt8)(e:UInt8)(f:Bool):Option Int:=if f=true then(if(bif decide ((a.toNat:Int)=240)then decide ((e.toNat:Int)<144)else false)=true then(some 0)else(if(bif decide ((a.toNat:Int)=244)then decide ((143:Int)<(e.toNat:Int))else false)=true then(some 0)else(some 4)))else(some 0)
def F.cS (h:ByteArray)(f:Int)(a:UInt8)(e:UInt8)(k:Bool):Option Int:=if k=true then(if(bif decide ((a.toNat:Int)=224)then decide ((e.toNat:Int)<160)else false)=true then(some 0)else(if(bif decide ((a.toNat:Int)=237)then decide ((159:Int)<(e.toNat:Int))else false)=true then(some 0)else(some 3)))else(if(bif bif decide ((240:Int)≤(a.toNat:Int))then decide ((a.toNat:Int)≤244)else false then decide ((4:Int)≤(h.size:Int)-f)else false)=true then((F.c4 e).bind fun o=>(if o=true then(A.gd (Z.R64 (f+2)) ((A.ix h.data.toList (f+2)).bind fun p=>((F.c4 p).bind fun s=>(if s=true then(A.gd (Z.R64 (f+3)) ((A.ix h.data.toList (f+3)).bind fun t=>((F.c4 t).bind fun u=>(F.cu a e u))))else(F.cu a e false)))))else(F.cu a e false)))else(F.cu a e false))
def F.dd (e:ByteArray)(a:Int)(f:UInt8)(h:UInt8)(k:Bool):Option Int:=if k=true then(some 2)else(if(bif bif decide ((224:Int)≤(f.toNat:Int))then decide ((f.toNat:Int)≤239)else false then decide ((3:Int)≤(e.size:Int)-a)else false)=true then((F.c4 h).bind fun o=>(if o=true then(A.gd (Z.R64 (a+2)) ((A.ix e.data.toList (a+2)).bind fun p=>((F.c4 p).bind fun s=>(F.cS e a f h s))))else(F.cS e a f h false)))else(F.cS e a f h false))
def F.de (e:ByteArray)(f:Int)(a:UInt8)(h:UInt8):Option Int:=if(a.toNat:Int)<128 then(some 1)else(if(bif bif decide ((194:Int)≤(a.toNat:Int))then decide ((a.toNat:Int)≤223)else false then decide ((2:Int)≤(e.size:Int)-f)else false)=true then((F.c4 h).bind fun k=>(F.dd e f a h k))else(F.dd e f a h false))
def F.ej (e:ByteArray)(a:Int):Option Int:=A.gd (Z.R64 ((e.size:Int)-a)) ((A.ix e.data.toList a).bind fun f=>(if(1:Int)<(e.size:Int)-a then(A.gd (Z.R64 (a+1)) ((A.ix e.data.toList (a+1)).bind fun h=>(F.de e a f h)))else(F.de e a f (0:UInt8))))
theorem o_aS (f:ByteArray)(e:Int)(a7:f.size≤maxLen)(a8:A.h6 e)(r:Int)(a:F.ej f e=some r):
    A.Ct Tryz.prog 190 [.string f,A.i e] [] [] (fun v H'=>v=A.i r∧H'=[]∧A.h6 r):=by
 refine J1 Tryz.func190 rfl Tryz.ntmps190 rfl fun w0 F0=>?_;rw[F.ej]at a;refine Jw 1 ?_;refine J3 1 [] (Vb 2 ?_);have⟨E,a⟩:=Vt a;refine Uc 5 [Z.R64 ((f.size:Int)-e)] [(5,A.i ((f.size:Int)-e))] E (Vb 2 ?_);refine J3 2 [(12,.string f),(13,A.i e)] ?_;have⟨h,I,a⟩:=Vy a;refine U1 I ?_;refine J3 1 [(6,.int .u8 (h.toNat:Int))] (Vb 2 ?_);refine J3 1 [(7,.int .u8 0)] (Jy 1 ?_);refine J7 [0,1,5,6] [] (fun o p=>∃(k:UInt8),o=[(7,.int .u8 (k.toNat:Int))]∧p=[]∧F.de f e h k=some r) ?_ ?_
 ·refine Jw 1 ?_;refine J3 2 [(16,.bool (decide ((1:Int)<(f.size:Int)-e)))] (Jy 1 ?_);refine Vu a ?_ ?_<;>intro s a
  ·refine Jw 0 ?_;have⟨J,a⟩:=Vt a;refine Uc 3 [Z.R64 (e+1)] [(17,.string f),(19,A.i (e+1))] J ?_;have⟨x,L,a⟩:=Vy a;refine U1 L ?_;refine J3 1 [(7,.int .u8 (x.toNat:Int))] (Jz ?_);exact Vk ⟨x,rfl,rfl,a⟩
  refine V1 1 ?_;exact Vk ⟨(0:UInt8),rfl,rfl,a⟩
 rintro _ _ ⟨k,rfl,rfl,a⟩;rw[F.de]at a;refine Jw 2 ?_;refine J3 3 [(21,.bool (decide ((h.toNat:Int)<128)))] (Jy 1 ?_);refine Vu a ?_ ?_<;>intro s a
 ·refine Jw 1 ?_;refine J3 1 [(4,A.i 1)] (Jy 1 ?_);obtain rfl:=J8 a;exact J9 [] ⟨rfl,rfl,(Vd .i64 (1) rfl)⟩
 refine J7 [0,1,5,6,7] [] (fun o p=>∃(t:Bool),o=[(24,.bool t)]∧p=[]∧F.dd f e h k t=some r) ?_ ?_
 ·refine Jw 0 ?_;refine J2 [] [] [.n,.n,.n,.sy .n,.sy .n,.pk,.n,.sy .n,.sy .n,.pk,.n] [(35,.bool (bif bif decide ((194:Int)≤(h.toNat:Int))then decide ((h.toNat:Int)≤223)else false then decide ((2:Int)≤(f.size:Int)-e)else false))] ?_;refine Vs (j:=35) rfl a (fun a=>?_) (fun a=>?_)
  ·refine J2 [] [] [.on .n] [(36,.int .u8 (k.toNat:Int))] ?_;refine Vi (dj:=35) rfl rfl ?_;refine Vv 0 [] a (o_aa k) .nil ?_;rintro y - a _ _ ⟨rfl,rfl⟩;refine Vf ?_;refine J3 2 [(24,.bool y)] (Jz ?_);exact Vk ⟨y,rfl,rfl,a⟩
  refine J2 [] [] [.off,.off,.n,.n] [(24,.bool false)] (Jz ?_);exact Vk ⟨false,rfl,rfl,a⟩
 rintro _ _ ⟨t,rfl,rfl,a⟩;rw[F.dd]at a;refine Ue a ?_ ?_<;>intro s a
 ·refine Jw 1 ?_;refine J3 1 [(4,A.i 2)] (Jy 1 ?_);obtain rfl:=J8 a;exact J9 [] ⟨rfl,rfl,(Vd .i64 (2) rfl)⟩
 refine J7 [0,1,5,6,7] [] (fun o p=>∃(u:Bool),o=[(39,.bool u)]∧p=[]∧F.cS f e h k u=some r) ?_ ?_
 ·refine Jw 0 ?_;refine J2 [] [] [.n,.n,.n,.sy .n,.sy .n,.pk,.n,.sy .n,.sy .n,.pk,.n] [(50,.bool (bif bif decide ((224:Int)≤(h.toNat:Int))then decide ((h.toNat:Int)≤239)else false then decide ((3:Int)≤(f.size:Int)-e)else false))] ?_;refine Vs (j:=50) rfl a (fun a=>?_) (fun a=>?_)
  ·refine J2 [] [] [.on .n] [(51,.int .u8 (k.toNat:Int))] ?_;refine Vi (dj:=50) rfl rfl ?_;refine Vv 40 [] a (o_aa k) .nil ?_;rintro N - a _ _ ⟨rfl,rfl⟩;refine Vf ?_;refine J3 2 [(54,.bool N)] ?_;refine Vs (j:=54) rfl a (fun a=>?_) (fun a=>?_)
   ·have⟨O,a⟩:=Vt a;refine A.q [] [] [.on .n,.on .n,.on .n] [Z.R64 (e+2)] [(55,.string f),(57,A.i (e+2))] O ?_;refine Vi (dj:=54) rfl rfl ?_;have⟨U,V,a⟩:=Vy a;refine U1 V ?_;refine Vi (dj:=54) rfl rfl ?_;refine Vv 80 [] a (o_aa U) .nil ?_;rintro z - a _ _ ⟨rfl,rfl⟩;refine Vf ?_;refine J3 2 [(39,.bool z)] (Jz ?_);exact Vk ⟨z,rfl,rfl,a⟩
   refine J2 [] [] [.off,.off,.off,.off,.off,.n,.n] [(39,.bool false)] (Jz ?_);exact Vk ⟨false,rfl,rfl,a⟩
  refine J2 [] [] [.off,.off,.n,.n,.off,.off,.off,.off,.off,.n,.n] [(39,.bool false)] (Jz ?_);exact Vk ⟨false,rfl,rfl,a⟩
 rintro _ _ ⟨u,rfl,rfl,a⟩;rw[F.cS]at a;refine Ue a ?_ ?_<;>intro s a
 ·refine Jw 2 ?_;refine J2 [] [] [.n,.n,.n,.sy .n,.sy .n,.pk,.n] [(67,.bool (bif decide ((h.toNat:Int)=224)then decide ((k.toNat:Int)<160)else false))] ?_;refine Vs (j:=67) rfl a (fun a=>?_) (fun a=>?_)
  ·refine J2 [] [] [.off,.off,.off,.off,.off,.off,.n] [(74,.bool true)] (Jy 1 ?_);refine Ui rfl ?_;refine Jw 1 ?_;refine J3 1 [(4,A.i 0)] (Jy 1 ?_);obtain rfl:=J8 a;exact J9 [] ⟨rfl,rfl,J0⟩
  refine J2 [] [] [.on .n,.on .n,.on .n,.sy .n,.sy .n,.on .pk,.n] [(74,.bool (bif decide ((h.toNat:Int)=237)then decide ((159:Int)<(k.toNat:Int))else false))] (Jy 1 ?_);refine Ue a ?_ ?_<;>intro s a
  ·refine Jw 1 ?_;refine J3 1 [(4,A.i 0)] (Jy 1 ?_);obtain rfl:=J8 a;exact J9 [] ⟨rfl,rfl,J0⟩
  refine Jw 3 ?_;refine J3 1 [(4,A.i 3)] (Jy 1 ?_);obtain rfl:=J8 a;exact J9 [] ⟨rfl,rfl,(Vd .i64 (3) rfl)⟩
 refine J7 [6,7] [] (fun o p=>∃(w:Bool),o=[(75,.bool w)]∧p=[]∧F.cu h k w=some r) ?_ ?_
 ·refine Jw 0 ?_;refine J2 [] [] [.n,.n,.n,.sy .n,.sy .n,.pk,.n,.sy .n,.sy .n,.pk,.n] [(86,.bool (bif bif decide ((240:Int)≤(h.toNat:Int))then decide ((h.toNat:Int)≤244)else false then decide ((4:Int)≤(f.size:Int)-e)else false))] ?_;refine Vs (j:=86) rfl a (fun a=>?_) (fun a=>?_)
  ·refine J2 [] [] [.on .n] [(87,.int .u8 (k.toNat:Int))] ?_;refine Vi (dj:=86) rfl rfl ?_;refine Vv 120 [] a (o_aa k) .nil ?_;rintro W - a _ _ ⟨rfl,rfl⟩;refine Vf ?_;refine J3 2 [(90,.bool W)] ?_;refine Vs (j:=90) rfl a (fun a=>?_) (fun a=>?_)
   ·have⟨X,a⟩:=Vt a;refine A.q [] [] [.on .n,.on .n,.on .n] [Z.R64 (e+2)] [(91,.string f),(93,A.i (e+2))] X ?_;refine Vi (dj:=90) rfl rfl ?_;have⟨Y,a2,a⟩:=Vy a;refine U1 a2 ?_;refine Vi (dj:=90) rfl rfl ?_;refine Vv 160 [] a (o_aa Y) .nil ?_;rintro a3 - a _ _ ⟨rfl,rfl⟩;refine Vf ?_;refine J3 2 [(97,.bool a3)] ?_;refine Vs (j:=97) rfl a (fun a=>?_) (fun a=>?_)
    ·have⟨a4,a⟩:=Vt a;refine A.q [] [] [.on .n,.on .n,.on .n] [Z.R64 (e+3)] [(98,.string f),(100,A.i (e+3))] a4 ?_;refine Vi (dj:=97) rfl rfl ?_;have⟨a5,a6,a⟩:=Vy a;refine U1 a6 ?_;refine Vi (dj:=97) rfl rfl ?_;refine Vv 200 [] a (o_aa a5) .nil ?_;rintro B - a _ _ ⟨rfl,rfl⟩;refine Vf ?_;refine J3 2 [(75,.bool B)] (Jz ?_);exact Vk ⟨B,rfl,rfl,a⟩
    refine J2 [] [] [.off,.off,.off,.off,.off,.n,.n] [(75,.bool false)] (Jz ?_);exact Vk ⟨false,rfl,rfl,a⟩
   refine J2 [] [] [.off,.off,.off,.off,.off,.n,.n,.off,.off,.off,.off,.off,.n,.n] [(75,.bool false)] (Jz ?_);exact Vk ⟨false,rfl,rfl,a⟩
  refine J2 [] [] [.off,.off,.n,.n,.off,.off,.off,.off,.off,.n,.n,.off,.off,.off,.off,.off,.n,.n] [(75,.bool false)] (Jz ?_);exact Vk ⟨false,rfl,rfl,a⟩
 rintro _ _ ⟨w,rfl,rfl,a⟩;rw[F.cu]at a;refine Ue a ?_ ?_<;>intro s a
 ·refine Jw 2 ?_;refine J2 [] [] [.n,.n,.n,.sy .n,.sy .n,.pk,.n] [(110,.bool (bif decide ((h.toNat:Int)=240)then decide ((k.toNat:Int)<144)else false))] ?_;refine Vs (j:=110) rfl a (fun a=>?_) (fun a=>?_)
  ·refine J2 [] [] [.off,.off,.off,.off,.off,.off,.n] [(117,.bool true)] (Jy 1 ?_);refine Ui rfl ?_;refine Jw 1 ?_;refine J3 1 [(4,A.i 0)] (Jy 1 ?_);obtain rfl:=J8 a;exact J9 [] ⟨rfl,rfl,J0⟩
  refine J2 [] [] [.on .n,.on .n,.on .n,.sy .n,.sy .n,.on .pk,.n] [(117,.bool (bif decide ((h.toNat:Int)=244)then decide ((143:Int)<(k.toNat:Int))else false))] (Jy 1 ?_);refine Ue a ?_ ?_<;>intro s a
  ·refine Jw 1 ?_;refine J3 1 [(4,A.i 0)] (Jy 1 ?_);obtain rfl:=J8 a;exact J9 [] ⟨rfl,rfl,J0⟩
  refine Jw 3 ?_;refine J3 1 [(4,A.i 4)] (Jy 1 ?_);obtain rfl:=J8 a;exact J9 [] ⟨rfl,rfl,(Vd .i64 (4) rfl)⟩
 refine Jw 1 ?_;refine J3 1 [(4,A.i 0)] (Jy 1 ?_);obtain rfl:=J8 a;exact J9 [] ⟨rfl,rfl,J0⟩
def F.cT (e:ByteArray):Nat→Int→Option Bool
 |0,_=>none
 |f+1,a=>if a<(e.size:Int)then((F.ej e a).bind fun h=>(if h=0 then(some false)else(A.gd (Z.R64 (a+h)) ((F.cT e f) (a+h)))))else(some true)
def F.eE (a:ByteArray):Option Bool:=F.cT a A.FU 0
theorem o_aT (h:ByteArray)(s:h.size≤maxLen)(r:Bool)(a:F.eE h=some r):
    A.Ct Tryz.prog 182 [.string h] [] [] (fun v H'=>v=.bool r∧H'=[]):=by
 refine J1 Tryz.func182 rfl Tryz.ntmps182 rfl fun y z=>?_;rw[F.eE]at a;refine Jw 1 ?_;refine J3 1 [] (Vb 3 ?_);refine J3 1 [(3,A.i 0)] (Jy 2 ?_);refine Vo [0] [] (fun f t u=>∃(e:Int),t=[(3,A.i e)]∧u=[]∧A.h6 e∧F.cT h f e=some r) ⟨0,rfl,rfl,J0,a⟩ ?_;rintro o _ _ ⟨e,rfl,rfl,w,a⟩;rcases o with _|o
 ·exact Vm a
 rw[F.cT]at a;refine Jw 2 ?_;refine J3 4 [(8,.bool (decide (e<(h.size:Int))))] (Jy 1 ?_);refine Vu a ?_ ?_<;>intro x a
 ·refine Jw 4 ?_;refine J3 2 [(9,.string h),(10,A.i e)] ?_;refine Vv 80 [] a (o_aS h e s w) .nil ?_;rintro k - a _ _ ⟨rfl,rfl,hr6⟩;refine Vf ?_;refine J3 1 [(4,A.i k)] (Vb 3 ?_);refine J3 2 [(13,.bool (decide (k=0)))] (Jy 1 ?_);refine Vu a ?_ ?_<;>intro x a
  ·refine Jw 1 ?_;refine J3 1 [(2,.bool false)] (Jy 1 ?_);obtain rfl:=J8 a;exact J9 [] ⟨rfl,rfl⟩
  refine Jw 2 ?_;have⟨p,a⟩:=Vt a;refine Uc 4 [Z.R64 (e+k)] [(3,A.i (e+k))] p (Uh 1 ?_);exact Vk ⟨_,Qi _,⟨(e+k),rfl,rfl,(J4 p),a⟩⟩
 refine Jw 3 ?_;refine J3 1 [(2,.bool true)] (Jy 1 ?_);obtain rfl:=J8 a;exact J9 [] ⟨rfl,rfl⟩
def F.b5 (k:(List D234)→Int→Option (List D234))(e:List D234)(a:Int)(f:Int)(h:Int):Option (List D234):=A.gd ((List.length (α:=D234) e+List.length (α:=D234) [(a,h)])*16≤140737488355328) (A.gd (Z.R64 (a+f)) (k (e++[(a,h)]) (a+f)))
def F.a6 (e:ByteArray):Nat→(List D234)→Int→Option (List D234)
 |0,_,_=>none
 |f+1,k,a=>if a<(e.size:Int)then((F.ej e a).bind fun h=>(if h=1 then((A.ix e.data.toList a).bind fun o=>(F.b5 (F.a6 e f) k a h (IntKind.i32.wrap ((o.toNat:Int)))))else(if h=2 then(A.gd (Z.R64 (a+1)) ((A.ix e.data.toList a).bind fun p=>(A.gd ((32:Int)≠0) ((A.ix e.data.toList (a+1)).bind fun s=>(A.gd ((64:Int)≠0) (F.b5 (F.a6 e f) k a h (IntKind.i32.wrap ((IntKind.i32.wrap ((IntKind.i32.wrap (Int.tmod (p.toNat:Int) 32))*64))+(IntKind.i32.wrap (Int.tmod (s.toNat:Int) 64))))))))))else(if h=3 then(A.gd (Z.R64 (a+1)∧Z.R64 (a+2)) ((A.ix e.data.toList a).bind fun t=>(A.gd ((16:Int)≠0) ((A.ix e.data.toList (a+1)).bind fun u=>(A.gd ((64:Int)≠0) ((A.ix e.data.toList (a+2)).bind fun w=>(A.gd ((64:Int)≠0) (F.b5 (F.a6 e f) k a h (IntKind.i32.wrap ((IntKind.i32.wrap ((IntKind.i32.wrap ((IntKind.i32.wrap ((IntKind.i32.wrap (Int.tmod (t.toNat:Int) 16))*64))+(IntKind.i32.wrap (Int.tmod (u.toNat:Int) 64))))*64))+(IntKind.i32.wrap (Int.tmod (w.toNat:Int) 64))))))))))))else(if h=4 then(A.gd (Z.R64 (a+1)∧Z.R64 (a+2)∧Z.R64 (a+3)) ((A.ix e.data.toList a).bind fun x=>(A.gd ((8:Int)≠0) ((A.ix e.data.toList (a+1)).bind fun y=>(A.gd ((64:Int)≠0) ((A.ix e.data.toList (a+2)).bind fun z=>(A.gd ((64:Int)≠0) ((A.ix e.data.toList (a+3)).bind fun B=>(A.gd ((64:Int)≠0) (F.b5 (F.a6 e f) k a h (IntKind.i32.wrap ((IntKind.i32.wrap ((IntKind.i32.wrap ((IntKind.i32.wrap ((IntKind.i32.wrap ((IntKind.i32.wrap ((IntKind.i32.wrap (Int.tmod (x.toNat:Int) 8))*64))+(IntKind.i32.wrap (Int.tmod (y.toNat:Int) 64))))*64))+(IntKind.i32.wrap (Int.tmod (z.toNat:Int) 64))))*64))+(IntKind.i32.wrap (Int.tmod (B.toNat:Int) 64))))))))))))))else(F.b5 (F.a6 e f) k a 1 65533))))))else(some k)
def F.eO (a:ByteArray):Option (List D234):=F.a6 a A.FU [] 0
theorem o_bD (o:ByteArray)(a7:o.size≤maxLen)(r:(List D234))(e:F.eO o=some r):
    A.Ct Tryz.prog 183 [.string o] [] [] (fun v H'=>∃(A0':Option Addr) (c1':Nat),v=.slice A0' r.length c1'∧H'=[(0,.own T234 235 A0' c1' r)]):=by
 refine J1 Tryz.func183 rfl Tryz.ntmps183 rfl fun w0 F0=>?_;rw[F.eO]at e;refine Jw 1 ?_;refine J3 1 [] (Vb 2 ?_);refine J3 1 [(3,.slice none 0 0)] (Vb 3 ?_);refine J3 1 [(4,A.i 0)] (Jy 2 ?_);refine Uf 43 T234 235 ?_;refine Vo [0] [] (fun f J L=>∃(s:List D234),∃(h:Int),∃(x:Option Addr),∃(y:Nat),J=[(3,.slice x s.length y),(4,A.i h)]∧L=[(43,.own T234 235 x y s)]∧A.h6 h∧F.a6 o f s h=some r) ⟨[],0,none,0,rfl,rfl,J0,e⟩ ?_;rintro N _ _ ⟨s,h,x,y,rfl,rfl,W,e⟩;rcases N with _|N
 ·exact Vm e
 rw[F.a6]at e;refine Jw 2 ?_;refine J3 4 [(10,.bool (decide (h<(o.size:Int))))] (Jy 1 ?_);refine Vu e ?_ ?_<;>intro B e
 ·refine Jw 4 ?_;refine J3 2 [(11,.string o),(12,A.i h)] ?_;refine Vv 126 [] e (o_aS o h a7 W) .nil ?_;rintro p - e _ _ ⟨rfl,rfl,hr9⟩;refine Vf ?_;refine J3 1 [(5,A.i p)] (Vb 2 ?_);refine J3 1 [(6,.int .i32 65533)] (Jy 1 ?_);refine J7 [0,3,4] l4p (fun J L=>∃(u:Int),∃(t:Int),J=[(5,A.i u),(6,.int .i32 t)]∧L=[]∧A.h6 u∧IntKind.i32.has t∧F.b5 (F.a6 o N) s h u t=some r) ?_ ?_
  ·refine Jw 1 ?_;refine J3 1 [(14,A.i p)] (Vb 3 ?_);refine J3 2 [(15,.bool (decide (p=1)))] (Jy 1 ?_);refine Vu e ?_ ?_<;>intro B e
   ·refine Jw 0 ?_;refine J3 2 [(17,.string o),(18,A.i h)] ?_;have⟨X,a8,e⟩:=Vy e;refine U1 a8 ?_;refine J3 2 [(6,.int .i32 (IntKind.i32.wrap ((X.toNat:Int))))] (Uh 1 ?_);exact Vk ⟨p,(IntKind.i32.wrap ((X.toNat:Int))),rfl,rfl,hr9,(A.wrap_has _ _),e⟩
   refine Jw 1 ?_;refine J3 2 [(21,.bool (decide (p=2)))] (Jy 1 ?_);refine Vu e ?_ ?_<;>intro B e
   ·refine Vl mixed 14 14 (A.mb 14 0) ?_;have⟨a9,e⟩:=Vt e;refine Uq J6 [] l4p [] [] (A.mb 14 451) 9 [(0,.n),(1,.n),(6,.n),(7,.n),(8,.n)] [23,24,29,31] [Z.R64 (h+1)] [(23,.string o),(24,A.i h),(29,.string o),(31,A.i (h+1))] a9 ?_;have⟨O,aa,e⟩:=Vy e;refine Vh J6 l4p l4p 2 (A.mb 14 455) rfl (fun a w hf hh=>U4 aa hf) ?_;have⟨ab,e⟩:=Vt e;refine Uq J6 l4p l4p [] [] (A.mb 14 511) 5 [(3,.n),(4,.n),(5,.n)] [28] [(32:Int)≠0] [(28,.int .i32 (IntKind.i32.wrap ((IntKind.i32.wrap (Int.tmod (O.toNat:Int) 32))*64)))] ab ?_;have⟨Y,ac,e⟩:=Vy e;refine Vh J6 l4p l4p 9 (A.mb 14 1023) rfl (fun a w hf hh=>U4 ac hf) ?_;have⟨ad,e⟩:=Vt e;refine Uq J6 l4p l4p [] [] (A.mb 14 16383) 0 [(10,.n),(11,.n),(12,.n),(13,.n)] [6] [(64:Int)≠0] [(6,.int .i32 (IntKind.i32.wrap ((IntKind.i32.wrap ((IntKind.i32.wrap (Int.tmod (O.toNat:Int) 32))*64))+(IntKind.i32.wrap (Int.tmod (Y.toNat:Int) 64)))))] ad ?_;refine Ve ?_;refine A.ee 1 ?_;exact Vk ⟨p,(IntKind.i32.wrap ((IntKind.i32.wrap ((IntKind.i32.wrap (Int.tmod (O.toNat:Int) 32))*64))+(IntKind.i32.wrap (Int.tmod (Y.toNat:Int) 64)))),rfl,rfl,hr9,(A.wrap_has _ _),e⟩
   refine Jw 1 ?_;refine J3 2 [(36,.bool (decide (p=3)))] (Jy 1 ?_);refine Vu e ?_ ?_<;>intro B e
   ·refine Vl mixed 22 22 (A.mb 22 0) ?_;have⟨ae,e⟩:=Vt e;refine Uq J6 [] l4p [] [] (A.mb 22 115139) 14 [(0,.n),(1,.n),(6,.n),(7,.n),(14,.n),(15,.n),(8,.n),(16,.n)] [38,39,44,52,46,54] [Z.R64 (h+1),Z.R64 (h+2)] [(38,.string o),(39,A.i h),(44,.string o),(52,.string o),(46,A.i (h+1)),(54,A.i (h+2))] ae ?_;have⟨E,af,e⟩:=Vy e;refine Vh J6 l4p l4p 2 (A.mb 22 115143) rfl (fun a w hf hh=>U4 af hf) ?_;have⟨ag,e⟩:=Vt e;refine Uq J6 l4p l4p [] [] (A.mb 22 115199) 10 [(3,.n),(4,.n),(5,.n)] [43] [(16:Int)≠0] [(43,.int .i32 (IntKind.i32.wrap ((IntKind.i32.wrap (Int.tmod (E.toNat:Int) 16))*64)))] ag ?_;have⟨U,ah,e⟩:=Vy e;refine Vh J6 l4p l4p 9 (A.mb 22 115711) rfl (fun a w hf hh=>U4 ah hf) ?_;have⟨ai,e⟩:=Vt e;refine Uq J6 l4p l4p [] [] (A.mb 22 131071) 5 [(10,.n),(11,.n),(12,.n),(13,.n)] [51] [(64:Int)≠0] [(51,.int .i32 (IntKind.i32.wrap ((IntKind.i32.wrap ((IntKind.i32.wrap ((IntKind.i32.wrap (Int.tmod (E.toNat:Int) 16))*64))+(IntKind.i32.wrap (Int.tmod (U.toNat:Int) 64))))*64)))] ai ?_;have⟨a1,aj,e⟩:=Vy e;refine Vh J6 l4p l4p 17 (A.mb 22 262143) rfl (fun a w hf hh=>U4 aj hf) ?_;have⟨ak,e⟩:=Vt e;refine Uq J6 l4p l4p [] [] (A.mb 22 4194303) 0 [(18,.n),(19,.n),(20,.n),(21,.n)] [6] [(64:Int)≠0] [(6,.int .i32 (IntKind.i32.wrap ((IntKind.i32.wrap ((IntKind.i32.wrap ((IntKind.i32.wrap ((IntKind.i32.wrap (Int.tmod (E.toNat:Int) 16))*64))+(IntKind.i32.wrap (Int.tmod (U.toNat:Int) 64))))*64))+(IntKind.i32.wrap (Int.tmod (a1.toNat:Int) 64)))))] ak ?_;refine Ve ?_;refine A.ee 1 ?_;exact Vk ⟨p,(IntKind.i32.wrap ((IntKind.i32.wrap ((IntKind.i32.wrap ((IntKind.i32.wrap ((IntKind.i32.wrap (Int.tmod (E.toNat:Int) 16))*64))+(IntKind.i32.wrap (Int.tmod (U.toNat:Int) 64))))*64))+(IntKind.i32.wrap (Int.tmod (a1.toNat:Int) 64)))),rfl,rfl,hr9,(A.wrap_has _ _),e⟩
   refine Jw 1 ?_;refine J3 2 [(59,.bool (decide (p=4)))] (Jy 1 ?_);refine Vu e ?_ ?_<;>intro B e
   ·refine A.AX.drF mixed 30 30 [0,0,3,4,8,16,0,0,128,320,512,1024,2080,4096,0,0,32768,81920,131072,262144,532480,1048576,0,0,8388608,20971520,33554432,67108864,136314880,536870911] [0,0,3,4,8,16,0,0,128,320,512,1024,2080,4096,0,0,32768,81920,131072,262144,532480,1048576,0,0,8388608,20971520,33554432,67108864,136314880,268435456] fun hT38=>?_;have⟨al,e⟩:=Vt e;refine A.AH.qF hT38 J6 [] [43] [] [] 0 29475267 19 [(0,.n),(1,.n),(6,.n),(7,.n),(14,.n),(15,.n),(22,.n),(23,.n),(8,.n),(16,.n),(24,.n)] [61,62,67,75,83,69,77,85] [Z.R64 (h+1),Z.R64 (h+2),Z.R64 (h+3)] [(61,.string o),(62,A.i h),(67,.string o),(75,.string o),(83,.string o),(69,A.i (h+1)),(77,A.i (h+2)),(85,A.i (h+3))] al ?_;have⟨z,am,e⟩:=Vy e;refine Vh J6 l4p l4p 2 (A.mb 30 29475271) rfl (fun a w hf hh=>U4 am hf) ?_;have⟨an,e⟩:=Vt e;refine A.AH.qF hT38 J6 [43] [43] [] [] 29475271 29475327 15 [(3,.n),(4,.n),(5,.n)] [66] [(8:Int)≠0] [(66,.int .i32 (IntKind.i32.wrap ((IntKind.i32.wrap (Int.tmod (z.toNat:Int) 8))*64)))] an ?_;have⟨I,ao,e⟩:=Vy e;refine Vh J6 l4p l4p 9 (A.mb 30 29475839) rfl (fun a w hf hh=>U4 ao hf) ?_;have⟨aq,e⟩:=Vt e;refine A.AH.qF hT38 J6 [43] [43] [] [] 29475839 29491199 10 [(10,.n),(11,.n),(12,.n),(13,.n)] [74] [(64:Int)≠0] [(74,.int .i32 (IntKind.i32.wrap ((IntKind.i32.wrap ((IntKind.i32.wrap ((IntKind.i32.wrap (Int.tmod (z.toNat:Int) 8))*64))+(IntKind.i32.wrap (Int.tmod (I.toNat:Int) 64))))*64)))] aq ?_;have⟨V,ar,e⟩:=Vy e;refine Vh J6 l4p l4p 17 (A.mb 30 29622271) rfl (fun a w hf hh=>U4 ar hf) ?_;have⟨au,e⟩:=Vt e;refine A.AH.qF hT38 J6 [43] [43] [] [] 29622271 33554431 5 [(18,.n),(19,.n),(20,.n),(21,.n)] [82] [(64:Int)≠0] [(82,.int .i32 (IntKind.i32.wrap ((IntKind.i32.wrap ((IntKind.i32.wrap ((IntKind.i32.wrap ((IntKind.i32.wrap ((IntKind.i32.wrap (Int.tmod (z.toNat:Int) 8))*64))+(IntKind.i32.wrap (Int.tmod (I.toNat:Int) 64))))*64))+(IntKind.i32.wrap (Int.tmod (V.toNat:Int) 64))))*64)))] au ?_;have⟨a2,av,e⟩:=Vy e;refine Vh J6 l4p l4p 25 (A.mb 30 67108863) rfl (fun a w hf hh=>U4 av hf) ?_;have⟨aw,e⟩:=Vt e;refine A.AH.qF hT38 J6 [43] [43] [] [] 67108863 1073741823 0 [(26,.n),(27,.n),(28,.n),(29,.n)] [6] [(64:Int)≠0] [(6,.int .i32 (IntKind.i32.wrap ((IntKind.i32.wrap ((IntKind.i32.wrap ((IntKind.i32.wrap ((IntKind.i32.wrap ((IntKind.i32.wrap ((IntKind.i32.wrap (Int.tmod (z.toNat:Int) 8))*64))+(IntKind.i32.wrap (Int.tmod (I.toNat:Int) 64))))*64))+(IntKind.i32.wrap (Int.tmod (V.toNat:Int) 64))))*64))+(IntKind.i32.wrap (Int.tmod (a2.toNat:Int) 64)))))] aw ?_;refine A.AH.doneF hT38 ?_;refine A.ee 1 ?_;exact Vk ⟨p,(IntKind.i32.wrap ((IntKind.i32.wrap ((IntKind.i32.wrap ((IntKind.i32.wrap ((IntKind.i32.wrap ((IntKind.i32.wrap ((IntKind.i32.wrap (Int.tmod (z.toNat:Int) 8))*64))+(IntKind.i32.wrap (Int.tmod (I.toNat:Int) 64))))*64))+(IntKind.i32.wrap (Int.tmod (V.toNat:Int) 64))))*64))+(IntKind.i32.wrap (Int.tmod (a2.toNat:Int) 64)))),rfl,rfl,hr9,(A.wrap_has _ _),e⟩
   refine Jw 0 ?_;refine J3 1 [(5,A.i 1)] (Uh 1 ?_);exact Vk ⟨1,65533,rfl,rfl,(Vd .i64 (1) rfl),(Vd .i32 (65533) rfl),e⟩
  rintro _ _ ⟨u,t,rfl,rfl,ay,ax,e⟩;rw[F.b5]at e;refine Jw 1 ?_;refine J3 4 [(90,.slice x s.length y),(93,.agg #[A.i h,.int .i32 t])] ?_;refine Vx 166 (ty:=T234) (cs:=[A.i h,.int .i32 t]) [(h,t)] ⟨⟨⟨rfl,W⟩,⟨rfl,ax⟩⟩,rfl⟩ (fun az=>?_) Tryz.zeroValue235 Tryz.sizeOf235
  have⟨hl17,e⟩:=Vt e;refine V4 (k:=43) [] (Um (k:=166) rfl) inf235 hl17 fun a3 a4=>?_;refine J3 1 [(3,.slice a3 ((s++[(h,t)]).length) a4)] (Vb 1 ?_);have⟨a5,e⟩:=Vt e;refine Uc 4 [Z.R64 (h+u)] [(4,A.i (h+u))] a5 (Uh 1 ?_);exact Vk ⟨_,Qi _,⟨(s++[(h,t)]),(h+u),a3,a4,rfl,rfl,(J4 a5),e⟩⟩
 refine Jw 3 ?_;refine J3 2 [(2,.slice x s.length y)] (Jy 1 ?_);obtain rfl:=J8 e;exact J9 [(0,43)] ⟨x,y,rfl,rfl⟩
end Go.Proofs.YtlbnpmfggfbdoaaGreatDoor
end
