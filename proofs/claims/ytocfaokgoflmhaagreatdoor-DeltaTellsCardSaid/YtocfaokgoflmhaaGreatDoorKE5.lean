/- Functions on data, and that the code computes them. * A layer over the small logic, continued: where a law's walk begins. No program in sight. * Plain law of graphs: what the reference and the program say of graphs, as functions on data (no program in sight). * Plain: rounds by a count of steps are recursion over a list; small functions of graphs. * Plain: names, rune by rune; functions of nodes. * Plain: what a text's bytes are, by the reference and by the model's decoder. * Plain: functions of nodes may be; a node for itself. * Plain: what is wrong with nodes, by the program and by the reference. -/
import Derived.Test.YtocfaokgoflmhaaGreatDoorKE0
import Derived.Test.YtocfaokgoflmhaaGreatDoorKE1
import Derived.Test.YtocfaokgoflmhaaGreatDoorKE2
import Derived.Test.YtocfaokgoflmhaaGreatDoorKE3
import Derived.Test.YtocfaokgoflmhaaGreatDoorKE4
import Derived.Lib.TrimUEq
section
set_option linter.unusedVariables false
set_option linter.unusedSimpArgs false
set_option maxRecDepth 20000
set_option maxHeartbeats 8000000
set_option synthInstance.maxSize 1000000
set_option synthInstance.maxHeartbeats 400000
namespace Go.Proofs.YtocfaokgoflmhaaGreatDoor
open Go.RowKit
def F.e (a0:(List D69)):Nat→Int→Option Int
 |0,_=>none
 |f+1,y1=>if y1<((a0).length:Int)then((A.ix a0 y1).bind fun x4=>((F.ck x4).bind fun r11=>(if r11=true then(some y1)else(A.gd (Z.R64 (y1+1)) ((F.e a0 f) (y1+1))))))else(some (-1))
def F.v (a0:(List D69)):Option Int:=F.e a0 A.FU 0
theorem o_g (a0:(List D69))(A0_:Option Addr)(c1_:Nat)(r:Int)(hF:F.v a0=some r):
    A.Ct Tryz.prog 107 [.slice A0_ ((a0).length) c1_,.func (.func 81) #[] #[]] [(0,.ln T69 A0_ c1_ a0)] [] (fun v H'=>v=A.i r∧H'=[]∧A.h6 r):=by
 refine A.Ct.enter Tryz.func107 rfl Tryz.ntmps107 rfl fun w0 F0=>?_;rw[F.v]at hF;refine A.xl 1 ?_;refine A.q0 [] [] [.n] [] (A.dl 3 ?_);refine A.q0 [] [] [.n,.n,.n] [(7,A.i ((a0).length:Int)),(8,A.i 0)] (A.dx 2 ?_);refine A.lp_ [0,1,7] [0] (fun f nl nh=>∃(y1:Int),nl=[(8,A.i y1)]∧nh=[]∧A.h6 y1∧F.e a0 f y1=some r) ⟨0,rfl,rfl,(A.hasl .i64 (0) rfl),hF⟩ ?_;rintro f3 _ _ ⟨y1,rfl,rfl,hy2,hF⟩;rcases f3 with _|f3
 ·exact A.no0 hF
 rw[F.e]at hF;refine A.xl 1 ?_;refine A.q0 [] [] [.n] [(9,.bool (decide (y1<((a0).length:Int))))] (A.dx 2 ?_);refine A.AX.cnd rfl hF ?_ ?_<;>intro hb hF
 ·refine A.xl 5 ?_;refine A.q0 [] [] [.n,.n] [(5,A.i y1)] (A.dl 2 ?_);refine A.q0 [] [] [.n,.n,.n] [(11,.func (.func 81) #[] #[]),(12,.slice A0_ ((a0).length) c1_),(13,A.i y1)] ?_;obtain⟨x4,hv5,hF⟩:=A.bd_some hF;refine A.AL.ixl 0 85 hv5 fun ho6=>?_;intro A7 c8 b9 o10;refine A.q0 [] [85] [.e 0 0] [(15,.agg #[A.i x4.1,A.i x4.2.1,.slice A7 ((x4.2.2.1).length) c8,A.i x4.2.2.2.1.1,A.i x4.2.2.2.1.2.1,.string x4.2.2.2.1.2.2,.string x4.2.2.2.2.1,A.i x4.2.2.2.2.2.1,A.i x4.2.2.2.2.2.2])] ?_;obtain⟨r11,hv12,hF⟩:=A.bd_some hF;refine A.AL.call 87 [] (first:=[]) (cap:=[]) cf81 (o_ah x4 A7 c8 ho6.1 ho6.2.1 ho6.2.2.2.1.1 ho6.2.2.2.1.2.1 ho6.2.2.2.1.2.2 ho6.2.2.2.2.1 ho6.2.2.2.2.2.1 ho6.2.2.2.2.2.2 r11 hv12) (.s 86 .nil) ?_;rintro _ _ ⟨rfl,rfl⟩;refine⟨by kernel_rfl,?_⟩;refine A.dx 1 ?_;refine A.AX.cnb rfl hF ?_ ?_<;>intro hb hF
  ·refine A.xl 1 ?_;refine A.q0 [] [] [.n,.n] [(4,A.i y1)] (A.dx 1 ?_);obtain rfl:=A.si hF;exact A.rt1 [] ⟨rfl,rfl,hy2⟩
  refine A.xl 3 ?_;obtain⟨hc13,hF⟩:=A.gd_some hF;refine A.q [] [] [.n,.n] [Z.R64 (y1+1)] [(8,A.i (y1+1))] hc13 (A.AL.done ?_);exact A.j ⟨_,Nat.lt_succ_self _,⟨(y1+1),rfl,rfl,(Z.i64_has hc13),hF⟩⟩
 refine A.xl 3 ?_;refine A.q0 [] [] [.n] [(4,A.i (-1))] (A.dx 1 ?_);obtain rfl:=A.si hF;exact A.rt1 [] ⟨rfl,rfl,(A.hasl .i64 (-1) rfl)⟩
def F.j (k1:(List D69)→Int→Int→Option (List D69))(y11:Int)(xs16:List D69)(y18:Int):Option (List D69):=A.gd (Z.R64 (y11+1)) (k1 xs16 y18 (y11+1))
def F.b (a0:(List D69)):Nat→(List D69)→Int→Int→Option (List D69)
 |0,_,_,_=>none
 |f+1,xs7,y9,y11=>if y11<((a0).length:Int)then((A.ix xs7 y11).bind fun x21=>((F.ck x21).bind fun r29=>(if(!r29)=true then((A.ix xs7 y9).bind fun x31=>(A.gd (Z.R64 (y9+1)) (F.j (F.b a0 f) y11 (xs7.set y9.toNat x21) (y9+1))))else(F.j (F.b a0 f) y11 xs7 y9))))else(A.gd (0≤y9∧y9.toNat≤(xs7).length) (A.gd (0≤y9∧y9.toNat≤(List.take y9.toNat xs7++List.replicate ((xs7).length -y9.toNat) ((0,0,[],(0,0,(ByteArray.mk #[])),(ByteArray.mk #[]),0,0):D69)).length) (some (List.take y9.toNat (List.take y9.toNat xs7++List.replicate ((xs7).length -y9.toNat) ((0,0,[],(0,0,(ByteArray.mk #[])),(ByteArray.mk #[]),0,0):D69))))))
def F.m (a0:(List D69)):Option (List D69):=(F.v a0).bind fun r1=>(if r1= -1 then(some a0)else(A.gd (Z.R64 (r1+1)) (F.b a0 A.FU a0 r1 (r1+1))))
theorem o_f (a0:(List D69))(A0_:Option Addr)(c1_:Nat)(r:(List D69))(hF:F.m a0=some r):
    A.Ct Tryz.prog 80 [.slice A0_ ((a0).length) c1_,.func (.func 81) #[] #[]] [(0,.own T69 70 A0_ c1_ a0)] (Z.obl A0_++[]) (fun v H'=>∃(A0':Option Addr) (c1':Nat),v=.slice A0' ((r).length) c1'∧H'=[(0,.sh (.slice T69) [.slice A0' (r).length c1'] r)]):=by
 refine A.Ct.enter Tryz.func80 rfl Tryz.ntmps80 rfl fun w0 F0=>?_;rw[F.m]at hF;refine A.xl 1 ?_;refine A.q0 [] [] [.n] [] (A.dl 2 ?_);refine A.q0 [] [] [.n,.n] [(8,.slice A0_ ((a0).length) c1_),(9,.func (.func 81) #[] #[])] ?_;obtain⟨r1,hv2,hF⟩:=A.bd_some hF;refine A.AL.call 1 [] (first:=[]) (cap:=[]) cf107 (o_g a0 A0_ c1_ r1 hv2) (.o 0 .nil) ?_;rintro _ _ ⟨rfl,rfl,hr3⟩;refine⟨by kernel_rfl,?_⟩;refine A.q0 [] [] [.n] [(5,A.i r1)] (A.dl 3 ?_);refine A.q0 [] [] [.n,.n] [(12,.bool (decide (r1= -1)))] (A.dx 1 ?_);refine A.AX.cnd rfl hF ?_ ?_<;>intro hb hF
 ·refine A.xl 1 ?_;refine A.q0 [] [] [.n,.n] [(4,.slice A0_ ((a0).length) c1_)] (A.dx 1 ?_);obtain rfl:=A.si hF;refine A.frz 0 [] ?_;exact A.rt1 [(0,0)] ⟨A0_,c1_,rfl,rfl⟩
 refine A.xl 4 ?_;obtain⟨hc4,hF⟩:=A.gd_some hF;refine A.q [] [] [.n,.n,.n] [Z.R64 (r1+1)] [(6,A.i (r1+1))] hc4 (A.dx 2 ?_);refine A.lp_ [0,1] [] (fun f nl nh=>∃(xs7:List D69),∃(y9:Int),∃(y11:Int),nl=[(5,A.i y9),(6,A.i y11)]∧nh=[(0,.own T69 70 A0_ c1_ xs7)]∧(a0).length=xs7.length∧A.h6 y9∧A.h6 y11∧F.b a0 f xs7 y9 y11=some r) ⟨a0,r1,(r1+1),rfl,rfl,rfl,hr3,(Z.i64_has hc4),hF⟩ ?_;rintro f13 _ _ ⟨xs7,y9,y11,rfl,rfl,hn8,hy10,hy12,hF⟩;rcases f13 with _|f13
 ·exact A.no0 hF
 rw[F.b]at hF;refine A.xl 2 ?_;refine A.q0 [] [] [.n,.n,.n,.n] [(19,.bool (decide (y11<((a0).length:Int))))] (A.dx 1 ?_);refine A.AX.cnd rfl hF ?_ ?_<;>intro hb hF
 ·refine A.xx 2 ?_;refine A.AX.join [0,1,6] [] (fun nl nh=>∃(xs16:List D69),∃(y18:Int),nl=[(5,A.i y18)]∧nh=[(0,.own T69 70 A0_ c1_ xs16)]∧(a0).length=xs16.length∧A.h6 y18∧F.j (F.b a0 f13) y11 xs16 y18=some r) ?_ ?_
  ·refine A.xl 2 ?_;refine A.q0 [] [] [.n,.n] [(22,.slice A0_ ((a0).length) c1_),(23,A.i y11)] ?_;refine A.cst 22 (Z.slice_n (show(a0).length=(xs7).length from hn8)) ?_;obtain⟨x21,hv22,hF⟩:=A.bd_some hF;refine A.AL.ixo 0 133 hv22 fun ho23=>?_;intro A24 c25 g26 hA27;refine A.q0 [] [133] [.e 0 0] [(25,.agg #[A.i x21.1,A.i x21.2.1,.slice A24 ((x21.2.2.1).length) c25,A.i x21.2.2.2.1.1,A.i x21.2.2.2.1.2.1,.string x21.2.2.2.1.2.2,.string x21.2.2.2.2.1,A.i x21.2.2.2.2.2.1,A.i x21.2.2.2.2.2.2])] ?_;refine A.AL.alloc 135 (cs:=[A.i 0,A.i 0,.slice none 0 0,A.i 0,A.i 0,.string (ByteArray.mk #[]),.string (ByteArray.mk #[]),A.i 0,A.i 0]) Tryz.zeroValue70 fun g28=>?_;refine A.sw 135 [] [A.i x21.1,A.i x21.2.1,.slice A24 ((x21.2.2.1).length) c25,A.i x21.2.2.2.1.1,A.i x21.2.2.2.1.2.1,.string x21.2.2.2.1.2.2,.string x21.2.2.2.2.1,A.i x21.2.2.2.2.2.1,A.i x21.2.2.2.2.2.2] ?_;refine A.dl 2 ?_;refine A.q0 [135] [] [.n,.b 0 0] [(26,.func (.func 81) #[] #[]),(27,.agg #[A.i x21.1,A.i x21.2.1,.slice A24 ((x21.2.2.1).length) c25,A.i x21.2.2.2.1.1,A.i x21.2.2.2.1.2.1,.string x21.2.2.2.1.2.2,.string x21.2.2.2.2.1,A.i x21.2.2.2.2.2.1,A.i x21.2.2.2.2.2.2])] ?_;obtain⟨r29,hv30,hF⟩:=A.bd_some hF;refine A.AL.call 136 [] (first:=[]) (cap:=[]) cf81 (o_ah x21 A24 c25 ho23.1 ho23.2.1 ho23.2.2.2.1.1 ho23.2.2.2.1.2.1 ho23.2.2.2.1.2.2 ho23.2.2.2.2.1 ho23.2.2.2.2.2.1 ho23.2.2.2.2.2.2 r29 hv30) (.s 134 .nil) ?_;rintro _ _ ⟨rfl,rfl⟩;refine⟨by kernel_rfl,?_⟩;refine A.q0 [] [] [.n] [(29,.bool (!r29))] (A.dx 1 ?_);refine A.AX.cnb rfl hF ?_ ?_<;>intro hb hF
   ·refine A.xl 1 ?_;refine A.q0 [135] [] [.n,.n,.b 0 0] [(30,.slice A0_ ((a0).length) c1_),(31,A.i y9),(32,.agg #[A.i x21.1,A.i x21.2.1,.slice A24 ((x21.2.2.1).length) c25,A.i x21.2.2.2.1.1,A.i x21.2.2.2.1.2.1,.string x21.2.2.2.1.2.2,.string x21.2.2.2.2.1,A.i x21.2.2.2.2.2.1,A.i x21.2.2.2.2.2.2])] ?_;refine A.cst 30 (Z.slice_n (show(a0).length=(xs7).length from hn8)) ?_;obtain⟨x31,hv32,hF⟩:=A.bd_some hF;refine A.AL.ixo 0 176 hv32 fun ho33=>?_;intro A34 c35 g36 hA37;refine A.AL.setel 0 176 [133,176] (o:=0) (m:=9) (t:=T69) (new:=[A.i x21.1,A.i x21.2.1,.slice A24 ((x21.2.2.1).length) c25,A.i x21.2.2.2.1.1,A.i x21.2.2.2.1.2.1,.string x21.2.2.2.1.2.2,.string x21.2.2.2.2.1,A.i x21.2.2.2.2.2.1,A.i x21.2.2.2.2.2.2]) (es:=[A.i x31.1,A.i x31.2.1,.slice A34 ((x31.2.2.1).length) c35,A.i x31.2.2.2.1.1,A.i x31.2.2.2.1.2.1,.string x31.2.2.2.1.2.2,.string x31.2.2.2.2.1,A.i x31.2.2.2.2.2.1,A.i x31.2.2.2.2.2.2]) x21 hv32 hA37 ⟨⟨rfl,ho23.1⟩,⟨rfl,ho23.2.1⟩,.inl ⟨134,rfl⟩,⟨⟨rfl,ho23.2.2.2.1.1⟩,⟨rfl,ho23.2.2.2.1.2.1⟩,⟨rfl,ho23.2.2.2.1.2.2⟩⟩,⟨rfl,ho23.2.2.2.2.1⟩,⟨rfl,ho23.2.2.2.2.2.1⟩,⟨rfl,ho23.2.2.2.2.2.2⟩⟩ ?_;refine A.dl 1 ?_;obtain⟨hc38,hF⟩:=A.gd_some hF;refine A.q [] [] [.n,.n,.n] [Z.R64 (y9+1)] [(5,A.i (y9+1))] hc38 (A.de 1 ?_);exact A.j ⟨(xs7.set y9.toNat x21),(y9+1),rfl,rfl,(by rw[List.length_set];exact hn8),(Z.i64_has hc38),hF⟩
   refine A.xe 2 ?_;exact A.j ⟨xs7,y9,rfl,rfl,hn8,hy10,hF⟩
  rintro _ _ ⟨xs16,y18,rfl,rfl,hn17,hy19,hF⟩;rw[F.j]at hF;refine A.xl 0 ?_;obtain⟨hc20,hF⟩:=A.gd_some hF;refine A.q [] [] [.n,.n,.n] [Z.R64 (y11+1)] [(6,A.i (y11+1))] hc20 (A.AL.done ?_);exact A.j ⟨_,Nat.lt_succ_self _,⟨xs16,y18,(y11+1),rfl,rfl,hn17,hy19,(Z.i64_has hc20),hF⟩⟩
 refine A.xl 3 ?_;refine A.q0 [] [] [.n,.n] [(36,.slice A0_ ((a0).length) c1_),(37,A.i y9)] ?_;refine A.cst 36 (Z.slice_n (show(a0).length=(xs7).length from hn8)) ?_;obtain⟨hc39,hF⟩:=A.gd_some hF;refine A.AL.clr 0 [] (t:=T69) (u:=y9.toNat) (zs:=[A.i 0,A.i 0,.slice none 0 0,A.i 0,A.i 0,.string (ByteArray.mk #[]),.string (ByteArray.mk #[]),A.i 0,A.i 0]) ((0,0,[],(0,0,(ByteArray.mk #[])),(ByteArray.mk #[]),0,0):D69) (Int.toNat_of_nonneg hc39.1).symm hc39.2 Tryz.zeroValue70 ⟨⟨rfl,by decide⟩,⟨rfl,by decide⟩,(.inr ⟨rfl,rfl⟩),⟨⟨rfl,by decide⟩,⟨rfl,by decide⟩,⟨rfl,by decide⟩⟩,⟨rfl,by decide⟩,⟨rfl,by decide⟩,⟨rfl,by decide⟩⟩ ?_ Tryz.sizeOf70
 refine A.dl 2 ?_;refine A.q0 [] [] [.n,.n] [(39,.slice A0_ ((a0).length) c1_),(40,A.i y9)] ?_;refine A.cst 39 (Z.slice_n (show(a0).length=(List.take y9.toNat xs7++List.replicate ((xs7).length -y9.toNat) ((0,0,[],(0,0,(ByteArray.mk #[])),(ByteArray.mk #[]),0,0):D69)).length from(Eq.trans hn8 (by rw[List.length_append,List.length_take,List.length_replicate];omega)))) ?_;obtain⟨hc40,hF⟩:=A.gd_some hF;refine A.AL.cuto 0 [] (v:=y9.toNat) (Int.toNat_of_nonneg hc40.1).symm hc40.2 ?_;refine A.q0 [] [] [.n] [(4,.slice A0_ ((List.take y9.toNat (List.take y9.toNat xs7++List.replicate ((xs7).length -y9.toNat) ((0,0,[],(0,0,(ByteArray.mk #[])),(ByteArray.mk #[]),0,0):D69))).length) c1_)] (A.dx 1 ?_);obtain rfl:=A.si hF;refine A.frz 0 [] ?_;exact A.rt1 [(0,0)] ⟨A0_,c1_,rfl,rfl⟩
def F.c9 (a0:D23):Option (List D69):=(F.ab a0).bind fun r2=>((F.m r2).bind fun r6=>(some r6))
theorem o_aq (a0:D23)(A0_:Option Addr)(c1_:Nat)(r:(List D69))(hF:F.c9 a0=some r):
    A.Ct Tryz.prog 44 [.agg #[.slice A0_ ((a0).length) c1_]] [(0,.sh (.slice T69) [.slice A0_ (a0).length c1_] a0)] [] (fun v H'=>∃(A0':Option Addr) (c1':Nat),v=.slice A0' ((r).length) c1'∧H'=[(0,.sh (.slice T69) [.slice A0' (r).length c1'] r)]):=by
 refine A.Ct.enter Tryz.func44 rfl Tryz.ntmps44 rfl fun w0 F0=>?_;rw[F.c9]at hF;refine A.xl 1 ?_;refine A.AL.box 1 (cs:=[.slice A0_ ((a0).length) c1_]) fun g1=>?_;refine A.q0 [] [] [.n] [] (A.dl 2 ?_);refine A.q0 [1] [] [.n,.b 0 0] [(4,.slice A0_ ((a0).length) c1_)] ?_;obtain⟨r2,hv3,hF⟩:=A.bd_some hF;refine A.AL.call 2 [] (first:=[]) (cap:=[]) cf75 (o_i a0 A0_ c1_ r2 hv3) (.l 0 .nil) ?_;rintro _ _ ⟨A4,c5,rfl,rfl⟩;refine⟨by kernel_rfl,?_⟩;obtain⟨r6,hv7,hF⟩:=A.bd_some hF;refine A.AL.call 42 [] (first:=[]) (cap:=[]) cf80 (o_f r2 A4 c5 r6 hv7) (.m 2 .nil) ?_;rintro _ _ ⟨A8,c9,rfl,rfl⟩;refine⟨by kernel_rfl,?_⟩;refine A.q0 [] [] [.n] [(2,.slice A8 ((r6).length) c9)] (A.dx 1 ?_);obtain rfl:=A.si hF;exact A.rt1 [(0,42)] ⟨A8,c9,rfl,rfl⟩
def F.cl (a0:D69)(a1:D69):Option Bool:=(F.cI [a0] [a1]).bind fun r5=>(some r5)
theorem o_aQ (a0:D69)(a1:D69)(A2_:Option Addr)(c3_:Nat)(A12_:Option Addr)(c13_:Nat)(h0_:A.h6 a0.1)(h1_:A.h6 a0.2.1)(h4_:A.h6 a0.2.2.2.1.1)(h5_:A.h6 a0.2.2.2.1.2.1)(h6_:a0.2.2.2.1.2.2.size≤maxLen)(h7_:a0.2.2.2.2.1.size≤maxLen)(h8_:A.h6 a0.2.2.2.2.2.1)(h9_:A.h6 a0.2.2.2.2.2.2)(h10_:A.h6 a1.1)(h11_:A.h6 a1.2.1)(h14_:A.h6 a1.2.2.2.1.1)(h15_:A.h6 a1.2.2.2.1.2.1)(h16_:a1.2.2.2.1.2.2.size≤maxLen)(h17_:a1.2.2.2.2.1.size≤maxLen)(h18_:A.h6 a1.2.2.2.2.2.1)(h19_:A.h6 a1.2.2.2.2.2.2)(r:Bool)(hF:F.cl a0 a1=some r):
    A.Ct Tryz.prog 45 [.agg #[A.i a0.1,A.i a0.2.1,.slice A2_ ((a0.2.2.1).length) c3_,A.i a0.2.2.2.1.1,A.i a0.2.2.2.1.2.1,.string a0.2.2.2.1.2.2,.string a0.2.2.2.2.1,A.i a0.2.2.2.2.2.1,A.i a0.2.2.2.2.2.2],.agg #[A.i a1.1,A.i a1.2.1,.slice A12_ ((a1.2.2.1).length) c13_,A.i a1.2.2.2.1.1,A.i a1.2.2.2.1.2.1,.string a1.2.2.2.1.2.2,.string a1.2.2.2.2.1,A.i a1.2.2.2.2.2.1,A.i a1.2.2.2.2.2.2]] [(0,.sh A.TI [.slice A2_ (a0.2.2.1).length c3_] a0.2.2.1),(1,.sh A.TI [.slice A12_ (a1.2.2.1).length c13_] a1.2.2.1)] [] (fun v H'=>v=.bool r∧H'=[]):=by
 refine A.Ct.enter Tryz.func45 rfl Tryz.ntmps45 rfl fun w0 F0=>?_;rw[F.cl]at hF;refine A.xl 1 ?_;refine A.AL.box 2 (cs:=[A.i a0.1,A.i a0.2.1,.slice A2_ ((a0.2.2.1).length) c3_,A.i a0.2.2.2.1.1,A.i a0.2.2.2.1.2.1,.string a0.2.2.2.1.2.2,.string a0.2.2.2.2.1,A.i a0.2.2.2.2.2.1,A.i a0.2.2.2.2.2.2]) fun g1=>?_;refine A.AL.box 3 (cs:=[A.i a1.1,A.i a1.2.1,.slice A12_ ((a1.2.2.1).length) c13_,A.i a1.2.2.2.1.1,A.i a1.2.2.2.1.2.1,.string a1.2.2.2.1.2.2,.string a1.2.2.2.2.1,A.i a1.2.2.2.2.2.1,A.i a1.2.2.2.2.2.2]) fun g2=>?_;refine A.q0 [] [] [.n] [] (A.dl 2 ?_);refine A.q0 [2] [] [.b 0 0] [(5,.agg #[A.i a0.1,A.i a0.2.1,.slice A2_ ((a0.2.2.1).length) c3_,A.i a0.2.2.2.1.1,A.i a0.2.2.2.1.2.1,.string a0.2.2.2.1.2.2,.string a0.2.2.2.2.1,A.i a0.2.2.2.2.2.1,A.i a0.2.2.2.2.2.2])] ?_;refine A.AL.bsl 4 (ty:=T69) (cs:=[A.i a0.1,A.i a0.2.1,.slice A2_ ((a0.2.2.1).length) c3_,A.i a0.2.2.2.1.1,A.i a0.2.2.2.1.2.1,.string a0.2.2.2.1.2.2,.string a0.2.2.2.2.1,A.i a0.2.2.2.2.2.1,A.i a0.2.2.2.2.2.2]) [a0] ⟨⟨⟨rfl,h0_⟩,⟨rfl,h1_⟩,.inl ⟨0,rfl⟩,⟨⟨rfl,h4_⟩,⟨rfl,h5_⟩,⟨rfl,h6_⟩⟩,⟨rfl,h7_⟩,⟨rfl,h8_⟩,⟨rfl,h9_⟩⟩,rfl⟩ (fun g3=>?_) Tryz.zeroValue70 Tryz.sizeOf70
 refine A.q0 [3] [] [.n,.b 0 0] [(7,.agg #[.slice (some ⟨g3,0,none⟩) 1 1]),(8,.agg #[A.i a1.1,A.i a1.2.1,.slice A12_ ((a1.2.2.1).length) c13_,A.i a1.2.2.2.1.1,A.i a1.2.2.2.1.2.1,.string a1.2.2.2.1.2.2,.string a1.2.2.2.2.1,A.i a1.2.2.2.2.2.1,A.i a1.2.2.2.2.2.2])] ?_;refine A.AL.bsl 5 (ty:=T69) (cs:=[A.i a1.1,A.i a1.2.1,.slice A12_ ((a1.2.2.1).length) c13_,A.i a1.2.2.2.1.1,A.i a1.2.2.2.1.2.1,.string a1.2.2.2.1.2.2,.string a1.2.2.2.2.1,A.i a1.2.2.2.2.2.1,A.i a1.2.2.2.2.2.2]) [a1] ⟨⟨⟨rfl,h10_⟩,⟨rfl,h11_⟩,.inl ⟨1,rfl⟩,⟨⟨rfl,h14_⟩,⟨rfl,h15_⟩,⟨rfl,h16_⟩⟩,⟨rfl,h17_⟩,⟨rfl,h18_⟩,⟨rfl,h19_⟩⟩,rfl⟩ (fun g4=>?_) Tryz.zeroValue70 Tryz.sizeOf70
 refine A.q0 [] [] [.n] [(10,.agg #[.slice (some ⟨g4,0,none⟩) 1 1])] ?_;refine A.frz 4 [] ?_;refine A.frz 5 [] ?_;obtain⟨r5,hv6,hF⟩:=A.bd_some hF;refine A.AL.call 6 [] (first:=[]) (cap:=[]) cf43 (o_ag [a0] [a1] (some ⟨g3,0,none⟩) 1 (some ⟨g4,0,none⟩) 1 r5 hv6) (.s 4 (.s 5 .nil)) ?_;rintro _ _ ⟨rfl,rfl⟩;refine⟨by kernel_rfl,?_⟩;refine A.q0 [] [] [.n] [(4,.bool r5)] (A.dx 1 ?_);obtain rfl:=A.si hF;exact A.rt1 [] ⟨rfl,rfl⟩
def F.dr (k4:(List Int)→Int→Option (D27×Int))(y30:Int)(xs35:List Int):Option (D27×Int):=A.gd (Z.R64 (y30+1)) (k4 xs35 (y30+1))
def F.ds (k5:(List D69)→Int→Option (D27×Int))(y62:Int)(xs67:List D69):Option (D27×Int):=A.gd (Z.R64 (y62+1)) (k5 xs67 (y62+1))
def F.cA (k5:(List D69)→Int→Option (D27×Int))(xs61:List D69)(y62:Int)(x69:D69)(y83:Bool):Option (D27×Int):=if y83=true then(A.gd ((List.length (α:=D69) xs61+List.length (α:=D69) [x69])*104≤140737488355328) (F.ds k5 y62 (xs61++[x69])))else(F.ds k5 y62 xs61)
def F.aB (r20:(List (Int×D69)))(xs29:List Int)(r55:D23):Nat→(List D69)→Int→Option (D27×Int)
 |0,_,_=>none
 |f+1,xs61,y62=>if y62<((r55).length:Int)then((A.ix r55 y62).bind fun x69=>(A.lt (Z.mget ((0,0,[],(0,0,(ByteArray.mk #[])),(ByteArray.mk #[]),0,0):D69) r20 x69.1) fun x77=>(if(!(Z.mhas r20 x69.1))=true then(F.cA (F.aB r20 xs29 r55 f) xs61 y62 x69 true)else((F.cl x77 x69).bind fun r88=>(F.cA (F.aB r20 xs29 r55 f) xs61 y62 x69 (!r88))))))else(some ((xs29,xs61,[]),0))
def F.bh (a0:D23)(a1:D23)(r20:(List (Int×D69)))(r23:(List (Int×D69))):Nat→(List Int)→Int→Option (D27×Int)
 |0,_,_=>none
 |f+1,xs29,y30=>if y30<((a0).length:Int)then((A.ix a0 y30).bind fun x37=>(A.lt (Z.mget ((0,0,[],(0,0,(ByteArray.mk #[])),(ByteArray.mk #[]),0,0):D69) r23 x37.1) fun x45=>(if(!(Z.mhas r23 x37.1))=true then(A.gd ((List.length (α:=Int) xs29+List.length (α:=Int) [x37.1])*8≤140737488355328) (F.dr (F.bh a0 a1 r20 r23 f) y30 (xs29++[x37.1])))else(F.dr (F.bh a0 a1 r20 r23 f) y30 xs29))))else((F.dw a1).bind fun r55=>(F.aB r20 xs29 r55 A.FU [] 0))
def F.d6 (a0:D23)(a1:D23):Option (D27×Int):=(F.bp a0).bind fun r4=>(if r4≠0 then(some (([],[],[]),r4))else((F.bp a1).bind fun r7=>(if r7≠0 then(some (([],[],[]),r7))else((F.c9 a0).bind fun r10=>((F.c9 a1).bind fun r14=>((F.cI r10 r14).bind fun r18=>(if(!r18)=true then(some (([],[],[]),90))else((F.b9 a0).bind fun r20=>((F.b9 a1).bind fun r23=>(F.bh a0 a1 r20 r23 A.FU [] 0))))))))))
theorem o_bp (a0:D23)(a1:D23)(A0_:Option Addr)(c1_:Nat)(A2_:Option Addr)(c3_:Nat)(r:D27×Int)(hF:F.d6 a0 a1=some r):
    A.Ct Tryz.prog 15 [.agg #[.slice A0_ ((a0).length) c1_],.agg #[.slice A2_ ((a1).length) c3_]] [(0,.sh (.slice T69) [.slice A0_ (a0).length c1_] a0),(1,.sh (.slice T69) [.slice A2_ (a1).length c3_] a1),(2,.el none 0 0 A.tabF),(3,.el none 1 0 A.tabA)] [] (fun v H'=>∃(A0':Option Addr) (c1':Nat) (A2':Option Addr) (c3':Nat) (A4':Option Addr) (c5':Nat),v=.tuple #[.agg #[.slice A0' ((r.1.1).length) c1',.slice A2' ((r.1.2.1).length) c3',.slice A4' ((r.1.2.2).length) c5'],A.i r.2]∧H'=[(0,.sh A.TI [.slice A0' (r.1.1).length c1'] r.1.1),(1,.sh (.slice T69) [.slice A2' (r.1.2.1).length c3'] r.1.2.1),(2,.sh (.slice T82) [.slice A4' (r.1.2.2).length c5'] r.1.2.2)]∧A.h6 r.2):=by
 refine A.Ct.enter Tryz.func15 rfl Tryz.ntmps15 rfl fun w0 F0=>?_;rw[F.d6]at hF;refine A.xl 1 ?_;refine A.AL.box 4 (cs:=[.slice A0_ ((a0).length) c1_]) fun g1=>?_;refine A.AL.box 5 (cs:=[.slice A2_ ((a1).length) c3_]) fun g2=>?_;refine A.AL.alloc 6 (cs:=[.slice none 0 0,.slice none 0 0,.slice none 0 0]) Tryz.zeroValue28 fun g3=>?_;refine A.q0 [] [] [.n] [] (A.dl 3 ?_);refine A.q0 [4] [] [.b 0 0] [(19,.agg #[.slice A0_ ((a0).length) c1_])] ?_;obtain⟨r4,hv5,hF⟩:=A.bd_some hF;refine A.AL.call 7 [] (first:=[]) (cap:=[]) cf36 (o_v a0 A0_ c1_ r4 hv5) (.s 0 (.s 2 (.s 3 .nil))) ?_;rintro _ _ ⟨rfl,rfl,hr6⟩;refine⟨by kernel_rfl,?_⟩;refine A.q0 [] [] [.n] [(6,A.i r4)] (A.dl 2 ?_);refine A.q0 [] [] [.n,.n] [(22,.bool (decide (r4≠0)))] (A.dx 1 ?_);refine A.AX.cnd rfl hF ?_ ?_<;>intro hb hF
 ·refine A.xl 1 ?_;refine A.q0 [] [] [.n,.n] [(23,.agg #[.slice none 0 0,.slice none 0 0,.slice none 0 0]),(24,A.i r4)] ?_;refine A.sw 6 [] [.slice none 0 0,.slice none 0 0,.slice none 0 0] ?_;refine A.q0 [] [] [.n] [(5,A.i r4)] (A.dx 1 ?_);obtain rfl:=A.si hF;refine A.snil 47 A.ti ?_;refine A.snil 48 T69 ?_;refine A.snil 49 T82 ?_;exact A.AX.ret [(0,47),(1,48),(2,49)] (.tuple #[.agg #[.slice none 0 0,.slice none 0 0,.slice none 0 0],A.i r4]) (fun a w hf hh=>Z.resv2 rfl (Z.rv_n hf rfl Tryz.isAgg28 Tryz.sizeOf28 (A.Hp.blk hh 6) rfl) (Z.rv_t hf rfl)) (⟨none,0,none,0,none,0,rfl,rfl,hr6⟩)
 refine A.xl 4 ?_;refine A.q0 [5] [] [.b 0 0] [(25,.agg #[.slice A2_ ((a1).length) c3_])] ?_;obtain⟨r7,hv8,hF⟩:=A.bd_some hF;refine A.AL.call 50 [] (first:=[]) (cap:=[]) cf36 (o_v a1 A2_ c3_ r7 hv8) (.s 1 (.s 2 (.s 3 .nil))) ?_;rintro _ _ ⟨rfl,rfl,hr9⟩;refine⟨by kernel_rfl,?_⟩;refine A.q0 [] [] [.n] [(7,A.i r7)] (A.dl 2 ?_);refine A.q0 [] [] [.n,.n] [(28,.bool (decide (r7≠0)))] (A.dx 1 ?_);refine A.AX.cnd rfl hF ?_ ?_<;>intro hb hF
 ·refine A.xl 1 ?_;refine A.q0 [] [] [.n,.n] [(29,.agg #[.slice none 0 0,.slice none 0 0,.slice none 0 0]),(30,A.i r7)] ?_;refine A.sw 6 [] [.slice none 0 0,.slice none 0 0,.slice none 0 0] ?_;refine A.q0 [] [] [.n] [(5,A.i r7)] (A.dx 1 ?_);obtain rfl:=A.si hF;refine A.snil 90 A.ti ?_;refine A.snil 91 T69 ?_;refine A.snil 92 T82 ?_;exact A.AX.ret [(0,90),(1,91),(2,92)] (.tuple #[.agg #[.slice none 0 0,.slice none 0 0,.slice none 0 0],A.i r7]) (fun a w hf hh=>Z.resv2 rfl (Z.rv_n hf rfl Tryz.isAgg28 Tryz.sizeOf28 (A.Hp.blk hh 6) rfl) (Z.rv_t hf rfl)) (⟨none,0,none,0,none,0,rfl,rfl,hr9⟩)
 refine A.xx 4 ?_;refine A.AX.dr mixed 8 8 (A.mb 8 0) ?_;refine A.hq A.pb [] [0,1,2,3,4,5,6] [4,5] [] (A.mb 8 9) 6 [(0,.b 0 0),(3,.b 1 0)] [(31,.agg #[.slice A0_ ((a0).length) c1_]),(34,.agg #[.slice A2_ ((a1).length) c3_])] ?_;refine A.AH.one 1 ?_;obtain⟨r10,hv11,hF⟩:=A.bd_some hF;refine A.AL.call 93 [] (first:=[]) (cap:=[]) cf44 (o_aq a0 A0_ c1_ r10 hv11) (.s 0 .nil) ?_;rintro _ _ ⟨A12,c13,rfl,rfl⟩;refine⟨by kernel_rfl,?_⟩;refine A.AH.nx (A.mb 8 11) [0,1,2,3,4,5,6] ?_;refine A.hq A.pb [0,1,2,3,4,5,6] [0,1,2,3,4,5,6,93] [] [] (A.mb 8 15) 4 [(2,.n)] [(33,.agg #[.slice A12 ((r10).length) c13])] ?_;refine A.AH.one 4 ?_;obtain⟨r14,hv15,hF⟩:=A.bd_some hF;refine A.AL.call 133 [] (first:=[]) (cap:=[]) cf44 (o_aq a1 A2_ c3_ r14 hv15) (.s 1 .nil) ?_;rintro _ _ ⟨A16,c17,rfl,rfl⟩;refine⟨by kernel_rfl,?_⟩;refine A.AH.nx (A.mb 8 31) [0,1,2,3,4,5,6,93] ?_;refine A.hq A.pb [0,1,2,3,4,5,6,93] [0,1,2,3,4,5,6,93,133] [] [] (A.mb 8 63) 2 [(5,.n)] [(36,.agg #[.slice A16 ((r14).length) c17])] ?_;refine A.AH.one 6 ?_;obtain⟨r18,hv19,hF⟩:=A.bd_some hF;refine A.AL.call 173 [] (first:=[]) (cap:=[]) cf43 (o_ag r10 r14 A12 c13 A16 c17 r18 hv19) (.s 93 (.s 133 .nil)) ?_;rintro _ _ ⟨rfl,rfl⟩;refine⟨by kernel_rfl,?_⟩;refine A.AH.nx (A.mb 8 127) [0,1,2,3,4,5,6,93,133] ?_;refine A.hq A.pb [0,1,2,3,4,5,6,93,133] [0,1,2,3,4,5,6,93,133] [] [] (A.mb 8 255) 0 [(7,.n)] [(38,.bool (!r18))] (A.AH.done ?_);refine A.ex 1 ?_;refine A.AX.cnb rfl hF ?_ ?_<;>intro hb hF
 ·refine A.xl 1 ?_;refine A.q0 [] [] [.n] [(39,.agg #[.slice none 0 0,.slice none 0 0,.slice none 0 0])] ?_;refine A.sw 6 [] [.slice none 0 0,.slice none 0 0,.slice none 0 0] ?_;refine A.q0 [] [] [.n] [(5,A.i 90)] (A.dx 1 ?_);obtain rfl:=A.si hF;refine A.snil 213 A.ti ?_;refine A.snil 214 T69 ?_;refine A.snil 215 T82 ?_;exact A.AX.ret [(0,213),(1,214),(2,215)] (.tuple #[.agg #[.slice none 0 0,.slice none 0 0,.slice none 0 0],A.i 90]) (fun a w hf hh=>Z.resv2 rfl (Z.rv_n hf rfl Tryz.isAgg28 Tryz.sizeOf28 (A.Hp.blk hh 6) rfl) (Z.rv_t hf rfl)) (⟨none,0,none,0,none,0,rfl,rfl,(A.hasl .i64 (90) rfl)⟩)
 refine A.xx 3 ?_;refine A.AX.dr mixed 8 8 (A.mb 8 0) ?_;refine A.hq A.pb [] [0,1,2,3,4,5,6,93,133] [4,5] [] (A.mb 8 27) 4 [(0,.n),(3,.n),(1,.b 0 0),(4,.b 1 0)] [(41,.slice A0_ ((a0).length) c1_),(44,.slice A2_ ((a1).length) c3_)] ?_;refine A.AH.one 2 ?_;obtain⟨r20,hv21,hF⟩:=A.bd_some hF;refine A.AL.call 216 [] (first:=[]) (cap:=[]) cf38 (o_l a0 A0_ c1_ r20 hv21) (.l 0 .nil) ?_;rintro _ _ ⟨b22,rfl,rfl⟩;refine⟨by kernel_rfl,?_⟩;refine A.AH.nx (A.mb 8 31) [0,1,2,3,4,5,6,93,133] ?_;refine A.AH.one 5 ?_;obtain⟨r23,hv24,hF⟩:=A.bd_some hF;refine A.AL.call 256 [] (first:=[]) (cap:=[]) cf38 (o_l a1 A2_ c3_ r23 hv24) (.l 1 .nil) ?_;rintro _ _ ⟨b25,rfl,rfl⟩;refine⟨by kernel_rfl,?_⟩;refine A.AH.nx (A.mb 8 63) [0,1,2,3,4,5,6,93,133] ?_;refine A.hq A.pb [0,1,2,3,4,5,6,93,133] [0,1,2,3,4,5,6,93,133,216,256] [] [] (A.mb 8 255) 0 [(6,.n),(7,.n)] [(8,.map (some b22)),(9,.map (some b25))] (A.AH.done ?_);refine A.el 2 ?_;refine A.AL.alloc 296 (cs:=[.slice none 0 0,.slice none 0 0,.slice none 0 0]) Tryz.zeroValue28 fun g26=>?_;refine A.dl 3 ?_;refine A.q0 [4] [] [.n,.b 0 0,.n,.n] [(47,.slice A0_ ((a0).length) c1_),(48,A.i ((a0).length:Int)),(49,A.i 0)] (A.dx 2 ?_);refine A.nil 593 A.ti 3 ?_;refine A.lp_ [3,4,8,9,10,47,48] [0,1,2,3,5,6,216,256] (fun f nl nh=>∃(xs29:List Int),∃(y30:Int),∃(A27:Option Addr),∃(c28:Nat),nl=[(49,A.i y30)]∧nh=[(296,.blk g26 28 [.slice A27 ((xs29).length) c28,.slice none 0 0,.slice none 0 0]),(593,.own A.ti 3 A27 c28 xs29)]∧A.h6 y30∧F.bh a0 a1 r20 r23 f xs29 y30=some r) ⟨[],0,none,0,rfl,rfl,(A.hasl .i64 (0) rfl),hF⟩ ?_;rintro f32 _ _ ⟨xs29,y30,A27,c28,rfl,rfl,hy31,hF⟩;rcases f32 with _|f32
 ·exact A.no0 hF
 rw[F.bh]at hF;refine A.xl 1 ?_;refine A.q0 [] [] [.n] [(50,.bool (decide (y30<((a0).length:Int))))] (A.dx 2 ?_);refine A.AX.cnd rfl hF ?_ ?_<;>intro hb hF
 ·refine A.xx 2 ?_;refine A.AX.join [3,4,8,9,10,47,48,49] [0,1,2,3,5,6,216,256] (fun nl nh=>∃(xs35:List Int),∃(A33:Option Addr),∃(c34:Nat),nl=[]∧nh=[(296,.blk g26 28 [.slice A33 ((xs35).length) c34,.slice none 0 0,.slice none 0 0]),(593,.own A.ti 3 A33 c34 xs35)]∧F.dr (F.bh a0 a1 r20 r23 f32) y30 xs35=some r) ?_ ?_
  ·refine A.xl 2 ?_;obtain⟨x37,hv38,hF⟩:=A.bd_some hF;refine A.AL.ixs 0 1162 hv38 fun ho39=>?_;intro A40 c41 b42 o43;refine A.q0 [] [1162] [.e 0 0] [(52,.agg #[A.i x37.1,A.i x37.2.1,.slice A40 ((x37.2.2.1).length) c41,A.i x37.2.2.2.1.1,A.i x37.2.2.2.1.2.1,.string x37.2.2.2.1.2.2,.string x37.2.2.2.2.1,A.i x37.2.2.2.2.2.1,A.i x37.2.2.2.2.2.2])] ?_;refine A.AL.alloc 1164 (cs:=[A.i 0,A.i 0,.slice none 0 0,A.i 0,A.i 0,.string (ByteArray.mk #[]),.string (ByteArray.mk #[]),A.i 0,A.i 0]) Tryz.zeroValue70 fun g44=>?_;refine A.sw 1164 [] [A.i x37.1,A.i x37.2.1,.slice A40 ((x37.2.2.1).length) c41,A.i x37.2.2.2.1.1,A.i x37.2.2.2.1.2.1,.string x37.2.2.2.1.2.2,.string x37.2.2.2.2.1,A.i x37.2.2.2.2.2.1,A.i x37.2.2.2.2.2.2] ?_;refine A.dl 2 ?_;refine A.q0 [1164] [] [.n,.n,.b 0 0] [(54,.map (some b25)),(56,A.i x37.1)] ?_;obtain⟨x45,hv46,hF⟩:=A.lt_some hF;refine A.AL.lk2 (t:=T69) 256 1165 (z:=((0,0,[],(0,0,(ByteArray.mk #[])),(ByteArray.mk #[]),0,0):D69)) (zs:=[A.i 0,A.i 0,.slice none 0 0,A.i 0,A.i 0,.string (ByteArray.mk #[]),.string (ByteArray.mk #[]),A.i 0,A.i 0]) ky3 x37.1 Tryz.zeroValue70 ⟨⟨rfl,by decide⟩,⟨rfl,by decide⟩,(.inr ⟨rfl,rfl⟩),⟨⟨rfl,by decide⟩,⟨rfl,by decide⟩,⟨rfl,by decide⟩⟩,⟨rfl,by decide⟩,⟨rfl,by decide⟩,⟨rfl,by decide⟩⟩ hv46 fun ho47=>?_;intro A48 c49;refine A.q0 [] [] [.n,.n,.n] [(58,.agg #[A.i x45.1,A.i x45.2.1,.slice A48 ((x45.2.2.1).length) c49,A.i x45.2.2.2.1.1,A.i x45.2.2.2.1.2.1,.string x45.2.2.2.1.2.2,.string x45.2.2.2.2.1,A.i x45.2.2.2.2.2.1,A.i x45.2.2.2.2.2.2]),(59,.bool (Z.mhas r23 x37.1))] ?_;refine A.AL.alloc 1166 (cs:=[A.i 0,A.i 0,.slice none 0 0,A.i 0,A.i 0,.string (ByteArray.mk #[]),.string (ByteArray.mk #[]),A.i 0,A.i 0]) Tryz.zeroValue70 fun g50=>?_;refine A.sw 1166 [] [A.i x45.1,A.i x45.2.1,.slice A48 ((x45.2.2.1).length) c49,A.i x45.2.2.2.1.1,A.i x45.2.2.2.1.2.1,.string x45.2.2.2.1.2.2,.string x45.2.2.2.2.1,A.i x45.2.2.2.2.2.1,A.i x45.2.2.2.2.2.2] ?_;refine A.q0 [] [] [.n] [(14,.bool (Z.mhas r23 x37.1))] (A.dl 2 ?_);refine A.q0 [] [] [.n,.n] [(61,.bool (!(Z.mhas r23 x37.1)))] (A.dx 1 ?_);refine A.AX.cnb rfl hF ?_ ?_<;>intro hb hF
   ·refine A.xl 0 ?_;refine A.q0 [296,1164] [] [.n,.b 0 0,.n,.b 1 0] [(63,.slice A27 ((xs29).length) c28),(65,A.i x37.1)] ?_;refine A.AL.bsl 1167 (ty:=A.ti) (cs:=[A.i x37.1]) [x37.1] ⟨⟨rfl,ho39.1⟩,rfl⟩ (fun g51=>?_) Tryz.zeroValue3 Tryz.sizeOf3
    obtain⟨hl54,hF⟩:=A.gd_some hF;refine A.AL.app (k:=593) [] (A.rowO (k:=1167) rfl) inf3 hl54 fun A52 c53=>?_;refine A.q0 [] [] [.n] [(68,.pointer (some ⟨g26,0,none⟩))] ?_;refine A.AL.store 296 [] (new:=[.slice A52 ((xs29++[x37.1]).length) c53]) (cs':=[.slice A52 ((xs29++[x37.1]).length) c53,.slice none 0 0,.slice none 0 0]) ?_;refine A.de 1 ?_;exact A.j ⟨(xs29++[x37.1]),A52,c53,rfl,rfl,hF⟩
   refine A.xe 2 ?_;exact A.j ⟨xs29,A27,c28,rfl,rfl,hF⟩
  rintro _ _ ⟨xs35,A33,c34,rfl,rfl,hF⟩;rw[F.dr]at hF;refine A.xl 0 ?_;obtain⟨hc36,hF⟩:=A.gd_some hF;refine A.q [] [] [.n,.n] [Z.R64 (y30+1)] [(49,A.i (y30+1))] hc36 (A.AL.done ?_);exact A.j ⟨_,Nat.lt_succ_self _,⟨xs35,(y30+1),A33,c34,rfl,rfl,(Z.i64_has hc36),hF⟩⟩
 refine A.xl 4 ?_;refine A.q0 [5] [] [.b 0 0] [(70,.agg #[.slice A2_ ((a1).length) c3_])] ?_;obtain⟨r55,hv56,hF⟩:=A.bd_some hF;refine A.AL.call 1168 [] (first:=[]) (cap:=[]) cf40 (o_aw a1 A2_ c3_ r55 hv56) (.s 1 .nil) ?_;rintro _ _ ⟨A57,c58,rfl,rfl⟩;refine⟨by kernel_rfl,?_⟩;refine A.q0 [] [] [.n,.n,.n] [(72,.slice A57 ((r55).length) c58),(73,A.i ((r55).length:Int)),(74,A.i 0)] (A.dx 2 ?_);refine A.nil 1304 T69 70 ?_;refine A.lp_ [4,8,10,72,73] [2,3,6,216,593,1168] (fun f nl nh=>∃(xs61:List D69),∃(y62:Int),∃(A59:Option Addr),∃(c60:Nat),nl=[(74,A.i y62)]∧nh=[(296,.blk g26 28 [.slice A27 ((xs29).length) c28,.slice A59 ((xs61).length) c60,.slice none 0 0]),(1304,.own T69 70 A59 c60 xs61)]∧A.h6 y62∧F.aB r20 xs29 r55 f xs61 y62=some r) ⟨[],0,none,0,rfl,rfl,(A.hasl .i64 (0) rfl),hF⟩ ?_;rintro f64 _ _ ⟨xs61,y62,A59,c60,rfl,rfl,hy63,hF⟩;rcases f64 with _|f64
 ·exact A.no0 hF
 rw[F.aB]at hF;refine A.xl 1 ?_;refine A.q0 [] [] [.n] [(75,.bool (decide (y62<((r55).length:Int))))] (A.dx 2 ?_);refine A.AX.cnd rfl hF ?_ ?_<;>intro hb hF
 ·refine A.xx 2 ?_;refine A.AX.join [4,8,10,72,73,74] [2,3,6,216,593,1168] (fun nl nh=>∃(xs67:List D69),∃(A65:Option Addr),∃(c66:Nat),nl=[]∧nh=[(296,.blk g26 28 [.slice A27 ((xs29).length) c28,.slice A65 ((xs67).length) c66,.slice none 0 0]),(1304,.own T69 70 A65 c66 xs67)]∧F.ds (F.aB r20 xs29 r55 f64) y62 xs67=some r) ?_ ?_
  ·refine A.xl 2 ?_;obtain⟨x69,hv70,hF⟩:=A.bd_some hF;refine A.AL.ixs 1168 1399 hv70 fun ho71=>?_;intro A72 c73 b74 o75;refine A.q0 [] [1399] [.e 0 0] [(77,.agg #[A.i x69.1,A.i x69.2.1,.slice A72 ((x69.2.2.1).length) c73,A.i x69.2.2.2.1.1,A.i x69.2.2.2.1.2.1,.string x69.2.2.2.1.2.2,.string x69.2.2.2.2.1,A.i x69.2.2.2.2.2.1,A.i x69.2.2.2.2.2.2])] ?_;refine A.AL.alloc 1401 (cs:=[A.i 0,A.i 0,.slice none 0 0,A.i 0,A.i 0,.string (ByteArray.mk #[]),.string (ByteArray.mk #[]),A.i 0,A.i 0]) Tryz.zeroValue70 fun g76=>?_;refine A.sw 1401 [] [A.i x69.1,A.i x69.2.1,.slice A72 ((x69.2.2.1).length) c73,A.i x69.2.2.2.1.1,A.i x69.2.2.2.1.2.1,.string x69.2.2.2.1.2.2,.string x69.2.2.2.2.1,A.i x69.2.2.2.2.2.1,A.i x69.2.2.2.2.2.2] ?_;refine A.dl 2 ?_;refine A.q0 [1401] [] [.n,.n,.b 0 0] [(79,.map (some b22)),(81,A.i x69.1)] ?_;obtain⟨x77,hv78,hF⟩:=A.lt_some hF;refine A.AL.lk2 (t:=T69) 216 1402 (z:=((0,0,[],(0,0,(ByteArray.mk #[])),(ByteArray.mk #[]),0,0):D69)) (zs:=[A.i 0,A.i 0,.slice none 0 0,A.i 0,A.i 0,.string (ByteArray.mk #[]),.string (ByteArray.mk #[]),A.i 0,A.i 0]) ky3 x69.1 Tryz.zeroValue70 ⟨⟨rfl,by decide⟩,⟨rfl,by decide⟩,(.inr ⟨rfl,rfl⟩),⟨⟨rfl,by decide⟩,⟨rfl,by decide⟩,⟨rfl,by decide⟩⟩,⟨rfl,by decide⟩,⟨rfl,by decide⟩,⟨rfl,by decide⟩⟩ hv78 fun ho79=>?_;intro A80 c81;refine A.q0 [] [] [.n,.n,.n] [(83,.agg #[A.i x77.1,A.i x77.2.1,.slice A80 ((x77.2.2.1).length) c81,A.i x77.2.2.2.1.1,A.i x77.2.2.2.1.2.1,.string x77.2.2.2.1.2.2,.string x77.2.2.2.2.1,A.i x77.2.2.2.2.2.1,A.i x77.2.2.2.2.2.2]),(84,.bool (Z.mhas r20 x69.1))] ?_;refine A.AL.alloc 1403 (cs:=[A.i 0,A.i 0,.slice none 0 0,A.i 0,A.i 0,.string (ByteArray.mk #[]),.string (ByteArray.mk #[]),A.i 0,A.i 0]) Tryz.zeroValue70 fun g82=>?_;refine A.sw 1403 [] [A.i x77.1,A.i x77.2.1,.slice A80 ((x77.2.2.1).length) c81,A.i x77.2.2.2.1.1,A.i x77.2.2.2.1.2.1,.string x77.2.2.2.1.2.2,.string x77.2.2.2.2.1,A.i x77.2.2.2.2.2.1,A.i x77.2.2.2.2.2.2] ?_;refine A.q0 [] [] [.n] [(18,.bool (Z.mhas r20 x69.1))] (A.dx 1 ?_);refine A.AX.join [4,8,10,16,72,73,74] [2,3,6,216,296,593,1168,1304,1400,1401] (fun nl nh=>∃(y83:Bool),nl=[(92,.bool y83)]∧nh=[]∧F.cA (F.aB r20 xs29 r55 f64) xs61 y62 x69 y83=some r) ?_ ?_
   ·refine A.xl 0 ?_;refine A.q0 [] [] [.n,.n,.n] [(87,.bool (!(Z.mhas r20 x69.1)))] ?_;refine A.AL.cnd (j:=87) rfl hF (fun hF=>?_) (fun hF=>?_)
    ·refine A.q0 [] [] [.off,.off,.off,.off,.n] [(92,.bool true)] (A.AL.done ?_);exact A.j ⟨true,rfl,rfl,hF⟩
    refine A.q0 [1403,1401] [] [.on (.b 0 0),.on (.b 1 0)] [(88,.agg #[A.i x77.1,A.i x77.2.1,.slice A80 ((x77.2.2.1).length) c81,A.i x77.2.2.2.1.1,A.i x77.2.2.2.1.2.1,.string x77.2.2.2.1.2.2,.string x77.2.2.2.2.1,A.i x77.2.2.2.2.2.1,A.i x77.2.2.2.2.2.2]),(89,.agg #[A.i x69.1,A.i x69.2.1,.slice A72 ((x69.2.2.1).length) c73,A.i x69.2.2.2.1.1,A.i x69.2.2.2.1.2.1,.string x69.2.2.2.1.2.2,.string x69.2.2.2.2.1,A.i x69.2.2.2.2.2.1,A.i x69.2.2.2.2.2.2])] ?_;refine A.AL.on (dj:=87) rfl rfl ?_;obtain⟨r88,hv89,hF⟩:=A.bd_some hF;refine A.AL.call 1404 [] (first:=[]) (cap:=[]) cf45 (o_aQ x77 x69 A80 c81 A72 c73 ho79.1 ho79.2.1 ho79.2.2.2.1.1 ho79.2.2.2.1.2.1 ho79.2.2.2.1.2.2 ho79.2.2.2.2.1 ho79.2.2.2.2.2.1 ho79.2.2.2.2.2.2 ho71.1 ho71.2.1 ho71.2.2.2.1.1 ho71.2.2.2.1.2.1 ho71.2.2.2.1.2.2 ho71.2.2.2.2.1 ho71.2.2.2.2.2.1 ho71.2.2.2.2.2.2 r88 hv89) (.s 1402 (.s 1400 .nil)) ?_;rintro _ _ ⟨rfl,rfl⟩;refine⟨by kernel_rfl,?_⟩;refine A.q0 [] [] [.on .n,.n] [(92,.bool (!r88))] (A.AL.done ?_);exact A.j ⟨(!r88),rfl,rfl,hF⟩
   rintro _ _ ⟨y83,rfl,rfl,hF⟩;rw[F.cA]at hF;refine A.AX.cnb rfl hF ?_ ?_<;>intro hb hF
   ·refine A.xl 0 ?_;refine A.q0 [296,1401] [] [.n,.b 0 1,.b 1 0] [(94,.slice A59 ((xs61).length) c60),(95,.agg #[A.i x69.1,A.i x69.2.1,.slice A72 ((x69.2.2.1).length) c73,A.i x69.2.2.2.1.1,A.i x69.2.2.2.1.2.1,.string x69.2.2.2.1.2.2,.string x69.2.2.2.2.1,A.i x69.2.2.2.2.2.1,A.i x69.2.2.2.2.2.2])] ?_;refine A.AL.bsl 1444 (ty:=T69) (cs:=[A.i x69.1,A.i x69.2.1,.slice A72 ((x69.2.2.1).length) c73,A.i x69.2.2.2.1.1,A.i x69.2.2.2.1.2.1,.string x69.2.2.2.1.2.2,.string x69.2.2.2.2.1,A.i x69.2.2.2.2.2.1,A.i x69.2.2.2.2.2.2]) [x69] ⟨⟨⟨rfl,ho71.1⟩,⟨rfl,ho71.2.1⟩,.inl ⟨1400,rfl⟩,⟨⟨rfl,ho71.2.2.2.1.1⟩,⟨rfl,ho71.2.2.2.1.2.1⟩,⟨rfl,ho71.2.2.2.1.2.2⟩⟩,⟨rfl,ho71.2.2.2.2.1⟩,⟨rfl,ho71.2.2.2.2.2.1⟩,⟨rfl,ho71.2.2.2.2.2.2⟩⟩,rfl⟩ (fun g84=>?_) Tryz.zeroValue70 Tryz.sizeOf70
    obtain⟨hl87,hF⟩:=A.gd_some hF;refine A.AL.app (k:=1304) [] (A.rowO (k:=1444) rfl) inf70 hl87 fun A85 c86=>?_;refine A.q0 [] [] [.n] [(98,.pointer (some ⟨g26,1,none⟩))] ?_;refine A.AL.store 296 [] (new:=[.slice A85 ((xs61++[x69]).length) c86]) (cs':=[.slice A27 ((xs29).length) c28,.slice A85 ((xs61++[x69]).length) c86,.slice none 0 0]) ?_;refine A.de 1 ?_;exact A.j ⟨(xs61++[x69]),A85,c86,rfl,rfl,hF⟩
   refine A.xe 2 ?_;exact A.j ⟨xs61,A59,c60,rfl,rfl,hF⟩
  rintro _ _ ⟨xs67,A65,c66,rfl,rfl,hF⟩;rw[F.ds]at hF;refine A.xl 0 ?_;obtain⟨hc68,hF⟩:=A.gd_some hF;refine A.q [] [] [.n,.n] [Z.R64 (y62+1)] [(74,A.i (y62+1))] hc68 (A.AL.done ?_);exact A.j ⟨_,Nat.lt_succ_self _,⟨xs67,(y62+1),A65,c66,rfl,rfl,(Z.i64_has hc68),hF⟩⟩
 refine A.xl 3 ?_;refine A.q0 [296] [] [.b 0 0] [(100,.agg #[.slice A27 ((xs29).length) c28,.slice A59 ((xs61).length) c60,.slice none 0 0])] ?_;refine A.sw 6 [] [.slice A27 ((xs29).length) c28,.slice A59 ((xs61).length) c60,.slice none 0 0] ?_;refine A.q0 [] [] [.n] [(5,A.i 0)] (A.dx 1 ?_);obtain rfl:=A.si hF;refine A.frz 593 [] ?_;refine A.frz 1304 [] ?_;refine A.snil 1445 T82 ?_;exact A.AX.ret [(0,593),(1,1304),(2,1445)] (.tuple #[.agg #[.slice A27 ((xs29).length) c28,.slice A59 ((xs61).length) c60,.slice none 0 0],A.i 0]) (fun a w hf hh=>Z.resv2 rfl (Z.rv_n hf rfl Tryz.isAgg28 Tryz.sizeOf28 (A.Hp.blk hh 6) rfl) (Z.rv_t hf rfl)) (⟨A27,c28,A59,c60,none,0,rfl,rfl,(A.hasl .i64 (0) rfl)⟩)
def F.b2 (a0:D69)(a1:D69):Option Bool:=(F.eo [a0] [a1]).bind fun r5=>(some r5)
theorem o_ar (a0:D69)(a1:D69)(A2_:Option Addr)(c3_:Nat)(A12_:Option Addr)(c13_:Nat)(h0_:A.h6 a0.1)(h1_:A.h6 a0.2.1)(h4_:A.h6 a0.2.2.2.1.1)(h5_:A.h6 a0.2.2.2.1.2.1)(h6_:a0.2.2.2.1.2.2.size≤maxLen)(h7_:a0.2.2.2.2.1.size≤maxLen)(h8_:A.h6 a0.2.2.2.2.2.1)(h9_:A.h6 a0.2.2.2.2.2.2)(h10_:A.h6 a1.1)(h11_:A.h6 a1.2.1)(h14_:A.h6 a1.2.2.2.1.1)(h15_:A.h6 a1.2.2.2.1.2.1)(h16_:a1.2.2.2.1.2.2.size≤maxLen)(h17_:a1.2.2.2.2.1.size≤maxLen)(h18_:A.h6 a1.2.2.2.2.2.1)(h19_:A.h6 a1.2.2.2.2.2.2)(r:Bool)(hF:F.b2 a0 a1=some r):
    A.Ct Tryz.prog 48 [.agg #[A.i a0.1,A.i a0.2.1,.slice A2_ ((a0.2.2.1).length) c3_,A.i a0.2.2.2.1.1,A.i a0.2.2.2.1.2.1,.string a0.2.2.2.1.2.2,.string a0.2.2.2.2.1,A.i a0.2.2.2.2.2.1,A.i a0.2.2.2.2.2.2],.agg #[A.i a1.1,A.i a1.2.1,.slice A12_ ((a1.2.2.1).length) c13_,A.i a1.2.2.2.1.1,A.i a1.2.2.2.1.2.1,.string a1.2.2.2.1.2.2,.string a1.2.2.2.2.1,A.i a1.2.2.2.2.2.1,A.i a1.2.2.2.2.2.2]] [(0,.sh A.TI [.slice A2_ (a0.2.2.1).length c3_] a0.2.2.1),(1,.sh A.TI [.slice A12_ (a1.2.2.1).length c13_] a1.2.2.1)] [] (fun v H'=>v=.bool r∧H'=[]):=by
 refine A.Ct.enter Tryz.func48 rfl Tryz.ntmps48 rfl fun w0 F0=>?_;rw[F.b2]at hF;refine A.xl 1 ?_;refine A.AL.box 2 (cs:=[A.i a0.1,A.i a0.2.1,.slice A2_ ((a0.2.2.1).length) c3_,A.i a0.2.2.2.1.1,A.i a0.2.2.2.1.2.1,.string a0.2.2.2.1.2.2,.string a0.2.2.2.2.1,A.i a0.2.2.2.2.2.1,A.i a0.2.2.2.2.2.2]) fun g1=>?_;refine A.AL.box 3 (cs:=[A.i a1.1,A.i a1.2.1,.slice A12_ ((a1.2.2.1).length) c13_,A.i a1.2.2.2.1.1,A.i a1.2.2.2.1.2.1,.string a1.2.2.2.1.2.2,.string a1.2.2.2.2.1,A.i a1.2.2.2.2.2.1,A.i a1.2.2.2.2.2.2]) fun g2=>?_;refine A.q0 [] [] [.n] [] (A.dl 2 ?_);refine A.q0 [2] [] [.b 0 0] [(5,.agg #[A.i a0.1,A.i a0.2.1,.slice A2_ ((a0.2.2.1).length) c3_,A.i a0.2.2.2.1.1,A.i a0.2.2.2.1.2.1,.string a0.2.2.2.1.2.2,.string a0.2.2.2.2.1,A.i a0.2.2.2.2.2.1,A.i a0.2.2.2.2.2.2])] ?_;refine A.AL.bsl 4 (ty:=T69) (cs:=[A.i a0.1,A.i a0.2.1,.slice A2_ ((a0.2.2.1).length) c3_,A.i a0.2.2.2.1.1,A.i a0.2.2.2.1.2.1,.string a0.2.2.2.1.2.2,.string a0.2.2.2.2.1,A.i a0.2.2.2.2.2.1,A.i a0.2.2.2.2.2.2]) [a0] ⟨⟨⟨rfl,h0_⟩,⟨rfl,h1_⟩,.inl ⟨0,rfl⟩,⟨⟨rfl,h4_⟩,⟨rfl,h5_⟩,⟨rfl,h6_⟩⟩,⟨rfl,h7_⟩,⟨rfl,h8_⟩,⟨rfl,h9_⟩⟩,rfl⟩ (fun g3=>?_) Tryz.zeroValue70 Tryz.sizeOf70
 refine A.q0 [3] [] [.n,.b 0 0] [(7,.agg #[.slice (some ⟨g3,0,none⟩) 1 1]),(8,.agg #[A.i a1.1,A.i a1.2.1,.slice A12_ ((a1.2.2.1).length) c13_,A.i a1.2.2.2.1.1,A.i a1.2.2.2.1.2.1,.string a1.2.2.2.1.2.2,.string a1.2.2.2.2.1,A.i a1.2.2.2.2.2.1,A.i a1.2.2.2.2.2.2])] ?_;refine A.AL.bsl 5 (ty:=T69) (cs:=[A.i a1.1,A.i a1.2.1,.slice A12_ ((a1.2.2.1).length) c13_,A.i a1.2.2.2.1.1,A.i a1.2.2.2.1.2.1,.string a1.2.2.2.1.2.2,.string a1.2.2.2.2.1,A.i a1.2.2.2.2.2.1,A.i a1.2.2.2.2.2.2]) [a1] ⟨⟨⟨rfl,h10_⟩,⟨rfl,h11_⟩,.inl ⟨1,rfl⟩,⟨⟨rfl,h14_⟩,⟨rfl,h15_⟩,⟨rfl,h16_⟩⟩,⟨rfl,h17_⟩,⟨rfl,h18_⟩,⟨rfl,h19_⟩⟩,rfl⟩ (fun g4=>?_) Tryz.zeroValue70 Tryz.sizeOf70
 refine A.q0 [] [] [.n] [(10,.agg #[.slice (some ⟨g4,0,none⟩) 1 1])] ?_;refine A.frz 4 [] ?_;refine A.frz 5 [] ?_;obtain⟨r5,hv6,hF⟩:=A.bd_some hF;refine A.AL.call 6 [] (first:=[]) (cap:=[]) cf13 (o_aV [a0] [a1] (some ⟨g3,0,none⟩) 1 (some ⟨g4,0,none⟩) 1 r5 hv6) (.s 4 (.s 5 .nil)) ?_;rintro _ _ ⟨rfl,rfl⟩;refine⟨by kernel_rfl,?_⟩;refine A.q0 [] [] [.n] [(4,.bool r5)] (A.dx 1 ?_);obtain rfl:=A.si hF;exact A.rt1 [] ⟨rfl,rfl⟩
def F.cB (k1:Int→Option Bool)(y3:Int)(y27:Bool):Option Bool:=if y27=true then(some false)else(A.gd (Z.R64 (y3+1)) (k1 (y3+1)))
def F.en (k1:Int→Option Bool)(a0:D23)(y3:Int)(xs8:List Int)(y9:Int)(y11:Int)(y13:Int)(y15:Int)(y17:ByteArray)(y19:ByteArray)(y21:Int)(y23:Int)(y26:Bool):Option Bool:=(A.ix a0 y3).bind fun x29=>(if x29.2.1=1 then(if(!y26)=true then(F.cB k1 y3 true)else((A.ix a0 y3).bind fun x37=>((F.b2 (y9,y11,xs8,(y13,y15,y17),y19,y21,y23) x37).bind fun r45=>(F.cB k1 y3 (!r45)))))else(F.cB k1 y3 false))
def F.a1 (a0:D23)(a1:D23):Nat→Int→Option Bool
 |0,_=>none
 |f+1,y3=>if y3<((a0).length:Int)then((A.ix a0 y3).bind fun x47=>((F.cy a1 x47.1).bind fun r475=>(F.en (F.a1 a0 a1 f) a0 y3 r475.1.2.2.1 r475.1.1 r475.1.2.1 r475.1.2.2.2.1.1 r475.1.2.2.2.1.2.1 r475.1.2.2.2.1.2.2 r475.1.2.2.2.2.1 r475.1.2.2.2.2.2.1 r475.1.2.2.2.2.2.2 r475.2)))else(some true)
def F.eJ (a0:D23)(a1:D23):Option Bool:=F.a1 a0 a1 A.FU 0
theorem o_aB (a0:D23)(a1:D23)(A0_:Option Addr)(c1_:Nat)(A2_:Option Addr)(c3_:Nat)(r:Bool)(hF:F.eJ a0 a1=some r):
    A.Ct Tryz.prog 46 [.agg #[.slice A0_ ((a0).length) c1_],.agg #[.slice A2_ ((a1).length) c3_]] [(0,.sh (.slice T69) [.slice A0_ (a0).length c1_] a0),(1,.sh (.slice T69) [.slice A2_ (a1).length c3_] a1)] [] (fun v H'=>v=.bool r∧H'=[]):=by
 refine A.Ct.enter Tryz.func46 rfl Tryz.ntmps46 rfl fun w0 F0=>?_;rw[F.eJ]at hF;refine A.xl 1 ?_;refine A.AL.box 2 (cs:=[.slice A0_ ((a0).length) c1_]) fun g1=>?_;refine A.AL.box 3 (cs:=[.slice A2_ ((a1).length) c3_]) fun g2=>?_;refine A.q0 [] [] [.n] [] (A.dl 3 ?_);refine A.q0 [] [] [.n] [(5,A.i 0)] (A.dx 2 ?_);refine A.lp_ [2,3] [0,1,2,3] (fun f nl nh=>∃(y3:Int),nl=[(5,A.i y3)]∧nh=[]∧A.h6 y3∧F.a1 a0 a1 f y3=some r) ⟨0,rfl,rfl,(A.hasl .i64 (0) rfl),hF⟩ ?_;rintro f5 _ _ ⟨y3,rfl,rfl,hy4,hF⟩;rcases f5 with _|f5
 ·exact A.no0 hF
 rw[F.a1]at hF;refine A.xl 2 ?_;refine A.q0 [2] [] [.n,.n,.b 0 0,.n,.n] [(12,.bool (decide (y3<((a0).length:Int))))] (A.dx 1 ?_);refine A.AX.cnd rfl hF ?_ ?_<;>intro hb hF
 ·refine A.xx 4 ?_;refine A.AX.join [2,3,5] [0,1,2,3] (fun nl nh=>∃(xs8:List Int),∃(y9:Int),∃(y11:Int),∃(y13:Int),∃(y15:Int),∃(y17:ByteArray),∃(y19:ByteArray),∃(y21:Int),∃(y23:Int),∃(y26:Bool),∃(A6:Option Addr),∃(c7:Nat),∃(g25:Nat),nl=[(6,.pointer (some ⟨g25,0,none⟩)),(7,.bool y26)]∧nh=[(1148,.sh A.TI [.slice A6 (xs8).length c7] xs8),(1268,.blk g25 70 [A.i y9,A.i y11,.slice A6 ((xs8).length) c7,A.i y13,A.i y15,.string y17,.string y19,A.i y21,A.i y23])]∧A.h6 y9∧A.h6 y11∧A.h6 y13∧A.h6 y15∧y17.size≤maxLen∧y19.size≤maxLen∧A.h6 y21∧A.h6 y23∧F.en (F.a1 a0 a1 f5) a0 y3 xs8 y9 y11 y13 y15 y17 y19 y21 y23 y26=some r) ?_ ?_
  ·refine A.AX.dr mixed 14 14 (A.mb 14 0) ?_;refine A.hq A.pb [] [0,1,2,3] [3,2] [] (A.mb 14 15) 10 [(0,.b 0 0),(1,.n),(3,.n),(2,.b 1 0)] [(16,.agg #[.slice A2_ ((a1).length) c3_]),(19,A.i y3),(18,.slice A0_ ((a0).length) c1_)] ?_;obtain⟨x47,hv48,hF⟩:=A.bd_some hF;refine A.AH.pks 0 936 hv48 fun ho49=>?_;intro A51 c52 b53 o54 hA50;refine A.AH.v A.pb [0,1,2,3] [0,1,2,3,936,937] 4 (A.mb 14 31) rfl (fun a w hf hh=>A.r_ixa (t:=T69) hv48 hA50 hf) ?_;refine A.hq A.pb [0,1,2,3,936,937] [0,1,2,3,936,937] [] [936] (A.mb 14 127) 7 [(5,.n),(6,.e 0 0)] [(22,A.i x47.1)] ?_;refine A.AH.two 7 11 ?_ ?_
   ·obtain⟨r475,hv476,hF⟩:=A.bd_some hF;refine A.AL.call 1148 [] (first:=[]) (cap:=[]) cf47 (o_a a1 x47.1 A2_ c3_ ho49.1 r475 hv476) (.s 1 .nil) ?_;rintro _ _ ⟨A479,c480,rfl,rfl,hr477,hr478,hr481,hr482,hr483,hr484,hr485,hr486⟩;refine⟨by kernel_rfl,?_⟩;refine A.AH.nx (A.mb 14 255) [0,1,2,3,936,937] ?_;refine A.hq A.pb [0,1,2,3,936,937] [0,1,2,3,936,937,1148] [] [] (A.mb 14 2047) 3 [(8,.n),(9,.n),(10,.n)] [(24,.agg #[A.i r475.1.1,A.i r475.1.2.1,.slice A479 ((r475.1.2.2.1).length) c480,A.i r475.1.2.2.2.1.1,A.i r475.1.2.2.2.1.2.1,.string r475.1.2.2.2.1.2.2,.string r475.1.2.2.2.2.1,A.i r475.1.2.2.2.2.2.1,A.i r475.1.2.2.2.2.2.2]),(25,.bool r475.2)] ?_;refine A.AH.one 11 ?_;refine A.AL.alloc 1268 (cs:=[A.i 0,A.i 0,.slice none 0 0,A.i 0,A.i 0,.string (ByteArray.mk #[]),.string (ByteArray.mk #[]),A.i 0,A.i 0]) Tryz.zeroValue70 fun g715=>?_;refine A.AH.nx (A.mb 14 4095) [0,1,2,3,936,937,1148] ?_;refine A.AH.one 12 ?_;refine A.sw 1268 [] [A.i r475.1.1,A.i r475.1.2.1,.slice A479 ((r475.1.2.2.1).length) c480,A.i r475.1.2.2.2.1.1,A.i r475.1.2.2.2.1.2.1,.string r475.1.2.2.2.1.2.2,.string r475.1.2.2.2.2.1,A.i r475.1.2.2.2.2.2.1,A.i r475.1.2.2.2.2.2.2] ?_;refine A.AH.nx (A.mb 14 8191) [0,1,2,3,936,937,1148] ?_;refine A.hq A.pb [0,1,2,3,936,937,1148] [0,1,2,3,936,937,1148,1268] [] [] (A.mb 14 16383) 0 [(13,.n)] [(7,.bool r475.2)] (A.AH.done ?_);exact A.j ⟨r475.1.2.2.1,r475.1.1,r475.1.2.1,r475.1.2.2.2.1.1,r475.1.2.2.2.1.2.1,r475.1.2.2.2.1.2.2,r475.1.2.2.2.2.1,r475.1.2.2.2.2.2.1,r475.1.2.2.2.2.2.2,r475.2,A479,c480,g715,rfl,rfl,hr477,hr478,hr481,hr482,hr483,hr484,hr485,hr486,hF⟩
   refine A.AL.alloc 1268 (cs:=[A.i 0,A.i 0,.slice none 0 0,A.i 0,A.i 0,.string (ByteArray.mk #[]),.string (ByteArray.mk #[]),A.i 0,A.i 0]) Tryz.zeroValue70 fun g715=>?_;refine A.AH.nx (A.mb 14 2175) [0,1,2,3,936,937] ?_;refine A.AH.one 7 ?_;obtain⟨r475,hv476,hF⟩:=A.bd_some hF;refine A.AL.call 1148 [] (first:=[]) (cap:=[]) cf47 (o_a a1 x47.1 A2_ c3_ ho49.1 r475 hv476) (.s 1 .nil) ?_;rintro _ _ ⟨A479,c480,rfl,rfl,hr477,hr478,hr481,hr482,hr483,hr484,hr485,hr486⟩;refine⟨by kernel_rfl,?_⟩;refine A.AH.nx (A.mb 14 2303) [0,1,2,3,936,937] ?_;refine A.hq A.pb [0,1,2,3,936,937] [0,1,2,3,936,937,1148] [] [] (A.mb 14 4095) 2 [(8,.n),(9,.n),(10,.n)] [(24,.agg #[A.i r475.1.1,A.i r475.1.2.1,.slice A479 ((r475.1.2.2.1).length) c480,A.i r475.1.2.2.2.1.1,A.i r475.1.2.2.2.1.2.1,.string r475.1.2.2.2.1.2.2,.string r475.1.2.2.2.2.1,A.i r475.1.2.2.2.2.2.1,A.i r475.1.2.2.2.2.2.2]),(25,.bool r475.2)] ?_;refine A.AH.one 12 ?_;refine A.sw 1268 [] [A.i r475.1.1,A.i r475.1.2.1,.slice A479 ((r475.1.2.2.1).length) c480,A.i r475.1.2.2.2.1.1,A.i r475.1.2.2.2.1.2.1,.string r475.1.2.2.2.1.2.2,.string r475.1.2.2.2.2.1,A.i r475.1.2.2.2.2.2.1,A.i r475.1.2.2.2.2.2.2] ?_;refine A.AH.nx (A.mb 14 8191) [0,1,2,3,936,937,1148] ?_;refine A.hq A.pb [0,1,2,3,936,937,1148] [0,1,2,3,936,937,1148,1268] [] [] (A.mb 14 16383) 0 [(13,.n)] [(7,.bool r475.2)] (A.AH.done ?_);exact A.j ⟨r475.1.2.2.1,r475.1.1,r475.1.2.1,r475.1.2.2.2.1.1,r475.1.2.2.2.1.2.1,r475.1.2.2.2.1.2.2,r475.1.2.2.2.2.1,r475.1.2.2.2.2.2.1,r475.1.2.2.2.2.2.2,r475.2,A479,c480,g715,rfl,rfl,hr477,hr478,hr481,hr482,hr483,hr484,hr485,hr486,hF⟩
  rintro _ _ ⟨xs8,y9,y11,y13,y15,y17,y19,y21,y23,y26,A6,c7,g25,rfl,rfl,hy10,hy12,hy14,hy16,hy18,hy20,hy22,hy24,hF⟩;rw[F.en]at hF;refine A.AX.join [2,3,5] [0,1,2,3] (fun nl nh=>∃(y27:Bool),nl=[(46,.bool y27)]∧nh=[]∧F.cB (F.a1 a0 a1 f5) y3 y27=some r) ?_ ?_
  ·refine A.AX.dr mixed 21 21 (A.mb 21 0) ?_;refine A.hq A.pb [] [0,1,2,3,1148,1268] [2] [] (A.mb 21 7) 18 [(0,.n),(2,.n),(1,.b 0 0)] [(28,A.i y3),(27,.slice A0_ ((a0).length) c1_)] ?_;obtain⟨x29,hv30,hF⟩:=A.bd_some hF;refine A.AH.pks 0 1358 hv30 fun ho31=>?_;intro A33 c34 b35 o36 hA32;refine A.AH.v A.pb [0,1,2,3,1148,1268] [0,1,2,3,1148,1268,1358,1359] 3 (A.mb 21 15) rfl (fun a w hf hh=>A.r_ixa (t:=T69) hv30 hA32 hf) ?_;refine A.hq A.pb [0,1,2,3,1148,1268,1358,1359] [0,1,2,3,1148,1268,1358,1359] [] [1358] (A.mb 21 255) 13 [(4,.n),(5,.e 0 1),(6,.n),(7,.n)] [(33,.bool (decide (x29.2.1=1)))] ?_;refine A.AH.cnp (j:=33) rfl hF ?_ ?_<;>intro hb hF
   ·refine A.hq A.pb [0,1,2,3,1148,1268,1358,1359] [0,1,2,3,1148,1268,1358,1359] [] [] (A.mb 21 2047) 10 [(8,.on .n),(9,.on .n),(10,.on .n)] [(36,.bool (!y26))] ?_;refine A.AH.cnd (j:=36) rfl hF (fun hF=>?_) (fun hF=>?_)
    ·refine A.hq A.pb [0,1,2,3,1148,1268,1358,1359] [0,1,2,3,1148,1268,1358,1359] [] [] (A.mb 21 2097151) 0 [(11,.off),(12,.off),(14,.off),(13,.off),(15,.off),(16,.off),(17,.off),(18,.off),(19,.on .n),(20,.n)] [(46,.bool true)] (A.AH.done ?_);exact A.j ⟨true,rfl,rfl,hF⟩
    refine A.hq A.pb [0,1,2,3,1148,1268,1358,1359] [0,1,2,3,1148,1268,1358,1359] [1268,2] [] (A.mb 21 32767) 6 [(11,.on (.b 0 0)),(12,.on .n),(14,.on .n),(13,.on (.b 1 0))] [(37,.agg #[A.i y9,A.i y11,.slice A6 ((xs8).length) c7,A.i y13,A.i y15,.string y17,.string y19,A.i y21,A.i y23]),(40,A.i y3),(39,.slice A0_ ((a0).length) c1_)] ?_;obtain⟨x37,hv38,hF⟩:=A.bd_some hF;refine A.AH.pks 0 1360 hv38 fun ho39=>?_;intro A41 c42 b43 o44 hA40;refine A.AH.vg A.pb [0,1,2,3,1148,1268,1358,1359] [0,1,2,3,1148,1268,1358,1359,1360,1361] 15 (A.mb 21 65535) (dj:=36) rfl (fun a w hf hh=>A.r_ixa (t:=T69) hv38 hA40 hf) ?_;refine A.hq A.pb [0,1,2,3,1148,1268,1358,1359,1360,1361] [0,1,2,3,1148,1268,1358,1359,1360,1361] [] [1360] (A.mb 21 131071) 4 [(16,.on (.e 0 0))] [(42,.agg #[A.i x37.1,A.i x37.2.1,.slice A41 ((x37.2.2.1).length) c42,A.i x37.2.2.2.1.1,A.i x37.2.2.2.1.2.1,.string x37.2.2.2.1.2.2,.string x37.2.2.2.2.1,A.i x37.2.2.2.2.2.1,A.i x37.2.2.2.2.2.2])] ?_;refine A.AH.one 17 ?_;refine A.AL.on (dj:=36) rfl rfl ?_;obtain⟨r45,hv46,hF⟩:=A.bd_some hF;refine A.AL.call 1362 [] (first:=[]) (cap:=[]) cf48 (o_ar (y9,y11,xs8,(y13,y15,y17),y19,y21,y23) x37 A6 c7 A41 c42 hy10 hy12 hy14 hy16 hy18 hy20 hy22 hy24 ho39.1 ho39.2.1 ho39.2.2.2.1.1 ho39.2.2.2.1.2.1 ho39.2.2.2.1.2.2 ho39.2.2.2.2.1 ho39.2.2.2.2.2.1 ho39.2.2.2.2.2.2 r45 hv46) (.s 1148 (.s 1361 .nil)) ?_;rintro _ _ ⟨rfl,rfl⟩;refine⟨by kernel_rfl,?_⟩;refine A.AH.nx (A.mb 21 262143) [0,1,2,3,1148,1268,1358,1359,1360,1361] ?_;refine A.hq A.pb [0,1,2,3,1148,1268,1358,1359,1360,1361] [0,1,2,3,1148,1268,1358,1359,1360,1361] [] [] (A.mb 21 2097151) 0 [(18,.on .n),(19,.on .n),(20,.n)] [(46,.bool (!r45))] (A.AH.done ?_);exact A.j ⟨(!r45),rfl,rfl,hF⟩
   refine A.hq A.pb [0,1,2,3,1148,1268,1358,1359] [0,1,2,3,1148,1268,1358,1359] [] [] (A.mb 21 2097151) 0 [(8,.off),(9,.off),(10,.off),(11,.off),(12,.off),(14,.off),(13,.off),(15,.off),(16,.off),(17,.off),(18,.off),(19,.off),(20,.n)] [(46,.bool false)] (A.AH.done ?_);exact A.j ⟨false,rfl,rfl,hF⟩
  rintro _ _ ⟨y27,rfl,rfl,hF⟩;rw[F.cB]at hF;refine A.AX.cnb rfl hF ?_ ?_<;>intro hb hF
  ·refine A.xl 1 ?_;refine A.q0 [] [] [.n] [(4,.bool false)] (A.dx 1 ?_);obtain rfl:=A.si hF;exact A.rt1 [] ⟨rfl,rfl⟩
  refine A.xl 3 ?_;obtain⟨hc28,hF⟩:=A.gd_some hF;refine A.q [] [] [.n,.n,.n] [Z.R64 (y3+1)] [(5,A.i (y3+1))] hc28 (A.AL.done ?_);exact A.j ⟨_,Nat.lt_succ_self _,⟨(y3+1),rfl,rfl,(Z.i64_has hc28),hF⟩⟩
 refine A.xl 3 ?_;refine A.q0 [] [] [.n] [(4,.bool true)] (A.dx 1 ?_);obtain rfl:=A.si hF;exact A.rt1 [] ⟨rfl,rfl⟩
def F.eh (k4:(List Int)→Int→Option (D27×Int))(y15:Int)(xs20:List Int):Option (D27×Int):=A.gd (Z.R64 (y15+1)) (k4 xs20 (y15+1))
def F.eV (k4:(List Int)→Int→Option (D27×Int))(a0:D23)(xs14:List Int)(y15:Int)(y22:Bool):Option (D27×Int):=if(!y22)=true then((A.ix a0 y15).bind fun x23=>(A.gd ((List.length (α:=Int) xs14+List.length (α:=Int) [x23.1])*8≤140737488355328) (F.eh k4 y15 (xs14++[x23.1]))))else(F.eh k4 y15 xs14)
def F.ei (k5:(List D69)→Int→Option (D27×Int))(y886:Int)(xs891:List D69):Option (D27×Int):=A.gd (Z.R64 (y886+1)) (k5 xs891 (y886+1))
def F.dB (k5:(List D69)→Int→Option (D27×Int))(a1:D23)(xs885:List D69)(y886:Int)(y914:Bool):Option (D27×Int):=if y914=true then((A.ix a1 y886).bind fun x915=>((F.ce x915).bind fun r923=>(A.gd ((List.length (α:=D69) xs885+List.length (α:=D69) [r923])*104≤140737488355328) (F.ei k5 y886 (xs885++[r923])))))else(F.ei k5 y886 xs885)
def F.eW (k5:(List D69)→Int→Option (D27×Int))(a1:D23)(xs885:List D69)(y886:Int)(xs895:List Int)(y896:Int)(y898:Int)(y900:Int)(y902:Int)(y904:ByteArray)(y906:ByteArray)(y908:Int)(y910:Int)(y913:Bool):Option (D27×Int):=if(!y913)=true then(F.dB k5 a1 xs885 y886 true)else((A.ix a1 y886).bind fun x939=>((F.b2 (y896,y898,xs895,(y900,y902,y904),y906,y908,y910) x939).bind fun r947=>(F.dB k5 a1 xs885 y886 (!r947))))
def F.a2 (a0:D23)(a1:D23)(xs14:List Int):Nat→(List D69)→Int→Option (D27×Int)
 |0,_,_=>none
 |f+1,xs885,y886=>if y886<((a1).length:Int)then((A.ix a1 y886).bind fun x949=>((F.cy a0 x949.1).bind fun r1377=>(F.eW (F.a2 a0 a1 xs14 f) a1 xs885 y886 r1377.1.2.2.1 r1377.1.1 r1377.1.2.1 r1377.1.2.2.2.1.1 r1377.1.2.2.2.1.2.1 r1377.1.2.2.2.1.2.2 r1377.1.2.2.2.2.1 r1377.1.2.2.2.2.2.1 r1377.1.2.2.2.2.2.2 r1377.2)))else(some ((xs14,xs885,[]),0))
def F.br (a0:D23)(a1:D23):Nat→(List Int)→Int→Option (D27×Int)
 |0,_,_=>none
 |f+1,xs14,y15=>if y15<((a0).length:Int)then((A.ix a0 y15).bind fun x35=>((F.cy a1 x35.1).bind fun r463=>(F.eV (F.br a0 a1 f) a0 xs14 y15 r463.2)))else(F.a2 a0 a1 xs14 A.FU [] 0)
def F.ej (a0:D23)(a1:D23)(y10:Bool):Option (D27×Int):=if y10=true then(some (([],[],[]),90))else(F.br a0 a1 A.FU [] 0)
def F.eR (a0:D23)(a1:D23):Option (D27×Int):=(F.cd a0).bind fun r4=>(if r4≠0 then(some (([],[],[]),r4))else((F.cd a1).bind fun r7=>(if r7≠0 then(some (([],[],[]),r7))else((F.eJ a0 a1).bind fun r1797=>(if(!r1797)=true then(F.ej a0 a1 true)else((F.eJ a1 a0).bind fun r1799=>(F.ej a0 a1 (!r1799))))))))
theorem o_b0 (a0:D23)(a1:D23)(A0_:Option Addr)(c1_:Nat)(A2_:Option Addr)(c3_:Nat)(r:D27×Int)(hF:F.eR a0 a1=some r):
    A.Ct Tryz.prog 16 [.agg #[.slice A0_ ((a0).length) c1_],.agg #[.slice A2_ ((a1).length) c3_]] [(0,.sh (.slice T69) [.slice A0_ (a0).length c1_] a0),(1,.sh (.slice T69) [.slice A2_ (a1).length c3_] a1)] [] (fun v H'=>∃(A0':Option Addr) (c1':Nat) (A2':Option Addr) (c3':Nat) (A4':Option Addr) (c5':Nat),v=.tuple #[.agg #[.slice A0' ((r.1.1).length) c1',.slice A2' ((r.1.2.1).length) c3',.slice A4' ((r.1.2.2).length) c5'],A.i r.2]∧H'=[(0,.sh A.TI [.slice A0' (r.1.1).length c1'] r.1.1),(1,.sh (.slice T69) [.slice A2' (r.1.2.1).length c3'] r.1.2.1),(2,.sh (.slice T82) [.slice A4' (r.1.2.2).length c5'] r.1.2.2)]∧A.h6 r.2):=by
 refine A.Ct.enter Tryz.func16 rfl Tryz.ntmps16 rfl fun w0 F0=>?_;rw[F.eR]at hF;refine A.xl 1 ?_;refine A.AL.box 2 (cs:=[.slice A0_ ((a0).length) c1_]) fun g1=>?_;refine A.AL.box 3 (cs:=[.slice A2_ ((a1).length) c3_]) fun g2=>?_;refine A.AL.alloc 4 (cs:=[.slice none 0 0,.slice none 0 0,.slice none 0 0]) Tryz.zeroValue28 fun g3=>?_;refine A.q0 [] [] [.n] [] (A.dl 3 ?_);refine A.q0 [2] [] [.b 0 0] [(15,.agg #[.slice A0_ ((a0).length) c1_])] ?_;obtain⟨r4,hv5,hF⟩:=A.bd_some hF;refine A.AL.call 5 [] (first:=[]) (cap:=[]) cf18 (o_ab a0 A0_ c1_ r4 hv5) (.s 0 .nil) ?_;rintro _ _ ⟨rfl,rfl,hr6⟩;refine⟨by kernel_rfl,?_⟩;refine A.q0 [] [] [.n] [(6,A.i r4)] (A.dl 2 ?_);refine A.q0 [] [] [.n,.n] [(18,.bool (decide (r4≠0)))] (A.dx 1 ?_);refine A.AX.cnd rfl hF ?_ ?_<;>intro hb hF
 ·refine A.xl 1 ?_;refine A.q0 [] [] [.n,.n] [(19,.agg #[.slice none 0 0,.slice none 0 0,.slice none 0 0]),(20,A.i r4)] ?_;refine A.sw 4 [] [.slice none 0 0,.slice none 0 0,.slice none 0 0] ?_;refine A.q0 [] [] [.n] [(5,A.i r4)] (A.dx 1 ?_);obtain rfl:=A.si hF;refine A.snil 45 A.ti ?_;refine A.snil 46 T69 ?_;refine A.snil 47 T82 ?_;exact A.AX.ret [(0,45),(1,46),(2,47)] (.tuple #[.agg #[.slice none 0 0,.slice none 0 0,.slice none 0 0],A.i r4]) (fun a w hf hh=>Z.resv2 rfl (Z.rv_n hf rfl Tryz.isAgg28 Tryz.sizeOf28 (A.Hp.blk hh 4) rfl) (Z.rv_t hf rfl)) (⟨none,0,none,0,none,0,rfl,rfl,hr6⟩)
 refine A.xl 4 ?_;refine A.q0 [3] [] [.b 0 0] [(21,.agg #[.slice A2_ ((a1).length) c3_])] ?_;obtain⟨r7,hv8,hF⟩:=A.bd_some hF;refine A.AL.call 48 [] (first:=[]) (cap:=[]) cf18 (o_ab a1 A2_ c3_ r7 hv8) (.s 1 .nil) ?_;rintro _ _ ⟨rfl,rfl,hr9⟩;refine⟨by kernel_rfl,?_⟩;refine A.q0 [] [] [.n] [(7,A.i r7)] (A.dl 2 ?_);refine A.q0 [] [] [.n,.n] [(24,.bool (decide (r7≠0)))] (A.dx 1 ?_);refine A.AX.cnd rfl hF ?_ ?_<;>intro hb hF
 ·refine A.xl 1 ?_;refine A.q0 [] [] [.n,.n] [(25,.agg #[.slice none 0 0,.slice none 0 0,.slice none 0 0]),(26,A.i r7)] ?_;refine A.sw 4 [] [.slice none 0 0,.slice none 0 0,.slice none 0 0] ?_;refine A.q0 [] [] [.n] [(5,A.i r7)] (A.dx 1 ?_);obtain rfl:=A.si hF;refine A.snil 88 A.ti ?_;refine A.snil 89 T69 ?_;refine A.snil 90 T82 ?_;exact A.AX.ret [(0,88),(1,89),(2,90)] (.tuple #[.agg #[.slice none 0 0,.slice none 0 0,.slice none 0 0],A.i r7]) (fun a w hf hh=>Z.resv2 rfl (Z.rv_n hf rfl Tryz.isAgg28 Tryz.sizeOf28 (A.Hp.blk hh 4) rfl) (Z.rv_t hf rfl)) (⟨none,0,none,0,none,0,rfl,rfl,hr9⟩)
 refine A.xx 3 ?_;refine A.AX.join [2,3,4] [0,1,2,3,4] (fun nl nh=>∃(y10:Bool),nl=[(36,.bool y10)]∧nh=[]∧F.ej a0 a1 y10=some r) ?_ ?_
 ·refine A.xl 0 ?_;refine A.q0 [2,3] [] [.b 0 0,.b 1 0] [(27,.agg #[.slice A0_ ((a0).length) c1_]),(28,.agg #[.slice A2_ ((a1).length) c3_])] ?_;obtain⟨r1797,hv1798,hF⟩:=A.bd_some hF;refine A.AL.call 91 [] (first:=[]) (cap:=[]) cf46 (o_aB a0 a1 A0_ c1_ A2_ c3_ r1797 hv1798) (.s 0 (.s 1 .nil)) ?_;rintro _ _ ⟨rfl,rfl⟩;refine⟨by kernel_rfl,?_⟩;refine A.q0 [] [] [.n,.n] [(31,.bool (!r1797))] ?_;refine A.AL.cnd (j:=31) rfl hF (fun hF=>?_) (fun hF=>?_)
  ·refine A.q0 [] [] [.off,.off,.off,.off,.n] [(36,.bool true)] (A.AL.done ?_);exact A.j ⟨true,rfl,rfl,hF⟩
  refine A.q0 [3,2] [] [.on (.b 0 0),.on (.b 1 0)] [(32,.agg #[.slice A2_ ((a1).length) c3_]),(33,.agg #[.slice A0_ ((a0).length) c1_])] ?_;refine A.AL.on (dj:=31) rfl rfl ?_;obtain⟨r1799,hv1800,hF⟩:=A.bd_some hF;refine A.AL.call 131 [] (first:=[]) (cap:=[]) cf46 (o_aB a1 a0 A2_ c3_ A0_ c1_ r1799 hv1800) (.s 1 (.s 0 .nil)) ?_;rintro _ _ ⟨rfl,rfl⟩;refine⟨by kernel_rfl,?_⟩;refine A.q0 [] [] [.on .n,.n] [(36,.bool (!r1799))] (A.AL.done ?_);exact A.j ⟨(!r1799),rfl,rfl,hF⟩
 rintro _ _ ⟨y10,rfl,rfl,hF⟩;rw[F.ej]at hF;refine A.AX.cnb rfl hF ?_ ?_<;>intro hb hF
 ·refine A.xl 1 ?_;refine A.q0 [] [] [.n] [(37,.agg #[.slice none 0 0,.slice none 0 0,.slice none 0 0])] ?_;refine A.sw 4 [] [.slice none 0 0,.slice none 0 0,.slice none 0 0] ?_;refine A.q0 [] [] [.n] [(5,A.i 90)] (A.dx 1 ?_);obtain rfl:=A.si hF;refine A.snil 171 A.ti ?_;refine A.snil 172 T69 ?_;refine A.snil 173 T82 ?_;exact A.AX.ret [(0,171),(1,172),(2,173)] (.tuple #[.agg #[.slice none 0 0,.slice none 0 0,.slice none 0 0],A.i 90]) (fun a w hf hh=>Z.resv2 rfl (Z.rv_n hf rfl Tryz.isAgg28 Tryz.sizeOf28 (A.Hp.blk hh 4) rfl) (Z.rv_t hf rfl)) (⟨none,0,none,0,none,0,rfl,rfl,(A.hasl .i64 (90) rfl)⟩)
 refine A.xl 3 ?_;refine A.AL.alloc 174 (cs:=[.slice none 0 0,.slice none 0 0,.slice none 0 0]) Tryz.zeroValue28 fun g11=>?_;refine A.dl 3 ?_;refine A.q0 [] [] [.n] [(9,A.i 0)] (A.dx 2 ?_);refine A.nil 3574 A.ti 3 ?_;refine A.lp_ [2,3,4,8] [0,1,2,3,4] (fun f nl nh=>∃(xs14:List Int),∃(y15:Int),∃(A12:Option Addr),∃(c13:Nat),nl=[(9,A.i y15)]∧nh=[(174,.blk g11 28 [.slice A12 ((xs14).length) c13,.slice none 0 0,.slice none 0 0]),(3574,.own A.ti 3 A12 c13 xs14)]∧A.h6 y15∧F.br a0 a1 f xs14 y15=some r) ⟨[],0,none,0,rfl,rfl,(A.hasl .i64 (0) rfl),hF⟩ ?_;rintro f17 _ _ ⟨xs14,y15,A12,c13,rfl,rfl,hy16,hF⟩;rcases f17 with _|f17
 ·exact A.no0 hF
 rw[F.br]at hF;refine A.xl 2 ?_;refine A.q0 [2] [] [.n,.n,.b 0 0,.n,.n] [(42,.bool (decide (y15<((a0).length:Int))))] (A.dx 1 ?_);refine A.AX.cnd rfl hF ?_ ?_<;>intro hb hF
 ·refine A.xx 2 ?_;refine A.AX.join [2,3,4,8,9] [0,1,2,3,4] (fun nl nh=>∃(xs20:List Int),∃(A18:Option Addr),∃(c19:Nat),nl=[]∧nh=[(174,.blk g11 28 [.slice A18 ((xs20).length) c19,.slice none 0 0,.slice none 0 0]),(3574,.own A.ti 3 A18 c19 xs20)]∧F.eh (F.br a0 a1 f17) y15 xs20=some r) ?_ ?_
  ·refine A.xx 1 ?_;refine A.AX.join [2,3,4,8,9] [0,1,2,3,4,174,3574] (fun nl nh=>∃(y22:Bool),nl=[(11,.bool y22)]∧nh=[]∧F.eV (F.br a0 a1 f17) a0 xs14 y15 y22=some r) ?_ ?_
   ·refine A.AX.dr mixed 14 14 (A.mb 14 0) ?_;refine A.hq A.pb [] [0,1,2,3,4,174,3574] [3,2] [] (A.mb 14 15) 10 [(0,.b 0 0),(1,.n),(3,.n),(2,.b 1 0)] [(46,.agg #[.slice A2_ ((a1).length) c3_]),(49,A.i y15),(48,.slice A0_ ((a0).length) c1_)] ?_;obtain⟨x35,hv36,hF⟩:=A.bd_some hF;refine A.AH.pks 0 9511 hv36 fun ho37=>?_;intro A39 c40 b41 o42 hA38;refine A.AH.v A.pb [0,1,2,3,4,174,3574] [0,1,2,3,4,174,3574,9511,9512] 4 (A.mb 14 31) rfl (fun a w hf hh=>A.r_ixa (t:=T69) hv36 hA38 hf) ?_;refine A.hq A.pb [0,1,2,3,4,174,3574,9511,9512] [0,1,2,3,4,174,3574,9511,9512] [] [9511] (A.mb 14 127) 7 [(5,.n),(6,.e 0 0)] [(52,A.i x35.1)] ?_;refine A.AH.two 7 11 ?_ ?_
    ·obtain⟨r463,hv464,hF⟩:=A.bd_some hF;refine A.AL.call 9723 [] (first:=[]) (cap:=[]) cf47 (o_a a1 x35.1 A2_ c3_ ho37.1 r463 hv464) (.s 1 .nil) ?_;rintro _ _ ⟨A467,c468,rfl,rfl,hr465,hr466,hr469,hr470,hr471,hr472,hr473,hr474⟩;refine⟨by kernel_rfl,?_⟩;refine A.AH.nx (A.mb 14 255) [0,1,2,3,4,174,3574,9511,9512] ?_;refine A.hq A.pb [0,1,2,3,4,174,3574,9511,9512] [0,1,2,3,4,174,3574,9511,9512,9723] [] [] (A.mb 14 2047) 3 [(8,.n),(9,.n),(10,.n)] [(54,.agg #[A.i r463.1.1,A.i r463.1.2.1,.slice A467 ((r463.1.2.2.1).length) c468,A.i r463.1.2.2.2.1.1,A.i r463.1.2.2.2.1.2.1,.string r463.1.2.2.2.1.2.2,.string r463.1.2.2.2.2.1,A.i r463.1.2.2.2.2.2.1,A.i r463.1.2.2.2.2.2.2]),(55,.bool r463.2)] ?_;refine A.AH.one 11 ?_;refine A.AL.alloc 9843 (cs:=[A.i 0,A.i 0,.slice none 0 0,A.i 0,A.i 0,.string (ByteArray.mk #[]),.string (ByteArray.mk #[]),A.i 0,A.i 0]) Tryz.zeroValue70 fun g703=>?_;refine A.AH.nx (A.mb 14 4095) [0,1,2,3,4,174,3574,9511,9512,9723] ?_;refine A.AH.one 12 ?_;refine A.sw 9843 [] [A.i r463.1.1,A.i r463.1.2.1,.slice A467 ((r463.1.2.2.1).length) c468,A.i r463.1.2.2.2.1.1,A.i r463.1.2.2.2.1.2.1,.string r463.1.2.2.2.1.2.2,.string r463.1.2.2.2.2.1,A.i r463.1.2.2.2.2.2.1,A.i r463.1.2.2.2.2.2.2] ?_;refine A.AH.nx (A.mb 14 8191) [0,1,2,3,4,174,3574,9511,9512,9723] ?_;refine A.hq A.pb [0,1,2,3,4,174,3574,9511,9512,9723] [0,1,2,3,4,174,3574,9511,9512,9723,9843] [] [] (A.mb 14 16383) 0 [(13,.n)] [(11,.bool r463.2)] (A.AH.done ?_);exact A.j ⟨r463.2,rfl,rfl,hF⟩
    refine A.AL.alloc 9843 (cs:=[A.i 0,A.i 0,.slice none 0 0,A.i 0,A.i 0,.string (ByteArray.mk #[]),.string (ByteArray.mk #[]),A.i 0,A.i 0]) Tryz.zeroValue70 fun g703=>?_;refine A.AH.nx (A.mb 14 2175) [0,1,2,3,4,174,3574,9511,9512] ?_;refine A.AH.one 7 ?_;obtain⟨r463,hv464,hF⟩:=A.bd_some hF;refine A.AL.call 9723 [] (first:=[]) (cap:=[]) cf47 (o_a a1 x35.1 A2_ c3_ ho37.1 r463 hv464) (.s 1 .nil) ?_;rintro _ _ ⟨A467,c468,rfl,rfl,hr465,hr466,hr469,hr470,hr471,hr472,hr473,hr474⟩;refine⟨by kernel_rfl,?_⟩;refine A.AH.nx (A.mb 14 2303) [0,1,2,3,4,174,3574,9511,9512] ?_;refine A.hq A.pb [0,1,2,3,4,174,3574,9511,9512] [0,1,2,3,4,174,3574,9511,9512,9723] [] [] (A.mb 14 4095) 2 [(8,.n),(9,.n),(10,.n)] [(54,.agg #[A.i r463.1.1,A.i r463.1.2.1,.slice A467 ((r463.1.2.2.1).length) c468,A.i r463.1.2.2.2.1.1,A.i r463.1.2.2.2.1.2.1,.string r463.1.2.2.2.1.2.2,.string r463.1.2.2.2.2.1,A.i r463.1.2.2.2.2.2.1,A.i r463.1.2.2.2.2.2.2]),(55,.bool r463.2)] ?_;refine A.AH.one 12 ?_;refine A.sw 9843 [] [A.i r463.1.1,A.i r463.1.2.1,.slice A467 ((r463.1.2.2.1).length) c468,A.i r463.1.2.2.2.1.1,A.i r463.1.2.2.2.1.2.1,.string r463.1.2.2.2.1.2.2,.string r463.1.2.2.2.2.1,A.i r463.1.2.2.2.2.2.1,A.i r463.1.2.2.2.2.2.2] ?_;refine A.AH.nx (A.mb 14 8191) [0,1,2,3,4,174,3574,9511,9512,9723] ?_;refine A.hq A.pb [0,1,2,3,4,174,3574,9511,9512,9723] [0,1,2,3,4,174,3574,9511,9512,9723,9843] [] [] (A.mb 14 16383) 0 [(13,.n)] [(11,.bool r463.2)] (A.AH.done ?_);exact A.j ⟨r463.2,rfl,rfl,hF⟩
   rintro _ _ ⟨y22,rfl,rfl,hF⟩;rw[F.eV]at hF;refine A.xl 1 ?_;refine A.q0 [] [] [.n,.n] [(57,.bool (!y22))] (A.dx 1 ?_);refine A.AX.cnb rfl hF ?_ ?_<;>intro hb hF
   ·refine A.AX.dr mixed 11 12 (A.mb 12 0) ?_;refine A.hq A.pb [] [0,1,2,3,4,174] [174,2] [] (A.mb 12 31) 7 [(0,.n),(2,.n),(4,.n),(1,.b 0 0),(3,.b 1 0)] [(62,A.i y15),(59,.slice A12 ((xs14).length) c13),(61,.slice A0_ ((a0).length) c1_)] ?_;obtain⟨x23,hv24,hF⟩:=A.bd_some hF;refine A.AH.pks 0 9933 hv24 fun ho25=>?_;intro A27 c28 b29 o30 hA26;refine A.AH.v A.pb [0,1,2,3,4,174] [0,1,2,3,4,174,9933,9934] 5 (A.mb 12 63) rfl (fun a w hf hh=>A.r_ixa (t:=T69) hv24 hA26 hf) ?_;refine A.hq A.pb [0,1,2,3,4,174,9933,9934] [0,1,2,3,4,174,9933,9934] [] [9933] (A.mb 12 255) 4 [(6,.n),(7,.e 0 0)] [(65,A.i x23.1)] ?_;refine A.AH.one 8 ?_;refine A.AL.bsl 9935 (ty:=A.ti) (cs:=[A.i x23.1]) [x23.1] ⟨⟨rfl,ho25.1⟩,rfl⟩ (fun g31=>?_) Tryz.zeroValue3 Tryz.sizeOf3
    refine A.AH.nx (A.mb 12 511) [0,1,2,3,4,174,9933,9934] ?_;refine A.AH.one 9 ?_;obtain⟨hl34,hF⟩:=A.gd_some hF;refine A.AL.app (k:=3574) [] (A.rowO (k:=9935) rfl) inf3 hl34 fun A32 c33=>?_;refine A.AH.nx (A.mb 12 1023) [0,1,2,3,4,174,9933,9934] ?_;refine A.hq A.pb [0,1,2,3,4,174,9933,9934] [0,1,2,3,4,174,3574,9933,9934,9935] [] [] (A.mb 12 2047) 1 [(10,.n)] [(68,.pointer (some ⟨g11,0,none⟩))] ?_;refine A.AH.one 11 ?_;refine A.AL.store 174 [] (new:=[.slice A32 ((xs14++[x23.1]).length) c33]) (cs':=[.slice A32 ((xs14++[x23.1]).length) c33,.slice none 0 0,.slice none 0 0]) ?_;refine A.AH.nm (A.mb 12 4095) ?_;refine A.AH.done ?_;refine A.ee 1 ?_;exact A.j ⟨(xs14++[x23.1]),A32,c33,rfl,rfl,hF⟩
   refine A.xe 2 ?_;exact A.j ⟨xs14,A12,c13,rfl,rfl,hF⟩
  rintro _ _ ⟨xs20,A18,c19,rfl,rfl,hF⟩;rw[F.eh]at hF;refine A.xl 0 ?_;obtain⟨hc21,hF⟩:=A.gd_some hF;refine A.q [] [] [.n,.n,.n] [Z.R64 (y15+1)] [(9,A.i (y15+1))] hc21 (A.AL.done ?_);exact A.j ⟨_,Nat.lt_succ_self _,⟨xs20,(y15+1),A18,c19,rfl,rfl,(Z.i64_has hc21),hF⟩⟩
 refine A.xl 4 ?_;refine A.q0 [] [] [.n] [(12,A.i 0)] (A.dx 2 ?_);refine A.nil 10954 T69 70 ?_;refine A.lp_ [2,3,4,8] [0,1,2,3,4,3574] (fun f nl nh=>∃(xs885:List D69),∃(y886:Int),∃(A883:Option Addr),∃(c884:Nat),nl=[(12,A.i y886)]∧nh=[(174,.blk g11 28 [.slice A12 ((xs14).length) c13,.slice A883 ((xs885).length) c884,.slice none 0 0]),(10954,.own T69 70 A883 c884 xs885)]∧A.h6 y886∧F.a2 a0 a1 xs14 f xs885 y886=some r) ⟨[],0,none,0,rfl,rfl,(A.hasl .i64 (0) rfl),hF⟩ ?_;rintro f888 _ _ ⟨xs885,y886,A883,c884,rfl,rfl,hy887,hF⟩;rcases f888 with _|f888
 ·exact A.no0 hF
 rw[F.a2]at hF;refine A.xl 2 ?_;refine A.q0 [3] [] [.n,.n,.b 0 0,.n,.n] [(73,.bool (decide (y886<((a1).length:Int))))] (A.dx 1 ?_);refine A.AX.cnd rfl hF ?_ ?_<;>intro hb hF
 ·refine A.xx 2 ?_;refine A.AX.join [2,3,4,8,12] [0,1,2,3,4,3574] (fun nl nh=>∃(xs891:List D69),∃(A889:Option Addr),∃(c890:Nat),nl=[]∧nh=[(174,.blk g11 28 [.slice A12 ((xs14).length) c13,.slice A889 ((xs891).length) c890,.slice none 0 0]),(10954,.own T69 70 A889 c890 xs891)]∧F.ei (F.a2 a0 a1 xs14 f888) y886 xs891=some r) ?_ ?_
  ·refine A.xx 1 ?_;refine A.AX.join [2,3,4,8,12] [0,1,2,3,4,174,3574,10954] (fun nl nh=>∃(xs895:List Int),∃(y896:Int),∃(y898:Int),∃(y900:Int),∃(y902:Int),∃(y904:ByteArray),∃(y906:ByteArray),∃(y908:Int),∃(y910:Int),∃(y913:Bool),∃(A893:Option Addr),∃(c894:Nat),∃(g912:Nat),nl=[(13,.pointer (some ⟨g912,0,none⟩)),(14,.bool y913)]∧nh=[(12183,.sh A.TI [.slice A893 (xs895).length c894] xs895),(12303,.blk g912 70 [A.i y896,A.i y898,.slice A893 ((xs895).length) c894,A.i y900,A.i y902,.string y904,.string y906,A.i y908,A.i y910])]∧A.h6 y896∧A.h6 y898∧A.h6 y900∧A.h6 y902∧y904.size≤maxLen∧y906.size≤maxLen∧A.h6 y908∧A.h6 y910∧F.eW (F.a2 a0 a1 xs14 f888) a1 xs885 y886 xs895 y896 y898 y900 y902 y904 y906 y908 y910 y913=some r) ?_ ?_
   ·refine A.AX.dr mixed 14 14 (A.mb 14 0) ?_;refine A.hq A.pb [] [0,1,2,3,4,174,3574,10954] [2,3] [] (A.mb 14 15) 10 [(0,.b 0 0),(1,.n),(3,.n),(2,.b 1 0)] [(77,.agg #[.slice A0_ ((a0).length) c1_]),(80,A.i y886),(79,.slice A2_ ((a1).length) c3_)] ?_;obtain⟨x949,hv950,hF⟩:=A.bd_some hF;refine A.AH.pks 1 11971 hv950 fun ho951=>?_;intro A953 c954 b955 o956 hA952;refine A.AH.v A.pb [0,1,2,3,4,174,3574,10954] [0,1,2,3,4,174,3574,10954,11971,11972] 4 (A.mb 14 31) rfl (fun a w hf hh=>A.r_ixa (t:=T69) hv950 hA952 hf) ?_;refine A.hq A.pb [0,1,2,3,4,174,3574,10954,11971,11972] [0,1,2,3,4,174,3574,10954,11971,11972] [] [11971] (A.mb 14 127) 7 [(5,.n),(6,.e 0 0)] [(83,A.i x949.1)] ?_;refine A.AH.two 7 11 ?_ ?_
    ·obtain⟨r1377,hv1378,hF⟩:=A.bd_some hF;refine A.AL.call 12183 [] (first:=[]) (cap:=[]) cf47 (o_a a0 x949.1 A0_ c1_ ho951.1 r1377 hv1378) (.s 0 .nil) ?_;rintro _ _ ⟨A1381,c1382,rfl,rfl,hr1379,hr1380,hr1383,hr1384,hr1385,hr1386,hr1387,hr1388⟩;refine⟨by kernel_rfl,?_⟩;refine A.AH.nx (A.mb 14 255) [0,1,2,3,4,174,3574,10954,11971,11972] ?_;refine A.hq A.pb [0,1,2,3,4,174,3574,10954,11971,11972] [0,1,2,3,4,174,3574,10954,11971,11972,12183] [] [] (A.mb 14 2047) 3 [(8,.n),(9,.n),(10,.n)] [(85,.agg #[A.i r1377.1.1,A.i r1377.1.2.1,.slice A1381 ((r1377.1.2.2.1).length) c1382,A.i r1377.1.2.2.2.1.1,A.i r1377.1.2.2.2.1.2.1,.string r1377.1.2.2.2.1.2.2,.string r1377.1.2.2.2.2.1,A.i r1377.1.2.2.2.2.2.1,A.i r1377.1.2.2.2.2.2.2]),(86,.bool r1377.2)] ?_;refine A.AH.one 11 ?_;refine A.AL.alloc 12303 (cs:=[A.i 0,A.i 0,.slice none 0 0,A.i 0,A.i 0,.string (ByteArray.mk #[]),.string (ByteArray.mk #[]),A.i 0,A.i 0]) Tryz.zeroValue70 fun g1617=>?_;refine A.AH.nx (A.mb 14 4095) [0,1,2,3,4,174,3574,10954,11971,11972,12183] ?_;refine A.AH.one 12 ?_;refine A.sw 12303 [] [A.i r1377.1.1,A.i r1377.1.2.1,.slice A1381 ((r1377.1.2.2.1).length) c1382,A.i r1377.1.2.2.2.1.1,A.i r1377.1.2.2.2.1.2.1,.string r1377.1.2.2.2.1.2.2,.string r1377.1.2.2.2.2.1,A.i r1377.1.2.2.2.2.2.1,A.i r1377.1.2.2.2.2.2.2] ?_;refine A.AH.nx (A.mb 14 8191) [0,1,2,3,4,174,3574,10954,11971,11972,12183] ?_;refine A.hq A.pb [0,1,2,3,4,174,3574,10954,11971,11972,12183] [0,1,2,3,4,174,3574,10954,11971,11972,12183,12303] [] [] (A.mb 14 16383) 0 [(13,.n)] [(14,.bool r1377.2)] (A.AH.done ?_);exact A.j ⟨r1377.1.2.2.1,r1377.1.1,r1377.1.2.1,r1377.1.2.2.2.1.1,r1377.1.2.2.2.1.2.1,r1377.1.2.2.2.1.2.2,r1377.1.2.2.2.2.1,r1377.1.2.2.2.2.2.1,r1377.1.2.2.2.2.2.2,r1377.2,A1381,c1382,g1617,rfl,rfl,hr1379,hr1380,hr1383,hr1384,hr1385,hr1386,hr1387,hr1388,hF⟩
    refine A.AL.alloc 12303 (cs:=[A.i 0,A.i 0,.slice none 0 0,A.i 0,A.i 0,.string (ByteArray.mk #[]),.string (ByteArray.mk #[]),A.i 0,A.i 0]) Tryz.zeroValue70 fun g1617=>?_;refine A.AH.nx (A.mb 14 2175) [0,1,2,3,4,174,3574,10954,11971,11972] ?_;refine A.AH.one 7 ?_;obtain⟨r1377,hv1378,hF⟩:=A.bd_some hF;refine A.AL.call 12183 [] (first:=[]) (cap:=[]) cf47 (o_a a0 x949.1 A0_ c1_ ho951.1 r1377 hv1378) (.s 0 .nil) ?_;rintro _ _ ⟨A1381,c1382,rfl,rfl,hr1379,hr1380,hr1383,hr1384,hr1385,hr1386,hr1387,hr1388⟩;refine⟨by kernel_rfl,?_⟩;refine A.AH.nx (A.mb 14 2303) [0,1,2,3,4,174,3574,10954,11971,11972] ?_;refine A.hq A.pb [0,1,2,3,4,174,3574,10954,11971,11972] [0,1,2,3,4,174,3574,10954,11971,11972,12183] [] [] (A.mb 14 4095) 2 [(8,.n),(9,.n),(10,.n)] [(85,.agg #[A.i r1377.1.1,A.i r1377.1.2.1,.slice A1381 ((r1377.1.2.2.1).length) c1382,A.i r1377.1.2.2.2.1.1,A.i r1377.1.2.2.2.1.2.1,.string r1377.1.2.2.2.1.2.2,.string r1377.1.2.2.2.2.1,A.i r1377.1.2.2.2.2.2.1,A.i r1377.1.2.2.2.2.2.2]),(86,.bool r1377.2)] ?_;refine A.AH.one 12 ?_;refine A.sw 12303 [] [A.i r1377.1.1,A.i r1377.1.2.1,.slice A1381 ((r1377.1.2.2.1).length) c1382,A.i r1377.1.2.2.2.1.1,A.i r1377.1.2.2.2.1.2.1,.string r1377.1.2.2.2.1.2.2,.string r1377.1.2.2.2.2.1,A.i r1377.1.2.2.2.2.2.1,A.i r1377.1.2.2.2.2.2.2] ?_;refine A.AH.nx (A.mb 14 8191) [0,1,2,3,4,174,3574,10954,11971,11972,12183] ?_;refine A.hq A.pb [0,1,2,3,4,174,3574,10954,11971,11972,12183] [0,1,2,3,4,174,3574,10954,11971,11972,12183,12303] [] [] (A.mb 14 16383) 0 [(13,.n)] [(14,.bool r1377.2)] (A.AH.done ?_);exact A.j ⟨r1377.1.2.2.1,r1377.1.1,r1377.1.2.1,r1377.1.2.2.2.1.1,r1377.1.2.2.2.1.2.1,r1377.1.2.2.2.1.2.2,r1377.1.2.2.2.2.1,r1377.1.2.2.2.2.2.1,r1377.1.2.2.2.2.2.2,r1377.2,A1381,c1382,g1617,rfl,rfl,hr1379,hr1380,hr1383,hr1384,hr1385,hr1386,hr1387,hr1388,hF⟩
   rintro _ _ ⟨xs895,y896,y898,y900,y902,y904,y906,y908,y910,y913,A893,c894,g912,rfl,rfl,hy897,hy899,hy901,hy903,hy905,hy907,hy909,hy911,hF⟩;rw[F.eW]at hF;refine A.AX.join [2,3,4,8,12] [0,1,2,3,4,174,3574,10954] (fun nl nh=>∃(y914:Bool),nl=[(98,.bool y914)]∧nh=[]∧F.dB (F.a2 a0 a1 xs14 f888) a1 xs885 y886 y914=some r) ?_ ?_
   ·refine A.AX.dr mixed 12 12 (A.mb 12 0) ?_;refine A.hq A.pb [] [0,1,2,3,4,174,3574,10954,12183,12303] [] [] (A.mb 12 7) 9 [(0,.n),(1,.n),(2,.n)] [(89,.bool (!y913))] ?_;refine A.AH.cnd (j:=89) rfl hF (fun hF=>?_) (fun hF=>?_)
    ·refine A.hq A.pb [0,1,2,3,4,174,3574,10954,12183,12303] [0,1,2,3,4,174,3574,10954,12183,12303] [] [] (A.mb 12 4095) 0 [(3,.off),(4,.off),(6,.off),(5,.off),(7,.off),(8,.off),(9,.off),(10,.off),(11,.n)] [(98,.bool true)] (A.AH.done ?_);exact A.j ⟨true,rfl,rfl,hF⟩
    refine A.hq A.pb [0,1,2,3,4,174,3574,10954,12183,12303] [0,1,2,3,4,174,3574,10954,12183,12303] [12303,3] [] (A.mb 12 127) 5 [(3,.on (.b 0 0)),(4,.on .n),(6,.on .n),(5,.on (.b 1 0))] [(90,.agg #[A.i y896,A.i y898,.slice A893 ((xs895).length) c894,A.i y900,A.i y902,.string y904,.string y906,A.i y908,A.i y910]),(93,A.i y886),(92,.slice A2_ ((a1).length) c3_)] ?_;obtain⟨x939,hv940,hF⟩:=A.bd_some hF;refine A.AH.pks 1 12393 hv940 fun ho941=>?_;intro A943 c944 b945 o946 hA942;refine A.AH.vg A.pb [0,1,2,3,4,174,3574,10954,12183,12303] [0,1,2,3,4,174,3574,10954,12183,12303,12393,12394] 7 (A.mb 12 255) (dj:=89) rfl (fun a w hf hh=>A.r_ixa (t:=T69) hv940 hA942 hf) ?_;refine A.hq A.pb [0,1,2,3,4,174,3574,10954,12183,12303,12393,12394] [0,1,2,3,4,174,3574,10954,12183,12303,12393,12394] [] [12393] (A.mb 12 511) 3 [(8,.on (.e 0 0))] [(95,.agg #[A.i x939.1,A.i x939.2.1,.slice A943 ((x939.2.2.1).length) c944,A.i x939.2.2.2.1.1,A.i x939.2.2.2.1.2.1,.string x939.2.2.2.1.2.2,.string x939.2.2.2.2.1,A.i x939.2.2.2.2.2.1,A.i x939.2.2.2.2.2.2])] ?_;refine A.AH.one 9 ?_;refine A.AL.on (dj:=89) rfl rfl ?_;obtain⟨r947,hv948,hF⟩:=A.bd_some hF;refine A.AL.call 12395 [] (first:=[]) (cap:=[]) cf48 (o_ar (y896,y898,xs895,(y900,y902,y904),y906,y908,y910) x939 A893 c894 A943 c944 hy897 hy899 hy901 hy903 hy905 hy907 hy909 hy911 ho941.1 ho941.2.1 ho941.2.2.2.1.1 ho941.2.2.2.1.2.1 ho941.2.2.2.1.2.2 ho941.2.2.2.2.1 ho941.2.2.2.2.2.1 ho941.2.2.2.2.2.2 r947 hv948) (.s 12183 (.s 12394 .nil)) ?_;rintro _ _ ⟨rfl,rfl⟩;refine⟨by kernel_rfl,?_⟩;refine A.AH.nx (A.mb 12 1023) [0,1,2,3,4,174,3574,10954,12183,12303,12393,12394] ?_;refine A.hq A.pb [0,1,2,3,4,174,3574,10954,12183,12303,12393,12394] [0,1,2,3,4,174,3574,10954,12183,12303,12393,12394] [] [] (A.mb 12 4095) 0 [(10,.on .n),(11,.n)] [(98,.bool (!r947))] (A.AH.done ?_);exact A.j ⟨(!r947),rfl,rfl,hF⟩
   rintro _ _ ⟨y914,rfl,rfl,hF⟩;rw[F.dB]at hF;refine A.AX.cnb rfl hF ?_ ?_<;>intro hb hF
   ·refine A.AX.dr mixed 11 12 (A.mb 12 0) ?_;refine A.hq A.pb [] [0,1,2,3,4,174,3574] [174,3] [] (A.mb 12 31) 7 [(0,.n),(2,.n),(4,.n),(1,.b 0 1),(3,.b 1 0)] [(103,A.i y886),(100,.slice A883 ((xs885).length) c884),(102,.slice A2_ ((a1).length) c3_)] ?_;obtain⟨x915,hv916,hF⟩:=A.bd_some hF;refine A.AH.pks 1 12435 hv916 fun ho917=>?_;intro A919 c920 b921 o922 hA918;refine A.AH.v A.pb [0,1,2,3,4,174,3574] [0,1,2,3,4,174,3574,12435,12436] 5 (A.mb 12 63) rfl (fun a w hf hh=>A.r_ixa (t:=T69) hv916 hA918 hf) ?_;refine A.hq A.pb [0,1,2,3,4,174,3574,12435,12436] [0,1,2,3,4,174,3574,12435,12436] [] [12435] (A.mb 12 127) 5 [(6,.e 0 0)] [(105,.agg #[A.i x915.1,A.i x915.2.1,.slice A919 ((x915.2.2.1).length) c920,A.i x915.2.2.2.1.1,A.i x915.2.2.2.1.2.1,.string x915.2.2.2.1.2.2,.string x915.2.2.2.2.1,A.i x915.2.2.2.2.2.1,A.i x915.2.2.2.2.2.2])] ?_;refine A.AH.one 7 ?_;obtain⟨r923,hv924,hF⟩:=A.bd_some hF;refine A.AL.call 12437 [] (first:=[]) (cap:=[]) cf49 (o_am x915 A919 c920 ho917.1 ho917.2.1 ho917.2.2.2.1.1 ho917.2.2.2.1.2.1 ho917.2.2.2.1.2.2 ho917.2.2.2.2.1 ho917.2.2.2.2.2.1 ho917.2.2.2.2.2.2 r923 hv924) (.s 12436 .nil) ?_;rintro _ _ ⟨A927,c928,rfl,rfl,hr925,hr926,hr929,hr930,hr931,hr932,hr933,hr934⟩;refine⟨by kernel_rfl,?_⟩;refine A.AH.nx (A.mb 12 255) [0,1,2,3,4,174,3574,12435,12436] ?_;refine A.AH.one 8 ?_;refine A.AL.bsl 12477 (ty:=T69) (cs:=[A.i r923.1,A.i r923.2.1,.slice A927 ((r923.2.2.1).length) c928,A.i r923.2.2.2.1.1,A.i r923.2.2.2.1.2.1,.string r923.2.2.2.1.2.2,.string r923.2.2.2.2.1,A.i r923.2.2.2.2.2.1,A.i r923.2.2.2.2.2.2]) [r923] ⟨⟨⟨rfl,hr925⟩,⟨rfl,hr926⟩,.inl ⟨12437,rfl⟩,⟨⟨rfl,hr929⟩,⟨rfl,hr930⟩,⟨rfl,hr931⟩⟩,⟨rfl,hr932⟩,⟨rfl,hr933⟩,⟨rfl,hr934⟩⟩,rfl⟩ (fun g935=>?_) Tryz.zeroValue70 Tryz.sizeOf70
    refine A.AH.nx (A.mb 12 511) [0,1,2,3,4,174,3574,12435,12436] ?_;refine A.AH.one 9 ?_;obtain⟨hl938,hF⟩:=A.gd_some hF;refine A.AL.app (k:=10954) [] (A.rowO (k:=12477) rfl) inf70 hl938 fun A936 c937=>?_;refine A.AH.nx (A.mb 12 1023) [0,1,2,3,4,174,3574,12435,12436] ?_;refine A.hq A.pb [0,1,2,3,4,174,3574,12435,12436] [0,1,2,3,4,174,3574,10954,12435,12436,12437,12477] [] [] (A.mb 12 2047) 1 [(10,.n)] [(109,.pointer (some ⟨g11,1,none⟩))] ?_;refine A.AH.one 11 ?_;refine A.AL.store 174 [] (new:=[.slice A936 ((xs885++[r923]).length) c937]) (cs':=[.slice A12 ((xs14).length) c13,.slice A936 ((xs885++[r923]).length) c937,.slice none 0 0]) ?_;refine A.AH.nm (A.mb 12 4095) ?_;refine A.AH.done ?_;refine A.ee 1 ?_;exact A.j ⟨(xs885++[r923]),A936,c937,rfl,rfl,hF⟩
   refine A.xe 2 ?_;exact A.j ⟨xs885,A883,c884,rfl,rfl,hF⟩
  rintro _ _ ⟨xs891,A889,c890,rfl,rfl,hF⟩;rw[F.ei]at hF;refine A.xl 0 ?_;obtain⟨hc892,hF⟩:=A.gd_some hF;refine A.q [] [] [.n,.n,.n] [Z.R64 (y886+1)] [(12,A.i (y886+1))] hc892 (A.AL.done ?_);exact A.j ⟨_,Nat.lt_succ_self _,⟨xs891,(y886+1),A889,c890,rfl,rfl,(Z.i64_has hc892),hF⟩⟩
 refine A.xl 3 ?_;refine A.q0 [174] [] [.b 0 0] [(110,.agg #[.slice A12 ((xs14).length) c13,.slice A883 ((xs885).length) c884,.slice none 0 0])] ?_;refine A.sw 4 [] [.slice A12 ((xs14).length) c13,.slice A883 ((xs885).length) c884,.slice none 0 0] ?_;refine A.q0 [] [] [.n] [(5,A.i 0)] (A.dx 1 ?_);obtain rfl:=A.si hF;refine A.frz 3574 [] ?_;refine A.frz 10954 [] ?_;refine A.snil 12478 T82 ?_;exact A.AX.ret [(0,3574),(1,10954),(2,12478)] (.tuple #[.agg #[.slice A12 ((xs14).length) c13,.slice A883 ((xs885).length) c884,.slice none 0 0],A.i 0]) (fun a w hf hh=>Z.resv2 rfl (Z.rv_n hf rfl Tryz.isAgg28 Tryz.sizeOf28 (A.Hp.blk hh 4) rfl) (Z.rv_t hf rfl)) (⟨A12,c13,A883,c884,none,0,rfl,rfl,(A.hasl .i64 (0) rfl)⟩)
def F.bF (a0:(List Int))(a1:(List Int)):Nat→Int→Option Bool
 |0,_=>none
 |f+1,y1=>if y1<((a0).length:Int)then((A.ix a0 y1).bind fun x4=>((A.ix a1 y1).bind fun x10=>(if x4≠x10 then(some false)else(A.gd (Z.R64 (y1+1)) ((F.bF a0 a1 f) (y1+1))))))else(some true)
def F.dX (a0:(List Int))(a1:(List Int)):Option Bool:=if((a0).length:Int)≠((a1).length:Int)then(some false)else(F.bF a0 a1 A.FU 0)
theorem o_a5 (a0:(List Int))(a1:(List Int))(A0_:Option Addr)(c1_:Nat)(A2_:Option Addr)(c3_:Nat)(r:Bool)(hF:F.dX a0 a1=some r):
    A.Ct Tryz.prog 50 [.slice A0_ ((a0).length) c1_,.slice A2_ ((a1).length) c3_] [(0,.ln A.ti A0_ c1_ a0),(1,.ln A.ti A2_ c3_ a1)] [] (fun v H'=>v=.bool r∧H'=[]):=by
 refine A.Ct.enter Tryz.func50 rfl Tryz.ntmps50 rfl fun w0 F0=>?_;rw[F.dX]at hF;refine A.xl 1 ?_;refine A.q0 [] [] [.n] [] (A.dl 3 ?_);refine A.q0 [] [] [.n,.n,.n,.n,.n] [(10,.bool (decide (((a0).length:Int)≠((a1).length:Int))))] (A.dx 1 ?_);refine A.AX.cnd rfl hF ?_ ?_<;>intro hb hF
 ·refine A.xl 1 ?_;refine A.q0 [] [] [.n] [(4,.bool false)] (A.dx 1 ?_);obtain rfl:=A.si hF;exact A.rt1 [] ⟨rfl,rfl⟩
 refine A.xl 4 ?_;refine A.q0 [] [] [.n] [(5,A.i 0)] (A.dx 2 ?_);refine A.lp_ [0,1] [0,1] (fun f nl nh=>∃(y1:Int),nl=[(5,A.i y1)]∧nh=[]∧A.h6 y1∧F.bF a0 a1 f y1=some r) ⟨0,rfl,rfl,(A.hasl .i64 (0) rfl),hF⟩ ?_;rintro f3 _ _ ⟨y1,rfl,rfl,hy2,hF⟩;rcases f3 with _|f3
 ·exact A.no0 hF
 rw[F.bF]at hF;refine A.xl 2 ?_;refine A.q0 [] [] [.n,.n,.n,.n] [(14,.bool (decide (y1<((a0).length:Int))))] (A.dx 1 ?_);refine A.AX.cnd rfl hF ?_ ?_<;>intro hb hF
 ·refine A.xx 5 ?_;refine A.AX.dr mixed 9 9 (A.mb 9 0) ?_;refine A.hq A.pb [] [0,1] [] [] (A.mb 9 51) 5 [(0,.n),(1,.n),(4,.n),(5,.n)] [(17,.slice A0_ ((a0).length) c1_),(18,A.i y1),(21,.slice A2_ ((a1).length) c3_),(22,A.i y1)] ?_;obtain⟨x4,hv5,hF⟩:=A.bd_some hF;refine A.AH.pkl 0 6 hv5 fun ho6=>?_;intro b8 o9 hA7;refine A.AH.v A.pb [0,1] [0,1,6] 2 (A.mb 9 55) rfl (fun a w hf hh=>A.r_ixa (t:=A.ti) hv5 hA7 hf) ?_;refine A.hq A.pb [0,1,6] [0,1,6] [] [6] (A.mb 9 63) 3 [(3,.e 0 0)] [(20,A.i x4)] ?_;obtain⟨x10,hv11,hF⟩:=A.bd_some hF;refine A.AH.pkl 1 7 hv11 fun ho12=>?_;intro b14 o15 hA13;refine A.AH.v A.pb [0,1,6] [0,1,6,7] 6 (A.mb 9 127) rfl (fun a w hf hh=>A.r_ixa (t:=A.ti) hv11 hA13 hf) ?_;refine A.hq A.pb [0,1,6,7] [0,1,6,7] [] [7] (A.mb 9 511) 0 [(7,.e 0 0),(8,.n)] [(25,.bool (decide (x4≠x10)))] (A.AH.done ?_);refine A.ex 1 ?_;refine A.AX.cnd rfl hF ?_ ?_<;>intro hb hF
  ·refine A.xl 1 ?_;refine A.q0 [] [] [.n] [(4,.bool false)] (A.dx 1 ?_);obtain rfl:=A.si hF;exact A.rt1 [] ⟨rfl,rfl⟩
  refine A.xl 3 ?_;obtain⟨hc16,hF⟩:=A.gd_some hF;refine A.q [] [] [.n,.n,.n] [Z.R64 (y1+1)] [(5,A.i (y1+1))] hc16 (A.AL.done ?_);exact A.j ⟨_,Nat.lt_succ_self _,⟨(y1+1),rfl,rfl,(Z.i64_has hc16),hF⟩⟩
 refine A.xl 3 ?_;refine A.q0 [] [] [.n] [(4,.bool true)] (A.dx 1 ?_);obtain rfl:=A.si hF;exact A.rt1 [] ⟨rfl,rfl⟩
def F.cO (a0:D27)(a1:D27):Nat→Int→Option Bool
 |0,_=>none
 |f+1,y4=>if y4<((a0.2.2).length:Int)then((A.ix a0.2.2 y4).bind fun x7=>((A.ix a1.2.2 y4).bind fun x13=>(if x7≠x13 then(some false)else(A.gd (Z.R64 (y4+1)) ((F.cO a0 a1 f) (y4+1))))))else(some true)
def F.cP (a0:D27)(a1:D27)(y3:Bool):Option Bool:=if y3=true then(some false)else(F.cO a0 a1 A.FU 0)
def F.dl (a0:D27)(a1:D27):Option Bool:=(F.dX a0.1 a1.1).bind fun r20=>(if(!r20)=true then(F.cP a0 a1 true)else((F.eo a0.2.1 a1.2.1).bind fun r22=>(F.cP a0 a1 (bif !r22 then true else decide (((a0.2.2).length:Int)≠((a1.2.2).length:Int))))))
theorem o_aW (a0:D27)(a1:D27)(A0_:Option Addr)(c1_:Nat)(A2_:Option Addr)(c3_:Nat)(A4_:Option Addr)(c5_:Nat)(A6_:Option Addr)(c7_:Nat)(A8_:Option Addr)(c9_:Nat)(A10_:Option Addr)(c11_:Nat)(r:Bool)(hF:F.dl a0 a1=some r):
    A.Ct Tryz.prog 17 [.agg #[.slice A0_ ((a0.1).length) c1_,.slice A2_ ((a0.2.1).length) c3_,.slice A4_ ((a0.2.2).length) c5_],.agg #[.slice A6_ ((a1.1).length) c7_,.slice A8_ ((a1.2.1).length) c9_,.slice A10_ ((a1.2.2).length) c11_]] [(0,.sh A.TI [.slice A0_ (a0.1).length c1_] a0.1),(1,.sh (.slice T69) [.slice A2_ (a0.2.1).length c3_] a0.2.1),(2,.sh (.slice T82) [.slice A4_ (a0.2.2).length c5_] a0.2.2),(3,.sh A.TI [.slice A6_ (a1.1).length c7_] a1.1),(4,.sh (.slice T69) [.slice A8_ (a1.2.1).length c9_] a1.2.1),(5,.sh (.slice T82) [.slice A10_ (a1.2.2).length c11_] a1.2.2)] [] (fun v H'=>v=.bool r∧H'=[]):=by
 refine A.Ct.enter Tryz.func17 rfl Tryz.ntmps17 rfl fun w0 F0=>?_;rw[F.dl]at hF;refine A.xl 1 ?_;refine A.AL.box 6 (cs:=[.slice A0_ ((a0.1).length) c1_,.slice A2_ ((a0.2.1).length) c3_,.slice A4_ ((a0.2.2).length) c5_]) fun g1=>?_;refine A.AL.box 7 (cs:=[.slice A6_ ((a1.1).length) c7_,.slice A8_ ((a1.2.1).length) c9_,.slice A10_ ((a1.2.2).length) c11_]) fun g2=>?_;refine A.q0 [] [] [.n] [] (A.dx 2 ?_);refine A.AX.join [2,3] [0,1,2,3,4,5,6,7] (fun nl nh=>∃(y3:Bool),nl=[(30,.bool y3)]∧nh=[]∧F.cP a0 a1 y3=some r) ?_ ?_
 ·refine A.xl 0 ?_;refine A.q0 [6,7] [] [.n,.b 0 0,.n,.b 1 0] [(7,.slice A0_ ((a0.1).length) c1_),(9,.slice A6_ ((a1.1).length) c7_)] ?_;obtain⟨r20,hv21,hF⟩:=A.bd_some hF;refine A.AL.call 8 [] (first:=[]) (cap:=[]) cf50 (o_a5 a0.1 a1.1 A0_ c1_ A6_ c7_ r20 hv21) (.l 0 (.l 3 .nil)) ?_;rintro _ _ ⟨rfl,rfl⟩;refine⟨by kernel_rfl,?_⟩;refine A.q0 [] [] [.n,.n] [(12,.bool (!r20))] ?_;refine A.AL.cnd (j:=12) rfl hF (fun hF=>?_) (fun hF=>?_)
  ·refine A.q0 [] [] [.off,.off,.off,.off,.off,.off,.off,.off,.n,.n,.off,.off,.off,.off,.off,.off,.off,.n] [(30,.bool true)] (A.AL.done ?_);exact A.j ⟨true,rfl,rfl,hF⟩
  refine A.q0 [6,7] [] [.on .n,.on (.b 0 1),.on .n,.on .n,.on (.b 1 1),.on .n] [(15,.agg #[.slice A2_ ((a0.2.1).length) c3_]),(18,.agg #[.slice A8_ ((a1.2.1).length) c9_])] ?_;refine A.AL.on (dj:=12) rfl rfl ?_;obtain⟨r22,hv23,hF⟩:=A.bd_some hF;refine A.AL.call 48 [] (first:=[]) (cap:=[]) cf13 (o_aV a0.2.1 a1.2.1 A2_ c3_ A8_ c9_ r22 hv23) (.s 1 (.s 4 .nil)) ?_;rintro _ _ ⟨rfl,rfl⟩;refine⟨by kernel_rfl,?_⟩;refine A.q0 [6,7] [] [.on .n,.n,.n,.sy .n,.sy (.b 0 2),.sy .n,.sy .n,.sy (.b 1 2),.sy .n,.sy .n,.pk] [(30,.bool (bif !r22 then true else decide (((a0.2.2).length:Int)≠((a1.2.2).length:Int))))] (A.AL.done ?_);exact A.j ⟨(bif !r22 then true else decide (((a0.2.2).length:Int)≠((a1.2.2).length:Int))),rfl,rfl,hF⟩
 rintro _ _ ⟨y3,rfl,rfl,hF⟩;rw[F.cP]at hF;refine A.AX.cnb rfl hF ?_ ?_<;>intro hb hF
 ·refine A.xl 1 ?_;refine A.q0 [] [] [.n] [(4,.bool false)] (A.dx 1 ?_);obtain rfl:=A.si hF;exact A.rt1 [] ⟨rfl,rfl⟩
 refine A.xl 4 ?_;refine A.q0 [] [] [.n] [(5,A.i 0)] (A.dx 2 ?_);refine A.lp_ [2,3] [0,1,2,3,4,5,6,7] (fun f nl nh=>∃(y4:Int),nl=[(5,A.i y4)]∧nh=[]∧A.h6 y4∧F.cO a0 a1 f y4=some r) ⟨0,rfl,rfl,(A.hasl .i64 (0) rfl),hF⟩ ?_;rintro f6 _ _ ⟨y4,rfl,rfl,hy5,hF⟩;rcases f6 with _|f6
 ·exact A.no0 hF
 rw[F.cO]at hF;refine A.xl 2 ?_;refine A.q0 [6] [] [.n,.n,.b 0 2,.n,.n] [(35,.bool (decide (y4<((a0.2.2).length:Int))))] (A.dx 1 ?_);refine A.AX.cnd rfl hF ?_ ?_<;>intro hb hF
 ·refine A.xx 5 ?_;refine A.AX.dr mixed 11 11 (A.mb 11 0) ?_;refine A.hq A.pb [] [0,1,2,3,4,5,6,7] [6,7] [] (A.mb 11 231) 5 [(0,.n),(2,.n),(5,.n),(7,.n),(1,.b 0 2),(6,.b 1 2)] [(40,A.i y4),(45,A.i y4),(39,.slice A4_ ((a0.2.2).length) c5_),(44,.slice A10_ ((a1.2.2).length) c11_)] ?_;obtain⟨x7,hv8,hF⟩:=A.bd_some hF;refine A.AH.pks 2 92 hv8 fun ho9=>?_;intro b11 o12 hA10;refine A.AH.v A.pb [0,1,2,3,4,5,6,7] [0,1,2,3,4,5,6,7,92] 3 (A.mb 11 239) rfl (fun a w hf hh=>A.r_ixa (t:=T82) hv8 hA10 hf) ?_;refine A.hq A.pb [0,1,2,3,4,5,6,7,92] [0,1,2,3,4,5,6,7,92] [] [92] (A.mb 11 255) 3 [(4,.e 0 0)] [(42,.agg #[A.i x7.1,A.i x7.2.1,A.i x7.2.2.1,A.i x7.2.2.2.1,A.i x7.2.2.2.2.1,A.i x7.2.2.2.2.2.1,.string x7.2.2.2.2.2.2])] ?_;obtain⟨x13,hv14,hF⟩:=A.bd_some hF;refine A.AH.pks 5 93 hv14 fun ho15=>?_;intro b17 o18 hA16;refine A.AH.v A.pb [0,1,2,3,4,5,6,7,92] [0,1,2,3,4,5,6,7,92,93] 8 (A.mb 11 511) rfl (fun a w hf hh=>A.r_ixa (t:=T82) hv14 hA16 hf) ?_;refine A.hq A.pb [0,1,2,3,4,5,6,7,92,93] [0,1,2,3,4,5,6,7,92,93] [] [93] (A.mb 11 1023) 1 [(9,.e 0 0)] [(47,.agg #[A.i x13.1,A.i x13.2.1,A.i x13.2.2.1,A.i x13.2.2.2.1,A.i x13.2.2.2.2.1,A.i x13.2.2.2.2.2.1,.string x13.2.2.2.2.2.2])] ?_;refine A.AH.v A.pb [0,1,2,3,4,5,6,7,92,93] [0,1,2,3,4,5,6,7,92,93] 10 (A.mb 11 2047) rfl (fun a w hf hh=>eqagg_neq83 (x:=x7) (y:=x13) (hf.eval rfl) (hf.eval rfl)) ?_;refine A.AH.done ?_;refine A.ex 1 ?_;refine A.AX.cnd rfl hF ?_ ?_<;>intro hb hF
  ·refine A.xl 1 ?_;refine A.q0 [] [] [.n] [(4,.bool false)] (A.dx 1 ?_);obtain rfl:=A.si hF;exact A.rt1 [] ⟨rfl,rfl⟩
  refine A.xl 3 ?_;obtain⟨hc19,hF⟩:=A.gd_some hF;refine A.q [] [] [.n,.n,.n] [Z.R64 (y4+1)] [(5,A.i (y4+1))] hc19 (A.AL.done ?_);exact A.j ⟨_,Nat.lt_succ_self _,⟨(y4+1),rfl,rfl,(Z.i64_has hc19),hF⟩⟩
 refine A.xl 3 ?_;refine A.q0 [] [] [.n] [(4,.bool true)] (A.dx 1 ?_);obtain rfl:=A.si hF;exact A.rt1 [] ⟨rfl,rfl⟩
def F.cm (xs5:List Int):Option ((List Int)):=(F.dh xs5).bind fun r6=>(some r6)
def F.da (k3:(List Int)→Int→Option ((List Int)))(y20:Int)(xs25:List Int):Option ((List Int)):=A.gd (Z.R64 (y20+1)) (k3 xs25 (y20+1))
def F.cn (k3:(List Int)→Int→Option ((List Int)))(xs19:List Int)(y20:Int)(x27:D69)(y41:Bool):Option ((List Int)):=if y41=true then(A.gd ((List.length (α:=Int) xs19+List.length (α:=Int) [x27.1])*8≤140737488355328) (F.da k3 y20 (xs19++[x27.1])))else(F.da k3 y20 xs19)
def F.aF (a0:D23)(a1:D27)(r14:(List (Int×D69))):Nat→(List Int)→Int→Option ((List Int))
 |0,_,_=>none
 |f+1,xs19,y20=>if y20<((a0).length:Int)then((A.ix a0 y20).bind fun x27=>(A.lt (Z.mget ((0,0,[],(0,0,(ByteArray.mk #[])),(ByteArray.mk #[]),0,0):D69) r14 x27.1) fun x35=>((F.du x27.2.1).bind fun r46=>(if(bif r46 then !(Z.mhas r14 x27.1)else false)=true then((F.aI a1.1 x27.1).bind fun r48=>(F.cn (F.aF a0 a1 r14 f) xs19 y20 x27 (!r48)))else(F.cn (F.aF a0 a1 r14 f) xs19 y20 x27 false)))))else(F.cm xs19)
def F.dC (a0:D23)(a1:D27):Option ((List Int)):=(F.cN a0 a1).bind fun r11=>(if r11=0 then((F.b9 a1.2.1).bind fun r14=>(F.aF a0 a1 r14 A.FU [] 0))else(F.cm []))
theorem o_bc (a0:D23)(a1:D27)(A0_:Option Addr)(c1_:Nat)(A2_:Option Addr)(c3_:Nat)(A4_:Option Addr)(c5_:Nat)(A6_:Option Addr)(c7_:Nat)(r:((List Int)))(hF:F.dC a0 a1=some r):
    A.Ct Tryz.prog 20 [.agg #[.slice A0_ ((a0).length) c1_],.agg #[.slice A2_ ((a1.1).length) c3_,.slice A4_ ((a1.2.1).length) c5_,.slice A6_ ((a1.2.2).length) c7_]] [(0,.sh (.slice T69) [.slice A0_ (a0).length c1_] a0),(1,.sh A.TI [.slice A2_ (a1.1).length c3_] a1.1),(2,.sh (.slice T69) [.slice A4_ (a1.2.1).length c5_] a1.2.1),(3,.sh (.slice T82) [.slice A6_ (a1.2.2).length c7_] a1.2.2),(4,.el none 0 0 A.tabF),(5,.el none 1 0 A.tabA)] [] (fun v H'=>∃(g0':Nat) (A1':Option Addr) (c2':Nat),v=.func (.func 88) #[] #[.pointer (some ⟨g0',0,none⟩)]∧H'=[(0,.blk g0' 25 [.slice A1' ((r).length) c2']),(1,.sh A.TI [.slice A1' (r).length c2'] r)]):=by
 refine A.Ct.enter Tryz.func20 rfl Tryz.ntmps20 rfl fun w0 F0=>?_;rw[F.dC]at hF;refine A.xl 1 ?_;refine A.AL.box 6 (cs:=[.slice A0_ ((a0).length) c1_]) fun g1=>?_;refine A.AL.box 7 (cs:=[.slice A2_ ((a1.1).length) c3_,.slice A4_ ((a1.2.1).length) c5_,.slice A6_ ((a1.2.2).length) c7_]) fun g2=>?_;refine A.q0 [] [] [.n] [] (A.dl 2 ?_);refine A.q0 [] [] [.n] [(5,.slice none 0 0)] (A.dx 1 ?_);refine A.nil 521 A.ti 3 ?_;refine A.AX.join [] [4,5] (fun nl nh=>∃(xs5:List Int),∃(A3:Option Addr),∃(c4:Nat),nl=[(5,.slice A3 ((xs5).length) c4)]∧nh=[(521,.own A.ti 3 A3 c4 xs5)]∧F.cm xs5=some r) ?_ ?_
 ·refine A.xl 1 ?_;refine A.q0 [6,7] [] [.b 0 0,.b 1 0] [(11,.agg #[.slice A0_ ((a0).length) c1_]),(12,.agg #[.slice A2_ ((a1.1).length) c3_,.slice A4_ ((a1.2.1).length) c5_,.slice A6_ ((a1.2.2).length) c7_])] ?_;obtain⟨r11,hv12,hF⟩:=A.bd_some hF;refine A.AL.call 522 [] (first:=[]) (cap:=[]) cf14 (o_bb a0 a1 A0_ c1_ A2_ c3_ A4_ c5_ A6_ c7_ r11 hv12) (.s 0 (.s 1 (.s 2 (.s 3 (.s 4 (.s 5 .nil)))))) ?_;rintro _ _ ⟨rfl,rfl,hr13⟩;refine⟨by kernel_rfl,?_⟩;refine A.q0 [] [] [.n] [(14,.bool (decide (r11=0)))] (A.dx 1 ?_);refine A.AX.cnd rfl hF ?_ ?_<;>intro hb hF
  ·refine A.xl 1 ?_;refine A.q0 [7] [] [.n,.b 0 1] [(16,.slice A4_ ((a1.2.1).length) c5_)] ?_;obtain⟨r14,hv15,hF⟩:=A.bd_some hF;refine A.AL.call 562 [] (first:=[]) (cap:=[]) cf38 (o_l a1.2.1 A4_ c5_ r14 hv15) (.l 2 .nil) ?_;rintro _ _ ⟨b16,rfl,rfl⟩;refine⟨by kernel_rfl,?_⟩;refine A.q0 [] [] [.n] [(6,.map (some b16))] (A.dl 2 ?_);refine A.q0 [6] [] [.n,.b 0 0,.n,.n] [(19,.slice A0_ ((a0).length) c1_),(20,A.i ((a0).length:Int)),(21,A.i 0)] (A.dx 2 ?_);refine A.lp_ [3,6,19,20] [0,1,2,3,4,5,7,562] (fun f nl nh=>∃(xs19:List Int),∃(y20:Int),∃(A17:Option Addr),∃(c18:Nat),nl=[(5,.slice A17 ((xs19).length) c18),(21,A.i y20)]∧nh=[(521,.own A.ti 3 A17 c18 xs19)]∧A.h6 y20∧F.aF a0 a1 r14 f xs19 y20=some r) ⟨[],0,none,0,rfl,rfl,(A.hasl .i64 (0) rfl),hF⟩ ?_;rintro f22 _ _ ⟨xs19,y20,A17,c18,rfl,rfl,hy21,hF⟩;rcases f22 with _|f22
   ·exact A.no0 hF
   rw[F.aF]at hF;refine A.xl 1 ?_;refine A.q0 [] [] [.n] [(22,.bool (decide (y20<((a0).length:Int))))] (A.dx 2 ?_);refine A.AX.cnd rfl hF ?_ ?_<;>intro hb hF
   ·refine A.xx 2 ?_;refine A.AX.join [3,6,19,20,21] [0,1,2,3,4,5,7,562] (fun nl nh=>∃(xs25:List Int),∃(A23:Option Addr),∃(c24:Nat),nl=[(5,.slice A23 ((xs25).length) c24)]∧nh=[(521,.own A.ti 3 A23 c24 xs25)]∧F.da (F.aF a0 a1 r14 f22) y20 xs25=some r) ?_ ?_
    ·refine A.xl 2 ?_;obtain⟨x27,hv28,hF⟩:=A.bd_some hF;refine A.AL.ixs 0 774 hv28 fun ho29=>?_;intro A30 c31 b32 o33;refine A.q0 [] [774] [.e 0 0] [(24,.agg #[A.i x27.1,A.i x27.2.1,.slice A30 ((x27.2.2.1).length) c31,A.i x27.2.2.2.1.1,A.i x27.2.2.2.1.2.1,.string x27.2.2.2.1.2.2,.string x27.2.2.2.2.1,A.i x27.2.2.2.2.2.1,A.i x27.2.2.2.2.2.2])] ?_;refine A.AL.alloc 776 (cs:=[A.i 0,A.i 0,.slice none 0 0,A.i 0,A.i 0,.string (ByteArray.mk #[]),.string (ByteArray.mk #[]),A.i 0,A.i 0]) Tryz.zeroValue70 fun g34=>?_;refine A.sw 776 [] [A.i x27.1,A.i x27.2.1,.slice A30 ((x27.2.2.1).length) c31,A.i x27.2.2.2.1.1,A.i x27.2.2.2.1.2.1,.string x27.2.2.2.1.2.2,.string x27.2.2.2.2.1,A.i x27.2.2.2.2.2.1,A.i x27.2.2.2.2.2.2] ?_;refine A.dl 2 ?_;refine A.q0 [776] [] [.n,.n,.b 0 0] [(26,.map (some b16)),(28,A.i x27.1)] ?_;obtain⟨x35,hv36,hF⟩:=A.lt_some hF;refine A.AL.lk2 (t:=T69) 562 777 (z:=((0,0,[],(0,0,(ByteArray.mk #[])),(ByteArray.mk #[]),0,0):D69)) (zs:=[A.i 0,A.i 0,.slice none 0 0,A.i 0,A.i 0,.string (ByteArray.mk #[]),.string (ByteArray.mk #[]),A.i 0,A.i 0]) ky3 x27.1 Tryz.zeroValue70 ⟨⟨rfl,by decide⟩,⟨rfl,by decide⟩,(.inr ⟨rfl,rfl⟩),⟨⟨rfl,by decide⟩,⟨rfl,by decide⟩,⟨rfl,by decide⟩⟩,⟨rfl,by decide⟩,⟨rfl,by decide⟩,⟨rfl,by decide⟩⟩ hv36 fun ho37=>?_;intro A38 c39;refine A.q0 [] [] [.n,.n,.n] [(30,.agg #[A.i x35.1,A.i x35.2.1,.slice A38 ((x35.2.2.1).length) c39,A.i x35.2.2.2.1.1,A.i x35.2.2.2.1.2.1,.string x35.2.2.2.1.2.2,.string x35.2.2.2.2.1,A.i x35.2.2.2.2.2.1,A.i x35.2.2.2.2.2.2]),(31,.bool (Z.mhas r14 x27.1))] ?_;refine A.AL.alloc 778 (cs:=[A.i 0,A.i 0,.slice none 0 0,A.i 0,A.i 0,.string (ByteArray.mk #[]),.string (ByteArray.mk #[]),A.i 0,A.i 0]) Tryz.zeroValue70 fun g40=>?_;refine A.sw 778 [] [A.i x35.1,A.i x35.2.1,.slice A38 ((x35.2.2.1).length) c39,A.i x35.2.2.2.1.1,A.i x35.2.2.2.1.2.1,.string x35.2.2.2.1.2.2,.string x35.2.2.2.2.1,A.i x35.2.2.2.2.2.1,A.i x35.2.2.2.2.2.2] ?_;refine A.q0 [] [] [.n] [(10,.bool (Z.mhas r14 x27.1))] (A.dx 1 ?_);refine A.AX.join [3,5,6,8,19,20,21] [0,1,2,3,4,5,7,521,562,775,776] (fun nl nh=>∃(y41:Bool),nl=[(46,.bool y41)]∧nh=[]∧F.cn (F.aF a0 a1 r14 f22) xs19 y20 x27 y41=some r) ?_ ?_
     ·refine A.xl 0 ?_;refine A.q0 [776] [] [.n,.b 0 1] [(33,A.i x27.2.1)] ?_;obtain⟨r46,hv47,hF⟩:=A.bd_some hF;refine A.AL.call 779 [] (first:=[]) (cap:=[]) cf58 (o_av x27.2.1 ho29.2.1 r46 hv47) .nil ?_;rintro _ _ ⟨rfl,rfl⟩;refine⟨by kernel_rfl,?_⟩;refine A.q0 [] [] [.n,.sy .n,.sy .n,.pk,.n] [(39,.bool (bif r46 then !(Z.mhas r14 x27.1)else false))] ?_;refine A.AL.cnd (j:=39) rfl hF (fun hF=>?_) (fun hF=>?_)
      ·refine A.q0 [7,776] [] [.on .n,.on (.b 0 0),.on .n,.on (.b 1 0)] [(41,.slice A2_ ((a1.1).length) c3_),(43,A.i x27.1)] ?_;refine A.AL.on (dj:=39) rfl rfl ?_;obtain⟨r48,hv49,hF⟩:=A.bd_some hF;refine A.AL.call 819 [] (first:=[]) (cap:=[]) cf59 (o_s a1.1 x27.1 A2_ c3_ ho29.1 r48 hv49) (.l 1 .nil) ?_;rintro _ _ ⟨rfl,rfl⟩;refine⟨by kernel_rfl,?_⟩;refine A.q0 [] [] [.on .n,.n] [(46,.bool (!r48))] (A.AL.done ?_);exact A.j ⟨(!r48),rfl,rfl,hF⟩
      refine A.q0 [] [] [.off,.off,.off,.off,.off,.off,.n] [(46,.bool false)] (A.AL.done ?_);exact A.j ⟨false,rfl,rfl,hF⟩
     rintro _ _ ⟨y41,rfl,rfl,hF⟩;rw[F.cn]at hF;refine A.AX.cnb rfl hF ?_ ?_<;>intro hb hF
     ·refine A.xl 0 ?_;refine A.q0 [776] [] [.n,.n,.b 0 0] [(47,.slice A17 ((xs19).length) c18),(49,A.i x27.1)] ?_;refine A.AL.bsl 859 (ty:=A.ti) (cs:=[A.i x27.1]) [x27.1] ⟨⟨rfl,ho29.1⟩,rfl⟩ (fun g42=>?_) Tryz.zeroValue3 Tryz.sizeOf3
      obtain⟨hl45,hF⟩:=A.gd_some hF;refine A.AL.app (k:=521) [] (A.rowO (k:=859) rfl) inf3 hl45 fun A43 c44=>?_;refine A.q0 [] [] [.n] [(5,.slice A43 ((xs19++[x27.1]).length) c44)] (A.de 1 ?_);exact A.j ⟨(xs19++[x27.1]),A43,c44,rfl,rfl,hF⟩
     refine A.xe 2 ?_;exact A.j ⟨xs19,A17,c18,rfl,rfl,hF⟩
    rintro _ _ ⟨xs25,A23,c24,rfl,rfl,hF⟩;rw[F.da]at hF;refine A.xl 0 ?_;obtain⟨hc26,hF⟩:=A.gd_some hF;refine A.q [] [] [.n,.n] [Z.R64 (y20+1)] [(21,A.i (y20+1))] hc26 (A.AL.done ?_);exact A.j ⟨_,Nat.lt_succ_self _,⟨xs25,(y20+1),A23,c24,rfl,rfl,(Z.i64_has hc26),hF⟩⟩
   refine A.xe 1 ?_;exact A.j ⟨xs19,A17,c18,rfl,rfl,hF⟩
  refine A.xe 1 ?_;exact A.j ⟨[],none,0,rfl,rfl,hF⟩
 rintro _ _ ⟨xs5,A3,c4,rfl,rfl,hF⟩;rw[F.cm]at hF;refine A.xl 1 ?_;refine A.q0 [] [] [.n] [(53,.slice A3 ((xs5).length) c4)] ?_;refine A.frz 521 [] ?_;obtain⟨r6,hv7,hF⟩:=A.bd_some hF;refine A.AL.call 860 [] (first:=[]) (cap:=[]) cf52 (o_az xs5 A3 c4 r6 hv7) (.s 521 .nil) ?_;rintro _ _ ⟨g8,A9,c10,rfl,rfl⟩;refine⟨by kernel_rfl,?_⟩;refine A.q0 [] [] [.n] [(4,.func (.func 88) #[] #[.pointer (some ⟨g8,0,none⟩)])] (A.dx 1 ?_);obtain rfl:=A.si hF;exact A.rt1 [(0,860),(1,861)] ⟨g8,A9,c10,rfl,rfl⟩
def F.db (k39:(List Int)→Int→Option ((List Int)×Int))(y18:Int)(xs23:List Int):Option ((List Int)×Int):=A.gd (Z.R64 (y18+1)) (k39 xs23 (y18+1))
def F.dc (k41:Bool→Int→Option ((List Int)×Int))(y47:Int)(y50:Bool):Option ((List Int)×Int):=A.gd (Z.R64 (y47+1)) (k41 y50 (y47+1))
def F.aQ (k39:(List Int)→Int→Option ((List Int)×Int))(xs11:List Int)(xs17:List Int)(y18:Int)(x25:D69):Nat→Bool→Int→Option ((List Int)×Int)
 |0,_,_=>none
 |f+1,y46,y47=>if y47<((x25.2.2.1).length:Int)then(if y46=true then(F.dc (F.aQ k39 xs11 xs17 y18 x25 f) y47 true)else((A.ix x25.2.2.1 y47).bind fun x52=>((F.eP xs11 x52).bind fun r57=>(F.dc (F.aQ k39 xs11 xs17 y18 x25 f) y47 r57))))else(if y46=true then(A.gd ((List.length (α:=Int) xs17+List.length (α:=Int) [x25.1])*8≤140737488355328) (F.db k39 y18 (xs17++[x25.1])))else(F.db k39 y18 xs17))
def F.aG (k31:(List Int)→Int→Option ((List Int)×Int))(a1:D27)(r3:D23×Int)(xs11:List Int)(y12:Int):Nat→(List Int)→Int→Option ((List Int)×Int)
 |0,_,_=>none
 |f+1,xs17,y18=>if y18<((r3.1).length:Int)then((A.ix r3.1 y18).bind fun x25=>((F.cy a1.2.1 x25.1).bind fun r33=>(F.aQ (F.aG k31 a1 r3 xs11 y12 f) xs11 xs17 y18 x25 A.FU r33.2 0)))else(A.gd (Z.R64 (y12+1)) (k31 xs17 (y12+1)))
def F.aH (a1:D27)(r3:D23×Int):Nat→(List Int)→Int→Option ((List Int)×Int)
 |0,_,_=>none
 |f+1,xs11,y12=>if y12<((r3.1).length:Int)then(F.aG (F.aH a1 r3 f) a1 r3 xs11 y12 A.FU [] 0)else(some (xs11,0))
def F.ch (a0:D23)(a1:D27):Option ((List Int)×Int):=(F.bM a0 a1).bind fun r3=>(if r3.2≠0 then(some ([],r3.2))else(F.aH a1 r3 A.FU [] 0))
theorem o_bd (a0:D23)(a1:D27)(A0_:Option Addr)(c1_:Nat)(A2_:Option Addr)(c3_:Nat)(A4_:Option Addr)(c5_:Nat)(A6_:Option Addr)(c7_:Nat)(r:(List Int)×Int)(hF:F.ch a0 a1=some r):
    A.Ct Tryz.prog 21 [.agg #[.slice A0_ ((a0).length) c1_],.agg #[.slice A2_ ((a1.1).length) c3_,.slice A4_ ((a1.2.1).length) c5_,.slice A6_ ((a1.2.2).length) c7_]] [(0,.sh (.slice T69) [.slice A0_ (a0).length c1_] a0),(1,.sh A.TI [.slice A2_ (a1.1).length c3_] a1.1),(2,.sh (.slice T69) [.slice A4_ (a1.2.1).length c5_] a1.2.1),(3,.sh (.slice T82) [.slice A6_ (a1.2.2).length c7_] a1.2.2)] [] (fun v H'=>∃(A0':Option Addr) (c1':Nat),v=.tuple #[.slice A0' ((r.1).length) c1',A.i r.2]∧H'=[(0,.own A.ti 3 A0' c1' r.1)]∧A.h6 r.2):=by
 refine A.Ct.enter Tryz.func21 rfl Tryz.ntmps21 rfl fun w0 F0=>?_;rw[F.ch]at hF;refine A.xl 1 ?_;refine A.AL.box 4 (cs:=[.slice A0_ ((a0).length) c1_]) fun g1=>?_;refine A.AL.box 5 (cs:=[.slice A2_ ((a1.1).length) c3_,.slice A4_ ((a1.2.1).length) c5_,.slice A6_ ((a1.2.2).length) c7_]) fun g2=>?_;refine A.q0 [] [] [.n,.n] [] (A.dl 2 ?_);refine A.q0 [4,5] [] [.b 0 0,.b 1 0] [(16,.agg #[.slice A0_ ((a0).length) c1_]),(17,.agg #[.slice A2_ ((a1.1).length) c3_,.slice A4_ ((a1.2.1).length) c5_,.slice A6_ ((a1.2.2).length) c7_])] ?_;obtain⟨r3,hv4,hF⟩:=A.bd_some hF;refine A.AL.call 6 [] (first:=[]) (cap:=[]) cf12 (o_aN a0 a1 A0_ c1_ A2_ c3_ A4_ c5_ A6_ c7_ r3 hv4) (.s 0 (.s 1 (.s 2 (.s 3 .nil)))) ?_;rintro _ _ ⟨A5,c6,rfl,rfl,hr7⟩;refine⟨by kernel_rfl,?_⟩;refine A.q0 [] [] [.n,.n,.n] [(19,.agg #[.slice A5 ((r3.1).length) c6]),(20,A.i r3.2)] ?_;refine A.AL.alloc 46 (cs:=[.slice none 0 0]) Tryz.zeroValue24 fun g8=>?_;refine A.sw 46 [] [.slice A5 ((r3.1).length) c6] ?_;refine A.q0 [] [] [.n] [(7,A.i r3.2)] (A.dl 3 ?_);refine A.q0 [] [] [.n,.n] [(22,.bool (decide (r3.2≠0)))] (A.dx 1 ?_);refine A.AX.cnd rfl hF ?_ ?_<;>intro hb hF
 ·refine A.xl 1 ?_;refine A.q0 [] [] [.n,.n,.n] [(4,.slice none 0 0),(5,A.i r3.2)] (A.dx 1 ?_);obtain rfl:=A.si hF;refine A.nil 47 A.ti 3 ?_;exact A.rt2 [(0,47)] ⟨none,0,rfl,rfl,hr7⟩
 refine A.xl 3 ?_;refine A.q0 [] [] [.n] [(8,.slice none 0 0)] (A.dl 3 ?_);refine A.q0 [46] [] [.n,.b 0 0,.n,.n] [(26,A.i ((r3.1).length:Int)),(27,A.i 0)] (A.dx 2 ?_);refine A.nil 904 A.ti 3 ?_;refine A.lp_ [3,6,26] [1,2,3,5,6,46] (fun f nl nh=>∃(xs11:List Int),∃(y12:Int),∃(A9:Option Addr),∃(c10:Nat),nl=[(8,.slice A9 ((xs11).length) c10),(27,A.i y12)]∧nh=[(904,.own A.ti 3 A9 c10 xs11)]∧A.h6 y12∧F.aH a1 r3 f xs11 y12=some r) ⟨[],0,none,0,rfl,rfl,(A.hasl .i64 (0) rfl),hF⟩ ?_;rintro f14 _ _ ⟨xs11,y12,A9,c10,rfl,rfl,hy13,hF⟩;rcases f14 with _|f14
 ·exact A.no0 hF
 rw[F.aH]at hF;refine A.xl 1 ?_;refine A.q0 [] [] [.n] [(28,.bool (decide (y12<((r3.1).length:Int))))] (A.dx 2 ?_);refine A.AX.cnd rfl hF ?_ ?_<;>intro hb hF
 ·refine A.xl 5 ?_;refine A.q0 [] [] [.n] [(9,.slice none 0 0)] (A.dl 3 ?_);refine A.q0 [] [] [.n] [(10,A.i 0)] (A.dx 2 ?_);refine A.nil 2965 A.ti 3 ?_;refine A.lp_ [3,6,8,26,27] [1,2,3,5,6,46,904] (fun f nl nh=>∃(xs17:List Int),∃(y18:Int),∃(A15:Option Addr),∃(c16:Nat),nl=[(9,.slice A15 ((xs17).length) c16),(10,A.i y18)]∧nh=[(2965,.own A.ti 3 A15 c16 xs17)]∧A.h6 y18∧F.aG (F.aH a1 r3 f14) a1 r3 xs11 y12 f xs17 y18=some r) ⟨[],0,none,0,rfl,rfl,(A.hasl .i64 (0) rfl),hF⟩ ?_;rintro f20 _ _ ⟨xs17,y18,A15,c16,rfl,rfl,hy19,hF⟩;rcases f20 with _|f20
  ·exact A.no0 hF
  rw[F.aG]at hF;refine A.xl 2 ?_;refine A.q0 [46] [] [.n,.n,.b 0 0,.n,.n] [(33,.bool (decide (y18<((r3.1).length:Int))))] (A.dx 1 ?_);refine A.AX.cnd rfl hF ?_ ?_<;>intro hb hF
  ·refine A.xx 2 ?_;refine A.AX.join [3,6,8,10,26,27] [1,2,3,5,6,46,904] (fun nl nh=>∃(xs23:List Int),∃(A21:Option Addr),∃(c22:Nat),nl=[(9,.slice A21 ((xs23).length) c22)]∧nh=[(2965,.own A.ti 3 A21 c22 xs23)]∧F.db (F.aG (F.aH a1 r3 f14) a1 r3 xs11 y12 f20) y18 xs23=some r) ?_ ?_
   ·refine A.xl 2 ?_;refine A.q0 [46] [] [.n,.b 0 0,.n] [(37,.slice A5 ((r3.1).length) c6),(38,A.i y18)] ?_;obtain⟨x25,hv26,hF⟩:=A.bd_some hF;refine A.AL.ixs 6 3308 hv26 fun ho27=>?_;intro A28 c29 b30 o31;refine A.q0 [] [3308] [.e 0 0] [(40,.agg #[A.i x25.1,A.i x25.2.1,.slice A28 ((x25.2.2.1).length) c29,A.i x25.2.2.2.1.1,A.i x25.2.2.2.1.2.1,.string x25.2.2.2.1.2.2,.string x25.2.2.2.2.1,A.i x25.2.2.2.2.2.1,A.i x25.2.2.2.2.2.2])] ?_;refine A.AL.alloc 3310 (cs:=[A.i 0,A.i 0,.slice none 0 0,A.i 0,A.i 0,.string (ByteArray.mk #[]),.string (ByteArray.mk #[]),A.i 0,A.i 0]) Tryz.zeroValue70 fun g32=>?_;refine A.sw 3310 [] [A.i x25.1,A.i x25.2.1,.slice A28 ((x25.2.2.1).length) c29,A.i x25.2.2.2.1.1,A.i x25.2.2.2.1.2.1,.string x25.2.2.2.1.2.2,.string x25.2.2.2.2.1,A.i x25.2.2.2.2.2.1,A.i x25.2.2.2.2.2.2] ?_;refine A.dl 2 ?_;refine A.q0 [5,3310] [] [.n,.b 0 1,.n,.n,.b 1 0] [(44,.agg #[.slice A4_ ((a1.2.1).length) c5_]),(46,A.i x25.1)] ?_;obtain⟨r33,hv34,hF⟩:=A.bd_some hF;refine A.AL.call 3311 [] (first:=[]) (cap:=[]) cf47 (o_a a1.2.1 x25.1 A4_ c5_ ho27.1 r33 hv34) (.s 2 .nil) ?_;rintro _ _ ⟨A37,c38,rfl,rfl,hr35,hr36,hr39,hr40,hr41,hr42,hr43,hr44⟩;refine⟨by kernel_rfl,?_⟩;refine A.q0 [] [] [.n,.n,.n] [(48,.agg #[A.i r33.1.1,A.i r33.1.2.1,.slice A37 ((r33.1.2.2.1).length) c38,A.i r33.1.2.2.2.1.1,A.i r33.1.2.2.2.1.2.1,.string r33.1.2.2.2.1.2.2,.string r33.1.2.2.2.2.1,A.i r33.1.2.2.2.2.2.1,A.i r33.1.2.2.2.2.2.2]),(49,.bool r33.2)] ?_;refine A.AL.alloc 3351 (cs:=[A.i 0,A.i 0,.slice none 0 0,A.i 0,A.i 0,.string (ByteArray.mk #[]),.string (ByteArray.mk #[]),A.i 0,A.i 0]) Tryz.zeroValue70 fun g45=>?_;refine A.sw 3351 [] [A.i r33.1.1,A.i r33.1.2.1,.slice A37 ((r33.1.2.2.1).length) c38,A.i r33.1.2.2.2.1.1,A.i r33.1.2.2.2.1.2.1,.string r33.1.2.2.2.1.2.2,.string r33.1.2.2.2.2.1,A.i r33.1.2.2.2.2.2.1,A.i r33.1.2.2.2.2.2.2] ?_;refine A.q0 [] [] [.n] [(13,.bool r33.2)] (A.dl 3 ?_);refine A.q0 [] [] [.n] [(14,A.i 0)] (A.dx 2 ?_);refine A.lp_ [3,6,8,9,10,11,26,27] [1,2,3,5,6,46,904,2965,3309,3310] (fun f nl nh=>∃(y46:Bool),∃(y47:Int),nl=[(13,.bool y46),(14,A.i y47)]∧nh=[]∧A.h6 y47∧F.aQ (F.aG (F.aH a1 r3 f14) a1 r3 xs11 y12 f20) xs11 xs17 y18 x25 f y46 y47=some r) ⟨r33.2,0,rfl,rfl,(A.hasl .i64 (0) rfl),hF⟩ ?_;rintro f49 _ _ ⟨y46,y47,rfl,rfl,hy48,hF⟩;rcases f49 with _|f49
    ·exact A.no0 hF
    rw[F.aQ]at hF;refine A.xl 2 ?_;refine A.q0 [3310] [] [.n,.n,.b 0 2,.n,.n] [(54,.bool (decide (y47<((x25.2.2.1).length:Int))))] (A.dx 1 ?_);refine A.AX.cnd rfl hF ?_ ?_<;>intro hb hF
    ·refine A.xx 2 ?_;refine A.AX.join [3,6,8,9,10,11,14,26,27] [1,2,3,5,6,46,904,2965,3309,3310] (fun nl nh=>∃(y50:Bool),nl=[(13,.bool y50)]∧nh=[]∧F.dc (F.aQ (F.aG (F.aH a1 r3 f14) a1 r3 xs11 y12 f20) xs11 xs17 y18 x25 f49) y47 y50=some r) ?_ ?_
     ·refine A.xl 1 ?_;refine A.q0 [] [] [.n,.n] [(58,.bool y46)] ?_;refine A.AL.cnd (j:=58) rfl hF (fun hF=>?_) (fun hF=>?_)
      ·refine A.q0 [] [] [.off,.off,.off,.off,.off,.off,.off,.n,.n] [(13,.bool true)] (A.de 1 ?_);exact A.j ⟨true,rfl,rfl,hF⟩
      refine A.q0 [3310] [] [.on .n,.on .n,.on (.b 0 2),.on .n] [(59,.slice A9 ((xs11).length) c10),(61,.slice A28 ((x25.2.2.1).length) c29),(62,A.i y47)] ?_;refine A.AL.on (dj:=58) rfl rfl ?_;obtain⟨x52,hv53,hF⟩:=A.bd_some hF;refine A.AL.ixs 3309 3436 hv53 fun ho54=>?_;intro b55 o56;refine A.q0 [] [3436] [.on (.e 0 0)] [(64,A.i x52)] ?_;refine A.AL.on (dj:=58) rfl rfl ?_;obtain⟨r57,hv58,hF⟩:=A.bd_some hF;refine A.AL.call 3437 [] (first:=[]) (cap:=[]) cf60 (o_aj xs11 x52 A9 c10 ho54 r57 hv58) (.o 904 .nil) ?_;rintro _ _ ⟨rfl,rfl⟩;refine⟨by kernel_rfl,?_⟩;refine A.q0 [] [] [.n,.n] [(13,.bool r57)] (A.de 1 ?_);exact A.j ⟨r57,rfl,rfl,hF⟩
     rintro _ _ ⟨y50,rfl,rfl,hF⟩;rw[F.dc]at hF;refine A.xl 0 ?_;obtain⟨hc51,hF⟩:=A.gd_some hF;refine A.q [] [] [.n,.n,.n] [Z.R64 (y47+1)] [(14,A.i (y47+1))] hc51 (A.AL.done ?_);exact A.j ⟨_,Nat.lt_succ_self _,⟨y50,(y47+1),rfl,rfl,(Z.i64_has hc51),hF⟩⟩
    refine A.xl 3 ?_;refine A.q0 [] [] [.n] [(67,.bool y46)] (A.dx 1 ?_);refine A.AX.cnb rfl hF ?_ ?_<;>intro hb hF
    ·refine A.xl 0 ?_;refine A.q0 [3310] [] [.n,.n,.b 0 0] [(68,.slice A15 ((xs17).length) c16),(70,A.i x25.1)] ?_;refine A.AL.bsl 3477 (ty:=A.ti) (cs:=[A.i x25.1]) [x25.1] ⟨⟨rfl,ho27.1⟩,rfl⟩ (fun g59=>?_) Tryz.zeroValue3 Tryz.sizeOf3
     obtain⟨hl62,hF⟩:=A.gd_some hF;refine A.AL.app (k:=2965) [] (A.rowO (k:=3477) rfl) inf3 hl62 fun A60 c61=>?_;refine A.q0 [] [] [.n] [(9,.slice A60 ((xs17++[x25.1]).length) c61)] (A.de 1 ?_);exact A.j ⟨(xs17++[x25.1]),A60,c61,rfl,rfl,hF⟩
    refine A.xe 2 ?_;exact A.j ⟨xs17,A15,c16,rfl,rfl,hF⟩
   rintro _ _ ⟨xs23,A21,c22,rfl,rfl,hF⟩;rw[F.db]at hF;refine A.xl 0 ?_;obtain⟨hc24,hF⟩:=A.gd_some hF;refine A.q [] [] [.n,.n,.n] [Z.R64 (y18+1)] [(10,A.i (y18+1))] hc24 (A.AL.done ?_);exact A.j ⟨_,Nat.lt_succ_self _,⟨xs23,(y18+1),A21,c22,rfl,rfl,(Z.i64_has hc24),hF⟩⟩
  refine A.xl 2 ?_;refine A.q0 [] [] [.n,.n] [(8,.slice A15 ((xs17).length) c16)] (A.dl 2 ?_);obtain⟨hc63,hF⟩:=A.gd_some hF;refine A.q [] [] [.n,.n] [Z.R64 (y12+1)] [(27,A.i (y12+1))] hc63 (A.AL.done ?_);refine A.mv 904 3478 [] ?_;refine A.mvd 2965 904 [] ?_;exact A.j ⟨_,Nat.lt_succ_self _,⟨xs17,(y12+1),A15,c16,rfl,rfl,(Z.i64_has hc63),hF⟩⟩
 refine A.xl 3 ?_;refine A.q0 [] [] [.n,.n,.n] [(4,.slice A9 ((xs11).length) c10),(5,A.i 0)] (A.dx 1 ?_);obtain rfl:=A.si hF;exact A.rt2 [(0,904)] ⟨A9,c10,rfl,rfl,(A.hasl .i64 (0) rfl)⟩
def F.dd (a0:D23)(a1:D27):Option (D27×Int):=(F.ao a0 a1).bind fun r4=>(if r4.2≠0 then(some (([],[],[]),r4.2))else((F.d6 r4.1 a0).bind fun r10=>(some r10)))
theorem o_a6 (a0:D23)(a1:D27)(A0_:Option Addr)(c1_:Nat)(A2_:Option Addr)(c3_:Nat)(A4_:Option Addr)(c5_:Nat)(A6_:Option Addr)(c7_:Nat)(r:D27×Int)(hF:F.dd a0 a1=some r):
    A.Ct Tryz.prog 22 [.agg #[.slice A0_ ((a0).length) c1_],.agg #[.slice A2_ ((a1.1).length) c3_,.slice A4_ ((a1.2.1).length) c5_,.slice A6_ ((a1.2.2).length) c7_]] [(0,.sh (.slice T69) [.slice A0_ (a0).length c1_] a0),(1,.sh A.TI [.slice A2_ (a1.1).length c3_] a1.1),(2,.sh (.slice T69) [.slice A4_ (a1.2.1).length c5_] a1.2.1),(3,.sh (.slice T82) [.slice A6_ (a1.2.2).length c7_] a1.2.2),(4,.el none 0 0 A.tabF),(5,.el none 1 0 A.tabA)] [] (fun v H'=>∃(A0':Option Addr) (c1':Nat) (A2':Option Addr) (c3':Nat) (A4':Option Addr) (c5':Nat),v=.tuple #[.agg #[.slice A0' ((r.1.1).length) c1',.slice A2' ((r.1.2.1).length) c3',.slice A4' ((r.1.2.2).length) c5'],A.i r.2]∧H'=[(0,.sh A.TI [.slice A0' (r.1.1).length c1'] r.1.1),(1,.sh (.slice T69) [.slice A2' (r.1.2.1).length c3'] r.1.2.1),(2,.sh (.slice T82) [.slice A4' (r.1.2.2).length c5'] r.1.2.2)]∧A.h6 r.2):=by
 refine A.Ct.enter Tryz.func22 rfl Tryz.ntmps22 rfl fun w0 F0=>?_;rw[F.dd]at hF;refine A.xl 1 ?_;refine A.AL.box 6 (cs:=[.slice A0_ ((a0).length) c1_]) fun g1=>?_;refine A.AL.box 7 (cs:=[.slice A2_ ((a1.1).length) c3_,.slice A4_ ((a1.2.1).length) c5_,.slice A6_ ((a1.2.2).length) c7_]) fun g2=>?_;refine A.AL.alloc 8 (cs:=[.slice none 0 0,.slice none 0 0,.slice none 0 0]) Tryz.zeroValue28 fun g3=>?_;refine A.q0 [] [] [.n] [] (A.dl 2 ?_);refine A.q0 [6,7] [] [.b 0 0,.b 1 0] [(9,.agg #[.slice A0_ ((a0).length) c1_]),(10,.agg #[.slice A2_ ((a1.1).length) c3_,.slice A4_ ((a1.2.1).length) c5_,.slice A6_ ((a1.2.2).length) c7_])] ?_;obtain⟨r4,hv5,hF⟩:=A.bd_some hF;refine A.AL.call 9 [] (first:=[]) (cap:=[]) cf11 (o_w a0 a1 A0_ c1_ A2_ c3_ A4_ c5_ A6_ c7_ r4 hv5) (.s 0 (.s 1 (.s 2 (.s 3 (.s 4 (.s 5 .nil)))))) ?_;rintro _ _ ⟨A6,c7,rfl,rfl,hr8⟩;refine⟨by kernel_rfl,?_⟩;refine A.q0 [] [] [.n,.n,.n] [(12,.agg #[.slice A6 ((r4.1).length) c7]),(13,A.i r4.2)] ?_;refine A.AL.alloc 49 (cs:=[.slice none 0 0]) Tryz.zeroValue24 fun g9=>?_;refine A.sw 49 [] [.slice A6 ((r4.1).length) c7] ?_;refine A.q0 [] [] [.n] [(7,A.i r4.2)] (A.dl 3 ?_);refine A.q0 [] [] [.n,.n] [(15,.bool (decide (r4.2≠0)))] (A.dx 1 ?_);refine A.AX.cnd rfl hF ?_ ?_<;>intro hb hF
 ·refine A.xl 1 ?_;refine A.q0 [] [] [.n,.n] [(16,.agg #[.slice none 0 0,.slice none 0 0,.slice none 0 0]),(17,A.i r4.2)] ?_;refine A.sw 8 [] [.slice none 0 0,.slice none 0 0,.slice none 0 0] ?_;refine A.q0 [] [] [.n] [(5,A.i r4.2)] (A.dx 1 ?_);obtain rfl:=A.si hF;refine A.snil 50 A.ti ?_;refine A.snil 51 T69 ?_;refine A.snil 52 T82 ?_;exact A.AX.ret [(0,50),(1,51),(2,52)] (.tuple #[.agg #[.slice none 0 0,.slice none 0 0,.slice none 0 0],A.i r4.2]) (fun a w hf hh=>Z.resv2 rfl (Z.rv_n hf rfl Tryz.isAgg28 Tryz.sizeOf28 (A.Hp.blk hh 8) rfl) (Z.rv_t hf rfl)) (⟨none,0,none,0,none,0,rfl,rfl,hr8⟩)
 refine A.xl 3 ?_;refine A.q0 [49,6] [] [.b 0 0,.b 1 0] [(18,.agg #[.slice A6 ((r4.1).length) c7]),(19,.agg #[.slice A0_ ((a0).length) c1_])] ?_;obtain⟨r10,hv11,hF⟩:=A.bd_some hF;refine A.AL.call 53 [] (first:=[]) (cap:=[]) cf15 (o_bp r4.1 a0 A6 c7 A0_ c1_ r10 hv11) (.s 9 (.s 0 (.s 4 (.s 5 .nil)))) ?_;rintro _ _ ⟨A12,c13,A14,c15,A16,c17,rfl,rfl,hr18⟩;refine⟨by kernel_rfl,?_⟩;refine A.q0 [] [] [.n,.n] [(21,.agg #[.slice A12 ((r10.1.1).length) c13,.slice A14 ((r10.1.2.1).length) c15,.slice A16 ((r10.1.2.2).length) c17]),(22,A.i r10.2)] ?_;refine A.sw 8 [] [.slice A12 ((r10.1.1).length) c13,.slice A14 ((r10.1.2.1).length) c15,.slice A16 ((r10.1.2.2).length) c17] ?_;refine A.q0 [] [] [.n] [(5,A.i r10.2)] (A.dx 1 ?_);obtain rfl:=A.si hF;exact A.AX.ret [(0,53),(1,54),(2,55)] (.tuple #[.agg #[.slice A12 ((r10.1.1).length) c13,.slice A14 ((r10.1.2.1).length) c15,.slice A16 ((r10.1.2.2).length) c17],A.i r10.2]) (fun a w hf hh=>Z.resv2 rfl (Z.rv_n hf rfl Tryz.isAgg28 Tryz.sizeOf28 (A.Hp.blk hh 8) rfl) (Z.rv_t hf rfl)) (⟨A12,c13,A14,c15,A16,c17,rfl,rfl,hr18⟩)
def F.d7 (a0:D23)(a1:D27):Option (D27×Int):=(F.bM a0 a1).bind fun r4=>(if r4.2≠0 then(some (([],[],[]),r4.2))else((F.eR r4.1 a0).bind fun r10=>(some r10)))
theorem o_bq (a0:D23)(a1:D27)(A0_:Option Addr)(c1_:Nat)(A2_:Option Addr)(c3_:Nat)(A4_:Option Addr)(c5_:Nat)(A6_:Option Addr)(c7_:Nat)(r:D27×Int)(hF:F.d7 a0 a1=some r):
    A.Ct Tryz.prog 23 [.agg #[.slice A0_ ((a0).length) c1_],.agg #[.slice A2_ ((a1.1).length) c3_,.slice A4_ ((a1.2.1).length) c5_,.slice A6_ ((a1.2.2).length) c7_]] [(0,.sh (.slice T69) [.slice A0_ (a0).length c1_] a0),(1,.sh A.TI [.slice A2_ (a1.1).length c3_] a1.1),(2,.sh (.slice T69) [.slice A4_ (a1.2.1).length c5_] a1.2.1),(3,.sh (.slice T82) [.slice A6_ (a1.2.2).length c7_] a1.2.2)] [] (fun v H'=>∃(A0':Option Addr) (c1':Nat) (A2':Option Addr) (c3':Nat) (A4':Option Addr) (c5':Nat),v=.tuple #[.agg #[.slice A0' ((r.1.1).length) c1',.slice A2' ((r.1.2.1).length) c3',.slice A4' ((r.1.2.2).length) c5'],A.i r.2]∧H'=[(0,.sh A.TI [.slice A0' (r.1.1).length c1'] r.1.1),(1,.sh (.slice T69) [.slice A2' (r.1.2.1).length c3'] r.1.2.1),(2,.sh (.slice T82) [.slice A4' (r.1.2.2).length c5'] r.1.2.2)]∧A.h6 r.2):=by
 refine A.Ct.enter Tryz.func23 rfl Tryz.ntmps23 rfl fun w0 F0=>?_;rw[F.d7]at hF;refine A.xl 1 ?_;refine A.AL.box 4 (cs:=[.slice A0_ ((a0).length) c1_]) fun g1=>?_;refine A.AL.box 5 (cs:=[.slice A2_ ((a1.1).length) c3_,.slice A4_ ((a1.2.1).length) c5_,.slice A6_ ((a1.2.2).length) c7_]) fun g2=>?_;refine A.AL.alloc 6 (cs:=[.slice none 0 0,.slice none 0 0,.slice none 0 0]) Tryz.zeroValue28 fun g3=>?_;refine A.q0 [] [] [.n] [] (A.dl 2 ?_);refine A.q0 [4,5] [] [.b 0 0,.b 1 0] [(9,.agg #[.slice A0_ ((a0).length) c1_]),(10,.agg #[.slice A2_ ((a1.1).length) c3_,.slice A4_ ((a1.2.1).length) c5_,.slice A6_ ((a1.2.2).length) c7_])] ?_;obtain⟨r4,hv5,hF⟩:=A.bd_some hF;refine A.AL.call 7 [] (first:=[]) (cap:=[]) cf12 (o_aN a0 a1 A0_ c1_ A2_ c3_ A4_ c5_ A6_ c7_ r4 hv5) (.s 0 (.s 1 (.s 2 (.s 3 .nil)))) ?_;rintro _ _ ⟨A6,c7,rfl,rfl,hr8⟩;refine⟨by kernel_rfl,?_⟩;refine A.q0 [] [] [.n,.n,.n] [(12,.agg #[.slice A6 ((r4.1).length) c7]),(13,A.i r4.2)] ?_;refine A.AL.alloc 47 (cs:=[.slice none 0 0]) Tryz.zeroValue24 fun g9=>?_;refine A.sw 47 [] [.slice A6 ((r4.1).length) c7] ?_;refine A.q0 [] [] [.n] [(7,A.i r4.2)] (A.dl 3 ?_);refine A.q0 [] [] [.n,.n] [(15,.bool (decide (r4.2≠0)))] (A.dx 1 ?_);refine A.AX.cnd rfl hF ?_ ?_<;>intro hb hF
 ·refine A.xl 1 ?_;refine A.q0 [] [] [.n,.n] [(16,.agg #[.slice none 0 0,.slice none 0 0,.slice none 0 0]),(17,A.i r4.2)] ?_;refine A.sw 6 [] [.slice none 0 0,.slice none 0 0,.slice none 0 0] ?_;refine A.q0 [] [] [.n] [(5,A.i r4.2)] (A.dx 1 ?_);obtain rfl:=A.si hF;refine A.snil 48 A.ti ?_;refine A.snil 49 T69 ?_;refine A.snil 50 T82 ?_;exact A.AX.ret [(0,48),(1,49),(2,50)] (.tuple #[.agg #[.slice none 0 0,.slice none 0 0,.slice none 0 0],A.i r4.2]) (fun a w hf hh=>Z.resv2 rfl (Z.rv_n hf rfl Tryz.isAgg28 Tryz.sizeOf28 (A.Hp.blk hh 6) rfl) (Z.rv_t hf rfl)) (⟨none,0,none,0,none,0,rfl,rfl,hr8⟩)
 refine A.xl 3 ?_;refine A.q0 [47,4] [] [.b 0 0,.b 1 0] [(18,.agg #[.slice A6 ((r4.1).length) c7]),(19,.agg #[.slice A0_ ((a0).length) c1_])] ?_;obtain⟨r10,hv11,hF⟩:=A.bd_some hF;refine A.AL.call 51 [] (first:=[]) (cap:=[]) cf16 (o_b0 r4.1 a0 A6 c7 A0_ c1_ r10 hv11) (.s 7 (.s 0 .nil)) ?_;rintro _ _ ⟨A12,c13,A14,c15,A16,c17,rfl,rfl,hr18⟩;refine⟨by kernel_rfl,?_⟩;refine A.q0 [] [] [.n,.n] [(21,.agg #[.slice A12 ((r10.1.1).length) c13,.slice A14 ((r10.1.2.1).length) c15,.slice A16 ((r10.1.2.2).length) c17]),(22,A.i r10.2)] ?_;refine A.sw 6 [] [.slice A12 ((r10.1.1).length) c13,.slice A14 ((r10.1.2.1).length) c15,.slice A16 ((r10.1.2.2).length) c17] ?_;refine A.q0 [] [] [.n] [(5,A.i r10.2)] (A.dx 1 ?_);obtain rfl:=A.si hF;exact A.AX.ret [(0,51),(1,52),(2,53)] (.tuple #[.agg #[.slice A12 ((r10.1.1).length) c13,.slice A14 ((r10.1.2.1).length) c15,.slice A16 ((r10.1.2.2).length) c17],A.i r10.2]) (fun a w hf hh=>Z.resv2 rfl (Z.rv_n hf rfl Tryz.isAgg28 Tryz.sizeOf28 (A.Hp.blk hh 6) rfl) (Z.rv_t hf rfl)) (⟨A12,c13,A14,c15,A16,c17,rfl,rfl,hr18⟩)
def F.dY (k1:(List Int)→Int→Option (List Int))(y9:Int)(xs14:List Int):Option (List Int):=A.gd (Z.R64 (y9+1)) (k1 xs14 (y9+1))
def F.de (k1:(List Int)→Int→Option (List Int))(a0:D23)(xs8:List Int)(y9:Int)(y17:Bool):Option (List Int):=if y17=true then((A.ix a0 y9).bind fun x18=>(A.gd ((List.length (α:=Int) xs8+List.length (α:=Int) [x18.1])*8≤140737488355328) (F.dY k1 y9 (xs8++[x18.1]))))else(F.dY k1 y9 xs8)
def F.eK (k1:(List Int)→Int→Option (List Int))(a0:D23)(a1:D27)(xs8:List Int)(y9:Int)(y16:Bool):Option (List Int):=(A.ix a0 y9).bind fun x29=>((F.eA x29.2.1).bind fun r37=>(if(bif r37 then !y16 else false)=true then((A.ix a0 y9).bind fun x39=>((F.eP a1.1 x39.1).bind fun r47=>(F.de k1 a0 xs8 y9 (!r47))))else(F.de k1 a0 xs8 y9 false)))
def F.aY (a0:D23)(a1:D27):Nat→(List Int)→Int→Option (List Int)
 |0,_,_=>none
 |f+1,xs8,y9=>if y9<((a0).length:Int)then((A.ix a0 y9).bind fun x49=>((F.cy a1.2.1 x49.1).bind fun r597=>(F.eK (F.aY a0 a1 f) a0 a1 xs8 y9 r597.2)))else(some xs8)
def F.eB (a0:D23)(a1:D27):Option (List Int):=(F.cg a0 a1).bind fun r3=>(if r3≠0 then(some [])else(F.aY a0 a1 A.FU [] 0))
theorem o_bQ (a0:D23)(a1:D27)(A0_:Option Addr)(c1_:Nat)(A2_:Option Addr)(c3_:Nat)(A4_:Option Addr)(c5_:Nat)(A6_:Option Addr)(c7_:Nat)(r:(List Int))(hF:F.eB a0 a1=some r):
    A.Ct Tryz.prog 26 [.agg #[.slice A0_ ((a0).length) c1_],.agg #[.slice A2_ ((a1.1).length) c3_,.slice A4_ ((a1.2.1).length) c5_,.slice A6_ ((a1.2.2).length) c7_]] [(0,.sh (.slice T69) [.slice A0_ (a0).length c1_] a0),(1,.sh A.TI [.slice A2_ (a1.1).length c3_] a1.1),(2,.sh (.slice T69) [.slice A4_ (a1.2.1).length c5_] a1.2.1),(3,.sh (.slice T82) [.slice A6_ (a1.2.2).length c7_] a1.2.2)] [] (fun v H'=>∃(A0':Option Addr) (c1':Nat),v=.slice A0' ((r).length) c1'∧H'=[(0,.own A.ti 3 A0' c1' r)]):=by
 refine A.Ct.enter Tryz.func26 rfl Tryz.ntmps26 rfl fun w0 F0=>?_;rw[F.eB]at hF;refine A.xl 1 ?_;refine A.AL.box 4 (cs:=[.slice A0_ ((a0).length) c1_]) fun g1=>?_;refine A.AL.box 5 (cs:=[.slice A2_ ((a1.1).length) c3_,.slice A4_ ((a1.2.1).length) c5_,.slice A6_ ((a1.2.2).length) c7_]) fun g2=>?_;refine A.q0 [] [] [.n] [] (A.dl 3 ?_);refine A.q0 [4,5] [] [.b 0 0,.b 1 0] [(9,.agg #[.slice A0_ ((a0).length) c1_]),(10,.agg #[.slice A2_ ((a1.1).length) c3_,.slice A4_ ((a1.2.1).length) c5_,.slice A6_ ((a1.2.2).length) c7_])] ?_;obtain⟨r3,hv4,hF⟩:=A.bd_some hF;refine A.AL.call 6 [] (first:=[]) (cap:=[]) cf41 (o_aM a0 a1 A0_ c1_ A2_ c3_ A4_ c5_ A6_ c7_ r3 hv4) (.s 0 (.s 1 (.s 2 (.s 3 .nil)))) ?_;rintro _ _ ⟨rfl,rfl,hr5⟩;refine⟨by kernel_rfl,?_⟩;refine A.q0 [] [] [.n] [(12,.bool (decide (r3≠0)))] (A.dx 1 ?_);refine A.AX.cnd rfl hF ?_ ?_<;>intro hb hF
 ·refine A.xl 1 ?_;refine A.q0 [] [] [.n] [(4,.slice none 0 0)] (A.dx 1 ?_);obtain rfl:=A.si hF;refine A.nil 46 A.ti 3 ?_;exact A.rt1 [(0,46)] ⟨none,0,rfl,rfl⟩
 refine A.xl 3 ?_;refine A.q0 [] [] [.n] [(5,.slice none 0 0)] (A.dl 3 ?_);refine A.q0 [] [] [.n] [(6,A.i 0)] (A.dx 2 ?_);refine A.nil 1188 A.ti 3 ?_;refine A.lp_ [2,3] [0,1,2,3,4,5] (fun f nl nh=>∃(xs8:List Int),∃(y9:Int),∃(A6:Option Addr),∃(c7:Nat),nl=[(5,.slice A6 ((xs8).length) c7),(6,A.i y9)]∧nh=[(1188,.own A.ti 3 A6 c7 xs8)]∧A.h6 y9∧F.aY a0 a1 f xs8 y9=some r) ⟨[],0,none,0,rfl,rfl,(A.hasl .i64 (0) rfl),hF⟩ ?_;rintro f11 _ _ ⟨xs8,y9,A6,c7,rfl,rfl,hy10,hF⟩;rcases f11 with _|f11
 ·exact A.no0 hF
 rw[F.aY]at hF;refine A.xl 2 ?_;refine A.q0 [4] [] [.n,.n,.b 0 0,.n,.n] [(17,.bool (decide (y9<((a0).length:Int))))] (A.dx 1 ?_);refine A.AX.cnd rfl hF ?_ ?_<;>intro hb hF
 ·refine A.xx 2 ?_;refine A.AX.join [2,3,6] [0,1,2,3,4,5] (fun nl nh=>∃(xs14:List Int),∃(A12:Option Addr),∃(c13:Nat),nl=[(5,.slice A12 ((xs14).length) c13)]∧nh=[(1188,.own A.ti 3 A12 c13 xs14)]∧F.dY (F.aY a0 a1 f11) y9 xs14=some r) ?_ ?_
  ·refine A.xx 1 ?_;refine A.AX.join [2,3,5,6] [0,1,2,3,4,5,1188] (fun nl nh=>∃(y16:Bool),nl=[(8,.bool y16)]∧nh=[]∧F.eK (F.aY a0 a1 f11) a0 a1 xs8 y9 y16=some r) ?_ ?_
   ·refine A.AX.dr mixed 16 16 (A.mb 16 0) ?_;refine A.hq A.pb [] [0,1,2,3,4,5,1188] [5,4] [] (A.mb 16 63) 10 [(0,.n),(3,.n),(5,.n),(1,.b 0 1),(4,.b 1 0),(2,.n)] [(26,A.i y9),(25,.slice A0_ ((a0).length) c1_),(23,.agg #[.slice A4_ ((a1.2.1).length) c5_])] ?_;obtain⟨x49,hv50,hF⟩:=A.bd_some hF;refine A.AH.pks 0 2327 hv50 fun ho51=>?_;intro A53 c54 b55 o56 hA52;refine A.AH.v A.pb [0,1,2,3,4,5,1188] [0,1,2,3,4,5,1188,2327,2328] 6 (A.mb 16 127) rfl (fun a w hf hh=>A.r_ixa (t:=T69) hv50 hA52 hf) ?_;refine A.hq A.pb [0,1,2,3,4,5,1188,2327,2328] [0,1,2,3,4,5,1188,2327,2328] [] [2327] (A.mb 16 511) 7 [(7,.n),(8,.e 0 0)] [(29,A.i x49.1)] ?_;refine A.AH.two 9 13 ?_ ?_
    ·obtain⟨r597,hv598,hF⟩:=A.bd_some hF;refine A.AL.call 2599 [] (first:=[]) (cap:=[]) cf47 (o_a a1.2.1 x49.1 A4_ c5_ ho51.1 r597 hv598) (.s 2 .nil) ?_;rintro _ _ ⟨A601,c602,rfl,rfl,hr599,hr600,hr603,hr604,hr605,hr606,hr607,hr608⟩;refine⟨by kernel_rfl,?_⟩;refine A.AH.nx (A.mb 16 1023) [0,1,2,3,4,5,1188,2327,2328] ?_;refine A.hq A.pb [0,1,2,3,4,5,1188,2327,2328] [0,1,2,3,4,5,1188,2327,2328,2599] [] [] (A.mb 16 8191) 3 [(10,.n),(11,.n),(12,.n)] [(31,.agg #[A.i r597.1.1,A.i r597.1.2.1,.slice A601 ((r597.1.2.2.1).length) c602,A.i r597.1.2.2.2.1.1,A.i r597.1.2.2.2.1.2.1,.string r597.1.2.2.2.1.2.2,.string r597.1.2.2.2.2.1,A.i r597.1.2.2.2.2.2.1,A.i r597.1.2.2.2.2.2.2]),(32,.bool r597.2)] ?_;refine A.AH.one 13 ?_;refine A.AL.alloc 2719 (cs:=[A.i 0,A.i 0,.slice none 0 0,A.i 0,A.i 0,.string (ByteArray.mk #[]),.string (ByteArray.mk #[]),A.i 0,A.i 0]) Tryz.zeroValue70 fun g837=>?_;refine A.AH.nx (A.mb 16 16383) [0,1,2,3,4,5,1188,2327,2328,2599] ?_;refine A.AH.one 14 ?_;refine A.sw 2719 [] [A.i r597.1.1,A.i r597.1.2.1,.slice A601 ((r597.1.2.2.1).length) c602,A.i r597.1.2.2.2.1.1,A.i r597.1.2.2.2.1.2.1,.string r597.1.2.2.2.1.2.2,.string r597.1.2.2.2.2.1,A.i r597.1.2.2.2.2.2.1,A.i r597.1.2.2.2.2.2.2] ?_;refine A.AH.nx (A.mb 16 32767) [0,1,2,3,4,5,1188,2327,2328,2599] ?_;refine A.hq A.pb [0,1,2,3,4,5,1188,2327,2328,2599] [0,1,2,3,4,5,1188,2327,2328,2599,2719] [] [] (A.mb 16 65535) 0 [(15,.n)] [(8,.bool r597.2)] (A.AH.done ?_);exact A.j ⟨r597.2,rfl,rfl,hF⟩
    refine A.AL.alloc 2719 (cs:=[A.i 0,A.i 0,.slice none 0 0,A.i 0,A.i 0,.string (ByteArray.mk #[]),.string (ByteArray.mk #[]),A.i 0,A.i 0]) Tryz.zeroValue70 fun g837=>?_;refine A.AH.nx (A.mb 16 8703) [0,1,2,3,4,5,1188,2327,2328] ?_;refine A.AH.one 9 ?_;obtain⟨r597,hv598,hF⟩:=A.bd_some hF;refine A.AL.call 2599 [] (first:=[]) (cap:=[]) cf47 (o_a a1.2.1 x49.1 A4_ c5_ ho51.1 r597 hv598) (.s 2 .nil) ?_;rintro _ _ ⟨A601,c602,rfl,rfl,hr599,hr600,hr603,hr604,hr605,hr606,hr607,hr608⟩;refine⟨by kernel_rfl,?_⟩;refine A.AH.nx (A.mb 16 9215) [0,1,2,3,4,5,1188,2327,2328] ?_;refine A.hq A.pb [0,1,2,3,4,5,1188,2327,2328] [0,1,2,3,4,5,1188,2327,2328,2599] [] [] (A.mb 16 16383) 2 [(10,.n),(11,.n),(12,.n)] [(31,.agg #[A.i r597.1.1,A.i r597.1.2.1,.slice A601 ((r597.1.2.2.1).length) c602,A.i r597.1.2.2.2.1.1,A.i r597.1.2.2.2.1.2.1,.string r597.1.2.2.2.1.2.2,.string r597.1.2.2.2.2.1,A.i r597.1.2.2.2.2.2.1,A.i r597.1.2.2.2.2.2.2]),(32,.bool r597.2)] ?_;refine A.AH.one 14 ?_;refine A.sw 2719 [] [A.i r597.1.1,A.i r597.1.2.1,.slice A601 ((r597.1.2.2.1).length) c602,A.i r597.1.2.2.2.1.1,A.i r597.1.2.2.2.1.2.1,.string r597.1.2.2.2.1.2.2,.string r597.1.2.2.2.2.1,A.i r597.1.2.2.2.2.2.1,A.i r597.1.2.2.2.2.2.2] ?_;refine A.AH.nx (A.mb 16 32767) [0,1,2,3,4,5,1188,2327,2328,2599] ?_;refine A.hq A.pb [0,1,2,3,4,5,1188,2327,2328,2599] [0,1,2,3,4,5,1188,2327,2328,2599,2719] [] [] (A.mb 16 65535) 0 [(15,.n)] [(8,.bool r597.2)] (A.AH.done ?_);exact A.j ⟨r597.2,rfl,rfl,hF⟩
   rintro _ _ ⟨y16,rfl,rfl,hF⟩;rw[F.eK]at hF;refine A.AX.join [2,3,5,6] [0,1,2,3,4,5,1188] (fun nl nh=>∃(y17:Bool),nl=[(55,.bool y17)]∧nh=[]∧F.de (F.aY a0 a1 f11) a0 xs8 y9 y17=some r) ?_ ?_
   ·refine A.AX.dr mixed 23 23 (A.mb 23 0) ?_;refine A.hq A.pb [] [0,1,2,3,4,5,1188] [4] [] (A.mb 23 7) 20 [(0,.n),(2,.n),(1,.b 0 0)] [(35,A.i y9),(34,.slice A0_ ((a0).length) c1_)] ?_;obtain⟨x29,hv30,hF⟩:=A.bd_some hF;refine A.AH.pks 0 2809 hv30 fun ho31=>?_;intro A33 c34 b35 o36 hA32;refine A.AH.v A.pb [0,1,2,3,4,5,1188] [0,1,2,3,4,5,1188,2809,2810] 3 (A.mb 23 15) rfl (fun a w hf hh=>A.r_ixa (t:=T69) hv30 hA32 hf) ?_;refine A.hq A.pb [0,1,2,3,4,5,1188,2809,2810] [0,1,2,3,4,5,1188,2809,2810] [] [2809] (A.mb 23 63) 17 [(4,.n),(5,.e 0 1)] [(38,A.i x29.2.1)] ?_;refine A.AH.one 6 ?_;obtain⟨r37,hv38,hF⟩:=A.bd_some hF;refine A.AL.call 2811 [] (first:=[]) (cap:=[]) cf62 (o_aL x29.2.1 ho31.2.1 r37 hv38) .nil ?_;rintro _ _ ⟨rfl,rfl⟩;refine⟨by kernel_rfl,?_⟩;refine A.AH.nx (A.mb 23 127) [0,1,2,3,4,5,1188,2809,2810] ?_;refine A.hq A.pb [0,1,2,3,4,5,1188,2809,2810] [0,1,2,3,4,5,1188,2809,2810] [] [] (A.mb 23 4095) 11 [(7,.n),(8,.sy .n),(9,.sy .n),(10,.pk),(11,.n)] [(44,.bool (bif r37 then !y16 else false))] ?_;refine A.AH.cnd (j:=44) rfl hF (fun hF=>?_) (fun hF=>?_)
    ·refine A.hq A.pb [0,1,2,3,4,5,1188,2809,2810] [0,1,2,3,4,5,1188,2809,2810] [5,4] [] (A.mb 23 131071) 6 [(12,.on .n),(14,.on .n),(16,.on .n),(13,.on (.b 0 0)),(15,.on (.b 1 0))] [(49,A.i y9),(46,.slice A2_ ((a1.1).length) c3_),(48,.slice A0_ ((a0).length) c1_)] ?_;obtain⟨x39,hv40,hF⟩:=A.bd_some hF;refine A.AH.pks 0 2851 hv40 fun ho41=>?_;intro A43 c44 b45 o46 hA42;refine A.AH.vg A.pb [0,1,2,3,4,5,1188,2809,2810] [0,1,2,3,4,5,1188,2809,2810,2851,2852] 17 (A.mb 23 262143) (dj:=44) rfl (fun a w hf hh=>A.r_ixa (t:=T69) hv40 hA42 hf) ?_;refine A.hq A.pb [0,1,2,3,4,5,1188,2809,2810,2851,2852] [0,1,2,3,4,5,1188,2809,2810,2851,2852] [] [2851] (A.mb 23 1048575) 3 [(18,.on .n),(19,.on (.e 0 0))] [(52,A.i x39.1)] ?_;refine A.AH.one 20 ?_;refine A.AL.on (dj:=44) rfl rfl ?_;obtain⟨r47,hv48,hF⟩:=A.bd_some hF;refine A.AL.call 2853 [] (first:=[]) (cap:=[]) cf60 (o_aj a1.1 x39.1 A2_ c3_ ho41.1 r47 hv48) (.l 1 .nil) ?_;rintro _ _ ⟨rfl,rfl⟩;refine⟨by kernel_rfl,?_⟩;refine A.AH.nx (A.mb 23 2097151) [0,1,2,3,4,5,1188,2809,2810,2851,2852] ?_;refine A.hq A.pb [0,1,2,3,4,5,1188,2809,2810,2851,2852] [0,1,2,3,4,5,1188,2809,2810,2851,2852] [] [] (A.mb 23 8388607) 0 [(21,.on .n),(22,.n)] [(55,.bool (!r47))] (A.AH.done ?_);exact A.j ⟨(!r47),rfl,rfl,hF⟩
    refine A.hq A.pb [0,1,2,3,4,5,1188,2809,2810] [0,1,2,3,4,5,1188,2809,2810] [] [] (A.mb 23 8388607) 0 [(12,.off),(14,.off),(16,.off),(13,.off),(15,.off),(17,.off),(18,.off),(19,.off),(20,.off),(21,.off),(22,.n)] [(55,.bool false)] (A.AH.done ?_);exact A.j ⟨false,rfl,rfl,hF⟩
   rintro _ _ ⟨y17,rfl,rfl,hF⟩;rw[F.de]at hF;refine A.AX.cnb rfl hF ?_ ?_<;>intro hb hF
   ·refine A.xl 0 ?_;refine A.q0 [4] [] [.n,.n,.b 0 0,.n] [(56,.slice A6 ((xs8).length) c7),(58,.slice A0_ ((a0).length) c1_),(59,A.i y9)] ?_;obtain⟨x18,hv19,hF⟩:=A.bd_some hF;refine A.AL.ixs 0 2893 hv19 fun ho20=>?_;intro A21 c22 b23 o24;refine A.q0 [] [2893] [.n,.e 0 0] [(62,A.i x18.1)] ?_;refine A.AL.bsl 2895 (ty:=A.ti) (cs:=[A.i x18.1]) [x18.1] ⟨⟨rfl,ho20.1⟩,rfl⟩ (fun g25=>?_) Tryz.zeroValue3 Tryz.sizeOf3
    obtain⟨hl28,hF⟩:=A.gd_some hF;refine A.AL.app (k:=1188) [] (A.rowO (k:=2895) rfl) inf3 hl28 fun A26 c27=>?_;refine A.q0 [] [] [.n] [(5,.slice A26 ((xs8++[x18.1]).length) c27)] (A.de 1 ?_);exact A.j ⟨(xs8++[x18.1]),A26,c27,rfl,rfl,hF⟩
   refine A.xe 2 ?_;exact A.j ⟨xs8,A6,c7,rfl,rfl,hF⟩
  rintro _ _ ⟨xs14,A12,c13,rfl,rfl,hF⟩;rw[F.dY]at hF;refine A.xl 0 ?_;obtain⟨hc15,hF⟩:=A.gd_some hF;refine A.q [] [] [.n,.n,.n] [Z.R64 (y9+1)] [(6,A.i (y9+1))] hc15 (A.AL.done ?_);exact A.j ⟨_,Nat.lt_succ_self _,⟨xs14,(y9+1),A12,c13,rfl,rfl,(Z.i64_has hc15),hF⟩⟩
 refine A.xl 3 ?_;refine A.q0 [] [] [.n,.n] [(4,.slice A6 ((xs8).length) c7)] (A.dx 1 ?_);obtain rfl:=A.si hF;exact A.rt1 [(0,1188)] ⟨A6,c7,rfl,rfl⟩
def F.o (a0:(List D82))(a1:(List D82)):Nat→Int→Option Bool
 |0,_=>none
 |f+1,y1=>if y1<((a0).length:Int)then((A.ix a0 y1).bind fun x4=>((A.ix a1 y1).bind fun x10=>(if x4≠x10 then(some false)else(A.gd (Z.R64 (y1+1)) ((F.o a0 a1 f) (y1+1))))))else(some true)
def F.ax (a0:(List D82))(a1:(List D82)):Option Bool:=if((a0).length:Int)≠((a1).length:Int)then(some false)else(F.o a0 a1 A.FU 0)
theorem o_z (a0:(List D82))(a1:(List D82))(A0_:Option Addr)(c1_:Nat)(A2_:Option Addr)(c3_:Nat)(r:Bool)(hF:F.ax a0 a1=some r):
    A.Ct Tryz.prog 64 [.slice A0_ ((a0).length) c1_,.slice A2_ ((a1).length) c3_] [(0,.ln T82 A0_ c1_ a0),(1,.ln T82 A2_ c3_ a1)] [] (fun v H'=>v=.bool r∧H'=[]):=by
 refine A.Ct.enter Tryz.func64 rfl Tryz.ntmps64 rfl fun w0 F0=>?_;rw[F.ax]at hF;refine A.xl 1 ?_;refine A.q0 [] [] [.n] [] (A.dl 3 ?_);refine A.q0 [] [] [.n,.n,.n,.n,.n] [(10,.bool (decide (((a0).length:Int)≠((a1).length:Int))))] (A.dx 1 ?_);refine A.AX.cnd rfl hF ?_ ?_<;>intro hb hF
 ·refine A.xl 1 ?_;refine A.q0 [] [] [.n] [(4,.bool false)] (A.dx 1 ?_);obtain rfl:=A.si hF;exact A.rt1 [] ⟨rfl,rfl⟩
 refine A.xl 4 ?_;refine A.q0 [] [] [.n,.n,.n] [(12,A.i ((a0).length:Int)),(13,A.i 0)] (A.dx 2 ?_);refine A.lp_ [0,1,12] [0,1] (fun f nl nh=>∃(y1:Int),nl=[(13,A.i y1)]∧nh=[]∧A.h6 y1∧F.o a0 a1 f y1=some r) ⟨0,rfl,rfl,(A.hasl .i64 (0) rfl),hF⟩ ?_;rintro f3 _ _ ⟨y1,rfl,rfl,hy2,hF⟩;rcases f3 with _|f3
 ·exact A.no0 hF
 rw[F.o]at hF;refine A.xl 1 ?_;refine A.q0 [] [] [.n] [(14,.bool (decide (y1<((a0).length:Int))))] (A.dx 2 ?_);refine A.AX.cnd rfl hF ?_ ?_<;>intro hb hF
 ·refine A.xl 5 ?_;refine A.q0 [] [] [.n,.n] [(5,A.i y1)] (A.dx 2 ?_);refine A.AX.dr mixed 9 9 (A.mb 9 0) ?_;refine A.hq A.pb [] [0,1] [] [] (A.mb 9 51) 5 [(0,.n),(1,.n),(4,.n),(5,.n)] [(16,.slice A0_ ((a0).length) c1_),(17,A.i y1),(20,.slice A2_ ((a1).length) c3_),(21,A.i y1)] ?_;obtain⟨x4,hv5,hF⟩:=A.bd_some hF;refine A.AH.pkl 0 6 hv5 fun ho6=>?_;intro b8 o9 hA7;refine A.AH.v A.pb [0,1] [0,1,6] 2 (A.mb 9 55) rfl (fun a w hf hh=>A.r_ixa (t:=T82) hv5 hA7 hf) ?_;refine A.hq A.pb [0,1,6] [0,1,6] [] [6] (A.mb 9 63) 3 [(3,.e 0 0)] [(19,.agg #[A.i x4.1,A.i x4.2.1,A.i x4.2.2.1,A.i x4.2.2.2.1,A.i x4.2.2.2.2.1,A.i x4.2.2.2.2.2.1,.string x4.2.2.2.2.2.2])] ?_;obtain⟨x10,hv11,hF⟩:=A.bd_some hF;refine A.AH.pkl 1 7 hv11 fun ho12=>?_;intro b14 o15 hA13;refine A.AH.v A.pb [0,1,6] [0,1,6,7] 6 (A.mb 9 127) rfl (fun a w hf hh=>A.r_ixa (t:=T82) hv11 hA13 hf) ?_;refine A.hq A.pb [0,1,6,7] [0,1,6,7] [] [7] (A.mb 9 255) 1 [(7,.e 0 0)] [(23,.agg #[A.i x10.1,A.i x10.2.1,A.i x10.2.2.1,A.i x10.2.2.2.1,A.i x10.2.2.2.2.1,A.i x10.2.2.2.2.2.1,.string x10.2.2.2.2.2.2])] ?_;refine A.AH.v A.pb [0,1,6,7] [0,1,6,7] 8 (A.mb 9 511) rfl (fun a w hf hh=>eqagg_neq83 (x:=x4) (y:=x10) (hf.eval rfl) (hf.eval rfl)) ?_;refine A.AH.done ?_;refine A.ex 1 ?_;refine A.AX.cnd rfl hF ?_ ?_<;>intro hb hF
  ·refine A.xl 1 ?_;refine A.q0 [] [] [.n] [(4,.bool false)] (A.dx 1 ?_);obtain rfl:=A.si hF;exact A.rt1 [] ⟨rfl,rfl⟩
  refine A.xl 3 ?_;obtain⟨hc16,hF⟩:=A.gd_some hF;refine A.q [] [] [.n,.n] [Z.R64 (y1+1)] [(13,A.i (y1+1))] hc16 (A.AL.done ?_);exact A.j ⟨_,Nat.lt_succ_self _,⟨(y1+1),rfl,rfl,(Z.i64_has hc16),hF⟩⟩
 refine A.xl 3 ?_;refine A.q0 [] [] [.n] [(4,.bool true)] (A.dx 1 ?_);obtain rfl:=A.si hF;exact A.rt1 [] ⟨rfl,rfl⟩
def F.d8 (a0:(List Int))(a1:(List Int)):Option Bool:=(F.z a0 a1).bind fun r1=>(some r1)
theorem o_aR (a0:(List Int))(a1:(List Int))(A0_:Option Addr)(c1_:Nat)(A2_:Option Addr)(c3_:Nat)(r:Bool)(hF:F.d8 a0 a1=some r):
    A.Ct Tryz.prog 63 [.slice A0_ ((a0).length) c1_,.slice A2_ ((a1).length) c3_] [(0,.ln A.ti A0_ c1_ a0),(1,.ln A.ti A2_ c3_ a1)] [] (fun v H'=>v=.bool r∧H'=[]):=by
 refine A.Ct.enter Tryz.func63 rfl Tryz.ntmps63 rfl fun w0 F0=>?_;rw[F.d8]at hF;refine A.xl 1 ?_;refine A.q0 [] [] [.n] [] (A.dl 2 ?_);refine A.q0 [] [] [.n,.n] [(5,.slice A0_ ((a0).length) c1_),(6,.slice A2_ ((a1).length) c3_)] ?_;obtain⟨r1,hv2,hF⟩:=A.bd_some hF;refine A.AL.call 2 [] (first:=[]) (cap:=[]) cf24 (o_c a0 a1 A0_ c1_ A2_ c3_ r1 hv2) (.s 0 (.s 1 .nil)) ?_;rintro _ _ ⟨rfl,rfl⟩;refine⟨by kernel_rfl,?_⟩;refine A.q0 [] [] [.n] [(4,.bool r1)] (A.dx 1 ?_);obtain rfl:=A.si hF;exact A.rt1 [] ⟨rfl,rfl⟩
def F.cC (y3:Bool):Option Bool:=some y3
def F.d9 (a0:D27)(a1:D27):Option Bool:=(F.d8 a0.1 a1.1).bind fun r4=>(if r4=true then((F.cI a0.2.1 a1.2.1).bind fun r6=>(if r6=true then((F.ax a0.2.2 a1.2.2).bind fun r8=>(F.cC r8))else(F.cC false)))else(F.cC false))
theorem o_br (a0:D27)(a1:D27)(A0_:Option Addr)(c1_:Nat)(A2_:Option Addr)(c3_:Nat)(A4_:Option Addr)(c5_:Nat)(A6_:Option Addr)(c7_:Nat)(A8_:Option Addr)(c9_:Nat)(A10_:Option Addr)(c11_:Nat)(r:Bool)(hF:F.d9 a0 a1=some r):
    A.Ct Tryz.prog 27 [.agg #[.slice A0_ ((a0.1).length) c1_,.slice A2_ ((a0.2.1).length) c3_,.slice A4_ ((a0.2.2).length) c5_],.agg #[.slice A6_ ((a1.1).length) c7_,.slice A8_ ((a1.2.1).length) c9_,.slice A10_ ((a1.2.2).length) c11_]] [(0,.sh A.TI [.slice A0_ (a0.1).length c1_] a0.1),(1,.sh (.slice T69) [.slice A2_ (a0.2.1).length c3_] a0.2.1),(2,.sh (.slice T82) [.slice A4_ (a0.2.2).length c5_] a0.2.2),(3,.sh A.TI [.slice A6_ (a1.1).length c7_] a1.1),(4,.sh (.slice T69) [.slice A8_ (a1.2.1).length c9_] a1.2.1),(5,.sh (.slice T82) [.slice A10_ (a1.2.2).length c11_] a1.2.2)] [] (fun v H'=>v=.bool r∧H'=[]):=by
 refine A.Ct.enter Tryz.func27 rfl Tryz.ntmps27 rfl fun w0 F0=>?_;rw[F.d9]at hF;refine A.xl 1 ?_;refine A.AL.box 6 (cs:=[.slice A0_ ((a0.1).length) c1_,.slice A2_ ((a0.2.1).length) c3_,.slice A4_ ((a0.2.2).length) c5_]) fun g1=>?_;refine A.AL.box 7 (cs:=[.slice A6_ ((a1.1).length) c7_,.slice A8_ ((a1.2.1).length) c9_,.slice A10_ ((a1.2.2).length) c11_]) fun g2=>?_;refine A.q0 [] [] [.n] [] (A.dx 1 ?_);refine A.AX.join [] [] (fun nl nh=>∃(y3:Bool),nl=[(4,.bool y3)]∧nh=[]∧F.cC y3=some r) ?_ ?_
 ·refine A.xl 0 ?_;refine A.q0 [6,7] [] [.n,.b 0 0,.n,.b 1 0] [(6,.slice A0_ ((a0.1).length) c1_),(8,.slice A6_ ((a1.1).length) c7_)] ?_;obtain⟨r4,hv5,hF⟩:=A.bd_some hF;refine A.AL.call 8 [] (first:=[]) (cap:=[]) cf63 (o_aR a0.1 a1.1 A0_ c1_ A6_ c7_ r4 hv5) (.l 0 (.l 3 .nil)) ?_;rintro _ _ ⟨rfl,rfl⟩;refine⟨by kernel_rfl,?_⟩;refine A.q0 [] [] [.n] [(10,.bool r4)] ?_;refine A.AL.cnd (j:=10) rfl hF (fun hF=>?_) (fun hF=>?_)
  ·refine A.q0 [6,7] [] [.on .n,.on (.b 0 1),.on .n,.on .n,.on (.b 1 1),.on .n] [(13,.agg #[.slice A2_ ((a0.2.1).length) c3_]),(16,.agg #[.slice A8_ ((a1.2.1).length) c9_])] ?_;refine A.AL.on (dj:=10) rfl rfl ?_;obtain⟨r6,hv7,hF⟩:=A.bd_some hF;refine A.AL.call 48 [] (first:=[]) (cap:=[]) cf43 (o_ag a0.2.1 a1.2.1 A2_ c3_ A8_ c9_ r6 hv7) (.s 1 (.s 4 .nil)) ?_;rintro _ _ ⟨rfl,rfl⟩;refine⟨by kernel_rfl,?_⟩;refine A.q0 [] [] [.n,.n] [(19,.bool r6)] ?_;refine A.AL.cnd (j:=19) rfl hF (fun hF=>?_) (fun hF=>?_)
   ·refine A.q0 [6,7] [] [.on .n,.on (.b 0 2),.on .n,.on (.b 1 2)] [(21,.slice A4_ ((a0.2.2).length) c5_),(23,.slice A10_ ((a1.2.2).length) c11_)] ?_;refine A.AL.on (dj:=19) rfl rfl ?_;obtain⟨r8,hv9,hF⟩:=A.bd_some hF;refine A.AL.call 88 [] (first:=[]) (cap:=[]) cf64 (o_z a0.2.2 a1.2.2 A4_ c5_ A10_ c11_ r8 hv9) (.l 2 (.l 5 .nil)) ?_;rintro _ _ ⟨rfl,rfl⟩;refine⟨by kernel_rfl,?_⟩;refine A.q0 [] [] [.n,.n] [(4,.bool r8)] (A.AL.done ?_);exact A.j ⟨r8,rfl,rfl,hF⟩
   refine A.q0 [] [] [.off,.off,.off,.off,.off,.n,.n] [(4,.bool false)] (A.AL.done ?_);exact A.j ⟨false,rfl,rfl,hF⟩
  refine A.q0 [] [] [.off,.off,.off,.off,.off,.off,.off,.n,.n,.off,.off,.off,.off,.off,.n,.n] [(4,.bool false)] (A.AL.done ?_);exact A.j ⟨false,rfl,rfl,hF⟩
 rintro _ _ ⟨y3,rfl,rfl,hF⟩;rw[F.cC]at hF;obtain rfl:=A.si hF;exact A.rt1 [] ⟨rfl,rfl⟩
def F.f:List Int→(List Int)→Option (List Int)
 | [],xs16=>some xs16
 |y11::f,xs16=>A.gd ((List.length (α:=Int) xs16+List.length (α:=Int) [y11])*8≤140737488355328) ((F.f f) (xs16++[y11]))
def F.aq (a0:(List Int))(a1_0:(List Int)):Option (List Int):=(F.cD a1_0).bind fun xs2=>F.f xs2 a0
theorem o_q (a0:(List Int))(a1_0:(List Int))(A0_:Option Addr)(c1_:Nat)(g2_:Nat)(A3_:Option Addr)(c4_:Nat)(r:(List Int))(hF:F.aq a0 a1_0=some r):
    A.Ct Tryz.prog 61 [.slice A0_ ((a0).length) c1_,.func (.func 88) #[] #[.pointer (some ⟨g2_,0,none⟩)]] [(0,.own A.ti 3 A0_ c1_ a0),(1,.el none g2_ 0 [.slice A3_ ((a1_0).length) c4_]),(2,.sh A.TI [.slice A3_ (a1_0).length c4_] a1_0)] (Z.obl A0_++[]) (fun v H'=>∃(A0':Option Addr) (c1':Nat),v=.slice A0' ((r).length) c1'∧H'=[(0,.own A.ti 3 A0' c1' r)]):=by
 refine A.Ct.enterM Tryz.func61 rfl Tryz.ntmps61 rfl fun w0 F0=>?_;rw[F.aq]at hF;refine A.xl 1 ?_;refine A.AL.box 3 (cs:=[.slice A0_ ((a0).length) c1_]) fun g1=>?_;refine A.q0 [] [] [.n] [] (A.dl 3 ?_);refine A.q0 [] [] [.n] [(6,.func (.func 88) #[] #[.pointer (some ⟨g2_,0,none⟩)])] (A.dx 2 ?_);obtain⟨xs2,hv3,hF⟩:=A.bd_some hF;refine A.AX.rgf 4 5 6 [1,2] [0,3,1,2] [5,4,0,3,1,2] (fun k nh=>∃(xs16:List Int),∃(A14:Option Addr),∃(c15:Nat),nh=[(0,.own A.ti 3 A14 c15 xs16),(3,.blk g1 25 [.slice A14 ((xs16).length) c15])]∧F.f (List.drop k xs2) xs16=some r) [(0,.own A.ti 3 A0_ c1_ a0),(3,.blk g1 25 [.slice A0_ ((a0).length) c1_])] cf88 (o_ae a1_0 g2_ A3_ c4_ xs2 hv3) (fun _=>rfl) ⟨a0,A0_,c1_,rfl,hF⟩ ?_ ?_ ?_
 ·rintro k10 _ D4 L5 ⟨xs16,A14,c15,rfl,hF⟩;exact⟨⟨_,(.s 1 (.s 2 .nil))⟩,rfl,fun o=>rfl⟩
 ·rintro k10 _ y11 D4 L5 w9 o6 ⟨xs16,A14,c15,rfl,hF⟩ hx12 hxo13 hh8;rw[A.drop_at hx12,F.f]at hF
  refine A.xl 0 ?_;refine A.q0 [] [] [.n] [(5,A.i y11)] (A.AL.done ?_);refine A.AE.flip 4 5 fun o7=>?_;refine A.xl 1 ?_;refine A.q0 [3] [] [.b 0 0,.n] [(8,.slice A14 ((xs16).length) c15),(9,A.i y11)] ?_;refine A.AL.bsl 9 (ty:=A.ti) (cs:=[A.i y11]) [y11] ⟨⟨rfl,hxo13⟩,rfl⟩ (fun g17=>?_) Tryz.zeroValue3 Tryz.sizeOf3
  obtain⟨hl20,hF⟩:=A.gd_some hF;refine A.AL.app (k:=0) [] (A.rowO (k:=9) rfl) inf3 hl20 fun A18 c19=>?_;refine A.sw 3 [] [.slice A18 ((xs16++[y11]).length) c19] ?_;refine A.de 1 ?_;exact A.AE.bn hh8 [5,4,0,3,2] 100000 [(5,100005),(4,100004),(0,100000),(3,100003),(1,1),(2,100002)] [(0,.own A.ti 3 A18 c19 (xs16++[y11])),(3,.blk g1 25 [.slice A18 ((xs16++[y11]).length) c19])] ⟨(xs16++[y11]),A18,c19,rfl,hF⟩ rfl rfl
 rintro _ D4 L5 ⟨xs16,A14,c15,rfl,hF⟩;rw[List.drop_length,F.f]at hF
 refine A.el 3 ?_;refine A.q0 [3] [] [.b 0 0,.n] [(4,.slice A14 ((xs16).length) c15)] (A.dx 1 ?_);obtain rfl:=A.si hF;exact A.AX.rtM (Ds:=[D4]) [4] [(0,0)] (.slice A14 ((xs16).length) c15) (⟨rfl,trivial⟩) (fun a w hf hh=>Z.resv1 rfl (Z.rv_t hf rfl)) (⟨A14,c15,rfl,rfl⟩)
def F.ap (a0_0:(List Int)):Option (List Int):=(F.aq [] a0_0).bind fun r1=>(some r1)
theorem o_y (a0_0:(List Int))(g0_:Nat)(A1_:Option Addr)(c2_:Nat)(r:(List Int))(hF:F.ap a0_0=some r):
    A.Ct Tryz.prog 25 [.func (.func 88) #[] #[.pointer (some ⟨g0_,0,none⟩)]] [(0,.el none g0_ 0 [.slice A1_ ((a0_0).length) c2_]),(1,.sh A.TI [.slice A1_ (a0_0).length c2_] a0_0)] [] (fun v H'=>∃(A0':Option Addr) (c1':Nat),v=.slice A0' ((r).length) c1'∧H'=[(0,.own A.ti 3 A0' c1' r)]):=by
 refine A.Ct.enter Tryz.func25 rfl Tryz.ntmps25 rfl fun w0 F0=>?_;rw[F.ap]at hF;refine A.xl 1 ?_;refine A.q0 [] [] [.n] [] (A.dl 2 ?_);refine A.q0 [] [] [.n] [(3,.func (.func 88) #[] #[.pointer (some ⟨g0_,0,none⟩)])] ?_;refine A.nil 2 A.ti 3 ?_;obtain⟨r1,hv2,hF⟩:=A.bd_some hF;refine A.AL.call 3 [] (first:=[]) (cap:=[]) cf61 (o_q [] a0_0 none 0 g0_ A1_ c2_ r1 hv2) (.m 2 (.s 0 (.s 1 .nil))) ?_;rintro _ _ ⟨A3,c4,rfl,rfl⟩;refine⟨by kernel_rfl,?_⟩;refine A.q0 [] [] [.n] [(2,.slice A3 ((r1).length) c4)] (A.dx 1 ?_);obtain rfl:=A.si hF;exact A.rt1 [(0,3)] ⟨A3,c4,rfl,rfl⟩
def F.a5 (y42:Bool):Option Bool:=some y42
def F.aR (a0:D23)(a1:D27)(a2:D27)(y6:Bool):Option Bool:=if y6=true then(some true)else((F.dC a0 a1).bind fun r7=>((F.bf a0 a1).bind fun r12=>((F.ch a0 a1).bind fun r17=>((F.dd a0 a1).bind fun r22=>((F.d7 a0 a1).bind fun r32=>((F.ap r7).bind fun r43=>((F.eB a0 a1).bind fun r47=>((F.z r43 r47).bind fun r51=>(if r51=true then((F.z r12.1 r17.1).bind fun r53=>(if(bif r53 then decide (r12.2=r17.2)else false)=true then((F.dl r22.1 r32.1).bind fun r55=>(if(bif r55 then decide (r22.2=r32.2)else false)=true then((F.d9 a1 a2).bind fun r57=>((F.dl a1 a2).bind fun r59=>(F.a5 (r57==r59))))else(F.a5 false)))else(F.a5 false)))else(F.a5 false))))))))))
def F.df (a0:D23)(a1:D27)(a2:D27):Option Bool:=(F.fm).bind fun r4=>(if(!r4)=true then(some false)else((F.fj [a0]).bind fun r62=>(if(!r62)=true then(F.aR a0 a1 a2 true)else((F.dI a1).bind fun r64=>(if(!r64)=true then(F.aR a0 a1 a2 true)else((F.dI a2).bind fun r66=>(F.aR a0 a1 a2 (!r66))))))))
theorem o_aS (a0:D23)(a1:D27)(a2:D27)(A0_:Option Addr)(c1_:Nat)(A2_:Option Addr)(c3_:Nat)(A4_:Option Addr)(c5_:Nat)(A6_:Option Addr)(c7_:Nat)(A8_:Option Addr)(c9_:Nat)(A10_:Option Addr)(c11_:Nat)(A12_:Option Addr)(c13_:Nat)(r:Bool)(hF:F.df a0 a1 a2=some r):
    A.Ct Tryz.prog 6 [.agg #[.slice A0_ ((a0).length) c1_],.agg #[.slice A2_ ((a1.1).length) c3_,.slice A4_ ((a1.2.1).length) c5_,.slice A6_ ((a1.2.2).length) c7_],.agg #[.slice A8_ ((a2.1).length) c9_,.slice A10_ ((a2.2.1).length) c11_,.slice A12_ ((a2.2.2).length) c13_]] [(0,.sh (.slice T69) [.slice A0_ (a0).length c1_] a0),(1,.sh A.TI [.slice A2_ (a1.1).length c3_] a1.1),(2,.sh (.slice T69) [.slice A4_ (a1.2.1).length c5_] a1.2.1),(3,.sh (.slice T82) [.slice A6_ (a1.2.2).length c7_] a1.2.2),(4,.sh A.TI [.slice A8_ (a2.1).length c9_] a2.1),(5,.sh (.slice T69) [.slice A10_ (a2.2.1).length c11_] a2.2.1),(6,.sh (.slice T82) [.slice A12_ (a2.2.2).length c13_] a2.2.2),(7,.el none 0 0 A.tabF),(8,.el none 1 0 A.tabA)] [] (fun v H'=>v=.bool r∧H'=[]):=by
 refine A.Ct.enter Tryz.func6 rfl Tryz.ntmps6 rfl fun w0 F0=>?_;rw[F.df]at hF;refine A.xl 1 ?_;refine A.AL.box 9 (cs:=[.slice A0_ ((a0).length) c1_]) fun g1=>?_;refine A.AL.box 10 (cs:=[.slice A2_ ((a1.1).length) c3_,.slice A4_ ((a1.2.1).length) c5_,.slice A6_ ((a1.2.2).length) c7_]) fun g2=>?_;refine A.AL.box 11 (cs:=[.slice A8_ ((a2.1).length) c9_,.slice A10_ ((a2.2.1).length) c11_,.slice A12_ ((a2.2.2).length) c13_]) fun g3=>?_;refine A.q0 [] [] [.n] [] (A.dl 3 ?_);obtain⟨r4,hv5,hF⟩:=A.bd_some hF;refine A.AL.call 12 [] (first:=[]) (cap:=[]) cf8 (o_bS r4 hv5) (.s 7 (.s 8 .nil)) ?_;rintro _ _ ⟨rfl,rfl⟩;refine⟨by kernel_rfl,?_⟩;refine A.q0 [] [] [.n] [(17,.bool (!r4))] (A.dx 1 ?_);refine A.AX.cnb rfl hF ?_ ?_<;>intro hb hF
 ·refine A.xl 1 ?_;refine A.q0 [] [] [.n] [(6,.bool false)] (A.dx 1 ?_);obtain rfl:=A.si hF;exact A.rt1 [] ⟨rfl,rfl⟩
 refine A.xx 3 ?_;refine A.AX.join [3,4,5] [0,1,2,3,4,5,6,7,8,9,10,11] (fun nl nh=>∃(y6:Bool),nl=[(32,.bool y6)]∧nh=[]∧F.aR a0 a1 a2 y6=some r) ?_ ?_
 ·refine A.xl 0 ?_;refine A.q0 [9] [] [.n,.b 0 0] [(19,.slice A0_ ((a0).length) c1_)] ?_;refine A.AL.bsl 52 (ty:=(Z.Ty.slice T69)) (cs:=[.slice A0_ ((a0).length) c1_]) [a0] ⟨.inl ⟨0,rfl⟩,rfl⟩ (fun g61=>?_) Tryz.zeroValue22 Tryz.sizeOf22
  obtain⟨r62,hv63,hF⟩:=A.bd_some hF;refine A.AL.call 53 [] (first:=[]) (cap:=[]) cf9 (o_a4 [a0] (some ⟨g61,0,none⟩) 1 r62 hv63) (.o 52 .nil) ?_;rintro _ _ ⟨rfl,rfl⟩;refine⟨by kernel_rfl,?_⟩;refine A.q0 [] [] [.n,.n] [(23,.bool (!r62))] ?_;refine A.AL.cnd (j:=23) rfl hF (fun hF=>?_) (fun hF=>?_)
  ·refine A.q0 [] [] [.off,.off,.off,.n,.n,.off,.off,.off,.n] [(32,.bool true)] (A.AL.done ?_);exact A.j ⟨true,rfl,rfl,hF⟩
  refine A.q0 [10] [] [.on (.b 0 0)] [(24,.agg #[.slice A2_ ((a1.1).length) c3_,.slice A4_ ((a1.2.1).length) c5_,.slice A6_ ((a1.2.2).length) c7_])] ?_;refine A.AL.on (dj:=23) rfl rfl ?_;obtain⟨r64,hv65,hF⟩:=A.bd_some hF;refine A.AL.call 93 [] (first:=[]) (cap:=[]) cf10 (o_aT a1 A2_ c3_ A4_ c5_ A6_ c7_ r64 hv65) (.s 1 (.s 2 (.s 3 .nil))) ?_;rintro _ _ ⟨rfl,rfl⟩;refine⟨by kernel_rfl,?_⟩;refine A.q0 [] [] [.on .n,.n,.n] [(28,.bool (!r64))] ?_;refine A.AL.cnd (j:=28) rfl hF (fun hF=>?_) (fun hF=>?_)
  ·refine A.q0 [] [] [.off,.off,.off,.n] [(32,.bool true)] (A.AL.done ?_);exact A.j ⟨true,rfl,rfl,hF⟩
  refine A.q0 [11] [] [.on (.b 0 0)] [(29,.agg #[.slice A8_ ((a2.1).length) c9_,.slice A10_ ((a2.2.1).length) c11_,.slice A12_ ((a2.2.2).length) c13_])] ?_;refine A.AL.on (dj:=28) rfl rfl ?_;obtain⟨r66,hv67,hF⟩:=A.bd_some hF;refine A.AL.call 133 [] (first:=[]) (cap:=[]) cf10 (o_aT a2 A8_ c9_ A10_ c11_ A12_ c13_ r66 hv67) (.s 4 (.s 5 (.s 6 .nil))) ?_;rintro _ _ ⟨rfl,rfl⟩;refine⟨by kernel_rfl,?_⟩;refine A.q0 [] [] [.on .n,.n] [(32,.bool (!r66))] (A.AL.done ?_);exact A.j ⟨(!r66),rfl,rfl,hF⟩
 rintro _ _ ⟨y6,rfl,rfl,hF⟩;rw[F.aR]at hF;refine A.AX.cnb rfl hF ?_ ?_<;>intro hb hF
 ·refine A.xl 1 ?_;refine A.q0 [] [] [.n] [(6,.bool true)] (A.dx 1 ?_);obtain rfl:=A.si hF;exact A.rt1 [] ⟨rfl,rfl⟩
 refine A.xl 3 ?_;refine A.q0 [9,10] [] [.b 0 0,.b 1 0] [(33,.agg #[.slice A0_ ((a0).length) c1_]),(34,.agg #[.slice A2_ ((a1.1).length) c3_,.slice A4_ ((a1.2.1).length) c5_,.slice A6_ ((a1.2.2).length) c7_])] ?_;obtain⟨r7,hv8,hF⟩:=A.bd_some hF;refine A.AL.call 173 [] (first:=[]) (cap:=[]) cf20 (o_bc a0 a1 A0_ c1_ A2_ c3_ A4_ c5_ A6_ c7_ r7 hv8) (.s 0 (.s 1 (.s 2 (.s 3 (.s 7 (.s 8 .nil)))))) ?_;rintro _ _ ⟨g9,A10,c11,rfl,rfl⟩;refine⟨by kernel_rfl,?_⟩;refine A.q0 [] [] [.n] [(7,.func (.func 88) #[] #[.pointer (some ⟨g9,0,none⟩)])] (A.dl 3 ?_);refine A.q0 [] [] [.n] [(36,.func (.func 88) #[] #[.pointer (some ⟨g9,0,none⟩)])] ?_;refine A.AL.val rfl (fun a w hf hh=>Z.r_eqfn rfl (hf.eval rfl)) ?_;refine A.dx 1 ?_;refine A.AX.cnf rfl ?_;refine A.xl 3 ?_;refine A.q0 [9,10] [] [.b 0 0,.b 1 0] [(39,.agg #[.slice A0_ ((a0).length) c1_]),(40,.agg #[.slice A2_ ((a1.1).length) c3_,.slice A4_ ((a1.2.1).length) c5_,.slice A6_ ((a1.2.2).length) c7_])] ?_;obtain⟨r12,hv13,hF⟩:=A.bd_some hF;refine A.AL.call 213 [] (first:=[]) (cap:=[]) cf19 (o_al a0 a1 A0_ c1_ A2_ c3_ A4_ c5_ A6_ c7_ r12 hv13) (.s 0 (.s 1 (.s 2 (.s 3 (.s 7 (.s 8 .nil)))))) ?_;rintro _ _ ⟨A14,c15,rfl,rfl,hr16⟩;refine⟨by kernel_rfl,?_⟩;refine A.q0 [] [] [.n,.n,.n,.n,.n] [(8,.slice A14 ((r12.1).length) c15),(9,A.i r12.2)] (A.dl 2 ?_);refine A.q0 [9,10] [] [.b 0 0,.b 1 0] [(45,.agg #[.slice A0_ ((a0).length) c1_]),(46,.agg #[.slice A2_ ((a1.1).length) c3_,.slice A4_ ((a1.2.1).length) c5_,.slice A6_ ((a1.2.2).length) c7_])] ?_;obtain⟨r17,hv18,hF⟩:=A.bd_some hF;refine A.AL.call 253 [] (first:=[]) (cap:=[]) cf21 (o_bd a0 a1 A0_ c1_ A2_ c3_ A4_ c5_ A6_ c7_ r17 hv18) (.s 0 (.s 1 (.s 2 (.s 3 .nil)))) ?_;rintro _ _ ⟨A19,c20,rfl,rfl,hr21⟩;refine⟨by kernel_rfl,?_⟩;refine A.q0 [] [] [.n,.n,.n,.n,.n] [(10,.slice A19 ((r17.1).length) c20),(11,A.i r17.2)] (A.dl 2 ?_);refine A.q0 [9,10] [] [.b 0 0,.b 1 0] [(51,.agg #[.slice A0_ ((a0).length) c1_]),(52,.agg #[.slice A2_ ((a1.1).length) c3_,.slice A4_ ((a1.2.1).length) c5_,.slice A6_ ((a1.2.2).length) c7_])] ?_;obtain⟨r22,hv23,hF⟩:=A.bd_some hF;refine A.AL.call 293 [] (first:=[]) (cap:=[]) cf22 (o_a6 a0 a1 A0_ c1_ A2_ c3_ A4_ c5_ A6_ c7_ r22 hv23) (.s 0 (.s 1 (.s 2 (.s 3 (.s 7 (.s 8 .nil)))))) ?_;rintro _ _ ⟨A24,c25,A26,c27,A28,c29,rfl,rfl,hr30⟩;refine⟨by kernel_rfl,?_⟩;refine A.q0 [] [] [.n,.n,.n] [(54,.agg #[.slice A24 ((r22.1.1).length) c25,.slice A26 ((r22.1.2.1).length) c27,.slice A28 ((r22.1.2.2).length) c29]),(55,A.i r22.2)] ?_;refine A.AL.alloc 333 (cs:=[.slice none 0 0,.slice none 0 0,.slice none 0 0]) Tryz.zeroValue28 fun g31=>?_;refine A.sw 333 [] [.slice A24 ((r22.1.1).length) c25,.slice A26 ((r22.1.2.1).length) c27,.slice A28 ((r22.1.2.2).length) c29] ?_;refine A.q0 [] [] [.n] [(13,A.i r22.2)] (A.dl 2 ?_);refine A.q0 [9,10] [] [.b 0 0,.b 1 0] [(57,.agg #[.slice A0_ ((a0).length) c1_]),(58,.agg #[.slice A2_ ((a1.1).length) c3_,.slice A4_ ((a1.2.1).length) c5_,.slice A6_ ((a1.2.2).length) c7_])] ?_;obtain⟨r32,hv33,hF⟩:=A.bd_some hF;refine A.AL.call 334 [] (first:=[]) (cap:=[]) cf23 (o_bq a0 a1 A0_ c1_ A2_ c3_ A4_ c5_ A6_ c7_ r32 hv33) (.s 0 (.s 1 (.s 2 (.s 3 .nil)))) ?_;rintro _ _ ⟨A34,c35,A36,c37,A38,c39,rfl,rfl,hr40⟩;refine⟨by kernel_rfl,?_⟩;refine A.q0 [] [] [.n,.n,.n] [(60,.agg #[.slice A34 ((r32.1.1).length) c35,.slice A36 ((r32.1.2.1).length) c37,.slice A38 ((r32.1.2.2).length) c39]),(61,A.i r32.2)] ?_;refine A.AL.alloc 374 (cs:=[.slice none 0 0,.slice none 0 0,.slice none 0 0]) Tryz.zeroValue28 fun g41=>?_;refine A.sw 374 [] [.slice A34 ((r32.1.1).length) c35,.slice A36 ((r32.1.2.1).length) c37,.slice A38 ((r32.1.2.2).length) c39] ?_;refine A.q0 [] [] [.n] [(15,A.i r32.2)] (A.dx 1 ?_);refine A.AX.join [] [7,8] (fun nl nh=>∃(y42:Bool),nl=[(6,.bool y42)]∧nh=[]∧F.a5 y42=some r) ?_ ?_
 ·refine A.AX.dr mixed 36 36 (A.mb 36 0) ?_;refine A.hq A.pb [] [0,1,2,3,4,5,6,7,8,9,10,11,173,174,213,253,293,294,295,333,334,335,336,374] [9,10] [] (A.mb 36 13) 33 [(0,.n),(2,.b 0 0),(3,.b 1 0)] [(62,.func (.func 88) #[] #[.pointer (some ⟨g9,0,none⟩)]),(64,.agg #[.slice A0_ ((a0).length) c1_]),(65,.agg #[.slice A2_ ((a1.1).length) c3_,.slice A4_ ((a1.2.1).length) c5_,.slice A6_ ((a1.2.2).length) c7_])] ?_;refine A.AH.one 1 ?_;obtain⟨r43,hv44,hF⟩:=A.bd_some hF;refine A.AL.call 375 [] (first:=[]) (cap:=[]) cf25 (o_y r7 g9 A10 c11 r43 hv44) (.b 173 (.s 174 .nil)) ?_;rintro _ _ ⟨A45,c46,rfl,rfl⟩;refine⟨by kernel_rfl,?_⟩;refine A.AH.nx (A.mb 36 15) [0,1,2,3,4,5,6,7,8,9,10,11,173,174,213,253,293,294,295,333,334,335,336,374] ?_;refine A.AH.one 4 ?_;obtain⟨r47,hv48,hF⟩:=A.bd_some hF;refine A.AL.call 415 [] (first:=[]) (cap:=[]) cf26 (o_bQ a0 a1 A0_ c1_ A2_ c3_ A4_ c5_ A6_ c7_ r47 hv48) (.s 0 (.s 1 (.s 2 (.s 3 .nil)))) ?_;rintro _ _ ⟨A49,c50,rfl,rfl⟩;refine⟨by kernel_rfl,?_⟩;refine A.AH.nx (A.mb 36 31) [0,1,2,3,4,5,6,7,8,9,10,11,173,174,213,253,293,294,295,333,334,335,336,374] ?_;refine A.AH.one 5 ?_;obtain⟨r51,hv52,hF⟩:=A.bd_some hF;refine A.AL.call 455 [] (first:=[]) (cap:=[]) cf24 (o_c r43 r47 A45 c46 A49 c50 r51 hv52) (.o 375 (.o 415 .nil)) ?_;rintro _ _ ⟨rfl,rfl⟩;refine⟨by kernel_rfl,?_⟩;refine A.AH.nx (A.mb 36 63) [0,1,2,3,4,5,6,7,8,9,10,11,173,174,213,253,293,294,295,333,334,335,336,374] ?_;refine A.hq A.pb [0,1,2,3,4,5,6,7,8,9,10,11,173,174,213,253,293,294,295,333,334,335,336,374] [0,1,2,3,4,5,6,7,8,9,10,11,173,174,213,253,293,294,295,333,334,335,336,374,375,415] [] [] (A.mb 36 127) 29 [(6,.n)] [(68,.bool r51)] ?_;refine A.AH.cnd (j:=68) rfl hF (fun hF=>?_) (fun hF=>?_)
  ·refine A.hq A.pb [0,1,2,3,4,5,6,7,8,9,10,11,173,174,213,253,293,294,295,333,334,335,336,374,375,415] [0,1,2,3,4,5,6,7,8,9,10,11,173,174,213,253,293,294,295,333,334,335,336,374,375,415] [] [] (A.mb 36 511) 27 [(7,.on .n),(8,.on .n)] [(69,.slice A14 ((r12.1).length) c15),(70,.slice A19 ((r17.1).length) c20)] ?_;refine A.AH.one 9 ?_;refine A.AL.on (dj:=68) rfl rfl ?_;obtain⟨r53,hv54,hF⟩:=A.bd_some hF;refine A.AL.call 495 [] (first:=[]) (cap:=[]) cf24 (o_c r12.1 r17.1 A14 c15 A19 c20 r53 hv54) (.l 213 (.o 253 .nil)) ?_;rintro _ _ ⟨rfl,rfl⟩;refine⟨by kernel_rfl,?_⟩;refine A.AH.nx (A.mb 36 1023) [0,1,2,3,4,5,6,7,8,9,10,11,173,174,213,253,293,294,295,333,334,335,336,374,375,415] ?_;refine A.hq A.pb [0,1,2,3,4,5,6,7,8,9,10,11,173,174,213,253,293,294,295,333,334,335,336,374,375,415] [0,1,2,3,4,5,6,7,8,9,10,11,173,174,213,253,293,294,295,333,334,335,336,374,375,415] [] [] (A.mb 36 131071) 19 [(10,.n),(11,.n),(12,.sy .n),(13,.sy .n),(14,.sy .n),(15,.pk),(16,.n)] [(78,.bool (bif r53 then decide (r12.2=r17.2)else false))] ?_;refine A.AH.cnd (j:=78) rfl hF (fun hF=>?_) (fun hF=>?_)
   ·refine A.hq A.pb [0,1,2,3,4,5,6,7,8,9,10,11,173,174,213,253,293,294,295,333,334,335,336,374,375,415] [0,1,2,3,4,5,6,7,8,9,10,11,173,174,213,253,293,294,295,333,334,335,336,374,375,415] [333,374] [] (A.mb 36 524287) 17 [(17,.on (.b 0 0)),(18,.on (.b 1 0))] [(79,.agg #[.slice A24 ((r22.1.1).length) c25,.slice A26 ((r22.1.2.1).length) c27,.slice A28 ((r22.1.2.2).length) c29]),(80,.agg #[.slice A34 ((r32.1.1).length) c35,.slice A36 ((r32.1.2.1).length) c37,.slice A38 ((r32.1.2.2).length) c39])] ?_;refine A.AH.one 19 ?_;refine A.AL.on (dj:=78) rfl rfl ?_;obtain⟨r55,hv56,hF⟩:=A.bd_some hF;refine A.AL.call 535 [] (first:=[]) (cap:=[]) cf17 (o_aW r22.1 r32.1 A24 c25 A26 c27 A28 c29 A34 c35 A36 c37 A38 c39 r55 hv56) (.s 293 (.s 294 (.s 295 (.s 334 (.s 335 (.s 336 .nil)))))) ?_;rintro _ _ ⟨rfl,rfl⟩;refine⟨by kernel_rfl,?_⟩;refine A.AH.nx (A.mb 36 1048575) [0,1,2,3,4,5,6,7,8,9,10,11,173,174,213,253,293,294,295,333,334,335,336,374,375,415] ?_;refine A.hq A.pb [0,1,2,3,4,5,6,7,8,9,10,11,173,174,213,253,293,294,295,333,334,335,336,374,375,415] [0,1,2,3,4,5,6,7,8,9,10,11,173,174,213,253,293,294,295,333,334,335,336,374,375,415] [] [] (A.mb 36 134217727) 9 [(20,.n),(21,.n),(22,.sy .n),(23,.sy .n),(24,.sy .n),(25,.pk),(26,.n)] [(88,.bool (bif r55 then decide (r22.2=r32.2)else false))] ?_;refine A.AH.cnd (j:=88) rfl hF (fun hF=>?_) (fun hF=>?_)
    ·refine A.hq A.pb [0,1,2,3,4,5,6,7,8,9,10,11,173,174,213,253,293,294,295,333,334,335,336,374,375,415] [0,1,2,3,4,5,6,7,8,9,10,11,173,174,213,253,293,294,295,333,334,335,336,374,375,415] [10,11] [] (A.mb 36 3758096383) 5 [(27,.on (.b 0 0)),(28,.on (.b 1 0)),(30,.on (.b 0 0)),(31,.on (.b 1 0))] [(89,.agg #[.slice A2_ ((a1.1).length) c3_,.slice A4_ ((a1.2.1).length) c5_,.slice A6_ ((a1.2.2).length) c7_]),(90,.agg #[.slice A8_ ((a2.1).length) c9_,.slice A10_ ((a2.2.1).length) c11_,.slice A12_ ((a2.2.2).length) c13_]),(92,.agg #[.slice A2_ ((a1.1).length) c3_,.slice A4_ ((a1.2.1).length) c5_,.slice A6_ ((a1.2.2).length) c7_]),(93,.agg #[.slice A8_ ((a2.1).length) c9_,.slice A10_ ((a2.2.1).length) c11_,.slice A12_ ((a2.2.2).length) c13_])] ?_;refine A.AH.one 29 ?_;refine A.AL.on (dj:=88) rfl rfl ?_;obtain⟨r57,hv58,hF⟩:=A.bd_some hF;refine A.AL.call 575 [] (first:=[]) (cap:=[]) cf27 (o_br a1 a2 A2_ c3_ A4_ c5_ A6_ c7_ A8_ c9_ A10_ c11_ A12_ c13_ r57 hv58) (.s 1 (.s 2 (.s 3 (.s 4 (.s 5 (.s 6 .nil)))))) ?_;rintro _ _ ⟨rfl,rfl⟩;refine⟨by kernel_rfl,?_⟩;refine A.AH.nx (A.mb 36 4294967295) [0,1,2,3,4,5,6,7,8,9,10,11,173,174,213,253,293,294,295,333,334,335,336,374,375,415] ?_;refine A.AH.one 32 ?_;refine A.AL.on (dj:=88) rfl rfl ?_;obtain⟨r59,hv60,hF⟩:=A.bd_some hF;refine A.AL.call 615 [] (first:=[]) (cap:=[]) cf17 (o_aW a1 a2 A2_ c3_ A4_ c5_ A6_ c7_ A8_ c9_ A10_ c11_ A12_ c13_ r59 hv60) (.s 1 (.s 2 (.s 3 (.s 4 (.s 5 (.s 6 .nil)))))) ?_;rintro _ _ ⟨rfl,rfl⟩;refine⟨by kernel_rfl,?_⟩;refine A.AH.nx (A.mb 36 8589934591) [0,1,2,3,4,5,6,7,8,9,10,11,173,174,213,253,293,294,295,333,334,335,336,374,375,415] ?_;refine A.hq A.pb [0,1,2,3,4,5,6,7,8,9,10,11,173,174,213,253,293,294,295,333,334,335,336,374,375,415] [0,1,2,3,4,5,6,7,8,9,10,11,173,174,213,253,293,294,295,333,334,335,336,374,375,415] [] [] (A.mb 36 68719476735) 0 [(33,.on .n),(34,.n),(35,.n)] [(6,.bool (r57==r59))] (A.AH.done ?_);exact A.j ⟨(r57==r59),rfl,rfl,hF⟩
    refine A.hq A.pb [0,1,2,3,4,5,6,7,8,9,10,11,173,174,213,253,293,294,295,333,334,335,336,374,375,415] [0,1,2,3,4,5,6,7,8,9,10,11,173,174,213,253,293,294,295,333,334,335,336,374,375,415] [] [] (A.mb 36 68719476735) 0 [(27,.off),(28,.off),(30,.off),(31,.off),(29,.off),(32,.off),(33,.off),(34,.n),(35,.n)] [(6,.bool false)] (A.AH.done ?_);exact A.j ⟨false,rfl,rfl,hF⟩
   refine A.hq A.pb [0,1,2,3,4,5,6,7,8,9,10,11,173,174,213,253,293,294,295,333,334,335,336,374,375,415] [0,1,2,3,4,5,6,7,8,9,10,11,173,174,213,253,293,294,295,333,334,335,336,374,375,415] [] [] (A.mb 36 68719476735) 0 [(17,.off),(18,.off),(19,.off),(20,.n),(21,.n),(22,.off),(23,.off),(24,.off),(25,.n),(26,.n),(27,.off),(28,.off),(30,.off),(31,.off),(29,.off),(32,.off),(33,.off),(34,.n),(35,.n)] [(6,.bool false)] (A.AH.done ?_);exact A.j ⟨false,rfl,rfl,hF⟩
  refine A.hq A.pb [0,1,2,3,4,5,6,7,8,9,10,11,173,174,213,253,293,294,295,333,334,335,336,374,375,415] [0,1,2,3,4,5,6,7,8,9,10,11,173,174,213,253,293,294,295,333,334,335,336,374,375,415] [] [] (A.mb 36 68719476735) 0 [(7,.off),(8,.off),(9,.off),(10,.n),(11,.n),(12,.off),(13,.off),(14,.off),(15,.n),(16,.n),(17,.off),(18,.off),(19,.off),(20,.n),(21,.n),(22,.off),(23,.off),(24,.off),(25,.n),(26,.n),(27,.off),(28,.off),(30,.off),(31,.off),(29,.off),(32,.off),(33,.off),(34,.n),(35,.n)] [(6,.bool false)] (A.AH.done ?_);exact A.j ⟨false,rfl,rfl,hF⟩
 rintro _ _ ⟨y42,rfl,rfl,hF⟩;rw[F.a5]at hF;obtain rfl:=A.si hF;exact A.rt1 [] ⟨rfl,rfl⟩
end Go.Proofs.YtocfaokgoflmhaaGreatDoor
end
section
end
section
set_option linter.unusedVariables false
namespace Go.A
open Go.RowKit Go.Z Go.Shelf Go.Proofs Go.Lib
def Hall (W:World):List (Nat×Res)→Prop
 | []=>True
 |p::H=>(p.2.bl=[]∧p.2.ref=none∧p.2.holds W (fun _=>True) (fun _ _=>False))∧Hall W H
theorem Hall.at {W:World}: ∀{H:List (Nat×Res)} {k:Nat} {r:Res},Hall W H→hk H k=some r→r.bl=[]∧r.ref=none∧r.holds W (fun _=>True) (fun _ _=>False)
 | [],_,_,_,h=>by cases h
 |(d,u)::H,k,r,ha,h=>by
  rw[hk_cons]at h
  split at h
  ·injection h with h;subst h;exact ha.1
  ·exact ha.2.at h
theorem Hp.start {W:World}{H:List (Nat×Res)}(h:Hall W H):Hp ⟨0,[],W,[],fun _=>True⟩ H W:=by
 have hb: ∀k b,¬Bk H k b:=fun k b ⟨r,h1,h2⟩=>by rw[(h.at h1).1]at h2;cases h2
 refine⟨Ch.refl W,fun k r hk=>?_,fun k b hB=>(hb k b hB).elim,fun k k' b hB=>(hb k b hB).elim,fun k r j hk hr=>?_⟩
 ·exact Res.to (S:=[]) (h.at hk).2.2 (Ch.refl W) (fun b _ _=>⟨by simp,fun k=>hb k b,.inl trivial⟩) (fun b _ _=>⟨by simp,fun k=>hb k b⟩) (fun i b _ hf=>hf.elim) (by simp)
 ·rw[(h.at hk).2.1]at hr;cases hr
theorem Hall.sh {W:World}{t:Ty}{cs:List Value}{x:t.den}{F:Nat→Prop}(h:t.rep W F cs x):(Res.sh t cs x).bl=[]∧(Res.sh t cs x).ref=none∧(Res.sh t cs x).holds W (fun _=>True) (fun _ _=>False):=
 ⟨rfl,rfl,rep_as h fun _ _ _=>trivial⟩
theorem Hall.ln {W:World}{t:Ty}{A:Option Addr}{c n:Nat}{xs:List t.den}{F:Nat→Prop}(h:(Ty.slice t).rep W F [.slice A xs.length c] xs):(Res.ln t A c xs).bl=[]∧(Res.ln t A c xs).ref=none∧(Res.ln t A c xs).holds W (fun _=>True) (fun _ _=>False):=
 ⟨rfl,rfl,Row.to (S:=[]) (Row.of h) (Ch.refl W) (fun _ _ _=>⟨by simp,trivial⟩) (fun _ _ _=>⟨by simp,fun _ h=>h⟩)⟩
def putCells (cs:List Value):Obj→Obj
 | .cells _ t frozen=>.cells cs.toArray t frozen
 |o=>o
theorem tab_cells {w:World}{g3 g4:Nat}(h:Lib.Utf8Tabs g3 g4 w):Cells w ⟨g3,0,none⟩ tabF∧Cells w ⟨g4,0,none⟩ tabA:=by
 constructor
 ·intro j u hu
  rw[Addr.add_lit,Nat.zero_add]
  have hj:j<256:=by have:=(List.getElem?_eq_some_iff.1 hu).1;simpa[tabF] using this
  have e:tabF[j]?=some (.int .u8 (firstT j)):=by simp[tabF,hj]
  rw[e]at hu;injection hu with hu;subst hu
  exact h.1 j hj
 ·intro j u hu
  rw[Addr.add_lit,Nat.zero_add]
  have hj:j<32:=by have:=(List.getElem?_eq_some_iff.1 hu).1;simpa[tabA] using this
  have e:tabA[j]?=some (.int .u8 (if j%2=0 then accLo (j / 2)else accHi (j / 2))):=by simp[tabA,hj]
  rw[e]at hu;injection hu with hu;subst hu
  have:=h.2 (j / 2) (by omega)
  by_cases he:j%2=0
  ·rw[if_pos he]
   have hj2:j=2*(j / 2):=by omega
   rw[hj2];simpa using this.1
  ·rw[if_neg he]
   have hj2:j=2*(j / 2)+1:=by omega
   have h3:(2*(j / 2)+1) / 2=j / 2:=by omega
   rw[hj2,h3];exact this.2
theorem Hall.tabs {w:World}{g3 g4 i j:Nat}(h:Lib.Utf8Tabs g3 g4 w):Hall w [(i,.el none g3 0 tabF),(j,.el none g4 0 tabA)]:=by
 obtain⟨h1,h2⟩:=tab_cells h
 exact⟨⟨rfl,rfl,h1,World.block_lt_of_cell? w _ (h1 0 (.int .u8 (firstT 0)) (by simp[tabF])),fun _ h=>h⟩,⟨rfl,rfl,h2,World.block_lt_of_cell? w _ (h2 0 (.int .u8 (accLo 0)) (by simp[tabA])),fun _ h=>h⟩,trivial⟩
end Go.A
end
section
namespace Go.Graph
abbrev Fun:=Int×Int×ByteArray
abbrev Nd:=Int×Int×List Int×Fun×ByteArray×Int×Int
abbrev Pl:=Int×Int
abbrev Sp:=Pl×Int
abbrev id (x:Nd):Int:=x.1
abbrev kind (x:Nd):Int:=x.2.1
abbrev fn (x:Nd):Fun:=x.2.2.2.1
abbrev name (x:Nd):ByteArray:=x.2.2.2.2.1
abbrev cap (x:Nd):Int:=x.2.2.2.2.2.1
abbrev dep (x:Nd):Int:=x.2.2.2.2.2.2
def Few (g:List Nd):Prop:=g.length≤40∧∀x,x∈g→x.2.2.1.length≤5000∧x.2.2.2.2.1.size≤5000∧x.2.2.2.1.2.2.size≤5000
theorem Few.in {g:List Nd}{k:Nat}{x:Nd}(h:Few g)(hx:g[k]?=some x):x.2.2.1.length≤5000:=(h.2 x (List.mem_of_getElem? hx)).1
def insK (k:Int):Int:=if k<1∨16<k then-1 else if k=1 then 0 else if k=5∨k=9 then 2 else 1
def letter (c:UInt8):Bool:=decide ((97:Int)≤(c.toNat:Int)∧(c.toNat:Int)≤122∨(65:Int)≤(c.toNat:Int)∧(c.toNat:Int)≤90)
def digit (c:UInt8):Bool:=decide ((48:Int)≤(c.toNat:Int)∧(c.toNat:Int)≤57)
def wordy (l:List UInt8):Bool:=l.all fun c=>letter c||digit c
def named (s:ByteArray):Bool:=decide (s≠ByteArray.mk #[])&&decide ((s.size:Int)≤16)&&letter (Z.bat s 0)&&wordy s.data.toList
theorem drop_bat {s:ByteArray}{i:Nat}(h:i<s.size):s.data.toList.drop i=Z.bat s i::s.data.toList.drop (i+1):=by
 have h':i<s.data.toList.length:=by simpa using h
 rw[List.drop_eq_getElem_cons h']
 have h2:i<s.data.size:=h
 congr 1
 simp[Z.bat,Array.getElem?_eq_getElem h2]
theorem drop_end {s:ByteArray}{i:Nat}(h: ¬i<s.size):s.data.toList.drop i=[]:=
 List.drop_eq_nil_of_le (by have h1:s.data.toList.length=s.size:=rfl;omega)
theorem size_pos {s:ByteArray}(h:s≠ByteArray.mk #[]):0<s.size:=by
 rcases Nat.eq_zero_or_pos s.size with h0|h0
 ·have h1:s.data=#[]:=Array.eq_empty_of_size_eq_zero h0
  exact absurd (by cases s;simp_all) h
 ·exact h0
def idxF (id:Int):Nat→List Nd→Int
 |_,[]=> -1
 |k,x::r=>if x.1=id then(k:Int)else idxF id (k+1) r
def idx (g:List Nd)(id:Int):Int:=idxF id 0 g
def namedF (kd:Int)(s:ByteArray):List Nd→Int×Bool
 | []=>(0,false)
 |x::r=>if kind x=kd∧name x=s then(x.1,true)else namedF kd s r
def z0:Nd:=(0,0,[],(0,0,ByteArray.mk #[]),ByteArray.mk #[],0,0)
def at_ (g:List Nd)(i:Int):Nd:=(g[i.toNat]?).getD z0
def find (g:List Nd)(id:Int):Nd×Bool:=if idx g id<0 then(z0,false)else(at_ g (idx g id),true)
theorem idxF_le (id:Int): ∀(k:Nat) (g:List Nd),-1≤idxF id k g∧idxF id k g<k+g.length
 |k,[]=>by simp[idxF];omega
 |k,x::r=>by
  unfold idxF
  have:=idxF_le id (k+1) r
  by_cases h:x.1=id
  ·rw[if_pos h];simp only[List.length_cons];omega
  ·rw[if_neg h];simp only[List.length_cons];omega
theorem idx_le (g:List Nd)(id:Int): -1≤idx g id∧idx g id<g.length:=by
 have:=idxF_le id 0 g
 unfold idx;omega
theorem at_some {g:List Nd}{i:Int}{x:Nd}{k:Nat}(hk:i=(k:Int))(h:g[k]?=some x):at_ g i=x:=by
 subst hk;simp[at_,h]
def ownT (g:List Nd)(n:Nd):Bool:=if n.2.1≠1∧n.2.1≠15 then decide (n.2.2.2.2.1=ByteArray.mk #[])else named n.2.2.2.2.1&&decide ((namedF n.2.1 n.2.2.2.2.1 g).1=n.1)
def ownC (n:Nd):Prop:=n.2.1=14∧(n.2.2.2.2.2.1<1∨8<n.2.2.2.2.2.1∨n.2.2.2.2.2.2<1∨4<n.2.2.2.2.2.2)∨n.2.1≠14∧(n.2.2.2.2.2.1≠0∨n.2.2.2.2.2.2≠0)
instance (n:Nd):Decidable (ownC n):=by unfold ownC;infer_instance
def own (g:List Nd)(i:Int)(n:Nd):Bool:=
 if n.1<1∨255<n.1∨0<i∧n.1≤(at_ g (i-1)).1∨insK n.2.1<0∨(n.2.2.1.length:Int)≠insK n.2.1 then false else if ownC n then false else ownT g n
def bget (l:List Bool)(i:Int):Bool:=(l[i.toNat]?).getD false
def iget (l:List Int)(i:Int):Int:=(l[i.toNat]?).getD 0
def Fed (g:List Nd):Prop:=∀x,x∈g→∀k,k∈x.2.2.1→0≤idx g k
def readyF (g:List Nd)(done:List Bool)(kd:Int):List Int→Bool
 | []=>true
 |k::r=>if kd≠14∧bget done (idx g k)=false then false else readyF g done kd r
def ready (g:List Nd)(done:List Bool)(n:Nd):Bool:=readyF g done n.2.1 n.2.2.1
def firstF (g:List Nd)(done:List Bool):Nat→List Nd→Int→Int
 |_,[],a=>a
 |i,x::r,a=>firstF g done (i+1) r (if(a<0∧bget done i=false)∧ready g done x=true then i else a)
def orderF (g:List Nd):Nat→List Bool→List Int→Option (List Int)
 |0,_,l=>some l
 |f+1,done,l=>if firstF g done 0 g (-1)<0 then none else orderF g f (done.set (firstF g done 0 g (-1)).toNat true) (l++[firstF g done 0 g (-1)])
def d0:List Int→Int
 | []=>0
 |a::_=>a
def capd (d:Int):Int:=if 4<d then-1 else d
def depthA (n:Nd)(l:List Int):Int:=if n.2.1=14 then n.2.2.2.2.2.2 else if n.2.1=12 then d0 l+1 else if n.2.1=13 then d0 l-1 else
 if n.2.1=5∨n.2.1=9 then(if iget l 0≠iget l 1 then-1 else d0 l)else if n.2.1=11∨n.2.1=16∨n.2.1=15 then(if d0 l≠0 then-1 else d0 l)else d0 l
def depthOf (n:Nd)(l:List Int):Int:=capd (depthA n l)
theorem d0_iget {l:List Int}:iget l 0=d0 l:=by cases l<;>rfl
theorem d0_nil {l:List Int}(h:l.length=0):0=d0 l:=by cases l with
 |nil=>rfl
 |cons a r=>simp at h
def depthsF (g:List Nd):List Int→List Int→Option (List Int)
 | [],d=>some d
 |p::r,d=>if depthOf (at_ g p) ((at_ g p).2.2.1.map fun k=>iget d (idx g k))<0 then none else depthsF g r (d.set p.toNat (depthOf (at_ g p) ((at_ g p).2.2.1.map fun k=>iget d (idx g k))))
def loopsF (g:List Nd)(d:List Int):List Nd→Bool
 | []=>true
 |x::r=>if x.2.1=14∧iget d (idx g (iget x.2.2.1 0))≠x.2.2.2.2.2.2 then false else loopsF g d r
theorem firstF_le (g:List Nd)(done:List Bool): ∀(i:Nat) (l:List Nd) (a:Int),-1≤a→a<i+l.length→ -1≤firstF g done i l a∧firstF g done i l a<i+l.length
 |i,[],a,h1,h2=>by simp[firstF]at*;omega
 |i,x::r,a,h1,h2=>by
  unfold firstF
  simp only[List.length_cons]at h2 ⊢
  have:=firstF_le g done (i+1) r (if(a<0∧bget done i=false)∧ready g done x=true then i else a) (by split<;>omega) (by split<;>omega)
  omega
def depths (g:List Nd)(l:List Int):List Int×Bool:=match depthsF g l (List.replicate g.length 0)with
 |some d=>if loopsF g d g then(d,true)else([],false)
 |none=>([],false)
abbrev inD (g:List Nd) (d:List Int) (l:List Int):List Int:=l.map fun k=>iget d (idx g k)
def InB (d:List Int):Prop:=∀i,0≤iget d i∧iget d i≤4
theorem InB.rep (n:Nat):InB (List.replicate n 0):=fun i=>by
 unfold iget;rw[List.getElem?_replicate];split<;>simp
theorem depthOf_le (n:Nd)(l:List Int):depthOf n l≤4:=by unfold depthOf capd;split<;>omega
theorem InB.set {d:List Int}(h:InB d)(p:Nat){v:Int}(h0:0≤v)(h1:v≤4):InB (d.set p v):=fun i=>by
 unfold iget;rw[List.getElem?_set]
 have:=h i
 unfold iget at this
 split
 ·split<;>simp<;>omega
 ·exact this
theorem InB.d0 {d:List Int}(h:InB d)(g:List Nd)(l:List Int): -1≤Graph.d0 (inD g d l)∧Graph.d0 (inD g d l)≤4:=by
 cases l with
 |nil=>simp[Graph.d0]
 |cons k r=>have:=h (idx g k);simp only[inD,List.map_cons,Graph.d0];omega
theorem inD_take {g:List Nd}{d l:List Int}{k:Nat}{x:Int}(h:l[k]?=some x):inD g d (l.take k)++[iget d (idx g x)]=inD g d (l.take (k+1)):=by
 have h1:=(List.getElem?_eq_some_iff.1 h)
 rw[List.take_add_one,h];simp[inD]
def insS (g:List Nd)(d:List Int)(id:Int):Nat→List Int→List Sp
 |_,[]=>[]
 |k,x::r=>((id,(k:Int)),iget d (idx g x))::insS g d id (k+1) r
def outS (n:Nd)(v:Int):List Sp:=if n.2.1≠15 then [((n.1,2),v)]else []
def spotsF (g:List Nd)(d:List Int):Nat→List Nd→List Sp
 |_,[]=>[]
 |i,n::r=>insS g d n.1 0 n.2.2.1++(outS n (iget d i)++spotsF g d (i+1) r)
def spots (g:List Nd)(d:List Int):List Sp:=spotsF g d 0 g
def atS (p:Pl):List Sp→Int
 | []=> -1
 |x::r=>if x.1=p then x.2 else atS p r
abbrev Sm:=Int×Int×Int×Int×(Int×Int×Int×Int)
def z8:Sm:=(0,0,0,0,(0,0,0,0))
def stepP (d a b:Int)(s:Sm):Sm×Int:=if d<a∨b<d then(z8,11)else((d,s.2),0)
def idP (d:Int):Sm×Int:=stepP d 0 4 (0,d,0,0,(0,0,0,0))
def enterP (d:Int):Sm×Int:=stepP d 0 3 (0,d,0,1,(0,0,0,0))
def leaveP (d:Int):Sm×Int:=stepP d 1 4 (0,d-1,0,0,(0,0,0,0))
def nextP (d:Int):Sm×Int:=stepP d 1 4 (0,d,1,0,(0,0,0,0))
def withinP (n:Nd)(d:Int):Sm:=if n.2.1=12 then(enterP d).1 else if n.2.1=13 then(leaveP d).1 else if n.2.1=14 then(nextP d).1 else(idP d).1
theorem width_pos (s:ByteArray)(pos:Nat):1≤(Utf8.decode s pos).2:=by
 unfold Utf8.decode;simp only[];repeat' split
 all_goals first|exact Nat.le_refl 1|(simp;done)|omega
def numberF (f:Fun):Bool:=if f.1=3∨f.1=13 then decide (0≤f.2.1∧f.2.1≤64)else if f.1=6∨f.1=11 then decide (1≤f.2.1∧f.2.1≤1048576)else decide (f.2.1=0)
def tail5 (c:UInt8):Bool:=decide (128≤(c.toNat:Int)∧(c.toNat:Int)≤191)
end Go.Graph
end
section
set_option linter.unusedVariables false
set_option linter.unusedSimpArgs false
namespace Go.A
open Go.Z
theorem r64n {n:Nat}(h:n<4611686018427387904):R64 ((n:Int)+1):=⟨by omega,by omega⟩
theorem gd1 {α:Type}{p:Prop}[Decidable p](h:p)(x:Option α):gd p x=x:=if_pos h
theorem ixn {α:Type}{xs:List α}{k:Nat}{x:α}(h:xs[k]?=some x):ix xs (k:Int)=some x:=by rw[ix_nat];exact h
theorem ixg {α:Type}{xs:List α}{i:Int}{x:α}(h0:0≤i)(h:xs[i.toNat]?=some x):ix xs i=some x:=by unfold ix;rw[if_neg (by omega)];exact h
theorem dropx {α:Type}{xs:List α}{k:Nat}{x:α}(h:xs[k]?=some x):xs.drop k=x::xs.drop (k+1):=by
 obtain⟨h1,h2⟩:=List.getElem?_eq_some_iff.1 h
 rw[List.drop_eq_getElem_cons h1,h2]
theorem ba {p q:Prop}[Decidable p][Decidable q]:(bif decide p then decide q else false)=decide (p∧q):=by by_cases h:p<;>simp[h]
theorem bo {p q:Prop}[Decidable p][Decidable q]:(bif decide p then true else decide q)=decide (p∨q):=by by_cases h:p<;>simp[h]
theorem bn {p:Prop}[Decidable p]:(!decide p)=decide (¬p):=by by_cases h:p<;>simp[h]
theorem lp {α σ ρ:Type}(xs:List α)(L:Nat→σ→Int→Option ρ)(G:Nat→List α→σ→Option ρ)(P:Nat→σ→Prop)
  (h0: ∀f s,P xs.length s→L (f+1) s (xs.length:Int)=G xs.length [] s)
  (h1: ∀f s (k:Nat) x,xs[k]?=some x→k<xs.length→P k s→(∀s',P (k+1) s'→L f s' ((k:Int)+1)=G (k+1) (xs.drop (k+1)) s')→L (f+1) s k=G k (x::xs.drop (k+1)) s)
  (hl:xs.length<FU) (s:σ) (hs:P 0 s):L FU s 0=G 0 xs s:=by
 have main: ∀(n k f:Nat) (s:σ),k+n=xs.length→n<f→P k s→L f s (k:Int)=G k (xs.drop k) s:=by
  intro n
  induction n with
  |zero=>
   intro k f s hk hf hp
   obtain⟨f,rfl⟩: ∃f',f=f'+1:=⟨f-1,by omega⟩
   obtain rfl:k=xs.length:=by omega
   rw[List.drop_eq_nil_of_le (Nat.le_refl _)];exact h0 f s hp
  |succ n ih=>
   intro k f s hk hf hp
   obtain⟨f,rfl⟩: ∃f',f=f'+1:=⟨f-1,by omega⟩
   have hx:xs[k]?=some xs[k]:=List.getElem?_eq_getElem (by omega)
   rw[dropx hx]
   exact h1 f s k _ hx (by omega) hp fun s' hp'=>ih (k+1) f s' (by omega) (by omega) hp'
 have:=main xs.length 0 FU s (by omega) hl hs
 simpa using this
theorem lp0 {α ρ:Type}(xs:List α)(L:Nat→Int→Option ρ)(G:Nat→List α→Option ρ)
  (h0: ∀f,L (f+1) (xs.length:Int)=G xs.length [])
  (h1: ∀f (k:Nat) x,xs[k]?=some x→k<xs.length→L f ((k:Int)+1)=G (k+1) (xs.drop (k+1))→L (f+1) k=G k (x::xs.drop (k+1)))
  (hl:xs.length<FU):L FU 0=G 0 xs:=
 lp xs (fun f (_:Unit) y=>L f y) (fun k l _=>G k l) (fun _ _=>True) (fun f s _=>h0 f) (fun f s k x hx hk _ ih=>h1 f k x hx hk (ih () trivial)) hl () trivial
end Go.A
namespace Go.Proofs.YtocfaokgoflmhaaGreatDoor
open Go.RowKit Go.Graph
theorem FU_big:(1000000000000:Nat)<A.FU:=by decide
theorem Ins_eq (k:Int):F.ep k=F.d1 k:=rfl
theorem R08_Ins_eq (k:Int):F.d1 k=some (insK k):=by
 unfold F.d1 insK
 simp only[Bool.cond_decide]
 by_cases h1:k<1<;>by_cases h2:16<k<;>simp[h1,h2]
 by_cases h3:k=1
 ·simp[h3]
 ·by_cases h4:k=5<;>by_cases h5:k=9<;>simp[h3,h4,h5]
theorem ixb {s:ByteArray}{k:Nat}(h:k<s.size):A.ix s.data.toList (k:Int)=some (Z.bat s k):=by
 refine A.ixn ?_
 have:=drop_bat h
 rw[←List.head?_drop,this];rfl
theorem size_list (s:ByteArray):s.data.toList.length=s.size:=rfl
theorem letter_eq (c:UInt8):F.d2 c=some (letter c):=by
 unfold F.d2 letter
 by_cases h1:(97:Int)≤(c.toNat:Int)<;>by_cases h2:(c.toNat:Int)≤122<;>simp[h1,h2]
theorem digit_eq (c:UInt8):F.e0 c=some (digit c):=by
 unfold F.e0 digit
 by_cases h1:(48:Int)≤(c.toNat:Int)<;>by_cases h2:(c.toNat:Int)≤57<;>simp[h1,h2]
theorem name_eq (s:ByteArray)(hs:s.size≤5000):F.e9 s=some (named s):=by
 have loop:F.bq s A.FU 0=some (wordy s.data.toList):=A.lp0 s.data.toList (fun f y=>F.bq s f y) (fun _ l=>some (wordy l))
  (fun f=>by rw[F.bq,if_neg (by rw[size_list];omega)];rfl)
  (fun f k x hx hk ih=>by
   have hk':k<s.size:=hk
   rw[F.bq,if_pos (by omega),A.ixn hx,Option.bind_some,letter_eq,Option.bind_some]
   cases hl:letter x with
   |true=>
    simp only[Bool.not_true,Bool.false_eq_true,if_false,F.dx]
    rw[A.gd1 (A.r64n (by omega)),ih];simp[wordy,hl]
   |false=>
    simp only[Bool.not_false,if_true,A.ixn hx,Option.bind_some,digit_eq,F.dx]
    cases hd:digit x with
    |true=>simp only[Bool.not_true,Bool.false_eq_true,if_false];rw[A.gd1 (A.r64n (by omega)),ih];simp[wordy,hl,hd]
    |false=>simp[wordy,hl,hd])
  (by rw[size_list];have:=FU_big;omega)
 unfold F.e9 named
 by_cases h1:s=ByteArray.mk #[]
 ·simp[h1,F.cJ]
 ·by_cases h2:(16:Int)<(s.size:Int)
  ·have h2': ¬(s.size:Int)≤16:=by omega
   simp[h1,h2,h2',F.cJ]
  ·have h2':(s.size:Int)≤16:=by omega
   have h0:=size_pos h1
   have e0:A.ix s.data.toList 0=some (Z.bat s 0):=ixb h0
   simp only[h1,h2,h2',decide_false,cond_false,Bool.false_eq_true,if_false,e0,Option.bind_some,letter_eq,F.cJ,loop,decide_true,ne_eq,not_false_eq_true,Bool.and_true,Bool.true_and]
   cases letter (Z.bat s 0)<;>simp
end Go.Proofs.YtocfaokgoflmhaaGreatDoor
end
section
set_option linter.unusedVariables false
set_option linter.unusedSimpArgs false
set_option synthInstance.maxSize 1000000
set_option synthInstance.maxHeartbeats 400000
namespace Go.Proofs.YtocfaokgoflmhaaGreatDoor
open Go.RowKit Go.Graph
theorem bat_get (s:ByteArray)(i:Nat):(s.get! i)=Z.bat s i:=by
 cases s;simp[ByteArray.get!,Z.bat,getElem!_def,Option.getD]
 rfl
theorem dec_at (s:ByteArray)(i:Nat):Utf8.decode s i=Lib.decodeN (s.size-i) (Z.bat s i).toNat (Z.bat s (i+1)).toNat (Z.bat s (i+2)).toNat (Z.bat s (i+3)).toNat:=by
 rw[Lib.decode_at,bat_get,bat_get,bat_get,bat_get]
theorem dec_lt {s:ByteArray}{i:Nat}(h:(Z.bat s i).toNat <128):Utf8.decode s i=((Z.bat s i).toNat,1):=by
 rw[dec_at];unfold Lib.decodeN;rw[if_pos h]
theorem dec_ge {s:ByteArray}{i:Nat}(h:128≤(Z.bat s i).toNat):128≤(Utf8.decode s i).1:=by
 rw[dec_at];unfold Lib.decodeN;rw[if_neg (by omega)]
 repeat' split
 all_goals first|(simp only[];omega)|decide
theorem named_eq (s:ByteArray)(hs:s.size≤5000):F.cb s=some (named s):=by
 have loop: ∀(n p f:Nat),s.size-p≤n→n<f→F.aN s f p=some ((if p=0∧0<s.size then letter (Z.bat s 0)else true)&&wordy (s.data.toList.drop p)&&(decide (s≠ByteArray.mk #[])&&decide ((s.size:Int)≤16))):=by
  intro n
  induction n with
  |zero=>
   intro p f hp hf
   obtain⟨f,rfl⟩: ∃f',f=f'+1:=⟨f-1,by omega⟩
   rw[F.aN,if_neg (by omega),drop_end (by omega),if_neg (by omega)]
   by_cases h1:s=ByteArray.mk #[]<;>simp[h1,wordy]
  |succ n ih=>
   intro p f hp hf
   obtain⟨f,rfl⟩: ∃f',f=f'+1:=⟨f-1,by omega⟩
   by_cases hp2:p<s.size
   ·rw[F.aN,if_pos hp2,drop_bat hp2]
    rcases Nat.lt_or_ge (Z.bat s p).toNat 128 with hc|hc
    ·rw[dec_lt hc]
     have ih1:=ih (p+1) f (by omega) (by omega)
     rw[if_neg (fun h=>by omega)]at ih1
     simp only[ih1]
     have e1:(bif decide ((97:Int)≤((Z.bat s p).toNat:Int))then decide (((Z.bat s p).toNat:Int)≤122)else false)=decide ((97:Int)≤((Z.bat s p).toNat:Int)∧((Z.bat s p).toNat:Int)≤122):=by by_cases h:(97:Int)≤((Z.bat s p).toNat:Int)<;>simp[h]
     have e2:(bif decide ((65:Int)≤((Z.bat s p).toNat:Int))then decide (((Z.bat s p).toNat:Int)≤90)else false)=decide ((65:Int)≤((Z.bat s p).toNat:Int)∧((Z.bat s p).toNat:Int)≤90):=by by_cases h:(65:Int)≤((Z.bat s p).toNat:Int)<;>simp[h]
     rw[e1,e2]
     by_cases hL:letter (Z.bat s p)=true
     ·have hL':=hL
      simp only[letter,decide_eq_true_eq]at hL'
      have e3:(if p=0∧0<s.size then letter (Z.bat s 0)else true)=true:=by split;rename_i h;rw[←h.1];exact hL;rfl
      rw[e3]
      simp only[wordy,List.all_cons,hL,Bool.true_or,Bool.true_and]
      by_cases h1:(97:Int)≤((Z.bat s p).toNat:Int)∧((Z.bat s p).toNat:Int)≤122
      ·simp[h1]
      ·have h2:=hL'.resolve_left h1
       simp[h1,h2]
     ·have hL':=hL
      simp only[letter,decide_eq_true_eq,not_or]at hL'
      rw[Bool.not_eq_true]at hL
      simp only[hL'.1,hL'.2,decide_false,Bool.false_eq_true,if_false,Bool.not_false,if_true]
      simp only[wordy,List.all_cons,hL,Bool.false_or]
      by_cases h0:p=0
      ·subst h0;simp[hp2,hL]
      ·have h0': ¬(p:Int)=0:=by omega
       simp only[h0,h0',decide_false,cond_false,false_and,if_false,Bool.true_and]
       by_cases hd:digit (Z.bat s p)=true
       ·have hd':=hd
        simp only[digit,decide_eq_true_eq]at hd'
        have a1: ¬((Z.bat s p).toNat:Int)<48:=by omega
        have a2: ¬(57:Int)<((Z.bat s p).toNat:Int):=by omega
        simp[a1,a2,hd]
       ·have hd':=hd
        simp only[digit,decide_eq_true_eq]at hd'
        rw[Bool.not_eq_true]at hd
        by_cases a1:((Z.bat s p).toNat:Int)<48
        ·simp[a1,hd]
        ·have a2:(57:Int)<((Z.bat s p).toNat:Int):=by omega
         simp[a1,a2,hd]
    ·have hd:=dec_ge hc
     have hL:letter (Z.bat s p)=false:=by unfold letter;rw[decide_eq_false_iff_not];omega
     have hD:digit (Z.bat s p)=false:=by unfold digit;rw[decide_eq_false_iff_not];omega
     have b1: ¬((Utf8.decode s p).1:Int)≤122:=by omega
     have b2: ¬((Utf8.decode s p).1:Int)≤90:=by omega
     have b3:(57:Int)<((Utf8.decode s p).1:Int):=by omega
     have b4: ¬((Utf8.decode s p).1:Int)<48:=by omega
     simp[b1,b2,b3,b4,wordy,hL,hD]
   ·rw[F.aN,if_neg hp2,drop_end hp2,if_neg (by omega)]
    by_cases h1:s=ByteArray.mk #[]<;>simp[h1,wordy]
 unfold F.cb
 rw[loop s.size 0 A.FU (by omega) (by have:=FU_big;omega)]
 unfold named
 by_cases h1:s=ByteArray.mk #[]
 ·simp[h1]
 ·have h0:=size_pos h1
  simp only[h0,and_self,if_true,List.drop_zero,ne_eq,h1,not_false_eq_true,decide_true,Bool.true_and]
  congr 1
  cases letter (Z.bat s 0)<;>cases wordy s.data.toList<;>simp
theorem tail_eq (c:UInt8):F.cL c=some (tail5 c):=by
 unfold F.cL tail5
 by_cases h1:(128:Int)≤(c.toNat:Int)<;>by_cases h2:(c.toNat:Int)≤191<;>simp[h1,h2]
theorem ixk (s:ByteArray)(p k:Nat):A.ix s.data.toList ((p:Int)+(k:Int))=if p+k<s.size then some (Z.bat s (p+k))else none:=by
 have e:(p:Int)+(k:Int)=((p+k:Nat):Int):=by omega
 rw[e]
 by_cases h:p+k<s.size
 ·rw[if_pos h];exact ixb h
 ·rw[if_neg h,A.ix_nat];exact List.getElem?_eq_none (by rw[size_list];omega)
def wid (s:ByteArray)(p:Nat):Nat:=if Utf8.decode s p=(65533,1)then 0 else(Utf8.decode s p).2
theorem wid_le {s:ByteArray}{p:Nat}(h:p<s.size):p+wid s p≤s.size:=by
 unfold wid
 split
 ·omega
 ·rw[dec_at]
  unfold Lib.decodeN
  repeat' split
  all_goals simp only[]
  all_goals omega
def widN (n a b c d:Nat):Nat:=
 if a<128 then 1
 else if(194≤a∧a≤223)∧2≤n∧(128≤b∧b≤191)then 2
 else if(224≤a∧a≤239)∧3≤n∧(128≤b∧b≤191)∧(128≤c∧c≤191)∧¬(a=224∧b<160)∧¬(a=237∧159<b)then 3
 else if(240≤a∧a≤244)∧4≤n∧(128≤b∧b≤191)∧(128≤c∧c≤191)∧(128≤d∧d≤191)∧¬(a=240∧b<144)∧¬(a=244∧143<b)then 4
 else 0
theorem pq (c:Prop)[Decidable c](x w:Nat)(hw:w≠1):(if(if c then(x,w)else(65533,1))=(65533,1)then 0 else(if c then(x,w)else(65533,1)).2)=if c then w else 0:=by
 by_cases h:c<;>simp[h,hw]
theorem widN_eq (n a b c d:Nat)(ha:a<256)(hb:b<256)(hc:c<256)(hd:d<256):(if Lib.decodeN n a b c d=(65533,1)then 0 else(Lib.decodeN n a b c d).2)=widN n a b c d:=by
 unfold Lib.decodeN widN
 by_cases h0:a<128
 ·simp only[h0,if_true,Prod.mk.injEq];rw[if_neg (by omega)]
 ·simp only[h0,if_false]
  by_cases h1:a / 32=6∧1<n∧b / 64=2
  ·simp only[if_pos h1]
   rw[pq _ _ _ (by decide)]
   repeat' split
   all_goals omega
  ·simp only[if_neg h1]
   by_cases h3:a / 16=14∧(1<n∧b / 64=2)∧2<n∧c / 64=2
   ·simp only[if_pos h3]
    rw[pq _ _ _ (by decide)]
    repeat' split
    all_goals omega
   ·simp only[if_neg h3]
    by_cases h5:a / 8=30∧(1<n∧b / 64=2)∧(2<n∧c / 64=2)∧3<n∧d / 64=2
    ·simp only[if_pos h5]
     rw[pq _ _ _ (by decide)]
     repeat' split
     all_goals omega
    ·simp only[if_neg h5,if_true]
     repeat' split
     all_goals omega
theorem wid_N (s:ByteArray)(p:Nat):wid s p=widN (s.size-p) (Z.bat s p).toNat (Z.bat s (p+1)).toNat (Z.bat s (p+2)).toNat (Z.bat s (p+3)).toNat:=by
 rw[←widN_eq _ _ _ _ _ (UInt8.toNat_lt _) (UInt8.toNat_lt _) (UInt8.toNat_lt _) (UInt8.toNat_lt _),←dec_at];rfl
theorem cnd {α:Type}{p:Prop}[Decidable p](x y:α):(bif decide p then x else y)=if p then x else y:=by by_cases h:p<;>simp[h]
set_option maxHeartbeats 4000000 in
theorem width_eq (s:ByteArray)(p:Nat)(hp:p<s.size)(hs:s.size≤5000):F.eu s p=some (wid s p:Int):=by
 have i1:A.ix s.data.toList ((p:Int)+1)=if p+1<s.size then some (Z.bat s (p+1))else none:=ixk s p 1
 have i2:A.ix s.data.toList ((p:Int)+2)=if p+2<s.size then some (Z.bat s (p+2))else none:=ixk s p 2
 have i3:A.ix s.data.toList ((p:Int)+3)=if p+3<s.size then some (Z.bat s (p+3))else none:=ixk s p 3
 have r1:Z.R64 ((p:Int)+1):=⟨by omega,by omega⟩
 have r2:Z.R64 ((p:Int)+2):=⟨by omega,by omega⟩
 have r3:Z.R64 ((p:Int)+3):=⟨by omega,by omega⟩
 unfold F.eu
 rw[A.gd1 ⟨by omega,by omega⟩,ixb hp,Option.bind_some,A.gd1 r1,i1,wid_N]
 generalize Z.bat s p=c0 at*
 generalize Z.bat s (p+1)=c1 at*
 generalize Z.bat s (p+2)=c2 at*
 generalize Z.bat s (p+3)=c3 at*
 have t (c:UInt8):tail5 c=decide (128≤c.toNat∧c.toNat≤191):=by unfold tail5;congr 1;exact propext ⟨fun h=>by omega,fun h=>by omega⟩
 by_cases h1:(1:Int)<(s.size:Int)-(p:Int)
 ·rw[if_pos h1,if_pos (by omega),Option.bind_some]
  simp only[F.cX,F.cW,F.ct,F.bX,tail_eq,Option.bind_some,t,A.gd1 r2,A.gd1 r3,i2,i3]
  unfold widN
  generalize hn:s.size-p=n
  have e2:((2:Int)≤(s.size:Int)-(p:Int))=(2≤n):=propext ⟨fun h=>by omega,fun h=>by omega⟩
  have e3:((3:Int)≤(s.size:Int)-(p:Int))=(3≤n):=propext ⟨fun h=>by omega,fun h=>by omega⟩
  have e4:((4:Int)≤(s.size:Int)-(p:Int))=(4≤n):=propext ⟨fun h=>by omega,fun h=>by omega⟩
  have f2:(p+2<s.size)=(3≤n):=propext ⟨fun h=>by omega,fun h=>by omega⟩
  have f3:(p+3<s.size)=(4≤n):=propext ⟨fun h=>by omega,fun h=>by omega⟩
  have hn2:2≤n:=by omega
  simp only[e2,e3,e4,f2,f3,A.ba,decide_eq_true_eq,hn2,and_true,true_and]
  have q0:((c0.toNat:Int)<128)=(c0.toNat<128):=propext ⟨fun h=>by omega,fun h=>by omega⟩
  have q1:((194:Int)≤(c0.toNat:Int)∧(c0.toNat:Int)≤223)=(194≤c0.toNat∧c0.toNat≤223):=propext ⟨fun h=>by omega,fun h=>by omega⟩
  have q2:((224:Int)≤(c0.toNat:Int)∧(c0.toNat:Int)≤239)=(224≤c0.toNat∧c0.toNat≤239):=propext ⟨fun h=>by omega,fun h=>by omega⟩
  have q3:((240:Int)≤(c0.toNat:Int)∧(c0.toNat:Int)≤244)=(240≤c0.toNat∧c0.toNat≤244):=propext ⟨fun h=>by omega,fun h=>by omega⟩
  have q4:((c0.toNat:Int)=224∧(c1.toNat:Int)<160)=(c0.toNat=224∧c1.toNat<160):=propext ⟨fun h=>by omega,fun h=>by omega⟩
  have q5:((c0.toNat:Int)=237∧(159:Int)<(c1.toNat:Int))=(c0.toNat=237∧159<c1.toNat):=propext ⟨fun h=>by omega,fun h=>by omega⟩
  have q6:((c0.toNat:Int)=240∧(c1.toNat:Int)<144)=(c0.toNat=240∧c1.toNat<144):=propext ⟨fun h=>by omega,fun h=>by omega⟩
  have q7:((c0.toNat:Int)=244∧(143:Int)<(c1.toNat:Int))=(c0.toNat=244∧143<c1.toNat):=propext ⟨fun h=>by omega,fun h=>by omega⟩
  simp only[q0,q1,q2,q3,q4,q5,q6,q7]
  have x1:240≤c0.toNat∧c0.toNat≤244→¬(224≤c0.toNat∧c0.toNat≤239):=fun h h2=>by omega
  have x2:240≤c0.toNat∧c0.toNat≤244→¬(194≤c0.toNat∧c0.toNat≤223):=fun h h2=>by omega
  have x3:224≤c0.toNat∧c0.toNat≤239→¬(194≤c0.toNat∧c0.toNat≤223):=fun h h2=>by omega
  by_cases K0:c0.toNat<128
  ·simp[K0]
  by_cases m1:128≤c1.toNat∧c1.toNat≤191
  ·by_cases K1:194≤c0.toNat∧c0.toNat≤223
   ·simp only[if_neg K0,if_pos K1,if_pos m1,K1,m1,and_self,if_true];rfl
   ·by_cases K2:224≤c0.toNat∧c0.toNat≤239
    ·have K3: ¬(240≤c0.toNat∧c0.toNat≤244):=fun h=>x1 h K2
     by_cases k3:3≤n
     ·by_cases m2:128≤c2.toNat∧c2.toNat≤191
      ·by_cases y1:c0.toNat=224∧c1.toNat<160
       ·simp only[if_neg K0,if_neg K1,if_pos (And.intro K2 k3),if_pos m1,if_pos k3,Option.bind_some,if_pos m2,eq_true y1,if_true,false_and,K1,K3,eq_true y1,not_true_eq_false,and_false,if_false];rfl
       ·by_cases y2:c0.toNat=237∧159<c1.toNat
        ·simp only[if_neg K0,if_neg K1,if_pos (And.intro K2 k3),if_pos m1,if_pos k3,Option.bind_some,if_pos m2,if_neg y1,eq_true y2,if_true,false_and,K1,K3,eq_true y2,not_true_eq_false,and_false,if_false];rfl
        ·simp only[if_neg K0,if_neg K1,if_pos (And.intro K2 k3),if_pos m1,if_pos k3,Option.bind_some,if_pos m2,if_neg y1,if_neg y2,false_and,K1,K2,k3,m1,m2,y1,y2,not_false_eq_true,and_self,if_true,if_false];rfl
      ·simp only[if_neg K0,if_neg K1,if_pos (And.intro K2 k3),if_pos m1,if_pos k3,Option.bind_some,if_neg m2,if_neg K3,false_and,K1,K3,m2,and_false,if_false,Bool.false_eq_true];rfl
     ·simp only[if_neg K0,if_neg K1,k3,and_false,if_neg K3,false_and,K1,K3,if_false];rfl
    ·by_cases K3:240≤c0.toNat∧c0.toNat≤244
     ·by_cases k4:4≤n
      ·have k3:3≤n:=by omega
       by_cases m2:128≤c2.toNat∧c2.toNat≤191
       ·by_cases m3:128≤c3.toNat∧c3.toNat≤191
        ·by_cases y1:c0.toNat=240∧c1.toNat<144
         ·simp only[if_neg K0,if_neg K1,if_neg K2,K2,false_and,if_pos (And.intro K3 k4),if_pos m1,if_pos k3,if_pos k4,Option.bind_some,if_pos m2,if_pos m3,eq_true y1,if_true,K1,eq_true y1,not_true_eq_false,and_false,if_false];rfl
         ·by_cases y2:c0.toNat=244∧143<c1.toNat
          ·simp only[if_neg K0,if_neg K1,if_neg K2,K2,false_and,if_pos (And.intro K3 k4),if_pos m1,if_pos k3,if_pos k4,Option.bind_some,if_pos m2,if_pos m3,if_neg y1,eq_true y2,if_true,K1,eq_true y2,not_true_eq_false,and_false,if_false];rfl
          ·simp only[if_neg K0,if_neg K1,if_neg K2,K2,false_and,if_pos (And.intro K3 k4),if_pos m1,if_pos k3,if_pos k4,Option.bind_some,if_pos m2,if_pos m3,if_neg y1,if_neg y2,K1,K3,k4,m1,m2,m3,y1,y2,not_false_eq_true,and_self,if_true,if_false];rfl
        ·simp only[if_neg K0,if_neg K1,if_neg K2,K2,false_and,if_pos (And.intro K3 k4),if_pos m1,if_pos k3,if_pos k4,Option.bind_some,if_pos m2,if_neg m3,K1,m3,and_false,if_false,Bool.false_eq_true];rfl
       ·simp only[if_neg K0,if_neg K1,if_neg K2,K2,false_and,if_pos (And.intro K3 k4),if_pos m1,if_pos k3,Option.bind_some,if_neg m2,K1,m2,and_false,if_false,Bool.false_eq_true];rfl
      ·simp only[if_neg K0,if_neg K1,if_neg K2,K2,false_and,k4,and_false,K1,if_false];rfl
     ·simp only[if_neg K0,if_neg K1,if_neg K2,if_neg K3,K1,K2,K3,false_and,if_false];rfl
  ·simp[K0,m1]
 ·rw[if_neg h1]
  simp only[F.cX,F.cW,F.ct,F.bX,A.ba,decide_eq_true_eq]
  unfold widN
  have w0:(c0.toNat:Int)<128↔c0.toNat<128:=⟨fun h=>by omega,fun h=>by omega⟩
  by_cases h2:c0.toNat<128
  ·rw[if_pos (w0.2 h2),if_pos h2];rfl
  ·have a1: ¬((194≤c0.toNat∧c0.toNat≤223)∧2≤s.size-p∧128≤c1.toNat∧c1.toNat≤191):=fun h=>by omega
   have a2: ¬((224≤c0.toNat∧c0.toNat≤239)∧3≤s.size-p∧(128≤c1.toNat∧c1.toNat≤191)∧(128≤c2.toNat∧c2.toNat≤191)∧¬(c0.toNat=224∧c1.toNat<160)∧¬(c0.toNat=237∧159<c1.toNat)):=fun h=>by omega
   have a3: ¬((240≤c0.toNat∧c0.toNat≤244)∧4≤s.size-p∧(128≤c1.toNat∧c1.toNat≤191)∧(128≤c2.toNat∧c2.toNat≤191)∧(128≤c3.toNat∧c3.toNat≤191)∧¬(c0.toNat=240∧c1.toNat<144)∧¬(c0.toNat=244∧143<c1.toNat)):=fun h=>by omega
   rw[if_neg (fun h=>h2 (w0.1 h)),if_neg h2,if_neg a1,if_neg a2,if_neg a3]
   simp only[Bool.false_eq_true,if_false]
   rw[if_neg (fun h=>by omega),if_neg (fun h=>by omega),if_neg (fun h=>by omega)];rfl
def vld (s:ByteArray):Nat→Nat→Bool
 |0,_=>true
 |n+1,p=>if p<s.size then(if wid s p=0 then false else vld s n (p+wid s p))else true
def cnt (s:ByteArray):Nat→Nat→Nat
 |0,_=>0
 |n+1,p=>if p<s.size then 1+cnt s n (p+(Utf8.decode s p).2)else 0
theorem wid_4 (s:ByteArray)(p:Nat):wid s p≤4:=by
 rw[wid_N];unfold widN;repeat' split
 all_goals omega
theorem wid_dec {s:ByteArray}{p:Nat}(h:wid s p≠0):(Utf8.decode s p).2=wid s p:=by
 unfold wid at h ⊢;split at h
 ·exact absurd rfl h
 ·rename_i h2;rw[if_neg h2]
theorem Valid_eq (s:ByteArray)(hs:s.size≤5000):F.e1 s=some (vld s s.size 0):=by
 have loop: ∀(n p f:Nat),s.size-p≤n→n<f→p≤5010→F.cu s f (p:Int)=some (vld s n p):=by
  intro n
  induction n with
  |zero=>
   intro p f hp hf _
   obtain⟨f,rfl⟩: ∃f',f=f'+1:=⟨f-1,by omega⟩
   rw[F.cu,if_neg (by omega)];rfl
  |succ n ih=>
   intro p f hp hf hp5
   obtain⟨f,rfl⟩: ∃f',f=f'+1:=⟨f-1,by omega⟩
   rw[F.cu,vld]
   by_cases h:p<s.size
   ·rw[if_pos (by omega),if_pos h,width_eq s p h hs,Option.bind_some]
    have:=wid_le h
    by_cases hw:wid s p=0
    ·rw[if_pos (by omega),if_pos hw]
    ·rw[if_neg (by omega),if_neg hw,A.gd1 ⟨by omega,by omega⟩]
     have e:(p:Int)+(wid s p:Int)=((p+wid s p:Nat):Int):=by omega
     rw[e];exact ih _ f (by omega) (by omega) (by omega)
   ·rw[if_neg (by omega),if_neg h]
 exact loop s.size 0 A.FU (by omega) (by have:=FU_big;omega) (by omega)
theorem validD_eq (s:ByteArray):Lib.validD s.data.toList=vld s s.size 0:=by
 have loop: ∀(n p:Nat),Lib.validGoD n (s.data.toList.drop p)=vld s n p:=by
  intro n
  induction n with
  |zero=>intro p;rfl
  |succ n ih=>
   intro p
   rw[Lib.validGoD,vld]
   by_cases h:p<s.size
   ·have hne:s.data.toList.drop p≠[]:=by rw[drop_bat h];simp
    rw[if_neg hne,if_pos h,Lib.decodeL_drop,List.drop_drop]
    by_cases hw:Utf8.decode s p=(65533,1)
    ·rw[if_pos (by rw[hw];exact⟨rfl,rfl⟩),if_pos (by unfold wid;rw[if_pos hw])]
    ·have e:wid s p=(Utf8.decode s p).2:=by unfold wid;rw[if_neg hw]
     rw[if_neg (fun h2=>hw (Prod.ext h2.1 h2.2)),if_neg (by rw[e];have:=width_pos s p;omega),ih,e]
   ·rw[if_pos (drop_end h),if_neg h]
 have:=loop s.size 0
 rw[List.drop_zero]at this
 exact this
theorem Runes_eq (s:ByteArray)(hs:s.size≤5000)(hv:vld s s.size 0=true): ∃l,F.ff s=some l∧l.length=cnt s s.size 0:=by
 have loop: ∀(n p f:Nat) (xs:List (Int×Int)),s.size-p≤n→n<f→xs.length≤p→p≤5010→vld s n p=true→∃l,F.aD s f xs (p:Int)=some l∧l.length=xs.length+cnt s n p:=by
  intro n
  induction n with
  |zero=>
   intro p f xs hp hf _ _ _
   obtain⟨f,rfl⟩: ∃f',f=f'+1:=⟨f-1,by omega⟩
   rw[F.aD,if_neg (by omega)];exact⟨_,rfl,rfl⟩
  |succ n ih=>
   intro p f xs hp hf hxs hp5 hv
   obtain⟨f,rfl⟩: ∃f',f=f'+1:=⟨f-1,by omega⟩
   rw[F.aD]
   rw[vld]at hv
   rw[cnt]
   by_cases h:p<s.size
   ·rw[if_pos h]at hv
    have hl:=wid_le h
    have h4:=wid_4 s p
    by_cases hw:wid s p=0
    ·rw[if_pos hw]at hv;cases hv
    rw[if_neg hw]at hv
    have hj: ∀(w c:Int),w=(wid s p:Int)→∃l,F.bx (F.aD s f) xs (p:Int) w c=some l∧l.length=xs.length+(1+cnt s n (p+(Utf8.decode s p).2)):=fun w c hwc=>by
     subst hwc
     rw[F.bx,A.gd1 (by simp only[List.length_cons,List.length_nil];omega),A.gd1 ⟨by omega,by omega⟩,wid_dec hw]
     have e:(p:Int)+(wid s p:Int)=((p+wid s p:Nat):Int):=by omega
     rw[e]
     obtain⟨l,h1,h2⟩:=ih (p+wid s p) f (xs++[((p:Int),c)]) (by omega) (by omega) (by simp only[List.length_append,List.length_cons,List.length_nil];omega) (by omega) hv
     exact⟨l,h1,by rw[h2,List.length_append];simp only[List.length_cons,List.length_nil];omega⟩
    have i0:=ixb (s:=s) h
    have i1:A.ix s.data.toList ((p:Int)+1)=if p+1<s.size then some (Z.bat s (p+1))else none:=ixk s p 1
    have i2:A.ix s.data.toList ((p:Int)+2)=if p+2<s.size then some (Z.bat s (p+2))else none:=ixk s p 2
    have i3:A.ix s.data.toList ((p:Int)+3)=if p+3<s.size then some (Z.bat s (p+3))else none:=ixk s p 3
    have r1:Z.R64 ((p:Int)+1):=⟨by omega,by omega⟩
    have r2:Z.R64 ((p:Int)+2):=⟨by omega,by omega⟩
    have r3:Z.R64 ((p:Int)+3):=⟨by omega,by omega⟩
    rw[if_pos (by omega),if_pos h,width_eq s p h hs,Option.bind_some]
    by_cases w1:wid s p=1
    ·rw[if_pos (by omega),i0,Option.bind_some];exact hj _ _ rfl
    rw[if_neg (by omega)]
    by_cases w2:wid s p=2
    ·rw[if_pos (by omega),A.gd1 r1,i0,Option.bind_some,A.gd1 (by decide),i1,if_pos (by omega),Option.bind_some,A.gd1 (by decide)];exact hj _ _ rfl
    rw[if_neg (by omega)]
    by_cases w3:wid s p=3
    ·rw[if_pos (by omega),A.gd1 ⟨r1,r2⟩,i0,Option.bind_some,A.gd1 (by decide),i1,if_pos (by omega),Option.bind_some,A.gd1 (by decide),i2,if_pos (by omega),Option.bind_some,A.gd1 (by decide)];exact hj _ _ rfl
    rw[if_neg (by omega),if_pos (by omega),A.gd1 ⟨r1,r2,r3⟩,i0,Option.bind_some,A.gd1 (by decide),i1,if_pos (by omega),Option.bind_some,A.gd1 (by decide),i2,if_pos (by omega),Option.bind_some,A.gd1 (by decide),i3,if_pos (by omega),Option.bind_some,A.gd1 (by decide)];exact hj _ _ rfl
   ·rw[if_neg (by omega),if_neg h];exact⟨_,rfl,rfl⟩
 obtain⟨l,h1,h2⟩:=loop s.size 0 A.FU [] (by omega) (by have:=FU_big;omega) (by simp) (by omega) hv
 exact⟨l,h1,by simpa using h2⟩
theorem single_eq (s:ByteArray)(hs:s.size≤5000):F.eY s=some (if cnt s s.size 0=1 then vld s s.size 0 else false):=by
 have loop: ∀(n p f:Nat) (y:Int),s.size-p≤n→n<f→0≤y→y+n≤10000→F.co s f p y=some (if y+(cnt s n p:Int)=1 then vld s s.size 0 else false):=by
  intro n
  induction n with
  |zero=>
   intro p f y hp hf _ _
   obtain⟨f,rfl⟩: ∃f',f=f'+1:=⟨f-1,by omega⟩
   rw[F.co,if_neg (by omega),F.bO,validD_eq,Option.bind_some]
   simp only[F.cS]
   have e:y+(cnt s 0 p:Int)=y:=by rw[cnt];omega
   by_cases h:y=1
   ·rw[if_pos h,if_pos (by omega)]
   ·rw[if_neg h,if_neg (by omega)]
  |succ n ih=>
   intro p f y hp hf h0 h2
   obtain⟨f,rfl⟩: ∃f',f=f'+1:=⟨f-1,by omega⟩
   rw[F.co,cnt]
   by_cases h:p<s.size
   ·rw[if_pos h,if_pos h,A.gd1 ⟨by omega,by omega⟩]
    have hw:=width_pos s p
    rw[ih _ f (y+1) (by omega) (by omega) (by omega) (by omega)]
    congr 2
    exact propext ⟨fun h=>by omega,fun h=>by omega⟩
   ·rw[if_neg h,if_neg h,F.bO,validD_eq,Option.bind_some]
    simp only[F.cS]
    by_cases h:y=1
    ·rw[if_pos h,if_pos (by omega)]
    ·rw[if_neg h,if_neg (by omega)]
 unfold F.eY
 rw[loop s.size 0 A.FU 0 (by omega) (by have:=FU_big;omega) (by omega) (by omega)]
 congr 2
 exact propext ⟨fun h=>by omega,fun h=>by omega⟩
theorem one_small {s:ByteArray}(h1:cnt s s.size 0=1)(h2:vld s s.size 0=true):s.size≤4:=by
 generalize hn:s.size=n at h1 h2
 cases n with
 |zero=>omega
 |succ n=>
  rw[cnt,if_pos (by omega)]at h1
  rw[vld,if_pos (by omega)]at h2
  by_cases hw:wid s 0=0
  ·rw[if_pos hw]at h2;cases h2
  rw[wid_dec hw]at h1
  have:=wid_4 s 0
  cases n with
  |zero=>omega
  |succ n=>
   rw[cnt]at h1
   by_cases h3:0+wid s 0<s.size
   ·rw[if_pos h3]at h1;omega
   ·omega
def textP (f:Fun):Bool:=if f.1=5 then decide (f.2.2≠ByteArray.mk #[])&&decide ((f.2.2.size:Int)≤16)&&vld f.2.2 f.2.2.size 0 else if f.1=12∨f.1=22 then decide (cnt f.2.2 f.2.2.size 0=1)&&vld f.2.2 f.2.2.size 0 else decide (f.2.2=ByteArray.mk #[])
theorem number_eq (f:Fun):F.eX f=some (numberF f):=by
 unfold F.eX F.dG F.dF numberF
 simp only[A.ba,decide_eq_true_eq]
 by_cases h3:f.1=3
 ·simp[h3]
 ·by_cases h13:f.1=13
  ·simp[h13]
  ·by_cases h6:f.1=6
   ·simp[h6]
   ·by_cases h11:f.1=11<;>simp[h3,h13,h6,h11]
theorem R06_number_eq (f:Fun):F.e6 f=some (numberF f):=number_eq f
theorem text_eq (f:Fun)(hs:f.2.2.size≤5000):F.fi f=some (textP f):=by
 unfold F.fi textP
 simp only[F.eC,F.eD,A.ba,single_eq _ hs,F.bO,validD_eq,Option.bind_some,decide_eq_true_eq]
 by_cases h5:f.1=5
 ·simp only[h5,if_true]
  by_cases h1:f.2.2=ByteArray.mk #[]<;>by_cases h2:(f.2.2.size:Int)≤16<;>simp[h1,h2]
 ·by_cases h12:f.1=12
  ·simp[h12]
  ·by_cases h22:f.1=22<;>simp[h5,h12,h22]
theorem one_le {s:ByteArray}:(1:Int)≤(s.size:Int)↔s≠ByteArray.mk #[]:=by
 constructor
 ·intro h e;subst e;exact absurd h (by decide)
 ·intro h;have:=size_pos h;omega
theorem R06_text_eq (f:Fun)(hs:f.2.2.size≤5000):F.fa f=some (textP f):=by
 have hj: ∀y,F.dz f y=some (if y=true then decide (cnt f.2.2 f.2.2.size 0=1)&&vld f.2.2 f.2.2.size 0 else decide (f.2.2=ByteArray.mk #[])):=by
  intro y
  unfold F.dz
  simp only[F.dy,Valid_eq _ hs,Option.bind_some]
  cases y with
  |false=>simp
  |true=>
   simp only[if_true]
   by_cases h4:(f.2.2.size:Int)≤4
   ·rw[if_pos h4]
    cases hv:vld f.2.2 f.2.2.size 0 with
    |true=>
     obtain⟨l,h1,h2⟩:=Runes_eq f.2.2 hs hv
     rw[if_pos rfl,h1,Option.bind_some,Bool.and_true]
     congr 2
     rw[h2];exact propext ⟨fun h=>by omega,fun h=>by omega⟩
    |false=>simp
   ·rw[if_neg h4]
    congr 1
    cases hv:vld f.2.2 f.2.2.size 0 with
    |false=>simp
    |true=>
     by_cases h1:cnt f.2.2 f.2.2.size 0=1
     ·have:=one_small h1 hv;omega
     ·simp[h1]
 unfold F.fa textP
 simp only[F.ed,hj,A.ba,Valid_eq _ hs,Option.bind_some,decide_eq_true_eq,one_le]
 by_cases h5:f.1=5
 ·simp only[h5,if_true]
  by_cases h1:f.2.2=ByteArray.mk #[]<;>by_cases h2:(f.2.2.size:Int)≤16<;>simp[h1,h2]
 ·by_cases h12:f.1=12
  ·simp[h12]
  ·by_cases h22:f.1=22<;>simp[h5,h12,h22]
def anyF (f:Fun)(l:List Int):Int:=if l.any (fun y=>decide (y=f.1)&&(numberF f&&textP f))=true then 0 else 60
def kinds (k:Int):List Int:=if k=2 then [1,2,3,4,5,6,7,8]else if k=3 then [11,12,13]else if k=4 then [21,22]else if k=8 then [31,32,33,34]else if k=11 then [41,42]else []
def chk (k:Int)(f:Fun):Int:=if kinds k=[]then(if f=(0,0,ByteArray.mk #[])then 0 else 60)else anyF f (kinds k)
theorem chk_l (f:Fun)(hs:f.2.2.size≤5000): ∀l,F.bo f l=some (anyF f l)
 | []=>rfl
 |y::l=>by
  have ih:=chk_l f hs l
  unfold F.bo
  simp only[F.dt,number_eq,text_eq _ hs,Option.bind_some,ih,anyF,List.any_cons]
  by_cases h:y=f.1
  ·subst h
   cases hn:numberF f<;>cases ht:textP f<;>simp
  ·simp[h]
theorem fn_Check_eq (k:Int)(f:Fun)(hs:f.2.2.size≤5000):F.eL k f=some (chk k f):=by
 have u2:F.bW 1 8=some [1,2,3,4,5,6,7,8]:=by kernel_rfl
 have u3:F.bW 11 13=some [11,12,13]:=by kernel_rfl
 have u4:F.bW 21 22=some [21,22]:=by kernel_rfl
 have u8:F.bW 31 34=some [31,32,33,34]:=by kernel_rfl
 have u11:F.bW 41 42=some [41,42]:=by kernel_rfl
 unfold F.eL F.fp F.fh chk kinds
 by_cases h2:k=2
 ·simp[h2,u2,chk_l f hs]
 ·by_cases h3:k=3
  ·simp[h3,u3,chk_l f hs]
  ·by_cases h4:k=4
   ·simp[h4,u4,chk_l f hs]
   ·by_cases h8:k=8
    ·simp[h8,u8,chk_l f hs]
    ·by_cases h11:k=11
     ·simp[h11,u11,chk_l f hs]
     ·simp only[h2,h3,h4,h8,h11,if_false,Option.bind_some]
      rw[if_pos (by decide),if_pos trivial]
      by_cases hz:f=(0,0,ByteArray.mk #[])
      ·rw[if_neg (fun h=>h hz),if_pos hz]
      ·rw[if_pos hz,if_neg hz]
theorem R06_l (f:Fun)(hs:f.2.2.size≤5000)(l:List Int)(hl:l.length≤100):F.aX f l A.FU 0=some (anyF f l):=
 A.lp0 l (fun n y=>F.aX f l n y) (fun _ t=>some (anyF f t))
  (fun n=>by rw[F.aX,if_neg (by omega)];rfl)
  (fun n k x hx hk ih=>by
   rw[F.aX,if_pos (by omega),A.ixn hx,Option.bind_some]
   simp only[F.cY,R06_number_eq,R06_text_eq _ hs,Option.bind_some,ih,A.gd1 (A.r64n (n:=k) (by omega)),anyF,List.any_cons]
   by_cases h:x=f.1
   ·subst h
    cases hn:numberF f<;>cases ht:textP f<;>simp
   ·simp[h])
  (by have:=FU_big;omega)
theorem R06_Check_eq (k:Int)(f:Fun)(hs:f.2.2.size≤5000):F.ev k f=some (chk k f):=by
 have u2:F.cK 2=some [1,2,3,4,5,6,7,8]:=by kernel_rfl
 have u3:F.cK 3=some [11,12,13]:=by kernel_rfl
 have u4:F.cK 4=some [21,22]:=by kernel_rfl
 have u8:F.cK 8=some [31,32,33,34]:=by kernel_rfl
 have u11:F.cK 11=some [41,42]:=by kernel_rfl
 have u0:F.bU 1 0=some []:=by kernel_rfl
 unfold F.ev chk kinds
 by_cases h2:k=2
 ·subst h2;rw[u2,Option.bind_some,if_neg (by simp),F.a8,if_neg (by simp),R06_l f hs _ (by simp)];simp
 ·by_cases h3:k=3
  ·subst h3;rw[u3,Option.bind_some,if_neg (by simp),F.a8,if_neg (by simp),R06_l f hs _ (by simp)];simp
  ·by_cases h4:k=4
   ·subst h4;rw[u4,Option.bind_some,if_neg (by simp),F.a8,if_neg (by simp),R06_l f hs _ (by simp)];simp
   ·by_cases h8:k=8
    ·subst h8;rw[u8,Option.bind_some,if_neg (by simp),F.a8,if_neg (by simp),R06_l f hs _ (by simp)];simp
    ·by_cases h11:k=11
     ·subst h11;rw[u11,Option.bind_some,if_neg (by simp),F.a8,if_neg (by simp),R06_l f hs _ (by simp)];simp
     ·have u:F.cK k=some []:=by unfold F.cK;simp only[h2,h3,h4,h8,h11,if_false,u0]
      rw[u,Option.bind_some,if_pos (by simp),F.a8,R06_l f hs _ (by simp)]
      simp only[h2,h3,h4,h8,h11,if_false,if_true,decide_eq_true_eq,anyF,List.any_nil,Bool.false_eq_true]
      by_cases hz:f=(0,0,ByteArray.mk #[])
      ·rw[if_pos hz,if_pos hz]
      ·rw[if_neg hz,if_neg hz]
def mapOf (g:List Nd):List (Int×Nd):=g.map fun n=>(n.1,n)
def Inc (g:List Nd):Prop:=g.Pairwise fun a b=>a.1<b.1
theorem idxF_cases (z:Nd)(id:Int): ∀(k:Nat) (l:List Nd),(idxF id k l= -1∧(∀n∈l,n.1≠id)∧Z.mget z (mapOf l) id=z∧Z.mhas (mapOf l) id=false)∨(∃j n,idxF id k l=((k+j:Nat):Int)∧l[j]?=some n∧n.1=id∧Z.mget z (mapOf l) id=n∧Z.mhas (mapOf l) id=true)
 |k,[]=>.inl ⟨rfl,by simp,rfl,rfl⟩
 |k,x::r=>by
  unfold idxF mapOf
  simp only[List.map_cons,Z.mget,Z.mhas]
  by_cases h:x.1=id
  ·rw[if_pos h,if_pos h.symm,if_pos h.symm]
   exact .inr ⟨0,x,rfl,rfl,h,rfl,rfl⟩
  ·rw[if_neg h,if_neg (fun e=>h e.symm),if_neg (fun e=>h e.symm)]
   rcases idxF_cases z id (k+1) r with⟨h1,h2,h3,h4⟩|⟨j,n,h1,h2,h3,h4,h5⟩
   ·refine .inl ⟨h1,fun n hn=>?_,h3,h4⟩
    rcases List.mem_cons.1 hn with rfl|hn
    ·exact h
    ·exact h2 n hn
   ·exact .inr ⟨j+1,n,by rw[h1];congr 1;omega,h2,h3,h4,h5⟩
theorem idx_cases (z:Nd)(g:List Nd)(id:Int):(idx g id= -1∧(∀n∈g,n.1≠id)∧Z.mget z (mapOf g) id=z∧Z.mhas (mapOf g) id=false)∨(∃(j:Nat) (n:Nd),idx g id=(j:Int)∧g[j]?=some n∧n.1=id∧Z.mget z (mapOf g) id=n∧Z.mhas (mapOf g) id=true):=by
 have:=idxF_cases z id 0 g
 simp only[Nat.zero_add]at this
 exact this
theorem Inc.lt {g:List Nd}(h:Inc g){i j:Nat}{a b:Nd}(hi:g[i]?=some a)(hj:g[j]?=some b)(hij:i<j):a.1<b.1:=by
 obtain⟨h1,rfl⟩:=List.getElem?_eq_some_iff.1 hi
 obtain⟨h2,rfl⟩:=List.getElem?_eq_some_iff.1 hj
 exact List.pairwise_iff_getElem.1 h i j h1 h2 hij
theorem Inc.inj {g:List Nd}(h:Inc g){i j:Nat}{a b:Nd}(hi:g[i]?=some a)(hj:g[j]?=some b)(e:a.1=b.1):i=j:=by
 rcases Nat.lt_trichotomy i j with h1|h1|h1
 ·have:=h.lt hi hj h1;omega
 ·exact h1
 ·have:=h.lt hj hi h1;omega
theorem Inc.idx {g:List Nd}(h:Inc g){j:Nat}{n:Nd}(hj:g[j]?=some n):Graph.idx g n.1=(j:Int):=by
 rcases idx_cases z0 g n.1 with⟨_,h2,_⟩|⟨i,m,h1,h2,h3,_⟩
 ·exact absurd rfl (h2 n (List.mem_of_getElem? hj))
 ·rw[h1,h.inj h2 hj h3]
theorem Inc.mget {g:List Nd}(h:Inc g){j:Nat}{n z:Nd}(hj:g[j]?=some n):Z.mget z (mapOf g) n.1=n:=by
 rcases idx_cases z g n.1 with⟨_,h2,_⟩|⟨i,m,h1,h2,h3,h4,_⟩
 ·exact absurd rfl (h2 n (List.mem_of_getElem? hj))
 ·have:=h.inj h2 hj h3
  subst this
  rw[h2]at hj;injection hj with hj;rw[h4,hj]
theorem index_eq (g:List Nd)(id:Int)(hg:g.length≤100):F.cG g id=some (idx g id):=
 A.lp0 g (fun f y=>F.cv g id f y) (fun k l=>some (idxF id k l))
  (fun f=>by rw[F.cv,if_neg (by omega)];rfl)
  (fun f k x hx hk ih=>by
   rw[F.cv,if_pos (by omega),A.ixn hx,Option.bind_some,idxF]
   by_cases h:x.1=id
   ·rw[if_pos h,if_pos h]
   ·rw[if_neg h,if_neg h,A.gd1 (A.r64n (by omega)),ih])
  (by have:=FU_big;omega)
def ownQ (n:Nd):Bool:=if n.1<1∨255<n.1∨insK n.2.1<0∨(n.2.2.1.length:Int)≠insK n.2.1 then false else if ownC n then false else if n.2.1=1∨n.2.1=15 then named n.2.2.2.2.1 else decide (n.2.2.2.2.1=ByteArray.mk #[])
theorem outside_eq (k:Int):F.bd k=some (decide (k=1∨k=15)):=by
 unfold F.bd;rw[A.bo]
theorem gIns_eq (k:Int):F.ep k=some (insK k):=(Ins_eq k).trans (R08_Ins_eq k)
theorem own_eq (n:Nd)(hs:n.2.2.2.2.1.size≤5000):F.eq n=some (ownQ n):=by
 have hj: ∀y,F.cR n y=some (if y=true then false else if ownC n then false else if n.2.1=1∨n.2.1=15 then named n.2.2.2.2.1 else decide (n.2.2.2.2.1=ByteArray.mk #[])):=by
  intro y
  unfold F.cR F.cQ ownC
  cases y with
  |true=>simp
  |false=>
   simp only[Bool.false_eq_true,if_false,A.bo,decide_eq_true_eq,outside_eq,Option.bind_some,named_eq _ hs,A.bn]
   by_cases h14:n.2.1=14
   ·simp only[h14,if_true,true_and,not_true_eq_false,ne_eq,false_and,or_false,if_false]
    by_cases hc:n.2.2.2.2.2.1<1∨8<n.2.2.2.2.2.1∨n.2.2.2.2.2.2<1∨4<n.2.2.2.2.2.2
    ·have hc':((n.2.2.2.2.2.1<1∨8<n.2.2.2.2.2.1)∨n.2.2.2.2.2.2<1)∨4<n.2.2.2.2.2.2:=by omega
     rw[if_pos hc',if_pos hc]
    ·have hc': ¬(((n.2.2.2.2.2.1<1∨8<n.2.2.2.2.2.1)∨n.2.2.2.2.2.2<1)∨4<n.2.2.2.2.2.2):=by omega
     rw[if_neg hc',if_neg hc]
     simp
   ·simp only[h14,if_false,false_and,not_false_eq_true,ne_eq,true_and,false_or,if_true]
    by_cases hc: ¬n.2.2.2.2.2.1=0∨¬n.2.2.2.2.2.2=0
    ·rw[if_pos hc,if_pos hc]
    ·rw[if_neg hc,if_neg hc]
     by_cases ho:n.2.1=1∨n.2.1=15
     ·rw[if_pos ho,if_pos ho]
     ·rw[if_neg ho,if_neg ho]
 unfold F.eq ownQ
 simp only[gIns_eq,Option.bind_some,hj,A.bo,decide_eq_true_eq,F.cQ]
 by_cases h1:n.1<1∨255<n.1
 ·rw[if_pos h1,if_pos (by omega)]
 ·rw[if_neg h1]
  by_cases h2:insK n.2.1<0
  ·rw[if_pos h2,if_pos trivial,if_pos (by omega)]
  ·rw[if_neg h2]
   by_cases h3:(n.2.2.1.length:Int)≠insK n.2.1
   ·rw[if_pos h3,if_pos (by omega)]
   ·have hb: ¬(n.1<1∨255<n.1∨insK n.2.1<0∨(n.2.2.1.length:Int)≠insK n.2.1):=by omega
    rw[if_neg h3,if_neg hb]
def twiceF (l:List Nd)(n:Nd):Bool:=l.any fun x=>decide (x.2.1=n.2.1)&&decide (x.2.2.2.2.1=n.2.2.2.2.1)
theorem twice_eq (l:List Nd)(n:Nd)(hl:l.length≤100):F.g l n=some (twiceF l n):=by
 have loop:F.a l n A.FU 0=some (if twiceF l n=true then(0:Int)else-1)∨∃i:Nat,F.a l n A.FU 0=some (i:Int)∧twiceF l n=true:=by
  have key: ∀(m k f:Nat),k+m=l.length→m<f→(twiceF (l.drop k) n=true∧∃i:Nat,F.a l n f (k:Int)=some (i:Int))∨(twiceF (l.drop k) n=false∧F.a l n f (k:Int)=some (-1)):=by
   intro m
   induction m with
   |zero=>
    intro k f hk hf
    obtain⟨f,rfl⟩: ∃f',f=f'+1:=⟨f-1,by omega⟩
    rw[F.a,if_neg (by omega),List.drop_eq_nil_of_le (by omega)]
    exact .inr ⟨rfl,rfl⟩
   |succ m ih=>
    intro k f hk hf
    obtain⟨f,rfl⟩: ∃f',f=f'+1:=⟨f-1,by omega⟩
    have hx:l[k]?=some l[k]:=List.getElem?_eq_getElem (by omega)
    generalize l[k]=x at hx
    rw[F.a,if_pos (by omega),A.ixn hx,Option.bind_some,F.ek,Option.bind_some,A.ba,A.dropx hx]
    by_cases h:x.2.1=n.2.1∧x.2.2.2.2.1=n.2.2.2.2.1
    ·left
     exact⟨by simp[twiceF,h.1,h.2],k,by rw[if_pos (by simpa using h)]⟩
    ·rw[if_neg (by simpa using h),A.gd1 (A.r64n (by omega))]
     have e:twiceF (x::l.drop (k+1)) n=twiceF (l.drop (k+1)) n:=by
      simp only[twiceF,List.any_cons]
      rw[←Bool.decide_and,decide_eq_false h,Bool.false_or]
     rw[e]
     exact ih (k+1) f (by omega) (by omega)
  rcases key l.length 0 A.FU (by omega) (by have:=FU_big;omega)with⟨h1,i,h2⟩|⟨h1,h2⟩
  ·rw[List.drop_zero]at h1;exact .inr ⟨i,h2,h1⟩
  ·rw[List.drop_zero]at h1;left;rw[h1];exact h2
 unfold F.g F.x
 rcases loop with h|⟨i,h,h2⟩
 ·rw[show F.a l n A.FU 0=_ from h,Option.bind_some]
  cases twiceF l n<;>simp
 ·rw[show F.a l n A.FU 0=_ from h,Option.bind_some,h2]
  simp
end Go.Proofs.YtocfaokgoflmhaaGreatDoor
end
