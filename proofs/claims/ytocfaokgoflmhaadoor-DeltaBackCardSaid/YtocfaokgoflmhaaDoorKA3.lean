/- Functions on data, and that the code computes them. * Functions on data that only the plain law names: what the reference would answer. * A layer over the small logic, continued: where a law's walk begins. No program in sight. -/
import Derived.Test.YtocfaokgoflmhaaDoorKA0
import Derived.Test.YtocfaokgoflmhaaDoorKA1
import Derived.Test.YtocfaokgoflmhaaDoorKA2
section
set_option linter.unusedVariables false
set_option linter.unusedSimpArgs false
set_option maxRecDepth 20000
set_option maxHeartbeats 8000000
set_option synthInstance.maxSize 1000000
set_option synthInstance.maxHeartbeats 400000
namespace Go.Proofs.YtocfaokgoflmhaaDoor
open Go.RowKit
def F.delta_puts_j1 (k1:Int→Option Bool)(y2:Int)(y19:Bool):Option Bool:=if y19=true then(some false)else(A.gd (Z.R64 (y2+1)) (k1 (y2+1)))
def F.delta_puts_l2 (a0:(List (Int×D42)))(a1:D27):Nat→Int→Option Bool
 |0,_=>none
 |f+1,y2=>if y2<((a1.2.1).length:Int)then((A.ix a1.2.1 y2).bind fun x5=>(A.lt (Z.mget ((0,0,[],(0,0,(ByteArray.mk #[])),(ByteArray.mk #[]),0,0):D42) a0 x5.1) fun x13=>(if x5.2.1=1 then(F.delta_puts_j1 (F.delta_puts_l2 a0 a1 f) y2 true)else(if(bif Z.mhas a0 x5.1 then decide (x13.2.1=1)else false)=true then(F.delta_puts_j1 (F.delta_puts_l2 a0 a1 f) y2 true)else((F.slices_Contains_int_int a1.1 x5.1).bind fun r21=>(F.delta_puts_j1 (F.delta_puts_l2 a0 a1 f) y2 r21))))))else((F.delta_ids a1.2.1).bind fun r23=>((F.delta_rising r23).bind fun r27=>(some r27)))
def F.delta_puts (a0:(List (Int×D42)))(a1:D27):Option Bool:=F.delta_puts_l2 a0 a1 A.FU 0
theorem delta_puts_ok (a0:(List (Int×D42)))(a1:D27)(b0_:Nat)(A1_:Option Addr)(c2_:Nat)(A3_:Option Addr)(c4_:Nat)(A5_:Option Addr)(c6_:Nat)(r:Bool)(hF:F.delta_puts a0 a1=some r):
    A.Ct Tryd.prog 35 [.map (some b0_),.agg #[.slice A1_ ((a1.1).length) c2_,.slice A3_ ((a1.2.1).length) c4_,.slice A5_ ((a1.2.2).length) c6_]] [(0,.lmp Int (fun i:Int=>.int .i64 i) T42 true b0_ a0),(1,.sh (.slice (Z.Ty.int .i64)) [.slice A1_ (a1.1).length c2_] a1.1),(2,.sh (.slice T42) [.slice A3_ (a1.2.1).length c4_] a1.2.1),(3,.sh (.slice T83) [.slice A5_ (a1.2.2).length c6_] a1.2.2)] [] (fun v H'=>v=.bool r∧H'=[]):=by
 refine A.Ct.enter Tryd.func35 rfl Tryd.ntmps35 rfl fun w0 F0=>?_
 rw[F.delta_puts]at hF
 refine A.xl 1 ?_
 refine A.AL.box 4 (cs:=[.slice A1_ ((a1.1).length) c2_,.slice A3_ ((a1.2.1).length) c4_,.slice A5_ ((a1.2.2).length) c6_]) fun g1=>?_
 refine A.q0 [] [] [.n] [] ?_
 refine A.dl 3 ?_
 refine A.q0 [4] [] [.n,.b 0 1,.n,.n] [(10,.slice A3_ ((a1.2.1).length) c4_),(11,.int .i64 ((a1.2.1).length:Int)),(12,.int .i64 0)] ?_
 refine A.dx 2 ?_
 refine A.lp_ [0,3,10,11] [0,1,2,3,4] (fun f nl nh=>∃(y2:Int),nl=[(12,.int .i64 y2)]∧nh=[]∧IntKind.i64.has y2∧F.delta_puts_l2 a0 a1 f y2=some r) ⟨0,rfl,rfl,(A.hasl .i64 (0) rfl),hF⟩ ?_
 rintro f4 _ _ ⟨y2,rfl,rfl,hy3,hF⟩
 rcases f4 with _|f4
 ·exact A.no0 hF
 rw[F.delta_puts_l2]at hF
 refine A.xl 1 ?_
 refine A.q0 [] [] [.n] [(13,.bool (decide (y2<((a1.2.1).length:Int))))] ?_
 refine A.dx 2 ?_
 refine A.AX.cnd rfl hF (fun hb hF=>?_) (fun hb hF=>?_)
 ·refine A.xl 5 ?_
  obtain⟨x5,hv6,hF⟩:=A.bd_some hF
  refine A.AL.ixs 2 255 hv6 fun ho7=>?_
  intro A8 c9 b10 o11
  refine A.q0 [] [255] [.e 0 0] [(15,.agg #[.int .i64 x5.1,.int .i64 x5.2.1,.slice A8 ((x5.2.2.1).length) c9,.int .i64 x5.2.2.2.1.1,.int .i64 x5.2.2.2.1.2.1,.string x5.2.2.2.1.2.2,.string x5.2.2.2.2.1,.int .i64 x5.2.2.2.2.2.1,.int .i64 x5.2.2.2.2.2.2])] ?_
  refine A.AL.alloc 257 (cs:=[.int .i64 0,.int .i64 0,.slice none 0 0,.int .i64 0,.int .i64 0,.string (ByteArray.mk #[]),.string (ByteArray.mk #[]),.int .i64 0,.int .i64 0]) Tryd.zeroValue43 fun g12=>?_
  refine A.sw 257 [] [.int .i64 x5.1,.int .i64 x5.2.1,.slice A8 ((x5.2.2.1).length) c9,.int .i64 x5.2.2.2.1.1,.int .i64 x5.2.2.2.1.2.1,.string x5.2.2.2.1.2.2,.string x5.2.2.2.2.1,.int .i64 x5.2.2.2.2.2.1,.int .i64 x5.2.2.2.2.2.2] ?_
  refine A.dl 2 ?_
  refine A.q0 [257] [] [.n,.n,.b 0 0] [(17,.map (some b0_)),(19,.int .i64 x5.1)] ?_
  obtain⟨x13,hv14,hF⟩:=A.lt_some hF
  refine A.AL.lk2 (t:=T42) 0 258 (z:=((0,0,[],(0,0,(ByteArray.mk #[])),(ByteArray.mk #[]),0,0):D42)) (zs:=[.int .i64 0,.int .i64 0,.slice none 0 0,.int .i64 0,.int .i64 0,.string (ByteArray.mk #[]),.string (ByteArray.mk #[]),.int .i64 0,.int .i64 0]) ky3 x5.1 Tryd.zeroValue43 ⟨⟨rfl,by decide⟩,⟨rfl,by decide⟩,(.inr ⟨rfl,rfl⟩),⟨⟨rfl,by decide⟩,⟨rfl,by decide⟩,⟨rfl,by decide⟩⟩,⟨rfl,by decide⟩,⟨rfl,by decide⟩,⟨rfl,by decide⟩⟩ hv14 fun ho15=>?_
  intro A16 c17
  refine A.q0 [] [] [.n,.n,.n] [(21,.agg #[.int .i64 x13.1,.int .i64 x13.2.1,.slice A16 ((x13.2.2.1).length) c17,.int .i64 x13.2.2.2.1.1,.int .i64 x13.2.2.2.1.2.1,.string x13.2.2.2.1.2.2,.string x13.2.2.2.2.1,.int .i64 x13.2.2.2.2.2.1,.int .i64 x13.2.2.2.2.2.2]),(22,.bool (Z.mhas a0 x5.1))] ?_
  refine A.AL.alloc 259 (cs:=[.int .i64 0,.int .i64 0,.slice none 0 0,.int .i64 0,.int .i64 0,.string (ByteArray.mk #[]),.string (ByteArray.mk #[]),.int .i64 0,.int .i64 0]) Tryd.zeroValue43 fun g18=>?_
  refine A.sw 259 [] [.int .i64 x13.1,.int .i64 x13.2.1,.slice A16 ((x13.2.2.1).length) c17,.int .i64 x13.2.2.2.1.1,.int .i64 x13.2.2.2.1.2.1,.string x13.2.2.2.1.2.2,.string x13.2.2.2.2.1,.int .i64 x13.2.2.2.2.2.1,.int .i64 x13.2.2.2.2.2.2] ?_
  refine A.q0 [] [] [.n] [(8,.bool (Z.mhas a0 x5.1))] ?_
  refine A.dx 1 ?_
  refine A.AX.join [0,3,10,11,12] [0,1,2,3,4] (fun nl nh=>∃(y19:Bool),nl=[(40,.bool y19)]∧nh=[]∧F.delta_puts_j1 (F.delta_puts_l2 a0 a1 f4) y2 y19=some r) ?_ ?_
  ·refine A.xl 0 ?_
   refine A.q0 [257] [] [.n,.b 0 1,.n,.n] [(26,.bool (decide (x5.2.1=1)))] ?_
   refine A.AL.cnp (j:=26) rfl hF (fun hb hF=>?_) (fun hb hF=>?_)
   ·refine A.q0 [] [] [.off,.off,.off,.off,.off,.off,.n,.n,.off,.off,.off,.off,.off,.n] [(40,.bool true)] ?_
    refine A.AL.done ?_
    exact A.j ⟨true,rfl,rfl,hF⟩
   refine A.q0 [259] [] [.on .n,.on .n,.sy .n,.sy (.b 0 1),.sy .n,.on .pk,.n,.n] [(34,.bool (bif Z.mhas a0 x5.1 then decide (x13.2.1=1)else false))] ?_
   refine A.AL.cnd (j:=34) rfl hF (fun hF=>?_) (fun hF=>?_)
   ·refine A.q0 [] [] [.off,.off,.off,.off,.off,.n] [(40,.bool true)] ?_
    refine A.AL.done ?_
    exact A.j ⟨true,rfl,rfl,hF⟩
   refine A.q0 [4,257] [] [.on .n,.on (.b 0 0),.on .n,.on (.b 1 0)] [(36,.slice A1_ ((a1.1).length) c2_),(38,.int .i64 x5.1)] ?_
   refine A.AL.on (dj:=34) rfl rfl ?_
   obtain⟨r21,hv22,hF⟩:=A.bd_some hF
   refine A.AL.call 260 [] (first:=[]) (cap:=[]) cf49 (slices_Contains_int_int_ok a1.1 x5.1 A1_ c2_ ho7.1 r21 hv22) (.l 1 .nil) ?_
   rintro _ _ ⟨rfl,rfl⟩
   refine⟨by kernel_rfl,?_⟩
   refine A.q0 [] [] [.n] [(40,.bool r21)] ?_
   refine A.AL.done ?_
   exact A.j ⟨r21,rfl,rfl,hF⟩
  rintro _ _ ⟨y19,rfl,rfl,hF⟩
  rw[F.delta_puts_j1]at hF
  refine A.AX.cnb rfl hF (fun hb hF=>?_) (fun hb hF=>?_)
  ·refine A.xl 1 ?_
   refine A.q0 [] [] [.n] [(4,.bool false)] ?_
   refine A.dx 1 ?_
   obtain rfl:=Option.some.inj hF
   exact A.rt1 [] ⟨rfl,rfl⟩
  refine A.xl 3 ?_
  obtain⟨hc20,hF⟩:=A.gd_some hF
  refine A.q [] [] [.n,.n] [Z.R64 (y2+1)] [(12,.int .i64 (y2+1))] hc20 ?_
  refine A.AL.done ?_
  exact A.j ⟨_,Nat.lt_succ_self _,⟨(y2+1),rfl,rfl,(Z.i64_has hc20),hF⟩⟩
 refine A.xl 3 ?_
 refine A.q0 [4] [] [.n,.b 0 1] [(43,.slice A3_ ((a1.2.1).length) c4_)] ?_
 obtain⟨r23,hv24,hF⟩:=A.bd_some hF
 refine A.AL.call 300 [] (first:=[]) (cap:=[]) cf22 (delta_ids_ok a1.2.1 A3_ c4_ r23 hv24) (.l 2 .nil) ?_
 rintro _ _ ⟨A25,c26,rfl,rfl⟩
 refine⟨by kernel_rfl,?_⟩
 obtain⟨r27,hv28,hF⟩:=A.bd_some hF
 refine A.AL.call 340 [] (first:=[]) (cap:=[]) cf48 (delta_rising_ok r23 A25 c26 r27 hv28) (.o 300 .nil) ?_
 rintro _ _ ⟨rfl,rfl⟩
 refine⟨by kernel_rfl,?_⟩
 refine A.q0 [] [] [.n] [(4,.bool r27)] ?_
 refine A.dx 1 ?_
 obtain rfl:=Option.some.inj hF
 exact A.rt1 [] ⟨rfl,rfl⟩
def F.delta_keeps (a0:Int):Option Bool:=some (bif decide (a0=11)then true else decide (a0=16))
theorem delta_keeps_ok (a0:Int)(h0_:IntKind.i64.has a0)(r:Bool)(hF:F.delta_keeps a0=some r):
    A.Ct Tryd.prog 50 [.int .i64 a0] [] [] (fun v H'=>v=.bool r∧H'=[]):=by
 refine A.Ct.enter Tryd.func50 rfl Tryd.ntmps50 rfl fun w0 F0=>?_
 rw[F.delta_keeps]at hF
 refine A.xl 1 ?_
 refine A.q0 [] [] [.n] [] ?_
 refine A.dl 2 ?_
 refine A.q0 [] [] [.n,.n,.n,.sy .n,.sy .n,.pk,.n] [(2,.bool (bif decide (a0=11)then true else decide (a0=16)))] ?_
 refine A.dx 1 ?_
 obtain rfl:=Option.some.inj hF
 exact A.rt1 [] ⟨rfl,rfl⟩
def F.delta_uses_j1 (y2:Bool):Option Bool:=some y2
def F.delta_uses_j2 (y3:Bool):Option Bool:=some y3
def F.delta_uses (a0:D83):Option Bool:=if a0.2.2.1=1 then(if a0.2.2.2.1=0 then(F.delta_uses_j1 (decide ((a0.2.2.2.2.1,a0.2.2.2.2.2.1,a0.2.2.2.2.2.2)=(0,0,ByteArray.mk #[]))))else(F.delta_uses_j1 false))else(if a0.2.2.1=2 then(if(bif decide ((0:Int)≤a0.2.2.2.1)then decide (a0.2.2.2.1≤1048576)else false)=true then(F.delta_uses_j2 (decide ((a0.2.2.2.2.1,a0.2.2.2.2.2.1,a0.2.2.2.2.2.2)=(0,0,ByteArray.mk #[]))))else(F.delta_uses_j2 false))else(if a0.2.2.1=3 then(some (decide (a0.2.2.2.1=0)))else(some false)))
theorem delta_uses_ok (a0:D83)(h0_:IntKind.i64.has a0.1)(h1_:IntKind.i64.has a0.2.1)(h2_:IntKind.i64.has a0.2.2.1)(h3_:IntKind.i64.has a0.2.2.2.1)(h4_:IntKind.i64.has a0.2.2.2.2.1)(h5_:IntKind.i64.has a0.2.2.2.2.2.1)(h6_:a0.2.2.2.2.2.2.size≤maxLen)(r:Bool)(hF:F.delta_uses a0=some r):
    A.Ct Tryd.prog 51 [.agg #[.int .i64 a0.1,.int .i64 a0.2.1,.int .i64 a0.2.2.1,.int .i64 a0.2.2.2.1,.int .i64 a0.2.2.2.2.1,.int .i64 a0.2.2.2.2.2.1,.string a0.2.2.2.2.2.2]] [] [] (fun v H'=>v=.bool r∧H'=[]):=by
 refine A.Ct.enter Tryd.func51 rfl Tryd.ntmps51 rfl fun w0 F0=>?_
 rw[F.delta_uses]at hF
 refine A.xl 1 ?_
 refine A.AL.box 0 (cs:=[.int .i64 a0.1,.int .i64 a0.2.1,.int .i64 a0.2.2.1,.int .i64 a0.2.2.2.1,.int .i64 a0.2.2.2.2.1,.int .i64 a0.2.2.2.2.2.1,.string a0.2.2.2.2.2.2]) fun g1=>?_
 refine A.q0 [] [] [.n] [] ?_
 refine A.dl 3 ?_
 refine A.q0 [0] [] [.n,.b 0 2] [(4,.int .i64 a0.2.2.1)] ?_
 refine A.dl 3 ?_
 refine A.q0 [] [] [.n,.n] [(5,.bool (decide (a0.2.2.1=1)))] ?_
 refine A.dx 1 ?_
 refine A.AX.cnd rfl hF (fun hb hF=>?_) (fun hb hF=>?_)
 ·refine A.AX.join [] [] (fun nl nh=>∃(y2:Bool),nl=[(2,.bool y2)]∧nh=[]∧F.delta_uses_j1 y2=some r) ?_ ?_
  ·refine A.xl 0 ?_
   refine A.q0 [0] [] [.n,.b 0 3,.n,.n] [(10,.bool (decide (a0.2.2.2.1=0)))] ?_
   refine A.AL.cnp (j:=10) rfl hF (fun hb hF=>?_) (fun hb hF=>?_)
   ·refine A.q0 [0] [] [.on .n,.on (.b 0 4),.on .n] [(12,.agg #[.int .i64 a0.2.2.2.2.1,.int .i64 a0.2.2.2.2.2.1,.string a0.2.2.2.2.2.2]),(13,.agg #[.int .i64 0,.int .i64 0,.string (ByteArray.mk #[])])] ?_
    refine A.AL.on (dj:=10) rfl rfl ?_
    refine A.AL.val rfl (fun a w hf hh=>eqagg_eql41 (x:=(a0.2.2.2.2.1,a0.2.2.2.2.2.1,a0.2.2.2.2.2.2)) (y:=(0,0,ByteArray.mk #[])) (hf.eval rfl) (hf.eval rfl)) ?_
    refine A.q0 [] [] [.n,.n] [(2,.bool (decide ((a0.2.2.2.2.1,a0.2.2.2.2.2.1,a0.2.2.2.2.2.2)=(0,0,ByteArray.mk #[]))))] ?_
    refine A.AL.done ?_
    exact A.j ⟨(decide ((a0.2.2.2.2.1,a0.2.2.2.2.2.1,a0.2.2.2.2.2.2)=(0,0,ByteArray.mk #[]))),rfl,rfl,hF⟩
   refine A.q0 [] [] [.off,.off,.off,.off,.n,.n] [(2,.bool false)] ?_
   refine A.AL.done ?_
   exact A.j ⟨false,rfl,rfl,hF⟩
  rintro _ _ ⟨y2,rfl,rfl,hF⟩
  rw[F.delta_uses_j1]at hF
  obtain rfl:=Option.some.inj hF
  exact A.rt1 [] ⟨rfl,rfl⟩
 refine A.xl 1 ?_
 refine A.q0 [] [] [.n,.n] [(16,.bool (decide (a0.2.2.1=2)))] ?_
 refine A.dx 1 ?_
 refine A.AX.cnd rfl hF (fun hb hF=>?_) (fun hb hF=>?_)
 ·refine A.AX.join [] [] (fun nl nh=>∃(y3:Bool),nl=[(2,.bool y3)]∧nh=[]∧F.delta_uses_j2 y3=some r) ?_ ?_
  ·refine A.xl 0 ?_
   refine A.q0 [0] [] [.n,.b 0 3,.n,.n,.sy .n,.sy (.b 0 3),.sy .n,.pk,.n] [(26,.bool (bif decide ((0:Int)≤a0.2.2.2.1)then decide (a0.2.2.2.1≤1048576)else false))] ?_
   refine A.AL.cnd (j:=26) rfl hF (fun hF=>?_) (fun hF=>?_)
   ·refine A.q0 [0] [] [.on .n,.on (.b 0 4),.on .n] [(28,.agg #[.int .i64 a0.2.2.2.2.1,.int .i64 a0.2.2.2.2.2.1,.string a0.2.2.2.2.2.2]),(29,.agg #[.int .i64 0,.int .i64 0,.string (ByteArray.mk #[])])] ?_
    refine A.AL.on (dj:=26) rfl rfl ?_
    refine A.AL.val rfl (fun a w hf hh=>eqagg_eql41 (x:=(a0.2.2.2.2.1,a0.2.2.2.2.2.1,a0.2.2.2.2.2.2)) (y:=(0,0,ByteArray.mk #[])) (hf.eval rfl) (hf.eval rfl)) ?_
    refine A.q0 [] [] [.n,.n] [(2,.bool (decide ((a0.2.2.2.2.1,a0.2.2.2.2.2.1,a0.2.2.2.2.2.2)=(0,0,ByteArray.mk #[]))))] ?_
    refine A.AL.done ?_
    exact A.j ⟨(decide ((a0.2.2.2.2.1,a0.2.2.2.2.2.1,a0.2.2.2.2.2.2)=(0,0,ByteArray.mk #[]))),rfl,rfl,hF⟩
   refine A.q0 [] [] [.off,.off,.off,.off,.n,.n] [(2,.bool false)] ?_
   refine A.AL.done ?_
   exact A.j ⟨false,rfl,rfl,hF⟩
  rintro _ _ ⟨y3,rfl,rfl,hF⟩
  rw[F.delta_uses_j2]at hF
  obtain rfl:=Option.some.inj hF
  exact A.rt1 [] ⟨rfl,rfl⟩
 refine A.xl 1 ?_
 refine A.q0 [] [] [.n,.n] [(32,.bool (decide (a0.2.2.1=3)))] ?_
 refine A.dx 1 ?_
 refine A.AX.cnd rfl hF (fun hb hF=>?_) (fun hb hF=>?_)
 ·refine A.xl 1 ?_
  refine A.q0 [0] [] [.n,.b 0 3,.n,.n] [(2,.bool (decide (a0.2.2.2.1=0)))] ?_
  refine A.dx 1 ?_
  obtain rfl:=Option.some.inj hF
  exact A.rt1 [] ⟨rfl,rfl⟩
 refine A.xl 4 ?_
 refine A.q0 [] [] [.n] [(2,.bool false)] ?_
 refine A.dx 1 ?_
 obtain rfl:=Option.some.inj hF
 exact A.rt1 [] ⟨rfl,rfl⟩
def F.delta_moves_j1 (k1:(List (Int×Bool))→Int→Option Bool)(m6:List (Int×Bool))(y7:Int)(x10:D83)(y28:Bool):Option Bool:=if y28=true then(some false)else(A.gd (Z.R64 (y7+1)) (k1 (Z.mins m6 x10.2.1 true) (y7+1)))
def F.delta_moves_l2 (a0:(List (Int×D42)))(a1:D27)(r2:(List (Int×D42))):Nat→(List (Int×Bool))→Int→Option Bool
 |0,_,_=>none
 |f+1,m6,y7=>if y7<((a1.2.2).length:Int)then((A.ix a1.2.2 y7).bind fun x10=>(A.lt (Z.mget ((0,0,[],(0,0,(ByteArray.mk #[])),(ByteArray.mk #[]),0,0):D42) a0 x10.1) fun x16=>(A.lt (Z.mget ((0,0,[],(0,0,(ByteArray.mk #[])),(ByteArray.mk #[]),0,0):D42) r2 x10.2.1) fun x22=>(if(bif !(Z.mhas a0 x10.1)then true else !(Z.mhas r2 x10.2.1))=true then(F.delta_moves_j1 (F.delta_moves_l2 a0 a1 r2 f) m6 y7 x10 true)else((F.delta_keeps x16.2.1).bind fun r30=>(if(bif !r30 then true else decide (x22.2.1≠x16.2.1))=true then(F.delta_moves_j1 (F.delta_moves_l2 a0 a1 r2 f) m6 y7 x10 true)else(A.lt (Z.mget (false:Bool) m6 x10.2.1) fun x32=>(if x32=true then(F.delta_moves_j1 (F.delta_moves_l2 a0 a1 r2 f) m6 y7 x10 true)else((F.delta_uses (x10.1,x10.2.1,x10.2.2.1,x10.2.2.2.1,(x10.2.2.2.2.1,x10.2.2.2.2.2.1,x10.2.2.2.2.2.2))).bind fun r35=>(if(!r35)=true then(F.delta_moves_j1 (F.delta_moves_l2 a0 a1 r2 f) m6 y7 x10 true)else(F.delta_moves_j1 (F.delta_moves_l2 a0 a1 r2 f) m6 y7 x10 (bif decide (x10.2.2.1=2)then decide (x16.2.1≠11)else false))))))))))))else(some true)
def F.delta_moves (a0:(List (Int×D42)))(a1:D27):Option Bool:=(F.delta_byId a1.2.1).bind fun r2=>(F.delta_moves_l2 a0 a1 r2 A.FU [] 0)
theorem delta_moves_ok (a0:(List (Int×D42)))(a1:D27)(b0_:Nat)(A1_:Option Addr)(c2_:Nat)(A3_:Option Addr)(c4_:Nat)(A5_:Option Addr)(c6_:Nat)(r:Bool)(hF:F.delta_moves a0 a1=some r):
    A.Ct Tryd.prog 36 [.map (some b0_),.agg #[.slice A1_ ((a1.1).length) c2_,.slice A3_ ((a1.2.1).length) c4_,.slice A5_ ((a1.2.2).length) c6_]] [(0,.lmp Int (fun i:Int=>.int .i64 i) T42 true b0_ a0),(1,.sh (.slice (Z.Ty.int .i64)) [.slice A1_ (a1.1).length c2_] a1.1),(2,.sh (.slice T42) [.slice A3_ (a1.2.1).length c4_] a1.2.1),(3,.sh (.slice T83) [.slice A5_ (a1.2.2).length c6_] a1.2.2)] [] (fun v H'=>v=.bool r∧H'=[]):=by
 refine A.Ct.enter Tryd.func36 rfl Tryd.ntmps36 rfl fun w0 F0=>?_
 rw[F.delta_moves]at hF
 refine A.xl 1 ?_
 refine A.AL.box 4 (cs:=[.slice A1_ ((a1.1).length) c2_,.slice A3_ ((a1.2.1).length) c4_,.slice A5_ ((a1.2.2).length) c6_]) fun g1=>?_
 refine A.q0 [] [] [.n] [] ?_
 refine A.dl 2 ?_
 refine A.q0 [4] [] [.n,.b 0 1] [(14,.slice A3_ ((a1.2.1).length) c4_)] ?_
 obtain⟨r2,hv3,hF⟩:=A.bd_some hF
 refine A.AL.call 5 [] (first:=[]) (cap:=[]) cf16 (delta_byId_ok a1.2.1 A3_ c4_ r2 hv3) (.l 2 .nil) ?_
 rintro _ _ ⟨b4,rfl,rfl⟩
 refine⟨by kernel_rfl,?_⟩
 refine A.q0 [] [] [.n] [(5,.map (some b4))] ?_
 refine A.dl 2 ?_
 refine A.AL.mkm 45 Int (fun i:Int=>.int .i64 i) Z.Ty.bool false fun b5=>?_
 refine A.q0 [] [] [.n] [(6,.map (some b5))] ?_
 refine A.dl 3 ?_
 refine A.q0 [4] [] [.n,.b 0 2,.n,.n] [(18,.slice A5_ ((a1.2.2).length) c6_),(19,.int .i64 ((a1.2.2).length:Int)),(20,.int .i64 0)] ?_
 refine A.dx 2 ?_
 refine A.lp_ [0,5,6,18,19] [0,3,5] (fun f nl nh=>∃(m6:List (Int×Bool)),∃(y7:Int),nl=[(20,.int .i64 y7)]∧nh=[(45,.mp Int (fun i:Int=>.int .i64 i) Z.Ty.bool false b5 m6)]∧IntKind.i64.has y7∧F.delta_moves_l2 a0 a1 r2 f m6 y7=some r) ⟨[],0,rfl,rfl,(A.hasl .i64 (0) rfl),hF⟩ ?_
 rintro f9 _ _ ⟨m6,y7,rfl,rfl,hy8,hF⟩
 rcases f9 with _|f9
 ·exact A.no0 hF
 rw[F.delta_moves_l2]at hF
 refine A.xl 1 ?_
 refine A.q0 [] [] [.n] [(21,.bool (decide (y7<((a1.2.2).length:Int))))] ?_
 refine A.dx 2 ?_
 refine A.AX.cnd rfl hF (fun hb hF=>?_) (fun hb hF=>?_)
 ·refine A.xl 5 ?_
  obtain⟨x10,hv11,hF⟩:=A.bd_some hF
  refine A.AL.ixs 3 220 hv11 fun ho12=>?_
  intro b13 o14
  refine A.q0 [] [220] [.e 0 0] [(23,.agg #[.int .i64 x10.1,.int .i64 x10.2.1,.int .i64 x10.2.2.1,.int .i64 x10.2.2.2.1,.int .i64 x10.2.2.2.2.1,.int .i64 x10.2.2.2.2.2.1,.string x10.2.2.2.2.2.2])] ?_
  refine A.AL.alloc 221 (cs:=[.int .i64 0,.int .i64 0,.int .i64 0,.int .i64 0,.int .i64 0,.int .i64 0,.string (ByteArray.mk #[])]) Tryd.zeroValue84 fun g15=>?_
  refine A.sw 221 [] [.int .i64 x10.1,.int .i64 x10.2.1,.int .i64 x10.2.2.1,.int .i64 x10.2.2.2.1,.int .i64 x10.2.2.2.2.1,.int .i64 x10.2.2.2.2.2.1,.string x10.2.2.2.2.2.2] ?_
  refine A.dl 2 ?_
  refine A.q0 [221] [] [.n,.n,.b 0 0] [(25,.map (some b0_)),(27,.int .i64 x10.1)] ?_
  obtain⟨x16,hv17,hF⟩:=A.lt_some hF
  refine A.AL.lk2 (t:=T42) 0 222 (z:=((0,0,[],(0,0,(ByteArray.mk #[])),(ByteArray.mk #[]),0,0):D42)) (zs:=[.int .i64 0,.int .i64 0,.slice none 0 0,.int .i64 0,.int .i64 0,.string (ByteArray.mk #[]),.string (ByteArray.mk #[]),.int .i64 0,.int .i64 0]) ky3 x10.1 Tryd.zeroValue43 ⟨⟨rfl,by decide⟩,⟨rfl,by decide⟩,(.inr ⟨rfl,rfl⟩),⟨⟨rfl,by decide⟩,⟨rfl,by decide⟩,⟨rfl,by decide⟩⟩,⟨rfl,by decide⟩,⟨rfl,by decide⟩,⟨rfl,by decide⟩⟩ hv17 fun ho18=>?_
  intro A19 c20
  refine A.q0 [] [] [.n,.n,.n] [(29,.agg #[.int .i64 x16.1,.int .i64 x16.2.1,.slice A19 ((x16.2.2.1).length) c20,.int .i64 x16.2.2.2.1.1,.int .i64 x16.2.2.2.1.2.1,.string x16.2.2.2.1.2.2,.string x16.2.2.2.2.1,.int .i64 x16.2.2.2.2.2.1,.int .i64 x16.2.2.2.2.2.2]),(30,.bool (Z.mhas a0 x10.1))] ?_
  refine A.AL.alloc 223 (cs:=[.int .i64 0,.int .i64 0,.slice none 0 0,.int .i64 0,.int .i64 0,.string (ByteArray.mk #[]),.string (ByteArray.mk #[]),.int .i64 0,.int .i64 0]) Tryd.zeroValue43 fun g21=>?_
  refine A.sw 223 [] [.int .i64 x16.1,.int .i64 x16.2.1,.slice A19 ((x16.2.2.1).length) c20,.int .i64 x16.2.2.2.1.1,.int .i64 x16.2.2.2.1.2.1,.string x16.2.2.2.1.2.2,.string x16.2.2.2.2.1,.int .i64 x16.2.2.2.2.2.1,.int .i64 x16.2.2.2.2.2.2] ?_
  refine A.q0 [] [] [.n] [(10,.bool (Z.mhas a0 x10.1))] ?_
  refine A.dl 2 ?_
  refine A.q0 [221] [] [.n,.n,.b 0 1] [(32,.map (some b4)),(34,.int .i64 x10.2.1)] ?_
  obtain⟨x22,hv23,hF⟩:=A.lt_some hF
  refine A.AL.lk2 (t:=T42) 5 224 (z:=((0,0,[],(0,0,(ByteArray.mk #[])),(ByteArray.mk #[]),0,0):D42)) (zs:=[.int .i64 0,.int .i64 0,.slice none 0 0,.int .i64 0,.int .i64 0,.string (ByteArray.mk #[]),.string (ByteArray.mk #[]),.int .i64 0,.int .i64 0]) ky3 x10.2.1 Tryd.zeroValue43 ⟨⟨rfl,by decide⟩,⟨rfl,by decide⟩,(.inr ⟨rfl,rfl⟩),⟨⟨rfl,by decide⟩,⟨rfl,by decide⟩,⟨rfl,by decide⟩⟩,⟨rfl,by decide⟩,⟨rfl,by decide⟩,⟨rfl,by decide⟩⟩ hv23 fun ho24=>?_
  intro A25 c26
  refine A.q0 [] [] [.n,.n,.n] [(36,.agg #[.int .i64 x22.1,.int .i64 x22.2.1,.slice A25 ((x22.2.2.1).length) c26,.int .i64 x22.2.2.2.1.1,.int .i64 x22.2.2.2.1.2.1,.string x22.2.2.2.1.2.2,.string x22.2.2.2.2.1,.int .i64 x22.2.2.2.2.2.1,.int .i64 x22.2.2.2.2.2.2]),(37,.bool (Z.mhas r2 x10.2.1))] ?_
  refine A.AL.alloc 225 (cs:=[.int .i64 0,.int .i64 0,.slice none 0 0,.int .i64 0,.int .i64 0,.string (ByteArray.mk #[]),.string (ByteArray.mk #[]),.int .i64 0,.int .i64 0]) Tryd.zeroValue43 fun g27=>?_
  refine A.sw 225 [] [.int .i64 x22.1,.int .i64 x22.2.1,.slice A25 ((x22.2.2.1).length) c26,.int .i64 x22.2.2.2.1.1,.int .i64 x22.2.2.2.1.2.1,.string x22.2.2.2.1.2.2,.string x22.2.2.2.2.1,.int .i64 x22.2.2.2.2.2.1,.int .i64 x22.2.2.2.2.2.2] ?_
  refine A.q0 [] [] [.n] [(12,.bool (Z.mhas r2 x10.2.1))] ?_
  refine A.dx 2 ?_
  refine A.AX.join [0,5,6,8,18,19,20] [0,3,5,45,221] (fun nl nh=>∃(y28:Bool),nl=[(77,.bool y28)]∧nh=[]∧F.delta_moves_j1 (F.delta_moves_l2 a0 a1 r2 f9) m6 y7 x10 y28=some r) ?_ ?_
  ·refine A.xl 0 ?_
   refine A.q0 [] [] [.n,.n,.n,.sy .n,.sy .n,.pk,.n] [(44,.bool (bif !(Z.mhas a0 x10.1)then true else !(Z.mhas r2 x10.2.1)))] ?_
   refine A.AL.cnd (j:=44) rfl hF (fun hF=>?_) (fun hF=>?_)
   ·refine A.q0 [] [] [.off,.off,.off,.off,.n,.n,.off,.off,.off,.off,.off,.n,.n,.off,.off,.off,.off,.n,.n,.off,.off,.off,.n,.n,.off,.off,.off,.off,.off,.off,.off,.off,.n] [(77,.bool true)] ?_
    refine A.AL.done ?_
    exact A.j ⟨true,rfl,rfl,hF⟩
   refine A.q0 [223] [] [.on .n,.on (.b 0 1)] [(46,.int .i64 x16.2.1)] ?_
   refine A.AL.on (dj:=44) rfl rfl ?_
   obtain⟨r30,hv31,hF⟩:=A.bd_some hF
   refine A.AL.call 226 [] (first:=[]) (cap:=[]) cf50 (delta_keeps_ok x16.2.1 ho18.2.1 r30 hv31) .nil ?_
   rintro _ _ ⟨rfl,rfl⟩
   refine⟨by kernel_rfl,?_⟩
   refine A.q0 [225,223] [] [.on .n,.n,.n,.sy .n,.sy (.b 0 1),.sy .n,.sy (.b 1 1),.sy .n,.pk,.n] [(57,.bool (bif !r30 then true else decide (x22.2.1≠x16.2.1)))] ?_
   refine A.AL.cnd (j:=57) rfl hF (fun hF=>?_) (fun hF=>?_)
   ·refine A.q0 [] [] [.off,.off,.off,.off,.n,.n,.off,.off,.off,.n,.n,.off,.off,.off,.off,.off,.off,.off,.off,.n] [(77,.bool true)] ?_
    refine A.AL.done ?_
    exact A.j ⟨true,rfl,rfl,hF⟩
   refine A.q0 [221] [] [.on .n,.on .n,.on (.b 0 1)] [(58,.map (some b5)),(60,.int .i64 x10.2.1)] ?_
   refine A.AL.on (dj:=57) rfl rfl ?_
   obtain⟨x32,hv33,hF⟩:=A.lt_some hF
   refine A.AL.lku (t:=Z.Ty.bool) 45 266 (z:=(false:Bool)) (zs:=[.bool false]) ky3 x10.2.1 Tryd.zeroValue4 rfl hv33 fun ho34=>?_
   refine A.q0 [] [] [.n,.n] [(63,.bool x32)] ?_
   refine A.AL.cnd (j:=63) rfl hF (fun hF=>?_) (fun hF=>?_)
   ·refine A.q0 [] [] [.off,.off,.off,.n,.n,.off,.off,.off,.off,.off,.off,.off,.off,.n] [(77,.bool true)] ?_
    refine A.AL.done ?_
    exact A.j ⟨true,rfl,rfl,hF⟩
   refine A.q0 [221] [] [.on (.b 0 0)] [(64,.agg #[.int .i64 x10.1,.int .i64 x10.2.1,.int .i64 x10.2.2.1,.int .i64 x10.2.2.2.1,.int .i64 x10.2.2.2.2.1,.int .i64 x10.2.2.2.2.2.1,.string x10.2.2.2.2.2.2])] ?_
   refine A.AL.on (dj:=63) rfl rfl ?_
   obtain⟨r35,hv36,hF⟩:=A.bd_some hF
   refine A.AL.call 267 [] (first:=[]) (cap:=[]) cf51 (delta_uses_ok (x10.1,x10.2.1,x10.2.2.1,x10.2.2.2.1,(x10.2.2.2.2.1,x10.2.2.2.2.2.1,x10.2.2.2.2.2.2)) ho12.1 ho12.2.1 ho12.2.2.1 ho12.2.2.2.1 ho12.2.2.2.2.1 ho12.2.2.2.2.2.1 ho12.2.2.2.2.2.2 r35 hv36) .nil ?_
   rintro _ _ ⟨rfl,rfl⟩
   refine⟨by kernel_rfl,?_⟩
   refine A.q0 [] [] [.on .n,.n,.n] [(68,.bool (!r35))] ?_
   refine A.AL.cnd (j:=68) rfl hF (fun hF=>?_) (fun hF=>?_)
   ·refine A.q0 [] [] [.off,.off,.off,.off,.off,.off,.off,.off,.n] [(77,.bool true)] ?_
    refine A.AL.done ?_
    exact A.j ⟨true,rfl,rfl,hF⟩
   refine A.q0 [221,223] [] [.on .n,.on (.b 0 2),.on .n,.on .n,.sy .n,.sy (.b 1 1),.sy .n,.on .pk,.n] [(77,.bool (bif decide (x10.2.2.1=2)then decide (x16.2.1≠11)else false))] ?_
   refine A.AL.done ?_
   exact A.j ⟨(bif decide (x10.2.2.1=2)then decide (x16.2.1≠11)else false),rfl,rfl,hF⟩
  rintro _ _ ⟨y28,rfl,rfl,hF⟩
  rw[F.delta_moves_j1]at hF
  refine A.AX.cnb rfl hF (fun hb hF=>?_) (fun hb hF=>?_)
  ·refine A.xl 1 ?_
   refine A.q0 [] [] [.n] [(4,.bool false)] ?_
   refine A.dx 1 ?_
   obtain rfl:=Option.some.inj hF
   exact A.rt1 [] ⟨rfl,rfl⟩
  refine A.xl 2 ?_
  refine A.q0 [221] [] [.n,.n,.b 0 1] [(78,.map (some b5)),(80,.int .i64 x10.2.1)] ?_
  refine A.AL.mup (t:=Z.Ty.bool) 45 [] (cs:=[.bool true]) (u:=true) ky3 x10.2.1 rfl ?_
  refine A.dl 2 ?_
  obtain⟨hc29,hF⟩:=A.gd_some hF
  refine A.q [] [] [.n,.n] [Z.R64 (y7+1)] [(20,.int .i64 (y7+1))] hc29 ?_
  refine A.AL.done ?_
  exact A.j ⟨_,Nat.lt_succ_self _,⟨(Z.mins m6 x10.2.1 true),(y7+1),rfl,rfl,(Z.i64_has hc29),hF⟩⟩
 refine A.xl 3 ?_
 refine A.q0 [] [] [.n] [(4,.bool true)] ?_
 refine A.dx 1 ?_
 obtain rfl:=Option.some.inj hF
 exact A.rt1 [] ⟨rfl,rfl⟩
def F.delta_may_j1 (y2:Bool):Option Bool:=some y2
def F.delta_may (a0:(List (Int×D42)))(a1:D27):Option Bool:=if(bif bif decide (((a1.1).length:Int)≤32)then decide (((a1.2.1).length:Int)≤32)else false then decide (((a1.2.2).length:Int)≤16)else false)=true then((F.delta_drops a0 (a1.1,a1.2.1,a1.2.2)).bind fun r3=>(if r3=true then((F.delta_puts a0 (a1.1,a1.2.1,a1.2.2)).bind fun r5=>(if r5=true then((F.delta_moves a0 (a1.1,a1.2.1,a1.2.2)).bind fun r7=>(F.delta_may_j1 r7))else(F.delta_may_j1 false)))else(F.delta_may_j1 false)))else(F.delta_may_j1 false)
theorem delta_may_ok (a0:(List (Int×D42)))(a1:D27)(b0_:Nat)(A1_:Option Addr)(c2_:Nat)(A3_:Option Addr)(c4_:Nat)(A5_:Option Addr)(c6_:Nat)(r:Bool)(hF:F.delta_may a0 a1=some r):
    A.Ct Tryd.prog 19 [.map (some b0_),.agg #[.slice A1_ ((a1.1).length) c2_,.slice A3_ ((a1.2.1).length) c4_,.slice A5_ ((a1.2.2).length) c6_]] [(0,.lmp Int (fun i:Int=>.int .i64 i) T42 true b0_ a0),(1,.sh (.slice (Z.Ty.int .i64)) [.slice A1_ (a1.1).length c2_] a1.1),(2,.sh (.slice T42) [.slice A3_ (a1.2.1).length c4_] a1.2.1),(3,.sh (.slice T83) [.slice A5_ (a1.2.2).length c6_] a1.2.2)] [] (fun v H'=>v=.bool r∧H'=[]):=by
 refine A.Ct.enter Tryd.func19 rfl Tryd.ntmps19 rfl fun w0 F0=>?_
 rw[F.delta_may]at hF
 refine A.xl 1 ?_
 refine A.AL.box 4 (cs:=[.slice A1_ ((a1.1).length) c2_,.slice A3_ ((a1.2.1).length) c4_,.slice A5_ ((a1.2.2).length) c6_]) fun g1=>?_
 refine A.q0 [] [] [.n] [] ?_
 refine A.dx 1 ?_
 refine A.AX.join [] [] (fun nl nh=>∃(y2:Bool),nl=[(4,.bool y2)]∧nh=[]∧F.delta_may_j1 y2=some r) ?_ ?_
 ·refine A.xl 0 ?_
  refine A.q0 [4] [] [.n,.b 0 0,.n,.n,.n,.sy .n,.sy (.b 0 1),.sy .n,.sy .n,.pk,.n,.sy .n,.sy (.b 0 2),.sy .n,.sy .n,.pk,.n] [(21,.bool (bif bif decide (((a1.1).length:Int)≤32)then decide (((a1.2.1).length:Int)≤32)else false then decide (((a1.2.2).length:Int)≤16)else false))] ?_
  refine A.AL.cnd (j:=21) rfl hF (fun hF=>?_) (fun hF=>?_)
  ·refine A.q0 [4] [] [.on .n,.on (.b 0 0)] [(22,.map (some b0_)),(23,.agg #[.slice A1_ ((a1.1).length) c2_,.slice A3_ ((a1.2.1).length) c4_,.slice A5_ ((a1.2.2).length) c6_])] ?_
   refine A.AL.on (dj:=21) rfl rfl ?_
   obtain⟨r3,hv4,hF⟩:=A.bd_some hF
   refine A.AL.call 5 [] (first:=[]) (cap:=[]) cf34 (delta_drops_ok a0 (a1.1,a1.2.1,a1.2.2) b0_ A1_ c2_ A3_ c4_ A5_ c6_ r3 hv4) (.s 0 (.s 1 (.s 2 (.s 3 .nil)))) ?_
   rintro _ _ ⟨rfl,rfl⟩
   refine⟨by kernel_rfl,?_⟩
   refine A.q0 [] [] [.n,.n] [(26,.bool r3)] ?_
   refine A.AL.cnd (j:=26) rfl hF (fun hF=>?_) (fun hF=>?_)
   ·refine A.q0 [4] [] [.on .n,.on (.b 0 0)] [(27,.map (some b0_)),(28,.agg #[.slice A1_ ((a1.1).length) c2_,.slice A3_ ((a1.2.1).length) c4_,.slice A5_ ((a1.2.2).length) c6_])] ?_
    refine A.AL.on (dj:=26) rfl rfl ?_
    obtain⟨r5,hv6,hF⟩:=A.bd_some hF
    refine A.AL.call 45 [] (first:=[]) (cap:=[]) cf35 (delta_puts_ok a0 (a1.1,a1.2.1,a1.2.2) b0_ A1_ c2_ A3_ c4_ A5_ c6_ r5 hv6) (.s 0 (.s 1 (.s 2 (.s 3 .nil)))) ?_
    rintro _ _ ⟨rfl,rfl⟩
    refine⟨by kernel_rfl,?_⟩
    refine A.q0 [] [] [.n,.n] [(31,.bool r5)] ?_
    refine A.AL.cnd (j:=31) rfl hF (fun hF=>?_) (fun hF=>?_)
    ·refine A.q0 [4] [] [.on .n,.on (.b 0 0)] [(32,.map (some b0_)),(33,.agg #[.slice A1_ ((a1.1).length) c2_,.slice A3_ ((a1.2.1).length) c4_,.slice A5_ ((a1.2.2).length) c6_])] ?_
     refine A.AL.on (dj:=31) rfl rfl ?_
     obtain⟨r7,hv8,hF⟩:=A.bd_some hF
     refine A.AL.call 85 [] (first:=[]) (cap:=[]) cf36 (delta_moves_ok a0 (a1.1,a1.2.1,a1.2.2) b0_ A1_ c2_ A3_ c4_ A5_ c6_ r7 hv8) (.s 0 (.s 1 (.s 2 (.s 3 .nil)))) ?_
     rintro _ _ ⟨rfl,rfl⟩
     refine⟨by kernel_rfl,?_⟩
     refine A.q0 [] [] [.n,.n] [(4,.bool r7)] ?_
     refine A.AL.done ?_
     exact A.j ⟨r7,rfl,rfl,hF⟩
    refine A.q0 [] [] [.off,.off,.off,.n,.n] [(4,.bool false)] ?_
    refine A.AL.done ?_
    exact A.j ⟨false,rfl,rfl,hF⟩
   refine A.q0 [] [] [.off,.off,.off,.n,.n,.off,.off,.off,.n,.n] [(4,.bool false)] ?_
   refine A.AL.done ?_
   exact A.j ⟨false,rfl,rfl,hF⟩
  refine A.q0 [] [] [.off,.off,.off,.n,.n,.off,.off,.off,.n,.n,.off,.off,.off,.n,.n] [(4,.bool false)] ?_
  refine A.AL.done ?_
  exact A.j ⟨false,rfl,rfl,hF⟩
 rintro _ _ ⟨y2,rfl,rfl,hF⟩
 rw[F.delta_may_j1]at hF
 obtain rfl:=Option.some.inj hF
 exact A.rt1 [] ⟨rfl,rfl⟩
end Go.Proofs.YtocfaokgoflmhaaDoor
end
section
set_option linter.unusedVariables false
set_option linter.unusedSimpArgs false
set_option maxRecDepth 20000
set_option maxHeartbeats 8000000
set_option synthInstance.maxSize 1000000
set_option synthInstance.maxHeartbeats 400000
namespace Go.Proofs.YtocfaokgoflmhaaDoor
open Go.RowKit
def F.delta_made_j1 (k13:(List D42)→Int→Option D23)(y34:Int)(xs39:List D42):Option D23:=A.gd (Z.R64 (y34+1)) (k13 xs39 (y34+1))
def F.delta_made_l2 (m17:List (Int×D42)):Nat→(List D42)→Int→Option D23
 |0,_,_=>none
 |f+1,xs33,y34=>if y34<256 then(A.lt (Z.mget ((0,0,[],(0,0,(ByteArray.mk #[])),(ByteArray.mk #[]),0,0):D42) m17 y34) fun x41=>(if(Z.mhas m17 y34)=true then(A.gd ((List.length (α:=D42) xs33+List.length (α:=D42) [(x41.1,x41.2.1,x41.2.2.1,(x41.2.2.2.1.1,x41.2.2.2.1.2.1,x41.2.2.2.1.2.2),x41.2.2.2.2.1,x41.2.2.2.2.2.1,x41.2.2.2.2.2.2)])*104≤140737488355328) (F.delta_made_j1 (F.delta_made_l2 m17 f) y34 (xs33++[(x41.1,x41.2.1,x41.2.2.1,(x41.2.2.2.1.1,x41.2.2.2.1.2.1,x41.2.2.2.1.2.2),x41.2.2.2.2.1,x41.2.2.2.2.2.1,x41.2.2.2.2.2.2)])))else(F.delta_made_j1 (F.delta_made_l2 m17 f) y34 xs33)))else(some xs33)
def F.delta_made_l3 (a1:D27):Nat→(List (Int×D42))→Int→Option D23
 |0,_,_=>none
 |f+1,m17,y18=>if y18<((a1.2.1).length:Int)then((A.ix a1.2.1 y18).bind fun x21=>(A.gd (Z.R64 (y18+1)) ((F.delta_made_l3 a1 f) (Z.mins m17 x21.1 (x21.1,x21.2.1,x21.2.2.1,(x21.2.2.2.1.1,x21.2.2.2.1.2.1,x21.2.2.2.1.2.2),x21.2.2.2.2.1,x21.2.2.2.2.2.1,x21.2.2.2.2.2.2)) (y18+1))))else(F.delta_made_l2 m17 A.FU [] 0)
def F.delta_made_l4 (a1:D27):Nat→(List (Int×D42))→Int→Option D23
 |0,_,_=>none
 |f+1,m7,y8=>if y8<((a1.1).length:Int)then((A.ix a1.1 y8).bind fun x11=>(A.gd (Z.R64 (y8+1)) ((F.delta_made_l4 a1 f) (Z.mdel m7 x11) (y8+1))))else(F.delta_made_l3 a1 A.FU m7 0)
def F.delta_made (a0:D23)(a1:D27):Option D23:=(F.delta_byId a0).bind fun r4=>(F.delta_made_l4 a1 A.FU r4 0)
theorem delta_made_ok (a0:D23)(a1:D27)(A0_:Option Addr)(c1_:Nat)(A2_:Option Addr)(c3_:Nat)(A4_:Option Addr)(c5_:Nat)(A6_:Option Addr)(c7_:Nat)(r:D23)(hF:F.delta_made a0 a1=some r):
    A.Ct Tryd.prog 20 [.agg #[.slice A0_ ((a0).length) c1_],.agg #[.slice A2_ ((a1.1).length) c3_,.slice A4_ ((a1.2.1).length) c5_,.slice A6_ ((a1.2.2).length) c7_]] [(0,.sh (.slice T42) [.slice A0_ (a0).length c1_] a0),(1,.sh (.slice (Z.Ty.int .i64)) [.slice A2_ (a1.1).length c3_] a1.1),(2,.sh (.slice T42) [.slice A4_ (a1.2.1).length c5_] a1.2.1),(3,.sh (.slice T83) [.slice A6_ (a1.2.2).length c7_] a1.2.2)] [] (fun v H'=>∃(A0':Option Addr) (c1':Nat),v=.agg #[.slice A0' ((r).length) c1']∧H'=[(0,.sh (.slice T42) [.slice A0' (r).length c1'] r)]):=by
 refine A.Ct.enter Tryd.func20 rfl Tryd.ntmps20 rfl fun w0 F0=>?_
 rw[F.delta_made]at hF
 refine A.xl 1 ?_
 refine A.AL.box 4 (cs:=[.slice A0_ ((a0).length) c1_]) fun g1=>?_
 refine A.AL.box 5 (cs:=[.slice A2_ ((a1.1).length) c3_,.slice A4_ ((a1.2.1).length) c5_,.slice A6_ ((a1.2.2).length) c7_]) fun g2=>?_
 refine A.AL.alloc 6 (cs:=[.slice none 0 0]) Tryd.zeroValue24 fun g3=>?_
 refine A.dl 2 ?_
 refine A.q0 [4] [] [.n,.b 0 0] [(15,.slice A0_ ((a0).length) c1_)] ?_
 obtain⟨r4,hv5,hF⟩:=A.bd_some hF
 refine A.AL.call 7 [] (first:=[]) (cap:=[]) cf16 (delta_byId_ok a0 A0_ c1_ r4 hv5) (.l 0 .nil) ?_
 rintro _ _ ⟨b6,rfl,rfl⟩
 refine⟨by kernel_rfl,?_⟩
 refine A.q0 [] [] [.n] [(5,.map (some b6))] ?_
 refine A.dl 3 ?_
 refine A.q0 [5] [] [.n,.b 0 0,.n,.n] [(18,.slice A2_ ((a1.1).length) c3_),(19,.int .i64 ((a1.1).length:Int)),(20,.int .i64 0)] ?_
 refine A.dx 2 ?_
 refine A.lp_ [3,4,5,18,19] [1,2,3,5,6] (fun f nl nh=>∃(m7:List (Int×D42)),∃(y8:Int),nl=[(20,.int .i64 y8)]∧nh=[(7,.mp Int (fun i:Int=>.int .i64 i) T42 true b6 m7)]∧IntKind.i64.has y8∧F.delta_made_l4 a1 f m7 y8=some r) ⟨r4,0,rfl,rfl,(A.hasl .i64 (0) rfl),hF⟩ ?_
 rintro f10 _ _ ⟨m7,y8,rfl,rfl,hy9,hF⟩
 rcases f10 with _|f10
 ·exact A.no0 hF
 rw[F.delta_made_l4]at hF
 refine A.xl 1 ?_
 refine A.q0 [] [] [.n] [(21,.bool (decide (y8<((a1.1).length:Int))))] ?_
 refine A.dx 2 ?_
 refine A.AX.cnd rfl hF (fun hb hF=>?_) (fun hb hF=>?_)
 ·refine A.xl 5 ?_
  obtain⟨x11,hv12,hF⟩:=A.bd_some hF
  refine A.AL.ixs 1 187 hv12 fun ho13=>?_
  intro b14 o15
  refine A.q0 [] [187] [.e 0 0,.n] [(7,.int .i64 x11)] ?_
  refine A.dl 1 ?_
  refine A.q0 [] [] [.n,.n] [(24,.map (some b6)),(25,.int .i64 x11)] ?_
  refine A.AL.mdl 7 [] ky3 x11 ?_
  refine A.dl 2 ?_
  obtain⟨hc16,hF⟩:=A.gd_some hF
  refine A.q [] [] [.n,.n] [Z.R64 (y8+1)] [(20,.int .i64 (y8+1))] hc16 ?_
  refine A.AL.done ?_
  exact A.j ⟨_,Nat.lt_succ_self _,⟨(Z.mdel m7 x11),(y8+1),rfl,rfl,(Z.i64_has hc16),hF⟩⟩
 refine A.xl 4 ?_
 refine A.q0 [5] [] [.n,.b 0 1,.n,.n] [(28,.slice A4_ ((a1.2.1).length) c5_),(29,.int .i64 ((a1.2.1).length:Int)),(30,.int .i64 0)] ?_
 refine A.dx 2 ?_
 refine A.lp_ [4,5,28,29] [2,6] (fun f nl nh=>∃(m17:List (Int×D42)),∃(y18:Int),nl=[(30,.int .i64 y18)]∧nh=[(7,.mp Int (fun i:Int=>.int .i64 i) T42 true b6 m17)]∧IntKind.i64.has y18∧F.delta_made_l3 a1 f m17 y18=some r) ⟨m7,0,rfl,rfl,(A.hasl .i64 (0) rfl),hF⟩ ?_
 rintro f20 _ _ ⟨m17,y18,rfl,rfl,hy19,hF⟩
 rcases f20 with _|f20
 ·exact A.no0 hF
 rw[F.delta_made_l3]at hF
 refine A.xl 1 ?_
 refine A.q0 [] [] [.n] [(31,.bool (decide (y18<((a1.2.1).length:Int))))] ?_
 refine A.dx 2 ?_
 refine A.AX.cnd rfl hF (fun hb hF=>?_) (fun hb hF=>?_)
 ·refine A.xl 5 ?_
  obtain⟨x21,hv22,hF⟩:=A.bd_some hF
  refine A.AL.ixs 2 234 hv22 fun ho23=>?_
  intro A24 c25 b26 o27
  refine A.q0 [] [234] [.e 0 0] [(33,.agg #[.int .i64 x21.1,.int .i64 x21.2.1,.slice A24 ((x21.2.2.1).length) c25,.int .i64 x21.2.2.2.1.1,.int .i64 x21.2.2.2.1.2.1,.string x21.2.2.2.1.2.2,.string x21.2.2.2.2.1,.int .i64 x21.2.2.2.2.2.1,.int .i64 x21.2.2.2.2.2.2])] ?_
  refine A.AL.alloc 236 (cs:=[.int .i64 0,.int .i64 0,.slice none 0 0,.int .i64 0,.int .i64 0,.string (ByteArray.mk #[]),.string (ByteArray.mk #[]),.int .i64 0,.int .i64 0]) Tryd.zeroValue43 fun g28=>?_
  refine A.sw 236 [] [.int .i64 x21.1,.int .i64 x21.2.1,.slice A24 ((x21.2.2.1).length) c25,.int .i64 x21.2.2.2.1.1,.int .i64 x21.2.2.2.1.2.1,.string x21.2.2.2.1.2.2,.string x21.2.2.2.2.1,.int .i64 x21.2.2.2.2.2.1,.int .i64 x21.2.2.2.2.2.2] ?_
  refine A.dl 1 ?_
  refine A.q0 [236] [] [.n,.n,.b 0 0,.b 0 0] [(34,.map (some b6)),(36,.int .i64 x21.1),(37,.agg #[.int .i64 x21.1,.int .i64 x21.2.1,.slice A24 ((x21.2.2.1).length) c25,.int .i64 x21.2.2.2.1.1,.int .i64 x21.2.2.2.1.2.1,.string x21.2.2.2.1.2.2,.string x21.2.2.2.2.1,.int .i64 x21.2.2.2.2.2.1,.int .i64 x21.2.2.2.2.2.2])] ?_
  refine A.AL.mup (t:=T42) 7 [] (cs:=[.int .i64 x21.1,.int .i64 x21.2.1,.slice A24 ((x21.2.2.1).length) c25,.int .i64 x21.2.2.2.1.1,.int .i64 x21.2.2.2.1.2.1,.string x21.2.2.2.1.2.2,.string x21.2.2.2.2.1,.int .i64 x21.2.2.2.2.2.1,.int .i64 x21.2.2.2.2.2.2]) (u:=(x21.1,x21.2.1,x21.2.2.1,(x21.2.2.2.1.1,x21.2.2.2.1.2.1,x21.2.2.2.1.2.2),x21.2.2.2.2.1,x21.2.2.2.2.2.1,x21.2.2.2.2.2.2)) ky3 x21.1 ⟨⟨rfl,ho23.1⟩,⟨rfl,ho23.2.1⟩,.inl ⟨235,rfl⟩,⟨⟨rfl,ho23.2.2.2.1.1⟩,⟨rfl,ho23.2.2.2.1.2.1⟩,⟨rfl,ho23.2.2.2.1.2.2⟩⟩,⟨rfl,ho23.2.2.2.2.1⟩,⟨rfl,ho23.2.2.2.2.2.1⟩,⟨rfl,ho23.2.2.2.2.2.2⟩⟩ ?_
  refine A.dl 2 ?_
  obtain⟨hc29,hF⟩:=A.gd_some hF
  refine A.q [] [] [.n,.n] [Z.R64 (y18+1)] [(30,.int .i64 (y18+1))] hc29 ?_
  refine A.AL.done ?_
  exact A.j ⟨_,Nat.lt_succ_self _,⟨(Z.mins m17 x21.1 (x21.1,x21.2.1,x21.2.2.1,(x21.2.2.2.1.1,x21.2.2.2.1.2.1,x21.2.2.2.1.2.2),x21.2.2.2.2.1,x21.2.2.2.2.2.1,x21.2.2.2.2.2.2)),(y18+1),rfl,rfl,(Z.i64_has hc29),hF⟩⟩
 refine A.xl 3 ?_
 refine A.AL.alloc 237 (cs:=[.slice none 0 0]) Tryd.zeroValue24 fun g30=>?_
 refine A.dl 3 ?_
 refine A.q0 [] [] [.n] [(39,.int .i64 0)] ?_
 refine A.dx 2 ?_
 refine A.nil 247 T42 43 ?_
 refine A.lp_ [4,5,10] [6,7] (fun f nl nh=>∃(xs33:List D42),∃(y34:Int),∃(A31:Option Addr),∃(c32:Nat),nl=[(39,.int .i64 y34)]∧nh=[(237,.blk g30 24 [.slice A31 ((xs33).length) c32]),(247,.own T42 43 A31 c32 xs33)]∧IntKind.i64.has y34∧F.delta_made_l2 m17 f xs33 y34=some r) ⟨[],0,none,0,rfl,rfl,(A.hasl .i64 (0) rfl),hF⟩ ?_
 rintro f36 _ _ ⟨xs33,y34,A31,c32,rfl,rfl,hy35,hF⟩
 rcases f36 with _|f36
 ·exact A.no0 hF
 rw[F.delta_made_l2]at hF
 refine A.xl 1 ?_
 refine A.q0 [] [] [.n] [(40,.bool (decide (y34<256)))] ?_
 refine A.dx 2 ?_
 refine A.AX.cnd rfl hF (fun hb hF=>?_) (fun hb hF=>?_)
 ·refine A.xx 2 ?_
  refine A.AX.join [4,5,10,39] [6,7] (fun nl nh=>∃(xs39:List D42),∃(A37:Option Addr),∃(c38:Nat),nl=[]∧nh=[(237,.blk g30 24 [.slice A37 ((xs39).length) c38]),(247,.own T42 43 A37 c38 xs39)]∧F.delta_made_j1 (F.delta_made_l2 m17 f36) y34 xs39=some r) ?_ ?_
  ·refine A.xl 2 ?_
   refine A.q0 [] [] [.n,.n] [(11,.int .i64 y34)] ?_
   refine A.dl 2 ?_
   refine A.q0 [] [] [.n,.n] [(43,.map (some b6)),(44,.int .i64 y34)] ?_
   obtain⟨x41,hv42,hF⟩:=A.lt_some hF
   refine A.AL.lk2 (t:=T42) 7 254 (z:=((0,0,[],(0,0,(ByteArray.mk #[])),(ByteArray.mk #[]),0,0):D42)) (zs:=[.int .i64 0,.int .i64 0,.slice none 0 0,.int .i64 0,.int .i64 0,.string (ByteArray.mk #[]),.string (ByteArray.mk #[]),.int .i64 0,.int .i64 0]) ky3 y34 Tryd.zeroValue43 ⟨⟨rfl,by decide⟩,⟨rfl,by decide⟩,(.inr ⟨rfl,rfl⟩),⟨⟨rfl,by decide⟩,⟨rfl,by decide⟩,⟨rfl,by decide⟩⟩,⟨rfl,by decide⟩,⟨rfl,by decide⟩,⟨rfl,by decide⟩⟩ hv42 fun ho43=>?_
   intro A44 c45
   refine A.q0 [] [] [.n,.n,.n] [(46,.agg #[.int .i64 x41.1,.int .i64 x41.2.1,.slice A44 ((x41.2.2.1).length) c45,.int .i64 x41.2.2.2.1.1,.int .i64 x41.2.2.2.1.2.1,.string x41.2.2.2.1.2.2,.string x41.2.2.2.2.1,.int .i64 x41.2.2.2.2.2.1,.int .i64 x41.2.2.2.2.2.2]),(47,.bool (Z.mhas m17 y34))] ?_
   refine A.AL.alloc 255 (cs:=[.int .i64 0,.int .i64 0,.slice none 0 0,.int .i64 0,.int .i64 0,.string (ByteArray.mk #[]),.string (ByteArray.mk #[]),.int .i64 0,.int .i64 0]) Tryd.zeroValue43 fun g46=>?_
   refine A.sw 255 [] [.int .i64 x41.1,.int .i64 x41.2.1,.slice A44 ((x41.2.2.1).length) c45,.int .i64 x41.2.2.2.1.1,.int .i64 x41.2.2.2.1.2.1,.string x41.2.2.2.1.2.2,.string x41.2.2.2.2.1,.int .i64 x41.2.2.2.2.2.1,.int .i64 x41.2.2.2.2.2.2] ?_
   refine A.q0 [] [] [.n] [(13,.bool (Z.mhas m17 y34))] ?_
   refine A.dl 2 ?_
   refine A.q0 [] [] [.n] [(48,.bool (Z.mhas m17 y34))] ?_
   refine A.dx 1 ?_
   refine A.AX.cnb rfl hF (fun hb hF=>?_) (fun hb hF=>?_)
   ·refine A.xl 0 ?_
    refine A.q0 [237,255] [] [.n,.b 0 0,.b 1 0] [(50,.slice A31 ((xs33).length) c32),(51,.agg #[.int .i64 x41.1,.int .i64 x41.2.1,.slice A44 ((x41.2.2.1).length) c45,.int .i64 x41.2.2.2.1.1,.int .i64 x41.2.2.2.1.2.1,.string x41.2.2.2.1.2.2,.string x41.2.2.2.2.1,.int .i64 x41.2.2.2.2.2.1,.int .i64 x41.2.2.2.2.2.2])] ?_
    refine A.AL.bsl 256 (ty:=T42) (cs:=[.int .i64 x41.1,.int .i64 x41.2.1,.slice A44 ((x41.2.2.1).length) c45,.int .i64 x41.2.2.2.1.1,.int .i64 x41.2.2.2.1.2.1,.string x41.2.2.2.1.2.2,.string x41.2.2.2.2.1,.int .i64 x41.2.2.2.2.2.1,.int .i64 x41.2.2.2.2.2.2]) [(x41.1,x41.2.1,x41.2.2.1,(x41.2.2.2.1.1,x41.2.2.2.1.2.1,x41.2.2.2.1.2.2),x41.2.2.2.2.1,x41.2.2.2.2.2.1,x41.2.2.2.2.2.2)] ⟨⟨⟨rfl,ho43.1⟩,⟨rfl,ho43.2.1⟩,.inl ⟨254,rfl⟩,⟨⟨rfl,ho43.2.2.2.1.1⟩,⟨rfl,ho43.2.2.2.1.2.1⟩,⟨rfl,ho43.2.2.2.1.2.2⟩⟩,⟨rfl,ho43.2.2.2.2.1⟩,⟨rfl,ho43.2.2.2.2.2.1⟩,⟨rfl,ho43.2.2.2.2.2.2⟩⟩,rfl⟩ (fun g47=>?_) Tryd.zeroValue43 Tryd.sizeOf43
    obtain⟨hl50,hF⟩:=A.gd_some hF
    refine A.AL.app (k:=247) [] (A.rowO (k:=256) rfl) inf43 hl50 fun A48 c49=>?_
    refine A.q0 [] [] [.n] [(54,.pointer (some ⟨g30,0,none⟩))] ?_
    refine A.sw 237 [] [.slice A48 ((xs33++[(x41.1,x41.2.1,x41.2.2.1,(x41.2.2.2.1.1,x41.2.2.2.1.2.1,x41.2.2.2.1.2.2),x41.2.2.2.2.1,x41.2.2.2.2.2.1,x41.2.2.2.2.2.2)]).length) c49] ?_
    refine A.de 1 ?_
    exact A.j ⟨(xs33++[(x41.1,x41.2.1,x41.2.2.1,(x41.2.2.2.1.1,x41.2.2.2.1.2.1,x41.2.2.2.1.2.2),x41.2.2.2.2.1,x41.2.2.2.2.2.1,x41.2.2.2.2.2.2)]),A48,c49,rfl,rfl,hF⟩
   refine A.xe 2 ?_
   exact A.j ⟨xs33,A31,c32,rfl,rfl,hF⟩
  rintro _ _ ⟨xs39,A37,c38,rfl,rfl,hF⟩
  rw[F.delta_made_j1]at hF
  refine A.xl 0 ?_
  obtain⟨hc40,hF⟩:=A.gd_some hF
  refine A.q [] [] [.n,.n] [Z.R64 (y34+1)] [(39,.int .i64 (y34+1))] hc40 ?_
  refine A.AL.done ?_
  exact A.j ⟨_,Nat.lt_succ_self _,⟨xs39,(y34+1),A37,c38,rfl,rfl,(Z.i64_has hc40),hF⟩⟩
 refine A.xl 3 ?_
 refine A.q0 [237] [] [.b 0 0] [(56,.agg #[.slice A31 ((xs33).length) c32])] ?_
 refine A.sw 6 [] [.slice A31 ((xs33).length) c32] ?_
 refine A.dx 1 ?_
 obtain rfl:=Option.some.inj hF
 refine A.frz 247 [] ?_
 exact A.AX.ret [(0,247)] (.agg #[.slice A31 ((xs33).length) c32]) (fun a w hf hh=>Z.resv1 rfl (Z.rv_n hf rfl Tryd.isAgg24 Tryd.sizeOf24 (A.Hp.blk hh 6) rfl)) (⟨A31,c32,rfl,rfl⟩)
def F.delta_Apply_l1 (a0:D23)(a1:D27):Nat→Int→Option (D23×Int)
 |0,_=>none
 |f+1,y12=>if y12<((a1.2.1).length:Int)then((A.ix a1.2.1 y12).bind fun x15=>(if(bif decide (x15.1<1)then true else decide ((255:Int)<x15.1))=true then(some ([],80))else(A.gd (Z.R64 (y12+1)) ((F.delta_Apply_l1 a0 a1 f) (y12+1)))))else((F.delta_made a0 (a1.1,a1.2.1,a1.2.2)).bind fun r24=>((F.graph_Check r24).bind fun r29=>(if r29≠0 then(some ([],r29))else((F.graph_Clone r24).bind fun r32=>(some (r32,0))))))
def F.delta_Apply (a0:D23)(a1:D27):Option (D23×Int):=(F.graph_Check a0).bind fun r4=>(if r4≠0 then(some ([],r4))else((F.delta_byId a0).bind fun r7=>((F.delta_may r7 (a1.1,a1.2.1,a1.2.2)).bind fun r10=>(if(!r10)=true then(some ([],90))else(F.delta_Apply_l1 a0 a1 A.FU 0)))))
theorem delta_Apply_ok (a0:D23)(a1:D27)(A0_:Option Addr)(c1_:Nat)(A2_:Option Addr)(c3_:Nat)(A4_:Option Addr)(c5_:Nat)(A6_:Option Addr)(c7_:Nat)(r:D23×Int)(hF:F.delta_Apply a0 a1=some r):
    A.Ct Tryd.prog 8 [.agg #[.slice A0_ ((a0).length) c1_],.agg #[.slice A2_ ((a1.1).length) c3_,.slice A4_ ((a1.2.1).length) c5_,.slice A6_ ((a1.2.2).length) c7_]] [(0,.sh (.slice T42) [.slice A0_ (a0).length c1_] a0),(1,.sh (.slice (Z.Ty.int .i64)) [.slice A2_ (a1.1).length c3_] a1.1),(2,.sh (.slice T42) [.slice A4_ (a1.2.1).length c5_] a1.2.1),(3,.sh (.slice T83) [.slice A6_ (a1.2.2).length c7_] a1.2.2),(4,.el none 0 0 A.tabF),(5,.el none 1 0 A.tabA)] [] (fun v H'=>∃(A0':Option Addr) (c1':Nat),v=.tuple #[.agg #[.slice A0' ((r.1).length) c1'],.int .i64 r.2]∧H'=[(0,.sh (.slice T42) [.slice A0' (r.1).length c1'] r.1)]∧IntKind.i64.has r.2):=by
 refine A.Ct.enter Tryd.func8 rfl Tryd.ntmps8 rfl fun w0 F0=>?_
 rw[F.delta_Apply]at hF
 refine A.xl 1 ?_
 refine A.AL.box 6 (cs:=[.slice A0_ ((a0).length) c1_]) fun g1=>?_
 refine A.AL.box 7 (cs:=[.slice A2_ ((a1.1).length) c3_,.slice A4_ ((a1.2.1).length) c5_,.slice A6_ ((a1.2.2).length) c7_]) fun g2=>?_
 refine A.AL.alloc 8 (cs:=[.slice none 0 0]) Tryd.zeroValue24 fun g3=>?_
 refine A.q0 [] [] [.n] [] ?_
 refine A.dl 3 ?_
 refine A.q0 [6] [] [.b 0 0] [(11,.agg #[.slice A0_ ((a0).length) c1_])] ?_
 obtain⟨r4,hv5,hF⟩:=A.bd_some hF
 refine A.AL.call 9 [] (first:=[]) (cap:=[]) cf13 (graph_Check_ok a0 A0_ c1_ r4 hv5) (.s 0 (.s 4 (.s 5 .nil))) ?_
 rintro _ _ ⟨rfl,rfl,hr6⟩
 refine⟨by kernel_rfl,?_⟩
 refine A.q0 [] [] [.n] [(6,.int .i64 r4)] ?_
 refine A.dl 2 ?_
 refine A.q0 [] [] [.n,.n] [(14,.bool (decide (r4≠0)))] ?_
 refine A.dx 1 ?_
 refine A.AX.cnd rfl hF (fun hb hF=>?_) (fun hb hF=>?_)
 ·refine A.xl 1 ?_
  refine A.q0 [] [] [.n,.n] [(15,.agg #[.slice none 0 0]),(16,.int .i64 r4)] ?_
  refine A.sw 8 [] [.slice none 0 0] ?_
  refine A.q0 [] [] [.n] [(5,.int .i64 r4)] ?_
  refine A.dx 1 ?_
  obtain rfl:=Option.some.inj hF
  refine A.snil 49 T42 ?_
  exact A.AX.ret [(0,49)] (.tuple #[.agg #[.slice none 0 0],.int .i64 r4]) (fun a w hf hh=>Z.resv2 rfl (Z.rv_n hf rfl Tryd.isAgg24 Tryd.sizeOf24 (A.Hp.blk hh 8) rfl) (Z.rv_t hf rfl)) (⟨none,0,rfl,rfl,hr6⟩)
 refine A.xx 4 ?_
 refine A.AX.dr mixed 6 6 (A.mb 6 0) ?_
 refine A.hq A.pb [] [0,1,2,3,4,5,6,7,8] [7,6] [] (A.mb 6 11) 3 [(0,.n),(3,.b 0 0),(1,.b 1 0)] [(20,.agg #[.slice A2_ ((a1.1).length) c3_,.slice A4_ ((a1.2.1).length) c5_,.slice A6_ ((a1.2.2).length) c7_]),(18,.slice A0_ ((a0).length) c1_)] ?_
 refine A.AH.one 2 ?_
 obtain⟨r7,hv8,hF⟩:=A.bd_some hF
 refine A.AL.call 50 [] (first:=[]) (cap:=[]) cf16 (delta_byId_ok a0 A0_ c1_ r7 hv8) (.l 0 .nil) ?_
 rintro _ _ ⟨b9,rfl,rfl⟩
 refine⟨by kernel_rfl,?_⟩
 refine A.AH.nx (A.mb 6 15) [0,1,2,3,4,5,6,7,8] ?_
 refine A.AH.one 4 ?_
 obtain⟨r10,hv11,hF⟩:=A.bd_some hF
 refine A.AL.call 90 [] (first:=[]) (cap:=[]) cf19 (delta_may_ok r7 (a1.1,a1.2.1,a1.2.2) b9 A2_ c3_ A4_ c5_ A6_ c7_ r10 hv11) (.lm 50 (.s 1 (.s 2 (.s 3 .nil)))) ?_
 rintro _ _ ⟨rfl,rfl⟩
 refine⟨by kernel_rfl,?_⟩
 refine A.AH.nx (A.mb 6 31) [0,1,2,3,4,5,6,7,8] ?_
 refine A.hq A.pb [0,1,2,3,4,5,6,7,8] [0,1,2,3,4,5,6,7,8,50] [] [] (A.mb 6 63) 0 [(5,.n)] [(22,.bool (!r10))] ?_
 refine A.AH.done ?_
 refine A.ex 1 ?_
 refine A.AX.cnb rfl hF (fun hb hF=>?_) (fun hb hF=>?_)
 ·refine A.xl 1 ?_
  refine A.q0 [] [] [.n] [(23,.agg #[.slice none 0 0])] ?_
  refine A.sw 8 [] [.slice none 0 0] ?_
  refine A.q0 [] [] [.n] [(5,.int .i64 90)] ?_
  refine A.dx 1 ?_
  obtain rfl:=Option.some.inj hF
  refine A.snil 130 T42 ?_
  exact A.AX.ret [(0,130)] (.tuple #[.agg #[.slice none 0 0],.int .i64 90]) (fun a w hf hh=>Z.resv2 rfl (Z.rv_n hf rfl Tryd.isAgg24 Tryd.sizeOf24 (A.Hp.blk hh 8) rfl) (Z.rv_t hf rfl)) (⟨none,0,rfl,rfl,(A.hasl .i64 (90) rfl)⟩)
 refine A.xl 4 ?_
 refine A.q0 [7] [] [.n,.b 0 1,.n,.n] [(25,.slice A4_ ((a1.2.1).length) c5_),(26,.int .i64 ((a1.2.1).length:Int)),(27,.int .i64 0)] ?_
 refine A.dx 2 ?_
 refine A.lp_ [2,3,4,25,26] [0,1,2,3,4,5,6,7,8] (fun f nl nh=>∃(y12:Int),nl=[(27,.int .i64 y12)]∧nh=[]∧IntKind.i64.has y12∧F.delta_Apply_l1 a0 a1 f y12=some r) ⟨0,rfl,rfl,(A.hasl .i64 (0) rfl),hF⟩ ?_
 rintro f14 _ _ ⟨y12,rfl,rfl,hy13,hF⟩
 rcases f14 with _|f14
 ·exact A.no0 hF
 rw[F.delta_Apply_l1]at hF
 refine A.xl 1 ?_
 refine A.q0 [] [] [.n] [(28,.bool (decide (y12<((a1.2.1).length:Int))))] ?_
 refine A.dx 2 ?_
 refine A.AX.cnd rfl hF (fun hb hF=>?_) (fun hb hF=>?_)
 ·refine A.xl 5 ?_
  obtain⟨x15,hv16,hF⟩:=A.bd_some hF
  refine A.AL.ixs 2 383 hv16 fun ho17=>?_
  intro A18 c19 b20 o21
  refine A.q0 [] [383] [.e 0 0] [(30,.agg #[.int .i64 x15.1,.int .i64 x15.2.1,.slice A18 ((x15.2.2.1).length) c19,.int .i64 x15.2.2.2.1.1,.int .i64 x15.2.2.2.1.2.1,.string x15.2.2.2.1.2.2,.string x15.2.2.2.2.1,.int .i64 x15.2.2.2.2.2.1,.int .i64 x15.2.2.2.2.2.2])] ?_
  refine A.AL.alloc 385 (cs:=[.int .i64 0,.int .i64 0,.slice none 0 0,.int .i64 0,.int .i64 0,.string (ByteArray.mk #[]),.string (ByteArray.mk #[]),.int .i64 0,.int .i64 0]) Tryd.zeroValue43 fun g22=>?_
  refine A.sw 385 [] [.int .i64 x15.1,.int .i64 x15.2.1,.slice A18 ((x15.2.2.1).length) c19,.int .i64 x15.2.2.2.1.1,.int .i64 x15.2.2.2.1.2.1,.string x15.2.2.2.1.2.2,.string x15.2.2.2.2.1,.int .i64 x15.2.2.2.2.2.1,.int .i64 x15.2.2.2.2.2.2] ?_
  refine A.dl 2 ?_
  refine A.q0 [385] [] [.n,.b 0 0,.n,.n,.sy .n,.sy (.b 0 0),.sy .n,.pk] [(38,.bool (bif decide (x15.1<1)then true else decide ((255:Int)<x15.1)))] ?_
  refine A.dx 1 ?_
  refine A.AX.cnb rfl hF (fun hb hF=>?_) (fun hb hF=>?_)
  ·refine A.xl 1 ?_
   refine A.q0 [] [] [.n] [(39,.agg #[.slice none 0 0])] ?_
   refine A.sw 8 [] [.slice none 0 0] ?_
   refine A.q0 [] [] [.n] [(5,.int .i64 80)] ?_
   refine A.dx 1 ?_
   obtain rfl:=Option.some.inj hF
   refine A.snil 386 T42 ?_
   exact A.AX.ret [(0,386)] (.tuple #[.agg #[.slice none 0 0],.int .i64 80]) (fun a w hf hh=>Z.resv2 rfl (Z.rv_n hf rfl Tryd.isAgg24 Tryd.sizeOf24 (A.Hp.blk hh 8) rfl) (Z.rv_t hf rfl)) (⟨none,0,rfl,rfl,(A.hasl .i64 (80) rfl)⟩)
  refine A.xl 3 ?_
  obtain⟨hc23,hF⟩:=A.gd_some hF
  refine A.q [] [] [.n,.n] [Z.R64 (y12+1)] [(27,.int .i64 (y12+1))] hc23 ?_
  refine A.AL.done ?_
  exact A.j ⟨_,Nat.lt_succ_self _,⟨(y12+1),rfl,rfl,(Z.i64_has hc23),hF⟩⟩
 refine A.xl 3 ?_
 refine A.q0 [6,7] [] [.b 0 0,.b 1 0] [(41,.agg #[.slice A0_ ((a0).length) c1_]),(42,.agg #[.slice A2_ ((a1.1).length) c3_,.slice A4_ ((a1.2.1).length) c5_,.slice A6_ ((a1.2.2).length) c7_])] ?_
 obtain⟨r24,hv25,hF⟩:=A.bd_some hF
 refine A.AL.call 387 [] (first:=[]) (cap:=[]) cf20 (delta_made_ok a0 (a1.1,a1.2.1,a1.2.2) A0_ c1_ A2_ c3_ A4_ c5_ A6_ c7_ r24 hv25) (.s 0 (.s 1 (.s 2 (.s 3 .nil)))) ?_
 rintro _ _ ⟨A26,c27,rfl,rfl⟩
 refine⟨by kernel_rfl,?_⟩
 refine A.AL.alloc 427 (cs:=[.slice none 0 0]) Tryd.zeroValue24 fun g28=>?_
 refine A.sw 427 [] [.slice A26 ((r24).length) c27] ?_
 refine A.dl 3 ?_
 refine A.q0 [427] [] [.b 0 0] [(44,.agg #[.slice A26 ((r24).length) c27])] ?_
 obtain⟨r29,hv30,hF⟩:=A.bd_some hF
 refine A.AL.call 428 [] (first:=[]) (cap:=[]) cf13 (graph_Check_ok r24 A26 c27 r29 hv30) (.s 387 (.s 4 (.s 5 .nil))) ?_
 rintro _ _ ⟨rfl,rfl,hr31⟩
 refine⟨by kernel_rfl,?_⟩
 refine A.q0 [] [] [.n] [(10,.int .i64 r29)] ?_
 refine A.dl 2 ?_
 refine A.q0 [] [] [.n,.n] [(47,.bool (decide (r29≠0)))] ?_
 refine A.dx 1 ?_
 refine A.AX.cnd rfl hF (fun hb hF=>?_) (fun hb hF=>?_)
 ·refine A.xl 1 ?_
  refine A.q0 [] [] [.n,.n] [(48,.agg #[.slice none 0 0]),(49,.int .i64 r29)] ?_
  refine A.sw 8 [] [.slice none 0 0] ?_
  refine A.q0 [] [] [.n] [(5,.int .i64 r29)] ?_
  refine A.dx 1 ?_
  obtain rfl:=Option.some.inj hF
  refine A.snil 468 T42 ?_
  exact A.AX.ret [(0,468)] (.tuple #[.agg #[.slice none 0 0],.int .i64 r29]) (fun a w hf hh=>Z.resv2 rfl (Z.rv_n hf rfl Tryd.isAgg24 Tryd.sizeOf24 (A.Hp.blk hh 8) rfl) (Z.rv_t hf rfl)) (⟨none,0,rfl,rfl,hr31⟩)
 refine A.xl 3 ?_
 refine A.q0 [427] [] [.b 0 0] [(50,.agg #[.slice A26 ((r24).length) c27])] ?_
 obtain⟨r32,hv33,hF⟩:=A.bd_some hF
 refine A.AL.call 469 [] (first:=[]) (cap:=[]) cf17 (graph_Clone_ok r24 A26 c27 r32 hv33) (.s 387 .nil) ?_
 rintro _ _ ⟨A34,c35,rfl,rfl⟩
 refine⟨by kernel_rfl,?_⟩
 refine A.sw 8 [] [.slice A34 ((r32).length) c35] ?_
 refine A.q0 [] [] [.n] [(5,.int .i64 0)] ?_
 refine A.dx 1 ?_
 obtain rfl:=Option.some.inj hF
 exact A.AX.ret [(0,469)] (.tuple #[.agg #[.slice A34 ((r32).length) c35],.int .i64 0]) (fun a w hf hh=>Z.resv2 rfl (Z.rv_n hf rfl Tryd.isAgg24 Tryd.sizeOf24 (A.Hp.blk hh 8) rfl) (Z.rv_t hf rfl)) (⟨A34,c35,rfl,rfl,(A.hasl .i64 (0) rfl)⟩)
def F.delta_each (a0:(List Int)):Option ((List Int)):=some a0
theorem delta_each_ok (a0:(List Int))(A0_:Option Addr)(c1_:Nat)(r:((List Int)))(hF:F.delta_each a0=some r):
    A.Ct Tryd.prog 21 [.slice A0_ ((a0).length) c1_] [(0,.sh (.slice (Z.Ty.int .i64)) [.slice A0_ (a0).length c1_] a0)] [] (fun v H'=>∃(g0':Nat) (A1':Option Addr) (c2':Nat),v=.func (.func 37) #[] #[.pointer (some ⟨g0',0,none⟩)]∧H'=[(0,.blk g0' 25 [.slice A1' ((r).length) c2']),(1,.sh (.slice (Z.Ty.int .i64)) [.slice A1' (r).length c2'] r)]):=by
 refine A.Ct.enter Tryd.func21 rfl Tryd.ntmps21 rfl fun w0 F0=>?_
 rw[F.delta_each]at hF
 refine A.xl 1 ?_
 refine A.AL.box 1 (cs:=[.slice A0_ ((a0).length) c1_]) fun g1=>?_
 refine A.q0 [] [] [.n] [] ?_
 refine A.dl 2 ?_
 refine A.q0 [] [] [.n,.n] [(2,.func (.func 37) #[] #[.pointer (some ⟨g1,0,none⟩)])] ?_
 refine A.dx 1 ?_
 obtain rfl:=Option.some.inj hF
 exact A.rt1 [(0,1),(1,0)] ⟨g1,A0_,c1_,rfl,rfl⟩
end Go.Proofs.YtocfaokgoflmhaaDoor
end
section
set_option linter.unusedVariables false
set_option linter.unusedSimpArgs false
set_option maxRecDepth 20000
set_option maxHeartbeats 8000000
set_option synthInstance.maxSize 1000000
set_option synthInstance.maxHeartbeats 400000
namespace Go.Proofs.YtocfaokgoflmhaaDoor
open Go.RowKit
def F.delta_each_1_it_l1 (b0:(List Int)):Nat→Int→Option (List Int)
 |0,_=>none
 |f+1,y1=>if y1<((b0).length:Int)then((A.ix b0 y1).bind fun x9=>(A.cns x9 (A.gd (Z.R64 (y1+1)) ((F.delta_each_1_it_l1 b0 f) (y1+1)))))else(some [])
def F.delta_each_1_it (b0:(List Int)):Option (List Int):=F.delta_each_1_it_l1 b0 A.FU 0
theorem delta_each_1_it_sq (b0:(List Int))(g0_:Nat)(A1_:Option Addr)(c2_:Nat)(xs:List Int)(hF:F.delta_each_1_it b0=some xs):
    A.Sq Tryd.prog 37 [.pointer (some ⟨g0_,0,none⟩)] [(0,.el none g0_ 0 [.slice A1_ ((b0).length) c2_]),(1,.sh (.slice (Z.Ty.int .i64)) [.slice A1_ (b0).length c2_] b0)] (Z.Ty.int .i64) (fun cs=>[Z.vof false cs]) xs:=by
 refine A.Sq.enter Tryd.func37 rfl Tryd.ntmps37 rfl fun lid w0 J Jx Φ hY hJ0=>?_
 obtain⟨rs0,hrs⟩: ∃rs0,rs0=xs:=⟨_,rfl⟩
 have hR0:A.Rem xs 0 rs0:=hrs▸A.Rem.zero xs
 rw[F.delta_each_1_it,←hrs]at hF
 clear hrs
 refine A.xl 1 ?_
 refine A.q0 [] [0] [.e 0 0,.n,.n] [(5,.slice A1_ ((b0).length) c2_),(6,.int .i64 ((b0).length:Int)),(7,.int .i64 0)] ?_
 refine A.dx 2 ?_
 refine A.AX.loopC (A.CY 16 Φ) (0,w0) [0,5,6] [1] [1] (fun f i nl nh=>∃(y1:Int),∃(rs:List Int),nl=[(7,.int .i64 y1)]∧nh=[]∧IntKind.i64.has y1∧J i.1 i.2∧A.Rem xs i.1 rs∧F.delta_each_1_it_l1 b0 f y1=some rs) A.FU [(7,.int .i64 0)] [] ⟨0,_,rfl,rfl,(A.hasl .i64 (0) rfl),hJ0,hR0,hF⟩ ?_
 rintro f3 ⟨k4,w5⟩ _ _ ⟨y1,rs8,rfl,rfl,hy2,hJ6,hR7,hF⟩
 rcases f3 with _|f3
 ·exact A.no0 hF
 rw[F.delta_each_1_it_l1]at hF
 refine A.xl 1 ?_
 refine A.q0 [] [] [.n] [(8,.bool (decide (y1<((b0).length:Int))))] ?_
 refine A.dx 2 ?_
 refine A.AX.cnd rfl hF (fun hb hF=>?_) (fun hb hF=>?_)
 ·refine A.xl 5 ?_
  obtain⟨x9,hv10,hF⟩:=A.bd_some hF
  refine A.AL.ixs 1 4 hv10 fun ho11=>?_
  intro b12 o13
  refine A.q0 [] [4] [.e 0 0,.n] [(4,.int .i64 x9)] ?_
  refine A.dl 2 ?_
  refine A.q0 [] [] [.n,.n] [(11,.func (.yield lid) #[] #[]),(12,.int .i64 x9)] ?_
  obtain⟨rs14,hqrs14,hF⟩:=A.cns_some hF
  refine A.AL.yield hY hJ6 (hqrs14▸hR7) [.int .i64 x9] ⟨rfl,ho11⟩ (fun w15 hJ16 hR17=>?_) (fun w15 hX18=>?_)
  ·refine A.q0 [] [] [.n] [(14,.bool false)] ?_
   refine A.dx 1 ?_
   refine A.AX.cnf rfl ?_
   refine A.xl 3 ?_
   obtain⟨hc19,hF⟩:=A.gd_some hF
   refine A.q [] [] [.n,.n] [Z.R64 (y1+1)] [(7,.int .i64 (y1+1))] hc19 ?_
   refine A.AL.done ?_
   exact A.AE.jC (k4+1,w15) [1] [(7,.int .i64 (y1+1))] [] ⟨_,Nat.lt_succ_self _,⟨(y1+1),_,rfl,rfl,(Z.i64_has hc19),hJ16,hR17,hF⟩⟩
  refine A.q0 [] [] [.n] [(14,.bool true)] ?_
  refine A.dx 1 ?_
  refine A.AX.cnt rfl ?_
  exact A.AX.rtX hY hX18
 refine A.xe 1 ?_
 obtain rfl:=Option.some.inj hF
 exact A.AE.rtY hY hJ6 hR7
def F.delta_Touched_1 (a0:Int)(b0:(List (Int×Bool))):Option Bool:=A.lt (Z.mget (false:Bool) b0 a0) fun x1=>(some x1)
theorem delta_Touched_1_ok (a0:Int)(b0:(List (Int×Bool)))(g1_:Nat)(b2_:Nat)(h0_:IntKind.i64.has a0)(r:Bool)(hF:F.delta_Touched_1 a0 b0=some r):
    A.Ct Tryd.prog 24 [.int .i64 a0,.pointer (some ⟨g1_,0,none⟩)] [(0,.el none g1_ 0 [.map (some b2_)]),(1,.lmp Int (fun i:Int=>.int .i64 i) Z.Ty.bool false b2_ b0)] [] (fun v H'=>v=.bool r∧H'=[]):=by
 refine A.Ct.enter Tryd.func24 rfl Tryd.ntmps24 rfl fun w0 F0=>?_
 rw[F.delta_Touched_1]at hF
 refine A.xl 1 ?_
 refine A.q0 [] [] [.n] [] ?_
 refine A.dl 2 ?_
 refine A.q0 [] [0] [.e 0 0,.n] [(4,.map (some b2_)),(5,.int .i64 a0)] ?_
 obtain⟨x1,hv2,hF⟩:=A.lt_some hF
 refine A.AL.lku (t:=Z.Ty.bool) 1 2 (z:=(false:Bool)) (zs:=[.bool false]) ky3 a0 Tryd.zeroValue4 rfl hv2 fun ho3=>?_
 refine A.q0 [] [] [.n] [(3,.bool x1)] ?_
 refine A.dx 1 ?_
 obtain rfl:=Option.some.inj hF
 exact A.rt1 [] ⟨rfl,rfl⟩
def F.slices_IndexFunc_int_int_delta_Touched_1_l1 (a0:(List Int))(a1_0:(List (Int×Bool))):Nat→Int→Option Int
 |0,_=>none
 |f+1,y1=>if y1<((a0).length:Int)then((A.ix a0 y1).bind fun x4=>((F.delta_Touched_1 x4 a1_0).bind fun r9=>(if r9=true then(some y1)else(A.gd (Z.R64 (y1+1)) ((F.slices_IndexFunc_int_int_delta_Touched_1_l1 a0 a1_0 f) (y1+1))))))else(some (-1))
def F.slices_IndexFunc_int_int_delta_Touched_1 (a0:(List Int))(a1_0:(List (Int×Bool))):Option Int:=F.slices_IndexFunc_int_int_delta_Touched_1_l1 a0 a1_0 A.FU 0
theorem slices_IndexFunc_int_int_delta_Touched_1_ok (a0:(List Int))(a1_0:(List (Int×Bool)))(A0_:Option Addr)(c1_:Nat)(g2_:Nat)(b3_:Nat)(r:Int)(hF:F.slices_IndexFunc_int_int_delta_Touched_1 a0 a1_0=some r):
    A.Ct Tryd.prog 38 [.slice A0_ ((a0).length) c1_,.func (.func 24) #[] #[.pointer (some ⟨g2_,0,none⟩)]] [(0,.ln (Z.Ty.int .i64) A0_ c1_ a0),(1,.el none g2_ 0 [.map (some b3_)]),(2,.lmp Int (fun i:Int=>.int .i64 i) Z.Ty.bool false b3_ a1_0)] [] (fun v H'=>v=.int .i64 r∧H'=[]∧IntKind.i64.has r):=by
 refine A.Ct.enter Tryd.func38 rfl Tryd.ntmps38 rfl fun w0 F0=>?_
 rw[F.slices_IndexFunc_int_int_delta_Touched_1]at hF
 refine A.xl 1 ?_
 refine A.q0 [] [] [.n] [] ?_
 refine A.dl 3 ?_
 refine A.q0 [] [] [.n,.n,.n] [(7,.int .i64 ((a0).length:Int)),(8,.int .i64 0)] ?_
 refine A.dx 2 ?_
 refine A.lp_ [0,1,7] [0,1,2] (fun f nl nh=>∃(y1:Int),nl=[(8,.int .i64 y1)]∧nh=[]∧IntKind.i64.has y1∧F.slices_IndexFunc_int_int_delta_Touched_1_l1 a0 a1_0 f y1=some r) ⟨0,rfl,rfl,(A.hasl .i64 (0) rfl),hF⟩ ?_
 rintro f3 _ _ ⟨y1,rfl,rfl,hy2,hF⟩
 rcases f3 with _|f3
 ·exact A.no0 hF
 rw[F.slices_IndexFunc_int_int_delta_Touched_1_l1]at hF
 refine A.xl 1 ?_
 refine A.q0 [] [] [.n] [(9,.bool (decide (y1<((a0).length:Int))))] ?_
 refine A.dx 2 ?_
 refine A.AX.cnd rfl hF (fun hb hF=>?_) (fun hb hF=>?_)
 ·refine A.xl 5 ?_
  refine A.q0 [] [] [.n,.n] [(5,.int .i64 y1)] ?_
  refine A.dl 2 ?_
  refine A.q0 [] [] [.n,.n,.n] [(11,.func (.func 24) #[] #[.pointer (some ⟨g2_,0,none⟩)]),(12,.slice A0_ ((a0).length) c1_),(13,.int .i64 y1)] ?_
  obtain⟨x4,hv5,hF⟩:=A.bd_some hF
  refine A.AL.ixl 0 85 hv5 fun ho6=>?_
  intro b7 o8
  refine A.q0 [] [85] [.e 0 0] [(15,.int .i64 x4)] ?_
  obtain⟨r9,hv10,hF⟩:=A.bd_some hF
  refine A.AL.call 86 [] (first:=[]) (cap:=[.pointer (some ⟨g2_,0,none⟩)]) cf24 (delta_Touched_1_ok x4 a1_0 g2_ b3_ ho6 r9 hv10) (.s 1 (.s 2 .nil)) ?_
  rintro _ _ ⟨rfl,rfl⟩
  refine⟨by kernel_rfl,?_⟩
  refine A.dx 1 ?_
  refine A.AX.cnb rfl hF (fun hb hF=>?_) (fun hb hF=>?_)
  ·refine A.xl 1 ?_
   refine A.q0 [] [] [.n,.n] [(4,.int .i64 y1)] ?_
   refine A.dx 1 ?_
   obtain rfl:=Option.some.inj hF
   exact A.rt1 [] ⟨rfl,rfl,hy2⟩
  refine A.xl 3 ?_
  obtain⟨hc11,hF⟩:=A.gd_some hF
  refine A.q [] [] [.n,.n] [Z.R64 (y1+1)] [(8,.int .i64 (y1+1))] hc11 ?_
  refine A.AL.done ?_
  exact A.j ⟨_,Nat.lt_succ_self _,⟨(y1+1),rfl,rfl,(Z.i64_has hc11),hF⟩⟩
 refine A.xl 3 ?_
 refine A.q0 [] [] [.n] [(4,.int .i64 (-1))] ?_
 refine A.dx 1 ?_
 obtain rfl:=Option.some.inj hF
 exact A.rt1 [] ⟨rfl,rfl,(A.hasl .i64 (-1) rfl)⟩
def F.slices_ContainsFunc_int_int_delta_Touched_1 (a0:(List Int))(a1_0:(List (Int×Bool))):Option Bool:=(F.slices_IndexFunc_int_int_delta_Touched_1 a0 a1_0).bind fun r1=>(some (decide ((0:Int)≤r1)))
theorem slices_ContainsFunc_int_int_delta_Touched_1_ok (a0:(List Int))(a1_0:(List (Int×Bool)))(A0_:Option Addr)(c1_:Nat)(g2_:Nat)(b3_:Nat)(r:Bool)(hF:F.slices_ContainsFunc_int_int_delta_Touched_1 a0 a1_0=some r):
    A.Ct Tryd.prog 23 [.slice A0_ ((a0).length) c1_,.func (.func 24) #[] #[.pointer (some ⟨g2_,0,none⟩)]] [(0,.ln (Z.Ty.int .i64) A0_ c1_ a0),(1,.el none g2_ 0 [.map (some b3_)]),(2,.lmp Int (fun i:Int=>.int .i64 i) Z.Ty.bool false b3_ a1_0)] [] (fun v H'=>v=.bool r∧H'=[]):=by
 refine A.Ct.enter Tryd.func23 rfl Tryd.ntmps23 rfl fun w0 F0=>?_
 rw[F.slices_ContainsFunc_int_int_delta_Touched_1]at hF
 refine A.xl 1 ?_
 refine A.q0 [] [] [.n] [] ?_
 refine A.dl 2 ?_
 refine A.q0 [] [] [.n,.n] [(5,.slice A0_ ((a0).length) c1_),(6,.func (.func 24) #[] #[.pointer (some ⟨g2_,0,none⟩)])] ?_
 obtain⟨r1,hv2,hF⟩:=A.bd_some hF
 refine A.AL.call 3 [] (first:=[]) (cap:=[]) cf38 (slices_IndexFunc_int_int_delta_Touched_1_ok a0 a1_0 A0_ c1_ g2_ b3_ r1 hv2) (.s 0 (.s 1 (.s 2 .nil))) ?_
 rintro _ _ ⟨rfl,rfl,hr3⟩
 refine⟨by kernel_rfl,?_⟩
 refine A.q0 [] [] [.n,.n] [(4,.bool (decide ((0:Int)≤r1)))] ?_
 refine A.dx 1 ?_
 obtain rfl:=Option.some.inj hF
 exact A.rt1 [] ⟨rfl,rfl⟩
def F.delta_Touched_2 (a0:Int)(b0:(List (Int×Bool))):Option Bool:=A.lt (Z.mget (false:Bool) b0 a0) fun x1=>(some (!x1))
theorem delta_Touched_2_ok (a0:Int)(b0:(List (Int×Bool)))(g1_:Nat)(b2_:Nat)(h0_:IntKind.i64.has a0)(r:Bool)(hF:F.delta_Touched_2 a0 b0=some r):
    A.Ct Tryd.prog 26 [.int .i64 a0,.pointer (some ⟨g1_,0,none⟩)] [(0,.el none g1_ 0 [.map (some b2_)]),(1,.lmp Int (fun i:Int=>.int .i64 i) Z.Ty.bool false b2_ b0)] [] (fun v H'=>v=.bool r∧H'=[]):=by
 refine A.Ct.enter Tryd.func26 rfl Tryd.ntmps26 rfl fun w0 F0=>?_
 rw[F.delta_Touched_2]at hF
 refine A.xl 1 ?_
 refine A.q0 [] [] [.n] [] ?_
 refine A.dl 2 ?_
 refine A.q0 [] [0] [.e 0 0,.n] [(4,.map (some b2_)),(5,.int .i64 a0)] ?_
 obtain⟨x1,hv2,hF⟩:=A.lt_some hF
 refine A.AL.lku (t:=Z.Ty.bool) 1 2 (z:=(false:Bool)) (zs:=[.bool false]) ky3 a0 Tryd.zeroValue4 rfl hv2 fun ho3=>?_
 refine A.q0 [] [] [.n,.n] [(3,.bool (!x1))] ?_
 refine A.dx 1 ?_
 obtain rfl:=Option.some.inj hF
 exact A.rt1 [] ⟨rfl,rfl⟩
def F.slices_IndexFunc_int_int_delta_Touched_2_l1 (a0:(List Int))(a1_0:(List (Int×Bool))):Nat→Int→Option Int
 |0,_=>none
 |f+1,y1=>if y1<((a0).length:Int)then((A.ix a0 y1).bind fun x4=>((F.delta_Touched_2 x4 a1_0).bind fun r9=>(if r9=true then(some y1)else(A.gd (Z.R64 (y1+1)) ((F.slices_IndexFunc_int_int_delta_Touched_2_l1 a0 a1_0 f) (y1+1))))))else(some (-1))
def F.slices_IndexFunc_int_int_delta_Touched_2 (a0:(List Int))(a1_0:(List (Int×Bool))):Option Int:=F.slices_IndexFunc_int_int_delta_Touched_2_l1 a0 a1_0 A.FU 0
theorem slices_IndexFunc_int_int_delta_Touched_2_ok (a0:(List Int))(a1_0:(List (Int×Bool)))(A0_:Option Addr)(c1_:Nat)(g2_:Nat)(b3_:Nat)(r:Int)(hF:F.slices_IndexFunc_int_int_delta_Touched_2 a0 a1_0=some r):
    A.Ct Tryd.prog 38 [.slice A0_ ((a0).length) c1_,.func (.func 26) #[] #[.pointer (some ⟨g2_,0,none⟩)]] [(0,.ln (Z.Ty.int .i64) A0_ c1_ a0),(1,.el none g2_ 0 [.map (some b3_)]),(2,.lmp Int (fun i:Int=>.int .i64 i) Z.Ty.bool false b3_ a1_0)] [] (fun v H'=>v=.int .i64 r∧H'=[]∧IntKind.i64.has r):=by
 refine A.Ct.enter Tryd.func38 rfl Tryd.ntmps38 rfl fun w0 F0=>?_
 rw[F.slices_IndexFunc_int_int_delta_Touched_2]at hF
 refine A.xl 1 ?_
 refine A.q0 [] [] [.n] [] ?_
 refine A.dl 3 ?_
 refine A.q0 [] [] [.n,.n,.n] [(7,.int .i64 ((a0).length:Int)),(8,.int .i64 0)] ?_
 refine A.dx 2 ?_
 refine A.lp_ [0,1,7] [0,1,2] (fun f nl nh=>∃(y1:Int),nl=[(8,.int .i64 y1)]∧nh=[]∧IntKind.i64.has y1∧F.slices_IndexFunc_int_int_delta_Touched_2_l1 a0 a1_0 f y1=some r) ⟨0,rfl,rfl,(A.hasl .i64 (0) rfl),hF⟩ ?_
 rintro f3 _ _ ⟨y1,rfl,rfl,hy2,hF⟩
 rcases f3 with _|f3
 ·exact A.no0 hF
 rw[F.slices_IndexFunc_int_int_delta_Touched_2_l1]at hF
 refine A.xl 1 ?_
 refine A.q0 [] [] [.n] [(9,.bool (decide (y1<((a0).length:Int))))] ?_
 refine A.dx 2 ?_
 refine A.AX.cnd rfl hF (fun hb hF=>?_) (fun hb hF=>?_)
 ·refine A.xl 5 ?_
  refine A.q0 [] [] [.n,.n] [(5,.int .i64 y1)] ?_
  refine A.dl 2 ?_
  refine A.q0 [] [] [.n,.n,.n] [(11,.func (.func 26) #[] #[.pointer (some ⟨g2_,0,none⟩)]),(12,.slice A0_ ((a0).length) c1_),(13,.int .i64 y1)] ?_
  obtain⟨x4,hv5,hF⟩:=A.bd_some hF
  refine A.AL.ixl 0 85 hv5 fun ho6=>?_
  intro b7 o8
  refine A.q0 [] [85] [.e 0 0] [(15,.int .i64 x4)] ?_
  obtain⟨r9,hv10,hF⟩:=A.bd_some hF
  refine A.AL.call 86 [] (first:=[]) (cap:=[.pointer (some ⟨g2_,0,none⟩)]) cf26 (delta_Touched_2_ok x4 a1_0 g2_ b3_ ho6 r9 hv10) (.s 1 (.s 2 .nil)) ?_
  rintro _ _ ⟨rfl,rfl⟩
  refine⟨by kernel_rfl,?_⟩
  refine A.dx 1 ?_
  refine A.AX.cnb rfl hF (fun hb hF=>?_) (fun hb hF=>?_)
  ·refine A.xl 1 ?_
   refine A.q0 [] [] [.n,.n] [(4,.int .i64 y1)] ?_
   refine A.dx 1 ?_
   obtain rfl:=Option.some.inj hF
   exact A.rt1 [] ⟨rfl,rfl,hy2⟩
  refine A.xl 3 ?_
  obtain⟨hc11,hF⟩:=A.gd_some hF
  refine A.q [] [] [.n,.n] [Z.R64 (y1+1)] [(8,.int .i64 (y1+1))] hc11 ?_
  refine A.AL.done ?_
  exact A.j ⟨_,Nat.lt_succ_self _,⟨(y1+1),rfl,rfl,(Z.i64_has hc11),hF⟩⟩
 refine A.xl 3 ?_
 refine A.q0 [] [] [.n] [(4,.int .i64 (-1))] ?_
 refine A.dx 1 ?_
 obtain rfl:=Option.some.inj hF
 exact A.rt1 [] ⟨rfl,rfl,(A.hasl .i64 (-1) rfl)⟩
def F.slices_DeleteFunc_int_int_delta_Touched_2_j1 (k1:(List Int)→Int→Int→Option (List Int))(y11:Int)(xs16:List Int)(y18:Int):Option (List Int):=A.gd (Z.R64 (y11+1)) (k1 xs16 y18 (y11+1))
def F.slices_DeleteFunc_int_int_delta_Touched_2_l2 (a0:(List Int))(a1_0:(List (Int×Bool))):Nat→(List Int)→Int→Int→Option (List Int)
 |0,_,_,_=>none
 |f+1,xs7,y9,y11=>if y11<((a0).length:Int)then((A.ix xs7 y11).bind fun x21=>((F.delta_Touched_2 x21 a1_0).bind fun r26=>(if(!r26)=true then((A.ix xs7 y9).bind fun x28=>(A.gd (Z.R64 (y9+1)) (F.slices_DeleteFunc_int_int_delta_Touched_2_j1 (F.slices_DeleteFunc_int_int_delta_Touched_2_l2 a0 a1_0 f) y11 (xs7.set y9.toNat x21) (y9+1))))else(F.slices_DeleteFunc_int_int_delta_Touched_2_j1 (F.slices_DeleteFunc_int_int_delta_Touched_2_l2 a0 a1_0 f) y11 xs7 y9))))else(A.gd (0≤y9∧y9.toNat≤(xs7).length) (A.gd (0≤y9∧y9.toNat≤(List.take y9.toNat xs7++List.replicate ((xs7).length -y9.toNat) (0:Int)).length) (some (List.take y9.toNat (List.take y9.toNat xs7++List.replicate ((xs7).length -y9.toNat) (0:Int))))))
def F.slices_DeleteFunc_int_int_delta_Touched_2 (a0:(List Int))(a1_0:(List (Int×Bool))):Option (List Int):=(F.slices_IndexFunc_int_int_delta_Touched_2 a0 a1_0).bind fun r1=>(if r1= -1 then(some a0)else(A.gd (Z.R64 (r1+1)) (F.slices_DeleteFunc_int_int_delta_Touched_2_l2 a0 a1_0 A.FU a0 r1 (r1+1))))
theorem slices_DeleteFunc_int_int_delta_Touched_2_ok (a0:(List Int))(a1_0:(List (Int×Bool)))(A0_:Option Addr)(c1_:Nat)(g2_:Nat)(b3_:Nat)(r:(List Int))(hF:F.slices_DeleteFunc_int_int_delta_Touched_2 a0 a1_0=some r):
    A.Ct Tryd.prog 25 [.slice A0_ ((a0).length) c1_,.func (.func 26) #[] #[.pointer (some ⟨g2_,0,none⟩)]] [(0,.own (Z.Ty.int .i64) 3 A0_ c1_ a0),(1,.el none g2_ 0 [.map (some b3_)]),(2,.lmp Int (fun i:Int=>.int .i64 i) Z.Ty.bool false b3_ a1_0)] (Z.obl A0_++[]) (fun v H'=>∃(A0':Option Addr) (c1':Nat),v=.slice A0' ((r).length) c1'∧H'=[(0,.sh (.slice (Z.Ty.int .i64)) [.slice A0' (r).length c1'] r)]):=by
 refine A.Ct.enter Tryd.func25 rfl Tryd.ntmps25 rfl fun w0 F0=>?_
 rw[F.slices_DeleteFunc_int_int_delta_Touched_2]at hF
 refine A.xl 1 ?_
 refine A.q0 [] [] [.n] [] ?_
 refine A.dl 2 ?_
 refine A.q0 [] [] [.n,.n] [(8,.slice A0_ ((a0).length) c1_),(9,.func (.func 26) #[] #[.pointer (some ⟨g2_,0,none⟩)])] ?_
 obtain⟨r1,hv2,hF⟩:=A.bd_some hF
 refine A.AL.call 3 [] (first:=[]) (cap:=[]) cf38 (slices_IndexFunc_int_int_delta_Touched_2_ok a0 a1_0 A0_ c1_ g2_ b3_ r1 hv2) (.o 0 (.s 1 (.s 2 .nil))) ?_
 rintro _ _ ⟨rfl,rfl,hr3⟩
 refine⟨by kernel_rfl,?_⟩
 refine A.q0 [] [] [.n] [(5,.int .i64 r1)] ?_
 refine A.dl 3 ?_
 refine A.q0 [] [] [.n,.n] [(12,.bool (decide (r1= -1)))] ?_
 refine A.dx 1 ?_
 refine A.AX.cnd rfl hF (fun hb hF=>?_) (fun hb hF=>?_)
 ·refine A.xl 1 ?_
  refine A.q0 [] [] [.n,.n] [(4,.slice A0_ ((a0).length) c1_)] ?_
  refine A.dx 1 ?_
  obtain rfl:=Option.some.inj hF
  refine A.frz 0 [] ?_
  exact A.rt1 [(0,0)] ⟨A0_,c1_,rfl,rfl⟩
 refine A.xl 4 ?_
 obtain⟨hc4,hF⟩:=A.gd_some hF
 refine A.q [] [] [.n,.n,.n] [Z.R64 (r1+1)] [(6,.int .i64 (r1+1))] hc4 ?_
 refine A.dx 2 ?_
 refine A.lp_ [0,1] [1,2] (fun f nl nh=>∃(xs7:List Int),∃(y9:Int),∃(y11:Int),nl=[(5,.int .i64 y9),(6,.int .i64 y11)]∧nh=[(0,.own (Z.Ty.int .i64) 3 A0_ c1_ xs7)]∧(a0).length=xs7.length∧IntKind.i64.has y9∧IntKind.i64.has y11∧F.slices_DeleteFunc_int_int_delta_Touched_2_l2 a0 a1_0 f xs7 y9 y11=some r) ⟨a0,r1,(r1+1),rfl,rfl,rfl,hr3,(Z.i64_has hc4),hF⟩ ?_
 rintro f13 _ _ ⟨xs7,y9,y11,rfl,rfl,hn8,hy10,hy12,hF⟩
 rcases f13 with _|f13
 ·exact A.no0 hF
 rw[F.slices_DeleteFunc_int_int_delta_Touched_2_l2]at hF
 refine A.xl 2 ?_
 refine A.q0 [] [] [.n,.n,.n,.n] [(19,.bool (decide (y11<((a0).length:Int))))] ?_
 refine A.dx 1 ?_
 refine A.AX.cnd rfl hF (fun hb hF=>?_) (fun hb hF=>?_)
 ·refine A.xx 2 ?_
  refine A.AX.join [0,1,6] [1,2] (fun nl nh=>∃(xs16:List Int),∃(y18:Int),nl=[(5,.int .i64 y18)]∧nh=[(0,.own (Z.Ty.int .i64) 3 A0_ c1_ xs16)]∧(a0).length=xs16.length∧IntKind.i64.has y18∧F.slices_DeleteFunc_int_int_delta_Touched_2_j1 (F.slices_DeleteFunc_int_int_delta_Touched_2_l2 a0 a1_0 f13) y11 xs16 y18=some r) ?_ ?_
  ·refine A.xl 2 ?_
   refine A.q0 [] [] [.n,.n] [(22,.slice A0_ ((a0).length) c1_),(23,.int .i64 y11)] ?_
   refine A.cst 22 (Z.slice_n (show(a0).length=(xs7).length from hn8)) ?_
   obtain⟨x21,hv22,hF⟩:=A.bd_some hF
   refine A.AL.ixo 0 129 hv22 fun ho23=>?_
   intro g24 hA25
   refine A.q0 [] [129] [.e 0 0,.n] [(7,.int .i64 x21)] ?_
   refine A.dl 2 ?_
   refine A.q0 [] [] [.n,.n] [(26,.func (.func 26) #[] #[.pointer (some ⟨g2_,0,none⟩)]),(27,.int .i64 x21)] ?_
   obtain⟨r26,hv27,hF⟩:=A.bd_some hF
   refine A.AL.call 130 [] (first:=[]) (cap:=[.pointer (some ⟨g2_,0,none⟩)]) cf26 (delta_Touched_2_ok x21 a1_0 g2_ b3_ ho23 r26 hv27) (.s 1 (.s 2 .nil)) ?_
   rintro _ _ ⟨rfl,rfl⟩
   refine⟨by kernel_rfl,?_⟩
   refine A.q0 [] [] [.n] [(29,.bool (!r26))] ?_
   refine A.dx 1 ?_
   refine A.AX.cnb rfl hF (fun hb hF=>?_) (fun hb hF=>?_)
   ·refine A.xl 1 ?_
    refine A.q0 [] [] [.n,.n,.n] [(30,.slice A0_ ((a0).length) c1_),(31,.int .i64 y9),(32,.int .i64 x21)] ?_
    refine A.cst 30 (Z.slice_n (show(a0).length=(xs7).length from hn8)) ?_
    obtain⟨x28,hv29,hF⟩:=A.bd_some hF
    refine A.AL.ixo 0 170 hv29 fun ho30=>?_
    intro g31 hA32
    refine A.AL.setel 0 170 [129,170] (o:=0) (m:=1) (t:=(Z.Ty.int .i64)) (new:=[.int .i64 x21]) (es:=[.int .i64 x28]) x21 hv29 hA32 ⟨rfl,ho23⟩ ?_
    refine A.dl 1 ?_
    obtain⟨hc33,hF⟩:=A.gd_some hF
    refine A.q [] [] [.n,.n,.n] [Z.R64 (y9+1)] [(5,.int .i64 (y9+1))] hc33 ?_
    refine A.de 1 ?_
    exact A.j ⟨(xs7.set y9.toNat x21),(y9+1),rfl,rfl,(by rw[List.length_set];exact hn8),(Z.i64_has hc33),hF⟩
   refine A.xe 2 ?_
   exact A.j ⟨xs7,y9,rfl,rfl,hn8,hy10,hF⟩
  rintro _ _ ⟨xs16,y18,rfl,rfl,hn17,hy19,hF⟩
  rw[F.slices_DeleteFunc_int_int_delta_Touched_2_j1]at hF
  refine A.xl 0 ?_
  obtain⟨hc20,hF⟩:=A.gd_some hF
  refine A.q [] [] [.n,.n,.n] [Z.R64 (y11+1)] [(6,.int .i64 (y11+1))] hc20 ?_
  refine A.AL.done ?_
  exact A.j ⟨_,Nat.lt_succ_self _,⟨xs16,y18,(y11+1),rfl,rfl,hn17,hy19,(Z.i64_has hc20),hF⟩⟩
 refine A.xl 3 ?_
 refine A.q0 [] [] [.n,.n] [(36,.slice A0_ ((a0).length) c1_),(37,.int .i64 y9)] ?_
 refine A.cst 36 (Z.slice_n (show(a0).length=(xs7).length from hn8)) ?_
 obtain⟨hc34,hF⟩:=A.gd_some hF
 refine A.AL.clr 0 [] (t:=(Z.Ty.int .i64)) (u:=y9.toNat) (zs:=[.int .i64 0]) (0:Int) (Int.toNat_of_nonneg hc34.1).symm hc34.2 Tryd.zeroValue3 ⟨rfl,by decide⟩ ?_ Tryd.sizeOf3
 refine A.dl 2 ?_
 refine A.q0 [] [] [.n,.n] [(39,.slice A0_ ((a0).length) c1_),(40,.int .i64 y9)] ?_
 refine A.cst 39 (Z.slice_n (show(a0).length=(List.take y9.toNat xs7++List.replicate ((xs7).length -y9.toNat) (0:Int)).length from(Eq.trans hn8 (by rw[List.length_append,List.length_take,List.length_replicate];omega)))) ?_
 obtain⟨hc35,hF⟩:=A.gd_some hF
 refine A.AL.cuto 0 [] (v:=y9.toNat) (Int.toNat_of_nonneg hc35.1).symm hc35.2 ?_
 refine A.q0 [] [] [.n] [(4,.slice A0_ ((List.take y9.toNat (List.take y9.toNat xs7++List.replicate ((xs7).length -y9.toNat) (0:Int))).length) c1_)] ?_
 refine A.dx 1 ?_
 obtain rfl:=Option.some.inj hF
 refine A.frz 0 [] ?_
 exact A.rt1 [(0,0)] ⟨A0_,c1_,rfl,rfl⟩
def F.delta_Touched_j1 (k5:(List (Int×Bool))→Bool→Int→Option ((List Int)×Int))(y38:Int)(m42:List (Int×Bool))(y43:Bool):Option ((List Int)×Int):=A.gd (Z.R64 (y38+1)) (k5 m42 y43 (y38+1))
def F.delta_Touched_j2 (k5:(List (Int×Bool))→Bool→Int→Option ((List Int)×Int))(m36:List (Int×Bool))(y37:Bool)(y38:Int)(x45:D42)(y53:Bool):Option ((List Int)×Int):=if y53=true then(F.delta_Touched_j1 k5 y38 (Z.mins m36 x45.1 true) true)else(F.delta_Touched_j1 k5 y38 m36 y37)
def F.delta_Touched_l3 (k4:(List (Int×Bool))→Bool→Option ((List Int)×Int))(r3:D23×Int):Nat→(List (Int×Bool))→Bool→Int→Option ((List Int)×Int)
 |0,_,_,_=>none
 |f+1,m36,y37,y38=>if y38<((r3.1).length:Int)then((A.ix r3.1 y38).bind fun x45=>(A.lt (Z.mget (false:Bool) m36 x45.1) fun x54=>(if(!x54)=true then((F.slices_ContainsFunc_int_int_delta_Touched_1 x45.2.2.1 m36).bind fun r57=>(F.delta_Touched_j2 (F.delta_Touched_l3 k4 r3 f) m36 y37 y38 x45 r57))else(F.delta_Touched_j2 (F.delta_Touched_l3 k4 r3 f) m36 y37 y38 x45 false))))else(k4 m36 y37)
def F.delta_Touched_l4 (r3:D23×Int):Nat→(List (Int×Bool))→Bool→Option ((List Int)×Int)
 |0,_,_=>none
 |f+1,m33,y34=>if y34=true then(F.delta_Touched_l3 (F.delta_Touched_l4 r3 f) r3 A.FU m33 false 0)else((F.delta_ids r3.1).bind fun r59=>((F.slices_DeleteFunc_int_int_delta_Touched_2 r59 m33).bind fun r63=>(some (r63,0))))
def F.delta_Touched_l5 (r3:D23×Int):List Int→(List (Int×Bool))→Option ((List Int)×Int)
 | [],m32=>F.delta_Touched_l4 r3 A.FU m32 true
 |y29::f,m32=>(F.delta_Touched_l5 r3 f) (Z.mins m32 y29 true)
def F.delta_Touched (a0:D23)(a1:D27):Option ((List Int)×Int):=(F.delta_Apply a0 (a1.1,a1.2.1,a1.2.2)).bind fun r3=>(if r3.2≠0 then(some ([],r3.2))else((F.delta_ids a1.2.1).bind fun r11=>((F.delta_each r11).bind fun r15=>((F.delta_each_1_it r15).bind fun xs20=>F.delta_Touched_l5 r3 xs20 []))))
theorem delta_Touched_ok (a0:D23)(a1:D27)(A0_:Option Addr)(c1_:Nat)(A2_:Option Addr)(c3_:Nat)(A4_:Option Addr)(c5_:Nat)(A6_:Option Addr)(c7_:Nat)(r:(List Int)×Int)(hF:F.delta_Touched a0 a1=some r):
    A.Ct Tryd.prog 11 [.agg #[.slice A0_ ((a0).length) c1_],.agg #[.slice A2_ ((a1.1).length) c3_,.slice A4_ ((a1.2.1).length) c5_,.slice A6_ ((a1.2.2).length) c7_]] [(0,.sh (.slice T42) [.slice A0_ (a0).length c1_] a0),(1,.sh (.slice (Z.Ty.int .i64)) [.slice A2_ (a1.1).length c3_] a1.1),(2,.sh (.slice T42) [.slice A4_ (a1.2.1).length c5_] a1.2.1),(3,.sh (.slice T83) [.slice A6_ (a1.2.2).length c7_] a1.2.2),(4,.el none 0 0 A.tabF),(5,.el none 1 0 A.tabA)] [] (fun v H'=>∃(A0':Option Addr) (c1':Nat),v=.tuple #[.slice A0' ((r.1).length) c1',.int .i64 r.2]∧H'=[(0,.sh (.slice (Z.Ty.int .i64)) [.slice A0' (r.1).length c1'] r.1)]∧IntKind.i64.has r.2):=by
 refine A.Ct.enterM Tryd.func11 rfl Tryd.ntmps11 rfl fun w0 F0=>?_
 rw[F.delta_Touched]at hF
 refine A.xl 1 ?_
 refine A.AL.box 6 (cs:=[.slice A0_ ((a0).length) c1_]) fun g1=>?_
 refine A.AL.box 7 (cs:=[.slice A2_ ((a1.1).length) c3_,.slice A4_ ((a1.2.1).length) c5_,.slice A6_ ((a1.2.2).length) c7_]) fun g2=>?_
 refine A.q0 [] [] [.n,.n] [] ?_
 refine A.dl 2 ?_
 refine A.q0 [6,7] [] [.b 0 0,.b 1 0] [(14,.agg #[.slice A0_ ((a0).length) c1_]),(15,.agg #[.slice A2_ ((a1.1).length) c3_,.slice A4_ ((a1.2.1).length) c5_,.slice A6_ ((a1.2.2).length) c7_])] ?_
 obtain⟨r3,hv4,hF⟩:=A.bd_some hF
 refine A.AL.call 8 [] (first:=[]) (cap:=[]) cf8 (delta_Apply_ok a0 (a1.1,a1.2.1,a1.2.2) A0_ c1_ A2_ c3_ A4_ c5_ A6_ c7_ r3 hv4) (.s 0 (.s 1 (.s 2 (.s 3 (.s 4 (.s 5 .nil)))))) ?_
 rintro _ _ ⟨A5,c6,rfl,rfl,hr7⟩
 refine⟨by kernel_rfl,?_⟩
 refine A.q0 [] [] [.n,.n,.n] [(17,.agg #[.slice A5 ((r3.1).length) c6]),(18,.int .i64 r3.2)] ?_
 refine A.AL.alloc 48 (cs:=[.slice none 0 0]) Tryd.zeroValue24 fun g8=>?_
 refine A.sw 48 [] [.slice A5 ((r3.1).length) c6] ?_
 refine A.q0 [] [] [.n] [(7,.int .i64 r3.2)] ?_
 refine A.dl 3 ?_
 refine A.q0 [] [] [.n,.n] [(20,.bool (decide (r3.2≠0)))] ?_
 refine A.dx 1 ?_
 refine A.AX.cnd rfl hF (fun hb hF=>?_) (fun hb hF=>?_)
 ·refine A.xl 1 ?_
  refine A.q0 [] [] [.n,.n,.n] [(4,.slice none 0 0),(5,.int .i64 r3.2)] ?_
  refine A.dx 1 ?_
  obtain rfl:=Option.some.inj hF
  refine A.snil 49 (Z.Ty.int .i64) ?_
  exact A.AX.rtM (Ds:=[]) [] [(0,49)] (.tuple #[.slice none 0 0,.int .i64 r3.2]) (trivial) (fun a w hf hh=>Z.resv2 rfl (Z.rv_t hf rfl) (Z.rv_t hf rfl)) (⟨none,0,rfl,rfl,hr7⟩)
 refine A.xl 3 ?_
 refine A.AL.mkm 50 Int (fun i:Int=>.int .i64 i) Z.Ty.bool false fun b9=>?_
 refine A.AL.alloc 51 (cs:=[.map none]) Tryd.zeroValue57 fun g10=>?_
 refine A.sw 51 [] [.map (some b9)] ?_
 refine A.dl 3 ?_
 refine A.q0 [7] [] [.n,.b 0 1] [(24,.slice A4_ ((a1.2.1).length) c5_)] ?_
 obtain⟨r11,hv12,hF⟩:=A.bd_some hF
 refine A.AL.call 52 [] (first:=[]) (cap:=[]) cf22 (delta_ids_ok a1.2.1 A4_ c5_ r11 hv12) (.l 2 .nil) ?_
 rintro _ _ ⟨A13,c14,rfl,rfl⟩
 refine⟨by kernel_rfl,?_⟩
 refine A.frz 52 [] ?_
 obtain⟨r15,hv16,hF⟩:=A.bd_some hF
 refine A.AL.call 92 [] (first:=[]) (cap:=[]) cf21 (delta_each_ok r11 A13 c14 r15 hv16) (.s 52 .nil) ?_
 rintro _ _ ⟨g17,A18,c19,rfl,rfl⟩
 refine⟨by kernel_rfl,?_⟩
 refine A.dx 2 ?_
 obtain⟨xs20,hv21,hF⟩:=A.bd_some hF
 refine A.AX.rgf 132 133 134 [4,5,8,48,51,92,93] [50,4,5,8,48,51,92,93] [133,132,50,4,5,8,48,51,92,93] (fun k nh=>∃(m32:List (Int×Bool)),nh=[(50,.mp Int (fun i:Int=>.int .i64 i) Z.Ty.bool false b9 m32)]∧F.delta_Touched_l5 r3 (List.drop k xs20) m32=some r) [(50,.mp Int (fun i:Int=>.int .i64 i) Z.Ty.bool false b9 [])] cf37 (delta_each_1_it_sq r15 g17 A18 c19 xs20 hv21) (fun _=>rfl) ⟨[],rfl,hF⟩ ?_ ?_ ?_
 ·rintro k28 _ D22 L23 ⟨m32,rfl,hF⟩
  exact⟨⟨_,(.b 92 (.s 93 .nil))⟩,rfl,fun o=>rfl⟩
 ·rintro k28 _ y29 D22 L23 w27 o24 ⟨m32,rfl,hF⟩ hx30 hxo31 hh26
  rw[A.drop_at hx30,F.delta_Touched_l5]at hF
  refine A.xl 0 ?_
  refine A.q0 [] [] [.n] [(9,.int .i64 y29)] ?_
  refine A.AL.done ?_
  refine A.AE.flip 132 133 fun o25=>?_
  refine A.xl 1 ?_
  refine A.q0 [51] [] [.b 0 0,.n] [(28,.map (some b9)),(29,.int .i64 y29)] ?_
  refine A.AL.mup (t:=Z.Ty.bool) 50 [] (cs:=[.bool true]) (u:=true) ky3 y29 rfl ?_
  refine A.de 1 ?_
  exact A.AE.bn hh26 [133,132,50,8,48,51,92,93] 100000 [(133,100133),(132,100132),(50,100050),(4,4),(5,5),(8,100008),(48,100048),(51,100051),(92,100092),(93,100093)] [(50,.mp Int (fun i:Int=>.int .i64 i) Z.Ty.bool false b9 (Z.mins m32 y29 true))] ⟨(Z.mins m32 y29 true),rfl,hF⟩ rfl rfl
 rintro _ D22 L23 ⟨m32,rfl,hF⟩
 rw[List.drop_length,F.delta_Touched_l5]at hF
 refine A.el 4 ?_
 refine A.q0 [] [] [.n] [(10,.bool true)] ?_
 refine A.dx 2 ?_
 refine A.lp_ [6,8] [4,5,8,48,51,132] (fun f nl nh=>∃(m33:List (Int×Bool)),∃(y34:Bool),nl=[(10,.bool y34)]∧nh=[(50,.mp Int (fun i:Int=>.int .i64 i) Z.Ty.bool false b9 m33)]∧F.delta_Touched_l4 r3 f m33 y34=some r) ⟨m32,true,rfl,rfl,hF⟩ ?_
 rintro f35 _ _ ⟨m33,y34,rfl,rfl,hF⟩
 rcases f35 with _|f35
 ·exact A.no0 hF
 rw[F.delta_Touched_l4]at hF
 refine A.xl 2 ?_
 refine A.q0 [] [] [.n] [(30,.bool y34)] ?_
 refine A.dx 1 ?_
 refine A.AX.cnb rfl hF (fun hb hF=>?_) (fun hb hF=>?_)
 ·refine A.xl 4 ?_
  refine A.q0 [] [] [.n] [(10,.bool false)] ?_
  refine A.dl 2 ?_
  refine A.q0 [48] [] [.n,.b 0 0,.n,.n] [(32,.slice A5 ((r3.1).length) c6),(33,.int .i64 ((r3.1).length:Int)),(34,.int .i64 0)] ?_
  refine A.dx 2 ?_
  refine A.lp_ [6,8,32,33] [4,5,8,48,51,132] (fun f nl nh=>∃(m36:List (Int×Bool)),∃(y37:Bool),∃(y38:Int),nl=[(10,.bool y37),(34,.int .i64 y38)]∧nh=[(50,.mp Int (fun i:Int=>.int .i64 i) Z.Ty.bool false b9 m36)]∧IntKind.i64.has y38∧F.delta_Touched_l3 (F.delta_Touched_l4 r3 f35) r3 f m36 y37 y38=some r) ⟨m33,false,0,rfl,rfl,(A.hasl .i64 (0) rfl),hF⟩ ?_
  rintro f40 _ _ ⟨m36,y37,y38,rfl,rfl,hy39,hF⟩
  rcases f40 with _|f40
  ·exact A.no0 hF
  rw[F.delta_Touched_l3]at hF
  refine A.xl 1 ?_
  refine A.q0 [] [] [.n] [(35,.bool (decide (y38<((r3.1).length:Int))))] ?_
  refine A.dx 2 ?_
  refine A.AX.cnd rfl hF (fun hb hF=>?_) (fun hb hF=>?_)
  ·refine A.xx 2 ?_
   refine A.AX.join [6,8,32,33,34] [4,5,8,48,51,132] (fun nl nh=>∃(m42:List (Int×Bool)),∃(y43:Bool),nl=[(10,.bool y43)]∧nh=[(50,.mp Int (fun i:Int=>.int .i64 i) Z.Ty.bool false b9 m42)]∧F.delta_Touched_j1 (F.delta_Touched_l3 (F.delta_Touched_l4 r3 f35) r3 f40) y38 m42 y43=some r) ?_ ?_
   ·refine A.xl 2 ?_
    obtain⟨x45,hv46,hF⟩:=A.bd_some hF
    refine A.AL.ixs 8 567 hv46 fun ho47=>?_
    intro A48 c49 b50 o51
    refine A.q0 [] [567] [.e 0 0] [(37,.agg #[.int .i64 x45.1,.int .i64 x45.2.1,.slice A48 ((x45.2.2.1).length) c49,.int .i64 x45.2.2.2.1.1,.int .i64 x45.2.2.2.1.2.1,.string x45.2.2.2.1.2.2,.string x45.2.2.2.2.1,.int .i64 x45.2.2.2.2.2.1,.int .i64 x45.2.2.2.2.2.2])] ?_
    refine A.AL.alloc 569 (cs:=[.int .i64 0,.int .i64 0,.slice none 0 0,.int .i64 0,.int .i64 0,.string (ByteArray.mk #[]),.string (ByteArray.mk #[]),.int .i64 0,.int .i64 0]) Tryd.zeroValue43 fun g52=>?_
    refine A.sw 569 [] [.int .i64 x45.1,.int .i64 x45.2.1,.slice A48 ((x45.2.2.1).length) c49,.int .i64 x45.2.2.2.1.1,.int .i64 x45.2.2.2.1.2.1,.string x45.2.2.2.1.2.2,.string x45.2.2.2.2.1,.int .i64 x45.2.2.2.2.2.1,.int .i64 x45.2.2.2.2.2.2] ?_
    refine A.dx 1 ?_
    refine A.AX.join [6,8,10,12,32,33,34] [4,5,8,48,50,51,132,568,569] (fun nl nh=>∃(y53:Bool),nl=[(48,.bool y53)]∧nh=[]∧F.delta_Touched_j2 (F.delta_Touched_l3 (F.delta_Touched_l4 r3 f35) r3 f40) m36 y37 y38 x45 y53=some r) ?_ ?_
    ·refine A.xl 0 ?_
     refine A.q0 [51,569] [] [.b 0 0,.n,.b 1 0] [(38,.map (some b9)),(40,.int .i64 x45.1)] ?_
     obtain⟨x54,hv55,hF⟩:=A.lt_some hF
     refine A.AL.lku (t:=Z.Ty.bool) 50 570 (z:=(false:Bool)) (zs:=[.bool false]) ky3 x45.1 Tryd.zeroValue4 rfl hv55 fun ho56=>?_
     refine A.q0 [] [] [.n,.n] [(43,.bool (!x54))] ?_
     refine A.AL.cnd (j:=43) rfl hF (fun hF=>?_) (fun hF=>?_)
     ·refine A.q0 [569] [] [.on .n,.on (.b 0 2),.on .n] [(45,.slice A48 ((x45.2.2.1).length) c49),(46,.func (.func 24) #[] #[.pointer (some ⟨g10,0,none⟩)])] ?_
      refine A.AL.on (dj:=43) rfl rfl ?_
      obtain⟨r57,hv58,hF⟩:=A.bd_some hF
      refine A.AL.call 571 [] (first:=[]) (cap:=[]) cf23 (slices_ContainsFunc_int_int_delta_Touched_1_ok x45.2.2.1 m36 A48 c49 g10 b9 r57 hv58) (.l 568 (.b 51 (.lm 50 .nil))) ?_
      rintro _ _ ⟨rfl,rfl⟩
      refine⟨by kernel_rfl,?_⟩
      refine A.q0 [] [] [.n] [(48,.bool r57)] ?_
      refine A.AL.done ?_
      exact A.j ⟨r57,rfl,rfl,hF⟩
     refine A.q0 [] [] [.off,.off,.off,.off,.n] [(48,.bool false)] ?_
     refine A.AL.done ?_
     exact A.j ⟨false,rfl,rfl,hF⟩
    rintro _ _ ⟨y53,rfl,rfl,hF⟩
    rw[F.delta_Touched_j2]at hF
    refine A.AX.cnb rfl hF (fun hb hF=>?_) (fun hb hF=>?_)
    ·refine A.xl 0 ?_
     refine A.q0 [51,569] [] [.b 0 0,.n,.b 1 0] [(49,.map (some b9)),(51,.int .i64 x45.1)] ?_
     refine A.AL.mup (t:=Z.Ty.bool) 50 [] (cs:=[.bool true]) (u:=true) ky3 x45.1 rfl ?_
     refine A.q0 [] [] [.n] [(10,.bool true)] ?_
     refine A.de 1 ?_
     exact A.j ⟨(Z.mins m36 x45.1 true),true,rfl,rfl,hF⟩
    refine A.xe 2 ?_
    exact A.j ⟨m36,y37,rfl,rfl,hF⟩
   rintro _ _ ⟨m42,y43,rfl,rfl,hF⟩
   rw[F.delta_Touched_j1]at hF
   refine A.xl 0 ?_
   obtain⟨hc44,hF⟩:=A.gd_some hF
   refine A.q [] [] [.n,.n] [Z.R64 (y38+1)] [(34,.int .i64 (y38+1))] hc44 ?_
   refine A.AL.done ?_
   exact A.j ⟨_,Nat.lt_succ_self _,⟨m42,y43,(y38+1),rfl,rfl,(Z.i64_has hc44),hF⟩⟩
  refine A.xe 2 ?_
  exact A.j ⟨_,Nat.lt_succ_self _,⟨m36,y37,rfl,rfl,hF⟩⟩
 refine A.xl 3 ?_
 refine A.q0 [48] [] [.n,.b 0 0] [(54,.slice A5 ((r3.1).length) c6)] ?_
 obtain⟨r59,hv60,hF⟩:=A.bd_some hF
 refine A.AL.call 611 [] (first:=[]) (cap:=[]) cf22 (delta_ids_ok r3.1 A5 c6 r59 hv60) (.l 8 .nil) ?_
 rintro _ _ ⟨A61,c62,rfl,rfl⟩
 refine⟨by kernel_rfl,?_⟩
 refine A.q0 [] [] [.n] [(56,.func (.func 26) #[] #[.pointer (some ⟨g10,0,none⟩)])] ?_
 obtain⟨r63,hv64,hF⟩:=A.bd_some hF
 refine A.AL.call 651 [] (first:=[]) (cap:=[]) cf25 (slices_DeleteFunc_int_int_delta_Touched_2_ok r59 m33 A61 c62 g10 b9 r63 hv64) (.m 611 (.b 51 (.lm 50 .nil))) ?_
 rintro _ _ ⟨A65,c66,rfl,rfl⟩
 refine⟨by kernel_rfl,?_⟩
 refine A.q0 [] [] [.n,.n] [(4,.slice A65 ((r63).length) c66),(5,.int .i64 0)] ?_
 refine A.dx 1 ?_
 obtain rfl:=Option.some.inj hF
 exact A.AX.rtM (Ds:=[D22]) [132] [(0,651)] (.tuple #[.slice A65 ((r63).length) c66,.int .i64 0]) (⟨rfl,trivial⟩) (fun a w hf hh=>Z.resv2 rfl (Z.rv_t hf rfl) (Z.rv_t hf rfl)) (⟨A65,c66,rfl,rfl,(A.hasl .i64 (0) rfl)⟩)
end Go.Proofs.YtocfaokgoflmhaaDoor
end
section
set_option linter.unusedVariables false
set_option linter.unusedSimpArgs false
set_option maxRecDepth 20000
set_option maxHeartbeats 8000000
set_option synthInstance.maxSize 1000000
set_option synthInstance.maxHeartbeats 400000
namespace Go.Proofs.YtocfaokgoflmhaaDoor
open Go.RowKit
def F.slices_Equal_int_int_l1 (a0:(List Int))(a1:(List Int)):Nat→Int→Option Bool
 |0,_=>none
 |f+1,y1=>if y1<((a0).length:Int)then((A.ix a0 y1).bind fun x4=>((A.ix a1 y1).bind fun x10=>(if x4≠x10 then(some false)else(A.gd (Z.R64 (y1+1)) ((F.slices_Equal_int_int_l1 a0 a1 f) (y1+1))))))else(some true)
def F.slices_Equal_int_int (a0:(List Int))(a1:(List Int)):Option Bool:=if((a0).length:Int)≠((a1).length:Int)then(some false)else(F.slices_Equal_int_int_l1 a0 a1 A.FU 0)
theorem slices_Equal_int_int_ok (a0:(List Int))(a1:(List Int))(A0_:Option Addr)(c1_:Nat)(A2_:Option Addr)(c3_:Nat)(r:Bool)(hF:F.slices_Equal_int_int a0 a1=some r):
    A.Ct Tryd.prog 12 [.slice A0_ ((a0).length) c1_,.slice A2_ ((a1).length) c3_] [(0,.ln (Z.Ty.int .i64) A0_ c1_ a0),(1,.ln (Z.Ty.int .i64) A2_ c3_ a1)] [] (fun v H'=>v=.bool r∧H'=[]):=by
 refine A.Ct.enter Tryd.func12 rfl Tryd.ntmps12 rfl fun w0 F0=>?_
 rw[F.slices_Equal_int_int]at hF
 refine A.xl 1 ?_
 refine A.q0 [] [] [.n] [] ?_
 refine A.dl 3 ?_
 refine A.q0 [] [] [.n,.n,.n,.n,.n] [(10,.bool (decide (((a0).length:Int)≠((a1).length:Int))))] ?_
 refine A.dx 1 ?_
 refine A.AX.cnd rfl hF (fun hb hF=>?_) (fun hb hF=>?_)
 ·refine A.xl 1 ?_
  refine A.q0 [] [] [.n] [(4,.bool false)] ?_
  refine A.dx 1 ?_
  obtain rfl:=Option.some.inj hF
  exact A.rt1 [] ⟨rfl,rfl⟩
 refine A.xl 4 ?_
 refine A.q0 [] [] [.n,.n,.n] [(12,.int .i64 ((a0).length:Int)),(13,.int .i64 0)] ?_
 refine A.dx 2 ?_
 refine A.lp_ [0,1,12] [0,1] (fun f nl nh=>∃(y1:Int),nl=[(13,.int .i64 y1)]∧nh=[]∧IntKind.i64.has y1∧F.slices_Equal_int_int_l1 a0 a1 f y1=some r) ⟨0,rfl,rfl,(A.hasl .i64 (0) rfl),hF⟩ ?_
 rintro f3 _ _ ⟨y1,rfl,rfl,hy2,hF⟩
 rcases f3 with _|f3
 ·exact A.no0 hF
 rw[F.slices_Equal_int_int_l1]at hF
 refine A.xl 1 ?_
 refine A.q0 [] [] [.n] [(14,.bool (decide (y1<((a0).length:Int))))] ?_
 refine A.dx 2 ?_
 refine A.AX.cnd rfl hF (fun hb hF=>?_) (fun hb hF=>?_)
 ·refine A.xl 5 ?_
  refine A.q0 [] [] [.n,.n] [(5,.int .i64 y1)] ?_
  refine A.dx 2 ?_
  refine A.AX.dr mixed 9 9 (A.mb 9 0) ?_
  refine A.hq A.pb [] [0,1] [] [] (A.mb 9 51) 5 [(0,.n),(1,.n),(4,.n),(5,.n)] [(16,.slice A0_ ((a0).length) c1_),(17,.int .i64 y1),(20,.slice A2_ ((a1).length) c3_),(21,.int .i64 y1)] ?_
  obtain⟨x4,hv5,hF⟩:=A.bd_some hF
  refine A.AH.pkl 0 6 hv5 fun ho6=>?_
  intro b8 o9 hA7
  refine A.AH.v A.pb [0,1] [0,1,6] 2 (A.mb 9 55) rfl (fun a w hf hh=>A.r_ixa (t:=(Z.Ty.int .i64)) hv5 hA7 hf) ?_
  refine A.hq A.pb [0,1,6] [0,1,6] [] [6] (A.mb 9 63) 3 [(3,.e 0 0)] [(19,.int .i64 x4)] ?_
  obtain⟨x10,hv11,hF⟩:=A.bd_some hF
  refine A.AH.pkl 1 7 hv11 fun ho12=>?_
  intro b14 o15 hA13
  refine A.AH.v A.pb [0,1,6] [0,1,6,7] 6 (A.mb 9 127) rfl (fun a w hf hh=>A.r_ixa (t:=(Z.Ty.int .i64)) hv11 hA13 hf) ?_
  refine A.hq A.pb [0,1,6,7] [0,1,6,7] [] [7] (A.mb 9 511) 0 [(7,.e 0 0),(8,.n)] [(24,.bool (decide (x4≠x10)))] ?_
  refine A.AH.done ?_
  refine A.ex 1 ?_
  refine A.AX.cnd rfl hF (fun hb hF=>?_) (fun hb hF=>?_)
  ·refine A.xl 1 ?_
   refine A.q0 [] [] [.n] [(4,.bool false)] ?_
   refine A.dx 1 ?_
   obtain rfl:=Option.some.inj hF
   exact A.rt1 [] ⟨rfl,rfl⟩
  refine A.xl 3 ?_
  obtain⟨hc16,hF⟩:=A.gd_some hF
  refine A.q [] [] [.n,.n] [Z.R64 (y1+1)] [(13,.int .i64 (y1+1))] hc16 ?_
  refine A.AL.done ?_
  exact A.j ⟨_,Nat.lt_succ_self _,⟨(y1+1),rfl,rfl,(Z.i64_has hc16),hF⟩⟩
 refine A.xl 3 ?_
 refine A.q0 [] [] [.n] [(4,.bool true)] ?_
 refine A.dx 1 ?_
 obtain rfl:=Option.some.inj hF
 exact A.rt1 [] ⟨rfl,rfl⟩
def F.L09_live_j1 (y19:Bool):Option Bool:=some y19
def F.L09_live:Option Bool:=(F.delta_Touched [(1,1,[],(0,0,ByteArray.mk #[]),ByteArray.mk #[105,110],0,0),(2,5,[1,1],(0,0,ByteArray.mk #[]),ByteArray.mk #[],0,0),(3,15,[2],(0,0,ByteArray.mk #[]),ByteArray.mk #[111,117,116],0,0)] ([],[(2,10,[1],(0,0,ByteArray.mk #[]),ByteArray.mk #[],0,0)],[])).bind fun r8=>((F.delta_Apply [(1,1,[],(0,0,ByteArray.mk #[]),ByteArray.mk #[105,110],0,0),(2,5,[1,1],(0,0,ByteArray.mk #[]),ByteArray.mk #[],0,0),(3,15,[2],(0,0,ByteArray.mk #[]),ByteArray.mk #[111,117,116],0,0)] ([],[(2,10,[1],(0,0,ByteArray.mk #[]),ByteArray.mk #[],0,0)],[])).bind fun r13=>(if(bif decide (r8.2=0)then decide (r13.2=0)else false)=true then((F.slices_Equal_int_int r8.1 [2,3]).bind fun r21=>(if(bif r21 then decide (((r13.1).length:Int)=3)else false)=true then((A.ix r13.1 1).bind fun x23=>(F.L09_live_j1 (decide (x23.2.1=10))))else(F.L09_live_j1 false)))else(F.L09_live_j1 false)))
theorem L09_live_ok (r:Bool)(hF:F.L09_live=some r):
    A.Ct Tryd.prog 4 [] [(0,.el none 0 0 A.tabF),(1,.el none 1 0 A.tabA)] [] (fun v H'=>v=.bool r∧H'=[]):=by
 refine A.Ct.enter Tryd.func4 rfl Tryd.ntmps4 rfl fun w0 F0=>?_
 rw[F.L09_live]at hF
 refine A.xl 1 ?_
 refine A.q0 [] [] [.n] [] ?_
 refine A.dl 2 ?_
 refine A.q0 [] [] [.n] [(7,.agg #[.int .i64 1,.int .i64 1,.slice none 0 0,.int .i64 0,.int .i64 0,.string (ByteArray.mk #[]),.string (ByteArray.mk #[105,110]),.int .i64 0,.int .i64 0])] ?_
 refine A.AL.bsl 2 (ty:=(Z.Ty.int .i64)) (cs:=[.int .i64 1,.int .i64 1]) [1,1] ⟨⟨rfl,(A.hasl .i64 (1) rfl)⟩,⟨⟨rfl,(A.hasl .i64 (1) rfl)⟩,rfl⟩⟩ (fun g1=>?_) Tryd.zeroValue3 Tryd.sizeOf3
 refine A.q0 [] [] [.n] [(9,.agg #[.int .i64 2,.int .i64 5,.slice (some ⟨g1,0,none⟩) 2 2,.int .i64 0,.int .i64 0,.string (ByteArray.mk #[]),.string (ByteArray.mk #[]),.int .i64 0,.int .i64 0])] ?_
 refine A.AL.bsl 3 (ty:=(Z.Ty.int .i64)) (cs:=[.int .i64 2]) [2] ⟨⟨rfl,(A.hasl .i64 (2) rfl)⟩,rfl⟩ (fun g2=>?_) Tryd.zeroValue3 Tryd.sizeOf3
 refine A.q0 [] [] [.n] [(11,.agg #[.int .i64 3,.int .i64 15,.slice (some ⟨g2,0,none⟩) 1 1,.int .i64 0,.int .i64 0,.string (ByteArray.mk #[]),.string (ByteArray.mk #[111,117,116]),.int .i64 0,.int .i64 0])] ?_
 refine A.frz 2 [] ?_
 refine A.frz 3 [] ?_
 refine A.AL.bsl 4 (ty:=T42) (cs:=[.int .i64 1,.int .i64 1,.slice none 0 0,.int .i64 0,.int .i64 0,.string (ByteArray.mk #[]),.string (ByteArray.mk #[105,110]),.int .i64 0,.int .i64 0,.int .i64 2,.int .i64 5,.slice (some ⟨g1,0,none⟩) 2 2,.int .i64 0,.int .i64 0,.string (ByteArray.mk #[]),.string (ByteArray.mk #[]),.int .i64 0,.int .i64 0,.int .i64 3,.int .i64 15,.slice (some ⟨g2,0,none⟩) 1 1,.int .i64 0,.int .i64 0,.string (ByteArray.mk #[]),.string (ByteArray.mk #[111,117,116]),.int .i64 0,.int .i64 0]) [(1,1,[],(0,0,ByteArray.mk #[]),ByteArray.mk #[105,110],0,0),(2,5,[1,1],(0,0,ByteArray.mk #[]),ByteArray.mk #[],0,0),(3,15,[2],(0,0,ByteArray.mk #[]),ByteArray.mk #[111,117,116],0,0)] ⟨⟨⟨rfl,(A.hasl .i64 (1) rfl)⟩,⟨rfl,(A.hasl .i64 (1) rfl)⟩,.inr ⟨rfl,rfl⟩,⟨⟨rfl,(A.hasl .i64 (0) rfl)⟩,⟨rfl,(A.hasl .i64 (0) rfl)⟩,⟨rfl,(A.szl (ByteArray.mk #[]) rfl)⟩⟩,⟨rfl,(A.szl (ByteArray.mk #[105,110]) rfl)⟩,⟨rfl,(A.hasl .i64 (0) rfl)⟩,⟨rfl,(A.hasl .i64 (0) rfl)⟩⟩,⟨⟨⟨rfl,(A.hasl .i64 (2) rfl)⟩,⟨rfl,(A.hasl .i64 (5) rfl)⟩,.inl ⟨2,rfl⟩,⟨⟨rfl,(A.hasl .i64 (0) rfl)⟩,⟨rfl,(A.hasl .i64 (0) rfl)⟩,⟨rfl,(A.szl (ByteArray.mk #[]) rfl)⟩⟩,⟨rfl,(A.szl (ByteArray.mk #[]) rfl)⟩,⟨rfl,(A.hasl .i64 (0) rfl)⟩,⟨rfl,(A.hasl .i64 (0) rfl)⟩⟩,⟨⟨⟨rfl,(A.hasl .i64 (3) rfl)⟩,⟨rfl,(A.hasl .i64 (15) rfl)⟩,.inl ⟨3,rfl⟩,⟨⟨rfl,(A.hasl .i64 (0) rfl)⟩,⟨rfl,(A.hasl .i64 (0) rfl)⟩,⟨rfl,(A.szl (ByteArray.mk #[]) rfl)⟩⟩,⟨rfl,(A.szl (ByteArray.mk #[111,117,116]) rfl)⟩,⟨rfl,(A.hasl .i64 (0) rfl)⟩,⟨rfl,(A.hasl .i64 (0) rfl)⟩⟩,rfl⟩⟩⟩ (fun g3=>?_) Tryd.zeroValue43 Tryd.sizeOf43
 refine A.q0 [] [] [.n] [(13,.agg #[.slice (some ⟨g3,0,none⟩) 3 3])] ?_
 refine A.AL.alloc 5 (cs:=[.slice none 0 0]) Tryd.zeroValue24 fun g4=>?_
 refine A.sw 5 [] [.slice (some ⟨g3,0,none⟩) 3 3] ?_
 refine A.dl 2 ?_
 refine A.AL.bsl 6 (ty:=(Z.Ty.int .i64)) (cs:=[.int .i64 1]) [1] ⟨⟨rfl,(A.hasl .i64 (1) rfl)⟩,rfl⟩ (fun g5=>?_) Tryd.zeroValue3 Tryd.sizeOf3
 refine A.q0 [] [] [.n] [(15,.agg #[.int .i64 2,.int .i64 10,.slice (some ⟨g5,0,none⟩) 1 1,.int .i64 0,.int .i64 0,.string (ByteArray.mk #[]),.string (ByteArray.mk #[]),.int .i64 0,.int .i64 0])] ?_
 refine A.frz 6 [] ?_
 refine A.AL.bsl 7 (ty:=T42) (cs:=[.int .i64 2,.int .i64 10,.slice (some ⟨g5,0,none⟩) 1 1,.int .i64 0,.int .i64 0,.string (ByteArray.mk #[]),.string (ByteArray.mk #[]),.int .i64 0,.int .i64 0]) [(2,10,[1],(0,0,ByteArray.mk #[]),ByteArray.mk #[],0,0)] ⟨⟨⟨rfl,(A.hasl .i64 (2) rfl)⟩,⟨rfl,(A.hasl .i64 (10) rfl)⟩,.inl ⟨6,rfl⟩,⟨⟨rfl,(A.hasl .i64 (0) rfl)⟩,⟨rfl,(A.hasl .i64 (0) rfl)⟩,⟨rfl,(A.szl (ByteArray.mk #[]) rfl)⟩⟩,⟨rfl,(A.szl (ByteArray.mk #[]) rfl)⟩,⟨rfl,(A.hasl .i64 (0) rfl)⟩,⟨rfl,(A.hasl .i64 (0) rfl)⟩⟩,rfl⟩ (fun g6=>?_) Tryd.zeroValue43 Tryd.sizeOf43
 refine A.q0 [] [] [.n] [(17,.agg #[.slice none 0 0,.slice (some ⟨g6,0,none⟩) 1 1,.slice none 0 0])] ?_
 refine A.AL.alloc 8 (cs:=[.slice none 0 0,.slice none 0 0,.slice none 0 0]) Tryd.zeroValue28 fun g7=>?_
 refine A.sw 8 [] [.slice none 0 0,.slice (some ⟨g6,0,none⟩) 1 1,.slice none 0 0] ?_
 refine A.dl 2 ?_
 refine A.q0 [5,8] [] [.b 0 0,.b 1 0] [(19,.agg #[.slice (some ⟨g3,0,none⟩) 3 3]),(20,.agg #[.slice none 0 0,.slice (some ⟨g6,0,none⟩) 1 1,.slice none 0 0])] ?_
 refine A.frz 4 [] ?_
 refine A.frz 7 [] ?_
 obtain⟨r8,hv9,hF⟩:=A.bd_some hF
 refine A.AL.call 9 [] (first:=[]) (cap:=[]) cf11 (delta_Touched_ok [(1,1,[],(0,0,ByteArray.mk #[]),ByteArray.mk #[105,110],0,0),(2,5,[1,1],(0,0,ByteArray.mk #[]),ByteArray.mk #[],0,0),(3,15,[2],(0,0,ByteArray.mk #[]),ByteArray.mk #[111,117,116],0,0)] ([],[(2,10,[1],(0,0,ByteArray.mk #[]),ByteArray.mk #[],0,0)],[]) (some ⟨g3,0,none⟩) 3 none 0 (some ⟨g6,0,none⟩) 1 none 0 r8 hv9) (.s 4 (.ns (.s 7 (.ns (.s 0 (.s 1 .nil)))))) ?_
 rintro _ _ ⟨A10,c11,rfl,rfl,hr12⟩
 refine⟨by kernel_rfl,?_⟩
 refine A.q0 [] [] [.n,.n,.n,.n,.n] [(3,.slice A10 ((r8.1).length) c11),(4,.int .i64 r8.2)] ?_
 refine A.dl 2 ?_
 refine A.q0 [5,8] [] [.b 0 0,.b 1 0] [(25,.agg #[.slice (some ⟨g3,0,none⟩) 3 3]),(26,.agg #[.slice none 0 0,.slice (some ⟨g6,0,none⟩) 1 1,.slice none 0 0])] ?_
 obtain⟨r13,hv14,hF⟩:=A.bd_some hF
 refine A.AL.call 49 [] (first:=[]) (cap:=[]) cf8 (delta_Apply_ok [(1,1,[],(0,0,ByteArray.mk #[]),ByteArray.mk #[105,110],0,0),(2,5,[1,1],(0,0,ByteArray.mk #[]),ByteArray.mk #[],0,0),(3,15,[2],(0,0,ByteArray.mk #[]),ByteArray.mk #[111,117,116],0,0)] ([],[(2,10,[1],(0,0,ByteArray.mk #[]),ByteArray.mk #[],0,0)],[]) (some ⟨g3,0,none⟩) 3 none 0 (some ⟨g6,0,none⟩) 1 none 0 r13 hv14) (.s 4 (.ns (.s 7 (.ns (.s 0 (.s 1 .nil)))))) ?_
 rintro _ _ ⟨A15,c16,rfl,rfl,hr17⟩
 refine⟨by kernel_rfl,?_⟩
 refine A.q0 [] [] [.n,.n,.n] [(28,.agg #[.slice A15 ((r13.1).length) c16]),(29,.int .i64 r13.2)] ?_
 refine A.AL.alloc 89 (cs:=[.slice none 0 0]) Tryd.zeroValue24 fun g18=>?_
 refine A.sw 89 [] [.slice A15 ((r13.1).length) c16] ?_
 refine A.q0 [] [] [.n] [(6,.int .i64 r13.2)] ?_
 refine A.dx 1 ?_
 refine A.AX.join [] [0,1] (fun nl nh=>∃(y19:Bool),nl=[(0,.bool y19)]∧nh=[]∧F.L09_live_j1 y19=some r) ?_ ?_
 ·refine A.xl 0 ?_
  refine A.q0 [] [] [.n,.n,.n,.sy .n,.sy .n,.pk,.n] [(36,.bool (bif decide (r8.2=0)then decide (r13.2=0)else false))] ?_
  refine A.AL.cnd (j:=36) rfl hF (fun hF=>?_) (fun hF=>?_)
  ·refine A.q0 [] [] [.on .n] [(37,.slice A10 ((r8.1).length) c11)] ?_
   refine A.AL.on (dj:=36) rfl rfl ?_
   refine A.AL.bsl 90 (ty:=(Z.Ty.int .i64)) (cs:=[.int .i64 2,.int .i64 3]) [2,3] ⟨⟨rfl,(A.hasl .i64 (2) rfl)⟩,⟨⟨rfl,(A.hasl .i64 (3) rfl)⟩,rfl⟩⟩ (fun g20=>?_) Tryd.zeroValue3 Tryd.sizeOf3
   refine A.AL.on (dj:=36) rfl rfl ?_
   obtain⟨r21,hv22,hF⟩:=A.bd_some hF
   refine A.AL.call 91 [] (first:=[]) (cap:=[]) cf12 (slices_Equal_int_int_ok r8.1 [2,3] A10 c11 (some ⟨g20,0,none⟩) 2 r21 hv22) (.l 9 (.o 90 .nil)) ?_
   rintro _ _ ⟨rfl,rfl⟩
   refine⟨by kernel_rfl,?_⟩
   refine A.q0 [89] [] [.n,.n,.sy .n,.sy (.b 0 0),.sy .n,.sy .n,.pk,.n] [(47,.bool (bif r21 then decide (((r13.1).length:Int)=3)else false))] ?_
   refine A.AL.cnd (j:=47) rfl hF (fun hF=>?_) (fun hF=>?_)
   ·refine A.q0 [89] [] [.on .n,.on (.b 0 0)] [(49,.slice A15 ((r13.1).length) c16)] ?_
    refine A.AL.on (dj:=47) rfl rfl ?_
    obtain⟨x23,hv24,hF⟩:=A.bd_some hF
    refine A.AL.ixs 49 131 hv24 fun ho25=>?_
    intro A26 c27 b28 o29
    refine A.q0 [] [131] [.on .n,.on (.e 0 1),.on .n,.n,.n] [(0,.bool (decide (x23.2.1=10)))] ?_
    refine A.AL.done ?_
    exact A.j ⟨(decide (x23.2.1=10)),rfl,rfl,hF⟩
   refine A.q0 [] [] [.off,.off,.off,.off,.off,.off,.n,.n] [(0,.bool false)] ?_
   refine A.AL.done ?_
   exact A.j ⟨false,rfl,rfl,hF⟩
  refine A.q0 [] [] [.off,.off,.off,.n,.n,.off,.off,.off,.off,.n,.n,.off,.off,.off,.off,.off,.off,.n,.n] [(0,.bool false)] ?_
  refine A.AL.done ?_
  exact A.j ⟨false,rfl,rfl,hF⟩
 rintro _ _ ⟨y19,rfl,rfl,hF⟩
 rw[F.L09_live_j1]at hF
 obtain rfl:=Option.some.inj hF
 exact A.rt1 [] ⟨rfl,rfl⟩
def F.L09_few_l1 (k3:Int→Option Bool)(y1:Int)(x4:(List D42)):Nat→Int→Option Bool
 |0,_=>none
 |f+1,y11=>if y11<((x4).length:Int)then((A.ix x4 y11).bind fun x14=>(if(bif bif decide ((20:Int)<((x14.2.2.1).length:Int))then true else decide ((300:Int)<(x14.2.2.2.2.1.size:Int))then true else decide ((300:Int)<(x14.2.2.2.1.2.2.size:Int)))=true then(some false)else(A.gd (Z.R64 (y11+1)) ((F.L09_few_l1 k3 y1 x4 f) (y11+1)))))else(A.gd (Z.R64 (y1+1)) (k3 (y1+1)))
def F.L09_few_l2 (a0:(List (List D42))):Nat→Int→Option Bool
 |0,_=>none
 |f+1,y1=>if y1<((a0).length:Int)then((A.ix a0 y1).bind fun x4=>(if(60:Int)<((x4).length:Int)then(some false)else(F.L09_few_l1 (F.L09_few_l2 a0 f) y1 x4 A.FU 0)))else(some true)
def F.L09_few (a0:(List (List D42))):Option Bool:=F.L09_few_l2 a0 A.FU 0
theorem L09_few_ok (a0:(List (List D42)))(A0_:Option Addr)(c1_:Nat)(r:Bool)(hF:F.L09_few a0=some r):
    A.Ct Tryd.prog 5 [.slice A0_ ((a0).length) c1_] [(0,.ln (Z.Ty.slice T42) A0_ c1_ a0)] [] (fun v H'=>v=.bool r∧H'=[]):=by
 refine A.Ct.enter Tryd.func5 rfl Tryd.ntmps5 rfl fun w0 F0=>?_
 rw[F.L09_few]at hF
 refine A.xl 1 ?_
 refine A.q0 [] [] [.n] [] ?_
 refine A.dl 3 ?_
 refine A.q0 [] [] [.n,.n,.n] [(7,.slice A0_ ((a0).length) c1_),(8,.int .i64 ((a0).length:Int)),(9,.int .i64 0)] ?_
 refine A.dx 2 ?_
 refine A.lp_ [7,8] [0] (fun f nl nh=>∃(y1:Int),nl=[(9,.int .i64 y1)]∧nh=[]∧IntKind.i64.has y1∧F.L09_few_l2 a0 f y1=some r) ⟨0,rfl,rfl,(A.hasl .i64 (0) rfl),hF⟩ ?_
 rintro f3 _ _ ⟨y1,rfl,rfl,hy2,hF⟩
 rcases f3 with _|f3
 ·exact A.no0 hF
 rw[F.L09_few_l2]at hF
 refine A.xl 1 ?_
 refine A.q0 [] [] [.n] [(10,.bool (decide (y1<((a0).length:Int))))] ?_
 refine A.dx 2 ?_
 refine A.AX.cnd rfl hF (fun hb hF=>?_) (fun hb hF=>?_)
 ·refine A.xl 5 ?_
  obtain⟨x4,hv5,hF⟩:=A.bd_some hF
  refine A.AL.ixl 0 23 hv5 fun ho6=>?_
  intro A7 c8 b9 o10
  refine A.q0 [] [23] [.e 0 0,.n] [(4,.slice A7 ((x4).length) c8)] ?_
  refine A.dl 3 ?_
  refine A.q0 [] [] [.n,.n,.n] [(15,.bool (decide ((60:Int)<((x4).length:Int))))] ?_
  refine A.dx 1 ?_
  refine A.AX.cnd rfl hF (fun hb hF=>?_) (fun hb hF=>?_)
  ·refine A.xl 1 ?_
   refine A.q0 [] [] [.n] [(2,.bool false)] ?_
   refine A.dx 1 ?_
   obtain rfl:=Option.some.inj hF
   exact A.rt1 [] ⟨rfl,rfl⟩
  refine A.xl 3 ?_
  refine A.q0 [] [] [.n,.n,.n] [(16,.slice A7 ((x4).length) c8),(17,.int .i64 ((x4).length:Int)),(18,.int .i64 0)] ?_
  refine A.dx 2 ?_
  refine A.lp_ [7,8,9,16,17] [0,24] (fun f nl nh=>∃(y11:Int),nl=[(18,.int .i64 y11)]∧nh=[]∧IntKind.i64.has y11∧F.L09_few_l1 (F.L09_few_l2 a0 f3) y1 x4 f y11=some r) ⟨0,rfl,rfl,(A.hasl .i64 (0) rfl),hF⟩ ?_
  rintro f13 _ _ ⟨y11,rfl,rfl,hy12,hF⟩
  rcases f13 with _|f13
  ·exact A.no0 hF
  rw[F.L09_few_l1]at hF
  refine A.xl 1 ?_
  refine A.q0 [] [] [.n] [(19,.bool (decide (y11<((x4).length:Int))))] ?_
  refine A.dx 2 ?_
  refine A.AX.cnd rfl hF (fun hb hF=>?_) (fun hb hF=>?_)
  ·refine A.xl 5 ?_
   obtain⟨x14,hv15,hF⟩:=A.bd_some hF
   refine A.AL.ixs 24 31 hv15 fun ho16=>?_
   intro A17 c18 b19 o20
   refine A.q0 [] [31] [.e 0 0] [(21,.agg #[.int .i64 x14.1,.int .i64 x14.2.1,.slice A17 ((x14.2.2.1).length) c18,.int .i64 x14.2.2.2.1.1,.int .i64 x14.2.2.2.1.2.1,.string x14.2.2.2.1.2.2,.string x14.2.2.2.2.1,.int .i64 x14.2.2.2.2.2.1,.int .i64 x14.2.2.2.2.2.2])] ?_
   refine A.AL.alloc 33 (cs:=[.int .i64 0,.int .i64 0,.slice none 0 0,.int .i64 0,.int .i64 0,.string (ByteArray.mk #[]),.string (ByteArray.mk #[]),.int .i64 0,.int .i64 0]) Tryd.zeroValue43 fun g21=>?_
   refine A.sw 33 [] [.int .i64 x14.1,.int .i64 x14.2.1,.slice A17 ((x14.2.2.1).length) c18,.int .i64 x14.2.2.2.1.1,.int .i64 x14.2.2.2.1.2.1,.string x14.2.2.2.1.2.2,.string x14.2.2.2.2.1,.int .i64 x14.2.2.2.2.2.1,.int .i64 x14.2.2.2.2.2.2] ?_
   refine A.dl 2 ?_
   refine A.q0 [33] [] [.n,.b 0 2,.n,.n,.n,.sy .n,.sy (.b 0 6),.sy .n,.sy .n,.pk,.n,.sy .n,.sy .n,.sy (.b 0 5),.sy .n,.sy .n,.pk] [(38,.bool (bif bif decide ((20:Int)<((x14.2.2.1).length:Int))then true else decide ((300:Int)<(x14.2.2.2.2.1.size:Int))then true else decide ((300:Int)<(x14.2.2.2.1.2.2.size:Int))))] ?_
   refine A.dx 1 ?_
   refine A.AX.cnb rfl hF (fun hb hF=>?_) (fun hb hF=>?_)
   ·refine A.xl 1 ?_
    refine A.q0 [] [] [.n] [(2,.bool false)] ?_
    refine A.dx 1 ?_
    obtain rfl:=Option.some.inj hF
    exact A.rt1 [] ⟨rfl,rfl⟩
   refine A.xl 3 ?_
   obtain⟨hc22,hF⟩:=A.gd_some hF
   refine A.q [] [] [.n,.n] [Z.R64 (y11+1)] [(18,.int .i64 (y11+1))] hc22 ?_
   refine A.AL.done ?_
   exact A.j ⟨_,Nat.lt_succ_self _,⟨(y11+1),rfl,rfl,(Z.i64_has hc22),hF⟩⟩
  refine A.xl 3 ?_
  obtain⟨hc23,hF⟩:=A.gd_some hF
  refine A.q [] [] [.n,.n] [Z.R64 (y1+1)] [(9,.int .i64 (y1+1))] hc23 ?_
  refine A.AL.done ?_
  exact A.j ⟨_,Nat.lt_succ_self _,⟨(y1+1),rfl,rfl,(Z.i64_has hc23),hF⟩⟩
 refine A.xl 3 ?_
 refine A.q0 [] [] [.n] [(2,.bool true)] ?_
 refine A.dx 1 ?_
 obtain rfl:=Option.some.inj hF
 exact A.rt1 [] ⟨rfl,rfl⟩
def F.L09_thin (a0:D27):Option Bool:=(F.L09_few [a0.2.1]).bind fun r3=>(some (bif bif r3 then decide (((a0.1).length:Int)≤60)else false then decide (((a0.2.2).length:Int)≤60)else false))
theorem L09_thin_ok (a0:D27)(A0_:Option Addr)(c1_:Nat)(A2_:Option Addr)(c3_:Nat)(A4_:Option Addr)(c5_:Nat)(r:Bool)(hF:F.L09_thin a0=some r):
    A.Ct Tryd.prog 6 [.agg #[.slice A0_ ((a0.1).length) c1_,.slice A2_ ((a0.2.1).length) c3_,.slice A4_ ((a0.2.2).length) c5_]] [(0,.sh (.slice (Z.Ty.int .i64)) [.slice A0_ (a0.1).length c1_] a0.1),(1,.sh (.slice T42) [.slice A2_ (a0.2.1).length c3_] a0.2.1),(2,.sh (.slice T83) [.slice A4_ (a0.2.2).length c5_] a0.2.2)] [] (fun v H'=>v=.bool r∧H'=[]):=by
 refine A.Ct.enter Tryd.func6 rfl Tryd.ntmps6 rfl fun w0 F0=>?_
 rw[F.L09_thin]at hF
 refine A.xl 1 ?_
 refine A.AL.box 3 (cs:=[.slice A0_ ((a0.1).length) c1_,.slice A2_ ((a0.2.1).length) c3_,.slice A4_ ((a0.2.2).length) c5_]) fun g1=>?_
 refine A.q0 [] [] [.n] [] ?_
 refine A.dl 2 ?_
 refine A.q0 [3] [] [.n,.b 0 1] [(4,.slice A2_ ((a0.2.1).length) c3_)] ?_
 refine A.AL.bsl 4 (ty:=(Z.Ty.slice T42)) (cs:=[.slice A2_ ((a0.2.1).length) c3_]) [a0.2.1] ⟨.inl ⟨1,rfl⟩,rfl⟩ (fun g2=>?_) Tryd.zeroValue22 Tryd.sizeOf22
 obtain⟨r3,hv4,hF⟩:=A.bd_some hF
 refine A.AL.call 5 [] (first:=[]) (cap:=[]) cf5 (L09_few_ok [a0.2.1] (some ⟨g2,0,none⟩) 1 r3 hv4) (.o 4 .nil) ?_
 rintro _ _ ⟨rfl,rfl⟩
 refine⟨by kernel_rfl,?_⟩
 refine A.q0 [3] [] [.n,.sy .n,.sy (.b 0 0),.sy .n,.sy .n,.pk,.n,.sy .n,.sy (.b 0 2),.sy .n,.sy .n,.pk,.n] [(2,.bool (bif bif r3 then decide (((a0.1).length:Int)≤60)else false then decide (((a0.2.2).length:Int)≤60)else false))] ?_
 refine A.dx 1 ?_
 obtain rfl:=Option.some.inj hF
 exact A.rt1 [] ⟨rfl,rfl⟩
def F.graph_same_j1 (y3:Bool):Option Bool:=some y3
def F.graph_same (a0:D42)(a1:D42):Option Bool:=if(bif decide (a0.1=a1.1)then decide (a0.2.1=a1.2.1)else false)=true then((F.slices_Equal_int_int a0.2.2.1 a1.2.2.1).bind fun r4=>(if r4=true then(F.graph_same_j1 (bif bif bif decide ((a0.2.2.2.1.1,a0.2.2.2.1.2.1,a0.2.2.2.1.2.2)=(a1.2.2.2.1.1,a1.2.2.2.1.2.1,a1.2.2.2.1.2.2))then decide (a0.2.2.2.2.1=a1.2.2.2.2.1)else false then decide (a0.2.2.2.2.2.1=a1.2.2.2.2.2.1)else false then decide (a0.2.2.2.2.2.2=a1.2.2.2.2.2.2)else false))else(F.graph_same_j1 false)))else(F.graph_same_j1 false)
theorem graph_same_ok (a0:D42)(a1:D42)(A2_:Option Addr)(c3_:Nat)(A12_:Option Addr)(c13_:Nat)(h0_:IntKind.i64.has a0.1)(h1_:IntKind.i64.has a0.2.1)(h4_:IntKind.i64.has a0.2.2.2.1.1)(h5_:IntKind.i64.has a0.2.2.2.1.2.1)(h6_:a0.2.2.2.1.2.2.size≤maxLen)(h7_:a0.2.2.2.2.1.size≤maxLen)(h8_:IntKind.i64.has a0.2.2.2.2.2.1)(h9_:IntKind.i64.has a0.2.2.2.2.2.2)(h10_:IntKind.i64.has a1.1)(h11_:IntKind.i64.has a1.2.1)(h14_:IntKind.i64.has a1.2.2.2.1.1)(h15_:IntKind.i64.has a1.2.2.2.1.2.1)(h16_:a1.2.2.2.1.2.2.size≤maxLen)(h17_:a1.2.2.2.2.1.size≤maxLen)(h18_:IntKind.i64.has a1.2.2.2.2.2.1)(h19_:IntKind.i64.has a1.2.2.2.2.2.2)(r:Bool)(hF:F.graph_same a0 a1=some r):
    A.Ct Tryd.prog 29 [.agg #[.int .i64 a0.1,.int .i64 a0.2.1,.slice A2_ ((a0.2.2.1).length) c3_,.int .i64 a0.2.2.2.1.1,.int .i64 a0.2.2.2.1.2.1,.string a0.2.2.2.1.2.2,.string a0.2.2.2.2.1,.int .i64 a0.2.2.2.2.2.1,.int .i64 a0.2.2.2.2.2.2],.agg #[.int .i64 a1.1,.int .i64 a1.2.1,.slice A12_ ((a1.2.2.1).length) c13_,.int .i64 a1.2.2.2.1.1,.int .i64 a1.2.2.2.1.2.1,.string a1.2.2.2.1.2.2,.string a1.2.2.2.2.1,.int .i64 a1.2.2.2.2.2.1,.int .i64 a1.2.2.2.2.2.2]] [(0,.sh (.slice (Z.Ty.int .i64)) [.slice A2_ (a0.2.2.1).length c3_] a0.2.2.1),(1,.sh (.slice (Z.Ty.int .i64)) [.slice A12_ (a1.2.2.1).length c13_] a1.2.2.1)] [] (fun v H'=>v=.bool r∧H'=[]):=by
 refine A.Ct.enter Tryd.func29 rfl Tryd.ntmps29 rfl fun w0 F0=>?_
 rw[F.graph_same]at hF
 refine A.xl 1 ?_
 refine A.AL.box 2 (cs:=[.int .i64 a0.1,.int .i64 a0.2.1,.slice A2_ ((a0.2.2.1).length) c3_,.int .i64 a0.2.2.2.1.1,.int .i64 a0.2.2.2.1.2.1,.string a0.2.2.2.1.2.2,.string a0.2.2.2.2.1,.int .i64 a0.2.2.2.2.2.1,.int .i64 a0.2.2.2.2.2.2]) fun g1=>?_
 refine A.AL.box 3 (cs:=[.int .i64 a1.1,.int .i64 a1.2.1,.slice A12_ ((a1.2.2.1).length) c13_,.int .i64 a1.2.2.2.1.1,.int .i64 a1.2.2.2.1.2.1,.string a1.2.2.2.1.2.2,.string a1.2.2.2.2.1,.int .i64 a1.2.2.2.2.2.1,.int .i64 a1.2.2.2.2.2.2]) fun g2=>?_
 refine A.q0 [] [] [.n] [] ?_
 refine A.dx 1 ?_
 refine A.AX.join [] [] (fun nl nh=>∃(y3:Bool),nl=[(4,.bool y3)]∧nh=[]∧F.graph_same_j1 y3=some r) ?_ ?_
 ·refine A.xl 0 ?_
  refine A.q0 [2,3] [] [.n,.b 0 0,.n,.b 1 0,.n,.n,.sy .n,.sy (.b 0 1),.sy .n,.sy (.b 1 1),.sy .n,.pk,.n] [(17,.bool (bif decide (a0.1=a1.1)then decide (a0.2.1=a1.2.1)else false))] ?_
  refine A.AL.cnd (j:=17) rfl hF (fun hF=>?_) (fun hF=>?_)
  ·refine A.q0 [2,3] [] [.on .n,.on (.b 0 2),.on .n,.on (.b 1 2)] [(19,.slice A2_ ((a0.2.2.1).length) c3_),(21,.slice A12_ ((a1.2.2.1).length) c13_)] ?_
   refine A.AL.on (dj:=17) rfl rfl ?_
   obtain⟨r4,hv5,hF⟩:=A.bd_some hF
   refine A.AL.call 4 [] (first:=[]) (cap:=[]) cf12 (slices_Equal_int_int_ok a0.2.2.1 a1.2.2.1 A2_ c3_ A12_ c13_ r4 hv5) (.l 0 (.l 1 .nil)) ?_
   rintro _ _ ⟨rfl,rfl⟩
   refine⟨by kernel_rfl,?_⟩
   refine A.q0 [] [] [.n,.n] [(24,.bool r4)] ?_
   refine A.AL.cnd (j:=24) rfl hF (fun hF=>?_) (fun hF=>?_)
   ·refine A.q0 [2,3] [] [.on .n,.on (.b 0 3),.on .n,.on (.b 1 3)] [(26,.agg #[.int .i64 a0.2.2.2.1.1,.int .i64 a0.2.2.2.1.2.1,.string a0.2.2.2.1.2.2]),(28,.agg #[.int .i64 a1.2.2.2.1.1,.int .i64 a1.2.2.2.1.2.1,.string a1.2.2.2.1.2.2])] ?_
    refine A.AL.on (dj:=24) rfl rfl ?_
    refine A.AL.val rfl (fun a w hf hh=>eqagg_eql41 (x:=(a0.2.2.2.1.1,a0.2.2.2.1.2.1,a0.2.2.2.1.2.2)) (y:=(a1.2.2.2.1.1,a1.2.2.2.1.2.1,a1.2.2.2.1.2.2)) (hf.eval rfl) (hf.eval rfl)) ?_
    refine A.q0 [2,3] [] [.n,.n,.sy .n,.sy (.b 0 6),.sy .n,.sy (.b 1 6),.sy .n,.pk,.n,.sy .n,.sy (.b 0 7),.sy .n,.sy (.b 1 7),.sy .n,.pk,.n,.sy .n,.sy (.b 0 8),.sy .n,.sy (.b 1 8),.sy .n,.pk,.n] [(4,.bool (bif bif bif decide ((a0.2.2.2.1.1,a0.2.2.2.1.2.1,a0.2.2.2.1.2.2)=(a1.2.2.2.1.1,a1.2.2.2.1.2.1,a1.2.2.2.1.2.2))then decide (a0.2.2.2.2.1=a1.2.2.2.2.1)else false then decide (a0.2.2.2.2.2.1=a1.2.2.2.2.2.1)else false then decide (a0.2.2.2.2.2.2=a1.2.2.2.2.2.2)else false))] ?_
    refine A.AL.done ?_
    exact A.j ⟨(bif bif bif decide ((a0.2.2.2.1.1,a0.2.2.2.1.2.1,a0.2.2.2.1.2.2)=(a1.2.2.2.1.1,a1.2.2.2.1.2.1,a1.2.2.2.1.2.2))then decide (a0.2.2.2.2.1=a1.2.2.2.2.1)else false then decide (a0.2.2.2.2.2.1=a1.2.2.2.2.2.1)else false then decide (a0.2.2.2.2.2.2=a1.2.2.2.2.2.2)else false),rfl,rfl,hF⟩
   refine A.q0 [] [] [.off,.off,.off,.off,.off,.n,.n,.off,.off,.off,.off,.off,.n,.n,.off,.off,.off,.off,.off,.n,.n,.off,.off,.off,.off,.off,.n,.n] [(4,.bool false)] ?_
   refine A.AL.done ?_
   exact A.j ⟨false,rfl,rfl,hF⟩
  refine A.q0 [] [] [.off,.off,.off,.off,.off,.n,.n,.off,.off,.off,.off,.off,.n,.n,.off,.off,.off,.off,.off,.n,.n,.off,.off,.off,.off,.off,.n,.n,.off,.off,.off,.off,.off,.n,.n] [(4,.bool false)] ?_
  refine A.AL.done ?_
  exact A.j ⟨false,rfl,rfl,hF⟩
 rintro _ _ ⟨y3,rfl,rfl,hF⟩
 rw[F.graph_same_j1]at hF
 obtain rfl:=Option.some.inj hF
 exact A.rt1 [] ⟨rfl,rfl⟩
end Go.Proofs.YtocfaokgoflmhaaDoor
end
section
set_option linter.unusedVariables false
set_option linter.unusedSimpArgs false
set_option maxRecDepth 20000
set_option maxHeartbeats 8000000
set_option synthInstance.maxSize 1000000
set_option synthInstance.maxHeartbeats 400000
namespace Go.Proofs.YtocfaokgoflmhaaDoor
open Go.RowKit
def F.slices_EqualFunc_api_Node_api_Node_api_Node_api_Node_graph_same_l1 (a0:(List D42))(a1:(List D42)):Nat→Int→Option Bool
 |0,_=>none
 |f+1,y1=>if y1<((a0).length:Int)then((A.ix a0 y1).bind fun x4=>((A.ix a1 y1).bind fun x12=>((F.graph_same (x4.1,x4.2.1,x4.2.2.1,(x4.2.2.2.1.1,x4.2.2.2.1.2.1,x4.2.2.2.1.2.2),x4.2.2.2.2.1,x4.2.2.2.2.2.1,x4.2.2.2.2.2.2) (x12.1,x12.2.1,x12.2.2.1,(x12.2.2.2.1.1,x12.2.2.2.1.2.1,x12.2.2.2.1.2.2),x12.2.2.2.2.1,x12.2.2.2.2.2.1,x12.2.2.2.2.2.2)).bind fun r20=>(if(!r20)=true then(some false)else(A.gd (Z.R64 (y1+1)) ((F.slices_EqualFunc_api_Node_api_Node_api_Node_api_Node_graph_same_l1 a0 a1 f) (y1+1)))))))else(some true)
def F.slices_EqualFunc_api_Node_api_Node_api_Node_api_Node_graph_same (a0:(List D42))(a1:(List D42)):Option Bool:=if((a0).length:Int)≠((a1).length:Int)then(some false)else(F.slices_EqualFunc_api_Node_api_Node_api_Node_api_Node_graph_same_l1 a0 a1 A.FU 0)
theorem slices_EqualFunc_api_Node_api_Node_api_Node_api_Node_graph_same_ok (a0:(List D42))(a1:(List D42))(A0_:Option Addr)(c1_:Nat)(A2_:Option Addr)(c3_:Nat)(r:Bool)(hF:F.slices_EqualFunc_api_Node_api_Node_api_Node_api_Node_graph_same a0 a1=some r):
    A.Ct Tryd.prog 28 [.slice A0_ ((a0).length) c1_,.slice A2_ ((a1).length) c3_,.func (.func 29) #[] #[]] [(0,.ln T42 A0_ c1_ a0),(1,.ln T42 A2_ c3_ a1)] [] (fun v H'=>v=.bool r∧H'=[]):=by
 refine A.Ct.enter Tryd.func28 rfl Tryd.ntmps28 rfl fun w0 F0=>?_
 rw[F.slices_EqualFunc_api_Node_api_Node_api_Node_api_Node_graph_same]at hF
 refine A.xl 1 ?_
 refine A.q0 [] [] [.n] [] ?_
 refine A.dl 3 ?_
 refine A.q0 [] [] [.n,.n,.n,.n,.n] [(14,.bool (decide (((a0).length:Int)≠((a1).length:Int))))] ?_
 refine A.dx 1 ?_
 refine A.AX.cnd rfl hF (fun hb hF=>?_) (fun hb hF=>?_)
 ·refine A.xl 1 ?_
  refine A.q0 [] [] [.n] [(6,.bool false)] ?_
  refine A.dx 1 ?_
  obtain rfl:=Option.some.inj hF
  exact A.rt1 [] ⟨rfl,rfl⟩
 refine A.xl 4 ?_
 refine A.q0 [] [] [.n,.n,.n] [(15,.slice A0_ ((a0).length) c1_),(16,.int .i64 ((a0).length:Int)),(17,.int .i64 0)] ?_
 refine A.dx 2 ?_
 refine A.lp_ [1,2,15,16] [0,1] (fun f nl nh=>∃(y1:Int),nl=[(17,.int .i64 y1)]∧nh=[]∧IntKind.i64.has y1∧F.slices_EqualFunc_api_Node_api_Node_api_Node_api_Node_graph_same_l1 a0 a1 f y1=some r) ⟨0,rfl,rfl,(A.hasl .i64 (0) rfl),hF⟩ ?_
 rintro f3 _ _ ⟨y1,rfl,rfl,hy2,hF⟩
 rcases f3 with _|f3
 ·exact A.no0 hF
 rw[F.slices_EqualFunc_api_Node_api_Node_api_Node_api_Node_graph_same_l1]at hF
 refine A.xl 1 ?_
 refine A.q0 [] [] [.n] [(18,.bool (decide (y1<((a0).length:Int))))] ?_
 refine A.dx 2 ?_
 refine A.AX.cnd rfl hF (fun hb hF=>?_) (fun hb hF=>?_)
 ·refine A.xl 5 ?_
  refine A.q0 [] [] [.n] [(19,.int .i64 y1)] ?_
  obtain⟨x4,hv5,hF⟩:=A.bd_some hF
  refine A.AL.ixl 0 94 hv5 fun ho6=>?_
  intro A7 c8 b9 o10
  refine A.q0 [] [94] [.e 0 0] [(21,.agg #[.int .i64 x4.1,.int .i64 x4.2.1,.slice A7 ((x4.2.2.1).length) c8,.int .i64 x4.2.2.2.1.1,.int .i64 x4.2.2.2.1.2.1,.string x4.2.2.2.1.2.2,.string x4.2.2.2.2.1,.int .i64 x4.2.2.2.2.2.1,.int .i64 x4.2.2.2.2.2.2])] ?_
  refine A.AL.alloc 96 (cs:=[.int .i64 0,.int .i64 0,.slice none 0 0,.int .i64 0,.int .i64 0,.string (ByteArray.mk #[]),.string (ByteArray.mk #[]),.int .i64 0,.int .i64 0]) Tryd.zeroValue43 fun g11=>?_
  refine A.q0 [] [] [.n] [(7,.int .i64 y1)] ?_
  refine A.sw 96 [] [.int .i64 x4.1,.int .i64 x4.2.1,.slice A7 ((x4.2.2.1).length) c8,.int .i64 x4.2.2.2.1.1,.int .i64 x4.2.2.2.1.2.1,.string x4.2.2.2.1.2.2,.string x4.2.2.2.2.1,.int .i64 x4.2.2.2.2.2.1,.int .i64 x4.2.2.2.2.2.2] ?_
  refine A.dl 2 ?_
  refine A.q0 [] [] [.n,.n] [(22,.slice A2_ ((a1).length) c3_),(23,.int .i64 y1)] ?_
  obtain⟨x12,hv13,hF⟩:=A.bd_some hF
  refine A.AL.ixl 1 97 hv13 fun ho14=>?_
  intro A15 c16 b17 o18
  refine A.q0 [] [97] [.e 0 0] [(25,.agg #[.int .i64 x12.1,.int .i64 x12.2.1,.slice A15 ((x12.2.2.1).length) c16,.int .i64 x12.2.2.2.1.1,.int .i64 x12.2.2.2.1.2.1,.string x12.2.2.2.1.2.2,.string x12.2.2.2.2.1,.int .i64 x12.2.2.2.2.2.1,.int .i64 x12.2.2.2.2.2.2])] ?_
  refine A.AL.alloc 99 (cs:=[.int .i64 0,.int .i64 0,.slice none 0 0,.int .i64 0,.int .i64 0,.string (ByteArray.mk #[]),.string (ByteArray.mk #[]),.int .i64 0,.int .i64 0]) Tryd.zeroValue43 fun g19=>?_
  refine A.sw 99 [] [.int .i64 x12.1,.int .i64 x12.2.1,.slice A15 ((x12.2.2.1).length) c16,.int .i64 x12.2.2.2.1.1,.int .i64 x12.2.2.2.1.2.1,.string x12.2.2.2.1.2.2,.string x12.2.2.2.2.1,.int .i64 x12.2.2.2.2.2.1,.int .i64 x12.2.2.2.2.2.2] ?_
  refine A.dl 2 ?_
  refine A.q0 [96,99] [] [.n,.b 0 0,.b 1 0] [(26,.func (.func 29) #[] #[]),(27,.agg #[.int .i64 x4.1,.int .i64 x4.2.1,.slice A7 ((x4.2.2.1).length) c8,.int .i64 x4.2.2.2.1.1,.int .i64 x4.2.2.2.1.2.1,.string x4.2.2.2.1.2.2,.string x4.2.2.2.2.1,.int .i64 x4.2.2.2.2.2.1,.int .i64 x4.2.2.2.2.2.2]),(28,.agg #[.int .i64 x12.1,.int .i64 x12.2.1,.slice A15 ((x12.2.2.1).length) c16,.int .i64 x12.2.2.2.1.1,.int .i64 x12.2.2.2.1.2.1,.string x12.2.2.2.1.2.2,.string x12.2.2.2.2.1,.int .i64 x12.2.2.2.2.2.1,.int .i64 x12.2.2.2.2.2.2])] ?_
  obtain⟨r20,hv21,hF⟩:=A.bd_some hF
  refine A.AL.call 100 [] (first:=[]) (cap:=[]) cf29 (graph_same_ok (x4.1,x4.2.1,x4.2.2.1,(x4.2.2.2.1.1,x4.2.2.2.1.2.1,x4.2.2.2.1.2.2),x4.2.2.2.2.1,x4.2.2.2.2.2.1,x4.2.2.2.2.2.2) (x12.1,x12.2.1,x12.2.2.1,(x12.2.2.2.1.1,x12.2.2.2.1.2.1,x12.2.2.2.1.2.2),x12.2.2.2.2.1,x12.2.2.2.2.2.1,x12.2.2.2.2.2.2) A7 c8 A15 c16 ho6.1 ho6.2.1 ho6.2.2.2.1.1 ho6.2.2.2.1.2.1 ho6.2.2.2.1.2.2 ho6.2.2.2.2.1 ho6.2.2.2.2.2.1 ho6.2.2.2.2.2.2 ho14.1 ho14.2.1 ho14.2.2.2.1.1 ho14.2.2.2.1.2.1 ho14.2.2.2.1.2.2 ho14.2.2.2.2.1 ho14.2.2.2.2.2.1 ho14.2.2.2.2.2.2 r20 hv21) (.s 95 (.s 98 .nil)) ?_
  rintro _ _ ⟨rfl,rfl⟩
  refine⟨by kernel_rfl,?_⟩
  refine A.q0 [] [] [.n] [(30,.bool (!r20))] ?_
  refine A.dx 1 ?_
  refine A.AX.cnb rfl hF (fun hb hF=>?_) (fun hb hF=>?_)
  ·refine A.xl 1 ?_
   refine A.q0 [] [] [.n] [(6,.bool false)] ?_
   refine A.dx 1 ?_
   obtain rfl:=Option.some.inj hF
   exact A.rt1 [] ⟨rfl,rfl⟩
  refine A.xl 3 ?_
  obtain⟨hc22,hF⟩:=A.gd_some hF
  refine A.q [] [] [.n,.n] [Z.R64 (y1+1)] [(17,.int .i64 (y1+1))] hc22 ?_
  refine A.AL.done ?_
  exact A.j ⟨_,Nat.lt_succ_self _,⟨(y1+1),rfl,rfl,(Z.i64_has hc22),hF⟩⟩
 refine A.xl 3 ?_
 refine A.q0 [] [] [.n] [(6,.bool true)] ?_
 refine A.dx 1 ?_
 obtain rfl:=Option.some.inj hF
 exact A.rt1 [] ⟨rfl,rfl⟩
def F.graph_Same (a0:D23)(a1:D23):Option Bool:=(F.slices_EqualFunc_api_Node_api_Node_api_Node_api_Node_graph_same a0 a1).bind fun r3=>(some r3)
theorem graph_Same_ok (a0:D23)(a1:D23)(A0_:Option Addr)(c1_:Nat)(A2_:Option Addr)(c3_:Nat)(r:Bool)(hF:F.graph_Same a0 a1=some r):
    A.Ct Tryd.prog 14 [.agg #[.slice A0_ ((a0).length) c1_],.agg #[.slice A2_ ((a1).length) c3_]] [(0,.sh (.slice T42) [.slice A0_ (a0).length c1_] a0),(1,.sh (.slice T42) [.slice A2_ (a1).length c3_] a1)] [] (fun v H'=>v=.bool r∧H'=[]):=by
 refine A.Ct.enter Tryd.func14 rfl Tryd.ntmps14 rfl fun w0 F0=>?_
 rw[F.graph_Same]at hF
 refine A.xl 1 ?_
 refine A.AL.box 2 (cs:=[.slice A0_ ((a0).length) c1_]) fun g1=>?_
 refine A.AL.box 3 (cs:=[.slice A2_ ((a1).length) c3_]) fun g2=>?_
 refine A.q0 [] [] [.n] [] ?_
 refine A.dl 2 ?_
 refine A.q0 [2,3] [] [.n,.b 0 0,.n,.b 1 0] [(6,.slice A0_ ((a0).length) c1_),(8,.slice A2_ ((a1).length) c3_)] ?_
 obtain⟨r3,hv4,hF⟩:=A.bd_some hF
 refine A.AL.call 4 [] (first:=[]) (cap:=[]) cf28 (slices_EqualFunc_api_Node_api_Node_api_Node_api_Node_graph_same_ok a0 a1 A0_ c1_ A2_ c3_ r3 hv4) (.l 0 (.l 1 .nil)) ?_
 rintro _ _ ⟨rfl,rfl⟩
 refine⟨by kernel_rfl,?_⟩
 refine A.q0 [] [] [.n] [(4,.bool r3)] ?_
 refine A.dx 1 ?_
 obtain rfl:=Option.some.inj hF
 exact A.rt1 [] ⟨rfl,rfl⟩
def F.delta_inputs_1 (a0:D42):Option Bool:=some (decide (a0.2.1≠1))
theorem delta_inputs_1_ok (a0:D42)(A2_:Option Addr)(c3_:Nat)(h0_:IntKind.i64.has a0.1)(h1_:IntKind.i64.has a0.2.1)(h4_:IntKind.i64.has a0.2.2.2.1.1)(h5_:IntKind.i64.has a0.2.2.2.1.2.1)(h6_:a0.2.2.2.1.2.2.size≤maxLen)(h7_:a0.2.2.2.2.1.size≤maxLen)(h8_:IntKind.i64.has a0.2.2.2.2.2.1)(h9_:IntKind.i64.has a0.2.2.2.2.2.2)(r:Bool)(hF:F.delta_inputs_1 a0=some r):
    A.Ct Tryd.prog 32 [.agg #[.int .i64 a0.1,.int .i64 a0.2.1,.slice A2_ ((a0.2.2.1).length) c3_,.int .i64 a0.2.2.2.1.1,.int .i64 a0.2.2.2.1.2.1,.string a0.2.2.2.1.2.2,.string a0.2.2.2.2.1,.int .i64 a0.2.2.2.2.2.1,.int .i64 a0.2.2.2.2.2.2]] [(0,.sh (.slice (Z.Ty.int .i64)) [.slice A2_ (a0.2.2.1).length c3_] a0.2.2.1)] [] (fun v H'=>v=.bool r∧H'=[]):=by
 refine A.Ct.enter Tryd.func32 rfl Tryd.ntmps32 rfl fun w0 F0=>?_
 rw[F.delta_inputs_1]at hF
 refine A.xl 1 ?_
 refine A.AL.box 1 (cs:=[.int .i64 a0.1,.int .i64 a0.2.1,.slice A2_ ((a0.2.2.1).length) c3_,.int .i64 a0.2.2.2.1.1,.int .i64 a0.2.2.2.1.2.1,.string a0.2.2.2.1.2.2,.string a0.2.2.2.2.1,.int .i64 a0.2.2.2.2.2.1,.int .i64 a0.2.2.2.2.2.2]) fun g1=>?_
 refine A.q0 [] [] [.n] [] ?_
 refine A.dl 2 ?_
 refine A.q0 [1] [] [.n,.b 0 1,.n,.n] [(2,.bool (decide (a0.2.1≠1)))] ?_
 refine A.dx 1 ?_
 obtain rfl:=Option.some.inj hF
 exact A.rt1 [] ⟨rfl,rfl⟩
def F.slices_IndexFunc_api_Node_api_Node_delta_inputs_1_l1 (a0:(List D42)):Nat→Int→Option Int
 |0,_=>none
 |f+1,y1=>if y1<((a0).length:Int)then((A.ix a0 y1).bind fun x4=>((F.delta_inputs_1 (x4.1,x4.2.1,x4.2.2.1,(x4.2.2.2.1.1,x4.2.2.2.1.2.1,x4.2.2.2.1.2.2),x4.2.2.2.2.1,x4.2.2.2.2.2.1,x4.2.2.2.2.2.2)).bind fun r11=>(if r11=true then(some y1)else(A.gd (Z.R64 (y1+1)) ((F.slices_IndexFunc_api_Node_api_Node_delta_inputs_1_l1 a0 f) (y1+1))))))else(some (-1))
def F.slices_IndexFunc_api_Node_api_Node_delta_inputs_1 (a0:(List D42)):Option Int:=F.slices_IndexFunc_api_Node_api_Node_delta_inputs_1_l1 a0 A.FU 0
theorem slices_IndexFunc_api_Node_api_Node_delta_inputs_1_ok (a0:(List D42))(A0_:Option Addr)(c1_:Nat)(r:Int)(hF:F.slices_IndexFunc_api_Node_api_Node_delta_inputs_1 a0=some r):
    A.Ct Tryd.prog 47 [.slice A0_ ((a0).length) c1_,.func (.func 32) #[] #[]] [(0,.ln T42 A0_ c1_ a0)] [] (fun v H'=>v=.int .i64 r∧H'=[]∧IntKind.i64.has r):=by
 refine A.Ct.enter Tryd.func47 rfl Tryd.ntmps47 rfl fun w0 F0=>?_
 rw[F.slices_IndexFunc_api_Node_api_Node_delta_inputs_1]at hF
 refine A.xl 1 ?_
 refine A.q0 [] [] [.n] [] ?_
 refine A.dl 3 ?_
 refine A.q0 [] [] [.n,.n,.n] [(7,.int .i64 ((a0).length:Int)),(8,.int .i64 0)] ?_
 refine A.dx 2 ?_
 refine A.lp_ [0,1,7] [0] (fun f nl nh=>∃(y1:Int),nl=[(8,.int .i64 y1)]∧nh=[]∧IntKind.i64.has y1∧F.slices_IndexFunc_api_Node_api_Node_delta_inputs_1_l1 a0 f y1=some r) ⟨0,rfl,rfl,(A.hasl .i64 (0) rfl),hF⟩ ?_
 rintro f3 _ _ ⟨y1,rfl,rfl,hy2,hF⟩
 rcases f3 with _|f3
 ·exact A.no0 hF
 rw[F.slices_IndexFunc_api_Node_api_Node_delta_inputs_1_l1]at hF
 refine A.xl 1 ?_
 refine A.q0 [] [] [.n] [(9,.bool (decide (y1<((a0).length:Int))))] ?_
 refine A.dx 2 ?_
 refine A.AX.cnd rfl hF (fun hb hF=>?_) (fun hb hF=>?_)
 ·refine A.xl 5 ?_
  refine A.q0 [] [] [.n,.n] [(5,.int .i64 y1)] ?_
  refine A.dl 2 ?_
  refine A.q0 [] [] [.n,.n,.n] [(11,.func (.func 32) #[] #[]),(12,.slice A0_ ((a0).length) c1_),(13,.int .i64 y1)] ?_
  obtain⟨x4,hv5,hF⟩:=A.bd_some hF
  refine A.AL.ixl 0 85 hv5 fun ho6=>?_
  intro A7 c8 b9 o10
  refine A.q0 [] [85] [.e 0 0] [(15,.agg #[.int .i64 x4.1,.int .i64 x4.2.1,.slice A7 ((x4.2.2.1).length) c8,.int .i64 x4.2.2.2.1.1,.int .i64 x4.2.2.2.1.2.1,.string x4.2.2.2.1.2.2,.string x4.2.2.2.2.1,.int .i64 x4.2.2.2.2.2.1,.int .i64 x4.2.2.2.2.2.2])] ?_
  obtain⟨r11,hv12,hF⟩:=A.bd_some hF
  refine A.AL.call 87 [] (first:=[]) (cap:=[]) cf32 (delta_inputs_1_ok (x4.1,x4.2.1,x4.2.2.1,(x4.2.2.2.1.1,x4.2.2.2.1.2.1,x4.2.2.2.1.2.2),x4.2.2.2.2.1,x4.2.2.2.2.2.1,x4.2.2.2.2.2.2) A7 c8 ho6.1 ho6.2.1 ho6.2.2.2.1.1 ho6.2.2.2.1.2.1 ho6.2.2.2.1.2.2 ho6.2.2.2.2.1 ho6.2.2.2.2.2.1 ho6.2.2.2.2.2.2 r11 hv12) (.s 86 .nil) ?_
  rintro _ _ ⟨rfl,rfl⟩
  refine⟨by kernel_rfl,?_⟩
  refine A.dx 1 ?_
  refine A.AX.cnb rfl hF (fun hb hF=>?_) (fun hb hF=>?_)
  ·refine A.xl 1 ?_
   refine A.q0 [] [] [.n,.n] [(4,.int .i64 y1)] ?_
   refine A.dx 1 ?_
   obtain rfl:=Option.some.inj hF
   exact A.rt1 [] ⟨rfl,rfl,hy2⟩
  refine A.xl 3 ?_
  obtain⟨hc13,hF⟩:=A.gd_some hF
  refine A.q [] [] [.n,.n] [Z.R64 (y1+1)] [(8,.int .i64 (y1+1))] hc13 ?_
  refine A.AL.done ?_
  exact A.j ⟨_,Nat.lt_succ_self _,⟨(y1+1),rfl,rfl,(Z.i64_has hc13),hF⟩⟩
 refine A.xl 3 ?_
 refine A.q0 [] [] [.n] [(4,.int .i64 (-1))] ?_
 refine A.dx 1 ?_
 obtain rfl:=Option.some.inj hF
 exact A.rt1 [] ⟨rfl,rfl,(A.hasl .i64 (-1) rfl)⟩
def F.slices_DeleteFunc_api_Node_api_Node_delta_inputs_1_j1 (k1:(List D42)→Int→Int→Option (List D42))(y11:Int)(xs16:List D42)(y18:Int):Option (List D42):=A.gd (Z.R64 (y11+1)) (k1 xs16 y18 (y11+1))
def F.slices_DeleteFunc_api_Node_api_Node_delta_inputs_1_l2 (a0:(List D42)):Nat→(List D42)→Int→Int→Option (List D42)
 |0,_,_,_=>none
 |f+1,xs7,y9,y11=>if y11<((a0).length:Int)then((A.ix xs7 y11).bind fun x21=>((F.delta_inputs_1 (x21.1,x21.2.1,x21.2.2.1,(x21.2.2.2.1.1,x21.2.2.2.1.2.1,x21.2.2.2.1.2.2),x21.2.2.2.2.1,x21.2.2.2.2.2.1,x21.2.2.2.2.2.2)).bind fun r29=>(if(!r29)=true then((A.ix xs7 y9).bind fun x31=>(A.gd (Z.R64 (y9+1)) (F.slices_DeleteFunc_api_Node_api_Node_delta_inputs_1_j1 (F.slices_DeleteFunc_api_Node_api_Node_delta_inputs_1_l2 a0 f) y11 (xs7.set y9.toNat (x21.1,x21.2.1,x21.2.2.1,(x21.2.2.2.1.1,x21.2.2.2.1.2.1,x21.2.2.2.1.2.2),x21.2.2.2.2.1,x21.2.2.2.2.2.1,x21.2.2.2.2.2.2)) (y9+1))))else(F.slices_DeleteFunc_api_Node_api_Node_delta_inputs_1_j1 (F.slices_DeleteFunc_api_Node_api_Node_delta_inputs_1_l2 a0 f) y11 xs7 y9))))else(A.gd (0≤y9∧y9.toNat≤(xs7).length) (A.gd (0≤y9∧y9.toNat≤(List.take y9.toNat xs7++List.replicate ((xs7).length -y9.toNat) ((0,0,[],(0,0,(ByteArray.mk #[])),(ByteArray.mk #[]),0,0):D42)).length) (some (List.take y9.toNat (List.take y9.toNat xs7++List.replicate ((xs7).length -y9.toNat) ((0,0,[],(0,0,(ByteArray.mk #[])),(ByteArray.mk #[]),0,0):D42))))))
def F.slices_DeleteFunc_api_Node_api_Node_delta_inputs_1 (a0:(List D42)):Option (List D42):=(F.slices_IndexFunc_api_Node_api_Node_delta_inputs_1 a0).bind fun r1=>(if r1= -1 then(some a0)else(A.gd (Z.R64 (r1+1)) (F.slices_DeleteFunc_api_Node_api_Node_delta_inputs_1_l2 a0 A.FU a0 r1 (r1+1))))
theorem slices_DeleteFunc_api_Node_api_Node_delta_inputs_1_ok (a0:(List D42))(A0_:Option Addr)(c1_:Nat)(r:(List D42))(hF:F.slices_DeleteFunc_api_Node_api_Node_delta_inputs_1 a0=some r):
    A.Ct Tryd.prog 30 [.slice A0_ ((a0).length) c1_,.func (.func 32) #[] #[]] [(0,.own T42 43 A0_ c1_ a0)] (Z.obl A0_++[]) (fun v H'=>∃(A0':Option Addr) (c1':Nat),v=.slice A0' ((r).length) c1'∧H'=[(0,.sh (.slice T42) [.slice A0' (r).length c1'] r)]):=by
 refine A.Ct.enter Tryd.func30 rfl Tryd.ntmps30 rfl fun w0 F0=>?_
 rw[F.slices_DeleteFunc_api_Node_api_Node_delta_inputs_1]at hF
 refine A.xl 1 ?_
 refine A.q0 [] [] [.n] [] ?_
 refine A.dl 2 ?_
 refine A.q0 [] [] [.n,.n] [(8,.slice A0_ ((a0).length) c1_),(9,.func (.func 32) #[] #[])] ?_
 obtain⟨r1,hv2,hF⟩:=A.bd_some hF
 refine A.AL.call 1 [] (first:=[]) (cap:=[]) cf47 (slices_IndexFunc_api_Node_api_Node_delta_inputs_1_ok a0 A0_ c1_ r1 hv2) (.o 0 .nil) ?_
 rintro _ _ ⟨rfl,rfl,hr3⟩
 refine⟨by kernel_rfl,?_⟩
 refine A.q0 [] [] [.n] [(5,.int .i64 r1)] ?_
 refine A.dl 3 ?_
 refine A.q0 [] [] [.n,.n] [(12,.bool (decide (r1= -1)))] ?_
 refine A.dx 1 ?_
 refine A.AX.cnd rfl hF (fun hb hF=>?_) (fun hb hF=>?_)
 ·refine A.xl 1 ?_
  refine A.q0 [] [] [.n,.n] [(4,.slice A0_ ((a0).length) c1_)] ?_
  refine A.dx 1 ?_
  obtain rfl:=Option.some.inj hF
  refine A.frz 0 [] ?_
  exact A.rt1 [(0,0)] ⟨A0_,c1_,rfl,rfl⟩
 refine A.xl 4 ?_
 obtain⟨hc4,hF⟩:=A.gd_some hF
 refine A.q [] [] [.n,.n,.n] [Z.R64 (r1+1)] [(6,.int .i64 (r1+1))] hc4 ?_
 refine A.dx 2 ?_
 refine A.lp_ [0,1] [] (fun f nl nh=>∃(xs7:List D42),∃(y9:Int),∃(y11:Int),nl=[(5,.int .i64 y9),(6,.int .i64 y11)]∧nh=[(0,.own T42 43 A0_ c1_ xs7)]∧(a0).length=xs7.length∧IntKind.i64.has y9∧IntKind.i64.has y11∧F.slices_DeleteFunc_api_Node_api_Node_delta_inputs_1_l2 a0 f xs7 y9 y11=some r) ⟨a0,r1,(r1+1),rfl,rfl,rfl,hr3,(Z.i64_has hc4),hF⟩ ?_
 rintro f13 _ _ ⟨xs7,y9,y11,rfl,rfl,hn8,hy10,hy12,hF⟩
 rcases f13 with _|f13
 ·exact A.no0 hF
 rw[F.slices_DeleteFunc_api_Node_api_Node_delta_inputs_1_l2]at hF
 refine A.xl 2 ?_
 refine A.q0 [] [] [.n,.n,.n,.n] [(19,.bool (decide (y11<((a0).length:Int))))] ?_
 refine A.dx 1 ?_
 refine A.AX.cnd rfl hF (fun hb hF=>?_) (fun hb hF=>?_)
 ·refine A.xx 2 ?_
  refine A.AX.join [0,1,6] [] (fun nl nh=>∃(xs16:List D42),∃(y18:Int),nl=[(5,.int .i64 y18)]∧nh=[(0,.own T42 43 A0_ c1_ xs16)]∧(a0).length=xs16.length∧IntKind.i64.has y18∧F.slices_DeleteFunc_api_Node_api_Node_delta_inputs_1_j1 (F.slices_DeleteFunc_api_Node_api_Node_delta_inputs_1_l2 a0 f13) y11 xs16 y18=some r) ?_ ?_
  ·refine A.xl 2 ?_
   refine A.q0 [] [] [.n,.n] [(22,.slice A0_ ((a0).length) c1_),(23,.int .i64 y11)] ?_
   refine A.cst 22 (Z.slice_n (show(a0).length=(xs7).length from hn8)) ?_
   obtain⟨x21,hv22,hF⟩:=A.bd_some hF
   refine A.AL.ixo 0 133 hv22 fun ho23=>?_
   intro A24 c25 g26 hA27
   refine A.q0 [] [133] [.e 0 0] [(25,.agg #[.int .i64 x21.1,.int .i64 x21.2.1,.slice A24 ((x21.2.2.1).length) c25,.int .i64 x21.2.2.2.1.1,.int .i64 x21.2.2.2.1.2.1,.string x21.2.2.2.1.2.2,.string x21.2.2.2.2.1,.int .i64 x21.2.2.2.2.2.1,.int .i64 x21.2.2.2.2.2.2])] ?_
   refine A.AL.alloc 135 (cs:=[.int .i64 0,.int .i64 0,.slice none 0 0,.int .i64 0,.int .i64 0,.string (ByteArray.mk #[]),.string (ByteArray.mk #[]),.int .i64 0,.int .i64 0]) Tryd.zeroValue43 fun g28=>?_
   refine A.sw 135 [] [.int .i64 x21.1,.int .i64 x21.2.1,.slice A24 ((x21.2.2.1).length) c25,.int .i64 x21.2.2.2.1.1,.int .i64 x21.2.2.2.1.2.1,.string x21.2.2.2.1.2.2,.string x21.2.2.2.2.1,.int .i64 x21.2.2.2.2.2.1,.int .i64 x21.2.2.2.2.2.2] ?_
   refine A.dl 2 ?_
   refine A.q0 [135] [] [.n,.b 0 0] [(26,.func (.func 32) #[] #[]),(27,.agg #[.int .i64 x21.1,.int .i64 x21.2.1,.slice A24 ((x21.2.2.1).length) c25,.int .i64 x21.2.2.2.1.1,.int .i64 x21.2.2.2.1.2.1,.string x21.2.2.2.1.2.2,.string x21.2.2.2.2.1,.int .i64 x21.2.2.2.2.2.1,.int .i64 x21.2.2.2.2.2.2])] ?_
   obtain⟨r29,hv30,hF⟩:=A.bd_some hF
   refine A.AL.call 136 [] (first:=[]) (cap:=[]) cf32 (delta_inputs_1_ok (x21.1,x21.2.1,x21.2.2.1,(x21.2.2.2.1.1,x21.2.2.2.1.2.1,x21.2.2.2.1.2.2),x21.2.2.2.2.1,x21.2.2.2.2.2.1,x21.2.2.2.2.2.2) A24 c25 ho23.1 ho23.2.1 ho23.2.2.2.1.1 ho23.2.2.2.1.2.1 ho23.2.2.2.1.2.2 ho23.2.2.2.2.1 ho23.2.2.2.2.2.1 ho23.2.2.2.2.2.2 r29 hv30) (.s 134 .nil) ?_
   rintro _ _ ⟨rfl,rfl⟩
   refine⟨by kernel_rfl,?_⟩
   refine A.q0 [] [] [.n] [(29,.bool (!r29))] ?_
   refine A.dx 1 ?_
   refine A.AX.cnb rfl hF (fun hb hF=>?_) (fun hb hF=>?_)
   ·refine A.xl 1 ?_
    refine A.q0 [135] [] [.n,.n,.b 0 0] [(30,.slice A0_ ((a0).length) c1_),(31,.int .i64 y9),(32,.agg #[.int .i64 x21.1,.int .i64 x21.2.1,.slice A24 ((x21.2.2.1).length) c25,.int .i64 x21.2.2.2.1.1,.int .i64 x21.2.2.2.1.2.1,.string x21.2.2.2.1.2.2,.string x21.2.2.2.2.1,.int .i64 x21.2.2.2.2.2.1,.int .i64 x21.2.2.2.2.2.2])] ?_
    refine A.cst 30 (Z.slice_n (show(a0).length=(xs7).length from hn8)) ?_
    obtain⟨x31,hv32,hF⟩:=A.bd_some hF
    refine A.AL.ixo 0 176 hv32 fun ho33=>?_
    intro A34 c35 g36 hA37
    refine A.AL.setel 0 176 [133,176] (o:=0) (m:=9) (t:=T42) (new:=[.int .i64 x21.1,.int .i64 x21.2.1,.slice A24 ((x21.2.2.1).length) c25,.int .i64 x21.2.2.2.1.1,.int .i64 x21.2.2.2.1.2.1,.string x21.2.2.2.1.2.2,.string x21.2.2.2.2.1,.int .i64 x21.2.2.2.2.2.1,.int .i64 x21.2.2.2.2.2.2]) (es:=[.int .i64 x31.1,.int .i64 x31.2.1,.slice A34 ((x31.2.2.1).length) c35,.int .i64 x31.2.2.2.1.1,.int .i64 x31.2.2.2.1.2.1,.string x31.2.2.2.1.2.2,.string x31.2.2.2.2.1,.int .i64 x31.2.2.2.2.2.1,.int .i64 x31.2.2.2.2.2.2]) (x21.1,x21.2.1,x21.2.2.1,(x21.2.2.2.1.1,x21.2.2.2.1.2.1,x21.2.2.2.1.2.2),x21.2.2.2.2.1,x21.2.2.2.2.2.1,x21.2.2.2.2.2.2) hv32 hA37 ⟨⟨rfl,ho23.1⟩,⟨rfl,ho23.2.1⟩,.inl ⟨134,rfl⟩,⟨⟨rfl,ho23.2.2.2.1.1⟩,⟨rfl,ho23.2.2.2.1.2.1⟩,⟨rfl,ho23.2.2.2.1.2.2⟩⟩,⟨rfl,ho23.2.2.2.2.1⟩,⟨rfl,ho23.2.2.2.2.2.1⟩,⟨rfl,ho23.2.2.2.2.2.2⟩⟩ ?_
    refine A.dl 1 ?_
    obtain⟨hc38,hF⟩:=A.gd_some hF
    refine A.q [] [] [.n,.n,.n] [Z.R64 (y9+1)] [(5,.int .i64 (y9+1))] hc38 ?_
    refine A.de 1 ?_
    exact A.j ⟨(xs7.set y9.toNat (x21.1,x21.2.1,x21.2.2.1,(x21.2.2.2.1.1,x21.2.2.2.1.2.1,x21.2.2.2.1.2.2),x21.2.2.2.2.1,x21.2.2.2.2.2.1,x21.2.2.2.2.2.2)),(y9+1),rfl,rfl,(by rw[List.length_set];exact hn8),(Z.i64_has hc38),hF⟩
   refine A.xe 2 ?_
   exact A.j ⟨xs7,y9,rfl,rfl,hn8,hy10,hF⟩
  rintro _ _ ⟨xs16,y18,rfl,rfl,hn17,hy19,hF⟩
  rw[F.slices_DeleteFunc_api_Node_api_Node_delta_inputs_1_j1]at hF
  refine A.xl 0 ?_
  obtain⟨hc20,hF⟩:=A.gd_some hF
  refine A.q [] [] [.n,.n,.n] [Z.R64 (y11+1)] [(6,.int .i64 (y11+1))] hc20 ?_
  refine A.AL.done ?_
  exact A.j ⟨_,Nat.lt_succ_self _,⟨xs16,y18,(y11+1),rfl,rfl,hn17,hy19,(Z.i64_has hc20),hF⟩⟩
 refine A.xl 3 ?_
 refine A.q0 [] [] [.n,.n] [(36,.slice A0_ ((a0).length) c1_),(37,.int .i64 y9)] ?_
 refine A.cst 36 (Z.slice_n (show(a0).length=(xs7).length from hn8)) ?_
 obtain⟨hc39,hF⟩:=A.gd_some hF
 refine A.AL.clr 0 [] (t:=T42) (u:=y9.toNat) (zs:=[.int .i64 0,.int .i64 0,.slice none 0 0,.int .i64 0,.int .i64 0,.string (ByteArray.mk #[]),.string (ByteArray.mk #[]),.int .i64 0,.int .i64 0]) ((0,0,[],(0,0,(ByteArray.mk #[])),(ByteArray.mk #[]),0,0):D42) (Int.toNat_of_nonneg hc39.1).symm hc39.2 Tryd.zeroValue43 ⟨⟨rfl,by decide⟩,⟨rfl,by decide⟩,(.inr ⟨rfl,rfl⟩),⟨⟨rfl,by decide⟩,⟨rfl,by decide⟩,⟨rfl,by decide⟩⟩,⟨rfl,by decide⟩,⟨rfl,by decide⟩,⟨rfl,by decide⟩⟩ ?_ Tryd.sizeOf43
 refine A.dl 2 ?_
 refine A.q0 [] [] [.n,.n] [(39,.slice A0_ ((a0).length) c1_),(40,.int .i64 y9)] ?_
 refine A.cst 39 (Z.slice_n (show(a0).length=(List.take y9.toNat xs7++List.replicate ((xs7).length -y9.toNat) ((0,0,[],(0,0,(ByteArray.mk #[])),(ByteArray.mk #[]),0,0):D42)).length from(Eq.trans hn8 (by rw[List.length_append,List.length_take,List.length_replicate];omega)))) ?_
 obtain⟨hc40,hF⟩:=A.gd_some hF
 refine A.AL.cuto 0 [] (v:=y9.toNat) (Int.toNat_of_nonneg hc40.1).symm hc40.2 ?_
 refine A.q0 [] [] [.n] [(4,.slice A0_ ((List.take y9.toNat (List.take y9.toNat xs7++List.replicate ((xs7).length -y9.toNat) ((0,0,[],(0,0,(ByteArray.mk #[])),(ByteArray.mk #[]),0,0):D42))).length) c1_)] ?_
 refine A.dx 1 ?_
 obtain rfl:=Option.some.inj hF
 refine A.frz 0 [] ?_
 exact A.rt1 [(0,0)] ⟨A0_,c1_,rfl,rfl⟩
def F.delta_inputs (a0:D23):Option (List D42):=(F.slices_Clone_api_Node_api_Node a0).bind fun r2=>((F.slices_DeleteFunc_api_Node_api_Node_delta_inputs_1 r2).bind fun r6=>(some r6))
theorem delta_inputs_ok (a0:D23)(A0_:Option Addr)(c1_:Nat)(r:(List D42))(hF:F.delta_inputs a0=some r):
    A.Ct Tryd.prog 15 [.agg #[.slice A0_ ((a0).length) c1_]] [(0,.sh (.slice T42) [.slice A0_ (a0).length c1_] a0)] [] (fun v H'=>∃(A0':Option Addr) (c1':Nat),v=.slice A0' ((r).length) c1'∧H'=[(0,.sh (.slice T42) [.slice A0' (r).length c1'] r)]):=by
 refine A.Ct.enter Tryd.func15 rfl Tryd.ntmps15 rfl fun w0 F0=>?_
 rw[F.delta_inputs]at hF
 refine A.xl 1 ?_
 refine A.AL.box 1 (cs:=[.slice A0_ ((a0).length) c1_]) fun g1=>?_
 refine A.q0 [] [] [.n] [] ?_
 refine A.dl 2 ?_
 refine A.q0 [1] [] [.n,.b 0 0] [(4,.slice A0_ ((a0).length) c1_)] ?_
 obtain⟨r2,hv3,hF⟩:=A.bd_some hF
 refine A.AL.call 2 [] (first:=[]) (cap:=[]) cf31 (slices_Clone_api_Node_api_Node_ok a0 A0_ c1_ r2 hv3) (.l 0 .nil) ?_
 rintro _ _ ⟨A4,c5,rfl,rfl⟩
 refine⟨by kernel_rfl,?_⟩
 obtain⟨r6,hv7,hF⟩:=A.bd_some hF
 refine A.AL.call 42 [] (first:=[]) (cap:=[]) cf30 (slices_DeleteFunc_api_Node_api_Node_delta_inputs_1_ok r2 A4 c5 r6 hv7) (.m 2 .nil) ?_
 rintro _ _ ⟨A8,c9,rfl,rfl⟩
 refine⟨by kernel_rfl,?_⟩
 refine A.q0 [] [] [.n] [(2,.slice A8 ((r6).length) c9)] ?_
 refine A.dx 1 ?_
 obtain rfl:=Option.some.inj hF
 exact A.rt1 [(0,42)] ⟨A8,c9,rfl,rfl⟩
def F.delta_sameNode (a0:D42)(a1:D42):Option Bool:=(F.graph_Same [(a0.1,a0.2.1,a0.2.2.1,(a0.2.2.2.1.1,a0.2.2.2.1.2.1,a0.2.2.2.1.2.2),a0.2.2.2.2.1,a0.2.2.2.2.2.1,a0.2.2.2.2.2.2)] [(a1.1,a1.2.1,a1.2.2.1,(a1.2.2.2.1.1,a1.2.2.2.1.2.1,a1.2.2.2.1.2.2),a1.2.2.2.2.1,a1.2.2.2.2.2.1,a1.2.2.2.2.2.2)]).bind fun r5=>(some r5)
theorem delta_sameNode_ok (a0:D42)(a1:D42)(A2_:Option Addr)(c3_:Nat)(A12_:Option Addr)(c13_:Nat)(h0_:IntKind.i64.has a0.1)(h1_:IntKind.i64.has a0.2.1)(h4_:IntKind.i64.has a0.2.2.2.1.1)(h5_:IntKind.i64.has a0.2.2.2.1.2.1)(h6_:a0.2.2.2.1.2.2.size≤maxLen)(h7_:a0.2.2.2.2.1.size≤maxLen)(h8_:IntKind.i64.has a0.2.2.2.2.2.1)(h9_:IntKind.i64.has a0.2.2.2.2.2.2)(h10_:IntKind.i64.has a1.1)(h11_:IntKind.i64.has a1.2.1)(h14_:IntKind.i64.has a1.2.2.2.1.1)(h15_:IntKind.i64.has a1.2.2.2.1.2.1)(h16_:a1.2.2.2.1.2.2.size≤maxLen)(h17_:a1.2.2.2.2.1.size≤maxLen)(h18_:IntKind.i64.has a1.2.2.2.2.2.1)(h19_:IntKind.i64.has a1.2.2.2.2.2.2)(r:Bool)(hF:F.delta_sameNode a0 a1=some r):
    A.Ct Tryd.prog 18 [.agg #[.int .i64 a0.1,.int .i64 a0.2.1,.slice A2_ ((a0.2.2.1).length) c3_,.int .i64 a0.2.2.2.1.1,.int .i64 a0.2.2.2.1.2.1,.string a0.2.2.2.1.2.2,.string a0.2.2.2.2.1,.int .i64 a0.2.2.2.2.2.1,.int .i64 a0.2.2.2.2.2.2],.agg #[.int .i64 a1.1,.int .i64 a1.2.1,.slice A12_ ((a1.2.2.1).length) c13_,.int .i64 a1.2.2.2.1.1,.int .i64 a1.2.2.2.1.2.1,.string a1.2.2.2.1.2.2,.string a1.2.2.2.2.1,.int .i64 a1.2.2.2.2.2.1,.int .i64 a1.2.2.2.2.2.2]] [(0,.sh (.slice (Z.Ty.int .i64)) [.slice A2_ (a0.2.2.1).length c3_] a0.2.2.1),(1,.sh (.slice (Z.Ty.int .i64)) [.slice A12_ (a1.2.2.1).length c13_] a1.2.2.1)] [] (fun v H'=>v=.bool r∧H'=[]):=by
 refine A.Ct.enter Tryd.func18 rfl Tryd.ntmps18 rfl fun w0 F0=>?_
 rw[F.delta_sameNode]at hF
 refine A.xl 1 ?_
 refine A.AL.box 2 (cs:=[.int .i64 a0.1,.int .i64 a0.2.1,.slice A2_ ((a0.2.2.1).length) c3_,.int .i64 a0.2.2.2.1.1,.int .i64 a0.2.2.2.1.2.1,.string a0.2.2.2.1.2.2,.string a0.2.2.2.2.1,.int .i64 a0.2.2.2.2.2.1,.int .i64 a0.2.2.2.2.2.2]) fun g1=>?_
 refine A.AL.box 3 (cs:=[.int .i64 a1.1,.int .i64 a1.2.1,.slice A12_ ((a1.2.2.1).length) c13_,.int .i64 a1.2.2.2.1.1,.int .i64 a1.2.2.2.1.2.1,.string a1.2.2.2.1.2.2,.string a1.2.2.2.2.1,.int .i64 a1.2.2.2.2.2.1,.int .i64 a1.2.2.2.2.2.2]) fun g2=>?_
 refine A.q0 [] [] [.n] [] ?_
 refine A.dl 2 ?_
 refine A.q0 [2] [] [.b 0 0] [(5,.agg #[.int .i64 a0.1,.int .i64 a0.2.1,.slice A2_ ((a0.2.2.1).length) c3_,.int .i64 a0.2.2.2.1.1,.int .i64 a0.2.2.2.1.2.1,.string a0.2.2.2.1.2.2,.string a0.2.2.2.2.1,.int .i64 a0.2.2.2.2.2.1,.int .i64 a0.2.2.2.2.2.2])] ?_
 refine A.AL.bsl 4 (ty:=T42) (cs:=[.int .i64 a0.1,.int .i64 a0.2.1,.slice A2_ ((a0.2.2.1).length) c3_,.int .i64 a0.2.2.2.1.1,.int .i64 a0.2.2.2.1.2.1,.string a0.2.2.2.1.2.2,.string a0.2.2.2.2.1,.int .i64 a0.2.2.2.2.2.1,.int .i64 a0.2.2.2.2.2.2]) [(a0.1,a0.2.1,a0.2.2.1,(a0.2.2.2.1.1,a0.2.2.2.1.2.1,a0.2.2.2.1.2.2),a0.2.2.2.2.1,a0.2.2.2.2.2.1,a0.2.2.2.2.2.2)] ⟨⟨⟨rfl,h0_⟩,⟨rfl,h1_⟩,.inl ⟨0,rfl⟩,⟨⟨rfl,h4_⟩,⟨rfl,h5_⟩,⟨rfl,h6_⟩⟩,⟨rfl,h7_⟩,⟨rfl,h8_⟩,⟨rfl,h9_⟩⟩,rfl⟩ (fun g3=>?_) Tryd.zeroValue43 Tryd.sizeOf43
 refine A.q0 [3] [] [.n,.b 0 0] [(7,.agg #[.slice (some ⟨g3,0,none⟩) 1 1]),(8,.agg #[.int .i64 a1.1,.int .i64 a1.2.1,.slice A12_ ((a1.2.2.1).length) c13_,.int .i64 a1.2.2.2.1.1,.int .i64 a1.2.2.2.1.2.1,.string a1.2.2.2.1.2.2,.string a1.2.2.2.2.1,.int .i64 a1.2.2.2.2.2.1,.int .i64 a1.2.2.2.2.2.2])] ?_
 refine A.AL.bsl 5 (ty:=T42) (cs:=[.int .i64 a1.1,.int .i64 a1.2.1,.slice A12_ ((a1.2.2.1).length) c13_,.int .i64 a1.2.2.2.1.1,.int .i64 a1.2.2.2.1.2.1,.string a1.2.2.2.1.2.2,.string a1.2.2.2.2.1,.int .i64 a1.2.2.2.2.2.1,.int .i64 a1.2.2.2.2.2.2]) [(a1.1,a1.2.1,a1.2.2.1,(a1.2.2.2.1.1,a1.2.2.2.1.2.1,a1.2.2.2.1.2.2),a1.2.2.2.2.1,a1.2.2.2.2.2.1,a1.2.2.2.2.2.2)] ⟨⟨⟨rfl,h10_⟩,⟨rfl,h11_⟩,.inl ⟨1,rfl⟩,⟨⟨rfl,h14_⟩,⟨rfl,h15_⟩,⟨rfl,h16_⟩⟩,⟨rfl,h17_⟩,⟨rfl,h18_⟩,⟨rfl,h19_⟩⟩,rfl⟩ (fun g4=>?_) Tryd.zeroValue43 Tryd.sizeOf43
 refine A.q0 [] [] [.n] [(10,.agg #[.slice (some ⟨g4,0,none⟩) 1 1])] ?_
 refine A.frz 4 [] ?_
 refine A.frz 5 [] ?_
 obtain⟨r5,hv6,hF⟩:=A.bd_some hF
 refine A.AL.call 6 [] (first:=[]) (cap:=[]) cf14 (graph_Same_ok [(a0.1,a0.2.1,a0.2.2.1,(a0.2.2.2.1.1,a0.2.2.2.1.2.1,a0.2.2.2.1.2.2),a0.2.2.2.2.1,a0.2.2.2.2.2.1,a0.2.2.2.2.2.2)] [(a1.1,a1.2.1,a1.2.2.1,(a1.2.2.2.1.1,a1.2.2.2.1.2.1,a1.2.2.2.1.2.2),a1.2.2.2.2.1,a1.2.2.2.2.2.1,a1.2.2.2.2.2.2)] (some ⟨g3,0,none⟩) 1 (some ⟨g4,0,none⟩) 1 r5 hv6) (.s 4 (.s 5 .nil)) ?_
 rintro _ _ ⟨rfl,rfl⟩
 refine⟨by kernel_rfl,?_⟩
 refine A.q0 [] [] [.n] [(4,.bool r5)] ?_
 refine A.dx 1 ?_
 obtain rfl:=Option.some.inj hF
 exact A.rt1 [] ⟨rfl,rfl⟩
end Go.Proofs.YtocfaokgoflmhaaDoor
end
section
set_option linter.unusedVariables false
set_option linter.unusedSimpArgs false
set_option maxRecDepth 20000
set_option maxHeartbeats 8000000
set_option synthInstance.maxSize 1000000
set_option synthInstance.maxHeartbeats 400000
namespace Go.Proofs.YtocfaokgoflmhaaDoor
open Go.RowKit
def F.delta_Diff_j1 (k4:(List Int)→Int→Option (D27×Int))(y30:Int)(xs35:List Int):Option (D27×Int):=A.gd (Z.R64 (y30+1)) (k4 xs35 (y30+1))
def F.delta_Diff_j2 (k5:(List D42)→Int→Option (D27×Int))(y62:Int)(xs67:List D42):Option (D27×Int):=A.gd (Z.R64 (y62+1)) (k5 xs67 (y62+1))
def F.delta_Diff_j3 (k5:(List D42)→Int→Option (D27×Int))(xs61:List D42)(y62:Int)(x69:D42)(y83:Bool):Option (D27×Int):=if y83=true then(A.gd ((List.length (α:=D42) xs61+List.length (α:=D42) [(x69.1,x69.2.1,x69.2.2.1,(x69.2.2.2.1.1,x69.2.2.2.1.2.1,x69.2.2.2.1.2.2),x69.2.2.2.2.1,x69.2.2.2.2.2.1,x69.2.2.2.2.2.2)])*104≤140737488355328) (F.delta_Diff_j2 k5 y62 (xs61++[(x69.1,x69.2.1,x69.2.2.1,(x69.2.2.2.1.1,x69.2.2.2.1.2.1,x69.2.2.2.1.2.2),x69.2.2.2.2.1,x69.2.2.2.2.2.1,x69.2.2.2.2.2.2)])))else(F.delta_Diff_j2 k5 y62 xs61)
def F.delta_Diff_l4 (r20:(List (Int×D42)))(xs29:List Int)(r55:D23):Nat→(List D42)→Int→Option (D27×Int)
 |0,_,_=>none
 |f+1,xs61,y62=>if y62<((r55).length:Int)then((A.ix r55 y62).bind fun x69=>(A.lt (Z.mget ((0,0,[],(0,0,(ByteArray.mk #[])),(ByteArray.mk #[]),0,0):D42) r20 x69.1) fun x77=>(if(!(Z.mhas r20 x69.1))=true then(F.delta_Diff_j3 (F.delta_Diff_l4 r20 xs29 r55 f) xs61 y62 x69 true)else((F.delta_sameNode (x77.1,x77.2.1,x77.2.2.1,(x77.2.2.2.1.1,x77.2.2.2.1.2.1,x77.2.2.2.1.2.2),x77.2.2.2.2.1,x77.2.2.2.2.2.1,x77.2.2.2.2.2.2) (x69.1,x69.2.1,x69.2.2.1,(x69.2.2.2.1.1,x69.2.2.2.1.2.1,x69.2.2.2.1.2.2),x69.2.2.2.2.1,x69.2.2.2.2.2.1,x69.2.2.2.2.2.2)).bind fun r88=>(F.delta_Diff_j3 (F.delta_Diff_l4 r20 xs29 r55 f) xs61 y62 x69 (!r88))))))else(some ((xs29,xs61,[]),0))
def F.delta_Diff_l5 (a0:D23)(a1:D23)(r20:(List (Int×D42)))(r23:(List (Int×D42))):Nat→(List Int)→Int→Option (D27×Int)
 |0,_,_=>none
 |f+1,xs29,y30=>if y30<((a0).length:Int)then((A.ix a0 y30).bind fun x37=>(A.lt (Z.mget ((0,0,[],(0,0,(ByteArray.mk #[])),(ByteArray.mk #[]),0,0):D42) r23 x37.1) fun x45=>(if(!(Z.mhas r23 x37.1))=true then(A.gd ((List.length (α:=Int) xs29+List.length (α:=Int) [x37.1])*8≤140737488355328) (F.delta_Diff_j1 (F.delta_Diff_l5 a0 a1 r20 r23 f) y30 (xs29++[x37.1])))else(F.delta_Diff_j1 (F.delta_Diff_l5 a0 a1 r20 r23 f) y30 xs29))))else((F.graph_Clone a1).bind fun r55=>(F.delta_Diff_l4 r20 xs29 r55 A.FU [] 0))
def F.delta_Diff (a0:D23)(a1:D23):Option (D27×Int):=(F.graph_Check a0).bind fun r4=>(if r4≠0 then(some (([],[],[]),r4))else((F.graph_Check a1).bind fun r7=>(if r7≠0 then(some (([],[],[]),r7))else((F.delta_inputs a0).bind fun r10=>((F.delta_inputs a1).bind fun r14=>((F.graph_Same r10 r14).bind fun r18=>(if(!r18)=true then(some (([],[],[]),90))else((F.delta_byId a0).bind fun r20=>((F.delta_byId a1).bind fun r23=>(F.delta_Diff_l5 a0 a1 r20 r23 A.FU [] 0))))))))))
theorem delta_Diff_ok (a0:D23)(a1:D23)(A0_:Option Addr)(c1_:Nat)(A2_:Option Addr)(c3_:Nat)(r:D27×Int)(hF:F.delta_Diff a0 a1=some r):
    A.Ct Tryd.prog 7 [.agg #[.slice A0_ ((a0).length) c1_],.agg #[.slice A2_ ((a1).length) c3_]] [(0,.sh (.slice T42) [.slice A0_ (a0).length c1_] a0),(1,.sh (.slice T42) [.slice A2_ (a1).length c3_] a1),(2,.el none 0 0 A.tabF),(3,.el none 1 0 A.tabA)] [] (fun v H'=>∃(A0':Option Addr) (c1':Nat) (A2':Option Addr) (c3':Nat) (A4':Option Addr) (c5':Nat),v=.tuple #[.agg #[.slice A0' ((r.1.1).length) c1',.slice A2' ((r.1.2.1).length) c3',.slice A4' ((r.1.2.2).length) c5'],.int .i64 r.2]∧H'=[(0,.sh (.slice (Z.Ty.int .i64)) [.slice A0' (r.1.1).length c1'] r.1.1),(1,.sh (.slice T42) [.slice A2' (r.1.2.1).length c3'] r.1.2.1),(2,.sh (.slice T83) [.slice A4' (r.1.2.2).length c5'] r.1.2.2)]∧IntKind.i64.has r.2):=by
 refine A.Ct.enter Tryd.func7 rfl Tryd.ntmps7 rfl fun w0 F0=>?_
 rw[F.delta_Diff]at hF
 refine A.xl 1 ?_
 refine A.AL.box 4 (cs:=[.slice A0_ ((a0).length) c1_]) fun g1=>?_
 refine A.AL.box 5 (cs:=[.slice A2_ ((a1).length) c3_]) fun g2=>?_
 refine A.AL.alloc 6 (cs:=[.slice none 0 0,.slice none 0 0,.slice none 0 0]) Tryd.zeroValue28 fun g3=>?_
 refine A.q0 [] [] [.n] [] ?_
 refine A.dl 3 ?_
 refine A.q0 [4] [] [.b 0 0] [(19,.agg #[.slice A0_ ((a0).length) c1_])] ?_
 obtain⟨r4,hv5,hF⟩:=A.bd_some hF
 refine A.AL.call 7 [] (first:=[]) (cap:=[]) cf13 (graph_Check_ok a0 A0_ c1_ r4 hv5) (.s 0 (.s 2 (.s 3 .nil))) ?_
 rintro _ _ ⟨rfl,rfl,hr6⟩
 refine⟨by kernel_rfl,?_⟩
 refine A.q0 [] [] [.n] [(6,.int .i64 r4)] ?_
 refine A.dl 2 ?_
 refine A.q0 [] [] [.n,.n] [(22,.bool (decide (r4≠0)))] ?_
 refine A.dx 1 ?_
 refine A.AX.cnd rfl hF (fun hb hF=>?_) (fun hb hF=>?_)
 ·refine A.xl 1 ?_
  refine A.q0 [] [] [.n,.n] [(23,.agg #[.slice none 0 0,.slice none 0 0,.slice none 0 0]),(24,.int .i64 r4)] ?_
  refine A.sw 6 [] [.slice none 0 0,.slice none 0 0,.slice none 0 0] ?_
  refine A.q0 [] [] [.n] [(5,.int .i64 r4)] ?_
  refine A.dx 1 ?_
  obtain rfl:=Option.some.inj hF
  refine A.snil 47 (Z.Ty.int .i64) ?_
  refine A.snil 48 T42 ?_
  refine A.snil 49 T83 ?_
  exact A.AX.ret [(0,47),(1,48),(2,49)] (.tuple #[.agg #[.slice none 0 0,.slice none 0 0,.slice none 0 0],.int .i64 r4]) (fun a w hf hh=>Z.resv2 rfl (Z.rv_n hf rfl Tryd.isAgg28 Tryd.sizeOf28 (A.Hp.blk hh 6) rfl) (Z.rv_t hf rfl)) (⟨none,0,none,0,none,0,rfl,rfl,hr6⟩)
 refine A.xl 4 ?_
 refine A.q0 [5] [] [.b 0 0] [(25,.agg #[.slice A2_ ((a1).length) c3_])] ?_
 obtain⟨r7,hv8,hF⟩:=A.bd_some hF
 refine A.AL.call 50 [] (first:=[]) (cap:=[]) cf13 (graph_Check_ok a1 A2_ c3_ r7 hv8) (.s 1 (.s 2 (.s 3 .nil))) ?_
 rintro _ _ ⟨rfl,rfl,hr9⟩
 refine⟨by kernel_rfl,?_⟩
 refine A.q0 [] [] [.n] [(7,.int .i64 r7)] ?_
 refine A.dl 2 ?_
 refine A.q0 [] [] [.n,.n] [(28,.bool (decide (r7≠0)))] ?_
 refine A.dx 1 ?_
 refine A.AX.cnd rfl hF (fun hb hF=>?_) (fun hb hF=>?_)
 ·refine A.xl 1 ?_
  refine A.q0 [] [] [.n,.n] [(29,.agg #[.slice none 0 0,.slice none 0 0,.slice none 0 0]),(30,.int .i64 r7)] ?_
  refine A.sw 6 [] [.slice none 0 0,.slice none 0 0,.slice none 0 0] ?_
  refine A.q0 [] [] [.n] [(5,.int .i64 r7)] ?_
  refine A.dx 1 ?_
  obtain rfl:=Option.some.inj hF
  refine A.snil 90 (Z.Ty.int .i64) ?_
  refine A.snil 91 T42 ?_
  refine A.snil 92 T83 ?_
  exact A.AX.ret [(0,90),(1,91),(2,92)] (.tuple #[.agg #[.slice none 0 0,.slice none 0 0,.slice none 0 0],.int .i64 r7]) (fun a w hf hh=>Z.resv2 rfl (Z.rv_n hf rfl Tryd.isAgg28 Tryd.sizeOf28 (A.Hp.blk hh 6) rfl) (Z.rv_t hf rfl)) (⟨none,0,none,0,none,0,rfl,rfl,hr9⟩)
 refine A.xx 4 ?_
 refine A.AX.dr mixed 8 8 (A.mb 8 0) ?_
 refine A.hq A.pb [] [0,1,2,3,4,5,6] [4,5] [] (A.mb 8 9) 6 [(0,.b 0 0),(3,.b 1 0)] [(31,.agg #[.slice A0_ ((a0).length) c1_]),(34,.agg #[.slice A2_ ((a1).length) c3_])] ?_
 refine A.AH.one 1 ?_
 obtain⟨r10,hv11,hF⟩:=A.bd_some hF
 refine A.AL.call 93 [] (first:=[]) (cap:=[]) cf15 (delta_inputs_ok a0 A0_ c1_ r10 hv11) (.s 0 .nil) ?_
 rintro _ _ ⟨A12,c13,rfl,rfl⟩
 refine⟨by kernel_rfl,?_⟩
 refine A.AH.nx (A.mb 8 11) [0,1,2,3,4,5,6] ?_
 refine A.hq A.pb [0,1,2,3,4,5,6] [0,1,2,3,4,5,6,93] [] [] (A.mb 8 15) 4 [(2,.n)] [(33,.agg #[.slice A12 ((r10).length) c13])] ?_
 refine A.AH.one 4 ?_
 obtain⟨r14,hv15,hF⟩:=A.bd_some hF
 refine A.AL.call 133 [] (first:=[]) (cap:=[]) cf15 (delta_inputs_ok a1 A2_ c3_ r14 hv15) (.s 1 .nil) ?_
 rintro _ _ ⟨A16,c17,rfl,rfl⟩
 refine⟨by kernel_rfl,?_⟩
 refine A.AH.nx (A.mb 8 31) [0,1,2,3,4,5,6,93] ?_
 refine A.hq A.pb [0,1,2,3,4,5,6,93] [0,1,2,3,4,5,6,93,133] [] [] (A.mb 8 63) 2 [(5,.n)] [(36,.agg #[.slice A16 ((r14).length) c17])] ?_
 refine A.AH.one 6 ?_
 obtain⟨r18,hv19,hF⟩:=A.bd_some hF
 refine A.AL.call 173 [] (first:=[]) (cap:=[]) cf14 (graph_Same_ok r10 r14 A12 c13 A16 c17 r18 hv19) (.s 93 (.s 133 .nil)) ?_
 rintro _ _ ⟨rfl,rfl⟩
 refine⟨by kernel_rfl,?_⟩
 refine A.AH.nx (A.mb 8 127) [0,1,2,3,4,5,6,93,133] ?_
 refine A.hq A.pb [0,1,2,3,4,5,6,93,133] [0,1,2,3,4,5,6,93,133] [] [] (A.mb 8 255) 0 [(7,.n)] [(38,.bool (!r18))] ?_
 refine A.AH.done ?_
 refine A.ex 1 ?_
 refine A.AX.cnb rfl hF (fun hb hF=>?_) (fun hb hF=>?_)
 ·refine A.xl 1 ?_
  refine A.q0 [] [] [.n] [(39,.agg #[.slice none 0 0,.slice none 0 0,.slice none 0 0])] ?_
  refine A.sw 6 [] [.slice none 0 0,.slice none 0 0,.slice none 0 0] ?_
  refine A.q0 [] [] [.n] [(5,.int .i64 90)] ?_
  refine A.dx 1 ?_
  obtain rfl:=Option.some.inj hF
  refine A.snil 213 (Z.Ty.int .i64) ?_
  refine A.snil 214 T42 ?_
  refine A.snil 215 T83 ?_
  exact A.AX.ret [(0,213),(1,214),(2,215)] (.tuple #[.agg #[.slice none 0 0,.slice none 0 0,.slice none 0 0],.int .i64 90]) (fun a w hf hh=>Z.resv2 rfl (Z.rv_n hf rfl Tryd.isAgg28 Tryd.sizeOf28 (A.Hp.blk hh 6) rfl) (Z.rv_t hf rfl)) (⟨none,0,none,0,none,0,rfl,rfl,(A.hasl .i64 (90) rfl)⟩)
 refine A.xx 3 ?_
 refine A.AX.dr mixed 8 8 (A.mb 8 0) ?_
 refine A.hq A.pb [] [0,1,2,3,4,5,6,93,133] [4,5] [] (A.mb 8 27) 4 [(0,.n),(3,.n),(1,.b 0 0),(4,.b 1 0)] [(41,.slice A0_ ((a0).length) c1_),(44,.slice A2_ ((a1).length) c3_)] ?_
 refine A.AH.one 2 ?_
 obtain⟨r20,hv21,hF⟩:=A.bd_some hF
 refine A.AL.call 216 [] (first:=[]) (cap:=[]) cf16 (delta_byId_ok a0 A0_ c1_ r20 hv21) (.l 0 .nil) ?_
 rintro _ _ ⟨b22,rfl,rfl⟩
 refine⟨by kernel_rfl,?_⟩
 refine A.AH.nx (A.mb 8 31) [0,1,2,3,4,5,6,93,133] ?_
 refine A.AH.one 5 ?_
 obtain⟨r23,hv24,hF⟩:=A.bd_some hF
 refine A.AL.call 256 [] (first:=[]) (cap:=[]) cf16 (delta_byId_ok a1 A2_ c3_ r23 hv24) (.l 1 .nil) ?_
 rintro _ _ ⟨b25,rfl,rfl⟩
 refine⟨by kernel_rfl,?_⟩
 refine A.AH.nx (A.mb 8 63) [0,1,2,3,4,5,6,93,133] ?_
 refine A.hq A.pb [0,1,2,3,4,5,6,93,133] [0,1,2,3,4,5,6,93,133,216,256] [] [] (A.mb 8 255) 0 [(6,.n),(7,.n)] [(8,.map (some b22)),(9,.map (some b25))] ?_
 refine A.AH.done ?_
 refine A.el 2 ?_
 refine A.AL.alloc 296 (cs:=[.slice none 0 0,.slice none 0 0,.slice none 0 0]) Tryd.zeroValue28 fun g26=>?_
 refine A.dl 3 ?_
 refine A.q0 [4] [] [.n,.b 0 0,.n,.n] [(47,.slice A0_ ((a0).length) c1_),(48,.int .i64 ((a0).length:Int)),(49,.int .i64 0)] ?_
 refine A.dx 2 ?_
 refine A.nil 593 (Z.Ty.int .i64) 3 ?_
 refine A.lp_ [3,4,8,9,10,47,48] [0,1,2,3,5,6,216,256] (fun f nl nh=>∃(xs29:List Int),∃(y30:Int),∃(A27:Option Addr),∃(c28:Nat),nl=[(49,.int .i64 y30)]∧nh=[(296,.blk g26 28 [.slice A27 ((xs29).length) c28,.slice none 0 0,.slice none 0 0]),(593,.own (Z.Ty.int .i64) 3 A27 c28 xs29)]∧IntKind.i64.has y30∧F.delta_Diff_l5 a0 a1 r20 r23 f xs29 y30=some r) ⟨[],0,none,0,rfl,rfl,(A.hasl .i64 (0) rfl),hF⟩ ?_
 rintro f32 _ _ ⟨xs29,y30,A27,c28,rfl,rfl,hy31,hF⟩
 rcases f32 with _|f32
 ·exact A.no0 hF
 rw[F.delta_Diff_l5]at hF
 refine A.xl 1 ?_
 refine A.q0 [] [] [.n] [(50,.bool (decide (y30<((a0).length:Int))))] ?_
 refine A.dx 2 ?_
 refine A.AX.cnd rfl hF (fun hb hF=>?_) (fun hb hF=>?_)
 ·refine A.xx 2 ?_
  refine A.AX.join [3,4,8,9,10,47,48,49] [0,1,2,3,5,6,216,256] (fun nl nh=>∃(xs35:List Int),∃(A33:Option Addr),∃(c34:Nat),nl=[]∧nh=[(296,.blk g26 28 [.slice A33 ((xs35).length) c34,.slice none 0 0,.slice none 0 0]),(593,.own (Z.Ty.int .i64) 3 A33 c34 xs35)]∧F.delta_Diff_j1 (F.delta_Diff_l5 a0 a1 r20 r23 f32) y30 xs35=some r) ?_ ?_
  ·refine A.xl 2 ?_
   obtain⟨x37,hv38,hF⟩:=A.bd_some hF
   refine A.AL.ixs 0 1162 hv38 fun ho39=>?_
   intro A40 c41 b42 o43
   refine A.q0 [] [1162] [.e 0 0] [(52,.agg #[.int .i64 x37.1,.int .i64 x37.2.1,.slice A40 ((x37.2.2.1).length) c41,.int .i64 x37.2.2.2.1.1,.int .i64 x37.2.2.2.1.2.1,.string x37.2.2.2.1.2.2,.string x37.2.2.2.2.1,.int .i64 x37.2.2.2.2.2.1,.int .i64 x37.2.2.2.2.2.2])] ?_
   refine A.AL.alloc 1164 (cs:=[.int .i64 0,.int .i64 0,.slice none 0 0,.int .i64 0,.int .i64 0,.string (ByteArray.mk #[]),.string (ByteArray.mk #[]),.int .i64 0,.int .i64 0]) Tryd.zeroValue43 fun g44=>?_
   refine A.sw 1164 [] [.int .i64 x37.1,.int .i64 x37.2.1,.slice A40 ((x37.2.2.1).length) c41,.int .i64 x37.2.2.2.1.1,.int .i64 x37.2.2.2.1.2.1,.string x37.2.2.2.1.2.2,.string x37.2.2.2.2.1,.int .i64 x37.2.2.2.2.2.1,.int .i64 x37.2.2.2.2.2.2] ?_
   refine A.dl 2 ?_
   refine A.q0 [1164] [] [.n,.n,.b 0 0] [(54,.map (some b25)),(56,.int .i64 x37.1)] ?_
   obtain⟨x45,hv46,hF⟩:=A.lt_some hF
   refine A.AL.lk2 (t:=T42) 256 1165 (z:=((0,0,[],(0,0,(ByteArray.mk #[])),(ByteArray.mk #[]),0,0):D42)) (zs:=[.int .i64 0,.int .i64 0,.slice none 0 0,.int .i64 0,.int .i64 0,.string (ByteArray.mk #[]),.string (ByteArray.mk #[]),.int .i64 0,.int .i64 0]) ky3 x37.1 Tryd.zeroValue43 ⟨⟨rfl,by decide⟩,⟨rfl,by decide⟩,(.inr ⟨rfl,rfl⟩),⟨⟨rfl,by decide⟩,⟨rfl,by decide⟩,⟨rfl,by decide⟩⟩,⟨rfl,by decide⟩,⟨rfl,by decide⟩,⟨rfl,by decide⟩⟩ hv46 fun ho47=>?_
   intro A48 c49
   refine A.q0 [] [] [.n,.n,.n] [(58,.agg #[.int .i64 x45.1,.int .i64 x45.2.1,.slice A48 ((x45.2.2.1).length) c49,.int .i64 x45.2.2.2.1.1,.int .i64 x45.2.2.2.1.2.1,.string x45.2.2.2.1.2.2,.string x45.2.2.2.2.1,.int .i64 x45.2.2.2.2.2.1,.int .i64 x45.2.2.2.2.2.2]),(59,.bool (Z.mhas r23 x37.1))] ?_
   refine A.AL.alloc 1166 (cs:=[.int .i64 0,.int .i64 0,.slice none 0 0,.int .i64 0,.int .i64 0,.string (ByteArray.mk #[]),.string (ByteArray.mk #[]),.int .i64 0,.int .i64 0]) Tryd.zeroValue43 fun g50=>?_
   refine A.sw 1166 [] [.int .i64 x45.1,.int .i64 x45.2.1,.slice A48 ((x45.2.2.1).length) c49,.int .i64 x45.2.2.2.1.1,.int .i64 x45.2.2.2.1.2.1,.string x45.2.2.2.1.2.2,.string x45.2.2.2.2.1,.int .i64 x45.2.2.2.2.2.1,.int .i64 x45.2.2.2.2.2.2] ?_
   refine A.q0 [] [] [.n] [(14,.bool (Z.mhas r23 x37.1))] ?_
   refine A.dl 2 ?_
   refine A.q0 [] [] [.n,.n] [(61,.bool (!(Z.mhas r23 x37.1)))] ?_
   refine A.dx 1 ?_
   refine A.AX.cnb rfl hF (fun hb hF=>?_) (fun hb hF=>?_)
   ·refine A.xl 0 ?_
    refine A.q0 [296,1164] [] [.n,.b 0 0,.n,.b 1 0] [(63,.slice A27 ((xs29).length) c28),(65,.int .i64 x37.1)] ?_
    refine A.AL.bsl 1167 (ty:=(Z.Ty.int .i64)) (cs:=[.int .i64 x37.1]) [x37.1] ⟨⟨rfl,ho39.1⟩,rfl⟩ (fun g51=>?_) Tryd.zeroValue3 Tryd.sizeOf3
    obtain⟨hl54,hF⟩:=A.gd_some hF
    refine A.AL.app (k:=593) [] (A.rowO (k:=1167) rfl) inf3 hl54 fun A52 c53=>?_
    refine A.q0 [] [] [.n] [(68,.pointer (some ⟨g26,0,none⟩))] ?_
    refine A.AL.store 296 [] (new:=[.slice A52 ((xs29++[x37.1]).length) c53]) (cs':=[.slice A52 ((xs29++[x37.1]).length) c53,.slice none 0 0,.slice none 0 0]) ?_
    refine A.de 1 ?_
    exact A.j ⟨(xs29++[x37.1]),A52,c53,rfl,rfl,hF⟩
   refine A.xe 2 ?_
   exact A.j ⟨xs29,A27,c28,rfl,rfl,hF⟩
  rintro _ _ ⟨xs35,A33,c34,rfl,rfl,hF⟩
  rw[F.delta_Diff_j1]at hF
  refine A.xl 0 ?_
  obtain⟨hc36,hF⟩:=A.gd_some hF
  refine A.q [] [] [.n,.n] [Z.R64 (y30+1)] [(49,.int .i64 (y30+1))] hc36 ?_
  refine A.AL.done ?_
  exact A.j ⟨_,Nat.lt_succ_self _,⟨xs35,(y30+1),A33,c34,rfl,rfl,(Z.i64_has hc36),hF⟩⟩
 refine A.xl 4 ?_
 refine A.q0 [5] [] [.b 0 0] [(70,.agg #[.slice A2_ ((a1).length) c3_])] ?_
 obtain⟨r55,hv56,hF⟩:=A.bd_some hF
 refine A.AL.call 1168 [] (first:=[]) (cap:=[]) cf17 (graph_Clone_ok a1 A2_ c3_ r55 hv56) (.s 1 .nil) ?_
 rintro _ _ ⟨A57,c58,rfl,rfl⟩
 refine⟨by kernel_rfl,?_⟩
 refine A.q0 [] [] [.n,.n,.n] [(72,.slice A57 ((r55).length) c58),(73,.int .i64 ((r55).length:Int)),(74,.int .i64 0)] ?_
 refine A.dx 2 ?_
 refine A.nil 1304 T42 43 ?_
 refine A.lp_ [4,8,10,72,73] [2,3,6,216,593,1168] (fun f nl nh=>∃(xs61:List D42),∃(y62:Int),∃(A59:Option Addr),∃(c60:Nat),nl=[(74,.int .i64 y62)]∧nh=[(296,.blk g26 28 [.slice A27 ((xs29).length) c28,.slice A59 ((xs61).length) c60,.slice none 0 0]),(1304,.own T42 43 A59 c60 xs61)]∧IntKind.i64.has y62∧F.delta_Diff_l4 r20 xs29 r55 f xs61 y62=some r) ⟨[],0,none,0,rfl,rfl,(A.hasl .i64 (0) rfl),hF⟩ ?_
 rintro f64 _ _ ⟨xs61,y62,A59,c60,rfl,rfl,hy63,hF⟩
 rcases f64 with _|f64
 ·exact A.no0 hF
 rw[F.delta_Diff_l4]at hF
 refine A.xl 1 ?_
 refine A.q0 [] [] [.n] [(75,.bool (decide (y62<((r55).length:Int))))] ?_
 refine A.dx 2 ?_
 refine A.AX.cnd rfl hF (fun hb hF=>?_) (fun hb hF=>?_)
 ·refine A.xx 2 ?_
  refine A.AX.join [4,8,10,72,73,74] [2,3,6,216,593,1168] (fun nl nh=>∃(xs67:List D42),∃(A65:Option Addr),∃(c66:Nat),nl=[]∧nh=[(296,.blk g26 28 [.slice A27 ((xs29).length) c28,.slice A65 ((xs67).length) c66,.slice none 0 0]),(1304,.own T42 43 A65 c66 xs67)]∧F.delta_Diff_j2 (F.delta_Diff_l4 r20 xs29 r55 f64) y62 xs67=some r) ?_ ?_
  ·refine A.xl 2 ?_
   obtain⟨x69,hv70,hF⟩:=A.bd_some hF
   refine A.AL.ixs 1168 1399 hv70 fun ho71=>?_
   intro A72 c73 b74 o75
   refine A.q0 [] [1399] [.e 0 0] [(77,.agg #[.int .i64 x69.1,.int .i64 x69.2.1,.slice A72 ((x69.2.2.1).length) c73,.int .i64 x69.2.2.2.1.1,.int .i64 x69.2.2.2.1.2.1,.string x69.2.2.2.1.2.2,.string x69.2.2.2.2.1,.int .i64 x69.2.2.2.2.2.1,.int .i64 x69.2.2.2.2.2.2])] ?_
   refine A.AL.alloc 1401 (cs:=[.int .i64 0,.int .i64 0,.slice none 0 0,.int .i64 0,.int .i64 0,.string (ByteArray.mk #[]),.string (ByteArray.mk #[]),.int .i64 0,.int .i64 0]) Tryd.zeroValue43 fun g76=>?_
   refine A.sw 1401 [] [.int .i64 x69.1,.int .i64 x69.2.1,.slice A72 ((x69.2.2.1).length) c73,.int .i64 x69.2.2.2.1.1,.int .i64 x69.2.2.2.1.2.1,.string x69.2.2.2.1.2.2,.string x69.2.2.2.2.1,.int .i64 x69.2.2.2.2.2.1,.int .i64 x69.2.2.2.2.2.2] ?_
   refine A.dl 2 ?_
   refine A.q0 [1401] [] [.n,.n,.b 0 0] [(79,.map (some b22)),(81,.int .i64 x69.1)] ?_
   obtain⟨x77,hv78,hF⟩:=A.lt_some hF
   refine A.AL.lk2 (t:=T42) 216 1402 (z:=((0,0,[],(0,0,(ByteArray.mk #[])),(ByteArray.mk #[]),0,0):D42)) (zs:=[.int .i64 0,.int .i64 0,.slice none 0 0,.int .i64 0,.int .i64 0,.string (ByteArray.mk #[]),.string (ByteArray.mk #[]),.int .i64 0,.int .i64 0]) ky3 x69.1 Tryd.zeroValue43 ⟨⟨rfl,by decide⟩,⟨rfl,by decide⟩,(.inr ⟨rfl,rfl⟩),⟨⟨rfl,by decide⟩,⟨rfl,by decide⟩,⟨rfl,by decide⟩⟩,⟨rfl,by decide⟩,⟨rfl,by decide⟩,⟨rfl,by decide⟩⟩ hv78 fun ho79=>?_
   intro A80 c81
   refine A.q0 [] [] [.n,.n,.n] [(83,.agg #[.int .i64 x77.1,.int .i64 x77.2.1,.slice A80 ((x77.2.2.1).length) c81,.int .i64 x77.2.2.2.1.1,.int .i64 x77.2.2.2.1.2.1,.string x77.2.2.2.1.2.2,.string x77.2.2.2.2.1,.int .i64 x77.2.2.2.2.2.1,.int .i64 x77.2.2.2.2.2.2]),(84,.bool (Z.mhas r20 x69.1))] ?_
   refine A.AL.alloc 1403 (cs:=[.int .i64 0,.int .i64 0,.slice none 0 0,.int .i64 0,.int .i64 0,.string (ByteArray.mk #[]),.string (ByteArray.mk #[]),.int .i64 0,.int .i64 0]) Tryd.zeroValue43 fun g82=>?_
   refine A.sw 1403 [] [.int .i64 x77.1,.int .i64 x77.2.1,.slice A80 ((x77.2.2.1).length) c81,.int .i64 x77.2.2.2.1.1,.int .i64 x77.2.2.2.1.2.1,.string x77.2.2.2.1.2.2,.string x77.2.2.2.2.1,.int .i64 x77.2.2.2.2.2.1,.int .i64 x77.2.2.2.2.2.2] ?_
   refine A.q0 [] [] [.n] [(18,.bool (Z.mhas r20 x69.1))] ?_
   refine A.dx 1 ?_
   refine A.AX.join [4,8,10,16,72,73,74] [2,3,6,216,296,593,1168,1304,1400,1401] (fun nl nh=>∃(y83:Bool),nl=[(92,.bool y83)]∧nh=[]∧F.delta_Diff_j3 (F.delta_Diff_l4 r20 xs29 r55 f64) xs61 y62 x69 y83=some r) ?_ ?_
   ·refine A.xl 0 ?_
    refine A.q0 [] [] [.n,.n,.n] [(87,.bool (!(Z.mhas r20 x69.1)))] ?_
    refine A.AL.cnd (j:=87) rfl hF (fun hF=>?_) (fun hF=>?_)
    ·refine A.q0 [] [] [.off,.off,.off,.off,.n] [(92,.bool true)] ?_
     refine A.AL.done ?_
     exact A.j ⟨true,rfl,rfl,hF⟩
    refine A.q0 [1403,1401] [] [.on (.b 0 0),.on (.b 1 0)] [(88,.agg #[.int .i64 x77.1,.int .i64 x77.2.1,.slice A80 ((x77.2.2.1).length) c81,.int .i64 x77.2.2.2.1.1,.int .i64 x77.2.2.2.1.2.1,.string x77.2.2.2.1.2.2,.string x77.2.2.2.2.1,.int .i64 x77.2.2.2.2.2.1,.int .i64 x77.2.2.2.2.2.2]),(89,.agg #[.int .i64 x69.1,.int .i64 x69.2.1,.slice A72 ((x69.2.2.1).length) c73,.int .i64 x69.2.2.2.1.1,.int .i64 x69.2.2.2.1.2.1,.string x69.2.2.2.1.2.2,.string x69.2.2.2.2.1,.int .i64 x69.2.2.2.2.2.1,.int .i64 x69.2.2.2.2.2.2])] ?_
    refine A.AL.on (dj:=87) rfl rfl ?_
    obtain⟨r88,hv89,hF⟩:=A.bd_some hF
    refine A.AL.call 1404 [] (first:=[]) (cap:=[]) cf18 (delta_sameNode_ok (x77.1,x77.2.1,x77.2.2.1,(x77.2.2.2.1.1,x77.2.2.2.1.2.1,x77.2.2.2.1.2.2),x77.2.2.2.2.1,x77.2.2.2.2.2.1,x77.2.2.2.2.2.2) (x69.1,x69.2.1,x69.2.2.1,(x69.2.2.2.1.1,x69.2.2.2.1.2.1,x69.2.2.2.1.2.2),x69.2.2.2.2.1,x69.2.2.2.2.2.1,x69.2.2.2.2.2.2) A80 c81 A72 c73 ho79.1 ho79.2.1 ho79.2.2.2.1.1 ho79.2.2.2.1.2.1 ho79.2.2.2.1.2.2 ho79.2.2.2.2.1 ho79.2.2.2.2.2.1 ho79.2.2.2.2.2.2 ho71.1 ho71.2.1 ho71.2.2.2.1.1 ho71.2.2.2.1.2.1 ho71.2.2.2.1.2.2 ho71.2.2.2.2.1 ho71.2.2.2.2.2.1 ho71.2.2.2.2.2.2 r88 hv89) (.s 1402 (.s 1400 .nil)) ?_
    rintro _ _ ⟨rfl,rfl⟩
    refine⟨by kernel_rfl,?_⟩
    refine A.q0 [] [] [.on .n,.n] [(92,.bool (!r88))] ?_
    refine A.AL.done ?_
    exact A.j ⟨(!r88),rfl,rfl,hF⟩
   rintro _ _ ⟨y83,rfl,rfl,hF⟩
   rw[F.delta_Diff_j3]at hF
   refine A.AX.cnb rfl hF (fun hb hF=>?_) (fun hb hF=>?_)
   ·refine A.xl 0 ?_
    refine A.q0 [296,1401] [] [.n,.b 0 1,.b 1 0] [(94,.slice A59 ((xs61).length) c60),(95,.agg #[.int .i64 x69.1,.int .i64 x69.2.1,.slice A72 ((x69.2.2.1).length) c73,.int .i64 x69.2.2.2.1.1,.int .i64 x69.2.2.2.1.2.1,.string x69.2.2.2.1.2.2,.string x69.2.2.2.2.1,.int .i64 x69.2.2.2.2.2.1,.int .i64 x69.2.2.2.2.2.2])] ?_
    refine A.AL.bsl 1444 (ty:=T42) (cs:=[.int .i64 x69.1,.int .i64 x69.2.1,.slice A72 ((x69.2.2.1).length) c73,.int .i64 x69.2.2.2.1.1,.int .i64 x69.2.2.2.1.2.1,.string x69.2.2.2.1.2.2,.string x69.2.2.2.2.1,.int .i64 x69.2.2.2.2.2.1,.int .i64 x69.2.2.2.2.2.2]) [(x69.1,x69.2.1,x69.2.2.1,(x69.2.2.2.1.1,x69.2.2.2.1.2.1,x69.2.2.2.1.2.2),x69.2.2.2.2.1,x69.2.2.2.2.2.1,x69.2.2.2.2.2.2)] ⟨⟨⟨rfl,ho71.1⟩,⟨rfl,ho71.2.1⟩,.inl ⟨1400,rfl⟩,⟨⟨rfl,ho71.2.2.2.1.1⟩,⟨rfl,ho71.2.2.2.1.2.1⟩,⟨rfl,ho71.2.2.2.1.2.2⟩⟩,⟨rfl,ho71.2.2.2.2.1⟩,⟨rfl,ho71.2.2.2.2.2.1⟩,⟨rfl,ho71.2.2.2.2.2.2⟩⟩,rfl⟩ (fun g84=>?_) Tryd.zeroValue43 Tryd.sizeOf43
    obtain⟨hl87,hF⟩:=A.gd_some hF
    refine A.AL.app (k:=1304) [] (A.rowO (k:=1444) rfl) inf43 hl87 fun A85 c86=>?_
    refine A.q0 [] [] [.n] [(98,.pointer (some ⟨g26,1,none⟩))] ?_
    refine A.AL.store 296 [] (new:=[.slice A85 ((xs61++[(x69.1,x69.2.1,x69.2.2.1,(x69.2.2.2.1.1,x69.2.2.2.1.2.1,x69.2.2.2.1.2.2),x69.2.2.2.2.1,x69.2.2.2.2.2.1,x69.2.2.2.2.2.2)]).length) c86]) (cs':=[.slice A27 ((xs29).length) c28,.slice A85 ((xs61++[(x69.1,x69.2.1,x69.2.2.1,(x69.2.2.2.1.1,x69.2.2.2.1.2.1,x69.2.2.2.1.2.2),x69.2.2.2.2.1,x69.2.2.2.2.2.1,x69.2.2.2.2.2.2)]).length) c86,.slice none 0 0]) ?_
    refine A.de 1 ?_
    exact A.j ⟨(xs61++[(x69.1,x69.2.1,x69.2.2.1,(x69.2.2.2.1.1,x69.2.2.2.1.2.1,x69.2.2.2.1.2.2),x69.2.2.2.2.1,x69.2.2.2.2.2.1,x69.2.2.2.2.2.2)]),A85,c86,rfl,rfl,hF⟩
   refine A.xe 2 ?_
   exact A.j ⟨xs61,A59,c60,rfl,rfl,hF⟩
  rintro _ _ ⟨xs67,A65,c66,rfl,rfl,hF⟩
  rw[F.delta_Diff_j2]at hF
  refine A.xl 0 ?_
  obtain⟨hc68,hF⟩:=A.gd_some hF
  refine A.q [] [] [.n,.n] [Z.R64 (y62+1)] [(74,.int .i64 (y62+1))] hc68 ?_
  refine A.AL.done ?_
  exact A.j ⟨_,Nat.lt_succ_self _,⟨xs67,(y62+1),A65,c66,rfl,rfl,(Z.i64_has hc68),hF⟩⟩
 refine A.xl 3 ?_
 refine A.q0 [296] [] [.b 0 0] [(100,.agg #[.slice A27 ((xs29).length) c28,.slice A59 ((xs61).length) c60,.slice none 0 0])] ?_
 refine A.sw 6 [] [.slice A27 ((xs29).length) c28,.slice A59 ((xs61).length) c60,.slice none 0 0] ?_
 refine A.q0 [] [] [.n] [(5,.int .i64 0)] ?_
 refine A.dx 1 ?_
 obtain rfl:=Option.some.inj hF
 refine A.frz 593 [] ?_
 refine A.frz 1304 [] ?_
 refine A.snil 1445 T83 ?_
 exact A.AX.ret [(0,593),(1,1304),(2,1445)] (.tuple #[.agg #[.slice A27 ((xs29).length) c28,.slice A59 ((xs61).length) c60,.slice none 0 0],.int .i64 0]) (fun a w hf hh=>Z.resv2 rfl (Z.rv_n hf rfl Tryd.isAgg28 Tryd.sizeOf28 (A.Hp.blk hh 6) rfl) (Z.rv_t hf rfl)) (⟨A27,c28,A59,c60,none,0,rfl,rfl,(A.hasl .i64 (0) rfl)⟩)
end Go.Proofs.YtocfaokgoflmhaaDoor
end
section
set_option linter.unusedVariables false
set_option linter.unusedSimpArgs false
set_option maxRecDepth 20000
set_option maxHeartbeats 8000000
set_option synthInstance.maxSize 1000000
set_option synthInstance.maxHeartbeats 400000
namespace Go.Proofs.YtocfaokgoflmhaaDoor
open Go.RowKit
def F.R08_Same_l1 (k3:Int→Option Bool)(y3:Int)(xs8:List Int)(xs11:List Int):Nat→Int→Option Bool
 |0,_=>none
 |f+1,y47=>if y47<((xs8).length:Int)then((A.ix xs8 y47).bind fun x50=>((A.ix xs11 y47).bind fun x56=>(if x50≠x56 then(some false)else(A.gd (Z.R64 (y47+1)) ((F.R08_Same_l1 k3 y3 xs8 xs11 f) (y47+1))))))else(A.gd (Z.R64 (y3+1)) (k3 (y3+1)))
def F.R08_Same_j2 (k3:Int→Option Bool)(y3:Int)(xs8:List Int)(xs11:List Int)(y46:Bool):Option Bool:=if y46=true then(some false)else(F.R08_Same_l1 k3 y3 xs8 xs11 A.FU 0)
def F.R08_Same_j3 (k3:Int→Option Bool)(y3:Int)(xs8:List Int)(xs11:List Int)(y12:Int)(y14:Int)(y16:Int)(y18:Int)(y20:ByteArray)(y22:ByteArray)(y24:Int)(y26:Int)(y29:Int)(y31:Int)(y33:Int)(y35:Int)(y37:ByteArray)(y39:ByteArray)(y41:Int)(y43:Int):Option Bool:=if(bif decide (y12≠y29)then true else decide (y14≠y31))=true then(F.R08_Same_j2 k3 y3 xs8 xs11 true)else(F.R08_Same_j2 k3 y3 xs8 xs11 (bif bif bif bif decide ((y16,y18,y20)≠(y33,y35,y37))then true else decide (y22≠y39)then true else decide (y24≠y41)then true else decide (y26≠y43)then true else decide (((xs8).length:Int)≠((xs11).length:Int))))
def F.R08_Same_l4 (a0:D23)(a1:D23):Nat→Int→Option Bool
 |0,_=>none
 |f+1,y3=>if y3<((a0).length:Int)then((A.ix a0 y3).bind fun x64=>((A.ix a1 y3).bind fun x72=>(F.R08_Same_j3 (F.R08_Same_l4 a0 a1 f) y3 x64.2.2.1 x72.2.2.1 x64.1 x64.2.1 x64.2.2.2.1.1 x64.2.2.2.1.2.1 x64.2.2.2.1.2.2 x64.2.2.2.2.1 x64.2.2.2.2.2.1 x64.2.2.2.2.2.2 x72.1 x72.2.1 x72.2.2.2.1.1 x72.2.2.2.1.2.1 x72.2.2.2.1.2.2 x72.2.2.2.2.1 x72.2.2.2.2.2.1 x72.2.2.2.2.2.2)))else(some true)
def F.R08_Same (a0:D23)(a1:D23):Option Bool:=if((a0).length:Int)≠((a1).length:Int)then(some false)else(F.R08_Same_l4 a0 a1 A.FU 0)
theorem R08_Same_ok (a0:D23)(a1:D23)(A0_:Option Addr)(c1_:Nat)(A2_:Option Addr)(c3_:Nat)(r:Bool)(hF:F.R08_Same a0 a1=some r):
    A.Ct Tryd.prog 9 [.agg #[.slice A0_ ((a0).length) c1_],.agg #[.slice A2_ ((a1).length) c3_]] [(0,.sh (.slice T42) [.slice A0_ (a0).length c1_] a0),(1,.sh (.slice T42) [.slice A2_ (a1).length c3_] a1)] [] (fun v H'=>v=.bool r∧H'=[]):=by
 refine A.Ct.enter Tryd.func9 rfl Tryd.ntmps9 rfl fun w0 F0=>?_
 rw[F.R08_Same]at hF
 refine A.xl 1 ?_
 refine A.AL.box 2 (cs:=[.slice A0_ ((a0).length) c1_]) fun g1=>?_
 refine A.AL.box 3 (cs:=[.slice A2_ ((a1).length) c3_]) fun g2=>?_
 refine A.q0 [] [] [.n] [] ?_
 refine A.dl 3 ?_
 refine A.q0 [2,3] [] [.n,.b 0 0,.n,.n,.b 1 0,.n,.n] [(15,.bool (decide (((a0).length:Int)≠((a1).length:Int))))] ?_
 refine A.dx 1 ?_
 refine A.AX.cnd rfl hF (fun hb hF=>?_) (fun hb hF=>?_)
 ·refine A.xl 1 ?_
  refine A.q0 [] [] [.n] [(4,.bool false)] ?_
  refine A.dx 1 ?_
  obtain rfl:=Option.some.inj hF
  exact A.rt1 [] ⟨rfl,rfl⟩
 refine A.xl 4 ?_
 refine A.q0 [] [] [.n] [(5,.int .i64 0)] ?_
 refine A.dx 2 ?_
 refine A.lp_ [2,3] [0,1,2,3] (fun f nl nh=>∃(y3:Int),nl=[(5,.int .i64 y3)]∧nh=[]∧IntKind.i64.has y3∧F.R08_Same_l4 a0 a1 f y3=some r) ⟨0,rfl,rfl,(A.hasl .i64 (0) rfl),hF⟩ ?_
 rintro f5 _ _ ⟨y3,rfl,rfl,hy4,hF⟩
 rcases f5 with _|f5
 ·exact A.no0 hF
 rw[F.R08_Same_l4]at hF
 refine A.xl 2 ?_
 refine A.q0 [2] [] [.n,.n,.b 0 0,.n,.n] [(20,.bool (decide (y3<((a0).length:Int))))] ?_
 refine A.dx 1 ?_
 refine A.AX.cnd rfl hF (fun hb hF=>?_) (fun hb hF=>?_)
 ·refine A.xx 4 ?_
  refine A.AX.join [2,3,5] [0,1,2,3] (fun nl nh=>∃(xs8:List Int),∃(xs11:List Int),∃(y12:Int),∃(y14:Int),∃(y16:Int),∃(y18:Int),∃(y20:ByteArray),∃(y22:ByteArray),∃(y24:Int),∃(y26:Int),∃(y29:Int),∃(y31:Int),∃(y33:Int),∃(y35:Int),∃(y37:ByteArray),∃(y39:ByteArray),∃(y41:Int),∃(y43:Int),∃(A6:Option Addr),∃(c7:Nat),∃(A9:Option Addr),∃(c10:Nat),∃(g28:Nat),∃(g45:Nat),nl=[(6,.pointer (some ⟨g28,0,none⟩)),(7,.pointer (some ⟨g45,0,none⟩))]∧nh=[(865,.sh (.slice (Z.Ty.int .i64)) [.slice A6 (xs8).length c7] xs8),(867,.sh (.slice (Z.Ty.int .i64)) [.slice A9 (xs11).length c10] xs11),(1168,.blk g28 43 [.int .i64 y12,.int .i64 y14,.slice A6 ((xs8).length) c7,.int .i64 y16,.int .i64 y18,.string y20,.string y22,.int .i64 y24,.int .i64 y26]),(1198,.blk g45 43 [.int .i64 y29,.int .i64 y31,.slice A9 ((xs11).length) c10,.int .i64 y33,.int .i64 y35,.string y37,.string y39,.int .i64 y41,.int .i64 y43])]∧IntKind.i64.has y12∧IntKind.i64.has y14∧IntKind.i64.has y16∧IntKind.i64.has y18∧y20.size≤maxLen∧y22.size≤maxLen∧IntKind.i64.has y24∧IntKind.i64.has y26∧IntKind.i64.has y29∧IntKind.i64.has y31∧IntKind.i64.has y33∧IntKind.i64.has y35∧y37.size≤maxLen∧y39.size≤maxLen∧IntKind.i64.has y41∧IntKind.i64.has y43∧F.R08_Same_j3 (F.R08_Same_l4 a0 a1 f5) y3 xs8 xs11 y12 y14 y16 y18 y20 y22 y24 y26 y29 y31 y33 y35 y37 y39 y41 y43=some r) ?_ ?_
  ·refine A.AX.dr mixed 13 14 (A.mb 14 0) ?_
   refine A.hq A.pb [] [0,1,2,3] [2,3] [] (A.mb 14 231) 8 [(0,.n),(2,.n),(5,.n),(7,.n),(1,.b 0 0),(6,.b 1 0)] [(25,.int .i64 y3),(30,.int .i64 y3),(24,.slice A0_ ((a0).length) c1_),(29,.slice A2_ ((a1).length) c3_)] ?_
   obtain⟨x64,hv65,hF⟩:=A.bd_some hF
   refine A.AH.pks 0 864 hv65 fun ho66=>?_
   intro A68 c69 b70 o71 hA67
   refine A.AH.v A.pb [0,1,2,3] [0,1,2,3,864,865] 3 (A.mb 14 239) rfl (fun a w hf hh=>A.r_ixa (t:=T42) hv65 hA67 hf) ?_
   refine A.hq A.pb [0,1,2,3,864,865] [0,1,2,3,864,865] [] [864] (A.mb 14 255) 6 [(4,.e 0 0)] [(27,.agg #[.int .i64 x64.1,.int .i64 x64.2.1,.slice A68 ((x64.2.2.1).length) c69,.int .i64 x64.2.2.2.1.1,.int .i64 x64.2.2.2.1.2.1,.string x64.2.2.2.1.2.2,.string x64.2.2.2.2.1,.int .i64 x64.2.2.2.2.2.1,.int .i64 x64.2.2.2.2.2.2])] ?_
   obtain⟨x72,hv73,hF⟩:=A.bd_some hF
   refine A.AH.pks 1 866 hv73 fun ho74=>?_
   intro A76 c77 b78 o79 hA75
   refine A.AH.v A.pb [0,1,2,3,864,865] [0,1,2,3,864,865,866,867] 8 (A.mb 14 511) rfl (fun a w hf hh=>A.r_ixa (t:=T42) hv73 hA75 hf) ?_
   refine A.hq A.pb [0,1,2,3,864,865,866,867] [0,1,2,3,864,865,866,867] [] [866] (A.mb 14 1023) 4 [(9,.e 0 0)] [(32,.agg #[.int .i64 x72.1,.int .i64 x72.2.1,.slice A76 ((x72.2.2.1).length) c77,.int .i64 x72.2.2.2.1.1,.int .i64 x72.2.2.2.1.2.1,.string x72.2.2.2.1.2.2,.string x72.2.2.2.2.1,.int .i64 x72.2.2.2.2.2.1,.int .i64 x72.2.2.2.2.2.2])] ?_
   refine A.AH.two 10 11 ?_ ?_
   ·refine A.AL.alloc 1168 (cs:=[.int .i64 0,.int .i64 0,.slice none 0 0,.int .i64 0,.int .i64 0,.string (ByteArray.mk #[]),.string (ByteArray.mk #[]),.int .i64 0,.int .i64 0]) Tryd.zeroValue43 fun g680=>?_
    refine A.AH.nx (A.mb 14 2047) [0,1,2,3,864,865,866,867] ?_
    refine A.AH.one 11 ?_
    refine A.AL.alloc 1198 (cs:=[.int .i64 0,.int .i64 0,.slice none 0 0,.int .i64 0,.int .i64 0,.string (ByteArray.mk #[]),.string (ByteArray.mk #[]),.int .i64 0,.int .i64 0]) Tryd.zeroValue43 fun g740=>?_
    refine A.AH.nx (A.mb 14 4095) [0,1,2,3,864,865,866,867] ?_
    refine A.AH.one 12 ?_
    refine A.sw 1168 [] [.int .i64 x64.1,.int .i64 x64.2.1,.slice A68 ((x64.2.2.1).length) c69,.int .i64 x64.2.2.2.1.1,.int .i64 x64.2.2.2.1.2.1,.string x64.2.2.2.1.2.2,.string x64.2.2.2.2.1,.int .i64 x64.2.2.2.2.2.1,.int .i64 x64.2.2.2.2.2.2] ?_
    refine A.AH.nx (A.mb 14 8191) [0,1,2,3,864,865,866,867] ?_
    refine A.AH.one 13 ?_
    refine A.sw 1198 [] [.int .i64 x72.1,.int .i64 x72.2.1,.slice A76 ((x72.2.2.1).length) c77,.int .i64 x72.2.2.2.1.1,.int .i64 x72.2.2.2.1.2.1,.string x72.2.2.2.1.2.2,.string x72.2.2.2.2.1,.int .i64 x72.2.2.2.2.2.1,.int .i64 x72.2.2.2.2.2.2] ?_
    refine A.AH.nm (A.mb 14 16383) ?_
    refine A.AH.done ?_
    exact A.j ⟨x64.2.2.1,x72.2.2.1,x64.1,x64.2.1,x64.2.2.2.1.1,x64.2.2.2.1.2.1,x64.2.2.2.1.2.2,x64.2.2.2.2.1,x64.2.2.2.2.2.1,x64.2.2.2.2.2.2,x72.1,x72.2.1,x72.2.2.2.1.1,x72.2.2.2.1.2.1,x72.2.2.2.1.2.2,x72.2.2.2.2.1,x72.2.2.2.2.2.1,x72.2.2.2.2.2.2,A68,c69,A76,c77,g680,g740,rfl,rfl,ho66.1,ho66.2.1,ho66.2.2.2.1.1,ho66.2.2.2.1.2.1,ho66.2.2.2.1.2.2,ho66.2.2.2.2.1,ho66.2.2.2.2.2.1,ho66.2.2.2.2.2.2,ho74.1,ho74.2.1,ho74.2.2.2.1.1,ho74.2.2.2.1.2.1,ho74.2.2.2.1.2.2,ho74.2.2.2.2.1,ho74.2.2.2.2.2.1,ho74.2.2.2.2.2.2,hF⟩
   refine A.AL.alloc 1198 (cs:=[.int .i64 0,.int .i64 0,.slice none 0 0,.int .i64 0,.int .i64 0,.string (ByteArray.mk #[]),.string (ByteArray.mk #[]),.int .i64 0,.int .i64 0]) Tryd.zeroValue43 fun g740=>?_
   refine A.AH.nx (A.mb 14 3071) [0,1,2,3,864,865,866,867] ?_
   refine A.AH.one 10 ?_
   refine A.AL.alloc 1168 (cs:=[.int .i64 0,.int .i64 0,.slice none 0 0,.int .i64 0,.int .i64 0,.string (ByteArray.mk #[]),.string (ByteArray.mk #[]),.int .i64 0,.int .i64 0]) Tryd.zeroValue43 fun g680=>?_
   refine A.AH.nx (A.mb 14 4095) [0,1,2,3,864,865,866,867] ?_
   refine A.AH.one 12 ?_
   refine A.sw 1168 [] [.int .i64 x64.1,.int .i64 x64.2.1,.slice A68 ((x64.2.2.1).length) c69,.int .i64 x64.2.2.2.1.1,.int .i64 x64.2.2.2.1.2.1,.string x64.2.2.2.1.2.2,.string x64.2.2.2.2.1,.int .i64 x64.2.2.2.2.2.1,.int .i64 x64.2.2.2.2.2.2] ?_
   refine A.AH.nx (A.mb 14 8191) [0,1,2,3,864,865,866,867] ?_
   refine A.AH.one 13 ?_
   refine A.sw 1198 [] [.int .i64 x72.1,.int .i64 x72.2.1,.slice A76 ((x72.2.2.1).length) c77,.int .i64 x72.2.2.2.1.1,.int .i64 x72.2.2.2.1.2.1,.string x72.2.2.2.1.2.2,.string x72.2.2.2.2.1,.int .i64 x72.2.2.2.2.2.1,.int .i64 x72.2.2.2.2.2.2] ?_
   refine A.AH.nm (A.mb 14 16383) ?_
   refine A.AH.done ?_
   exact A.j ⟨x64.2.2.1,x72.2.2.1,x64.1,x64.2.1,x64.2.2.2.1.1,x64.2.2.2.1.2.1,x64.2.2.2.1.2.2,x64.2.2.2.2.1,x64.2.2.2.2.2.1,x64.2.2.2.2.2.2,x72.1,x72.2.1,x72.2.2.2.1.1,x72.2.2.2.1.2.1,x72.2.2.2.1.2.2,x72.2.2.2.2.1,x72.2.2.2.2.2.1,x72.2.2.2.2.2.2,A68,c69,A76,c77,g680,g740,rfl,rfl,ho66.1,ho66.2.1,ho66.2.2.2.1.1,ho66.2.2.2.1.2.1,ho66.2.2.2.1.2.2,ho66.2.2.2.2.1,ho66.2.2.2.2.2.1,ho66.2.2.2.2.2.2,ho74.1,ho74.2.1,ho74.2.2.2.1.1,ho74.2.2.2.1.2.1,ho74.2.2.2.1.2.2,ho74.2.2.2.2.1,ho74.2.2.2.2.2.1,ho74.2.2.2.2.2.2,hF⟩
  rintro _ _ ⟨xs8,xs11,y12,y14,y16,y18,y20,y22,y24,y26,y29,y31,y33,y35,y37,y39,y41,y43,A6,c7,A9,c10,g28,g45,rfl,rfl,hy13,hy15,hy17,hy19,hy21,hy23,hy25,hy27,hy30,hy32,hy34,hy36,hy38,hy40,hy42,hy44,hF⟩
  rw[F.R08_Same_j3]at hF
  refine A.xx 1 ?_
  refine A.AX.join [2,3,5,6,7] [0,1,2,3,865,867,1168,1198] (fun nl nh=>∃(y46:Bool),nl=[(81,.bool y46)]∧nh=[]∧F.R08_Same_j2 (F.R08_Same_l4 a0 a1 f5) y3 xs8 xs11 y46=some r) ?_ ?_
  ·refine A.xl 0 ?_
   refine A.q0 [1168,1198] [] [.n,.b 0 0,.n,.b 1 0,.n,.n,.sy .n,.sy (.b 0 1),.sy .n,.sy (.b 1 1),.sy .n,.pk,.n] [(45,.bool (bif decide (y12≠y29)then true else decide (y14≠y31)))] ?_
   refine A.AL.cnd (j:=45) rfl hF (fun hF=>?_) (fun hF=>?_)
   ·refine A.q0 [] [] [.off,.off,.off,.off,.off,.n,.n,.off,.off,.off,.off,.off,.n,.n,.off,.off,.off,.off,.off,.n,.n,.off,.off,.off,.off,.off,.n,.n,.off,.off,.off,.off,.off,.off,.off,.n] [(81,.bool true)] ?_
    refine A.AL.done ?_
    exact A.j ⟨true,rfl,rfl,hF⟩
   refine A.q0 [1168,1198] [] [.on .n,.on (.b 0 3),.on .n,.on (.b 1 3)] [(47,.agg #[.int .i64 y16,.int .i64 y18,.string y20]),(49,.agg #[.int .i64 y33,.int .i64 y35,.string y37])] ?_
   refine A.AL.on (dj:=45) rfl rfl ?_
   refine A.AL.val rfl (fun a w hf hh=>eqagg_neq41 (x:=(y16,y18,y20)) (y:=(y33,y35,y37)) (hf.eval rfl) (hf.eval rfl)) ?_
   refine A.q0 [1168,1198] [] [.n,.n,.sy .n,.sy (.b 0 6),.sy .n,.sy (.b 1 6),.sy .n,.pk,.n,.sy .n,.sy (.b 0 7),.sy .n,.sy (.b 1 7),.sy .n,.pk,.n,.sy .n,.sy (.b 0 8),.sy .n,.sy (.b 1 8),.sy .n,.pk,.n,.sy .n,.sy (.b 0 2),.sy .n,.sy .n,.sy (.b 1 2),.sy .n,.sy .n,.pk] [(81,.bool (bif bif bif bif decide ((y16,y18,y20)≠(y33,y35,y37))then true else decide (y22≠y39)then true else decide (y24≠y41)then true else decide (y26≠y43)then true else decide (((xs8).length:Int)≠((xs11).length:Int))))] ?_
   refine A.AL.done ?_
   exact A.j ⟨(bif bif bif bif decide ((y16,y18,y20)≠(y33,y35,y37))then true else decide (y22≠y39)then true else decide (y24≠y41)then true else decide (y26≠y43)then true else decide (((xs8).length:Int)≠((xs11).length:Int))),rfl,rfl,hF⟩
  rintro _ _ ⟨y46,rfl,rfl,hF⟩
  rw[F.R08_Same_j2]at hF
  refine A.AX.cnb rfl hF (fun hb hF=>?_) (fun hb hF=>?_)
  ·refine A.xl 1 ?_
   refine A.q0 [] [] [.n] [(4,.bool false)] ?_
   refine A.dx 1 ?_
   obtain rfl:=Option.some.inj hF
   exact A.rt1 [] ⟨rfl,rfl⟩
  refine A.xl 3 ?_
  refine A.q0 [] [] [.n] [(8,.int .i64 0)] ?_
  refine A.dx 2 ?_
  refine A.lp_ [2,3,5,6,7] [0,1,2,3,865,867,1168,1198] (fun f nl nh=>∃(y47:Int),nl=[(8,.int .i64 y47)]∧nh=[]∧IntKind.i64.has y47∧F.R08_Same_l1 (F.R08_Same_l4 a0 a1 f5) y3 xs8 xs11 f y47=some r) ⟨0,rfl,rfl,(A.hasl .i64 (0) rfl),hF⟩ ?_
  rintro f49 _ _ ⟨y47,rfl,rfl,hy48,hF⟩
  rcases f49 with _|f49
  ·exact A.no0 hF
  rw[F.R08_Same_l1]at hF
  refine A.xl 2 ?_
  refine A.q0 [1168] [] [.n,.n,.b 0 2,.n,.n] [(86,.bool (decide (y47<((xs8).length:Int))))] ?_
  refine A.dx 1 ?_
  refine A.AX.cnd rfl hF (fun hb hF=>?_) (fun hb hF=>?_)
  ·refine A.xx 5 ?_
   refine A.AX.dr mixed 11 11 (A.mb 11 0) ?_
   refine A.hq A.pb [] [0,1,2,3,865,867,1168,1198] [1168,1198] [] (A.mb 11 231) 5 [(0,.n),(2,.n),(5,.n),(7,.n),(1,.b 0 2),(6,.b 1 2)] [(91,.int .i64 y47),(96,.int .i64 y47),(90,.slice A6 ((xs8).length) c7),(95,.slice A9 ((xs11).length) c10)] ?_
   obtain⟨x50,hv51,hF⟩:=A.bd_some hF
   refine A.AH.pks 865 1292 hv51 fun ho52=>?_
   intro b54 o55 hA53
   refine A.AH.v A.pb [0,1,2,3,865,867,1168,1198] [0,1,2,3,865,867,1168,1198,1292] 3 (A.mb 11 239) rfl (fun a w hf hh=>A.r_ixa (t:=(Z.Ty.int .i64)) hv51 hA53 hf) ?_
   refine A.hq A.pb [0,1,2,3,865,867,1168,1198,1292] [0,1,2,3,865,867,1168,1198,1292] [] [1292] (A.mb 11 255) 3 [(4,.e 0 0)] [(93,.int .i64 x50)] ?_
   obtain⟨x56,hv57,hF⟩:=A.bd_some hF
   refine A.AH.pks 867 1293 hv57 fun ho58=>?_
   intro b60 o61 hA59
   refine A.AH.v A.pb [0,1,2,3,865,867,1168,1198,1292] [0,1,2,3,865,867,1168,1198,1292,1293] 8 (A.mb 11 511) rfl (fun a w hf hh=>A.r_ixa (t:=(Z.Ty.int .i64)) hv57 hA59 hf) ?_
   refine A.hq A.pb [0,1,2,3,865,867,1168,1198,1292,1293] [0,1,2,3,865,867,1168,1198,1292,1293] [] [1293] (A.mb 11 2047) 0 [(9,.e 0 0),(10,.n)] [(99,.bool (decide (x50≠x56)))] ?_
   refine A.AH.done ?_
   refine A.ex 1 ?_
   refine A.AX.cnd rfl hF (fun hb hF=>?_) (fun hb hF=>?_)
   ·refine A.xl 1 ?_
    refine A.q0 [] [] [.n] [(4,.bool false)] ?_
    refine A.dx 1 ?_
    obtain rfl:=Option.some.inj hF
    exact A.rt1 [] ⟨rfl,rfl⟩
   refine A.xl 3 ?_
   obtain⟨hc62,hF⟩:=A.gd_some hF
   refine A.q [] [] [.n,.n,.n] [Z.R64 (y47+1)] [(8,.int .i64 (y47+1))] hc62 ?_
   refine A.AL.done ?_
   exact A.j ⟨_,Nat.lt_succ_self _,⟨(y47+1),rfl,rfl,(Z.i64_has hc62),hF⟩⟩
  refine A.xl 3 ?_
  obtain⟨hc63,hF⟩:=A.gd_some hF
  refine A.q [] [] [.n,.n,.n] [Z.R64 (y3+1)] [(5,.int .i64 (y3+1))] hc63 ?_
  refine A.AL.done ?_
  exact A.j ⟨_,Nat.lt_succ_self _,⟨(y3+1),rfl,rfl,(Z.i64_has hc63),hF⟩⟩
 refine A.xl 3 ?_
 refine A.q0 [] [] [.n] [(4,.bool true)] ?_
 refine A.dx 1 ?_
 obtain rfl:=Option.some.inj hF
 exact A.rt1 [] ⟨rfl,rfl⟩
def F.delta_Invert (a0:D23)(a1:D27):Option (D27×Int):=(F.delta_Apply a0 (a1.1,a1.2.1,a1.2.2)).bind fun r4=>(if r4.2≠0 then(some (([],[],[]),r4.2))else((F.delta_Diff r4.1 a0).bind fun r10=>(some ((r10.1.1,r10.1.2.1,r10.1.2.2),r10.2))))
theorem delta_Invert_ok (a0:D23)(a1:D27)(A0_:Option Addr)(c1_:Nat)(A2_:Option Addr)(c3_:Nat)(A4_:Option Addr)(c5_:Nat)(A6_:Option Addr)(c7_:Nat)(r:D27×Int)(hF:F.delta_Invert a0 a1=some r):
    A.Ct Tryd.prog 10 [.agg #[.slice A0_ ((a0).length) c1_],.agg #[.slice A2_ ((a1.1).length) c3_,.slice A4_ ((a1.2.1).length) c5_,.slice A6_ ((a1.2.2).length) c7_]] [(0,.sh (.slice T42) [.slice A0_ (a0).length c1_] a0),(1,.sh (.slice (Z.Ty.int .i64)) [.slice A2_ (a1.1).length c3_] a1.1),(2,.sh (.slice T42) [.slice A4_ (a1.2.1).length c5_] a1.2.1),(3,.sh (.slice T83) [.slice A6_ (a1.2.2).length c7_] a1.2.2),(4,.el none 0 0 A.tabF),(5,.el none 1 0 A.tabA)] [] (fun v H'=>∃(A0':Option Addr) (c1':Nat) (A2':Option Addr) (c3':Nat) (A4':Option Addr) (c5':Nat),v=.tuple #[.agg #[.slice A0' ((r.1.1).length) c1',.slice A2' ((r.1.2.1).length) c3',.slice A4' ((r.1.2.2).length) c5'],.int .i64 r.2]∧H'=[(0,.sh (.slice (Z.Ty.int .i64)) [.slice A0' (r.1.1).length c1'] r.1.1),(1,.sh (.slice T42) [.slice A2' (r.1.2.1).length c3'] r.1.2.1),(2,.sh (.slice T83) [.slice A4' (r.1.2.2).length c5'] r.1.2.2)]∧IntKind.i64.has r.2):=by
 refine A.Ct.enter Tryd.func10 rfl Tryd.ntmps10 rfl fun w0 F0=>?_
 rw[F.delta_Invert]at hF
 refine A.xl 1 ?_
 refine A.AL.box 6 (cs:=[.slice A0_ ((a0).length) c1_]) fun g1=>?_
 refine A.AL.box 7 (cs:=[.slice A2_ ((a1.1).length) c3_,.slice A4_ ((a1.2.1).length) c5_,.slice A6_ ((a1.2.2).length) c7_]) fun g2=>?_
 refine A.AL.alloc 8 (cs:=[.slice none 0 0,.slice none 0 0,.slice none 0 0]) Tryd.zeroValue28 fun g3=>?_
 refine A.q0 [] [] [.n] [] ?_
 refine A.dl 2 ?_
 refine A.q0 [6,7] [] [.b 0 0,.b 1 0] [(9,.agg #[.slice A0_ ((a0).length) c1_]),(10,.agg #[.slice A2_ ((a1.1).length) c3_,.slice A4_ ((a1.2.1).length) c5_,.slice A6_ ((a1.2.2).length) c7_])] ?_
 obtain⟨r4,hv5,hF⟩:=A.bd_some hF
 refine A.AL.call 9 [] (first:=[]) (cap:=[]) cf8 (delta_Apply_ok a0 (a1.1,a1.2.1,a1.2.2) A0_ c1_ A2_ c3_ A4_ c5_ A6_ c7_ r4 hv5) (.s 0 (.s 1 (.s 2 (.s 3 (.s 4 (.s 5 .nil)))))) ?_
 rintro _ _ ⟨A6,c7,rfl,rfl,hr8⟩
 refine⟨by kernel_rfl,?_⟩
 refine A.q0 [] [] [.n,.n,.n] [(12,.agg #[.slice A6 ((r4.1).length) c7]),(13,.int .i64 r4.2)] ?_
 refine A.AL.alloc 49 (cs:=[.slice none 0 0]) Tryd.zeroValue24 fun g9=>?_
 refine A.sw 49 [] [.slice A6 ((r4.1).length) c7] ?_
 refine A.q0 [] [] [.n] [(7,.int .i64 r4.2)] ?_
 refine A.dl 3 ?_
 refine A.q0 [] [] [.n,.n] [(15,.bool (decide (r4.2≠0)))] ?_
 refine A.dx 1 ?_
 refine A.AX.cnd rfl hF (fun hb hF=>?_) (fun hb hF=>?_)
 ·refine A.xl 1 ?_
  refine A.q0 [] [] [.n,.n] [(16,.agg #[.slice none 0 0,.slice none 0 0,.slice none 0 0]),(17,.int .i64 r4.2)] ?_
  refine A.sw 8 [] [.slice none 0 0,.slice none 0 0,.slice none 0 0] ?_
  refine A.q0 [] [] [.n] [(5,.int .i64 r4.2)] ?_
  refine A.dx 1 ?_
  obtain rfl:=Option.some.inj hF
  refine A.snil 50 (Z.Ty.int .i64) ?_
  refine A.snil 51 T42 ?_
  refine A.snil 52 T83 ?_
  exact A.AX.ret [(0,50),(1,51),(2,52)] (.tuple #[.agg #[.slice none 0 0,.slice none 0 0,.slice none 0 0],.int .i64 r4.2]) (fun a w hf hh=>Z.resv2 rfl (Z.rv_n hf rfl Tryd.isAgg28 Tryd.sizeOf28 (A.Hp.blk hh 8) rfl) (Z.rv_t hf rfl)) (⟨none,0,none,0,none,0,rfl,rfl,hr8⟩)
 refine A.xl 3 ?_
 refine A.q0 [49,6] [] [.b 0 0,.b 1 0] [(18,.agg #[.slice A6 ((r4.1).length) c7]),(19,.agg #[.slice A0_ ((a0).length) c1_])] ?_
 obtain⟨r10,hv11,hF⟩:=A.bd_some hF
 refine A.AL.call 53 [] (first:=[]) (cap:=[]) cf7 (delta_Diff_ok r4.1 a0 A6 c7 A0_ c1_ r10 hv11) (.s 9 (.s 0 (.s 4 (.s 5 .nil)))) ?_
 rintro _ _ ⟨A12,c13,A14,c15,A16,c17,rfl,rfl,hr18⟩
 refine⟨by kernel_rfl,?_⟩
 refine A.q0 [] [] [.n,.n] [(21,.agg #[.slice A12 ((r10.1.1).length) c13,.slice A14 ((r10.1.2.1).length) c15,.slice A16 ((r10.1.2.2).length) c17]),(22,.int .i64 r10.2)] ?_
 refine A.sw 8 [] [.slice A12 ((r10.1.1).length) c13,.slice A14 ((r10.1.2.1).length) c15,.slice A16 ((r10.1.2.2).length) c17] ?_
 refine A.q0 [] [] [.n] [(5,.int .i64 r10.2)] ?_
 refine A.dx 1 ?_
 obtain rfl:=Option.some.inj hF
 exact A.AX.ret [(0,53),(1,54),(2,55)] (.tuple #[.agg #[.slice A12 ((r10.1.1).length) c13,.slice A14 ((r10.1.2.1).length) c15,.slice A16 ((r10.1.2.2).length) c17],.int .i64 r10.2]) (fun a w hf hh=>Z.resv2 rfl (Z.rv_n hf rfl Tryd.isAgg28 Tryd.sizeOf28 (A.Hp.blk hh 8) rfl) (Z.rv_t hf rfl)) (⟨A12,c13,A14,c15,A16,c17,rfl,rfl,hr18⟩)
end Go.Proofs.YtocfaokgoflmhaaDoor
end
section
set_option linter.unusedVariables false
set_option linter.unusedSimpArgs false
set_option maxRecDepth 20000
set_option maxHeartbeats 8000000
set_option synthInstance.maxSize 1000000
set_option synthInstance.maxHeartbeats 400000
namespace Go.Proofs.YtocfaokgoflmhaaDoor
open Go.RowKit
def F.L09_DeltaBack_j1 (y29:Bool):Option Bool:=some y29
def F.L09_DeltaBack_j2 (a0:D23)(a2:D27):Option Bool:=(F.delta_Invert a0 (a2.1,a2.2.1,a2.2.2)).bind fun r7=>(if r7.2≠0 then(some true)else((F.delta_Apply a0 (a2.1,a2.2.1,a2.2.2)).bind fun r17=>((F.delta_Apply r17.1 (r7.1.1,r7.1.2.1,r7.1.2.2)).bind fun r23=>(if(bif decide (r17.2=0)then decide (r23.2=0)else false)=true then((F.R08_Same r23.1 a0).bind fun r30=>(F.L09_DeltaBack_j1 r30))else(F.L09_DeltaBack_j1 false)))))
def F.L09_DeltaBack_j3 (a0:D23)(a2:D27)(y48:Bool):Option Bool:=if y48=true then(some false)else(F.L09_DeltaBack_j2 a0 a2)
def F.L09_DeltaBack_j4 (a0:D23)(a1:D23)(a2:D27)(y6:Bool):Option Bool:=if y6=true then(some true)else((F.delta_Diff a0 a1).bind fun r32=>(if r32.2=0 then((F.delta_Apply a0 (r32.1.1,r32.1.2.1,r32.1.2.2)).bind fun r42=>(if r42.2≠0 then(F.L09_DeltaBack_j3 a0 a2 true)else((F.R08_Same r42.1 a1).bind fun r49=>(F.L09_DeltaBack_j3 a0 a2 (!r49)))))else(F.L09_DeltaBack_j2 a0 a2)))
def F.L09_DeltaBack (a0:D23)(a1:D23)(a2:D27):Option Bool:=(F.L09_live).bind fun r4=>(if(!r4)=true then(some false)else((F.L09_few [a0,a1]).bind fun r52=>(if(!r52)=true then(F.L09_DeltaBack_j4 a0 a1 a2 true)else((F.L09_thin (a2.1,a2.2.1,a2.2.2)).bind fun r54=>(F.L09_DeltaBack_j4 a0 a1 a2 (!r54))))))
theorem L09_DeltaBack_ok (a0:D23)(a1:D23)(a2:D27)(A0_:Option Addr)(c1_:Nat)(A2_:Option Addr)(c3_:Nat)(A4_:Option Addr)(c5_:Nat)(A6_:Option Addr)(c7_:Nat)(A8_:Option Addr)(c9_:Nat)(r:Bool)(hF:F.L09_DeltaBack a0 a1 a2=some r):
    A.Ct Tryd.prog 3 [.agg #[.slice A0_ ((a0).length) c1_],.agg #[.slice A2_ ((a1).length) c3_],.agg #[.slice A4_ ((a2.1).length) c5_,.slice A6_ ((a2.2.1).length) c7_,.slice A8_ ((a2.2.2).length) c9_]] [(0,.sh (.slice T42) [.slice A0_ (a0).length c1_] a0),(1,.sh (.slice T42) [.slice A2_ (a1).length c3_] a1),(2,.sh (.slice (Z.Ty.int .i64)) [.slice A4_ (a2.1).length c5_] a2.1),(3,.sh (.slice T42) [.slice A6_ (a2.2.1).length c7_] a2.2.1),(4,.sh (.slice T83) [.slice A8_ (a2.2.2).length c9_] a2.2.2),(5,.el none 0 0 A.tabF),(6,.el none 1 0 A.tabA)] [] (fun v H'=>v=.bool r∧H'=[]):=by
 refine A.Ct.enter Tryd.func3 rfl Tryd.ntmps3 rfl fun w0 F0=>?_
 rw[F.L09_DeltaBack]at hF
 refine A.xl 1 ?_
 refine A.AL.box 7 (cs:=[.slice A0_ ((a0).length) c1_]) fun g1=>?_
 refine A.AL.box 8 (cs:=[.slice A2_ ((a1).length) c3_]) fun g2=>?_
 refine A.AL.box 9 (cs:=[.slice A4_ ((a2.1).length) c5_,.slice A6_ ((a2.2.1).length) c7_,.slice A8_ ((a2.2.2).length) c9_]) fun g3=>?_
 refine A.q0 [] [] [.n] [] ?_
 refine A.dl 3 ?_
 obtain⟨r4,hv5,hF⟩:=A.bd_some hF
 refine A.AL.call 10 [] (first:=[]) (cap:=[]) cf4 (L09_live_ok r4 hv5) (.s 5 (.s 6 .nil)) ?_
 rintro _ _ ⟨rfl,rfl⟩
 refine⟨by kernel_rfl,?_⟩
 refine A.q0 [] [] [.n] [(18,.bool (!r4))] ?_
 refine A.dx 1 ?_
 refine A.AX.cnb rfl hF (fun hb hF=>?_) (fun hb hF=>?_)
 ·refine A.xl 1 ?_
  refine A.q0 [] [] [.n] [(6,.bool false)] ?_
  refine A.dx 1 ?_
  obtain rfl:=Option.some.inj hF
  exact A.rt1 [] ⟨rfl,rfl⟩
 refine A.xx 3 ?_
 refine A.AX.join [3,4,5] [0,1,2,3,4,5,6,7,8,9] (fun nl nh=>∃(y6:Bool),nl=[(30,.bool y6)]∧nh=[]∧F.L09_DeltaBack_j4 a0 a1 a2 y6=some r) ?_ ?_
 ·refine A.xl 0 ?_
  refine A.q0 [7,8] [] [.n,.b 0 0,.n,.b 1 0] [(20,.slice A0_ ((a0).length) c1_),(22,.slice A2_ ((a1).length) c3_)] ?_
  refine A.AL.bsl 50 (ty:=(Z.Ty.slice T42)) (cs:=[.slice A0_ ((a0).length) c1_,.slice A2_ ((a1).length) c3_]) [a0,a1] ⟨.inl ⟨0,rfl⟩,⟨.inl ⟨1,rfl⟩,rfl⟩⟩ (fun g51=>?_) Tryd.zeroValue22 Tryd.sizeOf22
  obtain⟨r52,hv53,hF⟩:=A.bd_some hF
  refine A.AL.call 51 [] (first:=[]) (cap:=[]) cf5 (L09_few_ok [a0,a1] (some ⟨g51,0,none⟩) 2 r52 hv53) (.o 50 .nil) ?_
  rintro _ _ ⟨rfl,rfl⟩
  refine⟨by kernel_rfl,?_⟩
  refine A.q0 [] [] [.n,.n] [(26,.bool (!r52))] ?_
  refine A.AL.cnd (j:=26) rfl hF (fun hF=>?_) (fun hF=>?_)
  ·refine A.q0 [] [] [.off,.off,.off,.n] [(30,.bool true)] ?_
   refine A.AL.done ?_
   exact A.j ⟨true,rfl,rfl,hF⟩
  refine A.q0 [9] [] [.on (.b 0 0)] [(27,.agg #[.slice A4_ ((a2.1).length) c5_,.slice A6_ ((a2.2.1).length) c7_,.slice A8_ ((a2.2.2).length) c9_])] ?_
  refine A.AL.on (dj:=26) rfl rfl ?_
  obtain⟨r54,hv55,hF⟩:=A.bd_some hF
  refine A.AL.call 91 [] (first:=[]) (cap:=[]) cf6 (L09_thin_ok (a2.1,a2.2.1,a2.2.2) A4_ c5_ A6_ c7_ A8_ c9_ r54 hv55) (.s 2 (.s 3 (.s 4 .nil))) ?_
  rintro _ _ ⟨rfl,rfl⟩
  refine⟨by kernel_rfl,?_⟩
  refine A.q0 [] [] [.on .n,.n] [(30,.bool (!r54))] ?_
  refine A.AL.done ?_
  exact A.j ⟨(!r54),rfl,rfl,hF⟩
 rintro _ _ ⟨y6,rfl,rfl,hF⟩
 rw[F.L09_DeltaBack_j4]at hF
 refine A.AX.cnb rfl hF (fun hb hF=>?_) (fun hb hF=>?_)
 ·refine A.xl 1 ?_
  refine A.q0 [] [] [.n] [(6,.bool true)] ?_
  refine A.dx 1 ?_
  obtain rfl:=Option.some.inj hF
  exact A.rt1 [] ⟨rfl,rfl⟩
 refine A.xx 2 ?_
 refine A.AX.join [3,5] [0,2,3,4,5,6,7,9] (fun nl nh=>nl=[]∧nh=[]∧F.L09_DeltaBack_j2 a0 a2=some r) ?_ ?_
 ·refine A.xl 1 ?_
  refine A.q0 [7,8] [] [.b 0 0,.b 1 0] [(32,.agg #[.slice A0_ ((a0).length) c1_]),(33,.agg #[.slice A2_ ((a1).length) c3_])] ?_
  obtain⟨r32,hv33,hF⟩:=A.bd_some hF
  refine A.AL.call 131 [] (first:=[]) (cap:=[]) cf7 (delta_Diff_ok a0 a1 A0_ c1_ A2_ c3_ r32 hv33) (.s 0 (.s 1 (.s 5 (.s 6 .nil)))) ?_
  rintro _ _ ⟨A34,c35,A36,c37,A38,c39,rfl,rfl,hr40⟩
  refine⟨by kernel_rfl,?_⟩
  refine A.q0 [] [] [.n,.n,.n] [(35,.agg #[.slice A34 ((r32.1.1).length) c35,.slice A36 ((r32.1.2.1).length) c37,.slice A38 ((r32.1.2.2).length) c39]),(36,.int .i64 r32.2)] ?_
  refine A.AL.alloc 171 (cs:=[.slice none 0 0,.slice none 0 0,.slice none 0 0]) Tryd.zeroValue28 fun g41=>?_
  refine A.sw 171 [] [.slice A34 ((r32.1.1).length) c35,.slice A36 ((r32.1.2.1).length) c37,.slice A38 ((r32.1.2.2).length) c39] ?_
  refine A.q0 [] [] [.n] [(8,.int .i64 r32.2)] ?_
  refine A.dl 2 ?_
  refine A.q0 [] [] [.n,.n] [(38,.bool (decide (r32.2=0)))] ?_
  refine A.dx 1 ?_
  refine A.AX.cnd rfl hF (fun hb hF=>?_) (fun hb hF=>?_)
  ·refine A.xl 1 ?_
   refine A.q0 [7,171] [] [.b 0 0,.b 1 0] [(40,.agg #[.slice A0_ ((a0).length) c1_]),(41,.agg #[.slice A34 ((r32.1.1).length) c35,.slice A36 ((r32.1.2.1).length) c37,.slice A38 ((r32.1.2.2).length) c39])] ?_
   obtain⟨r42,hv43,hF⟩:=A.bd_some hF
   refine A.AL.call 172 [] (first:=[]) (cap:=[]) cf8 (delta_Apply_ok a0 (r32.1.1,r32.1.2.1,r32.1.2.2) A0_ c1_ A34 c35 A36 c37 A38 c39 r42 hv43) (.s 0 (.s 131 (.s 132 (.s 133 (.s 5 (.s 6 .nil)))))) ?_
   rintro _ _ ⟨A44,c45,rfl,rfl,hr46⟩
   refine⟨by kernel_rfl,?_⟩
   refine A.q0 [] [] [.n,.n,.n] [(43,.agg #[.slice A44 ((r42.1).length) c45]),(44,.int .i64 r42.2)] ?_
   refine A.AL.alloc 212 (cs:=[.slice none 0 0]) Tryd.zeroValue24 fun g47=>?_
   refine A.sw 212 [] [.slice A44 ((r42.1).length) c45] ?_
   refine A.q0 [] [] [.n] [(10,.int .i64 r42.2)] ?_
   refine A.dx 1 ?_
   refine A.AX.join [3,5] [0,2,3,4,5,6,7,9] (fun nl nh=>∃(y48:Bool),nl=[(52,.bool y48)]∧nh=[]∧F.L09_DeltaBack_j3 a0 a2 y48=some r) ?_ ?_
   ·refine A.xl 0 ?_
    refine A.q0 [] [] [.n,.n,.n] [(47,.bool (decide (r42.2≠0)))] ?_
    refine A.AL.cnp (j:=47) rfl hF (fun hb hF=>?_) (fun hb hF=>?_)
    ·refine A.q0 [] [] [.off,.off,.off,.off,.n] [(52,.bool true)] ?_
     refine A.AL.done ?_
     exact A.j ⟨true,rfl,rfl,hF⟩
    refine A.q0 [212,8] [] [.on (.b 0 0),.on (.b 1 0)] [(48,.agg #[.slice A44 ((r42.1).length) c45]),(49,.agg #[.slice A2_ ((a1).length) c3_])] ?_
    refine A.AL.on (dj:=47) rfl rfl ?_
    obtain⟨r49,hv50,hF⟩:=A.bd_some hF
    refine A.AL.call 213 [] (first:=[]) (cap:=[]) cf9 (R08_Same_ok r42.1 a1 A44 c45 A2_ c3_ r49 hv50) (.s 172 (.s 1 .nil)) ?_
    rintro _ _ ⟨rfl,rfl⟩
    refine⟨by kernel_rfl,?_⟩
    refine A.q0 [] [] [.on .n,.n] [(52,.bool (!r49))] ?_
    refine A.AL.done ?_
    exact A.j ⟨(!r49),rfl,rfl,hF⟩
   rintro _ _ ⟨y48,rfl,rfl,hF⟩
   rw[F.L09_DeltaBack_j3]at hF
   refine A.AX.cnb rfl hF (fun hb hF=>?_) (fun hb hF=>?_)
   ·refine A.xl 1 ?_
    refine A.q0 [] [] [.n] [(6,.bool false)] ?_
    refine A.dx 1 ?_
    obtain rfl:=Option.some.inj hF
    exact A.rt1 [] ⟨rfl,rfl⟩
   refine A.xe 1 ?_
   exact A.j ⟨rfl,rfl,hF⟩
  refine A.xe 1 ?_
  exact A.j ⟨rfl,rfl,hF⟩
 rintro _ _ ⟨rfl,rfl,hF⟩
 rw[F.L09_DeltaBack_j2]at hF
 refine A.xl 1 ?_
 refine A.q0 [7,9] [] [.b 0 0,.b 1 0] [(54,.agg #[.slice A0_ ((a0).length) c1_]),(55,.agg #[.slice A4_ ((a2.1).length) c5_,.slice A6_ ((a2.2.1).length) c7_,.slice A8_ ((a2.2.2).length) c9_])] ?_
 obtain⟨r7,hv8,hF⟩:=A.bd_some hF
 refine A.AL.call 253 [] (first:=[]) (cap:=[]) cf10 (delta_Invert_ok a0 (a2.1,a2.2.1,a2.2.2) A0_ c1_ A4_ c5_ A6_ c7_ A8_ c9_ r7 hv8) (.s 0 (.s 2 (.s 3 (.s 4 (.s 5 (.s 6 .nil)))))) ?_
 rintro _ _ ⟨A9,c10,A11,c12,A13,c14,rfl,rfl,hr15⟩
 refine⟨by kernel_rfl,?_⟩
 refine A.q0 [] [] [.n,.n,.n] [(57,.agg #[.slice A9 ((r7.1.1).length) c10,.slice A11 ((r7.1.2.1).length) c12,.slice A13 ((r7.1.2.2).length) c14]),(58,.int .i64 r7.2)] ?_
 refine A.AL.alloc 293 (cs:=[.slice none 0 0,.slice none 0 0,.slice none 0 0]) Tryd.zeroValue28 fun g16=>?_
 refine A.sw 293 [] [.slice A9 ((r7.1.1).length) c10,.slice A11 ((r7.1.2.1).length) c12,.slice A13 ((r7.1.2.2).length) c14] ?_
 refine A.q0 [] [] [.n] [(12,.int .i64 r7.2)] ?_
 refine A.dl 3 ?_
 refine A.q0 [] [] [.n,.n] [(60,.bool (decide (r7.2≠0)))] ?_
 refine A.dx 1 ?_
 refine A.AX.cnd rfl hF (fun hb hF=>?_) (fun hb hF=>?_)
 ·refine A.xl 1 ?_
  refine A.q0 [] [] [.n] [(6,.bool true)] ?_
  refine A.dx 1 ?_
  obtain rfl:=Option.some.inj hF
  exact A.rt1 [] ⟨rfl,rfl⟩
 refine A.xl 3 ?_
 refine A.q0 [7,9] [] [.b 0 0,.b 1 0] [(62,.agg #[.slice A0_ ((a0).length) c1_]),(63,.agg #[.slice A4_ ((a2.1).length) c5_,.slice A6_ ((a2.2.1).length) c7_,.slice A8_ ((a2.2.2).length) c9_])] ?_
 obtain⟨r17,hv18,hF⟩:=A.bd_some hF
 refine A.AL.call 294 [] (first:=[]) (cap:=[]) cf8 (delta_Apply_ok a0 (a2.1,a2.2.1,a2.2.2) A0_ c1_ A4_ c5_ A6_ c7_ A8_ c9_ r17 hv18) (.s 0 (.s 2 (.s 3 (.s 4 (.s 5 (.s 6 .nil)))))) ?_
 rintro _ _ ⟨A19,c20,rfl,rfl,hr21⟩
 refine⟨by kernel_rfl,?_⟩
 refine A.q0 [] [] [.n,.n,.n] [(65,.agg #[.slice A19 ((r17.1).length) c20]),(66,.int .i64 r17.2)] ?_
 refine A.AL.alloc 334 (cs:=[.slice none 0 0]) Tryd.zeroValue24 fun g22=>?_
 refine A.sw 334 [] [.slice A19 ((r17.1).length) c20] ?_
 refine A.q0 [] [] [.n] [(14,.int .i64 r17.2)] ?_
 refine A.dl 2 ?_
 refine A.q0 [334,293] [] [.b 0 0,.b 1 0] [(68,.agg #[.slice A19 ((r17.1).length) c20]),(69,.agg #[.slice A9 ((r7.1.1).length) c10,.slice A11 ((r7.1.2.1).length) c12,.slice A13 ((r7.1.2.2).length) c14])] ?_
 obtain⟨r23,hv24,hF⟩:=A.bd_some hF
 refine A.AL.call 335 [] (first:=[]) (cap:=[]) cf8 (delta_Apply_ok r17.1 (r7.1.1,r7.1.2.1,r7.1.2.2) A19 c20 A9 c10 A11 c12 A13 c14 r23 hv24) (.s 294 (.s 253 (.s 254 (.s 255 (.s 5 (.s 6 .nil)))))) ?_
 rintro _ _ ⟨A25,c26,rfl,rfl,hr27⟩
 refine⟨by kernel_rfl,?_⟩
 refine A.q0 [] [] [.n,.n,.n] [(71,.agg #[.slice A25 ((r23.1).length) c26]),(72,.int .i64 r23.2)] ?_
 refine A.AL.alloc 375 (cs:=[.slice none 0 0]) Tryd.zeroValue24 fun g28=>?_
 refine A.sw 375 [] [.slice A25 ((r23.1).length) c26] ?_
 refine A.q0 [] [] [.n] [(16,.int .i64 r23.2)] ?_
 refine A.dx 1 ?_
 refine A.AX.join [] [5,6] (fun nl nh=>∃(y29:Bool),nl=[(6,.bool y29)]∧nh=[]∧F.L09_DeltaBack_j1 y29=some r) ?_ ?_
 ·refine A.xl 0 ?_
  refine A.q0 [] [] [.n,.n,.n,.sy .n,.sy .n,.pk,.n] [(79,.bool (bif decide (r17.2=0)then decide (r23.2=0)else false))] ?_
  refine A.AL.cnd (j:=79) rfl hF (fun hF=>?_) (fun hF=>?_)
  ·refine A.q0 [375,7] [] [.on (.b 0 0),.on (.b 1 0)] [(80,.agg #[.slice A25 ((r23.1).length) c26]),(81,.agg #[.slice A0_ ((a0).length) c1_])] ?_
   refine A.AL.on (dj:=79) rfl rfl ?_
   obtain⟨r30,hv31,hF⟩:=A.bd_some hF
   refine A.AL.call 376 [] (first:=[]) (cap:=[]) cf9 (R08_Same_ok r23.1 a0 A25 c26 A0_ c1_ r30 hv31) (.s 335 (.s 0 .nil)) ?_
   rintro _ _ ⟨rfl,rfl⟩
   refine⟨by kernel_rfl,?_⟩
   refine A.q0 [] [] [.n,.n] [(6,.bool r30)] ?_
   refine A.AL.done ?_
   exact A.j ⟨r30,rfl,rfl,hF⟩
  refine A.q0 [] [] [.off,.off,.off,.n,.n] [(6,.bool false)] ?_
  refine A.AL.done ?_
  exact A.j ⟨false,rfl,rfl,hF⟩
 rintro _ _ ⟨y29,rfl,rfl,hF⟩
 rw[F.L09_DeltaBack_j1]at hF
 obtain rfl:=Option.some.inj hF
 exact A.rt1 [] ⟨rfl,rfl⟩
end Go.Proofs.YtocfaokgoflmhaaDoor
end
section
set_option maxRecDepth 20000
set_option maxHeartbeats 8000000
set_option linter.unusedVariables false
set_option synthInstance.maxSize 1000000
set_option synthInstance.maxHeartbeats 400000
namespace Go.Proofs.YtocfaokgoflmhaaDoor
open Go.RowKit
abbrev X128:Type:=Int×Int
abbrev X130:Type:=X128×Int
abbrev X153:Type:=Int×Int×Int×Int
abbrev X154:Type:=Int×Int×Int×Int×X153
abbrev X157:Type:=X128×X128×X154
abbrev X198:Type:=Int×Int
abbrev X67:Type:=Int×Int×ByteArray
abbrev X69:Type:=Int×Int×(List Int)×X67×ByteArray×Int×Int
abbrev X23:Type:=(List X69)
abbrev X82:Type:=Int×Int×Int×Int×X67
abbrev X27:Type:=(List Int)×(List X69)×(List X82)
def F.R08_Ins (a0:Int):Option Int:=if(bif decide (a0<1)then true else decide ((16:Int)<a0))=true then(some (-1))else(if a0=1 then(some 0)else(if(bif decide (a0=5)then true else decide (a0=9))=true then(some 2)else(some 1)))
theorem eqn0:True:=(fun _=>trivial) @F.R08_Ins.eq_1
def F.R08_Named_j1 (k1:Int→Option (Int×Bool))(a0:X23)(y2:Int)(y5:Bool):Option (Int×Bool):=if y5=true then((A.ix a0 y2).bind fun x6=>(some (x6.1,true)))else(A.gd (Z.R64 (y2+1)) (k1 (y2+1)))
theorem eqn1:True:=(fun _=>trivial) @F.R08_Named_j1.eq_1
def F.R08_Named_l2 (a0:X23)(a1:Int)(a2:ByteArray):Nat→Int→Option (Int×Bool)
 |0,_=>none
 |f+1,y2=>if y2<((a0).length:Int)then((A.ix a0 y2).bind fun x14=>(if x14.2.1=a1 then((A.ix a0 y2).bind fun x21=>(F.R08_Named_j1 (F.R08_Named_l2 a0 a1 a2 f) a0 y2 (decide (x21.2.2.2.2.1=a2))))else(F.R08_Named_j1 (F.R08_Named_l2 a0 a1 a2 f) a0 y2 false)))else(some (0,false))
def F.R08_Named (a0:X23)(a1:Int)(a2:ByteArray):Option (Int×Bool):=F.R08_Named_l2 a0 a1 a2 A.FU 0
def F.R08_letter (a0:UInt8):Option Bool:=if(bif decide ((97:Int)≤(a0.toNat:Int))then decide ((a0.toNat:Int)≤122)else false)=true then(some true)else(some (bif decide ((65:Int)≤(a0.toNat:Int))then decide ((a0.toNat:Int)≤90)else false))
theorem eqn4:True:=(fun _=>trivial) @F.R08_letter.eq_1
def F.R08_digit (a0:UInt8):Option Bool:=some (bif decide ((48:Int)≤(a0.toNat:Int))then decide ((a0.toNat:Int)≤57)else false)
def F.R08_name_j1 (k1:Int→Option Bool)(y2:Int)(y5:Bool):Option Bool:=if y5=true then(some false)else(A.gd (Z.R64 (y2+1)) (k1 (y2+1)))
def F.R08_name_l2 (a0:ByteArray):Nat→Int→Option Bool
 |0,_=>none
 |f+1,y2=>if y2<(a0.size:Int)then((A.ix a0.data.toList y2).bind fun x7=>((F.R08_letter x7).bind fun r9=>(if(!r9)=true then((A.ix a0.data.toList y2).bind fun x11=>((F.R08_digit x11).bind fun r13=>(F.R08_name_j1 (F.R08_name_l2 a0 f) y2 (!r13))))else(F.R08_name_j1 (F.R08_name_l2 a0 f) y2 false))))else(some true)
def F.R08_name_j3 (a0:ByteArray)(y1:Bool):Option Bool:=if y1=true then(some false)else(F.R08_name_l2 a0 A.FU 0)
def F.R08_name (a0:ByteArray):Option Bool:=if(bif decide (a0=(ByteArray.mk #[]))then true else decide ((16:Int)<(a0.size:Int)))=true then(F.R08_name_j3 a0 true)else((A.ix a0.data.toList 0).bind fun x15=>((F.R08_letter x15).bind fun r17=>(F.R08_name_j3 a0 (!r17))))
theorem eqn9:True:=(fun _=>trivial) @F.R08_name.eq_1
def F.R08_own_j1 (a0:X23)(x2:X69):Option Bool:=if(bif decide (x2.2.1≠1)then decide (x2.2.1≠15)else false)=true then(some (decide (x2.2.2.2.2.1=(ByteArray.mk #[]))))else((F.R08_Named a0 x2.2.1 x2.2.2.2.2.1).bind fun r11=>((F.R08_name x2.2.2.2.2.1).bind fun r14=>(some (bif r14 then decide (r11.1=x2.1)else false))))
theorem eqn10:True:=(fun _=>trivial) @F.R08_own_j1.eq_1
def F.R08_own_j2 (a0:X23)(x2:X69)(y10:Bool):Option Bool:=if y10=true then(some false)else(if x2.2.1=14 then(if(bif bif bif decide (x2.2.2.2.2.2.1<1)then true else decide ((8:Int)<x2.2.2.2.2.2.1)then true else decide (x2.2.2.2.2.2.2<1)then true else decide ((4:Int)<x2.2.2.2.2.2.2))=true then(some false)else(F.R08_own_j1 a0 x2))else(if(bif decide (x2.2.2.2.2.2.1≠0)then true else decide (x2.2.2.2.2.2.2≠0))=true then(some false)else(F.R08_own_j1 a0 x2)))
theorem eqn11:True:=(fun _=>trivial) @F.R08_own_j2.eq_1
def F.R08_own (a0:X23)(a1:Int):Option Bool:=(A.ix a0 a1).bind fun x2=>(if(bif decide (x2.1<1)then true else decide ((255:Int)<x2.1))=true then(F.R08_own_j2 a0 x2 true)else(if(0:Int)<a1 then(A.gd (Z.R64 (a1-1)) ((A.ix a0 (a1-1)).bind fun x17=>(if x2.1≤x17.1 then(F.R08_own_j2 a0 x2 true)else((F.R08_Ins x2.2.1).bind fun r25=>(if r25<0 then(F.R08_own_j2 a0 x2 true)else((F.R08_Ins x2.2.1).bind fun r28=>(F.R08_own_j2 a0 x2 (decide (((x2.2.2.1).length:Int)≠r28)))))))))else((F.R08_Ins x2.2.1).bind fun r31=>(if r31<0 then(F.R08_own_j2 a0 x2 true)else((F.R08_Ins x2.2.1).bind fun r34=>(F.R08_own_j2 a0 x2 (decide (((x2.2.2.1).length:Int)≠r34))))))))
theorem eqn12:True:=(fun _=>trivial) @F.R08_own.eq_1
def F.R06_Uses_l1 (y3:Int):Nat→(List Int)→Int→Option (List Int)
 |0,_,_=>none
 |f+1,xs7,y8=>if y8≤y3 then(A.gd ((List.length (α:=Int) xs7+List.length (α:=Int) [y8])*8≤140737488355328) (A.gd (Z.R64 (y8+1)) ((F.R06_Uses_l1 y3 f) (xs7++[y8]) (y8+1))))else(some xs7)
def F.R06_Uses_j2 (y1:Int)(y3:Int):Option (List Int):=F.R06_Uses_l1 y3 A.FU [] y1
def F.R06_Uses (a0:Int):Option (List Int):=if a0=2 then(F.R06_Uses_j2 1 8)else(if a0=3 then(F.R06_Uses_j2 11 13)else(if a0=4 then(F.R06_Uses_j2 21 22)else(if a0=8 then(F.R06_Uses_j2 31 34)else(if a0=11 then(F.R06_Uses_j2 41 42)else(F.R06_Uses_j2 1 0)))))
theorem eqn15:True:=(fun _=>trivial) @F.R06_Uses.eq_1
def F.R06_number_j1 (a0:X67)(y3:Bool):Option Bool:=if y3=true then(some (bif decide ((1:Int)≤a0.2.1)then decide (a0.2.1≤1048576)else false))else(some (decide (a0.2.1=0)))
def F.R06_number_j2 (a0:X67)(y2:Bool):Option Bool:=if y2=true then(some (bif decide ((0:Int)≤a0.2.1)then decide (a0.2.1≤64)else false))else(if a0.1=6 then(F.R06_number_j1 a0 (decide (a0.1=6)))else(F.R06_number_j1 a0 (decide (a0.1=11))))
theorem eqn17:True:=(fun _=>trivial) @F.R06_number_j2.eq_1
def F.R06_number (a0:X67):Option Bool:=if a0.1=3 then(F.R06_number_j2 a0 (decide (a0.1=3)))else(F.R06_number_j2 a0 (decide (a0.1=13)))
def F.R05_tail (a0:UInt8):Option Bool:=some (bif decide ((128:Int)≤(a0.toNat:Int))then decide ((a0.toNat:Int)≤191)else false)
def F.R05_width_j1 (x2:UInt8)(y4:UInt8)(y7:Bool):Option Int:=if y7=true then(if(bif decide ((x2.toNat:Int)=240)then decide ((y4.toNat:Int)<144)else false)=true then(some 0)else(if(bif decide ((x2.toNat:Int)=244)then decide ((143:Int)<(y4.toNat:Int))else false)=true then(some 0)else(some 4)))else(some 0)
theorem eqn20:True:=(fun _=>trivial) @F.R05_width_j1.eq_1
def F.R05_width_j2 (a0:ByteArray)(a1:Int)(x2:UInt8)(y4:UInt8)(y6:Bool):Option Int:=if y6=true then(if(bif decide ((x2.toNat:Int)=224)then decide ((y4.toNat:Int)<160)else false)=true then(some 0)else(if(bif decide ((x2.toNat:Int)=237)then decide ((159:Int)<(y4.toNat:Int))else false)=true then(some 0)else(some 3)))else(if(bif bif decide ((240:Int)≤(x2.toNat:Int))then decide ((x2.toNat:Int)≤244)else false then decide ((4:Int)≤(a0.size:Int)-a1)else false)=true then((F.R05_tail y4).bind fun r8=>(if r8=true then(A.gd (Z.R64 (a1+2)) ((A.ix a0.data.toList (a1+2)).bind fun x11=>((F.R05_tail x11).bind fun r13=>(if r13=true then(A.gd (Z.R64 (a1+3)) ((A.ix a0.data.toList (a1+3)).bind fun x16=>((F.R05_tail x16).bind fun r18=>(F.R05_width_j1 x2 y4 r18))))else(F.R05_width_j1 x2 y4 false)))))else(F.R05_width_j1 x2 y4 false)))else(F.R05_width_j1 x2 y4 false))
theorem eqn21:True:=(fun _=>trivial) @F.R05_width_j2.eq_1
def F.R05_width_j3 (a0:ByteArray)(a1:Int)(x2:UInt8)(y4:UInt8)(y5:Bool):Option Int:=if y5=true then(some 2)else(if(bif bif decide ((224:Int)≤(x2.toNat:Int))then decide ((x2.toNat:Int)≤239)else false then decide ((3:Int)≤(a0.size:Int)-a1)else false)=true then((F.R05_tail y4).bind fun r20=>(if r20=true then(A.gd (Z.R64 (a1+2)) ((A.ix a0.data.toList (a1+2)).bind fun x23=>((F.R05_tail x23).bind fun r25=>(F.R05_width_j2 a0 a1 x2 y4 r25))))else(F.R05_width_j2 a0 a1 x2 y4 false)))else(F.R05_width_j2 a0 a1 x2 y4 false))
theorem eqn22:True:=(fun _=>trivial) @F.R05_width_j3.eq_1
def F.R05_width_j4 (a0:ByteArray)(a1:Int)(x2:UInt8)(y4:UInt8):Option Int:=if(x2.toNat:Int)<128 then(some 1)else(if(bif bif decide ((194:Int)≤(x2.toNat:Int))then decide ((x2.toNat:Int)≤223)else false then decide ((2:Int)≤(a0.size:Int)-a1)else false)=true then((F.R05_tail y4).bind fun r27=>(F.R05_width_j3 a0 a1 x2 y4 r27))else(F.R05_width_j3 a0 a1 x2 y4 false))
theorem eqn23:True:=(fun _=>trivial) @F.R05_width_j4.eq_1
def F.R05_width (a0:ByteArray)(a1:Int):Option Int:=A.gd (Z.R64 ((a0.size:Int)-a1)) ((A.ix a0.data.toList a1).bind fun x2=>(if(1:Int)<(a0.size:Int)-a1 then(A.gd (Z.R64 (a1+1)) ((A.ix a0.data.toList (a1+1)).bind fun x30=>(F.R05_width_j4 a0 a1 x2 x30)))else(F.R05_width_j4 a0 a1 x2 (0:UInt8))))
theorem eqn24:True:=(fun _=>trivial) @F.R05_width.eq_1
def F.R05_Valid_l1 (a0:ByteArray):Nat→Int→Option Bool
 |0,_=>none
 |f+1,y1=>if y1<(a0.size:Int)then((F.R05_width a0 y1).bind fun r4=>(if r4=0 then(some false)else(A.gd (Z.R64 (y1+r4)) ((F.R05_Valid_l1 a0 f) (y1+r4)))))else(some true)
def F.R05_Valid (a0:ByteArray):Option Bool:=F.R05_Valid_l1 a0 A.FU 0
def F.R05_Runes_j1 (k1:(List X198)→Int→Option (List X198))(xs3:List X198)(y4:Int)(y10:Int)(y12:Int):Option (List X198):=A.gd ((List.length (α:=X198) xs3+List.length (α:=X198) [(y4,y12)])*16≤140737488355328) (A.gd (Z.R64 (y4+y10)) (k1 (xs3++[(y4,y12)]) (y4+y10)))
theorem eqn27:True:=(fun _=>trivial) @F.R05_Runes_j1.eq_1
def F.R05_Runes_l2 (a0:ByteArray):Nat→(List X198)→Int→Option (List X198)
 |0,_,_=>none
 |f+1,xs3,y4=>if y4<(a0.size:Int)then((F.R05_width a0 y4).bind fun r7=>(if r7=1 then((A.ix a0.data.toList y4).bind fun x19=>(F.R05_Runes_j1 (F.R05_Runes_l2 a0 f) xs3 y4 r7 (IntKind.i32.wrap ((x19.toNat:Int)))))else(if r7=2 then(A.gd (Z.R64 (y4+1)) ((A.ix a0.data.toList y4).bind fun x22=>(A.gd ((32:Int)≠0) ((A.ix a0.data.toList (y4+1)).bind fun x25=>(A.gd ((64:Int)≠0) (F.R05_Runes_j1 (F.R05_Runes_l2 a0 f) xs3 y4 r7 (IntKind.i32.wrap ((IntKind.i32.wrap ((IntKind.i32.wrap (Int.tmod (x22.toNat:Int) 32))*64))+(IntKind.i32.wrap (Int.tmod (x25.toNat:Int) 64))))))))))else(if r7=3 then(A.gd (Z.R64 (y4+1)∧Z.R64 (y4+2)) ((A.ix a0.data.toList y4).bind fun x29=>(A.gd ((16:Int)≠0) ((A.ix a0.data.toList (y4+1)).bind fun x32=>(A.gd ((64:Int)≠0) ((A.ix a0.data.toList (y4+2)).bind fun x35=>(A.gd ((64:Int)≠0) (F.R05_Runes_j1 (F.R05_Runes_l2 a0 f) xs3 y4 r7 (IntKind.i32.wrap ((IntKind.i32.wrap ((IntKind.i32.wrap ((IntKind.i32.wrap ((IntKind.i32.wrap (Int.tmod (x29.toNat:Int) 16))*64))+(IntKind.i32.wrap (Int.tmod (x32.toNat:Int) 64))))*64))+(IntKind.i32.wrap (Int.tmod (x35.toNat:Int) 64))))))))))))else(if r7=4 then(A.gd (Z.R64 (y4+1)∧Z.R64 (y4+2)∧Z.R64 (y4+3)) ((A.ix a0.data.toList y4).bind fun x39=>(A.gd ((8:Int)≠0) ((A.ix a0.data.toList (y4+1)).bind fun x42=>(A.gd ((64:Int)≠0) ((A.ix a0.data.toList (y4+2)).bind fun x45=>(A.gd ((64:Int)≠0) ((A.ix a0.data.toList (y4+3)).bind fun x48=>(A.gd ((64:Int)≠0) (F.R05_Runes_j1 (F.R05_Runes_l2 a0 f) xs3 y4 r7 (IntKind.i32.wrap ((IntKind.i32.wrap ((IntKind.i32.wrap ((IntKind.i32.wrap ((IntKind.i32.wrap ((IntKind.i32.wrap ((IntKind.i32.wrap (Int.tmod (x39.toNat:Int) 8))*64))+(IntKind.i32.wrap (Int.tmod (x42.toNat:Int) 64))))*64))+(IntKind.i32.wrap (Int.tmod (x45.toNat:Int) 64))))*64))+(IntKind.i32.wrap (Int.tmod (x48.toNat:Int) 64))))))))))))))else(F.R05_Runes_j1 (F.R05_Runes_l2 a0 f) xs3 y4 1 65533))))))else(some xs3)
def F.R05_Runes (a0:ByteArray):Option (List X198):=F.R05_Runes_l2 a0 A.FU [] 0
def F.R06_text_j1 (y2:Bool):Option Bool:=some y2
def F.R06_text_j2 (y6:Bool):Option Bool:=some y6
def F.R06_text_j3 (a0:X67)(y5:Bool):Option Bool:=if y5=true then(if(a0.2.2.size:Int)≤4 then((F.R05_Valid a0.2.2).bind fun r7=>(if r7=true then((F.R05_Runes a0.2.2).bind fun r9=>(F.R06_text_j2 (decide (((r9).length:Int)=1))))else(F.R06_text_j2 false)))else(F.R06_text_j2 false))else(some (decide (a0.2.2=(ByteArray.mk #[]))))
theorem eqn32:True:=(fun _=>trivial) @F.R06_text_j3.eq_1
def F.R06_text (a0:X67):Option Bool:=if a0.1=5 then(if(bif decide ((1:Int)≤(a0.2.2.size:Int))then decide ((a0.2.2.size:Int)≤16)else false)=true then((F.R05_Valid a0.2.2).bind fun r3=>(F.R06_text_j1 r3))else(F.R06_text_j1 false))else(if a0.1=12 then(F.R06_text_j3 a0 (decide (a0.1=12)))else(F.R06_text_j3 a0 (decide (a0.1=22))))
theorem eqn33:True:=(fun _=>trivial) @F.R06_text.eq_1
def F.R06_Check_j1 (k1:Int→Option Int)(y7:Int)(y10:Bool):Option Int:=if y10=true then(some 0)else(A.gd (Z.R64 (y7+1)) (k1 (y7+1)))
def F.R06_Check_l2 (a1:X67)(r2:(List Int)):Nat→Int→Option Int
 |0,_=>none
 |f+1,y7=>if y7<((r2).length:Int)then((A.ix r2 y7).bind fun x12=>(if x12=a1.1 then((F.R06_number (a1.1,a1.2.1,a1.2.2)).bind fun r17=>(if r17=true then((F.R06_text (a1.1,a1.2.1,a1.2.2)).bind fun r19=>(F.R06_Check_j1 (F.R06_Check_l2 a1 r2 f) y7 r19))else(F.R06_Check_j1 (F.R06_Check_l2 a1 r2 f) y7 false)))else(F.R06_Check_j1 (F.R06_Check_l2 a1 r2 f) y7 false)))else(some 60)
def F.R06_Check_j3 (a1:X67)(r2:(List Int))(y6:Bool):Option Int:=if y6=true then(some 0)else(F.R06_Check_l2 a1 r2 A.FU 0)
def F.R06_Check (a0:Int)(a1:X67):Option Int:=(F.R06_Uses a0).bind fun r2=>(if((r2).length:Int)=0 then(F.R06_Check_j3 a1 r2 (decide ((a1.1,a1.2.1,a1.2.2)=(0,0,ByteArray.mk #[]))))else(F.R06_Check_j3 a1 r2 false))
theorem eqn37:True:=(fun _=>trivial) @F.R06_Check.eq_1
def F.R08_index_l1 (a0:X23)(a1:Int):Nat→Int→Option Int
 |0,_=>none
 |f+1,y2=>if y2<((a0).length:Int)then((A.ix a0 y2).bind fun x5=>(if x5.1=a1 then(some y2)else(A.gd (Z.R64 (y2+1)) ((F.R08_index_l1 a0 a1 f) (y2+1)))))else(some (-1))
def F.R08_index (a0:X23)(a1:Int):Option Int:=F.R08_index_l1 a0 a1 A.FU 0
def F.R08_parts_j1 (k40:Int→Option Int)(y34:Int)(y61:Bool):Option Int:=if y61=true then(some 80)else(A.gd (Z.R64 (y34+1)) (k40 (y34+1)))
def F.R08_parts_l2 (k39:Int→Option Int)(a0:X23)(y31:Int):Nat→Int→Option Int
 |0,_=>none
 |f+1,y34=>(A.ix a0 y31).bind fun x37=>(if y34<((x37.2.2.1).length:Int)then((A.ix a0 y31).bind fun x44=>((A.ix x44.2.2.1 y34).bind fun x52=>((F.R08_index a0 x52).bind fun r58=>(if r58<0 then(F.R08_parts_j1 (F.R08_parts_l2 k39 a0 y31 f) y34 true)else((A.ix a0 r58).bind fun x63=>(F.R08_parts_j1 (F.R08_parts_l2 k39 a0 y31 f) y34 (decide (x63.2.1=15))))))))else(A.gd (Z.R64 (y31+1)) (k39 (y31+1))))
def F.R08_parts_l3 (a0:X23):Nat→Int→Option Int
 |0,_=>none
 |f+1,y31=>if y31<((a0).length:Int)then(F.R08_parts_l2 (F.R08_parts_l3 a0 f) a0 y31 A.FU 0)else(some 0)
def F.R08_parts_l4 (a0:X23):Nat→Int→Option Int
 |0,_=>none
 |f+1,y8=>if y8<((a0).length:Int)then((A.ix a0 y8).bind fun x11=>((A.ix a0 y8).bind fun x19=>((F.R06_Check x11.2.1 (x19.2.2.2.1.1,x19.2.2.2.1.2.1,x19.2.2.2.1.2.2)).bind fun r27=>(if r27≠0 then(some 60)else(A.gd (Z.R64 (y8+1)) ((F.R08_parts_l4 a0 f) (y8+1)))))))else(F.R08_parts_l3 a0 A.FU 0)
def F.R08_parts_l5 (a0:X23):Nat→Int→Option Int
 |0,_=>none
 |f+1,y2=>if y2<((a0).length:Int)then((F.R08_own a0 y2).bind fun r5=>(if(!r5)=true then(some 80)else(A.gd (Z.R64 (y2+1)) ((F.R08_parts_l5 a0 f) (y2+1)))))else(F.R08_parts_l4 a0 A.FU 0)
def F.R08_parts (a0:X23):Option Int:=if(32:Int)<((a0).length:Int)then(some 80)else(F.R08_parts_l5 a0 A.FU 0)
def F.R08_ready_j1 (k1:Int→Option Bool)(y3:Int)(y6:Bool):Option Bool:=if y6=true then(some false)else(A.gd (Z.R64 (y3+1)) (k1 (y3+1)))
def F.R08_ready_l2 (a0:X23)(a1:X69)(a2:(List Bool)):Nat→Int→Option Bool
 |0,_=>none
 |f+1,y3=>if y3<((a1.2.2.1).length:Int)then(if a1.2.1≠14 then((A.ix a1.2.2.1 y3).bind fun x8=>((F.R08_index a0 x8).bind fun r14=>((A.ix a2 r14).bind fun x17=>(F.R08_ready_j1 (F.R08_ready_l2 a0 a1 a2 f) y3 (!x17)))))else(F.R08_ready_j1 (F.R08_ready_l2 a0 a1 a2 f) y3 false))else(some true)
def F.R08_ready (a0:X23)(a1:X69)(a2:(List Bool)):Option Bool:=F.R08_ready_l2 a0 a1 a2 A.FU 0
def F.R08_order_j1 (k5:Int→Int→Option ((List Int)×Bool))(y14:Int)(y17:Int):Option ((List Int)×Bool):=A.gd (Z.R64 (y14+1)) (k5 y17 (y14+1))
def F.R08_order_j2 (k5:Int→Int→Option ((List Int)×Bool))(y12:Int)(y14:Int)(y20:Bool):Option ((List Int)×Bool):=if y20=true then(F.R08_order_j1 k5 y14 y14)else(F.R08_order_j1 k5 y14 y12)
theorem eqn50:True:=(fun _=>trivial) @F.R08_order_j2.eq_1
def F.R08_order_l3 (k4:(List Bool)→(List Int)→Option ((List Int)×Bool))(a0:X23)(xs6:List Bool)(xs10:List Int):Nat→Int→Int→Option ((List Int)×Bool)
 |0,_,_=>none
 |f+1,y12,y14=>if(bif decide (y14<((a0).length:Int))then decide (y14<((a0).length:Int))else false)=true then(if y12<0 then((A.ix xs6 y14).bind fun x21=>(if(!x21)=true then((A.ix a0 y14).bind fun x26=>((F.R08_ready a0 (x26.1,x26.2.1,x26.2.2.1,(x26.2.2.2.1.1,x26.2.2.2.1.2.1,x26.2.2.2.1.2.2),x26.2.2.2.2.1,x26.2.2.2.2.2.1,x26.2.2.2.2.2.2) xs6).bind fun r34=>(F.R08_order_j2 (F.R08_order_l3 k4 a0 xs6 xs10 f) y12 y14 r34)))else(F.R08_order_j2 (F.R08_order_l3 k4 a0 xs6 xs10 f) y12 y14 false)))else(F.R08_order_j2 (F.R08_order_l3 k4 a0 xs6 xs10 f) y12 y14 false))else(if y12<0 then(some ([],false))else((A.ix xs6 y12).bind fun x36=>(A.gd ((List.length (α:=Int) xs10+List.length (α:=Int) [y12])*8≤140737488355328) (k4 (xs6.set y12.toNat true) (xs10++[y12])))))
def F.R08_order_l4 (a0:X23):Nat→(List Bool)→(List Int)→Option ((List Int)×Bool)
 |0,_,_=>none
 |f+1,xs6,xs10=>if((xs10).length:Int)<((a0).length:Int)then(F.R08_order_l3 (F.R08_order_l4 a0 f) a0 xs6 xs10 A.FU (-1) 0)else(some (xs10,true))
def F.R08_order (a0:X23):Option ((List Int)×Bool):=A.gd (1*((a0).length)≤140737488355328) (F.R08_order_l4 a0 A.FU (List.replicate ((a0).length) false) [])
def F.R08_depth_j1 (y6:Int):Option Int:=some y6
def F.R08_depth_j2 (y4:Int):Option Int:=if(4:Int)<y4 then(F.R08_depth_j1 (-1))else(F.R08_depth_j1 y4)
def F.R08_depth_j3 (y2:Int)(y23:Bool):Option Int:=if y23=true then(if y2≠0 then(F.R08_depth_j2 (-1))else(F.R08_depth_j2 y2))else(F.R08_depth_j2 y2)
def F.R08_depth_j4 (a0:X69)(a1:(List Int))(y2:Int)(y10:Bool):Option Int:=if y10=true then((A.ix a1 0).bind fun x11=>((A.ix a1 1).bind fun x17=>(if x11≠x17 then(F.R08_depth_j2 (-1))else(F.R08_depth_j2 y2))))else(if a0.2.1=11 then(F.R08_depth_j3 y2 (decide (a0.2.1=11)))else(if a0.2.1=16 then(F.R08_depth_j3 y2 (decide (a0.2.1=16)))else(F.R08_depth_j3 y2 (decide (a0.2.1=15)))))
theorem eqn57:True:=(fun _=>trivial) @F.R08_depth_j4.eq_1
def F.R08_depth_j5 (a0:X69)(a1:(List Int))(y2:Int):Option Int:=if a0.2.1=14 then(F.R08_depth_j2 a0.2.2.2.2.2.2)else(if a0.2.1=12 then(A.gd (Z.R64 (y2+1)) (F.R08_depth_j2 (y2+1)))else(if a0.2.1=13 then(A.gd (Z.R64 (y2-1)) (F.R08_depth_j2 (y2-1)))else(if a0.2.1=5 then(F.R08_depth_j4 a0 a1 y2 (decide (a0.2.1=5)))else(F.R08_depth_j4 a0 a1 y2 (decide (a0.2.1=9))))))
theorem eqn58:True:=(fun _=>trivial) @F.R08_depth_j5.eq_1
def F.R08_depth (a0:X69)(a1:(List Int)):Option Int:=if(0:Int)<((a1).length:Int)then((A.ix a1 0).bind fun x24=>(F.R08_depth_j5 a0 a1 x24))else(F.R08_depth_j5 a0 a1 0)
def F.R08_depths_l1 (k5:(List Int)→Int→Option ((List Int)×Bool))(a0:X23)(a1:(List Int))(xs6:List Int)(y8:Int)(x17:X69):Nat→(List Int)→Int→Option ((List Int)×Bool)
 |0,_,_=>none
 |f+1,xs28,y29=>if y29<((x17.2.2.1).length:Int)then((A.ix x17.2.2.1 y29).bind fun x32=>((F.R08_index a0 x32).bind fun r38=>((A.ix xs6 r38).bind fun x41=>(A.gd ((List.length (α:=Int) xs28+List.length (α:=Int) [x41])*8≤140737488355328) (A.gd (Z.R64 (y29+1)) ((F.R08_depths_l1 k5 a0 a1 xs6 y8 x17 f) (xs28++[x41]) (y29+1)))))))else((A.ix a1 y8).bind fun x51=>((F.R08_depth (x17.1,x17.2.1,x17.2.2.1,(x17.2.2.2.1.1,x17.2.2.2.1.2.1,x17.2.2.2.1.2.2),x17.2.2.2.2.1,x17.2.2.2.2.2.1,x17.2.2.2.2.2.2) xs28).bind fun r57=>((A.ix xs6 x51).bind fun x60=>((A.ix a1 y8).bind fun x65=>((A.ix (xs6.set x51.toNat r57) x65).bind fun x70=>(if x70<0 then(some ([],false))else(A.gd (Z.R64 (y8+1)) (k5 (xs6.set x51.toNat r57) (y8+1)))))))))
def F.R08_depths_j2 (k7:Int→Option ((List Int)×Bool))(y76:Int)(y87:Bool):Option ((List Int)×Bool):=if y87=true then(some ([],false))else(A.gd (Z.R64 (y76+1)) (k7 (y76+1)))
def F.R08_depths_l3 (a0:X23)(xs6:List Int):Nat→Int→Option ((List Int)×Bool)
 |0,_=>none
 |f+1,y76=>if y76<((a0).length:Int)then((A.ix a0 y76).bind fun x79=>(if x79.2.1=14 then((A.ix x79.2.2.1 0).bind fun x89=>((F.R08_index a0 x89).bind fun r95=>((A.ix xs6 r95).bind fun x98=>(F.R08_depths_j2 (F.R08_depths_l3 a0 xs6 f) y76 (decide (x98≠x79.2.2.2.2.2.2))))))else(F.R08_depths_j2 (F.R08_depths_l3 a0 xs6 f) y76 false)))else(some (xs6,true))
def F.R08_depths_l4 (a0:X23)(a1:(List Int)):Nat→(List Int)→Int→Option ((List Int)×Bool)
 |0,_,_=>none
 |f+1,xs6,y8=>if y8<((a1).length:Int)then((A.ix a1 y8).bind fun x11=>((A.ix a0 x11).bind fun x17=>(F.R08_depths_l1 (F.R08_depths_l4 a0 a1 f) a0 a1 xs6 y8 x17 A.FU [] 0)))else(F.R08_depths_l3 a0 xs6 A.FU 0)
def F.R08_depths (a0:X23)(a1:(List Int)):Option ((List Int)×Bool):=A.gd (8*((a0).length)≤140737488355328) (F.R08_depths_l4 a0 a1 A.FU (List.replicate ((a0).length) 0) 0)
def F.R08_spots_j1 (k8:(List X130)→Int→Option (List X130))(y5:Int)(xs10:List X130):Option (List X130):=A.gd (Z.R64 (y5+1)) (k8 xs10 (y5+1))
def F.R08_spots_l2 (k8:(List X130)→Int→Option (List X130))(a0:X23)(a1:(List Int))(y5:Int)(x12:X69):Nat→(List X130)→Int→Option (List X130)
 |0,_,_=>none
 |f+1,xs22,y23=>if y23<((x12.2.2.1).length:Int)then((A.ix x12.2.2.1 y23).bind fun x26=>((F.R08_index a0 x26).bind fun r32=>((A.ix a1 r32).bind fun x35=>(A.gd ((List.length (α:=X130) xs22+List.length (α:=X130) [((x12.1,y23),x35)])*24≤140737488355328) (A.gd (Z.R64 (y23+1)) ((F.R08_spots_l2 k8 a0 a1 y5 x12 f) (xs22++[((x12.1,y23),x35)]) (y23+1)))))))else(if x12.2.1≠15 then((A.ix a1 y5).bind fun x46=>(A.gd ((List.length (α:=X130) xs22+List.length (α:=X130) [((x12.1,2),x46)])*24≤140737488355328) (F.R08_spots_j1 k8 y5 (xs22++[((x12.1,2),x46)]))))else(F.R08_spots_j1 k8 y5 xs22))
def F.R08_spots_l3 (a0:X23)(a1:(List Int)):Nat→(List X130)→Int→Option (List X130)
 |0,_,_=>none
 |f+1,xs4,y5=>if(bif decide (y5<((a0).length:Int))then decide (y5<((a1).length:Int))else false)=true then((A.ix a0 y5).bind fun x12=>(F.R08_spots_l2 (F.R08_spots_l3 a0 a1 f) a0 a1 y5 x12 A.FU xs4 0))else(some xs4)
def F.R08_spots (a0:X23)(a1:(List Int)):Option (List X130):=F.R08_spots_l3 a0 a1 A.FU [] 0
def F.R08_Find (a0:X23)(a1:Int):Option (X69×Bool):=(F.R08_index a0 a1).bind fun r3=>(if r3<0 then(some ((0,0,[],(0,0,ByteArray.mk #[]),ByteArray.mk #[],0,0),false))else((A.ix a0 r3).bind fun x6=>(A.gd ((List.length (α:=Int) []+List.length (α:=Int) x6.2.2.1)*8≤140737488355328) (some ((x6.1,x6.2.1,[]++x6.2.2.1,(x6.2.2.2.1.1,x6.2.2.2.1.2.1,x6.2.2.2.1.2.2),x6.2.2.2.2.1,x6.2.2.2.2.2.1,x6.2.2.2.2.2.2),true)))))
theorem eqn69:True:=(fun _=>trivial) @F.R08_Find.eq_1
def F.R02_Check_j1 (k1:Int→Option Int)(y3:Int)(y6:Bool):Option Int:=if y6=true then(some 20)else(A.gd (Z.R64 (y3+1)) (k1 (y3+1)))
def F.R02_Check_l2 (a0:X154):Nat→Int→Option Int
 |0,_=>none
 |f+1,y3=>if y3<4 then((A.ix [a0.2.2.2.2.1,a0.2.2.2.2.2.1,a0.2.2.2.2.2.2.1,a0.2.2.2.2.2.2.2] y3).bind fun x8=>(if x8<0 then(F.R02_Check_j1 (F.R02_Check_l2 a0 f) y3 true)else((A.ix [a0.2.2.2.2.1,a0.2.2.2.2.2.1,a0.2.2.2.2.2.2.1,a0.2.2.2.2.2.2.2] y3).bind fun x10=>(if(1048576:Int)<x10 then(F.R02_Check_j1 (F.R02_Check_l2 a0 f) y3 true)else(if a0.2.2.2.1≤y3 then((A.ix [a0.2.2.2.2.1,a0.2.2.2.2.2.1,a0.2.2.2.2.2.2.1,a0.2.2.2.2.2.2.2] y3).bind fun x12=>(F.R02_Check_j1 (F.R02_Check_l2 a0 f) y3 (decide (x12≠0))))else(F.R02_Check_j1 (F.R02_Check_l2 a0 f) y3 false))))))else(some 0)
def F.R02_Check (a0:X154):Option Int:=A.gd (((bif bif bif bif bif decide (a0.1<0)then true else decide ((4:Int)<a0.1)then true else decide (a0.2.2.2.1<0)then true else decide ((4:Int)<a0.2.2.2.1)then true else decide (a0.2.1<0)then true else decide (a0.1<a0.2.1))=false→Z.R64 (a0.2.1+a0.2.2.2.1))) (if(bif bif bif bif bif bif bif bif decide (a0.1<0)then true else decide ((4:Int)<a0.1)then true else decide (a0.2.2.2.1<0)then true else decide ((4:Int)<a0.2.2.2.1)then true else decide (a0.2.1<0)then true else decide (a0.1<a0.2.1)then true else decide ((4:Int)<a0.2.1+a0.2.2.2.1)then true else decide (a0.2.2.1<0)then true else decide ((1048576:Int)<a0.2.2.1))=true then(some 20)else(if(bif decide (a0.2.1=0)then decide (a0.2.2.1≠0)else false)=true then(some 20)else(F.R02_Check_l2 a0 A.FU 0)))
theorem eqn72:True:=(fun _=>trivial) @F.R02_Check.eq_1
def F.R02_step (a0:Int)(a1:Int)(a2:Int)(a3:Int):Option (X154×Int):=(F.R02_Check (a0,a1,a2,a3,(0,0,0,0))).bind fun r3=>(if r3≠0 then(some ((0,0,0,0,(0,0,0,0)),11))else(some ((a0,a1,a2,a3,(0,0,0,0)),0)))
theorem eqn73:True:=(fun _=>trivial) @F.R02_step.eq_1
def F.R02_Enter (a0:Int):Option (X154×Int):=(F.R02_step a0 a0 0 1).bind fun r2=>(some ((r2.1.1,r2.1.2.1,r2.1.2.2.1,r2.1.2.2.2.1,(r2.1.2.2.2.2.1,r2.1.2.2.2.2.2.1,r2.1.2.2.2.2.2.2.1,r2.1.2.2.2.2.2.2.2)),r2.2))
theorem eqn74:True:=(fun _=>trivial) @F.R02_Enter.eq_1
def F.R02_Leave (a0:Int):Option (X154×Int):=if a0<1 then(some ((0,0,0,0,(0,0,0,0)),11))else(A.gd (Z.R64 (a0-1)) ((F.R02_step a0 (a0-1) 0 0).bind fun r3=>(some ((r3.1.1,r3.1.2.1,r3.1.2.2.1,r3.1.2.2.2.1,(r3.1.2.2.2.2.1,r3.1.2.2.2.2.2.1,r3.1.2.2.2.2.2.2.1,r3.1.2.2.2.2.2.2.2)),r3.2))))
theorem eqn75:True:=(fun _=>trivial) @F.R02_Leave.eq_1
def F.R02_Next (a0:Int):Option (X154×Int):=(F.R02_step a0 a0 1 0).bind fun r2=>(some ((r2.1.1,r2.1.2.1,r2.1.2.2.1,r2.1.2.2.2.1,(r2.1.2.2.2.2.1,r2.1.2.2.2.2.2.1,r2.1.2.2.2.2.2.2.1,r2.1.2.2.2.2.2.2.2)),r2.2))
theorem eqn76:True:=(fun _=>trivial) @F.R02_Next.eq_1
def F.R02_Id (a0:Int):Option (X154×Int):=(F.R02_step a0 a0 0 0).bind fun r2=>(some ((r2.1.1,r2.1.2.1,r2.1.2.2.1,r2.1.2.2.2.1,(r2.1.2.2.2.2.1,r2.1.2.2.2.2.2.1,r2.1.2.2.2.2.2.2.1,r2.1.2.2.2.2.2.2.2)),r2.2))
theorem eqn77:True:=(fun _=>trivial) @F.R02_Id.eq_1
def F.R08_within_j1 (y15:Int)(y17:Int)(y19:Int)(y21:Int)(y23:Int)(y25:Int)(y27:Int)(y29:Int):Option X154:=some (y15,y17,y19,y21,(y23,y25,y27,y29))
def F.R08_within (a0:X69)(a1:Int):Option X154:=(F.R02_Id a1).bind fun r3=>(if a0.2.1=12 then((F.R02_Enter a1).bind fun r31=>(F.R08_within_j1 r31.1.1 r31.1.2.1 r31.1.2.2.1 r31.1.2.2.2.1 r31.1.2.2.2.2.1 r31.1.2.2.2.2.2.1 r31.1.2.2.2.2.2.2.1 r31.1.2.2.2.2.2.2.2))else(if a0.2.1=13 then((F.R02_Leave a1).bind fun r42=>(F.R08_within_j1 r42.1.1 r42.1.2.1 r42.1.2.2.1 r42.1.2.2.2.1 r42.1.2.2.2.2.1 r42.1.2.2.2.2.2.1 r42.1.2.2.2.2.2.2.1 r42.1.2.2.2.2.2.2.2))else(if a0.2.1=14 then((F.R02_Next a1).bind fun r53=>(F.R08_within_j1 r53.1.1 r53.1.2.1 r53.1.2.2.1 r53.1.2.2.2.1 r53.1.2.2.2.2.1 r53.1.2.2.2.2.2.1 r53.1.2.2.2.2.2.2.1 r53.1.2.2.2.2.2.2.2))else(F.R08_within_j1 r3.1.1 r3.1.2.1 r3.1.2.2.1 r3.1.2.2.2.1 r3.1.2.2.2.2.1 r3.1.2.2.2.2.2.1 r3.1.2.2.2.2.2.2.1 r3.1.2.2.2.2.2.2.2))))
theorem eqn79:True:=(fun _=>trivial) @F.R08_within.eq_1
def F.R08_edges_j1 (k30:(List X157)→Int→Option (List X157))(y5:Int)(xs10:List X157):Option (List X157):=A.gd (Z.R64 (y5+1)) (k30 xs10 (y5+1))
def F.R08_edges_j2 (k30:(List X157)→Int→Option (List X157))(y5:Int)(xs33:List X157):Option (List X157):=F.R08_edges_j1 k30 y5 xs33
def F.R08_edges_j3 (k38:(List X157)→Int→Option (List X157))(y80:Int)(xs92:List X157):Option (List X157):=A.gd (Z.R64 (y80+1)) (k38 xs92 (y80+1))
def F.R08_edges_l4 (k37:(List X157)→Int→Option (List X157))(a0:X23)(x12:X130)(r18:X69×Bool)(r59:X154×Int)(y74:Int):Nat→(List X157)→Int→Option (List X157)
 |0,_,_=>none
 |f+1,xs79,y80=>(A.ix a0 y74).bind fun x83=>(if y80<((x83.2.2.1).length:Int)then((A.ix a0 y74).bind fun x94=>((A.ix x94.2.2.1 y80).bind fun x102=>(if x102=r18.1.1 then((A.ix a0 y74).bind fun x108=>(A.gd ((List.length (α:=X157) xs79+List.length (α:=X157) [((x12.1.1,x12.1.2),(x108.1,y80),(r59.1.1,r59.1.2.1,r59.1.2.2.1,r59.1.2.2.2.1,(r59.1.2.2.2.2.1,r59.1.2.2.2.2.2.1,r59.1.2.2.2.2.2.2.1,r59.1.2.2.2.2.2.2.2)))])*96≤140737488355328) (F.R08_edges_j3 (F.R08_edges_l4 k37 a0 x12 r18 r59 y74 f) y80 (xs79++[((x12.1.1,x12.1.2),(x108.1,y80),(r59.1.1,r59.1.2.1,r59.1.2.2.1,r59.1.2.2.2.1,(r59.1.2.2.2.2.1,r59.1.2.2.2.2.2.1,r59.1.2.2.2.2.2.2.1,r59.1.2.2.2.2.2.2.2)))]))))else(F.R08_edges_j3 (F.R08_edges_l4 k37 a0 x12 r18 r59 y74 f) y80 xs79))))else(A.gd (Z.R64 (y74+1)) (k37 xs79 (y74+1))))
def F.R08_edges_l5 (k30:(List X157)→Int→Option (List X157))(a0:X23)(y5:Int)(x12:X130)(r18:X69×Bool)(r59:X154×Int):Nat→(List X157)→Int→Option (List X157)
 |0,_,_=>none
 |f+1,xs73,y74=>if y74<((a0).length:Int)then(F.R08_edges_l4 (F.R08_edges_l5 k30 a0 y5 x12 r18 r59 f) a0 x12 r18 r59 y74 A.FU xs73 0)else(F.R08_edges_j1 k30 y5 xs73)
def F.R08_edges_l6 (a0:X23)(a1:(List X130)):Nat→(List X157)→Int→Option (List X157)
 |0,_,_=>none
 |f+1,xs4,y5=>if y5<((a1).length:Int)then((A.ix a1 y5).bind fun x12=>((F.R08_Find a0 x12.1.1).bind fun r18=>(if x12.1.2≠2 then(if r18.1.2.1≠15 then((A.ix a1 y5).bind fun x34=>((F.R08_within (r18.1.1,r18.1.2.1,r18.1.2.2.1,(r18.1.2.2.2.1.1,r18.1.2.2.2.1.2.1,r18.1.2.2.2.1.2.2),r18.1.2.2.2.2.1,r18.1.2.2.2.2.2.1,r18.1.2.2.2.2.2.2) x34.2).bind fun r40=>(A.gd ((List.length (α:=X157) xs4+List.length (α:=X157) [((x12.1.1,x12.1.2),(r18.1.1,2),(r40.1,r40.2.1,r40.2.2.1,r40.2.2.2.1,(r40.2.2.2.2.1,r40.2.2.2.2.2.1,r40.2.2.2.2.2.2.1,r40.2.2.2.2.2.2.2)))])*96≤140737488355328) (F.R08_edges_j2 (F.R08_edges_l6 a0 a1 f) y5 (xs4++[((x12.1.1,x12.1.2),(r18.1.1,2),(r40.1,r40.2.1,r40.2.2.1,r40.2.2.2.1,(r40.2.2.2.2.1,r40.2.2.2.2.2.1,r40.2.2.2.2.2.2.1,r40.2.2.2.2.2.2.2)))])))))else(F.R08_edges_j2 (F.R08_edges_l6 a0 a1 f) y5 xs4))else((A.ix a1 y5).bind fun x54=>((F.R02_Id x54.2).bind fun r59=>(F.R08_edges_l5 (F.R08_edges_l6 a0 a1 f) a0 y5 x12 r18 r59 A.FU xs4 0))))))else(some xs4)
def F.R08_edges (a0:X23)(a1:(List X130)):Option (List X157):=F.R08_edges_l6 a0 a1 A.FU [] 0
def F.R08_at_l1 (a0:(List X130))(a1:X128):Nat→Int→Option Int
 |0,_=>none
 |f+1,y2=>if y2<((a0).length:Int)then((A.ix a0 y2).bind fun x5=>(if(x5.1.1,x5.1.2)=(a1.1,a1.2)then((A.ix a0 y2).bind fun x11=>(some x11.2))else(A.gd (Z.R64 (y2+1)) ((F.R08_at_l1 a0 a1 f) (y2+1)))))else(some (-1))
def F.R08_at (a0:(List X130))(a1:X128):Option Int:=F.R08_at_l1 a0 a1 A.FU 0
def F.R08_open (a0:X23)(a1:(List X130))(a2:X157)(a3:Int):Option Bool:=(F.R08_Find a0 a2.1.1).bind fun r3=>((F.R08_at a1 (a2.2.1.1,a2.2.1.2)).bind fun r16=>(if a3≤r16 then(some (bif bif decide (r3.1.2.1≠14)then true else decide (r3.1.2.2.2.2.2.2≠a3)then true else decide (a2.1.2=2)))else(some false)))
theorem eqn89:True:=(fun _=>trivial) @F.R08_open.eq_1
def F.R08_on_l1 (a0:(List X128))(a1:X128):Nat→Int→Option Bool
 |0,_=>none
 |f+1,y2=>if y2<((a0).length:Int)then((A.ix a0 y2).bind fun x5=>(if(x5.1,x5.2)=(a1.1,a1.2)then(some true)else(A.gd (Z.R64 (y2+1)) ((F.R08_on_l1 a0 a1 f) (y2+1)))))else(some false)
def F.R08_on (a0:(List X128))(a1:X128):Option Bool:=F.R08_on_l1 a0 a1 A.FU 0
def F.R08_round_j1 (k4:(List X128)→(List X128)→Int→Option Bool)(y20:Int)(xs25:List X128)(xs28:List X128):Option Bool:=A.gd (Z.R64 (y20+1)) (k4 xs25 xs28 (y20+1))
def F.R08_round_j2 (k4:(List X128)→(List X128)→Int→Option Bool)(a2:(List X157))(xs16:List X128)(xs19:List X128)(y20:Int)(y30:Bool):Option Bool:=if y30=true then((A.ix a2 y20).bind fun x31=>(A.gd ((List.length (α:=X128) xs16+List.length (α:=X128) [(x31.2.1.1,x31.2.1.2)])*16≤140737488355328) ((A.ix a2 y20).bind fun x40=>(A.gd ((List.length (α:=X128) xs19+List.length (α:=X128) [(x40.2.1.1,x40.2.1.2)])*16≤140737488355328) (F.R08_round_j1 k4 y20 (xs16++[(x31.2.1.1,x31.2.1.2)]) (xs19++[(x40.2.1.1,x40.2.1.2)]))))))else(F.R08_round_j1 k4 y20 xs16 xs19)
theorem eqn93:True:=(fun _=>trivial) @F.R08_round_j2.eq_1
def F.R08_round_l3 (k3:(List X128)→(List X128)→Int→Option Bool)(a0:X23)(a1:(List X130))(a2:(List X157))(a3:X130)(y11:Int):Nat→(List X128)→(List X128)→Int→Option Bool
 |0,_,_,_=>none
 |f+1,xs16,xs19,y20=>if y20<((a2).length:Int)then((A.ix a2 y20).bind fun x49=>((A.ix xs19 y11).bind fun x55=>(if(x49.1.1,x49.1.2)=(x55.1,x55.2)then((A.ix a2 y20).bind fun x60=>((F.R08_open a0 a1 ((x60.1.1,x60.1.2),(x60.2.1.1,x60.2.1.2),(x60.2.2.1,x60.2.2.2.1,x60.2.2.2.2.1,x60.2.2.2.2.2.1,(x60.2.2.2.2.2.2.1,x60.2.2.2.2.2.2.2.1,x60.2.2.2.2.2.2.2.2.1,x60.2.2.2.2.2.2.2.2.2))) a3.2).bind fun r66=>(if r66=true then((A.ix a2 y20).bind fun x68=>((F.R08_on xs16 (x68.2.1.1,x68.2.1.2)).bind fun r74=>(F.R08_round_j2 (F.R08_round_l3 k3 a0 a1 a2 a3 y11 f) a2 xs16 xs19 y20 (!r74))))else(F.R08_round_j2 (F.R08_round_l3 k3 a0 a1 a2 a3 y11 f) a2 xs16 xs19 y20 false))))else(F.R08_round_j2 (F.R08_round_l3 k3 a0 a1 a2 a3 y11 f) a2 xs16 xs19 y20 false))))else(A.gd (Z.R64 (y11+1)) (k3 xs16 xs19 (y11+1)))
def F.R08_round_l4 (a0:X23)(a1:(List X130))(a2:(List X157))(a3:X130):Nat→(List X128)→(List X128)→Int→Option Bool
 |0,_,_,_=>none
 |f+1,xs7,xs10,y11=>if y11<((xs10).length:Int)then(F.R08_round_l3 (F.R08_round_l4 a0 a1 a2 a3 f) a0 a1 a2 a3 y11 A.FU xs7 xs10 0)else((F.R08_on xs7 (a3.1.1,a3.1.2)).bind fun r77=>(some r77))
def F.R08_round (a0:X23)(a1:(List X130))(a2:(List X157))(a3:X130):Option Bool:=F.R08_round_l4 a0 a1 a2 a3 A.FU [] [(a3.1.1,a3.1.2)] 0
def F.R08_whole_l1 (a0:X23)(r5:(List Int)×Bool)(r9:(List Int)×Bool)(r13:(List X130))(r17:(List X157)):Nat→Int→Option ((List Int)×(List Int)×Int)
 |0,_=>none
 |f+1,y21=>if y21<((r13).length:Int)then((A.ix r13 y21).bind fun x24=>((F.R08_round a0 r13 r17 ((x24.1.1,x24.1.2),x24.2)).bind fun r29=>(if r29=true then(some ([],[],81))else(A.gd (Z.R64 (y21+1)) ((F.R08_whole_l1 a0 r5 r9 r13 r17 f) (y21+1))))))else(some (r5.1,r9.1,0))
def F.R08_whole (a0:X23):Option ((List Int)×(List Int)×Int):=(F.R08_parts a0).bind fun r2=>(if r2≠0 then(some ([],[],r2))else((F.R08_order a0).bind fun r5=>(if(!r5.2)=true then(some ([],[],81))else((F.R08_depths a0 r5.1).bind fun r9=>(if(!r9.2)=true then(some ([],[],80))else((F.R08_spots a0 r9.1).bind fun r13=>((F.R08_edges a0 r13).bind fun r17=>(F.R08_whole_l1 a0 r5 r9 r13 r17 A.FU 0))))))))
theorem eqn98:True:=(fun _=>trivial) @F.R08_whole.eq_1
def F.R08_Check (a0:X23):Option Int:=(F.R08_whole a0).bind fun r2=>(some r2.2.2)
def F.R09_clone (a0:X69):Option X69:=A.gd ((List.length (α:=Int) []+List.length (α:=Int) a0.2.2.1)*8≤140737488355328) (some (a0.1,a0.2.1,[]++a0.2.2.1,(a0.2.2.2.1.1,a0.2.2.2.1.2.1,a0.2.2.2.1.2.2),a0.2.2.2.2.1,a0.2.2.2.2.2.1,a0.2.2.2.2.2.2))
theorem eqn100:True:=(fun _=>trivial) @F.R09_clone.eq_1
def F.R09_has_l1 (a0:(List Int))(a1:Int):Nat→Int→Option Bool
 |0,_=>none
 |f+1,y1=>if y1<((a0).length:Int)then((A.ix a0 y1).bind fun x4=>(if x4=a1 then(some true)else(A.gd (Z.R64 (y1+1)) ((F.R09_has_l1 a0 a1 f) (y1+1)))))else(some false)
def F.R09_has (a0:(List Int))(a1:Int):Option Bool:=F.R09_has_l1 a0 a1 A.FU 0
def F.R09_makes_j1 (k1:(List X69)→Int→Int→Option X23)(y8:Int)(y10:Int)(xs16:List X69):Option X23:=A.gd (Z.R64 (y8+1)) (k1 xs16 (y8+1) y10)
def F.R09_makes_j2 (k1:(List X69)→Int→Int→Option X23)(a1:X27)(xs7:List X69)(y10:Int)(y52:Int):Option X23:=(A.ix a1.2.1 y10).bind fun x54=>((F.R09_clone (x54.1,x54.2.1,x54.2.2.1,(x54.2.2.2.1.1,x54.2.2.2.1.2.1,x54.2.2.2.1.2.2),x54.2.2.2.2.1,x54.2.2.2.2.2.1,x54.2.2.2.2.2.2)).bind fun r62=>(A.gd ((List.length (α:=X69) xs7+List.length (α:=X69) [(r62.1,r62.2.1,r62.2.2.1,(r62.2.2.2.1.1,r62.2.2.2.1.2.1,r62.2.2.2.1.2.2),r62.2.2.2.2.1,r62.2.2.2.2.2.1,r62.2.2.2.2.2.2)])*104≤140737488355328) (A.gd (Z.R64 (y10+1)) (k1 (xs7++[(r62.1,r62.2.1,r62.2.2.1,(r62.2.2.2.1.1,r62.2.2.2.1.2.1,r62.2.2.2.1.2.2),r62.2.2.2.2.1,r62.2.2.2.2.2.1,r62.2.2.2.2.2.2)]) y52 (y10+1)))))
theorem eqn104:True:=(fun _=>trivial) @F.R09_makes_j2.eq_1
def F.R09_makes_j3 (k1:(List X69)→Int→Int→Option X23)(a1:X27)(xs7:List X69)(y8:Int)(y10:Int)(y79:Bool):Option X23:=if y79=true then(A.gd (Z.R64 (y8+1)) (F.R09_makes_j2 k1 a1 xs7 y10 (y8+1)))else(F.R09_makes_j2 k1 a1 xs7 y10 y8)
theorem eqn105:True:=(fun _=>trivial) @F.R09_makes_j3.eq_1
def F.R09_makes_j4 (k1:(List X69)→Int→Int→Option X23)(a0:X23)(a1:X27)(xs7:List X69)(y8:Int)(y10:Int)(y13:Bool):Option X23:=if y13=true then((A.ix a0 y8).bind fun x18=>((F.R09_has a1.1 x18.1).bind fun r26=>(if(!r26)=true then((A.ix a0 y8).bind fun x28=>((F.R09_clone (x28.1,x28.2.1,x28.2.2.1,(x28.2.2.2.1.1,x28.2.2.2.1.2.1,x28.2.2.2.1.2.2),x28.2.2.2.2.1,x28.2.2.2.2.2.1,x28.2.2.2.2.2.2)).bind fun r36=>(A.gd ((List.length (α:=X69) xs7+List.length (α:=X69) [(r36.1,r36.2.1,r36.2.2.1,(r36.2.2.2.1.1,r36.2.2.2.1.2.1,r36.2.2.2.1.2.2),r36.2.2.2.2.1,r36.2.2.2.2.2.1,r36.2.2.2.2.2.2)])*104≤140737488355328) (F.R09_makes_j1 k1 y8 y10 (xs7++[(r36.1,r36.2.1,r36.2.2.1,(r36.2.2.2.1.1,r36.2.2.2.1.2.1,r36.2.2.2.1.2.2),r36.2.2.2.2.1,r36.2.2.2.2.2.1,r36.2.2.2.2.2.2)])))))else(F.R09_makes_j1 k1 y8 y10 xs7))))else(if y8<((a0).length:Int)then((A.ix a0 y8).bind fun x81=>((A.ix a1.2.1 y10).bind fun x89=>(F.R09_makes_j3 k1 a1 xs7 y8 y10 (decide (x81.1=x89.1)))))else(F.R09_makes_j3 k1 a1 xs7 y8 y10 false))
theorem eqn106:True:=(fun _=>trivial) @F.R09_makes_j4.eq_1
def F.R09_makes_l5 (a0:X23)(a1:X27):Nat→(List X69)→Int→Int→Option X23
 |0,_,_,_=>none
 |f+1,xs7,y8,y10=>if(bif decide (y8<((a0).length:Int))then true else decide (y10<((a1.2.1).length:Int)))=true then(if y10=((a1.2.1).length:Int)then(F.R09_makes_j4 (F.R09_makes_l5 a0 a1 f) a0 a1 xs7 y8 y10 true)else(if y8<((a0).length:Int)then((A.ix a0 y8).bind fun x97=>((A.ix a1.2.1 y10).bind fun x105=>(F.R09_makes_j4 (F.R09_makes_l5 a0 a1 f) a0 a1 xs7 y8 y10 (decide (x97.1<x105.1)))))else(F.R09_makes_j4 (F.R09_makes_l5 a0 a1 f) a0 a1 xs7 y8 y10 false)))else(some xs7)
def F.R09_makes (a0:X23)(a1:X27):Option X23:=F.R09_makes_l5 a0 a1 A.FU [] 0 0
def F.R09_Get_l1 (a0:X23)(a1:Int):Nat→Int→Option (X69×Bool)
 |0,_=>none
 |f+1,y3=>if y3<((a0).length:Int)then((A.ix a0 y3).bind fun x6=>(if x6.1=a1 then((A.ix a0 y3).bind fun x13=>(some ((x13.1,x13.2.1,x13.2.2.1,(x13.2.2.2.1.1,x13.2.2.2.1.2.1,x13.2.2.2.1.2.2),x13.2.2.2.2.1,x13.2.2.2.2.2.1,x13.2.2.2.2.2.2),true)))else(A.gd (Z.R64 (y3+1)) ((F.R09_Get_l1 a0 a1 f) (y3+1)))))else(some ((0,0,[],(0,0,ByteArray.mk #[]),ByteArray.mk #[],0,0),false))
def F.R09_Get (a0:X23)(a1:Int):Option (X69×Bool):=F.R09_Get_l1 a0 a1 A.FU 0
def F.R09_drops_j1 (k1:Int→Option Bool)(y2:Int)(y26:Bool):Option Bool:=if y26=true then(some false)else(A.gd (Z.R64 (y2+1)) (k1 (y2+1)))
def F.R09_drops_j2 (k1:Int→Option Bool)(a1:(List Int))(y2:Int)(xs7:List Int)(y8:Int)(y10:Int)(y12:Int)(y14:Int)(y16:ByteArray)(y18:ByteArray)(y20:Int)(y22:Int)(y25:Bool):Option Bool:=if(bif !y25 then true else decide (y10=1))=true then(F.R09_drops_j1 k1 y2 true)else(if(0:Int)<y2 then(A.gd (Z.R64 (y2-1)) ((A.ix a1 y2).bind fun x29=>((A.ix a1 (y2-1)).bind fun x35=>(F.R09_drops_j1 k1 y2 (decide (x29≤x35))))))else(F.R09_drops_j1 k1 y2 false))
theorem eqn112:True:=(fun _=>trivial) @F.R09_drops_j2.eq_1
def F.R09_drops_l3 (a0:X23)(a1:(List Int)):Nat→Int→Option Bool
 |0,_=>none
 |f+1,y2=>if y2<((a1).length:Int)then((A.ix a1 y2).bind fun x41=>((F.R09_Get a0 x41).bind fun r347=>(F.R09_drops_j2 (F.R09_drops_l3 a0 a1 f) a1 y2 r347.1.2.2.1 r347.1.1 r347.1.2.1 r347.1.2.2.2.1.1 r347.1.2.2.2.1.2.1 r347.1.2.2.2.1.2.2 r347.1.2.2.2.2.1 r347.1.2.2.2.2.2.1 r347.1.2.2.2.2.2.2 r347.2)))else(some (decide (((a1).length:Int)≤32)))
def F.R09_drops (a0:X23)(a1:(List Int)):Option Bool:=F.R09_drops_l3 a0 a1 A.FU 0
def F.R09_puts_j1 (k1:Int→Option Bool)(y3:Int)(y27:Bool):Option Bool:=if y27=true then(some false)else(A.gd (Z.R64 (y3+1)) (k1 (y3+1)))
def F.R09_puts_j2 (k1:Int→Option Bool)(a1:X27)(y3:Int)(xs8:List Int)(y9:Int)(y11:Int)(y13:Int)(y15:Int)(y17:ByteArray)(y19:ByteArray)(y21:Int)(y23:Int)(y26:Bool):Option Bool:=(A.ix a1.2.1 y3).bind fun x29=>(if x29.2.1=1 then(F.R09_puts_j1 k1 y3 true)else(if(bif y26 then decide (y11=1)else false)=true then(F.R09_puts_j1 k1 y3 true)else((A.ix a1.2.1 y3).bind fun x37=>((F.R09_has a1.1 x37.1).bind fun r45=>(if r45=true then(F.R09_puts_j1 k1 y3 true)else(if(0:Int)<y3 then(A.gd (Z.R64 (y3-1)) ((A.ix a1.2.1 y3).bind fun x48=>((A.ix a1.2.1 (y3-1)).bind fun x56=>(F.R09_puts_j1 k1 y3 (decide (x48.1≤x56.1))))))else(F.R09_puts_j1 k1 y3 false)))))))
theorem eqn116:True:=(fun _=>trivial) @F.R09_puts_j2.eq_1
def F.R09_puts_l3 (a0:X23)(a1:X27):Nat→Int→Option Bool
 |0,_=>none
 |f+1,y3=>if y3<((a1.2.1).length:Int)then((A.ix a1.2.1 y3).bind fun x64=>((F.R09_Get a0 x64.1).bind fun r492=>(F.R09_puts_j2 (F.R09_puts_l3 a0 a1 f) a1 y3 r492.1.2.2.1 r492.1.1 r492.1.2.1 r492.1.2.2.2.1.1 r492.1.2.2.2.1.2.1 r492.1.2.2.2.1.2.2 r492.1.2.2.2.2.1 r492.1.2.2.2.2.2.1 r492.1.2.2.2.2.2.2 r492.2)))else(some (decide (((a1.2.1).length:Int)≤32)))
def F.R09_puts (a0:X23)(a1:X27):Option Bool:=F.R09_puts_l3 a0 a1 A.FU 0
def F.R09_Holds (a0:Int):Option Bool:=some (bif decide (a0=11)then true else decide (a0=16))
def F.R09_move_j1 (y31:Bool):Option Bool:=some y31
def F.R09_move_j2 (y32:Bool):Option Bool:=some y32
def F.R09_move_j3 (a2:X82)(r4:X69×Bool)(y30:Bool):Option Bool:=if y30=true then(some false)else(if a2.2.2.1=1 then(if a2.2.2.2.1=0 then(F.R09_move_j1 (decide ((a2.2.2.2.2.1,a2.2.2.2.2.2.1,a2.2.2.2.2.2.2)=(0,0,ByteArray.mk #[]))))else(F.R09_move_j1 false))else(if a2.2.2.1=2 then(if(bif bif decide (r4.1.2.1=11)then decide ((0:Int)≤a2.2.2.2.1)else false then decide (a2.2.2.2.1≤1048576)else false)=true then(F.R09_move_j2 (decide ((a2.2.2.2.2.1,a2.2.2.2.2.2.1,a2.2.2.2.2.2.2)=(0,0,ByteArray.mk #[]))))else(F.R09_move_j2 false))else(if a2.2.2.1=3 then(some (decide (a2.2.2.2.1=0)))else(some false))))
theorem eqn122:True:=(fun _=>trivial) @F.R09_move_j3.eq_1
def F.R09_move (a0:X23)(a1:X27)(a2:X82):Option Bool:=(F.R09_Get a0 a2.1).bind fun r4=>((F.R09_Get a1.2.1 a2.2.1).bind fun r17=>(if(bif !r4.2 then true else !r17.2)=true then(F.R09_move_j3 a2 r4 true)else((F.R09_Holds r4.1.2.1).bind fun r33=>(F.R09_move_j3 a2 r4 (bif !r33 then true else decide (r4.1.2.1≠r17.1.2.1))))))
theorem eqn123:True:=(fun _=>trivial) @F.R09_move.eq_1
def F.R09_may_l1 (k3:Int→Option Bool)(a1:X27)(y4:Int):Nat→Int→Option Bool
 |0,_=>none
 |f+1,y15=>if y15<y4 then((A.ix a1.2.2 y15).bind fun x18=>((A.ix a1.2.2 y4).bind fun x24=>(if x18.2.1=x24.2.1 then(some false)else(A.gd (Z.R64 (y15+1)) ((F.R09_may_l1 k3 a1 y4 f) (y15+1))))))else(A.gd (Z.R64 (y4+1)) (k3 (y4+1)))
def F.R09_may_l2 (a0:X23)(a1:X27):Nat→Int→Option Bool
 |0,_=>none
 |f+1,y4=>if y4<((a1.2.2).length:Int)then((A.ix a1.2.2 y4).bind fun x7=>((F.R09_move a0 (a1.1,a1.2.1,a1.2.2) (x7.1,x7.2.1,x7.2.2.1,x7.2.2.2.1,(x7.2.2.2.2.1,x7.2.2.2.2.2.1,x7.2.2.2.2.2.2))).bind fun r13=>(if(!r13)=true then(some false)else(F.R09_may_l1 (F.R09_may_l2 a0 a1 f) a1 y4 A.FU 0))))else(some true)
def F.R09_may_j3 (a0:X23)(a1:X27)(y3:Bool):Option Bool:=if y3=true then(some false)else(F.R09_may_l2 a0 a1 A.FU 0)
def F.R09_may (a0:X23)(a1:X27):Option Bool:=(F.R09_drops a0 a1.1).bind fun r32=>(if(!r32)=true then(F.R09_may_j3 a0 a1 true)else((F.R09_puts a0 (a1.1,a1.2.1,a1.2.2)).bind fun r34=>(F.R09_may_j3 a0 a1 (bif !r34 then true else decide ((16:Int)<((a1.2.2).length:Int))))))
theorem eqn127:True:=(fun _=>trivial) @F.R09_may.eq_1
def F.R09_Check (a0:X23)(a1:X27):Option Int:=(F.R08_Check a0).bind fun r3=>(if r3≠0 then(some r3)else((F.R09_may a0 (a1.1,a1.2.1,a1.2.2)).bind fun r6=>(if(!r6)=true then(some 90)else((F.R09_makes a0 (a1.1,a1.2.1,a1.2.2)).bind fun r8=>((F.R08_Check r8).bind fun r12=>(some r12))))))
theorem eqn128:True:=(fun _=>trivial) @F.R09_Check.eq_1
def F.R09_Apply (a0:X23)(a1:X27):Option (X23×Int):=(F.R09_Check a0 (a1.1,a1.2.1,a1.2.2)).bind fun r4=>(if r4≠0 then(some ([],r4))else((F.R09_makes a0 (a1.1,a1.2.1,a1.2.2)).bind fun r7=>(some (r7,0))))
theorem eqn129:True:=(fun _=>trivial) @F.R09_Apply.eq_1
end Go.Proofs.YtocfaokgoflmhaaDoor
end
section
end
section
set_option linter.unusedVariables false
namespace Go.A
open Go.RowKit Go.Z Go.Shelf Go.Proofs Go.Lib
def Hall (W:World):List (Nat×Res)→Prop
 | []=>True
 |p::H=>(p.2.bl=[]∧p.2.ref=none∧p.2.holds W (fun _=>True) (fun _ _=>False))∧Hall W H
theorem Hall.at {W:World}: ∀{H:List (Nat×Res)} {k:Nat} {r:Res},Hall W H→hk H k=some r→r.bl=[]∧r.ref=none∧r.holds W (fun _=>True) (fun _ _=>False)
 | [],_,_,_,h=>by cases h
 |(d,u)::H,k,r,ha,h=>by
  rw[hk_cons]at h
  split at h
  ·injection h with h;subst h;exact ha.1
  ·exact ha.2.at h
theorem Hp.start {W:World}{H:List (Nat×Res)}(h:Hall W H):Hp ⟨0,[],W,[],fun _=>True⟩ H W:=by
 have hb: ∀k b,¬Bk H k b:=fun k b ⟨r,h1,h2⟩=>by rw[(h.at h1).1]at h2;cases h2
 refine⟨Ch.refl W,fun k r hk=>?_,fun k b hB=>(hb k b hB).elim,fun k k' b hB=>(hb k b hB).elim,fun k r j hk hr=>?_⟩
 ·exact Res.to (S:=[]) (h.at hk).2.2 (Ch.refl W) (fun b _ _=>⟨by simp,fun k=>hb k b,.inl trivial⟩) (fun b _ _=>⟨by simp,fun k=>hb k b⟩) (fun i b _ hf=>hf.elim) (by simp)
 ·rw[(h.at hk).2.1]at hr;cases hr
theorem Hall.sh {W:World}{t:Ty}{cs:List Value}{x:t.den}{F:Nat→Prop}(h:t.rep W F cs x):(Res.sh t cs x).bl=[]∧(Res.sh t cs x).ref=none∧(Res.sh t cs x).holds W (fun _=>True) (fun _ _=>False):=
 ⟨rfl,rfl,rep_as h fun _ _ _=>trivial⟩
theorem Hall.ln {W:World}{t:Ty}{A:Option Addr}{c n:Nat}{xs:List t.den}{F:Nat→Prop}(h:(Ty.slice t).rep W F [.slice A xs.length c] xs):(Res.ln t A c xs).bl=[]∧(Res.ln t A c xs).ref=none∧(Res.ln t A c xs).holds W (fun _=>True) (fun _ _=>False):=
 ⟨rfl,rfl,Row.to (S:=[]) (Row.of h) (Ch.refl W) (fun _ _ _=>⟨by simp,trivial⟩) (fun _ _ _=>⟨by simp,fun _ h=>h⟩)⟩
def putCells (cs:List Value):Obj→Obj
 | .cells _ t frozen=>.cells cs.toArray t frozen
 |o=>o
theorem tab_cells {w:World}{g3 g4:Nat}(h:Lib.Utf8Tabs g3 g4 w):Cells w ⟨g3,0,none⟩ tabF∧Cells w ⟨g4,0,none⟩ tabA:=by
 constructor
 ·intro j u hu
  rw[Addr.add_lit,Nat.zero_add]
  have hj:j<256:=by have:=(List.getElem?_eq_some_iff.1 hu).1;simpa[tabF] using this
  have e:tabF[j]?=some (.int .u8 (firstT j)):=by simp[tabF,hj]
  rw[e]at hu;injection hu with hu;subst hu
  exact h.1 j hj
 ·intro j u hu
  rw[Addr.add_lit,Nat.zero_add]
  have hj:j<32:=by have:=(List.getElem?_eq_some_iff.1 hu).1;simpa[tabA] using this
  have e:tabA[j]?=some (.int .u8 (if j%2=0 then accLo (j / 2)else accHi (j / 2))):=by simp[tabA,hj]
  rw[e]at hu;injection hu with hu;subst hu
  have:=h.2 (j / 2) (by omega)
  by_cases he:j%2=0
  ·rw[if_pos he]
   have hj2:j=2*(j / 2):=by omega
   rw[hj2];simpa using this.1
  ·rw[if_neg he]
   have hj2:j=2*(j / 2)+1:=by omega
   have h3:(2*(j / 2)+1) / 2=j / 2:=by omega
   rw[hj2,h3];exact this.2
theorem Hall.tabs {w:World}{g3 g4 i j:Nat}(h:Lib.Utf8Tabs g3 g4 w):Hall w [(i,.el none g3 0 tabF),(j,.el none g4 0 tabA)]:=by
 obtain⟨h1,h2⟩:=tab_cells h
 exact⟨⟨rfl,rfl,h1,World.block_lt_of_cell? w _ (h1 0 (.int .u8 (firstT 0)) (by simp[tabF])),fun _ h=>h⟩,⟨rfl,rfl,h2,World.block_lt_of_cell? w _ (h2 0 (.int .u8 (accLo 0)) (by simp[tabA])),fun _ h=>h⟩,trivial⟩
end Go.A
end
