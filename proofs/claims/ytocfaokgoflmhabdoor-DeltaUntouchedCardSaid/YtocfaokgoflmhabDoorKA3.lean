/- Functions on data, and that the code computes them. * Functions on data that only the plain law names: what the reference would answer. * A layer over the small logic, continued: where a law's walk begins. No program in sight. * Plain law of graphs: what the reference and the program say of graphs, as functions on data (no program in sight). * Plain: rounds by a count of steps are recursion over a list; small functions of graphs. * Plain: names, rune by rune; functions of nodes. * Plain: what a text's bytes are, by the reference and by the model's decoder. * Plain: functions of nodes may be; a node for itself. * Plain: what is wrong with nodes, by the program and by the reference. -/
import Derived.Test.YtocfaokgoflmhabDoorKA0
import Derived.Test.YtocfaokgoflmhabDoorKA1
import Derived.Test.YtocfaokgoflmhabDoorKA2
import Derived.Lib.TrimUEq
section
set_option linter.unusedVariables false
set_option linter.unusedSimpArgs false
set_option maxRecDepth 20000
set_option maxHeartbeats 8000000
set_option synthInstance.maxSize 1000000
set_option synthInstance.maxHeartbeats 400000
namespace Go.Proofs.YtocfaokgoflmhabDoor
open Go.RowKit
def F.bn (a0:(List D57)):Nat→(List (Int×D57))→Int→Option (List (Int×D57))
 |0,_,_=>none
 |f+1,m2,y3=>if y3<((a0).length:Int)then((A.ix a0 y3).bind fun x6=>(A.gd (Z.R64 (y3+1)) ((F.bn a0 f) (Z.mins m2 x6.1 x6) (y3+1))))else(some m2)
def F.cE (a0:(List D57)):Option (List (Int×D57)):=F.bn a0 A.FU [] 0
theorem o_r (a0:(List D57))(A0_:Option Addr)(c1_:Nat)(r:(List (Int×D57)))(hF:F.cE a0=some r):
    A.Ct Tryd.prog 39 [.slice A0_ ((a0).length) c1_] [(0,.ln T57 A0_ c1_ a0)] [] (fun v H'=>∃(b0':Nat),v=.map (some b0')∧H'=[(0,.mp Int (fun i:Int=>A.i i) T57 true b0' r)]):=by
 refine A.Ct.enter Tryd.func39 rfl Tryd.ntmps39 rfl fun w0 F0=>?_;rw[F.cE]at hF;refine A.xl 1 ?_;refine A.q0 [] [] [.n] [] (A.dl 2 ?_);refine A.AL.mkm 1 Int (fun i:Int=>A.i i) T57 true fun b1=>?_;refine A.q0 [] [] [.n] [(3,.map (some b1))] (A.dl 3 ?_);refine A.q0 [] [] [.n,.n,.n] [(7,.slice A0_ ((a0).length) c1_),(8,A.i ((a0).length:Int)),(9,A.i 0)] (A.dx 2 ?_);refine A.lp_ [3,7,8] [0] (fun f nl nh=>∃(m2:List (Int×D57)),∃(y3:Int),nl=[(9,A.i y3)]∧nh=[(1,.mp Int (fun i:Int=>A.i i) T57 true b1 m2)]∧A.h6 y3∧F.bn a0 f m2 y3=some r) ⟨[],0,rfl,rfl,(A.hasl .i64 (0) rfl),hF⟩ ?_;rintro f5 _ _ ⟨m2,y3,rfl,rfl,hy4,hF⟩;rcases f5 with _|f5
 ·exact A.no0 hF
 rw[F.bn]at hF;refine A.xl 1 ?_;refine A.q0 [] [] [.n] [(10,.bool (decide (y3<((a0).length:Int))))] (A.dx 2 ?_);refine A.AX.cnd rfl hF ?_ ?_<;>intro hb hF
 ·refine A.xl 5 ?_;obtain⟨x6,hv7,hF⟩:=A.bd_some hF;refine A.AL.ixl 0 8 hv7 fun ho8=>?_;intro A9 c10 b11 o12;refine A.q0 [] [8] [.e 0 0] [(12,.agg #[A.i x6.1,A.i x6.2.1,.slice A9 ((x6.2.2.1).length) c10,A.i x6.2.2.2.1.1,A.i x6.2.2.2.1.2.1,.string x6.2.2.2.1.2.2,.string x6.2.2.2.2.1,A.i x6.2.2.2.2.2.1,A.i x6.2.2.2.2.2.2])] ?_;refine A.AL.alloc 10 (cs:=[A.i 0,A.i 0,.slice none 0 0,A.i 0,A.i 0,.string (ByteArray.mk #[]),.string (ByteArray.mk #[]),A.i 0,A.i 0]) Tryd.zeroValue58 fun g13=>?_;refine A.sw 10 [] [A.i x6.1,A.i x6.2.1,.slice A9 ((x6.2.2.1).length) c10,A.i x6.2.2.2.1.1,A.i x6.2.2.2.1.2.1,.string x6.2.2.2.1.2.2,.string x6.2.2.2.2.1,A.i x6.2.2.2.2.2.1,A.i x6.2.2.2.2.2.2] ?_;refine A.dl 1 ?_;refine A.q0 [10] [] [.n,.n,.b 0 0,.b 0 0] [(13,.map (some b1)),(15,A.i x6.1),(16,.agg #[A.i x6.1,A.i x6.2.1,.slice A9 ((x6.2.2.1).length) c10,A.i x6.2.2.2.1.1,A.i x6.2.2.2.1.2.1,.string x6.2.2.2.1.2.2,.string x6.2.2.2.2.1,A.i x6.2.2.2.2.2.1,A.i x6.2.2.2.2.2.2])] ?_;refine A.AL.mup (t:=T57) 1 [] (cs:=[A.i x6.1,A.i x6.2.1,.slice A9 ((x6.2.2.1).length) c10,A.i x6.2.2.2.1.1,A.i x6.2.2.2.1.2.1,.string x6.2.2.2.1.2.2,.string x6.2.2.2.2.1,A.i x6.2.2.2.2.2.1,A.i x6.2.2.2.2.2.2]) (u:=x6) ky3 x6.1 ⟨⟨rfl,ho8.1⟩,⟨rfl,ho8.2.1⟩,.inl ⟨9,rfl⟩,⟨⟨rfl,ho8.2.2.2.1.1⟩,⟨rfl,ho8.2.2.2.1.2.1⟩,⟨rfl,ho8.2.2.2.1.2.2⟩⟩,⟨rfl,ho8.2.2.2.2.1⟩,⟨rfl,ho8.2.2.2.2.2.1⟩,⟨rfl,ho8.2.2.2.2.2.2⟩⟩ ?_;refine A.dl 2 ?_;obtain⟨hc14,hF⟩:=A.gd_some hF;refine A.q [] [] [.n,.n] [Z.R64 (y3+1)] [(9,A.i (y3+1))] hc14 (A.AL.done ?_);exact A.j ⟨_,Nat.lt_succ_self _,⟨(Z.mins m2 x6.1 x6),(y3+1),rfl,rfl,(Z.i64_has hc14),hF⟩⟩
 refine A.xl 3 ?_;refine A.q0 [] [] [.n,.n] [(2,.map (some b1))] (A.dx 1 ?_);obtain rfl:=A.si hF;exact A.rt1 [(0,1)] ⟨b1,rfl,rfl⟩
def F.aP (k1:(List (Int×Bool))→Int→Option Bool)(m6:List (Int×Bool))(y7:Int)(x10:D121)(y28:Bool):Option Bool:=if y28=true then(some false)else(A.gd (Z.R64 (y7+1)) (k1 (Z.mins m6 x10.2.1 true) (y7+1)))
def F.y (a0:(List (Int×D57)))(a1:D30)(r2:(List (Int×D57))):Nat→(List (Int×Bool))→Int→Option Bool
 |0,_,_=>none
 |f+1,m6,y7=>if y7<((a1.2.2).length:Int)then((A.ix a1.2.2 y7).bind fun x10=>(A.lt (Z.mget ((0,0,[],(0,0,(ByteArray.mk #[])),(ByteArray.mk #[]),0,0):D57) a0 x10.1) fun x16=>(A.lt (Z.mget ((0,0,[],(0,0,(ByteArray.mk #[])),(ByteArray.mk #[]),0,0):D57) r2 x10.2.1) fun x22=>(if(bif !(Z.mhas a0 x10.1)then true else !(Z.mhas r2 x10.2.1))=true then(F.aP (F.y a0 a1 r2 f) m6 y7 x10 true)else((F.cL x16.2.1).bind fun r30=>(if(bif !r30 then true else decide (x22.2.1≠x16.2.1))=true then(F.aP (F.y a0 a1 r2 f) m6 y7 x10 true)else(A.lt (Z.mget (false:Bool) m6 x10.2.1) fun x32=>(if x32=true then(F.aP (F.y a0 a1 r2 f) m6 y7 x10 true)else((F.cD x10).bind fun r35=>(if(!r35)=true then(F.aP (F.y a0 a1 r2 f) m6 y7 x10 true)else(F.aP (F.y a0 a1 r2 f) m6 y7 x10 (bif decide (x10.2.2.1=2)then decide (x16.2.1≠11)else false))))))))))))else(some true)
def F.cb (a0:(List (Int×D57)))(a1:D30):Option Bool:=(F.cE a1.2.1).bind fun r2=>(F.y a0 a1 r2 A.FU [] 0)
theorem o_aE (a0:(List (Int×D57)))(a1:D30)(b0_:Nat)(A1_:Option Addr)(c2_:Nat)(A3_:Option Addr)(c4_:Nat)(A5_:Option Addr)(c6_:Nat)(r:Bool)(hF:F.cb a0 a1=some r):
    A.Ct Tryd.prog 54 [.map (some b0_),.agg #[.slice A1_ ((a1.1).length) c2_,.slice A3_ ((a1.2.1).length) c4_,.slice A5_ ((a1.2.2).length) c6_]] [(0,.lmp Int (fun i:Int=>A.i i) T57 true b0_ a0),(1,.sh A.TI [.slice A1_ (a1.1).length c2_] a1.1),(2,.sh (.slice T57) [.slice A3_ (a1.2.1).length c4_] a1.2.1),(3,.sh (.slice T121) [.slice A5_ (a1.2.2).length c6_] a1.2.2)] [] (fun v H'=>v=.bool r∧H'=[]):=by
 refine A.Ct.enter Tryd.func54 rfl Tryd.ntmps54 rfl fun w0 F0=>?_;rw[F.cb]at hF;refine A.xl 1 ?_;refine A.AL.box 4 (cs:=[.slice A1_ ((a1.1).length) c2_,.slice A3_ ((a1.2.1).length) c4_,.slice A5_ ((a1.2.2).length) c6_]) fun g1=>?_;refine A.q0 [] [] [.n] [] (A.dl 2 ?_);refine A.q0 [4] [] [.n,.b 0 1] [(14,.slice A3_ ((a1.2.1).length) c4_)] ?_;obtain⟨r2,hv3,hF⟩:=A.bd_some hF;refine A.AL.call 5 [] (first:=[]) (cap:=[]) cf39 (o_r a1.2.1 A3_ c4_ r2 hv3) (.l 2 .nil) ?_;rintro _ _ ⟨b4,rfl,rfl⟩;refine⟨by kernel_rfl,?_⟩;refine A.q0 [] [] [.n] [(5,.map (some b4))] (A.dl 2 ?_);refine A.AL.mkm 45 Int (fun i:Int=>A.i i) Z.Ty.bool false fun b5=>?_;refine A.q0 [] [] [.n] [(6,.map (some b5))] (A.dl 3 ?_);refine A.q0 [4] [] [.n,.b 0 2,.n,.n] [(18,.slice A5_ ((a1.2.2).length) c6_),(19,A.i ((a1.2.2).length:Int)),(20,A.i 0)] (A.dx 2 ?_);refine A.lp_ [0,5,6,18,19] [0,3,5] (fun f nl nh=>∃(m6:List (Int×Bool)),∃(y7:Int),nl=[(20,A.i y7)]∧nh=[(45,.mp Int (fun i:Int=>A.i i) Z.Ty.bool false b5 m6)]∧A.h6 y7∧F.y a0 a1 r2 f m6 y7=some r) ⟨[],0,rfl,rfl,(A.hasl .i64 (0) rfl),hF⟩ ?_;rintro f9 _ _ ⟨m6,y7,rfl,rfl,hy8,hF⟩;rcases f9 with _|f9
 ·exact A.no0 hF
 rw[F.y]at hF;refine A.xl 1 ?_;refine A.q0 [] [] [.n] [(21,.bool (decide (y7<((a1.2.2).length:Int))))] (A.dx 2 ?_);refine A.AX.cnd rfl hF ?_ ?_<;>intro hb hF
 ·refine A.xl 5 ?_;obtain⟨x10,hv11,hF⟩:=A.bd_some hF;refine A.AL.ixs 3 220 hv11 fun ho12=>?_;intro b13 o14;refine A.q0 [] [220] [.e 0 0] [(23,.agg #[A.i x10.1,A.i x10.2.1,A.i x10.2.2.1,A.i x10.2.2.2.1,A.i x10.2.2.2.2.1,A.i x10.2.2.2.2.2.1,.string x10.2.2.2.2.2.2])] ?_;refine A.AL.alloc 221 (cs:=[A.i 0,A.i 0,A.i 0,A.i 0,A.i 0,A.i 0,.string (ByteArray.mk #[])]) Tryd.zeroValue122 fun g15=>?_;refine A.sw 221 [] [A.i x10.1,A.i x10.2.1,A.i x10.2.2.1,A.i x10.2.2.2.1,A.i x10.2.2.2.2.1,A.i x10.2.2.2.2.2.1,.string x10.2.2.2.2.2.2] ?_;refine A.dl 2 ?_;refine A.q0 [221] [] [.n,.n,.b 0 0] [(25,.map (some b0_)),(27,A.i x10.1)] ?_;obtain⟨x16,hv17,hF⟩:=A.lt_some hF;refine A.AL.lk2 (t:=T57) 0 222 (z:=((0,0,[],(0,0,(ByteArray.mk #[])),(ByteArray.mk #[]),0,0):D57)) (zs:=[A.i 0,A.i 0,.slice none 0 0,A.i 0,A.i 0,.string (ByteArray.mk #[]),.string (ByteArray.mk #[]),A.i 0,A.i 0]) ky3 x10.1 Tryd.zeroValue58 ⟨⟨rfl,by decide⟩,⟨rfl,by decide⟩,(.inr ⟨rfl,rfl⟩),⟨⟨rfl,by decide⟩,⟨rfl,by decide⟩,⟨rfl,by decide⟩⟩,⟨rfl,by decide⟩,⟨rfl,by decide⟩,⟨rfl,by decide⟩⟩ hv17 fun ho18=>?_;intro A19 c20;refine A.q0 [] [] [.n,.n,.n] [(29,.agg #[A.i x16.1,A.i x16.2.1,.slice A19 ((x16.2.2.1).length) c20,A.i x16.2.2.2.1.1,A.i x16.2.2.2.1.2.1,.string x16.2.2.2.1.2.2,.string x16.2.2.2.2.1,A.i x16.2.2.2.2.2.1,A.i x16.2.2.2.2.2.2]),(30,.bool (Z.mhas a0 x10.1))] ?_;refine A.AL.alloc 223 (cs:=[A.i 0,A.i 0,.slice none 0 0,A.i 0,A.i 0,.string (ByteArray.mk #[]),.string (ByteArray.mk #[]),A.i 0,A.i 0]) Tryd.zeroValue58 fun g21=>?_;refine A.sw 223 [] [A.i x16.1,A.i x16.2.1,.slice A19 ((x16.2.2.1).length) c20,A.i x16.2.2.2.1.1,A.i x16.2.2.2.1.2.1,.string x16.2.2.2.1.2.2,.string x16.2.2.2.2.1,A.i x16.2.2.2.2.2.1,A.i x16.2.2.2.2.2.2] ?_;refine A.q0 [] [] [.n] [(10,.bool (Z.mhas a0 x10.1))] (A.dl 2 ?_);refine A.q0 [221] [] [.n,.n,.b 0 1] [(32,.map (some b4)),(34,A.i x10.2.1)] ?_;obtain⟨x22,hv23,hF⟩:=A.lt_some hF;refine A.AL.lk2 (t:=T57) 5 224 (z:=((0,0,[],(0,0,(ByteArray.mk #[])),(ByteArray.mk #[]),0,0):D57)) (zs:=[A.i 0,A.i 0,.slice none 0 0,A.i 0,A.i 0,.string (ByteArray.mk #[]),.string (ByteArray.mk #[]),A.i 0,A.i 0]) ky3 x10.2.1 Tryd.zeroValue58 ⟨⟨rfl,by decide⟩,⟨rfl,by decide⟩,(.inr ⟨rfl,rfl⟩),⟨⟨rfl,by decide⟩,⟨rfl,by decide⟩,⟨rfl,by decide⟩⟩,⟨rfl,by decide⟩,⟨rfl,by decide⟩,⟨rfl,by decide⟩⟩ hv23 fun ho24=>?_;intro A25 c26;refine A.q0 [] [] [.n,.n,.n] [(36,.agg #[A.i x22.1,A.i x22.2.1,.slice A25 ((x22.2.2.1).length) c26,A.i x22.2.2.2.1.1,A.i x22.2.2.2.1.2.1,.string x22.2.2.2.1.2.2,.string x22.2.2.2.2.1,A.i x22.2.2.2.2.2.1,A.i x22.2.2.2.2.2.2]),(37,.bool (Z.mhas r2 x10.2.1))] ?_;refine A.AL.alloc 225 (cs:=[A.i 0,A.i 0,.slice none 0 0,A.i 0,A.i 0,.string (ByteArray.mk #[]),.string (ByteArray.mk #[]),A.i 0,A.i 0]) Tryd.zeroValue58 fun g27=>?_;refine A.sw 225 [] [A.i x22.1,A.i x22.2.1,.slice A25 ((x22.2.2.1).length) c26,A.i x22.2.2.2.1.1,A.i x22.2.2.2.1.2.1,.string x22.2.2.2.1.2.2,.string x22.2.2.2.2.1,A.i x22.2.2.2.2.2.1,A.i x22.2.2.2.2.2.2] ?_;refine A.q0 [] [] [.n] [(12,.bool (Z.mhas r2 x10.2.1))] (A.dx 2 ?_);refine A.AX.join [0,5,6,8,18,19,20] [0,3,5,45,221] (fun nl nh=>∃(y28:Bool),nl=[(77,.bool y28)]∧nh=[]∧F.aP (F.y a0 a1 r2 f9) m6 y7 x10 y28=some r) ?_ ?_
  ·refine A.xl 0 ?_;refine A.q0 [] [] [.n,.n,.n,.sy .n,.sy .n,.pk,.n] [(44,.bool (bif !(Z.mhas a0 x10.1)then true else !(Z.mhas r2 x10.2.1)))] ?_;refine A.AL.cnd (j:=44) rfl hF (fun hF=>?_) (fun hF=>?_)
   ·refine A.q0 [] [] [.off,.off,.off,.off,.n,.n,.off,.off,.off,.off,.off,.n,.n,.off,.off,.off,.off,.n,.n,.off,.off,.off,.n,.n,.off,.off,.off,.off,.off,.off,.off,.off,.n] [(77,.bool true)] (A.AL.done ?_);exact A.j ⟨true,rfl,rfl,hF⟩
   refine A.q0 [223] [] [.on .n,.on (.b 0 1)] [(46,A.i x16.2.1)] ?_;refine A.AL.on (dj:=44) rfl rfl ?_;obtain⟨r30,hv31,hF⟩:=A.bd_some hF;refine A.AL.call 226 [] (first:=[]) (cap:=[]) cf69 (o_aD x16.2.1 ho18.2.1 r30 hv31) .nil ?_;rintro _ _ ⟨rfl,rfl⟩;refine⟨by kernel_rfl,?_⟩;refine A.q0 [225,223] [] [.on .n,.n,.n,.sy .n,.sy (.b 0 1),.sy .n,.sy (.b 1 1),.sy .n,.pk,.n] [(57,.bool (bif !r30 then true else decide (x22.2.1≠x16.2.1)))] ?_;refine A.AL.cnd (j:=57) rfl hF (fun hF=>?_) (fun hF=>?_)
   ·refine A.q0 [] [] [.off,.off,.off,.off,.n,.n,.off,.off,.off,.n,.n,.off,.off,.off,.off,.off,.off,.off,.off,.n] [(77,.bool true)] (A.AL.done ?_);exact A.j ⟨true,rfl,rfl,hF⟩
   refine A.q0 [221] [] [.on .n,.on .n,.on (.b 0 1)] [(58,.map (some b5)),(60,A.i x10.2.1)] ?_;refine A.AL.on (dj:=57) rfl rfl ?_;obtain⟨x32,hv33,hF⟩:=A.lt_some hF;refine A.AL.lku (t:=Z.Ty.bool) 45 266 (z:=(false:Bool)) (zs:=[.bool false]) ky3 x10.2.1 Tryd.zeroValue4 rfl hv33 fun ho34=>?_;refine A.q0 [] [] [.n,.n] [(63,.bool x32)] ?_;refine A.AL.cnd (j:=63) rfl hF (fun hF=>?_) (fun hF=>?_)
   ·refine A.q0 [] [] [.off,.off,.off,.n,.n,.off,.off,.off,.off,.off,.off,.off,.off,.n] [(77,.bool true)] (A.AL.done ?_);exact A.j ⟨true,rfl,rfl,hF⟩
   refine A.q0 [221] [] [.on (.b 0 0)] [(64,.agg #[A.i x10.1,A.i x10.2.1,A.i x10.2.2.1,A.i x10.2.2.2.1,A.i x10.2.2.2.2.1,A.i x10.2.2.2.2.2.1,.string x10.2.2.2.2.2.2])] ?_;refine A.AL.on (dj:=63) rfl rfl ?_;obtain⟨r35,hv36,hF⟩:=A.bd_some hF;refine A.AL.call 267 [] (first:=[]) (cap:=[]) cf70 (o_aJ x10 ho12.1 ho12.2.1 ho12.2.2.1 ho12.2.2.2.1 ho12.2.2.2.2.1 ho12.2.2.2.2.2.1 ho12.2.2.2.2.2.2 r35 hv36) .nil ?_;rintro _ _ ⟨rfl,rfl⟩;refine⟨by kernel_rfl,?_⟩;refine A.q0 [] [] [.on .n,.n,.n] [(68,.bool (!r35))] ?_;refine A.AL.cnd (j:=68) rfl hF (fun hF=>?_) (fun hF=>?_)
   ·refine A.q0 [] [] [.off,.off,.off,.off,.off,.off,.off,.off,.n] [(77,.bool true)] (A.AL.done ?_);exact A.j ⟨true,rfl,rfl,hF⟩
   refine A.q0 [221,223] [] [.on .n,.on (.b 0 2),.on .n,.on .n,.sy .n,.sy (.b 1 1),.sy .n,.on .pk,.n] [(77,.bool (bif decide (x10.2.2.1=2)then decide (x16.2.1≠11)else false))] (A.AL.done ?_);exact A.j ⟨(bif decide (x10.2.2.1=2)then decide (x16.2.1≠11)else false),rfl,rfl,hF⟩
  rintro _ _ ⟨y28,rfl,rfl,hF⟩;rw[F.aP]at hF;refine A.AX.cnb rfl hF ?_ ?_<;>intro hb hF
  ·refine A.xl 1 ?_;refine A.q0 [] [] [.n] [(4,.bool false)] (A.dx 1 ?_);obtain rfl:=A.si hF;exact A.rt1 [] ⟨rfl,rfl⟩
  refine A.xl 2 ?_;refine A.q0 [221] [] [.n,.n,.b 0 1] [(78,.map (some b5)),(80,A.i x10.2.1)] ?_;refine A.AL.mup (t:=Z.Ty.bool) 45 [] (cs:=[.bool true]) (u:=true) ky3 x10.2.1 rfl ?_;refine A.dl 2 ?_;obtain⟨hc29,hF⟩:=A.gd_some hF;refine A.q [] [] [.n,.n] [Z.R64 (y7+1)] [(20,A.i (y7+1))] hc29 (A.AL.done ?_);exact A.j ⟨_,Nat.lt_succ_self _,⟨(Z.mins m6 x10.2.1 true),(y7+1),rfl,rfl,(Z.i64_has hc29),hF⟩⟩
 refine A.xl 3 ?_;refine A.q0 [] [] [.n] [(4,.bool true)] (A.dx 1 ?_);obtain rfl:=A.si hF;exact A.rt1 [] ⟨rfl,rfl⟩
def F.bx (y2:Bool):Option Bool:=some y2
def F.cW (a0:(List (Int×D57)))(a1:D30):Option Bool:=if(bif bif decide (((a1.1).length:Int)≤32)then decide (((a1.2.1).length:Int)≤32)else false then decide (((a1.2.2).length:Int)≤16)else false)=true then((F.cK a0 a1).bind fun r3=>(if r3=true then((F.c4 a0 a1).bind fun r5=>(if r5=true then((F.cb a0 a1).bind fun r7=>(F.bx r7))else(F.bx false)))else(F.bx false)))else(F.bx false)
theorem o_aS (a0:(List (Int×D57)))(a1:D30)(b0_:Nat)(A1_:Option Addr)(c2_:Nat)(A3_:Option Addr)(c4_:Nat)(A5_:Option Addr)(c6_:Nat)(r:Bool)(hF:F.cW a0 a1=some r):
    A.Ct Tryd.prog 38 [.map (some b0_),.agg #[.slice A1_ ((a1.1).length) c2_,.slice A3_ ((a1.2.1).length) c4_,.slice A5_ ((a1.2.2).length) c6_]] [(0,.lmp Int (fun i:Int=>A.i i) T57 true b0_ a0),(1,.sh A.TI [.slice A1_ (a1.1).length c2_] a1.1),(2,.sh (.slice T57) [.slice A3_ (a1.2.1).length c4_] a1.2.1),(3,.sh (.slice T121) [.slice A5_ (a1.2.2).length c6_] a1.2.2)] [] (fun v H'=>v=.bool r∧H'=[]):=by
 refine A.Ct.enter Tryd.func38 rfl Tryd.ntmps38 rfl fun w0 F0=>?_;rw[F.cW]at hF;refine A.xl 1 ?_;refine A.AL.box 4 (cs:=[.slice A1_ ((a1.1).length) c2_,.slice A3_ ((a1.2.1).length) c4_,.slice A5_ ((a1.2.2).length) c6_]) fun g1=>?_;refine A.q0 [] [] [.n] [] (A.dx 1 ?_);refine A.AX.join [] [] (fun nl nh=>∃(y2:Bool),nl=[(4,.bool y2)]∧nh=[]∧F.bx y2=some r) ?_ ?_
 ·refine A.xl 0 ?_;refine A.q0 [4] [] [.n,.b 0 0,.n,.n,.n,.sy .n,.sy (.b 0 1),.sy .n,.sy .n,.pk,.n,.sy .n,.sy (.b 0 2),.sy .n,.sy .n,.pk,.n] [(21,.bool (bif bif decide (((a1.1).length:Int)≤32)then decide (((a1.2.1).length:Int)≤32)else false then decide (((a1.2.2).length:Int)≤16)else false))] ?_;refine A.AL.cnd (j:=21) rfl hF (fun hF=>?_) (fun hF=>?_)
  ·refine A.q0 [4] [] [.on .n,.on (.b 0 0)] [(22,.map (some b0_)),(23,.agg #[.slice A1_ ((a1.1).length) c2_,.slice A3_ ((a1.2.1).length) c4_,.slice A5_ ((a1.2.2).length) c6_])] ?_;refine A.AL.on (dj:=21) rfl rfl ?_;obtain⟨r3,hv4,hF⟩:=A.bd_some hF;refine A.AL.call 5 [] (first:=[]) (cap:=[]) cf52 (o_aC a0 a1 b0_ A1_ c2_ A3_ c4_ A5_ c6_ r3 hv4) (.s 0 (.s 1 (.s 2 (.s 3 .nil)))) ?_;rintro _ _ ⟨rfl,rfl⟩;refine⟨by kernel_rfl,?_⟩;refine A.q0 [] [] [.n,.n] [(26,.bool r3)] ?_;refine A.AL.cnd (j:=26) rfl hF (fun hF=>?_) (fun hF=>?_)
   ·refine A.q0 [4] [] [.on .n,.on (.b 0 0)] [(27,.map (some b0_)),(28,.agg #[.slice A1_ ((a1.1).length) c2_,.slice A3_ ((a1.2.1).length) c4_,.slice A5_ ((a1.2.2).length) c6_])] ?_;refine A.AL.on (dj:=26) rfl rfl ?_;obtain⟨r5,hv6,hF⟩:=A.bd_some hF;refine A.AL.call 45 [] (first:=[]) (cap:=[]) cf53 (o_aI a0 a1 b0_ A1_ c2_ A3_ c4_ A5_ c6_ r5 hv6) (.s 0 (.s 1 (.s 2 (.s 3 .nil)))) ?_;rintro _ _ ⟨rfl,rfl⟩;refine⟨by kernel_rfl,?_⟩;refine A.q0 [] [] [.n,.n] [(31,.bool r5)] ?_;refine A.AL.cnd (j:=31) rfl hF (fun hF=>?_) (fun hF=>?_)
    ·refine A.q0 [4] [] [.on .n,.on (.b 0 0)] [(32,.map (some b0_)),(33,.agg #[.slice A1_ ((a1.1).length) c2_,.slice A3_ ((a1.2.1).length) c4_,.slice A5_ ((a1.2.2).length) c6_])] ?_;refine A.AL.on (dj:=31) rfl rfl ?_;obtain⟨r7,hv8,hF⟩:=A.bd_some hF;refine A.AL.call 85 [] (first:=[]) (cap:=[]) cf54 (o_aE a0 a1 b0_ A1_ c2_ A3_ c4_ A5_ c6_ r7 hv8) (.s 0 (.s 1 (.s 2 (.s 3 .nil)))) ?_;rintro _ _ ⟨rfl,rfl⟩;refine⟨by kernel_rfl,?_⟩;refine A.q0 [] [] [.n,.n] [(4,.bool r7)] (A.AL.done ?_);exact A.j ⟨r7,rfl,rfl,hF⟩
    refine A.q0 [] [] [.off,.off,.off,.n,.n] [(4,.bool false)] (A.AL.done ?_);exact A.j ⟨false,rfl,rfl,hF⟩
   refine A.q0 [] [] [.off,.off,.off,.n,.n,.off,.off,.off,.n,.n] [(4,.bool false)] (A.AL.done ?_);exact A.j ⟨false,rfl,rfl,hF⟩
  refine A.q0 [] [] [.off,.off,.off,.n,.n,.off,.off,.off,.n,.n,.off,.off,.off,.n,.n] [(4,.bool false)] (A.AL.done ?_);exact A.j ⟨false,rfl,rfl,hF⟩
 rintro _ _ ⟨y2,rfl,rfl,hF⟩;rw[F.bx]at hF;obtain rfl:=A.si hF;exact A.rt1 [] ⟨rfl,rfl⟩
def F.b5 (k13:(List D57)→Int→Option D23)(y34:Int)(xs39:List D57):Option D23:=A.gd (Z.R64 (y34+1)) (k13 xs39 (y34+1))
def F.aI (m17:List (Int×D57)):Nat→(List D57)→Int→Option D23
 |0,_,_=>none
 |f+1,xs33,y34=>if y34<256 then(A.lt (Z.mget ((0,0,[],(0,0,(ByteArray.mk #[])),(ByteArray.mk #[]),0,0):D57) m17 y34) fun x41=>(if(Z.mhas m17 y34)=true then(A.gd ((List.length (α:=D57) xs33+List.length (α:=D57) [x41])*104≤140737488355328) (F.b5 (F.aI m17 f) y34 (xs33++[x41])))else(F.b5 (F.aI m17 f) y34 xs33)))else(some xs33)
def F.a3 (a1:D30):Nat→(List (Int×D57))→Int→Option D23
 |0,_,_=>none
 |f+1,m17,y18=>if y18<((a1.2.1).length:Int)then((A.ix a1.2.1 y18).bind fun x21=>(A.gd (Z.R64 (y18+1)) ((F.a3 a1 f) (Z.mins m17 x21.1 x21) (y18+1))))else(F.aI m17 A.FU [] 0)
def F.bo (a1:D30):Nat→(List (Int×D57))→Int→Option D23
 |0,_,_=>none
 |f+1,m7,y8=>if y8<((a1.1).length:Int)then((A.ix a1.1 y8).bind fun x11=>(A.gd (Z.R64 (y8+1)) ((F.bo a1 f) (Z.mdel m7 x11) (y8+1))))else(F.a3 a1 A.FU m7 0)
def F.cF (a0:D23)(a1:D30):Option D23:=(F.cE a0).bind fun r4=>(F.bo a1 A.FU r4 0)
theorem o_aK (a0:D23)(a1:D30)(A0_:Option Addr)(c1_:Nat)(A2_:Option Addr)(c3_:Nat)(A4_:Option Addr)(c5_:Nat)(A6_:Option Addr)(c7_:Nat)(r:D23)(hF:F.cF a0 a1=some r):
    A.Ct Tryd.prog 40 [.agg #[.slice A0_ ((a0).length) c1_],.agg #[.slice A2_ ((a1.1).length) c3_,.slice A4_ ((a1.2.1).length) c5_,.slice A6_ ((a1.2.2).length) c7_]] [(0,.sh (.slice T57) [.slice A0_ (a0).length c1_] a0),(1,.sh A.TI [.slice A2_ (a1.1).length c3_] a1.1),(2,.sh (.slice T57) [.slice A4_ (a1.2.1).length c5_] a1.2.1),(3,.sh (.slice T121) [.slice A6_ (a1.2.2).length c7_] a1.2.2)] [] (fun v H'=>∃(A0':Option Addr) (c1':Nat),v=.agg #[.slice A0' ((r).length) c1']∧H'=[(0,.sh (.slice T57) [.slice A0' (r).length c1'] r)]):=by
 refine A.Ct.enter Tryd.func40 rfl Tryd.ntmps40 rfl fun w0 F0=>?_;rw[F.cF]at hF;refine A.xl 1 ?_;refine A.AL.box 4 (cs:=[.slice A0_ ((a0).length) c1_]) fun g1=>?_;refine A.AL.box 5 (cs:=[.slice A2_ ((a1.1).length) c3_,.slice A4_ ((a1.2.1).length) c5_,.slice A6_ ((a1.2.2).length) c7_]) fun g2=>?_;refine A.AL.alloc 6 (cs:=[.slice none 0 0]) Tryd.zeroValue24 fun g3=>?_;refine A.dl 2 ?_;refine A.q0 [4] [] [.n,.b 0 0] [(15,.slice A0_ ((a0).length) c1_)] ?_;obtain⟨r4,hv5,hF⟩:=A.bd_some hF;refine A.AL.call 7 [] (first:=[]) (cap:=[]) cf39 (o_r a0 A0_ c1_ r4 hv5) (.l 0 .nil) ?_;rintro _ _ ⟨b6,rfl,rfl⟩;refine⟨by kernel_rfl,?_⟩;refine A.q0 [] [] [.n] [(5,.map (some b6))] (A.dl 3 ?_);refine A.q0 [5] [] [.n,.b 0 0,.n,.n] [(18,.slice A2_ ((a1.1).length) c3_),(19,A.i ((a1.1).length:Int)),(20,A.i 0)] (A.dx 2 ?_);refine A.lp_ [3,4,5,18,19] [1,2,3,5,6] (fun f nl nh=>∃(m7:List (Int×D57)),∃(y8:Int),nl=[(20,A.i y8)]∧nh=[(7,.mp Int (fun i:Int=>A.i i) T57 true b6 m7)]∧A.h6 y8∧F.bo a1 f m7 y8=some r) ⟨r4,0,rfl,rfl,(A.hasl .i64 (0) rfl),hF⟩ ?_;rintro f10 _ _ ⟨m7,y8,rfl,rfl,hy9,hF⟩;rcases f10 with _|f10
 ·exact A.no0 hF
 rw[F.bo]at hF;refine A.xl 1 ?_;refine A.q0 [] [] [.n] [(21,.bool (decide (y8<((a1.1).length:Int))))] (A.dx 2 ?_);refine A.AX.cnd rfl hF ?_ ?_<;>intro hb hF
 ·refine A.xl 5 ?_;obtain⟨x11,hv12,hF⟩:=A.bd_some hF;refine A.AL.ixs 1 187 hv12 fun ho13=>?_;intro b14 o15;refine A.q0 [] [187] [.e 0 0,.n] [(7,A.i x11)] (A.dl 1 ?_);refine A.q0 [] [] [.n,.n] [(24,.map (some b6)),(25,A.i x11)] ?_;refine A.AL.mdl 7 [] ky3 x11 ?_;refine A.dl 2 ?_;obtain⟨hc16,hF⟩:=A.gd_some hF;refine A.q [] [] [.n,.n] [Z.R64 (y8+1)] [(20,A.i (y8+1))] hc16 (A.AL.done ?_);exact A.j ⟨_,Nat.lt_succ_self _,⟨(Z.mdel m7 x11),(y8+1),rfl,rfl,(Z.i64_has hc16),hF⟩⟩
 refine A.xl 4 ?_;refine A.q0 [5] [] [.n,.b 0 1,.n,.n] [(28,.slice A4_ ((a1.2.1).length) c5_),(29,A.i ((a1.2.1).length:Int)),(30,A.i 0)] (A.dx 2 ?_);refine A.lp_ [4,5,28,29] [2,6] (fun f nl nh=>∃(m17:List (Int×D57)),∃(y18:Int),nl=[(30,A.i y18)]∧nh=[(7,.mp Int (fun i:Int=>A.i i) T57 true b6 m17)]∧A.h6 y18∧F.a3 a1 f m17 y18=some r) ⟨m7,0,rfl,rfl,(A.hasl .i64 (0) rfl),hF⟩ ?_;rintro f20 _ _ ⟨m17,y18,rfl,rfl,hy19,hF⟩;rcases f20 with _|f20
 ·exact A.no0 hF
 rw[F.a3]at hF;refine A.xl 1 ?_;refine A.q0 [] [] [.n] [(31,.bool (decide (y18<((a1.2.1).length:Int))))] (A.dx 2 ?_);refine A.AX.cnd rfl hF ?_ ?_<;>intro hb hF
 ·refine A.xl 5 ?_;obtain⟨x21,hv22,hF⟩:=A.bd_some hF;refine A.AL.ixs 2 234 hv22 fun ho23=>?_;intro A24 c25 b26 o27;refine A.q0 [] [234] [.e 0 0] [(33,.agg #[A.i x21.1,A.i x21.2.1,.slice A24 ((x21.2.2.1).length) c25,A.i x21.2.2.2.1.1,A.i x21.2.2.2.1.2.1,.string x21.2.2.2.1.2.2,.string x21.2.2.2.2.1,A.i x21.2.2.2.2.2.1,A.i x21.2.2.2.2.2.2])] ?_;refine A.AL.alloc 236 (cs:=[A.i 0,A.i 0,.slice none 0 0,A.i 0,A.i 0,.string (ByteArray.mk #[]),.string (ByteArray.mk #[]),A.i 0,A.i 0]) Tryd.zeroValue58 fun g28=>?_;refine A.sw 236 [] [A.i x21.1,A.i x21.2.1,.slice A24 ((x21.2.2.1).length) c25,A.i x21.2.2.2.1.1,A.i x21.2.2.2.1.2.1,.string x21.2.2.2.1.2.2,.string x21.2.2.2.2.1,A.i x21.2.2.2.2.2.1,A.i x21.2.2.2.2.2.2] ?_;refine A.dl 1 ?_;refine A.q0 [236] [] [.n,.n,.b 0 0,.b 0 0] [(34,.map (some b6)),(36,A.i x21.1),(37,.agg #[A.i x21.1,A.i x21.2.1,.slice A24 ((x21.2.2.1).length) c25,A.i x21.2.2.2.1.1,A.i x21.2.2.2.1.2.1,.string x21.2.2.2.1.2.2,.string x21.2.2.2.2.1,A.i x21.2.2.2.2.2.1,A.i x21.2.2.2.2.2.2])] ?_;refine A.AL.mup (t:=T57) 7 [] (cs:=[A.i x21.1,A.i x21.2.1,.slice A24 ((x21.2.2.1).length) c25,A.i x21.2.2.2.1.1,A.i x21.2.2.2.1.2.1,.string x21.2.2.2.1.2.2,.string x21.2.2.2.2.1,A.i x21.2.2.2.2.2.1,A.i x21.2.2.2.2.2.2]) (u:=x21) ky3 x21.1 ⟨⟨rfl,ho23.1⟩,⟨rfl,ho23.2.1⟩,.inl ⟨235,rfl⟩,⟨⟨rfl,ho23.2.2.2.1.1⟩,⟨rfl,ho23.2.2.2.1.2.1⟩,⟨rfl,ho23.2.2.2.1.2.2⟩⟩,⟨rfl,ho23.2.2.2.2.1⟩,⟨rfl,ho23.2.2.2.2.2.1⟩,⟨rfl,ho23.2.2.2.2.2.2⟩⟩ ?_;refine A.dl 2 ?_;obtain⟨hc29,hF⟩:=A.gd_some hF;refine A.q [] [] [.n,.n] [Z.R64 (y18+1)] [(30,A.i (y18+1))] hc29 (A.AL.done ?_);exact A.j ⟨_,Nat.lt_succ_self _,⟨(Z.mins m17 x21.1 x21),(y18+1),rfl,rfl,(Z.i64_has hc29),hF⟩⟩
 refine A.xl 3 ?_;refine A.AL.alloc 237 (cs:=[.slice none 0 0]) Tryd.zeroValue24 fun g30=>?_;refine A.dl 3 ?_;refine A.q0 [] [] [.n] [(39,A.i 0)] (A.dx 2 ?_);refine A.nil 247 T57 58 ?_;refine A.lp_ [4,5,10] [6,7] (fun f nl nh=>∃(xs33:List D57),∃(y34:Int),∃(A31:Option Addr),∃(c32:Nat),nl=[(39,A.i y34)]∧nh=[(237,.blk g30 24 [.slice A31 ((xs33).length) c32]),(247,.own T57 58 A31 c32 xs33)]∧A.h6 y34∧F.aI m17 f xs33 y34=some r) ⟨[],0,none,0,rfl,rfl,(A.hasl .i64 (0) rfl),hF⟩ ?_;rintro f36 _ _ ⟨xs33,y34,A31,c32,rfl,rfl,hy35,hF⟩;rcases f36 with _|f36
 ·exact A.no0 hF
 rw[F.aI]at hF;refine A.xl 1 ?_;refine A.q0 [] [] [.n] [(40,.bool (decide (y34<256)))] (A.dx 2 ?_);refine A.AX.cnd rfl hF ?_ ?_<;>intro hb hF
 ·refine A.xx 2 ?_;refine A.AX.join [4,5,10,39] [6,7] (fun nl nh=>∃(xs39:List D57),∃(A37:Option Addr),∃(c38:Nat),nl=[]∧nh=[(237,.blk g30 24 [.slice A37 ((xs39).length) c38]),(247,.own T57 58 A37 c38 xs39)]∧F.b5 (F.aI m17 f36) y34 xs39=some r) ?_ ?_
  ·refine A.xl 2 ?_;refine A.q0 [] [] [.n,.n] [(11,A.i y34)] (A.dl 2 ?_);refine A.q0 [] [] [.n,.n] [(43,.map (some b6)),(44,A.i y34)] ?_;obtain⟨x41,hv42,hF⟩:=A.lt_some hF;refine A.AL.lk2 (t:=T57) 7 254 (z:=((0,0,[],(0,0,(ByteArray.mk #[])),(ByteArray.mk #[]),0,0):D57)) (zs:=[A.i 0,A.i 0,.slice none 0 0,A.i 0,A.i 0,.string (ByteArray.mk #[]),.string (ByteArray.mk #[]),A.i 0,A.i 0]) ky3 y34 Tryd.zeroValue58 ⟨⟨rfl,by decide⟩,⟨rfl,by decide⟩,(.inr ⟨rfl,rfl⟩),⟨⟨rfl,by decide⟩,⟨rfl,by decide⟩,⟨rfl,by decide⟩⟩,⟨rfl,by decide⟩,⟨rfl,by decide⟩,⟨rfl,by decide⟩⟩ hv42 fun ho43=>?_;intro A44 c45;refine A.q0 [] [] [.n,.n,.n] [(46,.agg #[A.i x41.1,A.i x41.2.1,.slice A44 ((x41.2.2.1).length) c45,A.i x41.2.2.2.1.1,A.i x41.2.2.2.1.2.1,.string x41.2.2.2.1.2.2,.string x41.2.2.2.2.1,A.i x41.2.2.2.2.2.1,A.i x41.2.2.2.2.2.2]),(47,.bool (Z.mhas m17 y34))] ?_;refine A.AL.alloc 255 (cs:=[A.i 0,A.i 0,.slice none 0 0,A.i 0,A.i 0,.string (ByteArray.mk #[]),.string (ByteArray.mk #[]),A.i 0,A.i 0]) Tryd.zeroValue58 fun g46=>?_;refine A.sw 255 [] [A.i x41.1,A.i x41.2.1,.slice A44 ((x41.2.2.1).length) c45,A.i x41.2.2.2.1.1,A.i x41.2.2.2.1.2.1,.string x41.2.2.2.1.2.2,.string x41.2.2.2.2.1,A.i x41.2.2.2.2.2.1,A.i x41.2.2.2.2.2.2] ?_;refine A.q0 [] [] [.n] [(13,.bool (Z.mhas m17 y34))] (A.dl 2 ?_);refine A.q0 [] [] [.n] [(48,.bool (Z.mhas m17 y34))] (A.dx 1 ?_);refine A.AX.cnb rfl hF ?_ ?_<;>intro hb hF
   ·refine A.xl 0 ?_;refine A.q0 [237,255] [] [.n,.b 0 0,.b 1 0] [(50,.slice A31 ((xs33).length) c32),(51,.agg #[A.i x41.1,A.i x41.2.1,.slice A44 ((x41.2.2.1).length) c45,A.i x41.2.2.2.1.1,A.i x41.2.2.2.1.2.1,.string x41.2.2.2.1.2.2,.string x41.2.2.2.2.1,A.i x41.2.2.2.2.2.1,A.i x41.2.2.2.2.2.2])] ?_;refine A.AL.bsl 256 (ty:=T57) (cs:=[A.i x41.1,A.i x41.2.1,.slice A44 ((x41.2.2.1).length) c45,A.i x41.2.2.2.1.1,A.i x41.2.2.2.1.2.1,.string x41.2.2.2.1.2.2,.string x41.2.2.2.2.1,A.i x41.2.2.2.2.2.1,A.i x41.2.2.2.2.2.2]) [x41] ⟨⟨⟨rfl,ho43.1⟩,⟨rfl,ho43.2.1⟩,.inl ⟨254,rfl⟩,⟨⟨rfl,ho43.2.2.2.1.1⟩,⟨rfl,ho43.2.2.2.1.2.1⟩,⟨rfl,ho43.2.2.2.1.2.2⟩⟩,⟨rfl,ho43.2.2.2.2.1⟩,⟨rfl,ho43.2.2.2.2.2.1⟩,⟨rfl,ho43.2.2.2.2.2.2⟩⟩,rfl⟩ (fun g47=>?_) Tryd.zeroValue58 Tryd.sizeOf58
    obtain⟨hl50,hF⟩:=A.gd_some hF;refine A.AL.app (k:=247) [] (A.rowO (k:=256) rfl) inf58 hl50 fun A48 c49=>?_;refine A.q0 [] [] [.n] [(54,.pointer (some ⟨g30,0,none⟩))] ?_;refine A.sw 237 [] [.slice A48 ((xs33++[x41]).length) c49] ?_;refine A.de 1 ?_;exact A.j ⟨(xs33++[x41]),A48,c49,rfl,rfl,hF⟩
   refine A.xe 2 ?_;exact A.j ⟨xs33,A31,c32,rfl,rfl,hF⟩
  rintro _ _ ⟨xs39,A37,c38,rfl,rfl,hF⟩;rw[F.b5]at hF;refine A.xl 0 ?_;obtain⟨hc40,hF⟩:=A.gd_some hF;refine A.q [] [] [.n,.n] [Z.R64 (y34+1)] [(39,A.i (y34+1))] hc40 (A.AL.done ?_);exact A.j ⟨_,Nat.lt_succ_self _,⟨xs39,(y34+1),A37,c38,rfl,rfl,(Z.i64_has hc40),hF⟩⟩
 refine A.xl 3 ?_;refine A.q0 [237] [] [.b 0 0] [(56,.agg #[.slice A31 ((xs33).length) c32])] ?_;refine A.sw 6 [] [.slice A31 ((xs33).length) c32] ?_;refine A.dx 1 ?_;obtain rfl:=A.si hF;refine A.frz 247 [] ?_;exact A.AX.ret [(0,247)] (.agg #[.slice A31 ((xs33).length) c32]) (fun a w hf hh=>Z.resv1 rfl (Z.rv_n hf rfl Tryd.isAgg24 Tryd.sizeOf24 (A.Hp.blk hh 6) rfl)) (⟨A31,c32,rfl,rfl⟩)
def F.aV (a0:(List Int)):Option (List Int):=A.gd ((List.length (α:=Int) []+List.length (α:=Int) a0)*8≤140737488355328) (some ([]++a0))
theorem o_v (a0:(List Int))(A0_:Option Addr)(c1_:Nat)(r:(List Int))(hF:F.aV a0=some r):
    A.Ct Tryd.prog 48 [.slice A0_ ((a0).length) c1_] [(0,.ln A.ti A0_ c1_ a0)] [] (fun v H'=>∃(A0':Option Addr) (c1':Nat),v=.slice A0' ((r).length) c1'∧H'=[(0,.own A.ti 3 A0' c1' r)]):=by
 refine A.Ct.enter Tryd.func48 rfl Tryd.ntmps48 rfl fun w0 F0=>?_;rw[F.aV]at hF;refine A.xl 1 ?_;refine A.q0 [] [] [.n] [] (A.dl 3 ?_);refine A.q0 [] [] [.n,.n] [(4,.bool A0_.isNone)] (A.dx 1 ?_);refine A.AX.cnn rfl (fun hb=>?_) (fun hb=>?_)
 ·refine A.nilL 0 hb fun hb=>?_;subst hb
  replace hF:some []=some r:=by simpa[A.gd,A.ix] using hF
  refine A.xl 1 ?_;refine A.q0 [] [] [.n] [(2,.slice none 0 0)] (A.dx 1 ?_);obtain rfl:=A.si hF;refine A.nil 2 A.ti 3 ?_;exact A.rt1 [(0,2)] ⟨none,0,rfl,rfl⟩
 refine A.xl 3 ?_;refine A.AL.bs0 1 A.ti (fun g1=>?_) Tryd.sizeOf3
 refine A.q0 [] [] [.n] [(6,.slice A0_ ((a0).length) c1_)] ?_;obtain⟨hl4,hF⟩:=A.gd_some hF;refine A.AL.app (k:=1) [] (A.rowL (k:=0) rfl) inf3 hl4 fun A2 c3=>?_;refine A.q0 [] [] [.n] [(2,.slice A2 (([]++a0).length) c3)] (A.dx 1 ?_);obtain rfl:=A.si hF;exact A.rt1 [(0,1)] ⟨A2,c3,rfl,rfl⟩
def F.aq (a0:(List D57)):Option (List D57):=A.gd ((List.length (α:=D57) []+List.length (α:=D57) a0)*104≤140737488355328) (some ([]++a0))
theorem o_m (a0:(List D57))(A0_:Option Addr)(c1_:Nat)(r:(List D57))(hF:F.aq a0=some r):
    A.Ct Tryd.prog 47 [.slice A0_ ((a0).length) c1_] [(0,.ln T57 A0_ c1_ a0)] [] (fun v H'=>∃(A0':Option Addr) (c1':Nat),v=.slice A0' ((r).length) c1'∧H'=[(0,.own T57 58 A0' c1' r)]):=by
 refine A.Ct.enter Tryd.func47 rfl Tryd.ntmps47 rfl fun w0 F0=>?_;rw[F.aq]at hF;refine A.xl 1 ?_;refine A.q0 [] [] [.n] [] (A.dl 3 ?_);refine A.q0 [] [] [.n,.n] [(4,.bool A0_.isNone)] (A.dx 1 ?_);refine A.AX.cnn rfl (fun hb=>?_) (fun hb=>?_)
 ·refine A.nilL 0 hb fun hb=>?_;subst hb
  replace hF:some []=some r:=by simpa[A.gd,A.ix] using hF
  refine A.xl 1 ?_;refine A.q0 [] [] [.n] [(2,.slice none 0 0)] (A.dx 1 ?_);obtain rfl:=A.si hF;refine A.nil 2 T57 58 ?_;exact A.rt1 [(0,2)] ⟨none,0,rfl,rfl⟩
 refine A.xl 3 ?_;refine A.AL.bs0 1 T57 (fun g1=>?_) Tryd.sizeOf58
 refine A.q0 [] [] [.n] [(6,.slice A0_ ((a0).length) c1_)] ?_;obtain⟨hl4,hF⟩:=A.gd_some hF;refine A.AL.app (k:=1) [] (A.rowL (k:=0) rfl) inf58 hl4 fun A2 c3=>?_;refine A.q0 [] [] [.n] [(2,.slice A2 (([]++a0).length) c3)] (A.dx 1 ?_);obtain rfl:=A.si hF;exact A.rt1 [(0,1)] ⟨A2,c3,rfl,rfl⟩
def F.bb (r3:(List D57)):Nat→(List D57)→Int→Option D23
 |0,_,_=>none
 |f+1,xs9,y11=>if y11<((r3).length:Int)then((A.ix xs9 y11).bind fun x14=>((F.aV x14.2.2.1).bind fun r21=>((A.ix xs9 y11).bind fun x25=>(A.gd (Z.R64 (y11+1)) ((F.bb r3 f) (xs9.set y11.toNat (x25.1,x25.2.1,r21,x25.2.2.2.1,x25.2.2.2.2.1,x25.2.2.2.2.2.1,x25.2.2.2.2.2.2)) (y11+1))))))else(some xs9)
def F.cM (a0:D23):Option D23:=(F.aq a0).bind fun r3=>(F.bb r3 A.FU r3 0)
theorem o_aF (a0:D23)(A0_:Option Addr)(c1_:Nat)(r:D23)(hF:F.cM a0=some r):
    A.Ct Tryd.prog 28 [.agg #[.slice A0_ ((a0).length) c1_]] [(0,.sh (.slice T57) [.slice A0_ (a0).length c1_] a0)] [] (fun v H'=>∃(A0':Option Addr) (c1':Nat),v=.agg #[.slice A0' ((r).length) c1']∧H'=[(0,.sh (.slice T57) [.slice A0' (r).length c1'] r)]):=by
 refine A.Ct.enter Tryd.func28 rfl Tryd.ntmps28 rfl fun w0 F0=>?_;rw[F.cM]at hF;refine A.xl 1 ?_;refine A.AL.box 1 (cs:=[.slice A0_ ((a0).length) c1_]) fun g1=>?_;refine A.AL.alloc 2 (cs:=[.slice none 0 0]) Tryd.zeroValue24 fun g2=>?_;refine A.dl 2 ?_;refine A.q0 [1] [] [.n,.b 0 0] [(5,.slice A0_ ((a0).length) c1_)] ?_;obtain⟨r3,hv4,hF⟩:=A.bd_some hF;refine A.AL.call 3 [] (first:=[]) (cap:=[]) cf47 (o_m a0 A0_ c1_ r3 hv4) (.l 0 .nil) ?_;rintro _ _ ⟨A5,c6,rfl,rfl⟩;refine⟨by kernel_rfl,?_⟩;refine A.q0 [] [] [.n] [(7,.pointer (some ⟨g1,0,none⟩))] ?_;refine A.sw 1 [] [.slice A5 ((r3).length) c6] ?_;refine A.dl 3 ?_;refine A.q0 [1] [] [.n,.b 0 0,.n,.n] [(10,A.i ((r3).length:Int)),(11,A.i 0)] (A.dx 2 ?_);refine A.lp_ [1,2,10] [1,2] (fun f nl nh=>∃(xs9:List D57),∃(y11:Int),nl=[(11,A.i y11)]∧nh=[(3,.own T57 58 A5 c6 xs9)]∧(r3).length=xs9.length∧A.h6 y11∧F.bb r3 f xs9 y11=some r) ⟨r3,0,rfl,rfl,rfl,(A.hasl .i64 (0) rfl),hF⟩ ?_;rintro f13 _ _ ⟨xs9,y11,rfl,rfl,hn10,hy12,hF⟩;rcases f13 with _|f13
 ·exact A.no0 hF
 rw[F.bb]at hF;refine A.xl 1 ?_;refine A.q0 [] [] [.n] [(12,.bool (decide (y11<((r3).length:Int))))] (A.dx 2 ?_);refine A.AX.cnd rfl hF ?_ ?_<;>intro hb hF
 ·refine A.xl 5 ?_;refine A.q0 [] [] [.n,.n] [(3,A.i y11)] (A.dx 1 ?_);refine A.AX.dr mixed 12 13 (A.mb 13 0) ?_;refine A.hq A.pb [] [1,2,3] [1] [] (A.mb 13 63) 7 [(0,.n),(2,.n),(3,.n),(5,.n),(1,.b 0 0),(4,.b 0 0)] [(16,A.i y11),(19,A.i y11),(15,.slice A5 ((r3).length) c6),(18,.slice A5 ((r3).length) c6)] ?_;refine A.cst 18 (Z.slice_n (show(r3).length=(xs9).length from hn10)) ?_;obtain⟨x14,hv15,hF⟩:=A.bd_some hF;refine A.AH.pko 3 131 hv15 fun ho16=>?_;intro A18 c19 g20 hA17;refine A.AH.v A.pb [1,2,3] [1,2,3,131,132] 6 (A.mb 13 127) rfl (fun a w hf hh=>A.r_ixo (t:=T57) hv15 hA17 hf) ?_;refine A.hq A.pb [1,2,3,131,132] [1,2,3,131,132] [] [131] (A.mb 13 511) 4 [(7,.n),(8,.e 0 2)] [(22,.slice A18 ((x14.2.2.1).length) c19)] ?_;refine A.AH.one 9 ?_;obtain⟨r21,hv22,hF⟩:=A.bd_some hF;refine A.AL.call 133 [] (first:=[]) (cap:=[]) cf48 (o_v x14.2.2.1 A18 c19 r21 hv22) (.l 132 .nil) ?_;rintro _ _ ⟨A23,c24,rfl,rfl⟩;refine⟨by kernel_rfl,?_⟩;refine A.AH.nx (A.mb 13 1023) [1,2,3,131,132] ?_;refine A.cst 15 (Z.slice_n (show(r3).length=(xs9).length from hn10)) ?_;obtain⟨x25,hv26,hF⟩:=A.bd_some hF;refine A.AH.pko 3 173 hv26 fun ho27=>?_;intro A29 c30 g31 hA28;refine A.AH.v A.pb [1,2,3,131,132] [1,2,3,131,132,133,173,174] 10 (A.mb 13 2047) rfl (fun a w hf hh=>A.r_ixo (t:=T57) hv26 hA28 hf) ?_;refine A.hq A.pb [1,2,3,131,132,133,173,174] [1,2,3,131,132,133,173,174] [] [] (A.mb 13 4095) 1 [(11,.n)] [(25,.pointer (some ⟨g31,y11.toNat*(T57).size+2,none⟩))] ?_;refine A.AH.one 12 ?_;refine A.frz 133 [] ?_;refine A.AL.setel 3 173 [131,173] (o:=2) (m:=1) (t:=T57) (new:=[.slice A23 ((r21).length) c24]) (es:=[A.i x25.1,A.i x25.2.1,.slice A29 ((x25.2.2.1).length) c30,A.i x25.2.2.2.1.1,A.i x25.2.2.2.1.2.1,.string x25.2.2.2.1.2.2,.string x25.2.2.2.2.1,A.i x25.2.2.2.2.2.1,A.i x25.2.2.2.2.2.2]) (x25.1,x25.2.1,r21,x25.2.2.2.1,x25.2.2.2.2.1,x25.2.2.2.2.2.1,x25.2.2.2.2.2.2) hv26 hA28 ⟨⟨rfl,ho27.1⟩,⟨rfl,ho27.2.1⟩,.inl ⟨133,rfl⟩,⟨⟨rfl,ho27.2.2.2.1.1⟩,⟨rfl,ho27.2.2.2.1.2.1⟩,⟨rfl,ho27.2.2.2.1.2.2⟩⟩,⟨rfl,ho27.2.2.2.2.1⟩,⟨rfl,ho27.2.2.2.2.2.1⟩,⟨rfl,ho27.2.2.2.2.2.2⟩⟩ ?_;refine A.AH.nm (A.mb 13 8191) ?_;refine A.AH.done ?_;refine A.el 2 ?_;obtain⟨hc32,hF⟩:=A.gd_some hF;refine A.q [] [] [.n,.n] [Z.R64 (y11+1)] [(11,A.i (y11+1))] hc32 (A.AL.done ?_);exact A.j ⟨_,Nat.lt_succ_self _,⟨(xs9.set y11.toNat (x25.1,x25.2.1,r21,x25.2.2.2.1,x25.2.2.2.2.1,x25.2.2.2.2.2.1,x25.2.2.2.2.2.2)),(y11+1),rfl,rfl,(by rw[List.length_set];exact hn10),(Z.i64_has hc32),hF⟩⟩
 refine A.xl 3 ?_;refine A.q0 [1] [] [.b 0 0] [(27,.agg #[.slice A5 ((r3).length) c6])] ?_;refine A.sw 2 [] [.slice A5 ((r3).length) c6] ?_;refine A.dx 1 ?_;obtain rfl:=A.si hF;refine A.frz 3 [] ?_;exact A.AX.ret [(0,3)] (.agg #[.slice A5 ((r3).length) c6]) (fun a w hf hh=>Z.resv1 rfl (Z.rv_n hf rfl Tryd.isAgg24 Tryd.sizeOf24 (A.Hp.blk hh 2) rfl)) (by rw[show(r3).length=(xs9).length from hn10];exact⟨A5,c6,rfl,rfl⟩)
def F.r (a0:D23)(a1:D30):Nat→Int→Option (D23×Int)
 |0,_=>none
 |f+1,y12=>if y12<((a1.2.1).length:Int)then((A.ix a1.2.1 y12).bind fun x15=>(if(bif decide (x15.1<1)then true else decide ((255:Int)<x15.1))=true then(some ([],80))else(A.gd (Z.R64 (y12+1)) ((F.r a0 a1 f) (y12+1)))))else((F.cF a0 a1).bind fun r24=>((F.ca r24).bind fun r29=>(if r29≠0 then(some ([],r29))else((F.cM r24).bind fun r32=>(some (r32,0))))))
def F.ay (a0:D23)(a1:D30):Option (D23×Int):=(F.ca a0).bind fun r4=>(if r4≠0 then(some ([],r4))else((F.cE a0).bind fun r7=>((F.cW r7 a1).bind fun r10=>(if(!r10)=true then(some ([],90))else(F.r a0 a1 A.FU 0)))))
theorem o_p (a0:D23)(a1:D30)(A0_:Option Addr)(c1_:Nat)(A2_:Option Addr)(c3_:Nat)(A4_:Option Addr)(c5_:Nat)(A6_:Option Addr)(c7_:Nat)(r:D23×Int)(hF:F.ay a0 a1=some r):
    A.Ct Tryd.prog 18 [.agg #[.slice A0_ ((a0).length) c1_],.agg #[.slice A2_ ((a1.1).length) c3_,.slice A4_ ((a1.2.1).length) c5_,.slice A6_ ((a1.2.2).length) c7_]] [(0,.sh (.slice T57) [.slice A0_ (a0).length c1_] a0),(1,.sh A.TI [.slice A2_ (a1.1).length c3_] a1.1),(2,.sh (.slice T57) [.slice A4_ (a1.2.1).length c5_] a1.2.1),(3,.sh (.slice T121) [.slice A6_ (a1.2.2).length c7_] a1.2.2),(4,.el none 0 0 A.tabF),(5,.el none 1 0 A.tabA)] [] (fun v H'=>∃(A0':Option Addr) (c1':Nat),v=.tuple #[.agg #[.slice A0' ((r.1).length) c1'],A.i r.2]∧H'=[(0,.sh (.slice T57) [.slice A0' (r.1).length c1'] r.1)]∧A.h6 r.2):=by
 refine A.Ct.enter Tryd.func18 rfl Tryd.ntmps18 rfl fun w0 F0=>?_;rw[F.ay]at hF;refine A.xl 1 ?_;refine A.AL.box 6 (cs:=[.slice A0_ ((a0).length) c1_]) fun g1=>?_;refine A.AL.box 7 (cs:=[.slice A2_ ((a1.1).length) c3_,.slice A4_ ((a1.2.1).length) c5_,.slice A6_ ((a1.2.2).length) c7_]) fun g2=>?_;refine A.AL.alloc 8 (cs:=[.slice none 0 0]) Tryd.zeroValue24 fun g3=>?_;refine A.q0 [] [] [.n] [] (A.dl 3 ?_);refine A.q0 [6] [] [.b 0 0] [(11,.agg #[.slice A0_ ((a0).length) c1_])] ?_;obtain⟨r4,hv5,hF⟩:=A.bd_some hF;refine A.AL.call 9 [] (first:=[]) (cap:=[]) cf37 (o_aa a0 A0_ c1_ r4 hv5) (.s 0 (.s 4 (.s 5 .nil))) ?_;rintro _ _ ⟨rfl,rfl,hr6⟩;refine⟨by kernel_rfl,?_⟩;refine A.q0 [] [] [.n] [(6,A.i r4)] (A.dl 2 ?_);refine A.q0 [] [] [.n,.n] [(14,.bool (decide (r4≠0)))] (A.dx 1 ?_);refine A.AX.cnd rfl hF ?_ ?_<;>intro hb hF
 ·refine A.xl 1 ?_;refine A.q0 [] [] [.n,.n] [(15,.agg #[.slice none 0 0]),(16,A.i r4)] ?_;refine A.sw 8 [] [.slice none 0 0] ?_;refine A.q0 [] [] [.n] [(5,A.i r4)] (A.dx 1 ?_);obtain rfl:=A.si hF;refine A.snil 49 T57 ?_;exact A.AX.ret [(0,49)] (.tuple #[.agg #[.slice none 0 0],A.i r4]) (fun a w hf hh=>Z.resv2 rfl (Z.rv_n hf rfl Tryd.isAgg24 Tryd.sizeOf24 (A.Hp.blk hh 8) rfl) (Z.rv_t hf rfl)) (⟨none,0,rfl,rfl,hr6⟩)
 refine A.xx 4 ?_;refine A.AX.dr mixed 6 6 (A.mb 6 0) ?_;refine A.hq A.pb [] [0,1,2,3,4,5,6,7,8] [7,6] [] (A.mb 6 11) 3 [(0,.n),(3,.b 0 0),(1,.b 1 0)] [(20,.agg #[.slice A2_ ((a1.1).length) c3_,.slice A4_ ((a1.2.1).length) c5_,.slice A6_ ((a1.2.2).length) c7_]),(18,.slice A0_ ((a0).length) c1_)] ?_;refine A.AH.one 2 ?_;obtain⟨r7,hv8,hF⟩:=A.bd_some hF;refine A.AL.call 50 [] (first:=[]) (cap:=[]) cf39 (o_r a0 A0_ c1_ r7 hv8) (.l 0 .nil) ?_;rintro _ _ ⟨b9,rfl,rfl⟩;refine⟨by kernel_rfl,?_⟩;refine A.AH.nx (A.mb 6 15) [0,1,2,3,4,5,6,7,8] ?_;refine A.AH.one 4 ?_;obtain⟨r10,hv11,hF⟩:=A.bd_some hF;refine A.AL.call 90 [] (first:=[]) (cap:=[]) cf38 (o_aS r7 a1 b9 A2_ c3_ A4_ c5_ A6_ c7_ r10 hv11) (.lm 50 (.s 1 (.s 2 (.s 3 .nil)))) ?_;rintro _ _ ⟨rfl,rfl⟩;refine⟨by kernel_rfl,?_⟩;refine A.AH.nx (A.mb 6 31) [0,1,2,3,4,5,6,7,8] ?_;refine A.hq A.pb [0,1,2,3,4,5,6,7,8] [0,1,2,3,4,5,6,7,8,50] [] [] (A.mb 6 63) 0 [(5,.n)] [(22,.bool (!r10))] (A.AH.done ?_);refine A.ex 1 ?_;refine A.AX.cnb rfl hF ?_ ?_<;>intro hb hF
 ·refine A.xl 1 ?_;refine A.q0 [] [] [.n] [(23,.agg #[.slice none 0 0])] ?_;refine A.sw 8 [] [.slice none 0 0] ?_;refine A.q0 [] [] [.n] [(5,A.i 90)] (A.dx 1 ?_);obtain rfl:=A.si hF;refine A.snil 130 T57 ?_;exact A.AX.ret [(0,130)] (.tuple #[.agg #[.slice none 0 0],A.i 90]) (fun a w hf hh=>Z.resv2 rfl (Z.rv_n hf rfl Tryd.isAgg24 Tryd.sizeOf24 (A.Hp.blk hh 8) rfl) (Z.rv_t hf rfl)) (⟨none,0,rfl,rfl,(A.hasl .i64 (90) rfl)⟩)
 refine A.xl 4 ?_;refine A.q0 [7] [] [.n,.b 0 1,.n,.n] [(25,.slice A4_ ((a1.2.1).length) c5_),(26,A.i ((a1.2.1).length:Int)),(27,A.i 0)] (A.dx 2 ?_);refine A.lp_ [2,3,4,25,26] [0,1,2,3,4,5,6,7,8] (fun f nl nh=>∃(y12:Int),nl=[(27,A.i y12)]∧nh=[]∧A.h6 y12∧F.r a0 a1 f y12=some r) ⟨0,rfl,rfl,(A.hasl .i64 (0) rfl),hF⟩ ?_;rintro f14 _ _ ⟨y12,rfl,rfl,hy13,hF⟩;rcases f14 with _|f14
 ·exact A.no0 hF
 rw[F.r]at hF;refine A.xl 1 ?_;refine A.q0 [] [] [.n] [(28,.bool (decide (y12<((a1.2.1).length:Int))))] (A.dx 2 ?_);refine A.AX.cnd rfl hF ?_ ?_<;>intro hb hF
 ·refine A.xl 5 ?_;obtain⟨x15,hv16,hF⟩:=A.bd_some hF;refine A.AL.ixs 2 383 hv16 fun ho17=>?_;intro A18 c19 b20 o21;refine A.q0 [] [383] [.e 0 0] [(30,.agg #[A.i x15.1,A.i x15.2.1,.slice A18 ((x15.2.2.1).length) c19,A.i x15.2.2.2.1.1,A.i x15.2.2.2.1.2.1,.string x15.2.2.2.1.2.2,.string x15.2.2.2.2.1,A.i x15.2.2.2.2.2.1,A.i x15.2.2.2.2.2.2])] ?_;refine A.AL.alloc 385 (cs:=[A.i 0,A.i 0,.slice none 0 0,A.i 0,A.i 0,.string (ByteArray.mk #[]),.string (ByteArray.mk #[]),A.i 0,A.i 0]) Tryd.zeroValue58 fun g22=>?_;refine A.sw 385 [] [A.i x15.1,A.i x15.2.1,.slice A18 ((x15.2.2.1).length) c19,A.i x15.2.2.2.1.1,A.i x15.2.2.2.1.2.1,.string x15.2.2.2.1.2.2,.string x15.2.2.2.2.1,A.i x15.2.2.2.2.2.1,A.i x15.2.2.2.2.2.2] ?_;refine A.dl 2 ?_;refine A.q0 [385] [] [.n,.b 0 0,.n,.n,.sy .n,.sy (.b 0 0),.sy .n,.pk] [(38,.bool (bif decide (x15.1<1)then true else decide ((255:Int)<x15.1)))] (A.dx 1 ?_);refine A.AX.cnb rfl hF ?_ ?_<;>intro hb hF
  ·refine A.xl 1 ?_;refine A.q0 [] [] [.n] [(39,.agg #[.slice none 0 0])] ?_;refine A.sw 8 [] [.slice none 0 0] ?_;refine A.q0 [] [] [.n] [(5,A.i 80)] (A.dx 1 ?_);obtain rfl:=A.si hF;refine A.snil 386 T57 ?_;exact A.AX.ret [(0,386)] (.tuple #[.agg #[.slice none 0 0],A.i 80]) (fun a w hf hh=>Z.resv2 rfl (Z.rv_n hf rfl Tryd.isAgg24 Tryd.sizeOf24 (A.Hp.blk hh 8) rfl) (Z.rv_t hf rfl)) (⟨none,0,rfl,rfl,(A.hasl .i64 (80) rfl)⟩)
  refine A.xl 3 ?_;obtain⟨hc23,hF⟩:=A.gd_some hF;refine A.q [] [] [.n,.n] [Z.R64 (y12+1)] [(27,A.i (y12+1))] hc23 (A.AL.done ?_);exact A.j ⟨_,Nat.lt_succ_self _,⟨(y12+1),rfl,rfl,(Z.i64_has hc23),hF⟩⟩
 refine A.xl 3 ?_;refine A.q0 [6,7] [] [.b 0 0,.b 1 0] [(41,.agg #[.slice A0_ ((a0).length) c1_]),(42,.agg #[.slice A2_ ((a1.1).length) c3_,.slice A4_ ((a1.2.1).length) c5_,.slice A6_ ((a1.2.2).length) c7_])] ?_;obtain⟨r24,hv25,hF⟩:=A.bd_some hF;refine A.AL.call 387 [] (first:=[]) (cap:=[]) cf40 (o_aK a0 a1 A0_ c1_ A2_ c3_ A4_ c5_ A6_ c7_ r24 hv25) (.s 0 (.s 1 (.s 2 (.s 3 .nil)))) ?_;rintro _ _ ⟨A26,c27,rfl,rfl⟩;refine⟨by kernel_rfl,?_⟩;refine A.AL.alloc 427 (cs:=[.slice none 0 0]) Tryd.zeroValue24 fun g28=>?_;refine A.sw 427 [] [.slice A26 ((r24).length) c27] ?_;refine A.dl 3 ?_;refine A.q0 [427] [] [.b 0 0] [(44,.agg #[.slice A26 ((r24).length) c27])] ?_;obtain⟨r29,hv30,hF⟩:=A.bd_some hF;refine A.AL.call 428 [] (first:=[]) (cap:=[]) cf37 (o_aa r24 A26 c27 r29 hv30) (.s 387 (.s 4 (.s 5 .nil))) ?_;rintro _ _ ⟨rfl,rfl,hr31⟩;refine⟨by kernel_rfl,?_⟩;refine A.q0 [] [] [.n] [(10,A.i r29)] (A.dl 2 ?_);refine A.q0 [] [] [.n,.n] [(47,.bool (decide (r29≠0)))] (A.dx 1 ?_);refine A.AX.cnd rfl hF ?_ ?_<;>intro hb hF
 ·refine A.xl 1 ?_;refine A.q0 [] [] [.n,.n] [(48,.agg #[.slice none 0 0]),(49,A.i r29)] ?_;refine A.sw 8 [] [.slice none 0 0] ?_;refine A.q0 [] [] [.n] [(5,A.i r29)] (A.dx 1 ?_);obtain rfl:=A.si hF;refine A.snil 468 T57 ?_;exact A.AX.ret [(0,468)] (.tuple #[.agg #[.slice none 0 0],A.i r29]) (fun a w hf hh=>Z.resv2 rfl (Z.rv_n hf rfl Tryd.isAgg24 Tryd.sizeOf24 (A.Hp.blk hh 8) rfl) (Z.rv_t hf rfl)) (⟨none,0,rfl,rfl,hr31⟩)
 refine A.xl 3 ?_;refine A.q0 [427] [] [.b 0 0] [(50,.agg #[.slice A26 ((r24).length) c27])] ?_;obtain⟨r32,hv33,hF⟩:=A.bd_some hF;refine A.AL.call 469 [] (first:=[]) (cap:=[]) cf28 (o_aF r24 A26 c27 r32 hv33) (.s 387 .nil) ?_;rintro _ _ ⟨A34,c35,rfl,rfl⟩;refine⟨by kernel_rfl,?_⟩;refine A.sw 8 [] [.slice A34 ((r32).length) c35] ?_;refine A.q0 [] [] [.n] [(5,A.i 0)] (A.dx 1 ?_);obtain rfl:=A.si hF;exact A.AX.ret [(0,469)] (.tuple #[.agg #[.slice A34 ((r32).length) c35],A.i 0]) (fun a w hf hh=>Z.resv2 rfl (Z.rv_n hf rfl Tryd.isAgg24 Tryd.sizeOf24 (A.Hp.blk hh 8) rfl) (Z.rv_t hf rfl)) (⟨A34,c35,rfl,rfl,(A.hasl .i64 (0) rfl)⟩)
def F.dB (a0:(List Int)):Option ((List Int)):=some a0
theorem o_aL (a0:(List Int))(A0_:Option Addr)(c1_:Nat)(r:((List Int)))(hF:F.dB a0=some r):
    A.Ct Tryd.prog 31 [.slice A0_ ((a0).length) c1_] [(0,.sh A.TI [.slice A0_ (a0).length c1_] a0)] [] (fun v H'=>∃(g0':Nat) (A1':Option Addr) (c2':Nat),v=.func (.func 49) #[] #[.pointer (some ⟨g0',0,none⟩)]∧H'=[(0,.blk g0' 28 [.slice A1' ((r).length) c2']),(1,.sh A.TI [.slice A1' (r).length c2'] r)]):=by
 refine A.Ct.enter Tryd.func31 rfl Tryd.ntmps31 rfl fun w0 F0=>?_;rw[F.dB]at hF;refine A.xl 1 ?_;refine A.AL.box 1 (cs:=[.slice A0_ ((a0).length) c1_]) fun g1=>?_;refine A.q0 [] [] [.n] [] (A.dl 2 ?_);refine A.q0 [] [] [.n,.n] [(2,.func (.func 49) #[] #[.pointer (some ⟨g1,0,none⟩)])] (A.dx 1 ?_);obtain rfl:=A.si hF;exact A.rt1 [(0,1),(1,0)] ⟨g1,A0_,c1_,rfl,rfl⟩
def F.av (b0:(List Int)):Nat→Int→Option (List Int)
 |0,_=>none
 |f+1,y1=>if y1<((b0).length:Int)then((A.ix b0 y1).bind fun x9=>(A.cns x9 (A.gd (Z.R64 (y1+1)) ((F.av b0 f) (y1+1)))))else(some [])
def F.cf (b0:(List Int)):Option (List Int):=F.av b0 A.FU 0
theorem o_al (b0:(List Int))(g0_:Nat)(A1_:Option Addr)(c2_:Nat)(xs:List Int)(hF:F.cf b0=some xs):
    A.Sq Tryd.prog 49 [.pointer (some ⟨g0_,0,none⟩)] [(0,.el none g0_ 0 [.slice A1_ ((b0).length) c2_]),(1,.sh A.TI [.slice A1_ (b0).length c2_] b0)] A.ti (fun cs=>[Z.vof false cs]) xs:=by
 refine A.Sq.enter Tryd.func49 rfl Tryd.ntmps49 rfl fun lid w0 J Jx Φ hY hJ0=>?_;obtain⟨rs0,hrs⟩: ∃rs0,rs0=xs:=⟨_,rfl⟩
 have hR0:A.Rem xs 0 rs0:=hrs▸A.Rem.zero xs
 rw[F.cf,←hrs]at hF
 clear hrs
 refine A.xl 1 ?_;refine A.q0 [] [0] [.e 0 0,.n,.n] [(5,.slice A1_ ((b0).length) c2_),(6,A.i ((b0).length:Int)),(7,A.i 0)] (A.dx 2 ?_);refine A.AX.loopC (A.CY 16 Φ) (0,w0) [0,5,6] [1] [1] (fun f i nl nh=>∃(y1:Int),∃(rs:List Int),nl=[(7,A.i y1)]∧nh=[]∧A.h6 y1∧J i.1 i.2∧A.Rem xs i.1 rs∧F.av b0 f y1=some rs) A.FU [(7,A.i 0)] [] ⟨0,_,rfl,rfl,(A.hasl .i64 (0) rfl),hJ0,hR0,hF⟩ ?_;rintro f3 ⟨k4,w5⟩ _ _ ⟨y1,rs8,rfl,rfl,hy2,hJ6,hR7,hF⟩;rcases f3 with _|f3
 ·exact A.no0 hF
 rw[F.av]at hF;refine A.xl 1 ?_;refine A.q0 [] [] [.n] [(8,.bool (decide (y1<((b0).length:Int))))] (A.dx 2 ?_);refine A.AX.cnd rfl hF ?_ ?_<;>intro hb hF
 ·refine A.xl 5 ?_;obtain⟨x9,hv10,hF⟩:=A.bd_some hF;refine A.AL.ixs 1 4 hv10 fun ho11=>?_;intro b12 o13;refine A.q0 [] [4] [.e 0 0,.n] [(4,A.i x9)] (A.dl 2 ?_);refine A.q0 [] [] [.n,.n] [(11,.func (.yield lid) #[] #[]),(12,A.i x9)] ?_;obtain⟨rs14,hqrs14,hF⟩:=A.cns_some hF;refine A.AL.yield hY hJ6 (hqrs14▸hR7) [A.i x9] ⟨rfl,ho11⟩ (fun w15 hJ16 hR17=>?_) (fun w15 hX18=>?_)
  ·refine A.q0 [] [] [.n] [(14,.bool false)] (A.dx 1 ?_);refine A.AX.cnf rfl ?_;refine A.xl 3 ?_;obtain⟨hc19,hF⟩:=A.gd_some hF;refine A.q [] [] [.n,.n] [Z.R64 (y1+1)] [(7,A.i (y1+1))] hc19 (A.AL.done ?_);exact A.AE.jC (k4+1,w15) [1] [(7,A.i (y1+1))] [] ⟨_,Nat.lt_succ_self _,⟨(y1+1),_,rfl,rfl,(Z.i64_has hc19),hJ16,hR17,hF⟩⟩
  refine A.q0 [] [] [.n] [(14,.bool true)] (A.dx 1 ?_);refine A.AX.cnt rfl ?_;exact A.AX.rtX hY hX18
 refine A.xe 1 ?_;obtain rfl:=A.si hF;exact A.AE.rtY hY hJ6 hR7
def F.cg (a0:Int)(b0:(List (Int×Bool))):Option Bool:=A.lt (Z.mget (false:Bool) b0 a0) fun x1=>(some x1)
theorem o_am (a0:Int)(b0:(List (Int×Bool)))(g1_:Nat)(b2_:Nat)(h0_:A.h6 a0)(r:Bool)(hF:F.cg a0 b0=some r):
    A.Ct Tryd.prog 34 [A.i a0,.pointer (some ⟨g1_,0,none⟩)] [(0,.el none g1_ 0 [.map (some b2_)]),(1,.lmp Int (fun i:Int=>A.i i) Z.Ty.bool false b2_ b0)] [] (fun v H'=>v=.bool r∧H'=[]):=by
 refine A.Ct.enter Tryd.func34 rfl Tryd.ntmps34 rfl fun w0 F0=>?_;rw[F.cg]at hF;refine A.xl 1 ?_;refine A.q0 [] [] [.n] [] (A.dl 2 ?_);refine A.q0 [] [0] [.e 0 0,.n] [(4,.map (some b2_)),(5,A.i a0)] ?_;obtain⟨x1,hv2,hF⟩:=A.lt_some hF;refine A.AL.lku (t:=Z.Ty.bool) 1 2 (z:=(false:Bool)) (zs:=[.bool false]) ky3 a0 Tryd.zeroValue4 rfl hv2 fun ho3=>?_;refine A.q0 [] [] [.n] [(3,.bool x1)] (A.dx 1 ?_);obtain rfl:=A.si hF;exact A.rt1 [] ⟨rfl,rfl⟩
def F.d (a0:(List Int))(a1_0:(List (Int×Bool))):Nat→Int→Option Int
 |0,_=>none
 |f+1,y1=>if y1<((a0).length:Int)then((A.ix a0 y1).bind fun x4=>((F.cg x4 a1_0).bind fun r9=>(if r9=true then(some y1)else(A.gd (Z.R64 (y1+1)) ((F.d a0 a1_0 f) (y1+1))))))else(some (-1))
def F.v (a0:(List Int))(a1_0:(List (Int×Bool))):Option Int:=F.d a0 a1_0 A.FU 0
theorem o_h (a0:(List Int))(a1_0:(List (Int×Bool)))(A0_:Option Addr)(c1_:Nat)(g2_:Nat)(b3_:Nat)(r:Int)(hF:F.v a0 a1_0=some r):
    A.Ct Tryd.prog 50 [.slice A0_ ((a0).length) c1_,.func (.func 34) #[] #[.pointer (some ⟨g2_,0,none⟩)]] [(0,.ln A.ti A0_ c1_ a0),(1,.el none g2_ 0 [.map (some b3_)]),(2,.lmp Int (fun i:Int=>A.i i) Z.Ty.bool false b3_ a1_0)] [] (fun v H'=>v=A.i r∧H'=[]∧A.h6 r):=by
 refine A.Ct.enter Tryd.func50 rfl Tryd.ntmps50 rfl fun w0 F0=>?_;rw[F.v]at hF;refine A.xl 1 ?_;refine A.q0 [] [] [.n] [] (A.dl 3 ?_);refine A.q0 [] [] [.n,.n,.n] [(7,A.i ((a0).length:Int)),(8,A.i 0)] (A.dx 2 ?_);refine A.lp_ [0,1,7] [0,1,2] (fun f nl nh=>∃(y1:Int),nl=[(8,A.i y1)]∧nh=[]∧A.h6 y1∧F.d a0 a1_0 f y1=some r) ⟨0,rfl,rfl,(A.hasl .i64 (0) rfl),hF⟩ ?_;rintro f3 _ _ ⟨y1,rfl,rfl,hy2,hF⟩;rcases f3 with _|f3
 ·exact A.no0 hF
 rw[F.d]at hF;refine A.xl 1 ?_;refine A.q0 [] [] [.n] [(9,.bool (decide (y1<((a0).length:Int))))] (A.dx 2 ?_);refine A.AX.cnd rfl hF ?_ ?_<;>intro hb hF
 ·refine A.xl 5 ?_;refine A.q0 [] [] [.n,.n] [(5,A.i y1)] (A.dl 2 ?_);refine A.q0 [] [] [.n,.n,.n] [(11,.func (.func 34) #[] #[.pointer (some ⟨g2_,0,none⟩)]),(12,.slice A0_ ((a0).length) c1_),(13,A.i y1)] ?_;obtain⟨x4,hv5,hF⟩:=A.bd_some hF;refine A.AL.ixl 0 85 hv5 fun ho6=>?_;intro b7 o8;refine A.q0 [] [85] [.e 0 0] [(15,A.i x4)] ?_;obtain⟨r9,hv10,hF⟩:=A.bd_some hF;refine A.AL.call 86 [] (first:=[]) (cap:=[.pointer (some ⟨g2_,0,none⟩)]) cf34 (o_am x4 a1_0 g2_ b3_ ho6 r9 hv10) (.s 1 (.s 2 .nil)) ?_;rintro _ _ ⟨rfl,rfl⟩;refine⟨by kernel_rfl,?_⟩;refine A.dx 1 ?_;refine A.AX.cnb rfl hF ?_ ?_<;>intro hb hF
  ·refine A.xl 1 ?_;refine A.q0 [] [] [.n,.n] [(4,A.i y1)] (A.dx 1 ?_);obtain rfl:=A.si hF;exact A.rt1 [] ⟨rfl,rfl,hy2⟩
  refine A.xl 3 ?_;obtain⟨hc11,hF⟩:=A.gd_some hF;refine A.q [] [] [.n,.n] [Z.R64 (y1+1)] [(8,A.i (y1+1))] hc11 (A.AL.done ?_);exact A.j ⟨_,Nat.lt_succ_self _,⟨(y1+1),rfl,rfl,(Z.i64_has hc11),hF⟩⟩
 refine A.xl 3 ?_;refine A.q0 [] [] [.n] [(4,A.i (-1))] (A.dx 1 ?_);obtain rfl:=A.si hF;exact A.rt1 [] ⟨rfl,rfl,(A.hasl .i64 (-1) rfl)⟩
def F.h (a0:(List Int))(a1_0:(List (Int×Bool))):Option Bool:=(F.v a0 a1_0).bind fun r1=>(some (decide ((0:Int)≤r1)))
theorem o_f (a0:(List Int))(a1_0:(List (Int×Bool)))(A0_:Option Addr)(c1_:Nat)(g2_:Nat)(b3_:Nat)(r:Bool)(hF:F.h a0 a1_0=some r):
    A.Ct Tryd.prog 33 [.slice A0_ ((a0).length) c1_,.func (.func 34) #[] #[.pointer (some ⟨g2_,0,none⟩)]] [(0,.ln A.ti A0_ c1_ a0),(1,.el none g2_ 0 [.map (some b3_)]),(2,.lmp Int (fun i:Int=>A.i i) Z.Ty.bool false b3_ a1_0)] [] (fun v H'=>v=.bool r∧H'=[]):=by
 refine A.Ct.enter Tryd.func33 rfl Tryd.ntmps33 rfl fun w0 F0=>?_;rw[F.h]at hF;refine A.xl 1 ?_;refine A.q0 [] [] [.n] [] (A.dl 2 ?_);refine A.q0 [] [] [.n,.n] [(5,.slice A0_ ((a0).length) c1_),(6,.func (.func 34) #[] #[.pointer (some ⟨g2_,0,none⟩)])] ?_;obtain⟨r1,hv2,hF⟩:=A.bd_some hF;refine A.AL.call 3 [] (first:=[]) (cap:=[]) cf50 (o_h a0 a1_0 A0_ c1_ g2_ b3_ r1 hv2) (.s 0 (.s 1 (.s 2 .nil))) ?_;rintro _ _ ⟨rfl,rfl,hr3⟩;refine⟨by kernel_rfl,?_⟩;refine A.q0 [] [] [.n,.n] [(4,.bool (decide ((0:Int)≤r1)))] (A.dx 1 ?_);obtain rfl:=A.si hF;exact A.rt1 [] ⟨rfl,rfl⟩
def F.bm (a0:Int)(b0:(List (Int×Bool))):Option Bool:=A.lt (Z.mget (false:Bool) b0 a0) fun x1=>(some (!x1))
theorem o_q (a0:Int)(b0:(List (Int×Bool)))(g1_:Nat)(b2_:Nat)(h0_:A.h6 a0)(r:Bool)(hF:F.bm a0 b0=some r):
    A.Ct Tryd.prog 36 [A.i a0,.pointer (some ⟨g1_,0,none⟩)] [(0,.el none g1_ 0 [.map (some b2_)]),(1,.lmp Int (fun i:Int=>A.i i) Z.Ty.bool false b2_ b0)] [] (fun v H'=>v=.bool r∧H'=[]):=by
 refine A.Ct.enter Tryd.func36 rfl Tryd.ntmps36 rfl fun w0 F0=>?_;rw[F.bm]at hF;refine A.xl 1 ?_;refine A.q0 [] [] [.n] [] (A.dl 2 ?_);refine A.q0 [] [0] [.e 0 0,.n] [(4,.map (some b2_)),(5,A.i a0)] ?_;obtain⟨x1,hv2,hF⟩:=A.lt_some hF;refine A.AL.lku (t:=Z.Ty.bool) 1 2 (z:=(false:Bool)) (zs:=[.bool false]) ky3 a0 Tryd.zeroValue4 rfl hv2 fun ho3=>?_;refine A.q0 [] [] [.n,.n] [(3,.bool (!x1))] (A.dx 1 ?_);obtain rfl:=A.si hF;exact A.rt1 [] ⟨rfl,rfl⟩
def F.e (a0:(List Int))(a1_0:(List (Int×Bool))):Nat→Int→Option Int
 |0,_=>none
 |f+1,y1=>if y1<((a0).length:Int)then((A.ix a0 y1).bind fun x4=>((F.bm x4 a1_0).bind fun r9=>(if r9=true then(some y1)else(A.gd (Z.R64 (y1+1)) ((F.e a0 a1_0 f) (y1+1))))))else(some (-1))
def F.w (a0:(List Int))(a1_0:(List (Int×Bool))):Option Int:=F.e a0 a1_0 A.FU 0
theorem o_i (a0:(List Int))(a1_0:(List (Int×Bool)))(A0_:Option Addr)(c1_:Nat)(g2_:Nat)(b3_:Nat)(r:Int)(hF:F.w a0 a1_0=some r):
    A.Ct Tryd.prog 50 [.slice A0_ ((a0).length) c1_,.func (.func 36) #[] #[.pointer (some ⟨g2_,0,none⟩)]] [(0,.ln A.ti A0_ c1_ a0),(1,.el none g2_ 0 [.map (some b3_)]),(2,.lmp Int (fun i:Int=>A.i i) Z.Ty.bool false b3_ a1_0)] [] (fun v H'=>v=A.i r∧H'=[]∧A.h6 r):=by
 refine A.Ct.enter Tryd.func50 rfl Tryd.ntmps50 rfl fun w0 F0=>?_;rw[F.w]at hF;refine A.xl 1 ?_;refine A.q0 [] [] [.n] [] (A.dl 3 ?_);refine A.q0 [] [] [.n,.n,.n] [(7,A.i ((a0).length:Int)),(8,A.i 0)] (A.dx 2 ?_);refine A.lp_ [0,1,7] [0,1,2] (fun f nl nh=>∃(y1:Int),nl=[(8,A.i y1)]∧nh=[]∧A.h6 y1∧F.e a0 a1_0 f y1=some r) ⟨0,rfl,rfl,(A.hasl .i64 (0) rfl),hF⟩ ?_;rintro f3 _ _ ⟨y1,rfl,rfl,hy2,hF⟩;rcases f3 with _|f3
 ·exact A.no0 hF
 rw[F.e]at hF;refine A.xl 1 ?_;refine A.q0 [] [] [.n] [(9,.bool (decide (y1<((a0).length:Int))))] (A.dx 2 ?_);refine A.AX.cnd rfl hF ?_ ?_<;>intro hb hF
 ·refine A.xl 5 ?_;refine A.q0 [] [] [.n,.n] [(5,A.i y1)] (A.dl 2 ?_);refine A.q0 [] [] [.n,.n,.n] [(11,.func (.func 36) #[] #[.pointer (some ⟨g2_,0,none⟩)]),(12,.slice A0_ ((a0).length) c1_),(13,A.i y1)] ?_;obtain⟨x4,hv5,hF⟩:=A.bd_some hF;refine A.AL.ixl 0 85 hv5 fun ho6=>?_;intro b7 o8;refine A.q0 [] [85] [.e 0 0] [(15,A.i x4)] ?_;obtain⟨r9,hv10,hF⟩:=A.bd_some hF;refine A.AL.call 86 [] (first:=[]) (cap:=[.pointer (some ⟨g2_,0,none⟩)]) cf36 (o_q x4 a1_0 g2_ b3_ ho6 r9 hv10) (.s 1 (.s 2 .nil)) ?_;rintro _ _ ⟨rfl,rfl⟩;refine⟨by kernel_rfl,?_⟩;refine A.dx 1 ?_;refine A.AX.cnb rfl hF ?_ ?_<;>intro hb hF
  ·refine A.xl 1 ?_;refine A.q0 [] [] [.n,.n] [(4,A.i y1)] (A.dx 1 ?_);obtain rfl:=A.si hF;exact A.rt1 [] ⟨rfl,rfl,hy2⟩
  refine A.xl 3 ?_;obtain⟨hc11,hF⟩:=A.gd_some hF;refine A.q [] [] [.n,.n] [Z.R64 (y1+1)] [(8,A.i (y1+1))] hc11 (A.AL.done ?_);exact A.j ⟨_,Nat.lt_succ_self _,⟨(y1+1),rfl,rfl,(Z.i64_has hc11),hF⟩⟩
 refine A.xl 3 ?_;refine A.q0 [] [] [.n] [(4,A.i (-1))] (A.dx 1 ?_);obtain rfl:=A.si hF;exact A.rt1 [] ⟨rfl,rfl,(A.hasl .i64 (-1) rfl)⟩
def F.g (k1:(List Int)→Int→Int→Option (List Int))(y11:Int)(xs16:List Int)(y18:Int):Option (List Int):=A.gd (Z.R64 (y11+1)) (k1 xs16 y18 (y11+1))
def F.b (a0:(List Int))(a1_0:(List (Int×Bool))):Nat→(List Int)→Int→Int→Option (List Int)
 |0,_,_,_=>none
 |f+1,xs7,y9,y11=>if y11<((a0).length:Int)then((A.ix xs7 y11).bind fun x21=>((F.bm x21 a1_0).bind fun r26=>(if(!r26)=true then((A.ix xs7 y9).bind fun x28=>(A.gd (Z.R64 (y9+1)) (F.g (F.b a0 a1_0 f) y11 (xs7.set y9.toNat x21) (y9+1))))else(F.g (F.b a0 a1_0 f) y11 xs7 y9))))else(A.gd (0≤y9∧y9.toNat≤(xs7).length) (A.gd (0≤y9∧y9.toNat≤(List.take y9.toNat xs7++List.replicate ((xs7).length -y9.toNat) (0:Int)).length) (some (List.take y9.toNat (List.take y9.toNat xs7++List.replicate ((xs7).length -y9.toNat) (0:Int))))))
def F.m (a0:(List Int))(a1_0:(List (Int×Bool))):Option (List Int):=(F.w a0 a1_0).bind fun r1=>(if r1= -1 then(some a0)else(A.gd (Z.R64 (r1+1)) (F.b a0 a1_0 A.FU a0 r1 (r1+1))))
theorem o_g (a0:(List Int))(a1_0:(List (Int×Bool)))(A0_:Option Addr)(c1_:Nat)(g2_:Nat)(b3_:Nat)(r:(List Int))(hF:F.m a0 a1_0=some r):
    A.Ct Tryd.prog 35 [.slice A0_ ((a0).length) c1_,.func (.func 36) #[] #[.pointer (some ⟨g2_,0,none⟩)]] [(0,.own A.ti 3 A0_ c1_ a0),(1,.el none g2_ 0 [.map (some b3_)]),(2,.lmp Int (fun i:Int=>A.i i) Z.Ty.bool false b3_ a1_0)] (Z.obl A0_++[]) (fun v H'=>∃(A0':Option Addr) (c1':Nat),v=.slice A0' ((r).length) c1'∧H'=[(0,.sh A.TI [.slice A0' (r).length c1'] r)]):=by
 refine A.Ct.enter Tryd.func35 rfl Tryd.ntmps35 rfl fun w0 F0=>?_;rw[F.m]at hF;refine A.xl 1 ?_;refine A.q0 [] [] [.n] [] (A.dl 2 ?_);refine A.q0 [] [] [.n,.n] [(8,.slice A0_ ((a0).length) c1_),(9,.func (.func 36) #[] #[.pointer (some ⟨g2_,0,none⟩)])] ?_;obtain⟨r1,hv2,hF⟩:=A.bd_some hF;refine A.AL.call 3 [] (first:=[]) (cap:=[]) cf50 (o_i a0 a1_0 A0_ c1_ g2_ b3_ r1 hv2) (.o 0 (.s 1 (.s 2 .nil))) ?_;rintro _ _ ⟨rfl,rfl,hr3⟩;refine⟨by kernel_rfl,?_⟩;refine A.q0 [] [] [.n] [(5,A.i r1)] (A.dl 3 ?_);refine A.q0 [] [] [.n,.n] [(12,.bool (decide (r1= -1)))] (A.dx 1 ?_);refine A.AX.cnd rfl hF ?_ ?_<;>intro hb hF
 ·refine A.xl 1 ?_;refine A.q0 [] [] [.n,.n] [(4,.slice A0_ ((a0).length) c1_)] (A.dx 1 ?_);obtain rfl:=A.si hF;refine A.frz 0 [] ?_;exact A.rt1 [(0,0)] ⟨A0_,c1_,rfl,rfl⟩
 refine A.xl 4 ?_;obtain⟨hc4,hF⟩:=A.gd_some hF;refine A.q [] [] [.n,.n,.n] [Z.R64 (r1+1)] [(6,A.i (r1+1))] hc4 (A.dx 2 ?_);refine A.lp_ [0,1] [1,2] (fun f nl nh=>∃(xs7:List Int),∃(y9:Int),∃(y11:Int),nl=[(5,A.i y9),(6,A.i y11)]∧nh=[(0,.own A.ti 3 A0_ c1_ xs7)]∧(a0).length=xs7.length∧A.h6 y9∧A.h6 y11∧F.b a0 a1_0 f xs7 y9 y11=some r) ⟨a0,r1,(r1+1),rfl,rfl,rfl,hr3,(Z.i64_has hc4),hF⟩ ?_;rintro f13 _ _ ⟨xs7,y9,y11,rfl,rfl,hn8,hy10,hy12,hF⟩;rcases f13 with _|f13
 ·exact A.no0 hF
 rw[F.b]at hF;refine A.xl 2 ?_;refine A.q0 [] [] [.n,.n,.n,.n] [(19,.bool (decide (y11<((a0).length:Int))))] (A.dx 1 ?_);refine A.AX.cnd rfl hF ?_ ?_<;>intro hb hF
 ·refine A.xx 2 ?_;refine A.AX.join [0,1,6] [1,2] (fun nl nh=>∃(xs16:List Int),∃(y18:Int),nl=[(5,A.i y18)]∧nh=[(0,.own A.ti 3 A0_ c1_ xs16)]∧(a0).length=xs16.length∧A.h6 y18∧F.g (F.b a0 a1_0 f13) y11 xs16 y18=some r) ?_ ?_
  ·refine A.xl 2 ?_;refine A.q0 [] [] [.n,.n] [(22,.slice A0_ ((a0).length) c1_),(23,A.i y11)] ?_;refine A.cst 22 (Z.slice_n (show(a0).length=(xs7).length from hn8)) ?_;obtain⟨x21,hv22,hF⟩:=A.bd_some hF;refine A.AL.ixo 0 129 hv22 fun ho23=>?_;intro g24 hA25;refine A.q0 [] [129] [.e 0 0,.n] [(7,A.i x21)] (A.dl 2 ?_);refine A.q0 [] [] [.n,.n] [(26,.func (.func 36) #[] #[.pointer (some ⟨g2_,0,none⟩)]),(27,A.i x21)] ?_;obtain⟨r26,hv27,hF⟩:=A.bd_some hF;refine A.AL.call 130 [] (first:=[]) (cap:=[.pointer (some ⟨g2_,0,none⟩)]) cf36 (o_q x21 a1_0 g2_ b3_ ho23 r26 hv27) (.s 1 (.s 2 .nil)) ?_;rintro _ _ ⟨rfl,rfl⟩;refine⟨by kernel_rfl,?_⟩;refine A.q0 [] [] [.n] [(29,.bool (!r26))] (A.dx 1 ?_);refine A.AX.cnb rfl hF ?_ ?_<;>intro hb hF
   ·refine A.xl 1 ?_;refine A.q0 [] [] [.n,.n,.n] [(30,.slice A0_ ((a0).length) c1_),(31,A.i y9),(32,A.i x21)] ?_;refine A.cst 30 (Z.slice_n (show(a0).length=(xs7).length from hn8)) ?_;obtain⟨x28,hv29,hF⟩:=A.bd_some hF;refine A.AL.ixo 0 170 hv29 fun ho30=>?_;intro g31 hA32;refine A.AL.setel 0 170 [129,170] (o:=0) (m:=1) (t:=A.ti) (new:=[A.i x21]) (es:=[A.i x28]) x21 hv29 hA32 ⟨rfl,ho23⟩ ?_;refine A.dl 1 ?_;obtain⟨hc33,hF⟩:=A.gd_some hF;refine A.q [] [] [.n,.n,.n] [Z.R64 (y9+1)] [(5,A.i (y9+1))] hc33 (A.de 1 ?_);exact A.j ⟨(xs7.set y9.toNat x21),(y9+1),rfl,rfl,(by rw[List.length_set];exact hn8),(Z.i64_has hc33),hF⟩
   refine A.xe 2 ?_;exact A.j ⟨xs7,y9,rfl,rfl,hn8,hy10,hF⟩
  rintro _ _ ⟨xs16,y18,rfl,rfl,hn17,hy19,hF⟩;rw[F.g]at hF;refine A.xl 0 ?_;obtain⟨hc20,hF⟩:=A.gd_some hF;refine A.q [] [] [.n,.n,.n] [Z.R64 (y11+1)] [(6,A.i (y11+1))] hc20 (A.AL.done ?_);exact A.j ⟨_,Nat.lt_succ_self _,⟨xs16,y18,(y11+1),rfl,rfl,hn17,hy19,(Z.i64_has hc20),hF⟩⟩
 refine A.xl 3 ?_;refine A.q0 [] [] [.n,.n] [(36,.slice A0_ ((a0).length) c1_),(37,A.i y9)] ?_;refine A.cst 36 (Z.slice_n (show(a0).length=(xs7).length from hn8)) ?_;obtain⟨hc34,hF⟩:=A.gd_some hF;refine A.AL.clr 0 [] (t:=A.ti) (u:=y9.toNat) (zs:=[A.i 0]) (0:Int) (Int.toNat_of_nonneg hc34.1).symm hc34.2 Tryd.zeroValue3 ⟨rfl,by decide⟩ ?_ Tryd.sizeOf3
 refine A.dl 2 ?_;refine A.q0 [] [] [.n,.n] [(39,.slice A0_ ((a0).length) c1_),(40,A.i y9)] ?_;refine A.cst 39 (Z.slice_n (show(a0).length=(List.take y9.toNat xs7++List.replicate ((xs7).length -y9.toNat) (0:Int)).length from(Eq.trans hn8 (by rw[List.length_append,List.length_take,List.length_replicate];omega)))) ?_;obtain⟨hc35,hF⟩:=A.gd_some hF;refine A.AL.cuto 0 [] (v:=y9.toNat) (Int.toNat_of_nonneg hc35.1).symm hc35.2 ?_;refine A.q0 [] [] [.n] [(4,.slice A0_ ((List.take y9.toNat (List.take y9.toNat xs7++List.replicate ((xs7).length -y9.toNat) (0:Int))).length) c1_)] (A.dx 1 ?_);obtain rfl:=A.si hF;refine A.frz 0 [] ?_;exact A.rt1 [(0,0)] ⟨A0_,c1_,rfl,rfl⟩
def F.bz (k5:(List (Int×Bool))→Bool→Int→Option ((List Int)×Int))(y38:Int)(m42:List (Int×Bool))(y43:Bool):Option ((List Int)×Int):=A.gd (Z.R64 (y38+1)) (k5 m42 y43 (y38+1))
def F.bA (k5:(List (Int×Bool))→Bool→Int→Option ((List Int)×Int))(m36:List (Int×Bool))(y37:Bool)(y38:Int)(x45:D57)(y53:Bool):Option ((List Int)×Int):=if y53=true then(F.bz k5 y38 (Z.mins m36 x45.1 true) true)else(F.bz k5 y38 m36 y37)
def F.z (k4:(List (Int×Bool))→Bool→Option ((List Int)×Int))(r3:D23×Int):Nat→(List (Int×Bool))→Bool→Int→Option ((List Int)×Int)
 |0,_,_,_=>none
 |f+1,m36,y37,y38=>if y38<((r3.1).length:Int)then((A.ix r3.1 y38).bind fun x45=>(A.lt (Z.mget (false:Bool) m36 x45.1) fun x54=>(if(!x54)=true then((F.h x45.2.2.1 m36).bind fun r57=>(F.bA (F.z k4 r3 f) m36 y37 y38 x45 r57))else(F.bA (F.z k4 r3 f) m36 y37 y38 x45 false))))else(k4 m36 y37)
def F.aa (r3:D23×Int):Nat→(List (Int×Bool))→Bool→Option ((List Int)×Int)
 |0,_,_=>none
 |f+1,m33,y34=>if y34=true then(F.z (F.aa r3 f) r3 A.FU m33 false 0)else((F.cS r3.1).bind fun r59=>((F.m r59 m33).bind fun r63=>(some (r63,0))))
def F.aw (r3:D23×Int):List Int→(List (Int×Bool))→Option ((List Int)×Int)
 | [],m32=>F.aa r3 A.FU m32 true
 |y29::f,m32=>(F.aw r3 f) (Z.mins m32 y29 true)
def F.aJ (a0:D23)(a1:D30):Option ((List Int)×Int):=(F.ay a0 a1).bind fun r3=>(if r3.2≠0 then(some ([],r3.2))else((F.cS a1.2.1).bind fun r11=>((F.dB r11).bind fun r15=>((F.cf r15).bind fun xs20=>F.aw r3 xs20 []))))
theorem o_t (a0:D23)(a1:D30)(A0_:Option Addr)(c1_:Nat)(A2_:Option Addr)(c3_:Nat)(A4_:Option Addr)(c5_:Nat)(A6_:Option Addr)(c7_:Nat)(r:(List Int)×Int)(hF:F.aJ a0 a1=some r):
    A.Ct Tryd.prog 17 [.agg #[.slice A0_ ((a0).length) c1_],.agg #[.slice A2_ ((a1.1).length) c3_,.slice A4_ ((a1.2.1).length) c5_,.slice A6_ ((a1.2.2).length) c7_]] [(0,.sh (.slice T57) [.slice A0_ (a0).length c1_] a0),(1,.sh A.TI [.slice A2_ (a1.1).length c3_] a1.1),(2,.sh (.slice T57) [.slice A4_ (a1.2.1).length c5_] a1.2.1),(3,.sh (.slice T121) [.slice A6_ (a1.2.2).length c7_] a1.2.2),(4,.el none 0 0 A.tabF),(5,.el none 1 0 A.tabA)] [] (fun v H'=>∃(A0':Option Addr) (c1':Nat),v=.tuple #[.slice A0' ((r.1).length) c1',A.i r.2]∧H'=[(0,.sh A.TI [.slice A0' (r.1).length c1'] r.1)]∧A.h6 r.2):=by
 refine A.Ct.enterM Tryd.func17 rfl Tryd.ntmps17 rfl fun w0 F0=>?_;rw[F.aJ]at hF;refine A.xl 1 ?_;refine A.AL.box 6 (cs:=[.slice A0_ ((a0).length) c1_]) fun g1=>?_;refine A.AL.box 7 (cs:=[.slice A2_ ((a1.1).length) c3_,.slice A4_ ((a1.2.1).length) c5_,.slice A6_ ((a1.2.2).length) c7_]) fun g2=>?_;refine A.q0 [] [] [.n,.n] [] (A.dl 2 ?_);refine A.q0 [6,7] [] [.b 0 0,.b 1 0] [(14,.agg #[.slice A0_ ((a0).length) c1_]),(15,.agg #[.slice A2_ ((a1.1).length) c3_,.slice A4_ ((a1.2.1).length) c5_,.slice A6_ ((a1.2.2).length) c7_])] ?_;obtain⟨r3,hv4,hF⟩:=A.bd_some hF;refine A.AL.call 8 [] (first:=[]) (cap:=[]) cf18 (o_p a0 a1 A0_ c1_ A2_ c3_ A4_ c5_ A6_ c7_ r3 hv4) (.s 0 (.s 1 (.s 2 (.s 3 (.s 4 (.s 5 .nil)))))) ?_;rintro _ _ ⟨A5,c6,rfl,rfl,hr7⟩;refine⟨by kernel_rfl,?_⟩;refine A.q0 [] [] [.n,.n,.n] [(17,.agg #[.slice A5 ((r3.1).length) c6]),(18,A.i r3.2)] ?_;refine A.AL.alloc 48 (cs:=[.slice none 0 0]) Tryd.zeroValue24 fun g8=>?_;refine A.sw 48 [] [.slice A5 ((r3.1).length) c6] ?_;refine A.q0 [] [] [.n] [(7,A.i r3.2)] (A.dl 3 ?_);refine A.q0 [] [] [.n,.n] [(20,.bool (decide (r3.2≠0)))] (A.dx 1 ?_);refine A.AX.cnd rfl hF ?_ ?_<;>intro hb hF
 ·refine A.xl 1 ?_;refine A.q0 [] [] [.n,.n,.n] [(4,.slice none 0 0),(5,A.i r3.2)] (A.dx 1 ?_);obtain rfl:=A.si hF;refine A.snil 49 A.ti ?_;exact A.AX.rtM (Ds:=[]) [] [(0,49)] (.tuple #[.slice none 0 0,A.i r3.2]) (trivial) (fun a w hf hh=>Z.resv2 rfl (Z.rv_t hf rfl) (Z.rv_t hf rfl)) (⟨none,0,rfl,rfl,hr7⟩)
 refine A.xl 3 ?_;refine A.AL.mkm 50 Int (fun i:Int=>A.i i) Z.Ty.bool false fun b9=>?_;refine A.AL.alloc 51 (cs:=[.map none]) Tryd.zeroValue78 fun g10=>?_;refine A.sw 51 [] [.map (some b9)] ?_;refine A.dl 3 ?_;refine A.q0 [7] [] [.n,.b 0 1] [(24,.slice A4_ ((a1.2.1).length) c5_)] ?_;obtain⟨r11,hv12,hF⟩:=A.bd_some hF;refine A.AL.call 52 [] (first:=[]) (cap:=[]) cf32 (o_s a1.2.1 A4_ c5_ r11 hv12) (.l 2 .nil) ?_;rintro _ _ ⟨A13,c14,rfl,rfl⟩;refine⟨by kernel_rfl,?_⟩;refine A.frz 52 [] ?_;obtain⟨r15,hv16,hF⟩:=A.bd_some hF;refine A.AL.call 92 [] (first:=[]) (cap:=[]) cf31 (o_aL r11 A13 c14 r15 hv16) (.s 52 .nil) ?_;rintro _ _ ⟨g17,A18,c19,rfl,rfl⟩;refine⟨by kernel_rfl,?_⟩;refine A.dx 2 ?_;obtain⟨xs20,hv21,hF⟩:=A.bd_some hF;refine A.AX.rgf 132 133 134 [4,5,8,48,51,92,93] [50,4,5,8,48,51,92,93] [133,132,50,4,5,8,48,51,92,93] (fun k nh=>∃(m32:List (Int×Bool)),nh=[(50,.mp Int (fun i:Int=>A.i i) Z.Ty.bool false b9 m32)]∧F.aw r3 (List.drop k xs20) m32=some r) [(50,.mp Int (fun i:Int=>A.i i) Z.Ty.bool false b9 [])] cf49 (o_al r15 g17 A18 c19 xs20 hv21) (fun _=>rfl) ⟨[],rfl,hF⟩ ?_ ?_ ?_
 ·rintro k28 _ D22 L23 ⟨m32,rfl,hF⟩;exact⟨⟨_,(.b 92 (.s 93 .nil))⟩,rfl,fun o=>rfl⟩
 ·rintro k28 _ y29 D22 L23 w27 o24 ⟨m32,rfl,hF⟩ hx30 hxo31 hh26;rw[A.drop_at hx30,F.aw]at hF
  refine A.xl 0 ?_;refine A.q0 [] [] [.n] [(9,A.i y29)] (A.AL.done ?_);refine A.AE.flip 132 133 fun o25=>?_;refine A.xl 1 ?_;refine A.q0 [51] [] [.b 0 0,.n] [(28,.map (some b9)),(29,A.i y29)] ?_;refine A.AL.mup (t:=Z.Ty.bool) 50 [] (cs:=[.bool true]) (u:=true) ky3 y29 rfl ?_;refine A.de 1 ?_;exact A.AE.bn hh26 [133,132,50,8,48,51,92,93] 100000 [(133,100133),(132,100132),(50,100050),(4,4),(5,5),(8,100008),(48,100048),(51,100051),(92,100092),(93,100093)] [(50,.mp Int (fun i:Int=>A.i i) Z.Ty.bool false b9 (Z.mins m32 y29 true))] ⟨(Z.mins m32 y29 true),rfl,hF⟩ rfl rfl
 rintro _ D22 L23 ⟨m32,rfl,hF⟩;rw[List.drop_length,F.aw]at hF
 refine A.el 4 ?_;refine A.q0 [] [] [.n] [(10,.bool true)] (A.dx 2 ?_);refine A.lp_ [6,8] [4,5,8,48,51,132] (fun f nl nh=>∃(m33:List (Int×Bool)),∃(y34:Bool),nl=[(10,.bool y34)]∧nh=[(50,.mp Int (fun i:Int=>A.i i) Z.Ty.bool false b9 m33)]∧F.aa r3 f m33 y34=some r) ⟨m32,true,rfl,rfl,hF⟩ ?_;rintro f35 _ _ ⟨m33,y34,rfl,rfl,hF⟩;rcases f35 with _|f35
 ·exact A.no0 hF
 rw[F.aa]at hF;refine A.xl 2 ?_;refine A.q0 [] [] [.n] [(30,.bool y34)] (A.dx 1 ?_);refine A.AX.cnb rfl hF ?_ ?_<;>intro hb hF
 ·refine A.xl 4 ?_;refine A.q0 [] [] [.n] [(10,.bool false)] (A.dl 2 ?_);refine A.q0 [48] [] [.n,.b 0 0,.n,.n] [(32,.slice A5 ((r3.1).length) c6),(33,A.i ((r3.1).length:Int)),(34,A.i 0)] (A.dx 2 ?_);refine A.lp_ [6,8,32,33] [4,5,8,48,51,132] (fun f nl nh=>∃(m36:List (Int×Bool)),∃(y37:Bool),∃(y38:Int),nl=[(10,.bool y37),(34,A.i y38)]∧nh=[(50,.mp Int (fun i:Int=>A.i i) Z.Ty.bool false b9 m36)]∧A.h6 y38∧F.z (F.aa r3 f35) r3 f m36 y37 y38=some r) ⟨m33,false,0,rfl,rfl,(A.hasl .i64 (0) rfl),hF⟩ ?_;rintro f40 _ _ ⟨m36,y37,y38,rfl,rfl,hy39,hF⟩;rcases f40 with _|f40
  ·exact A.no0 hF
  rw[F.z]at hF;refine A.xl 1 ?_;refine A.q0 [] [] [.n] [(35,.bool (decide (y38<((r3.1).length:Int))))] (A.dx 2 ?_);refine A.AX.cnd rfl hF ?_ ?_<;>intro hb hF
  ·refine A.xx 2 ?_;refine A.AX.join [6,8,32,33,34] [4,5,8,48,51,132] (fun nl nh=>∃(m42:List (Int×Bool)),∃(y43:Bool),nl=[(10,.bool y43)]∧nh=[(50,.mp Int (fun i:Int=>A.i i) Z.Ty.bool false b9 m42)]∧F.bz (F.z (F.aa r3 f35) r3 f40) y38 m42 y43=some r) ?_ ?_
   ·refine A.xl 2 ?_;obtain⟨x45,hv46,hF⟩:=A.bd_some hF;refine A.AL.ixs 8 567 hv46 fun ho47=>?_;intro A48 c49 b50 o51;refine A.q0 [] [567] [.e 0 0] [(37,.agg #[A.i x45.1,A.i x45.2.1,.slice A48 ((x45.2.2.1).length) c49,A.i x45.2.2.2.1.1,A.i x45.2.2.2.1.2.1,.string x45.2.2.2.1.2.2,.string x45.2.2.2.2.1,A.i x45.2.2.2.2.2.1,A.i x45.2.2.2.2.2.2])] ?_;refine A.AL.alloc 569 (cs:=[A.i 0,A.i 0,.slice none 0 0,A.i 0,A.i 0,.string (ByteArray.mk #[]),.string (ByteArray.mk #[]),A.i 0,A.i 0]) Tryd.zeroValue58 fun g52=>?_;refine A.sw 569 [] [A.i x45.1,A.i x45.2.1,.slice A48 ((x45.2.2.1).length) c49,A.i x45.2.2.2.1.1,A.i x45.2.2.2.1.2.1,.string x45.2.2.2.1.2.2,.string x45.2.2.2.2.1,A.i x45.2.2.2.2.2.1,A.i x45.2.2.2.2.2.2] ?_;refine A.dx 1 ?_;refine A.AX.join [6,8,10,12,32,33,34] [4,5,8,48,50,51,132,568,569] (fun nl nh=>∃(y53:Bool),nl=[(48,.bool y53)]∧nh=[]∧F.bA (F.z (F.aa r3 f35) r3 f40) m36 y37 y38 x45 y53=some r) ?_ ?_
    ·refine A.xl 0 ?_;refine A.q0 [51,569] [] [.b 0 0,.n,.b 1 0] [(38,.map (some b9)),(40,A.i x45.1)] ?_;obtain⟨x54,hv55,hF⟩:=A.lt_some hF;refine A.AL.lku (t:=Z.Ty.bool) 50 570 (z:=(false:Bool)) (zs:=[.bool false]) ky3 x45.1 Tryd.zeroValue4 rfl hv55 fun ho56=>?_;refine A.q0 [] [] [.n,.n] [(43,.bool (!x54))] ?_;refine A.AL.cnd (j:=43) rfl hF (fun hF=>?_) (fun hF=>?_)
     ·refine A.q0 [569] [] [.on .n,.on (.b 0 2),.on .n] [(45,.slice A48 ((x45.2.2.1).length) c49),(46,.func (.func 34) #[] #[.pointer (some ⟨g10,0,none⟩)])] ?_;refine A.AL.on (dj:=43) rfl rfl ?_;obtain⟨r57,hv58,hF⟩:=A.bd_some hF;refine A.AL.call 571 [] (first:=[]) (cap:=[]) cf33 (o_f x45.2.2.1 m36 A48 c49 g10 b9 r57 hv58) (.l 568 (.b 51 (.lm 50 .nil))) ?_;rintro _ _ ⟨rfl,rfl⟩;refine⟨by kernel_rfl,?_⟩;refine A.q0 [] [] [.n] [(48,.bool r57)] (A.AL.done ?_);exact A.j ⟨r57,rfl,rfl,hF⟩
     refine A.q0 [] [] [.off,.off,.off,.off,.n] [(48,.bool false)] (A.AL.done ?_);exact A.j ⟨false,rfl,rfl,hF⟩
    rintro _ _ ⟨y53,rfl,rfl,hF⟩;rw[F.bA]at hF;refine A.AX.cnb rfl hF ?_ ?_<;>intro hb hF
    ·refine A.xl 0 ?_;refine A.q0 [51,569] [] [.b 0 0,.n,.b 1 0] [(49,.map (some b9)),(51,A.i x45.1)] ?_;refine A.AL.mup (t:=Z.Ty.bool) 50 [] (cs:=[.bool true]) (u:=true) ky3 x45.1 rfl ?_;refine A.q0 [] [] [.n] [(10,.bool true)] (A.de 1 ?_);exact A.j ⟨(Z.mins m36 x45.1 true),true,rfl,rfl,hF⟩
    refine A.xe 2 ?_;exact A.j ⟨m36,y37,rfl,rfl,hF⟩
   rintro _ _ ⟨m42,y43,rfl,rfl,hF⟩;rw[F.bz]at hF;refine A.xl 0 ?_;obtain⟨hc44,hF⟩:=A.gd_some hF;refine A.q [] [] [.n,.n] [Z.R64 (y38+1)] [(34,A.i (y38+1))] hc44 (A.AL.done ?_);exact A.j ⟨_,Nat.lt_succ_self _,⟨m42,y43,(y38+1),rfl,rfl,(Z.i64_has hc44),hF⟩⟩
  refine A.xe 2 ?_;exact A.j ⟨_,Nat.lt_succ_self _,⟨m36,y37,rfl,rfl,hF⟩⟩
 refine A.xl 3 ?_;refine A.q0 [48] [] [.n,.b 0 0] [(54,.slice A5 ((r3.1).length) c6)] ?_;obtain⟨r59,hv60,hF⟩:=A.bd_some hF;refine A.AL.call 611 [] (first:=[]) (cap:=[]) cf32 (o_s r3.1 A5 c6 r59 hv60) (.l 8 .nil) ?_;rintro _ _ ⟨A61,c62,rfl,rfl⟩;refine⟨by kernel_rfl,?_⟩;refine A.q0 [] [] [.n] [(56,.func (.func 36) #[] #[.pointer (some ⟨g10,0,none⟩)])] ?_;obtain⟨r63,hv64,hF⟩:=A.bd_some hF;refine A.AL.call 651 [] (first:=[]) (cap:=[]) cf35 (o_g r59 m33 A61 c62 g10 b9 r63 hv64) (.m 611 (.b 51 (.lm 50 .nil))) ?_;rintro _ _ ⟨A65,c66,rfl,rfl⟩;refine⟨by kernel_rfl,?_⟩;refine A.q0 [] [] [.n,.n] [(4,.slice A65 ((r63).length) c66),(5,A.i 0)] (A.dx 1 ?_);obtain rfl:=A.si hF;exact A.AX.rtM (Ds:=[D22]) [132] [(0,651)] (.tuple #[.slice A65 ((r63).length) c66,A.i 0]) (⟨rfl,trivial⟩) (fun a w hf hh=>Z.resv2 rfl (Z.rv_t hf rfl) (Z.rv_t hf rfl)) (⟨A65,c66,rfl,rfl,(A.hasl .i64 (0) rfl)⟩)
def F.a4 (a0:(List Int))(a1:(List Int)):Nat→Int→Option Bool
 |0,_=>none
 |f+1,y1=>if y1<((a0).length:Int)then((A.ix a0 y1).bind fun x4=>((A.ix a1 y1).bind fun x10=>(if x4≠x10 then(some false)else(A.gd (Z.R64 (y1+1)) ((F.a4 a0 a1 f) (y1+1))))))else(some true)
def F.b0 (a0:(List Int))(a1:(List Int)):Option Bool:=if((a0).length:Int)≠((a1).length:Int)then(some false)else(F.a4 a0 a1 A.FU 0)
theorem o_w (a0:(List Int))(a1:(List Int))(A0_:Option Addr)(c1_:Nat)(A2_:Option Addr)(c3_:Nat)(r:Bool)(hF:F.b0 a0 a1=some r):
    A.Ct Tryd.prog 30 [.slice A0_ ((a0).length) c1_,.slice A2_ ((a1).length) c3_] [(0,.ln A.ti A0_ c1_ a0),(1,.ln A.ti A2_ c3_ a1)] [] (fun v H'=>v=.bool r∧H'=[]):=by
 refine A.Ct.enter Tryd.func30 rfl Tryd.ntmps30 rfl fun w0 F0=>?_;rw[F.b0]at hF;refine A.xl 1 ?_;refine A.q0 [] [] [.n] [] (A.dl 3 ?_);refine A.q0 [] [] [.n,.n,.n,.n,.n] [(10,.bool (decide (((a0).length:Int)≠((a1).length:Int))))] (A.dx 1 ?_);refine A.AX.cnd rfl hF ?_ ?_<;>intro hb hF
 ·refine A.xl 1 ?_;refine A.q0 [] [] [.n] [(4,.bool false)] (A.dx 1 ?_);obtain rfl:=A.si hF;exact A.rt1 [] ⟨rfl,rfl⟩
 refine A.xl 4 ?_;refine A.q0 [] [] [.n,.n,.n] [(12,A.i ((a0).length:Int)),(13,A.i 0)] (A.dx 2 ?_);refine A.lp_ [0,1,12] [0,1] (fun f nl nh=>∃(y1:Int),nl=[(13,A.i y1)]∧nh=[]∧A.h6 y1∧F.a4 a0 a1 f y1=some r) ⟨0,rfl,rfl,(A.hasl .i64 (0) rfl),hF⟩ ?_;rintro f3 _ _ ⟨y1,rfl,rfl,hy2,hF⟩;rcases f3 with _|f3
 ·exact A.no0 hF
 rw[F.a4]at hF;refine A.xl 1 ?_;refine A.q0 [] [] [.n] [(14,.bool (decide (y1<((a0).length:Int))))] (A.dx 2 ?_);refine A.AX.cnd rfl hF ?_ ?_<;>intro hb hF
 ·refine A.xl 5 ?_;refine A.q0 [] [] [.n,.n] [(5,A.i y1)] (A.dx 2 ?_);refine A.AX.dr mixed 9 9 (A.mb 9 0) ?_;refine A.hq A.pb [] [0,1] [] [] (A.mb 9 51) 5 [(0,.n),(1,.n),(4,.n),(5,.n)] [(16,.slice A0_ ((a0).length) c1_),(17,A.i y1),(20,.slice A2_ ((a1).length) c3_),(21,A.i y1)] ?_;obtain⟨x4,hv5,hF⟩:=A.bd_some hF;refine A.AH.pkl 0 6 hv5 fun ho6=>?_;intro b8 o9 hA7;refine A.AH.v A.pb [0,1] [0,1,6] 2 (A.mb 9 55) rfl (fun a w hf hh=>A.r_ixa (t:=A.ti) hv5 hA7 hf) ?_;refine A.hq A.pb [0,1,6] [0,1,6] [] [6] (A.mb 9 63) 3 [(3,.e 0 0)] [(19,A.i x4)] ?_;obtain⟨x10,hv11,hF⟩:=A.bd_some hF;refine A.AH.pkl 1 7 hv11 fun ho12=>?_;intro b14 o15 hA13;refine A.AH.v A.pb [0,1,6] [0,1,6,7] 6 (A.mb 9 127) rfl (fun a w hf hh=>A.r_ixa (t:=A.ti) hv11 hA13 hf) ?_;refine A.hq A.pb [0,1,6,7] [0,1,6,7] [] [7] (A.mb 9 511) 0 [(7,.e 0 0),(8,.n)] [(24,.bool (decide (x4≠x10)))] (A.AH.done ?_);refine A.ex 1 ?_;refine A.AX.cnd rfl hF ?_ ?_<;>intro hb hF
  ·refine A.xl 1 ?_;refine A.q0 [] [] [.n] [(4,.bool false)] (A.dx 1 ?_);obtain rfl:=A.si hF;exact A.rt1 [] ⟨rfl,rfl⟩
  refine A.xl 3 ?_;obtain⟨hc16,hF⟩:=A.gd_some hF;refine A.q [] [] [.n,.n] [Z.R64 (y1+1)] [(13,A.i (y1+1))] hc16 (A.AL.done ?_);exact A.j ⟨_,Nat.lt_succ_self _,⟨(y1+1),rfl,rfl,(Z.i64_has hc16),hF⟩⟩
 refine A.xl 3 ?_;refine A.q0 [] [] [.n] [(4,.bool true)] (A.dx 1 ?_);obtain rfl:=A.si hF;exact A.rt1 [] ⟨rfl,rfl⟩
def F.cN (y19:Bool):Option Bool:=some y19
def F.d6:Option Bool:=(F.aJ [(1,1,[],(0,0,ByteArray.mk #[]),ByteArray.mk #[105,110],0,0),(2,5,[1,1],(0,0,ByteArray.mk #[]),ByteArray.mk #[],0,0),(3,15,[2],(0,0,ByteArray.mk #[]),ByteArray.mk #[111,117,116],0,0)] ([],[(2,10,[1],(0,0,ByteArray.mk #[]),ByteArray.mk #[],0,0)],[])).bind fun r8=>((F.ay [(1,1,[],(0,0,ByteArray.mk #[]),ByteArray.mk #[105,110],0,0),(2,5,[1,1],(0,0,ByteArray.mk #[]),ByteArray.mk #[],0,0),(3,15,[2],(0,0,ByteArray.mk #[]),ByteArray.mk #[111,117,116],0,0)] ([],[(2,10,[1],(0,0,ByteArray.mk #[]),ByteArray.mk #[],0,0)],[])).bind fun r13=>(if(bif decide (r8.2=0)then decide (r13.2=0)else false)=true then((F.b0 r8.1 [2,3]).bind fun r21=>(if(bif r21 then decide (((r13.1).length:Int)=3)else false)=true then((A.ix r13.1 1).bind fun x23=>(F.cN (decide (x23.2.1=10))))else(F.cN false)))else(F.cN false)))
theorem o_aV (r:Bool)(hF:F.d6=some r):
    A.Ct Tryd.prog 14 [] [(0,.el none 0 0 A.tabF),(1,.el none 1 0 A.tabA)] [] (fun v H'=>v=.bool r∧H'=[]):=by
 refine A.Ct.enter Tryd.func14 rfl Tryd.ntmps14 rfl fun w0 F0=>?_;rw[F.d6]at hF;refine A.xl 1 ?_;refine A.q0 [] [] [.n] [] (A.dl 2 ?_);refine A.q0 [] [] [.n] [(7,.agg #[A.i 1,A.i 1,.slice none 0 0,A.i 0,A.i 0,.string (ByteArray.mk #[]),.string (ByteArray.mk #[105,110]),A.i 0,A.i 0])] ?_;refine A.AL.bsl 2 (ty:=A.ti) (cs:=[A.i 1,A.i 1]) [1,1] ⟨⟨rfl,(A.hasl .i64 (1) rfl)⟩,⟨⟨rfl,(A.hasl .i64 (1) rfl)⟩,rfl⟩⟩ (fun g1=>?_) Tryd.zeroValue3 Tryd.sizeOf3
 refine A.q0 [] [] [.n] [(9,.agg #[A.i 2,A.i 5,.slice (some ⟨g1,0,none⟩) 2 2,A.i 0,A.i 0,.string (ByteArray.mk #[]),.string (ByteArray.mk #[]),A.i 0,A.i 0])] ?_;refine A.AL.bsl 3 (ty:=A.ti) (cs:=[A.i 2]) [2] ⟨⟨rfl,(A.hasl .i64 (2) rfl)⟩,rfl⟩ (fun g2=>?_) Tryd.zeroValue3 Tryd.sizeOf3
 refine A.q0 [] [] [.n] [(11,.agg #[A.i 3,A.i 15,.slice (some ⟨g2,0,none⟩) 1 1,A.i 0,A.i 0,.string (ByteArray.mk #[]),.string (ByteArray.mk #[111,117,116]),A.i 0,A.i 0])] ?_;refine A.frz 2 [] ?_;refine A.frz 3 [] ?_;refine A.AL.bsl 4 (ty:=T57) (cs:=[A.i 1,A.i 1,.slice none 0 0,A.i 0,A.i 0,.string (ByteArray.mk #[]),.string (ByteArray.mk #[105,110]),A.i 0,A.i 0,A.i 2,A.i 5,.slice (some ⟨g1,0,none⟩) 2 2,A.i 0,A.i 0,.string (ByteArray.mk #[]),.string (ByteArray.mk #[]),A.i 0,A.i 0,A.i 3,A.i 15,.slice (some ⟨g2,0,none⟩) 1 1,A.i 0,A.i 0,.string (ByteArray.mk #[]),.string (ByteArray.mk #[111,117,116]),A.i 0,A.i 0]) [(1,1,[],(0,0,ByteArray.mk #[]),ByteArray.mk #[105,110],0,0),(2,5,[1,1],(0,0,ByteArray.mk #[]),ByteArray.mk #[],0,0),(3,15,[2],(0,0,ByteArray.mk #[]),ByteArray.mk #[111,117,116],0,0)] ⟨⟨⟨rfl,(A.hasl .i64 (1) rfl)⟩,⟨rfl,(A.hasl .i64 (1) rfl)⟩,.inr ⟨rfl,rfl⟩,⟨⟨rfl,(A.hasl .i64 (0) rfl)⟩,⟨rfl,(A.hasl .i64 (0) rfl)⟩,⟨rfl,(A.szl (ByteArray.mk #[]) rfl)⟩⟩,⟨rfl,(A.szl (ByteArray.mk #[105,110]) rfl)⟩,⟨rfl,(A.hasl .i64 (0) rfl)⟩,⟨rfl,(A.hasl .i64 (0) rfl)⟩⟩,⟨⟨⟨rfl,(A.hasl .i64 (2) rfl)⟩,⟨rfl,(A.hasl .i64 (5) rfl)⟩,.inl ⟨2,rfl⟩,⟨⟨rfl,(A.hasl .i64 (0) rfl)⟩,⟨rfl,(A.hasl .i64 (0) rfl)⟩,⟨rfl,(A.szl (ByteArray.mk #[]) rfl)⟩⟩,⟨rfl,(A.szl (ByteArray.mk #[]) rfl)⟩,⟨rfl,(A.hasl .i64 (0) rfl)⟩,⟨rfl,(A.hasl .i64 (0) rfl)⟩⟩,⟨⟨⟨rfl,(A.hasl .i64 (3) rfl)⟩,⟨rfl,(A.hasl .i64 (15) rfl)⟩,.inl ⟨3,rfl⟩,⟨⟨rfl,(A.hasl .i64 (0) rfl)⟩,⟨rfl,(A.hasl .i64 (0) rfl)⟩,⟨rfl,(A.szl (ByteArray.mk #[]) rfl)⟩⟩,⟨rfl,(A.szl (ByteArray.mk #[111,117,116]) rfl)⟩,⟨rfl,(A.hasl .i64 (0) rfl)⟩,⟨rfl,(A.hasl .i64 (0) rfl)⟩⟩,rfl⟩⟩⟩ (fun g3=>?_) Tryd.zeroValue58 Tryd.sizeOf58
 refine A.q0 [] [] [.n] [(13,.agg #[.slice (some ⟨g3,0,none⟩) 3 3])] ?_;refine A.AL.alloc 5 (cs:=[.slice none 0 0]) Tryd.zeroValue24 fun g4=>?_;refine A.sw 5 [] [.slice (some ⟨g3,0,none⟩) 3 3] ?_;refine A.dl 2 ?_;refine A.AL.bsl 6 (ty:=A.ti) (cs:=[A.i 1]) [1] ⟨⟨rfl,(A.hasl .i64 (1) rfl)⟩,rfl⟩ (fun g5=>?_) Tryd.zeroValue3 Tryd.sizeOf3
 refine A.q0 [] [] [.n] [(15,.agg #[A.i 2,A.i 10,.slice (some ⟨g5,0,none⟩) 1 1,A.i 0,A.i 0,.string (ByteArray.mk #[]),.string (ByteArray.mk #[]),A.i 0,A.i 0])] ?_;refine A.frz 6 [] ?_;refine A.AL.bsl 7 (ty:=T57) (cs:=[A.i 2,A.i 10,.slice (some ⟨g5,0,none⟩) 1 1,A.i 0,A.i 0,.string (ByteArray.mk #[]),.string (ByteArray.mk #[]),A.i 0,A.i 0]) [(2,10,[1],(0,0,ByteArray.mk #[]),ByteArray.mk #[],0,0)] ⟨⟨⟨rfl,(A.hasl .i64 (2) rfl)⟩,⟨rfl,(A.hasl .i64 (10) rfl)⟩,.inl ⟨6,rfl⟩,⟨⟨rfl,(A.hasl .i64 (0) rfl)⟩,⟨rfl,(A.hasl .i64 (0) rfl)⟩,⟨rfl,(A.szl (ByteArray.mk #[]) rfl)⟩⟩,⟨rfl,(A.szl (ByteArray.mk #[]) rfl)⟩,⟨rfl,(A.hasl .i64 (0) rfl)⟩,⟨rfl,(A.hasl .i64 (0) rfl)⟩⟩,rfl⟩ (fun g6=>?_) Tryd.zeroValue58 Tryd.sizeOf58
 refine A.q0 [] [] [.n] [(17,.agg #[.slice none 0 0,.slice (some ⟨g6,0,none⟩) 1 1,.slice none 0 0])] ?_;refine A.AL.alloc 8 (cs:=[.slice none 0 0,.slice none 0 0,.slice none 0 0]) Tryd.zeroValue31 fun g7=>?_;refine A.sw 8 [] [.slice none 0 0,.slice (some ⟨g6,0,none⟩) 1 1,.slice none 0 0] ?_;refine A.dl 2 ?_;refine A.q0 [5,8] [] [.b 0 0,.b 1 0] [(19,.agg #[.slice (some ⟨g3,0,none⟩) 3 3]),(20,.agg #[.slice none 0 0,.slice (some ⟨g6,0,none⟩) 1 1,.slice none 0 0])] ?_;refine A.frz 4 [] ?_;refine A.frz 7 [] ?_;obtain⟨r8,hv9,hF⟩:=A.bd_some hF;refine A.AL.call 9 [] (first:=[]) (cap:=[]) cf17 (o_t [(1,1,[],(0,0,ByteArray.mk #[]),ByteArray.mk #[105,110],0,0),(2,5,[1,1],(0,0,ByteArray.mk #[]),ByteArray.mk #[],0,0),(3,15,[2],(0,0,ByteArray.mk #[]),ByteArray.mk #[111,117,116],0,0)] ([],[(2,10,[1],(0,0,ByteArray.mk #[]),ByteArray.mk #[],0,0)],[]) (some ⟨g3,0,none⟩) 3 none 0 (some ⟨g6,0,none⟩) 1 none 0 r8 hv9) (.s 4 (.ns (.s 7 (.ns (.s 0 (.s 1 .nil)))))) ?_;rintro _ _ ⟨A10,c11,rfl,rfl,hr12⟩;refine⟨by kernel_rfl,?_⟩;refine A.q0 [] [] [.n,.n,.n,.n,.n] [(3,.slice A10 ((r8.1).length) c11),(4,A.i r8.2)] (A.dl 2 ?_);refine A.q0 [5,8] [] [.b 0 0,.b 1 0] [(25,.agg #[.slice (some ⟨g3,0,none⟩) 3 3]),(26,.agg #[.slice none 0 0,.slice (some ⟨g6,0,none⟩) 1 1,.slice none 0 0])] ?_;obtain⟨r13,hv14,hF⟩:=A.bd_some hF;refine A.AL.call 49 [] (first:=[]) (cap:=[]) cf18 (o_p [(1,1,[],(0,0,ByteArray.mk #[]),ByteArray.mk #[105,110],0,0),(2,5,[1,1],(0,0,ByteArray.mk #[]),ByteArray.mk #[],0,0),(3,15,[2],(0,0,ByteArray.mk #[]),ByteArray.mk #[111,117,116],0,0)] ([],[(2,10,[1],(0,0,ByteArray.mk #[]),ByteArray.mk #[],0,0)],[]) (some ⟨g3,0,none⟩) 3 none 0 (some ⟨g6,0,none⟩) 1 none 0 r13 hv14) (.s 4 (.ns (.s 7 (.ns (.s 0 (.s 1 .nil)))))) ?_;rintro _ _ ⟨A15,c16,rfl,rfl,hr17⟩;refine⟨by kernel_rfl,?_⟩;refine A.q0 [] [] [.n,.n,.n] [(28,.agg #[.slice A15 ((r13.1).length) c16]),(29,A.i r13.2)] ?_;refine A.AL.alloc 89 (cs:=[.slice none 0 0]) Tryd.zeroValue24 fun g18=>?_;refine A.sw 89 [] [.slice A15 ((r13.1).length) c16] ?_;refine A.q0 [] [] [.n] [(6,A.i r13.2)] (A.dx 1 ?_);refine A.AX.join [] [0,1] (fun nl nh=>∃(y19:Bool),nl=[(0,.bool y19)]∧nh=[]∧F.cN y19=some r) ?_ ?_
 ·refine A.xl 0 ?_;refine A.q0 [] [] [.n,.n,.n,.sy .n,.sy .n,.pk,.n] [(36,.bool (bif decide (r8.2=0)then decide (r13.2=0)else false))] ?_;refine A.AL.cnd (j:=36) rfl hF (fun hF=>?_) (fun hF=>?_)
  ·refine A.q0 [] [] [.on .n] [(37,.slice A10 ((r8.1).length) c11)] ?_;refine A.AL.on (dj:=36) rfl rfl ?_;refine A.AL.bsl 90 (ty:=A.ti) (cs:=[A.i 2,A.i 3]) [2,3] ⟨⟨rfl,(A.hasl .i64 (2) rfl)⟩,⟨⟨rfl,(A.hasl .i64 (3) rfl)⟩,rfl⟩⟩ (fun g20=>?_) Tryd.zeroValue3 Tryd.sizeOf3
   refine A.AL.on (dj:=36) rfl rfl ?_;obtain⟨r21,hv22,hF⟩:=A.bd_some hF;refine A.AL.call 91 [] (first:=[]) (cap:=[]) cf30 (o_w r8.1 [2,3] A10 c11 (some ⟨g20,0,none⟩) 2 r21 hv22) (.l 9 (.o 90 .nil)) ?_;rintro _ _ ⟨rfl,rfl⟩;refine⟨by kernel_rfl,?_⟩;refine A.q0 [89] [] [.n,.n,.sy .n,.sy (.b 0 0),.sy .n,.sy .n,.pk,.n] [(47,.bool (bif r21 then decide (((r13.1).length:Int)=3)else false))] ?_;refine A.AL.cnd (j:=47) rfl hF (fun hF=>?_) (fun hF=>?_)
   ·refine A.q0 [89] [] [.on .n,.on (.b 0 0)] [(49,.slice A15 ((r13.1).length) c16)] ?_;refine A.AL.on (dj:=47) rfl rfl ?_;obtain⟨x23,hv24,hF⟩:=A.bd_some hF;refine A.AL.ixs 49 131 hv24 fun ho25=>?_;intro A26 c27 b28 o29;refine A.q0 [] [131] [.on .n,.on (.e 0 1),.on .n,.n,.n] [(0,.bool (decide (x23.2.1=10)))] (A.AL.done ?_);exact A.j ⟨(decide (x23.2.1=10)),rfl,rfl,hF⟩
   refine A.q0 [] [] [.off,.off,.off,.off,.off,.off,.n,.n] [(0,.bool false)] (A.AL.done ?_);exact A.j ⟨false,rfl,rfl,hF⟩
  refine A.q0 [] [] [.off,.off,.off,.n,.n,.off,.off,.off,.off,.n,.n,.off,.off,.off,.off,.off,.off,.n,.n] [(0,.bool false)] (A.AL.done ?_);exact A.j ⟨false,rfl,rfl,hF⟩
 rintro _ _ ⟨y19,rfl,rfl,hF⟩;rw[F.cN]at hF;obtain rfl:=A.si hF;exact A.rt1 [] ⟨rfl,rfl⟩
def F.bH (k3:Int→Option Bool)(y1:Int)(x4:(List D57)):Nat→Int→Option Bool
 |0,_=>none
 |f+1,y11=>if y11<((x4).length:Int)then((A.ix x4 y11).bind fun x14=>(if(bif bif decide ((20:Int)<((x14.2.2.1).length:Int))then true else decide ((300:Int)<(x14.2.2.2.2.1.size:Int))then true else decide ((300:Int)<(x14.2.2.2.1.2.2.size:Int)))=true then(some false)else(A.gd (Z.R64 (y11+1)) ((F.bH k3 y1 x4 f) (y11+1)))))else(A.gd (Z.R64 (y1+1)) (k3 (y1+1)))
def F.bI (a0:(List (List D57))):Nat→Int→Option Bool
 |0,_=>none
 |f+1,y1=>if y1<((a0).length:Int)then((A.ix a0 y1).bind fun x4=>(if(60:Int)<((x4).length:Int)then(some false)else(F.bH (F.bI a0 f) y1 x4 A.FU 0)))else(some true)
def F.d4 (a0:(List (List D57))):Option Bool:=F.bI a0 A.FU 0
theorem o_az (a0:(List (List D57)))(A0_:Option Addr)(c1_:Nat)(r:Bool)(hF:F.d4 a0=some r):
    A.Ct Tryd.prog 15 [.slice A0_ ((a0).length) c1_] [(0,.ln (Z.Ty.slice T57) A0_ c1_ a0)] [] (fun v H'=>v=.bool r∧H'=[]):=by
 refine A.Ct.enter Tryd.func15 rfl Tryd.ntmps15 rfl fun w0 F0=>?_;rw[F.d4]at hF;refine A.xl 1 ?_;refine A.q0 [] [] [.n] [] (A.dl 3 ?_);refine A.q0 [] [] [.n,.n,.n] [(7,.slice A0_ ((a0).length) c1_),(8,A.i ((a0).length:Int)),(9,A.i 0)] (A.dx 2 ?_);refine A.lp_ [7,8] [0] (fun f nl nh=>∃(y1:Int),nl=[(9,A.i y1)]∧nh=[]∧A.h6 y1∧F.bI a0 f y1=some r) ⟨0,rfl,rfl,(A.hasl .i64 (0) rfl),hF⟩ ?_;rintro f3 _ _ ⟨y1,rfl,rfl,hy2,hF⟩;rcases f3 with _|f3
 ·exact A.no0 hF
 rw[F.bI]at hF;refine A.xl 1 ?_;refine A.q0 [] [] [.n] [(10,.bool (decide (y1<((a0).length:Int))))] (A.dx 2 ?_);refine A.AX.cnd rfl hF ?_ ?_<;>intro hb hF
 ·refine A.xl 5 ?_;obtain⟨x4,hv5,hF⟩:=A.bd_some hF;refine A.AL.ixl 0 23 hv5 fun ho6=>?_;intro A7 c8 b9 o10;refine A.q0 [] [23] [.e 0 0,.n] [(4,.slice A7 ((x4).length) c8)] (A.dl 3 ?_);refine A.q0 [] [] [.n,.n,.n] [(15,.bool (decide ((60:Int)<((x4).length:Int))))] (A.dx 1 ?_);refine A.AX.cnd rfl hF ?_ ?_<;>intro hb hF
  ·refine A.xl 1 ?_;refine A.q0 [] [] [.n] [(2,.bool false)] (A.dx 1 ?_);obtain rfl:=A.si hF;exact A.rt1 [] ⟨rfl,rfl⟩
  refine A.xl 3 ?_;refine A.q0 [] [] [.n,.n,.n] [(16,.slice A7 ((x4).length) c8),(17,A.i ((x4).length:Int)),(18,A.i 0)] (A.dx 2 ?_);refine A.lp_ [7,8,9,16,17] [0,24] (fun f nl nh=>∃(y11:Int),nl=[(18,A.i y11)]∧nh=[]∧A.h6 y11∧F.bH (F.bI a0 f3) y1 x4 f y11=some r) ⟨0,rfl,rfl,(A.hasl .i64 (0) rfl),hF⟩ ?_;rintro f13 _ _ ⟨y11,rfl,rfl,hy12,hF⟩;rcases f13 with _|f13
  ·exact A.no0 hF
  rw[F.bH]at hF;refine A.xl 1 ?_;refine A.q0 [] [] [.n] [(19,.bool (decide (y11<((x4).length:Int))))] (A.dx 2 ?_);refine A.AX.cnd rfl hF ?_ ?_<;>intro hb hF
  ·refine A.xl 5 ?_;obtain⟨x14,hv15,hF⟩:=A.bd_some hF;refine A.AL.ixs 24 31 hv15 fun ho16=>?_;intro A17 c18 b19 o20;refine A.q0 [] [31] [.e 0 0] [(21,.agg #[A.i x14.1,A.i x14.2.1,.slice A17 ((x14.2.2.1).length) c18,A.i x14.2.2.2.1.1,A.i x14.2.2.2.1.2.1,.string x14.2.2.2.1.2.2,.string x14.2.2.2.2.1,A.i x14.2.2.2.2.2.1,A.i x14.2.2.2.2.2.2])] ?_;refine A.AL.alloc 33 (cs:=[A.i 0,A.i 0,.slice none 0 0,A.i 0,A.i 0,.string (ByteArray.mk #[]),.string (ByteArray.mk #[]),A.i 0,A.i 0]) Tryd.zeroValue58 fun g21=>?_;refine A.sw 33 [] [A.i x14.1,A.i x14.2.1,.slice A17 ((x14.2.2.1).length) c18,A.i x14.2.2.2.1.1,A.i x14.2.2.2.1.2.1,.string x14.2.2.2.1.2.2,.string x14.2.2.2.2.1,A.i x14.2.2.2.2.2.1,A.i x14.2.2.2.2.2.2] ?_;refine A.dl 2 ?_;refine A.q0 [33] [] [.n,.b 0 2,.n,.n,.n,.sy .n,.sy (.b 0 6),.sy .n,.sy .n,.pk,.n,.sy .n,.sy .n,.sy (.b 0 5),.sy .n,.sy .n,.pk] [(38,.bool (bif bif decide ((20:Int)<((x14.2.2.1).length:Int))then true else decide ((300:Int)<(x14.2.2.2.2.1.size:Int))then true else decide ((300:Int)<(x14.2.2.2.1.2.2.size:Int))))] (A.dx 1 ?_);refine A.AX.cnb rfl hF ?_ ?_<;>intro hb hF
   ·refine A.xl 1 ?_;refine A.q0 [] [] [.n] [(2,.bool false)] (A.dx 1 ?_);obtain rfl:=A.si hF;exact A.rt1 [] ⟨rfl,rfl⟩
   refine A.xl 3 ?_;obtain⟨hc22,hF⟩:=A.gd_some hF;refine A.q [] [] [.n,.n] [Z.R64 (y11+1)] [(18,A.i (y11+1))] hc22 (A.AL.done ?_);exact A.j ⟨_,Nat.lt_succ_self _,⟨(y11+1),rfl,rfl,(Z.i64_has hc22),hF⟩⟩
  refine A.xl 3 ?_;obtain⟨hc23,hF⟩:=A.gd_some hF;refine A.q [] [] [.n,.n] [Z.R64 (y1+1)] [(9,A.i (y1+1))] hc23 (A.AL.done ?_);exact A.j ⟨_,Nat.lt_succ_self _,⟨(y1+1),rfl,rfl,(Z.i64_has hc23),hF⟩⟩
 refine A.xl 3 ?_;refine A.q0 [] [] [.n] [(2,.bool true)] (A.dx 1 ?_);obtain rfl:=A.si hF;exact A.rt1 [] ⟨rfl,rfl⟩
def F.dk (a0:D30):Option Bool:=(F.d4 [a0.2.1]).bind fun r3=>(some (bif bif r3 then decide (((a0.1).length:Int)≤60)else false then decide (((a0.2.2).length:Int)≤60)else false))
theorem o_aW (a0:D30)(A0_:Option Addr)(c1_:Nat)(A2_:Option Addr)(c3_:Nat)(A4_:Option Addr)(c5_:Nat)(r:Bool)(hF:F.dk a0=some r):
    A.Ct Tryd.prog 16 [.agg #[.slice A0_ ((a0.1).length) c1_,.slice A2_ ((a0.2.1).length) c3_,.slice A4_ ((a0.2.2).length) c5_]] [(0,.sh A.TI [.slice A0_ (a0.1).length c1_] a0.1),(1,.sh (.slice T57) [.slice A2_ (a0.2.1).length c3_] a0.2.1),(2,.sh (.slice T121) [.slice A4_ (a0.2.2).length c5_] a0.2.2)] [] (fun v H'=>v=.bool r∧H'=[]):=by
 refine A.Ct.enter Tryd.func16 rfl Tryd.ntmps16 rfl fun w0 F0=>?_;rw[F.dk]at hF;refine A.xl 1 ?_;refine A.AL.box 3 (cs:=[.slice A0_ ((a0.1).length) c1_,.slice A2_ ((a0.2.1).length) c3_,.slice A4_ ((a0.2.2).length) c5_]) fun g1=>?_;refine A.q0 [] [] [.n] [] (A.dl 2 ?_);refine A.q0 [3] [] [.n,.b 0 1] [(4,.slice A2_ ((a0.2.1).length) c3_)] ?_;refine A.AL.bsl 4 (ty:=(Z.Ty.slice T57)) (cs:=[.slice A2_ ((a0.2.1).length) c3_]) [a0.2.1] ⟨.inl ⟨1,rfl⟩,rfl⟩ (fun g2=>?_) Tryd.zeroValue22 Tryd.sizeOf22
 obtain⟨r3,hv4,hF⟩:=A.bd_some hF;refine A.AL.call 5 [] (first:=[]) (cap:=[]) cf15 (o_az [a0.2.1] (some ⟨g2,0,none⟩) 1 r3 hv4) (.o 4 .nil) ?_;rintro _ _ ⟨rfl,rfl⟩;refine⟨by kernel_rfl,?_⟩;refine A.q0 [3] [] [.n,.sy .n,.sy (.b 0 0),.sy .n,.sy .n,.pk,.n,.sy .n,.sy (.b 0 2),.sy .n,.sy .n,.pk,.n] [(2,.bool (bif bif r3 then decide (((a0.1).length:Int)≤60)else false then decide (((a0.2.2).length:Int)≤60)else false))] (A.dx 1 ?_);obtain rfl:=A.si hF;exact A.rt1 [] ⟨rfl,rfl⟩
def F.b1 (a0:D23)(a1:Int):Nat→Int→Option (D57×Bool)
 |0,_=>none
 |f+1,y3=>if y3<((a0).length:Int)then((A.ix a0 y3).bind fun x6=>(if x6.1=a1 then((A.ix a0 y3).bind fun x13=>(some (x13,true)))else(A.gd (Z.R64 (y3+1)) ((F.b1 a0 a1 f) (y3+1)))))else(some ((0,0,[],(0,0,ByteArray.mk #[]),ByteArray.mk #[],0,0),false))
def F.cG (a0:D23)(a1:Int):Option (D57×Bool):=F.b1 a0 a1 A.FU 0
theorem o_af (a0:D23)(a1:Int)(A0_:Option Addr)(c1_:Nat)(h2_:A.h6 a1)(r:D57×Bool)(hF:F.cG a0 a1=some r):
    A.Ct Tryd.prog 42 [.agg #[.slice A0_ ((a0).length) c1_],A.i a1] [(0,.sh (.slice T57) [.slice A0_ (a0).length c1_] a0)] [] (fun v H'=>∃(A0':Option Addr) (c1':Nat),v=.tuple #[.agg #[A.i r.1.1,A.i r.1.2.1,.slice A0' ((r.1.2.2.1).length) c1',A.i r.1.2.2.2.1.1,A.i r.1.2.2.2.1.2.1,.string r.1.2.2.2.1.2.2,.string r.1.2.2.2.2.1,A.i r.1.2.2.2.2.2.1,A.i r.1.2.2.2.2.2.2],.bool r.2]∧H'=[(0,.sh A.TI [.slice A0' (r.1.2.2.1).length c1'] r.1.2.2.1)]∧A.h6 r.1.1∧A.h6 r.1.2.1∧A.h6 r.1.2.2.2.1.1∧A.h6 r.1.2.2.2.1.2.1∧r.1.2.2.2.1.2.2.size≤maxLen∧r.1.2.2.2.2.1.size≤maxLen∧A.h6 r.1.2.2.2.2.2.1∧A.h6 r.1.2.2.2.2.2.2):=by
 refine A.Ct.enter Tryd.func42 rfl Tryd.ntmps42 rfl fun w0 F0=>?_;rw[F.cG]at hF;refine A.xl 1 ?_;refine A.AL.box 1 (cs:=[.slice A0_ ((a0).length) c1_]) fun g1=>?_;refine A.AL.alloc 2 (cs:=[A.i 0,A.i 0,.slice none 0 0,A.i 0,A.i 0,.string (ByteArray.mk #[]),.string (ByteArray.mk #[]),A.i 0,A.i 0]) Tryd.zeroValue58 fun g2=>?_;refine A.q0 [] [] [.n] [] (A.dl 3 ?_);refine A.q0 [] [] [.n] [(6,A.i 0)] (A.dx 2 ?_);refine A.lp_ [1,2,4] [0,1,2] (fun f nl nh=>∃(y3:Int),nl=[(6,A.i y3)]∧nh=[]∧A.h6 y3∧F.b1 a0 a1 f y3=some r) ⟨0,rfl,rfl,(A.hasl .i64 (0) rfl),hF⟩ ?_;rintro f5 _ _ ⟨y3,rfl,rfl,hy4,hF⟩;rcases f5 with _|f5
 ·exact A.no0 hF
 rw[F.b1]at hF;refine A.xl 2 ?_;refine A.q0 [1] [] [.n,.n,.b 0 0,.n,.n] [(11,.bool (decide (y3<((a0).length:Int))))] (A.dx 1 ?_);refine A.AX.cnd rfl hF ?_ ?_<;>intro hb hF
 ·refine A.xl 5 ?_;refine A.q0 [1] [] [.n,.b 0 0,.n] [(15,.slice A0_ ((a0).length) c1_),(16,A.i y3)] ?_;obtain⟨x6,hv7,hF⟩:=A.bd_some hF;refine A.AL.ixs 0 13 hv7 fun ho8=>?_;intro A9 c10 b11 o12;refine A.q0 [] [13] [.n,.e 0 0,.n,.n] [(21,.bool (decide (x6.1=a1)))] (A.dx 1 ?_);refine A.AX.cnd rfl hF ?_ ?_<;>intro hb hF
  ·refine A.xl 1 ?_;refine A.q0 [1] [] [.n,.b 0 0,.n] [(23,.slice A0_ ((a0).length) c1_),(24,A.i y3)] ?_;obtain⟨x13,hv14,hF⟩:=A.bd_some hF;refine A.AL.ixs 0 15 hv14 fun ho15=>?_;intro A16 c17 b18 o19;refine A.q0 [] [15] [.e 0 0] [(26,.agg #[A.i x13.1,A.i x13.2.1,.slice A16 ((x13.2.2.1).length) c17,A.i x13.2.2.2.1.1,A.i x13.2.2.2.1.2.1,.string x13.2.2.2.1.2.2,.string x13.2.2.2.2.1,A.i x13.2.2.2.2.2.1,A.i x13.2.2.2.2.2.2])] ?_;refine A.sw 2 [] [A.i x13.1,A.i x13.2.1,.slice A16 ((x13.2.2.1).length) c17,A.i x13.2.2.2.1.1,A.i x13.2.2.2.1.2.1,.string x13.2.2.2.1.2.2,.string x13.2.2.2.2.1,A.i x13.2.2.2.2.2.1,A.i x13.2.2.2.2.2.2] ?_;refine A.q0 [] [] [.n] [(5,.bool true)] (A.dx 1 ?_);obtain rfl:=A.si hF;exact A.AX.ret [(0,16)] (.tuple #[.agg #[A.i x13.1,A.i x13.2.1,.slice A16 ((x13.2.2.1).length) c17,A.i x13.2.2.2.1.1,A.i x13.2.2.2.1.2.1,.string x13.2.2.2.1.2.2,.string x13.2.2.2.2.1,A.i x13.2.2.2.2.2.1,A.i x13.2.2.2.2.2.2],.bool true]) (fun a w hf hh=>Z.resv2 rfl (Z.rv_n hf rfl Tryd.isAgg58 Tryd.sizeOf58 (A.Hp.blk hh 2) rfl) (Z.rv_t hf rfl)) (⟨A16,c17,rfl,rfl,ho15.1,ho15.2.1,ho15.2.2.2.1.1,ho15.2.2.2.1.2.1,ho15.2.2.2.1.2.2,ho15.2.2.2.2.1,ho15.2.2.2.2.2.1,ho15.2.2.2.2.2.2⟩)
  refine A.xl 3 ?_;obtain⟨hc20,hF⟩:=A.gd_some hF;refine A.q [] [] [.n,.n,.n] [Z.R64 (y3+1)] [(6,A.i (y3+1))] hc20 (A.AL.done ?_);exact A.j ⟨_,Nat.lt_succ_self _,⟨(y3+1),rfl,rfl,(Z.i64_has hc20),hF⟩⟩
 refine A.xl 3 ?_;refine A.q0 [] [] [.n] [(27,.agg #[A.i 0,A.i 0,.slice none 0 0,A.i 0,A.i 0,.string (ByteArray.mk #[]),.string (ByteArray.mk #[]),A.i 0,A.i 0])] ?_;refine A.sw 2 [] [A.i 0,A.i 0,.slice none 0 0,A.i 0,A.i 0,.string (ByteArray.mk #[]),.string (ByteArray.mk #[]),A.i 0,A.i 0] ?_;refine A.q0 [] [] [.n] [(5,.bool false)] (A.dx 1 ?_);obtain rfl:=A.si hF;refine A.snil 17 A.ti ?_;exact A.AX.ret [(0,17)] (.tuple #[.agg #[A.i 0,A.i 0,.slice none 0 0,A.i 0,A.i 0,.string (ByteArray.mk #[]),.string (ByteArray.mk #[]),A.i 0,A.i 0],.bool false]) (fun a w hf hh=>Z.resv2 rfl (Z.rv_n hf rfl Tryd.isAgg58 Tryd.sizeOf58 (A.Hp.blk hh 2) rfl) (Z.rv_t hf rfl)) (⟨none,0,rfl,rfl,(A.hasl .i64 (0) rfl),(A.hasl .i64 (0) rfl),(A.hasl .i64 (0) rfl),(A.hasl .i64 (0) rfl),(A.szl (ByteArray.mk #[]) rfl),(A.szl (ByteArray.mk #[]) rfl),(A.hasl .i64 (0) rfl),(A.hasl .i64 (0) rfl)⟩)
def F.ck (k6:(List Int)→Int→Option (List D57))(y32:Int)(xs37:List Int):Option (List D57):=A.gd (Z.R64 (y32+1)) (k6 xs37 (y32+1))
def F.aD (k5:(List Int)→Int→Option (List D57))(y6:Int)(xs11:List Int):Nat→(List Int)→Int→Option (List D57)
 |0,_,_=>none
 |f+1,xs31,y32=>if y32<((xs11).length:Int)then((A.ix xs11 y32).bind fun x39=>((F.ad xs31 x39).bind fun r44=>(if(!r44)=true then(A.gd ((List.length (α:=Int) xs31+List.length (α:=Int) [x39])*8≤140737488355328) (F.ck (F.aD k5 y6 xs11 f) y32 (xs31++[x39])))else(F.ck (F.aD k5 y6 xs11 f) y32 xs31))))else(A.gd (Z.R64 (y6+1)) (k5 xs31 (y6+1)))
def F.c5 (k5:(List Int)→Int→Option (List D57))(xs5:List Int)(y6:Int)(xs11:List Int)(y12:Int)(y14:Int)(y16:Int)(y18:Int)(y20:ByteArray)(y22:ByteArray)(y24:Int)(y26:Int):Option (List D57):=F.aD k5 y6 xs11 A.FU xs5 0
def F.bd (a0:D23)(xs5:List Int)(r776:(List Int)):Nat→(List D57)→Int→Option (List D57)
 |0,_,_=>none
 |f+1,xs781,y782=>if y782<((xs5).length:Int)then((A.ix r776 y782).bind fun x785=>((F.cG a0 x785).bind fun r790=>(A.gd ((List.length (α:=D57) xs781+List.length (α:=D57) [r790.1])*104≤140737488355328) (A.gd (Z.R64 (y782+1)) ((F.bd a0 xs5 r776 f) (xs781++[r790.1]) (y782+1))))))else(some xs781)
def F.aW (a0:D23):Nat→(List Int)→Int→Option (List D57)
 |0,_,_=>none
 |f+1,xs5,y6=>if y6<((xs5).length:Int)then((A.ix xs5 y6).bind fun x51=>((F.cG a0 x51).bind fun r356=>(F.c5 (F.aW a0 f) xs5 y6 r356.1.2.2.1 r356.1.1 r356.1.2.1 r356.1.2.2.2.1.1 r356.1.2.2.2.1.2.1 r356.1.2.2.2.1.2.2 r356.1.2.2.2.2.1 r356.1.2.2.2.2.2.1 r356.1.2.2.2.2.2.2)))else((F.cd xs5).bind fun r776=>(F.bd a0 xs5 r776 A.FU [] 0))
def F.cX (a0:D23)(a1:Int):Option (List D57):=F.aW a0 A.FU [a1] 0
theorem o_an (a0:D23)(a1:Int)(A0_:Option Addr)(c1_:Nat)(h2_:A.h6 a1)(r:(List D57))(hF:F.cX a0 a1=some r):
    A.Ct Tryd.prog 20 [.agg #[.slice A0_ ((a0).length) c1_],A.i a1] [(0,.sh (.slice T57) [.slice A0_ (a0).length c1_] a0)] [] (fun v H'=>∃(A0':Option Addr) (c1':Nat),v=.slice A0' ((r).length) c1'∧H'=[(0,.own T57 58 A0' c1' r)]):=by
 refine A.Ct.enter Tryd.func20 rfl Tryd.ntmps20 rfl fun w0 F0=>?_;rw[F.cX]at hF;refine A.xl 1 ?_;refine A.AL.box 1 (cs:=[.slice A0_ ((a0).length) c1_]) fun g1=>?_;refine A.q0 [] [] [.n] [] (A.dl 2 ?_);refine A.q0 [] [] [.n] [(16,A.i a1)] ?_;refine A.AL.bsl 2 (ty:=A.ti) (cs:=[A.i a1]) [a1] ⟨⟨rfl,h2_⟩,rfl⟩ (fun g2=>?_) Tryd.zeroValue3 Tryd.sizeOf3
 refine A.q0 [] [] [.n] [(5,.slice (some ⟨g2,0,none⟩) 1 1)] (A.dl 3 ?_);refine A.q0 [] [] [.n] [(6,A.i 0)] (A.dx 2 ?_);refine A.lp_ [2] [0,1] (fun f nl nh=>∃(xs5:List Int),∃(y6:Int),∃(A3:Option Addr),∃(c4:Nat),nl=[(5,.slice A3 ((xs5).length) c4),(6,A.i y6)]∧nh=[(2,.own A.ti 3 A3 c4 xs5)]∧A.h6 y6∧F.aW a0 f xs5 y6=some r) ⟨[a1],0,(some ⟨g2,0,none⟩),1,rfl,rfl,(A.hasl .i64 (0) rfl),hF⟩ ?_;rintro f8 _ _ ⟨xs5,y6,A3,c4,rfl,rfl,hy7,hF⟩;rcases f8 with _|f8
 ·exact A.no0 hF
 rw[F.aW]at hF;refine A.xl 2 ?_;refine A.q0 [] [] [.n,.n,.n,.n] [(21,.bool (decide (y6<((xs5).length:Int))))] (A.dx 1 ?_);refine A.AX.cnd rfl hF ?_ ?_<;>intro hb hF
 ·refine A.xx 4 ?_;refine A.AX.join [2,5,6] [0,1,2] (fun nl nh=>∃(xs11:List Int),∃(y12:Int),∃(y14:Int),∃(y16:Int),∃(y18:Int),∃(y20:ByteArray),∃(y22:ByteArray),∃(y24:Int),∃(y26:Int),∃(A9:Option Addr),∃(c10:Nat),∃(g28:Nat),nl=[(7,.pointer (some ⟨g28,0,none⟩))]∧nh=[(1558,.sh A.TI [.slice A9 (xs11).length c10] xs11),(1678,.blk g28 58 [A.i y12,A.i y14,.slice A9 ((xs11).length) c10,A.i y16,A.i y18,.string y20,.string y22,A.i y24,A.i y26])]∧A.h6 y12∧A.h6 y14∧A.h6 y16∧A.h6 y18∧y20.size≤maxLen∧y22.size≤maxLen∧A.h6 y24∧A.h6 y26∧F.c5 (F.aW a0 f8) xs5 y6 xs11 y12 y14 y16 y18 y20 y22 y24 y26=some r) ?_ ?_
  ·refine A.AX.dr mixed 12 12 (A.mb 12 0) ?_;refine A.hq A.pb [] [0,1,2] [1] [] (A.mb 12 7) 9 [(0,.b 0 0),(1,.n),(2,.n)] [(25,.agg #[.slice A0_ ((a0).length) c1_]),(26,.slice A3 ((xs5).length) c4),(27,A.i y6)] ?_;obtain⟨x51,hv52,hF⟩:=A.bd_some hF;refine A.AH.pko 2 1407 hv52 fun ho53=>?_;intro g55 hA54;refine A.AH.v A.pb [0,1,2] [0,1,2,1407] 3 (A.mb 12 15) rfl (fun a w hf hh=>A.r_ixo (t:=A.ti) hv52 hA54 hf) ?_;refine A.hq A.pb [0,1,2,1407] [0,1,2,1407] [] [1407] (A.mb 12 31) 7 [(4,.e 0 0)] [(29,A.i x51)] ?_;refine A.AH.two 5 9 ?_ ?_
   ·obtain⟨r356,hv357,hF⟩:=A.bd_some hF;refine A.AL.call 1558 [] (first:=[]) (cap:=[]) cf42 (o_af a0 x51 A0_ c1_ ho53 r356 hv357) (.s 0 .nil) ?_;rintro _ _ ⟨A360,c361,rfl,rfl,hr358,hr359,hr362,hr363,hr364,hr365,hr366,hr367⟩;refine⟨by kernel_rfl,?_⟩;refine A.AH.nx (A.mb 12 63) [0,1,2,1407] ?_;refine A.hq A.pb [0,1,2,1407] [0,1,2,1407,1558] [] [] (A.mb 12 511) 3 [(6,.n),(7,.n),(8,.n)] [(31,.agg #[A.i r356.1.1,A.i r356.1.2.1,.slice A360 ((r356.1.2.2.1).length) c361,A.i r356.1.2.2.2.1.1,A.i r356.1.2.2.2.1.2.1,.string r356.1.2.2.2.1.2.2,.string r356.1.2.2.2.2.1,A.i r356.1.2.2.2.2.2.1,A.i r356.1.2.2.2.2.2.2]),(32,.bool r356.2)] ?_;refine A.AH.one 9 ?_;refine A.AL.alloc 1678 (cs:=[A.i 0,A.i 0,.slice none 0 0,A.i 0,A.i 0,.string (ByteArray.mk #[]),.string (ByteArray.mk #[]),A.i 0,A.i 0]) Tryd.zeroValue58 fun g596=>?_;refine A.AH.nx (A.mb 12 1023) [0,1,2,1407,1558] ?_;refine A.AH.one 10 ?_;refine A.sw 1678 [] [A.i r356.1.1,A.i r356.1.2.1,.slice A360 ((r356.1.2.2.1).length) c361,A.i r356.1.2.2.2.1.1,A.i r356.1.2.2.2.1.2.1,.string r356.1.2.2.2.1.2.2,.string r356.1.2.2.2.2.1,A.i r356.1.2.2.2.2.2.1,A.i r356.1.2.2.2.2.2.2] ?_;refine A.AH.nx (A.mb 12 2047) [0,1,2,1407,1558] ?_;refine A.hq A.pb [0,1,2,1407,1558] [0,1,2,1407,1558,1678] [] [] (A.mb 12 4095) 0 [(11,.n)] [] (A.AH.done ?_);exact A.j ⟨r356.1.2.2.1,r356.1.1,r356.1.2.1,r356.1.2.2.2.1.1,r356.1.2.2.2.1.2.1,r356.1.2.2.2.1.2.2,r356.1.2.2.2.2.1,r356.1.2.2.2.2.2.1,r356.1.2.2.2.2.2.2,A360,c361,g596,rfl,rfl,hr358,hr359,hr362,hr363,hr364,hr365,hr366,hr367,hF⟩
   refine A.AL.alloc 1678 (cs:=[A.i 0,A.i 0,.slice none 0 0,A.i 0,A.i 0,.string (ByteArray.mk #[]),.string (ByteArray.mk #[]),A.i 0,A.i 0]) Tryd.zeroValue58 fun g596=>?_;refine A.AH.nx (A.mb 12 543) [0,1,2,1407] ?_;refine A.AH.one 5 ?_;obtain⟨r356,hv357,hF⟩:=A.bd_some hF;refine A.AL.call 1558 [] (first:=[]) (cap:=[]) cf42 (o_af a0 x51 A0_ c1_ ho53 r356 hv357) (.s 0 .nil) ?_;rintro _ _ ⟨A360,c361,rfl,rfl,hr358,hr359,hr362,hr363,hr364,hr365,hr366,hr367⟩;refine⟨by kernel_rfl,?_⟩;refine A.AH.nx (A.mb 12 575) [0,1,2,1407] ?_;refine A.hq A.pb [0,1,2,1407] [0,1,2,1407,1558] [] [] (A.mb 12 1023) 2 [(6,.n),(7,.n),(8,.n)] [(31,.agg #[A.i r356.1.1,A.i r356.1.2.1,.slice A360 ((r356.1.2.2.1).length) c361,A.i r356.1.2.2.2.1.1,A.i r356.1.2.2.2.1.2.1,.string r356.1.2.2.2.1.2.2,.string r356.1.2.2.2.2.1,A.i r356.1.2.2.2.2.2.1,A.i r356.1.2.2.2.2.2.2]),(32,.bool r356.2)] ?_;refine A.AH.one 10 ?_;refine A.sw 1678 [] [A.i r356.1.1,A.i r356.1.2.1,.slice A360 ((r356.1.2.2.1).length) c361,A.i r356.1.2.2.2.1.1,A.i r356.1.2.2.2.1.2.1,.string r356.1.2.2.2.1.2.2,.string r356.1.2.2.2.2.1,A.i r356.1.2.2.2.2.2.1,A.i r356.1.2.2.2.2.2.2] ?_;refine A.AH.nx (A.mb 12 2047) [0,1,2,1407,1558] ?_;refine A.hq A.pb [0,1,2,1407,1558] [0,1,2,1407,1558,1678] [] [] (A.mb 12 4095) 0 [(11,.n)] [] (A.AH.done ?_);exact A.j ⟨r356.1.2.2.1,r356.1.1,r356.1.2.1,r356.1.2.2.2.1.1,r356.1.2.2.2.1.2.1,r356.1.2.2.2.1.2.2,r356.1.2.2.2.2.1,r356.1.2.2.2.2.2.1,r356.1.2.2.2.2.2.2,A360,c361,g596,rfl,rfl,hr358,hr359,hr362,hr363,hr364,hr365,hr366,hr367,hF⟩
  rintro _ _ ⟨xs11,y12,y14,y16,y18,y20,y22,y24,y26,A9,c10,g28,rfl,rfl,hy13,hy15,hy17,hy19,hy21,hy23,hy25,hy27,hF⟩;rw[F.c5]at hF;refine A.xl 1 ?_;refine A.q0 [1678] [] [.n,.b 0 2,.n,.n] [(34,.slice A9 ((xs11).length) c10),(35,A.i ((xs11).length:Int)),(36,A.i 0)] (A.dx 2 ?_);refine A.lp_ [2,6,34,35] [0,1,1558] (fun f nl nh=>∃(xs31:List Int),∃(y32:Int),∃(A29:Option Addr),∃(c30:Nat),nl=[(5,.slice A29 ((xs31).length) c30),(36,A.i y32)]∧nh=[(2,.own A.ti 3 A29 c30 xs31)]∧A.h6 y32∧F.aD (F.aW a0 f8) y6 xs11 f xs31 y32=some r) ⟨xs5,0,A3,c4,rfl,rfl,(A.hasl .i64 (0) rfl),hF⟩ ?_;rintro f34 _ _ ⟨xs31,y32,A29,c30,rfl,rfl,hy33,hF⟩;rcases f34 with _|f34
  ·exact A.no0 hF
  rw[F.aD]at hF;refine A.xl 1 ?_;refine A.q0 [] [] [.n] [(37,.bool (decide (y32<((xs11).length:Int))))] (A.dx 2 ?_);refine A.AX.cnd rfl hF ?_ ?_<;>intro hb hF
  ·refine A.xx 2 ?_;refine A.AX.join [2,6,34,35,36] [0,1,1558] (fun nl nh=>∃(xs37:List Int),∃(A35:Option Addr),∃(c36:Nat),nl=[(5,.slice A35 ((xs37).length) c36)]∧nh=[(2,.own A.ti 3 A35 c36 xs37)]∧F.ck (F.aD (F.aW a0 f8) y6 xs11 f34) y32 xs37=some r) ?_ ?_
   ·refine A.xl 2 ?_;obtain⟨x39,hv40,hF⟩:=A.bd_some hF;refine A.AL.ixs 1558 1852 hv40 fun ho41=>?_;intro b42 o43;refine A.q0 [] [1852] [.e 0 0,.n] [(10,A.i x39)] (A.dl 2 ?_);refine A.q0 [] [] [.n,.n] [(40,.slice A29 ((xs31).length) c30),(41,A.i x39)] ?_;obtain⟨r44,hv45,hF⟩:=A.bd_some hF;refine A.AL.call 1853 [] (first:=[]) (cap:=[]) cf19 (o_c xs31 x39 A29 c30 ho41 r44 hv45) (.o 2 .nil) ?_;rintro _ _ ⟨rfl,rfl⟩;refine⟨by kernel_rfl,?_⟩;refine A.q0 [] [] [.n] [(43,.bool (!r44))] (A.dx 1 ?_);refine A.AX.cnb rfl hF ?_ ?_<;>intro hb hF
    ·refine A.xl 0 ?_;refine A.q0 [] [] [.n,.n] [(44,.slice A29 ((xs31).length) c30),(45,A.i x39)] ?_;refine A.AL.bsl 1893 (ty:=A.ti) (cs:=[A.i x39]) [x39] ⟨⟨rfl,ho41⟩,rfl⟩ (fun g46=>?_) Tryd.zeroValue3 Tryd.sizeOf3
     obtain⟨hl49,hF⟩:=A.gd_some hF;refine A.AL.app (k:=2) [] (A.rowO (k:=1893) rfl) inf3 hl49 fun A47 c48=>?_;refine A.q0 [] [] [.n] [(5,.slice A47 ((xs31++[x39]).length) c48)] (A.de 1 ?_);exact A.j ⟨(xs31++[x39]),A47,c48,rfl,rfl,hF⟩
    refine A.xe 2 ?_;exact A.j ⟨xs31,A29,c30,rfl,rfl,hF⟩
   rintro _ _ ⟨xs37,A35,c36,rfl,rfl,hF⟩;rw[F.ck]at hF;refine A.xl 0 ?_;obtain⟨hc38,hF⟩:=A.gd_some hF;refine A.q [] [] [.n,.n] [Z.R64 (y32+1)] [(36,A.i (y32+1))] hc38 (A.AL.done ?_);exact A.j ⟨_,Nat.lt_succ_self _,⟨xs37,(y32+1),A35,c36,rfl,rfl,(Z.i64_has hc38),hF⟩⟩
  refine A.xl 3 ?_;obtain⟨hc50,hF⟩:=A.gd_some hF;refine A.q [] [] [.n,.n,.n] [Z.R64 (y6+1)] [(6,A.i (y6+1))] hc50 (A.AL.done ?_);exact A.j ⟨_,Nat.lt_succ_self _,⟨xs31,(y6+1),A29,c30,rfl,rfl,(Z.i64_has hc50),hF⟩⟩
 refine A.xl 3 ?_;refine A.q0 [] [] [.n] [(49,.slice A3 ((xs5).length) c4)] ?_;obtain⟨r776,hv777,hF⟩:=A.bd_some hF;refine A.AL.call 1894 [] (first:=[]) (cap:=[]) cf43 (o_y xs5 A3 c4 r776 hv777) (.m 2 .nil) ?_;rintro _ _ ⟨rfl,rfl,hr778⟩;refine⟨by kernel_rfl,?_⟩;refine A.mvd 1894 2 [] ?_;refine A.dl 2 ?_;refine A.q0 [] [] [.n] [(11,.slice none 0 0)] (A.dl 3 ?_);refine A.q0 [] [] [.n,.n,.n] [(51,.slice A3 ((xs5).length) c4),(52,A.i ((xs5).length:Int)),(53,A.i 0)] (A.dx 2 ?_);refine A.cst 51 (Z.slice_n (show(xs5).length=(r776).length from(Eq.symm hr778))) ?_;refine A.nil 1979 T57 58 ?_;refine A.lp_ [2,51,52] [0,1,2] (fun f nl nh=>∃(xs781:List D57),∃(y782:Int),∃(A779:Option Addr),∃(c780:Nat),nl=[(11,.slice A779 ((xs781).length) c780),(53,A.i y782)]∧nh=[(1979,.own T57 58 A779 c780 xs781)]∧A.h6 y782∧F.bd a0 xs5 r776 f xs781 y782=some r) ⟨[],0,none,0,rfl,rfl,(A.hasl .i64 (0) rfl),hF⟩ ?_;rintro f784 _ _ ⟨xs781,y782,A779,c780,rfl,rfl,hy783,hF⟩;rcases f784 with _|f784
 ·exact A.no0 hF
 rw[F.bd]at hF;refine A.xl 1 ?_;refine A.q0 [] [] [.n] [(54,.bool (decide (y782<((xs5).length:Int))))] (A.dx 2 ?_);refine A.AX.cnd rfl hF ?_ ?_<;>intro hb hF
 ·refine A.xl 5 ?_;obtain⟨x785,hv786,hF⟩:=A.bd_some hF;refine A.AL.ixo 2 2066 hv786 fun ho787=>?_;intro g788 hA789;refine A.q0 [] [2066] [.e 0 0,.n] [(13,A.i x785)] (A.dl 2 ?_);refine A.q0 [1] [] [.b 0 0,.n] [(58,.agg #[.slice A0_ ((a0).length) c1_]),(59,A.i x785)] ?_;obtain⟨r790,hv791,hF⟩:=A.bd_some hF;refine A.AL.call 2067 [] (first:=[]) (cap:=[]) cf42 (o_af a0 x785 A0_ c1_ ho787 r790 hv791) (.s 0 .nil) ?_;rintro _ _ ⟨A794,c795,rfl,rfl,hr792,hr793,hr796,hr797,hr798,hr799,hr800,hr801⟩;refine⟨by kernel_rfl,?_⟩;refine A.q0 [] [] [.n,.n,.n] [(61,.agg #[A.i r790.1.1,A.i r790.1.2.1,.slice A794 ((r790.1.2.2.1).length) c795,A.i r790.1.2.2.2.1.1,A.i r790.1.2.2.2.1.2.1,.string r790.1.2.2.2.1.2.2,.string r790.1.2.2.2.2.1,A.i r790.1.2.2.2.2.2.1,A.i r790.1.2.2.2.2.2.2]),(62,.bool r790.2)] ?_;refine A.AL.alloc 2107 (cs:=[A.i 0,A.i 0,.slice none 0 0,A.i 0,A.i 0,.string (ByteArray.mk #[]),.string (ByteArray.mk #[]),A.i 0,A.i 0]) Tryd.zeroValue58 fun g802=>?_;refine A.sw 2107 [] [A.i r790.1.1,A.i r790.1.2.1,.slice A794 ((r790.1.2.2.1).length) c795,A.i r790.1.2.2.2.1.1,A.i r790.1.2.2.2.1.2.1,.string r790.1.2.2.2.1.2.2,.string r790.1.2.2.2.2.1,A.i r790.1.2.2.2.2.2.1,A.i r790.1.2.2.2.2.2.2] ?_;refine A.q0 [] [] [.n] [] (A.dl 1 ?_);refine A.q0 [2107] [] [.n,.b 0 0] [(63,.slice A779 ((xs781).length) c780),(64,.agg #[A.i r790.1.1,A.i r790.1.2.1,.slice A794 ((r790.1.2.2.1).length) c795,A.i r790.1.2.2.2.1.1,A.i r790.1.2.2.2.1.2.1,.string r790.1.2.2.2.1.2.2,.string r790.1.2.2.2.2.1,A.i r790.1.2.2.2.2.2.1,A.i r790.1.2.2.2.2.2.2])] ?_;refine A.AL.bsl 2108 (ty:=T57) (cs:=[A.i r790.1.1,A.i r790.1.2.1,.slice A794 ((r790.1.2.2.1).length) c795,A.i r790.1.2.2.2.1.1,A.i r790.1.2.2.2.1.2.1,.string r790.1.2.2.2.1.2.2,.string r790.1.2.2.2.2.1,A.i r790.1.2.2.2.2.2.1,A.i r790.1.2.2.2.2.2.2]) [r790.1] ⟨⟨⟨rfl,hr792⟩,⟨rfl,hr793⟩,.inl ⟨2067,rfl⟩,⟨⟨rfl,hr796⟩,⟨rfl,hr797⟩,⟨rfl,hr798⟩⟩,⟨rfl,hr799⟩,⟨rfl,hr800⟩,⟨rfl,hr801⟩⟩,rfl⟩ (fun g803=>?_) Tryd.zeroValue58 Tryd.sizeOf58
  obtain⟨hl806,hF⟩:=A.gd_some hF;refine A.AL.app (k:=1979) [] (A.rowO (k:=2108) rfl) inf58 hl806 fun A804 c805=>?_;refine A.q0 [] [] [.n] [(11,.slice A804 ((xs781++[r790.1]).length) c805)] (A.dl 2 ?_);obtain⟨hc807,hF⟩:=A.gd_some hF;refine A.q [] [] [.n,.n] [Z.R64 (y782+1)] [(53,A.i (y782+1))] hc807 (A.AL.done ?_);exact A.j ⟨_,Nat.lt_succ_self _,⟨(xs781++[r790.1]),(y782+1),A804,c805,rfl,rfl,(Z.i64_has hc807),hF⟩⟩
 refine A.xl 3 ?_;refine A.q0 [] [] [.n,.n] [(4,.slice A779 ((xs781).length) c780)] (A.dx 1 ?_);obtain rfl:=A.si hF;exact A.rt1 [(0,1979)] ⟨A779,c780,rfl,rfl⟩
def F.aQ (k1:Int→Option Bool)(y17:Int)(y28:Bool):Option Bool:=if y28=true then(some false)else(A.gd (Z.R64 (y17+1)) (k1 (y17+1)))
def F.s (a0:D23)(r6:(List Int)×Int)(r11:D23×Int):Nat→Int→Option Bool
 |0,_=>none
 |f+1,y17=>if y17<((r11.1).length:Int)then((A.ix r11.1 y17).bind fun x20=>((F.ad r6.1 x20.1).bind fun r30=>(if(!r30)=true then((F.cX a0 x20.1).bind fun r32=>((F.cX r11.1 x20.1).bind fun r36=>((F.di r32 r36).bind fun r40=>(F.aQ (F.s a0 r6 r11 f) y17 (!r40)))))else(F.aQ (F.s a0 r6 r11 f) y17 false))))else(some true)
def F.aj (a0:D23)(a1:D30)(y5:Bool):Option Bool:=if y5=true then(some true)else((F.aJ a0 a1).bind fun r6=>((F.ay a0 a1).bind fun r11=>(if(bif decide (r6.2≠0)then true else decide (r11.2≠0))=true then(some (decide (r6.2=r11.2)))else(F.s a0 r6 r11 A.FU 0))))
def F.be (a0:D23)(a1:D30):Option Bool:=(F.d6).bind fun r3=>(if(!r3)=true then(some false)else((F.d4 [a0]).bind fun r43=>(if(!r43)=true then(F.aj a0 a1 true)else((F.dk a1).bind fun r45=>(F.aj a0 a1 (!r45))))))
theorem o_ab (a0:D23)(a1:D30)(A0_:Option Addr)(c1_:Nat)(A2_:Option Addr)(c3_:Nat)(A4_:Option Addr)(c5_:Nat)(A6_:Option Addr)(c7_:Nat)(r:Bool)(hF:F.be a0 a1=some r):
    A.Ct Tryd.prog 4 [.agg #[.slice A0_ ((a0).length) c1_],.agg #[.slice A2_ ((a1.1).length) c3_,.slice A4_ ((a1.2.1).length) c5_,.slice A6_ ((a1.2.2).length) c7_]] [(0,.sh (.slice T57) [.slice A0_ (a0).length c1_] a0),(1,.sh A.TI [.slice A2_ (a1.1).length c3_] a1.1),(2,.sh (.slice T57) [.slice A4_ (a1.2.1).length c5_] a1.2.1),(3,.sh (.slice T121) [.slice A6_ (a1.2.2).length c7_] a1.2.2),(4,.el none 0 0 A.tabF),(5,.el none 1 0 A.tabA)] [] (fun v H'=>v=.bool r∧H'=[]):=by
 refine A.Ct.enter Tryd.func4 rfl Tryd.ntmps4 rfl fun w0 F0=>?_;rw[F.be]at hF;refine A.xl 1 ?_;refine A.AL.box 6 (cs:=[.slice A0_ ((a0).length) c1_]) fun g1=>?_;refine A.AL.box 7 (cs:=[.slice A2_ ((a1.1).length) c3_,.slice A4_ ((a1.2.1).length) c5_,.slice A6_ ((a1.2.2).length) c7_]) fun g2=>?_;refine A.q0 [] [] [.n] [] (A.dl 3 ?_);obtain⟨r3,hv4,hF⟩:=A.bd_some hF;refine A.AL.call 8 [] (first:=[]) (cap:=[]) cf14 (o_aV r3 hv4) (.s 4 (.s 5 .nil)) ?_;rintro _ _ ⟨rfl,rfl⟩;refine⟨by kernel_rfl,?_⟩;refine A.q0 [] [] [.n] [(12,.bool (!r3))] (A.dx 1 ?_);refine A.AX.cnb rfl hF ?_ ?_<;>intro hb hF
 ·refine A.xl 1 ?_;refine A.q0 [] [] [.n] [(4,.bool false)] (A.dx 1 ?_);obtain rfl:=A.si hF;exact A.rt1 [] ⟨rfl,rfl⟩
 refine A.xx 3 ?_;refine A.AX.join [2,3] [0,1,2,3,4,5,6,7] (fun nl nh=>∃(y5:Bool),nl=[(22,.bool y5)]∧nh=[]∧F.aj a0 a1 y5=some r) ?_ ?_
 ·refine A.xl 0 ?_;refine A.q0 [6] [] [.n,.b 0 0] [(14,.slice A0_ ((a0).length) c1_)] ?_;refine A.AL.bsl 48 (ty:=(Z.Ty.slice T57)) (cs:=[.slice A0_ ((a0).length) c1_]) [a0] ⟨.inl ⟨0,rfl⟩,rfl⟩ (fun g42=>?_) Tryd.zeroValue22 Tryd.sizeOf22
  obtain⟨r43,hv44,hF⟩:=A.bd_some hF;refine A.AL.call 49 [] (first:=[]) (cap:=[]) cf15 (o_az [a0] (some ⟨g42,0,none⟩) 1 r43 hv44) (.o 48 .nil) ?_;rintro _ _ ⟨rfl,rfl⟩;refine⟨by kernel_rfl,?_⟩;refine A.q0 [] [] [.n,.n] [(18,.bool (!r43))] ?_;refine A.AL.cnd (j:=18) rfl hF (fun hF=>?_) (fun hF=>?_)
  ·refine A.q0 [] [] [.off,.off,.off,.n] [(22,.bool true)] (A.AL.done ?_);exact A.j ⟨true,rfl,rfl,hF⟩
  refine A.q0 [7] [] [.on (.b 0 0)] [(19,.agg #[.slice A2_ ((a1.1).length) c3_,.slice A4_ ((a1.2.1).length) c5_,.slice A6_ ((a1.2.2).length) c7_])] ?_;refine A.AL.on (dj:=18) rfl rfl ?_;obtain⟨r45,hv46,hF⟩:=A.bd_some hF;refine A.AL.call 89 [] (first:=[]) (cap:=[]) cf16 (o_aW a1 A2_ c3_ A4_ c5_ A6_ c7_ r45 hv46) (.s 1 (.s 2 (.s 3 .nil))) ?_;rintro _ _ ⟨rfl,rfl⟩;refine⟨by kernel_rfl,?_⟩;refine A.q0 [] [] [.on .n,.n] [(22,.bool (!r45))] (A.AL.done ?_);exact A.j ⟨(!r45),rfl,rfl,hF⟩
 rintro _ _ ⟨y5,rfl,rfl,hF⟩;rw[F.aj]at hF;refine A.AX.cnb rfl hF ?_ ?_<;>intro hb hF
 ·refine A.xl 1 ?_;refine A.q0 [] [] [.n] [(4,.bool true)] (A.dx 1 ?_);obtain rfl:=A.si hF;exact A.rt1 [] ⟨rfl,rfl⟩
 refine A.xl 3 ?_;refine A.q0 [6,7] [] [.b 0 0,.b 1 0] [(24,.agg #[.slice A0_ ((a0).length) c1_]),(25,.agg #[.slice A2_ ((a1.1).length) c3_,.slice A4_ ((a1.2.1).length) c5_,.slice A6_ ((a1.2.2).length) c7_])] ?_;obtain⟨r6,hv7,hF⟩:=A.bd_some hF;refine A.AL.call 129 [] (first:=[]) (cap:=[]) cf17 (o_t a0 a1 A0_ c1_ A2_ c3_ A4_ c5_ A6_ c7_ r6 hv7) (.s 0 (.s 1 (.s 2 (.s 3 (.s 4 (.s 5 .nil)))))) ?_;rintro _ _ ⟨A8,c9,rfl,rfl,hr10⟩;refine⟨by kernel_rfl,?_⟩;refine A.q0 [] [] [.n,.n,.n,.n,.n] [(5,.slice A8 ((r6.1).length) c9),(6,A.i r6.2)] (A.dl 2 ?_);refine A.q0 [6,7] [] [.b 0 0,.b 1 0] [(30,.agg #[.slice A0_ ((a0).length) c1_]),(31,.agg #[.slice A2_ ((a1.1).length) c3_,.slice A4_ ((a1.2.1).length) c5_,.slice A6_ ((a1.2.2).length) c7_])] ?_;obtain⟨r11,hv12,hF⟩:=A.bd_some hF;refine A.AL.call 169 [] (first:=[]) (cap:=[]) cf18 (o_p a0 a1 A0_ c1_ A2_ c3_ A4_ c5_ A6_ c7_ r11 hv12) (.s 0 (.s 1 (.s 2 (.s 3 (.s 4 (.s 5 .nil)))))) ?_;rintro _ _ ⟨A13,c14,rfl,rfl,hr15⟩;refine⟨by kernel_rfl,?_⟩;refine A.q0 [] [] [.n,.n,.n] [(33,.agg #[.slice A13 ((r11.1).length) c14]),(34,A.i r11.2)] ?_;refine A.AL.alloc 209 (cs:=[.slice none 0 0]) Tryd.zeroValue24 fun g16=>?_;refine A.sw 209 [] [.slice A13 ((r11.1).length) c14] ?_;refine A.q0 [] [] [.n] [(8,A.i r11.2)] (A.dl 3 ?_);refine A.q0 [] [] [.n,.n,.n,.sy .n,.sy .n,.pk] [(40,.bool (bif decide (r6.2≠0)then true else decide (r11.2≠0)))] (A.dx 1 ?_);refine A.AX.cnb rfl hF ?_ ?_<;>intro hb hF
 ·refine A.xl 1 ?_;refine A.q0 [] [] [.n,.n,.n,.n] [(4,.bool (decide (r6.2=r11.2)))] (A.dx 1 ?_);obtain rfl:=A.si hF;exact A.rt1 [] ⟨rfl,rfl⟩
 refine A.xl 4 ?_;refine A.q0 [209] [] [.n,.b 0 0,.n,.n] [(45,.slice A13 ((r11.1).length) c14),(46,A.i ((r11.1).length:Int)),(47,A.i 0)] (A.dx 2 ?_);refine A.lp_ [2,5,7,45,46] [0,4,5,6,129,169,209] (fun f nl nh=>∃(y17:Int),nl=[(47,A.i y17)]∧nh=[]∧A.h6 y17∧F.s a0 r6 r11 f y17=some r) ⟨0,rfl,rfl,(A.hasl .i64 (0) rfl),hF⟩ ?_;rintro f19 _ _ ⟨y17,rfl,rfl,hy18,hF⟩;rcases f19 with _|f19
 ·exact A.no0 hF
 rw[F.s]at hF;refine A.xl 1 ?_;refine A.q0 [] [] [.n] [(48,.bool (decide (y17<((r11.1).length:Int))))] (A.dx 2 ?_);refine A.AX.cnd rfl hF ?_ ?_<;>intro hb hF
 ·refine A.xl 5 ?_;obtain⟨x20,hv21,hF⟩:=A.bd_some hF;refine A.AL.ixs 169 536 hv21 fun ho22=>?_;intro A23 c24 b25 o26;refine A.q0 [] [536] [.e 0 0] [(50,.agg #[A.i x20.1,A.i x20.2.1,.slice A23 ((x20.2.2.1).length) c24,A.i x20.2.2.2.1.1,A.i x20.2.2.2.1.2.1,.string x20.2.2.2.1.2.2,.string x20.2.2.2.2.1,A.i x20.2.2.2.2.2.1,A.i x20.2.2.2.2.2.2])] ?_;refine A.AL.alloc 538 (cs:=[A.i 0,A.i 0,.slice none 0 0,A.i 0,A.i 0,.string (ByteArray.mk #[]),.string (ByteArray.mk #[]),A.i 0,A.i 0]) Tryd.zeroValue58 fun g27=>?_;refine A.sw 538 [] [A.i x20.1,A.i x20.2.1,.slice A23 ((x20.2.2.1).length) c24,A.i x20.2.2.2.1.1,A.i x20.2.2.2.1.2.1,.string x20.2.2.2.1.2.2,.string x20.2.2.2.2.1,A.i x20.2.2.2.2.2.1,A.i x20.2.2.2.2.2.2] ?_;refine A.dx 1 ?_;refine A.AX.join [2,5,7,45,46,47] [0,4,5,6,129,169,209] (fun nl nh=>∃(y28:Bool),nl=[(69,.bool y28)]∧nh=[]∧F.aQ (F.s a0 r6 r11 f19) y17 y28=some r) ?_ ?_
  ·refine A.AX.dr mixed 19 19 (A.mb 19 0) ?_;refine A.hq A.pb [] [0,4,5,6,129,169,209,536,537,538] [538] [] (A.mb 19 7) 16 [(0,.n),(1,.n),(2,.b 0 0)] [(51,.slice A8 ((r6.1).length) c9),(53,A.i x20.1)] ?_;refine A.AH.one 3 ?_;obtain⟨r30,hv31,hF⟩:=A.bd_some hF;refine A.AL.call 539 [] (first:=[]) (cap:=[]) cf19 (o_c r6.1 x20.1 A8 c9 ho22.1 r30 hv31) (.l 129 .nil) ?_;rintro _ _ ⟨rfl,rfl⟩;refine⟨by kernel_rfl,?_⟩;refine A.AH.nx (A.mb 19 15) [0,4,5,6,129,169,209,536,537,538] ?_;refine A.hq A.pb [0,4,5,6,129,169,209,536,537,538] [0,4,5,6,129,169,209,536,537,538] [] [] (A.mb 19 63) 13 [(4,.n),(5,.n)] [(56,.bool (!r30))] ?_;refine A.AH.cnd (j:=56) rfl hF (fun hF=>?_) (fun hF=>?_)
   ·refine A.hq A.pb [0,4,5,6,129,169,209,536,537,538] [0,4,5,6,129,169,209,536,537,538] [6,209,538] [] (A.mb 19 14847) 7 [(6,.on (.b 0 0)),(7,.on .n),(11,.on (.b 1 0)),(12,.on .n),(8,.on (.b 2 0)),(13,.on (.b 2 0))] [(57,.agg #[.slice A0_ ((a0).length) c1_]),(62,.agg #[.slice A13 ((r11.1).length) c14]),(59,A.i x20.1),(64,A.i x20.1)] ?_;refine A.AH.one 9 ?_;refine A.AL.on (dj:=56) rfl rfl ?_;obtain⟨r32,hv33,hF⟩:=A.bd_some hF;refine A.AL.call 579 [] (first:=[]) (cap:=[]) cf20 (o_an a0 x20.1 A0_ c1_ ho22.1 r32 hv33) (.s 0 .nil) ?_;rintro _ _ ⟨A34,c35,rfl,rfl⟩;refine⟨by kernel_rfl,?_⟩;refine A.AH.nx (A.mb 19 15359) [0,4,5,6,129,169,209,536,537,538] ?_;refine A.hq A.pb [0,4,5,6,129,169,209,536,537,538] [0,4,5,6,129,169,209,536,537,538] [] [] (A.mb 19 16383) 5 [(10,.on .n)] [(61,.agg #[.slice A34 ((r32).length) c35])] ?_;refine A.AH.one 14 ?_;refine A.AL.on (dj:=56) rfl rfl ?_;obtain⟨r36,hv37,hF⟩:=A.bd_some hF;refine A.AL.call 619 [] (first:=[]) (cap:=[]) cf20 (o_an r11.1 x20.1 A13 c14 ho22.1 r36 hv37) (.s 169 .nil) ?_;rintro _ _ ⟨A38,c39,rfl,rfl⟩;refine⟨by kernel_rfl,?_⟩;refine A.AH.nx (A.mb 19 32767) [0,4,5,6,129,169,209,536,537,538] ?_;refine A.hq A.pb [0,4,5,6,129,169,209,536,537,538] [0,4,5,6,129,169,209,536,537,538] [] [] (A.mb 19 65535) 3 [(15,.on .n)] [(66,.agg #[.slice A38 ((r36).length) c39])] ?_;refine A.AH.one 16 ?_;refine A.AL.on (dj:=56) rfl rfl ?_;refine A.frz 579 [] ?_;refine A.frz 619 [] ?_;obtain⟨r40,hv41,hF⟩:=A.bd_some hF;refine A.AL.call 659 [] (first:=[]) (cap:=[]) cf13 (o_aT r32 r36 A34 c35 A38 c39 r40 hv41) (.s 579 (.s 619 .nil)) ?_;rintro _ _ ⟨rfl,rfl⟩;refine⟨by kernel_rfl,?_⟩;refine A.AH.nx (A.mb 19 131071) [0,4,5,6,129,169,209,536,537,538] ?_;refine A.hq A.pb [0,4,5,6,129,169,209,536,537,538] [0,4,5,6,129,169,209,536,537,538,579,619] [] [] (A.mb 19 524287) 0 [(17,.on .n),(18,.n)] [(69,.bool (!r40))] (A.AH.done ?_);exact A.j ⟨(!r40),rfl,rfl,hF⟩
   refine A.hq A.pb [0,4,5,6,129,169,209,536,537,538] [0,4,5,6,129,169,209,536,537,538] [] [] (A.mb 19 524287) 0 [(6,.off),(7,.off),(11,.off),(12,.off),(8,.off),(13,.off),(9,.off),(10,.off),(14,.off),(15,.off),(16,.off),(17,.off),(18,.n)] [(69,.bool false)] (A.AH.done ?_);exact A.j ⟨false,rfl,rfl,hF⟩
  rintro _ _ ⟨y28,rfl,rfl,hF⟩;rw[F.aQ]at hF;refine A.AX.cnb rfl hF ?_ ?_<;>intro hb hF
  ·refine A.xl 1 ?_;refine A.q0 [] [] [.n] [(4,.bool false)] (A.dx 1 ?_);obtain rfl:=A.si hF;exact A.rt1 [] ⟨rfl,rfl⟩
  refine A.xl 3 ?_;obtain⟨hc29,hF⟩:=A.gd_some hF;refine A.q [] [] [.n,.n] [Z.R64 (y17+1)] [(47,A.i (y17+1))] hc29 (A.AL.done ?_);exact A.j ⟨_,Nat.lt_succ_self _,⟨(y17+1),rfl,rfl,(Z.i64_has hc29),hF⟩⟩
 refine A.xl 3 ?_;refine A.q0 [] [] [.n] [(4,.bool true)] (A.dx 1 ?_);obtain rfl:=A.si hF;exact A.rt1 [] ⟨rfl,rfl⟩
end Go.Proofs.YtocfaokgoflmhabDoor
end
section
set_option maxRecDepth 20000
set_option maxHeartbeats 8000000
set_option linter.unusedVariables false
set_option synthInstance.maxSize 1000000
set_option synthInstance.maxHeartbeats 400000
namespace Go.Proofs.YtocfaokgoflmhabDoor
open Go.RowKit
abbrev X128:Type:=Int×Int
abbrev X130:Type:=X128×Int
abbrev X153:Type:=Int×Int×Int×Int
abbrev X154:Type:=Int×Int×Int×Int×X153
abbrev X157:Type:=X128×X128×X154
abbrev X198:Type:=Int×Int
abbrev X67:Type:=Int×Int×ByteArray
abbrev X69:Type:=Int×Int×(List Int)×X67×ByteArray×Int×Int
abbrev X23:Type:=(List X69)
abbrev X82:Type:=Int×Int×Int×Int×X67
abbrev X27:Type:=(List Int)×(List X69)×(List X82)
def F.cY (a0:Int):Option Int:=if(bif decide (a0<1)then true else decide ((16:Int)<a0))=true then(some (-1))else(if a0=1 then(some 0)else(if(bif decide (a0=5)then true else decide (a0=9))=true then(some 2)else(some 1)))
theorem eqn0:True:=(fun _=>trivial) @F.cY.eq_1
def F.c6 (k1:Int→Option (Int×Bool))(a0:X23)(y2:Int)(y5:Bool):Option (Int×Bool):=if y5=true then((A.ix a0 y2).bind fun x6=>(some (x6.1,true)))else(A.gd (Z.R64 (y2+1)) (k1 (y2+1)))
theorem eqn1:True:=(fun _=>trivial) @F.c6.eq_1
def F.bS (a0:X23)(a1:Int)(a2:ByteArray):Nat→Int→Option (Int×Bool)
 |0,_=>none
 |f+1,y2=>if y2<((a0).length:Int)then((A.ix a0 y2).bind fun x14=>(if x14.2.1=a1 then((A.ix a0 y2).bind fun x21=>(F.c6 (F.bS a0 a1 a2 f) a0 y2 (decide (x21.2.2.2.2.1=a2))))else(F.c6 (F.bS a0 a1 a2 f) a0 y2 false)))else(some (0,false))
def F.eq (a0:X23)(a1:Int)(a2:ByteArray):Option (Int×Bool):=F.bS a0 a1 a2 A.FU 0
def F.c7 (a0:UInt8):Option Bool:=if(bif decide ((97:Int)≤(a0.toNat:Int))then decide ((a0.toNat:Int)≤122)else false)=true then(some true)else(some (bif decide ((65:Int)≤(a0.toNat:Int))then decide ((a0.toNat:Int)≤90)else false))
theorem eqn4:True:=(fun _=>trivial) @F.c7.eq_1
def F.ec (a0:UInt8):Option Bool:=some (bif decide ((48:Int)≤(a0.toNat:Int))then decide ((a0.toNat:Int)≤57)else false)
def F.dm (k1:Int→Option Bool)(y2:Int)(y5:Bool):Option Bool:=if y5=true then(some false)else(A.gd (Z.R64 (y2+1)) (k1 (y2+1)))
def F.bK (a0:ByteArray):Nat→Int→Option Bool
 |0,_=>none
 |f+1,y2=>if y2<(a0.size:Int)then((A.ix a0.data.toList y2).bind fun x7=>((F.c7 x7).bind fun r9=>(if(!r9)=true then((A.ix a0.data.toList y2).bind fun x11=>((F.ec x11).bind fun r13=>(F.dm (F.bK a0 f) y2 (!r13))))else(F.dm (F.bK a0 f) y2 false))))else(some true)
def F.cO (a0:ByteArray)(y1:Bool):Option Bool:=if y1=true then(some false)else(F.bK a0 A.FU 0)
def F.d7 (a0:ByteArray):Option Bool:=if(bif decide (a0=(ByteArray.mk #[]))then true else decide ((16:Int)<(a0.size:Int)))=true then(F.cO a0 true)else((A.ix a0.data.toList 0).bind fun x15=>((F.c7 x15).bind fun r17=>(F.cO a0 (!r17))))
theorem eqn9:True:=(fun _=>trivial) @F.d7.eq_1
def F.c8 (a0:X23)(x2:X69):Option Bool:=if(bif decide (x2.2.1≠1)then decide (x2.2.1≠15)else false)=true then(some (decide (x2.2.2.2.2.1=(ByteArray.mk #[]))))else((F.eq a0 x2.2.1 x2.2.2.2.2.1).bind fun r11=>((F.d7 x2.2.2.2.2.1).bind fun r14=>(some (bif r14 then decide (r11.1=x2.1)else false))))
theorem eqn10:True:=(fun _=>trivial) @F.c8.eq_1
def F.aX (a0:X23)(x2:X69)(y10:Bool):Option Bool:=if y10=true then(some false)else(if x2.2.1=14 then(if(bif bif bif decide (x2.2.2.2.2.2.1<1)then true else decide ((8:Int)<x2.2.2.2.2.2.1)then true else decide (x2.2.2.2.2.2.2<1)then true else decide ((4:Int)<x2.2.2.2.2.2.2))=true then(some false)else(F.c8 a0 x2))else(if(bif decide (x2.2.2.2.2.2.1≠0)then true else decide (x2.2.2.2.2.2.2≠0))=true then(some false)else(F.c8 a0 x2)))
theorem eqn11:True:=(fun _=>trivial) @F.aX.eq_1
def F.el (a0:X23)(a1:Int):Option Bool:=(A.ix a0 a1).bind fun x2=>(if(bif decide (x2.1<1)then true else decide ((255:Int)<x2.1))=true then(F.aX a0 x2 true)else(if(0:Int)<a1 then(A.gd (Z.R64 (a1-1)) ((A.ix a0 (a1-1)).bind fun x17=>(if x2.1≤x17.1 then(F.aX a0 x2 true)else((F.cY x2.2.1).bind fun r25=>(if r25<0 then(F.aX a0 x2 true)else((F.cY x2.2.1).bind fun r28=>(F.aX a0 x2 (decide (((x2.2.2.1).length:Int)≠r28)))))))))else((F.cY x2.2.1).bind fun r31=>(if r31<0 then(F.aX a0 x2 true)else((F.cY x2.2.1).bind fun r34=>(F.aX a0 x2 (decide (((x2.2.2.1).length:Int)≠r34))))))))
theorem eqn12:True:=(fun _=>trivial) @F.el.eq_1
def F.em (y3:Int):Nat→(List Int)→Int→Option (List Int)
 |0,_,_=>none
 |f+1,xs7,y8=>if y8≤y3 then(A.gd ((List.length (α:=Int) xs7+List.length (α:=Int) [y8])*8≤140737488355328) (A.gd (Z.R64 (y8+1)) ((F.em y3 f) (xs7++[y8]) (y8+1))))else(some xs7)
def F.bL (y1:Int)(y3:Int):Option (List Int):=F.em y3 A.FU [] y1
def F.b2 (a0:Int):Option (List Int):=if a0=2 then(F.bL 1 8)else(if a0=3 then(F.bL 11 13)else(if a0=4 then(F.bL 21 22)else(if a0=8 then(F.bL 31 34)else(if a0=11 then(F.bL 41 42)else(F.bL 1 0)))))
theorem eqn15:True:=(fun _=>trivial) @F.b2.eq_1
def F.eb (a0:X67)(y3:Bool):Option Bool:=if y3=true then(some (bif decide ((1:Int)≤a0.2.1)then decide (a0.2.1≤1048576)else false))else(some (decide (a0.2.1=0)))
def F.dz (a0:X67)(y2:Bool):Option Bool:=if y2=true then(some (bif decide ((0:Int)≤a0.2.1)then decide (a0.2.1≤64)else false))else(if a0.1=6 then(F.eb a0 (decide (a0.1=6)))else(F.eb a0 (decide (a0.1=11))))
theorem eqn17:True:=(fun _=>trivial) @F.dz.eq_1
def F.eo (a0:X67):Option Bool:=if a0.1=3 then(F.dz a0 (decide (a0.1=3)))else(F.dz a0 (decide (a0.1=13)))
def F.cl (a0:UInt8):Option Bool:=some (bif decide ((128:Int)≤(a0.toNat:Int))then decide ((a0.toNat:Int)≤191)else false)
def F.bB (x2:UInt8)(y4:UInt8)(y7:Bool):Option Int:=if y7=true then(if(bif decide ((x2.toNat:Int)=240)then decide ((y4.toNat:Int)<144)else false)=true then(some 0)else(if(bif decide ((x2.toNat:Int)=244)then decide ((143:Int)<(y4.toNat:Int))else false)=true then(some 0)else(some 4)))else(some 0)
theorem eqn20:True:=(fun _=>trivial) @F.bB.eq_1
def F.bT (a0:ByteArray)(a1:Int)(x2:UInt8)(y4:UInt8)(y6:Bool):Option Int:=if y6=true then(if(bif decide ((x2.toNat:Int)=224)then decide ((y4.toNat:Int)<160)else false)=true then(some 0)else(if(bif decide ((x2.toNat:Int)=237)then decide ((159:Int)<(y4.toNat:Int))else false)=true then(some 0)else(some 3)))else(if(bif bif decide ((240:Int)≤(x2.toNat:Int))then decide ((x2.toNat:Int)≤244)else false then decide ((4:Int)≤(a0.size:Int)-a1)else false)=true then((F.cl y4).bind fun r8=>(if r8=true then(A.gd (Z.R64 (a1+2)) ((A.ix a0.data.toList (a1+2)).bind fun x11=>((F.cl x11).bind fun r13=>(if r13=true then(A.gd (Z.R64 (a1+3)) ((A.ix a0.data.toList (a1+3)).bind fun x16=>((F.cl x16).bind fun r18=>(F.bB x2 y4 r18))))else(F.bB x2 y4 false)))))else(F.bB x2 y4 false)))else(F.bB x2 y4 false))
theorem eqn21:True:=(fun _=>trivial) @F.bT.eq_1
def F.cm (a0:ByteArray)(a1:Int)(x2:UInt8)(y4:UInt8)(y5:Bool):Option Int:=if y5=true then(some 2)else(if(bif bif decide ((224:Int)≤(x2.toNat:Int))then decide ((x2.toNat:Int)≤239)else false then decide ((3:Int)≤(a0.size:Int)-a1)else false)=true then((F.cl y4).bind fun r20=>(if r20=true then(A.gd (Z.R64 (a1+2)) ((A.ix a0.data.toList (a1+2)).bind fun x23=>((F.cl x23).bind fun r25=>(F.bT a0 a1 x2 y4 r25))))else(F.bT a0 a1 x2 y4 false)))else(F.bT a0 a1 x2 y4 false))
theorem eqn22:True:=(fun _=>trivial) @F.cm.eq_1
def F.cn (a0:ByteArray)(a1:Int)(x2:UInt8)(y4:UInt8):Option Int:=if(x2.toNat:Int)<128 then(some 1)else(if(bif bif decide ((194:Int)≤(x2.toNat:Int))then decide ((x2.toNat:Int)≤223)else false then decide ((2:Int)≤(a0.size:Int)-a1)else false)=true then((F.cl y4).bind fun r27=>(F.cm a0 a1 x2 y4 r27))else(F.cm a0 a1 x2 y4 false))
theorem eqn23:True:=(fun _=>trivial) @F.cn.eq_1
def F.dt (a0:ByteArray)(a1:Int):Option Int:=A.gd (Z.R64 ((a0.size:Int)-a1)) ((A.ix a0.data.toList a1).bind fun x2=>(if(1:Int)<(a0.size:Int)-a1 then(A.gd (Z.R64 (a1+1)) ((A.ix a0.data.toList (a1+1)).bind fun x30=>(F.cn a0 a1 x2 x30)))else(F.cn a0 a1 x2 (0:UInt8))))
theorem eqn24:True:=(fun _=>trivial) @F.dt.eq_1
def F.co (a0:ByteArray):Nat→Int→Option Bool
 |0,_=>none
 |f+1,y1=>if y1<(a0.size:Int)then((F.dt a0 y1).bind fun r4=>(if r4=0 then(some false)else(A.gd (Z.R64 (y1+r4)) ((F.co a0 f) (y1+r4)))))else(some true)
def F.ed (a0:ByteArray):Option Bool:=F.co a0 A.FU 0
def F.bf (k1:(List X198)→Int→Option (List X198))(xs3:List X198)(y4:Int)(y10:Int)(y12:Int):Option (List X198):=A.gd ((List.length (α:=X198) xs3+List.length (α:=X198) [(y4,y12)])*16≤140737488355328) (A.gd (Z.R64 (y4+y10)) (k1 (xs3++[(y4,y12)]) (y4+y10)))
theorem eqn27:True:=(fun _=>trivial) @F.bf.eq_1
def F.aE (a0:ByteArray):Nat→(List X198)→Int→Option (List X198)
 |0,_,_=>none
 |f+1,xs3,y4=>if y4<(a0.size:Int)then((F.dt a0 y4).bind fun r7=>(if r7=1 then((A.ix a0.data.toList y4).bind fun x19=>(F.bf (F.aE a0 f) xs3 y4 r7 (IntKind.i32.wrap ((x19.toNat:Int)))))else(if r7=2 then(A.gd (Z.R64 (y4+1)) ((A.ix a0.data.toList y4).bind fun x22=>(A.gd ((32:Int)≠0) ((A.ix a0.data.toList (y4+1)).bind fun x25=>(A.gd ((64:Int)≠0) (F.bf (F.aE a0 f) xs3 y4 r7 (IntKind.i32.wrap ((IntKind.i32.wrap ((IntKind.i32.wrap (Int.tmod (x22.toNat:Int) 32))*64))+(IntKind.i32.wrap (Int.tmod (x25.toNat:Int) 64))))))))))else(if r7=3 then(A.gd (Z.R64 (y4+1)∧Z.R64 (y4+2)) ((A.ix a0.data.toList y4).bind fun x29=>(A.gd ((16:Int)≠0) ((A.ix a0.data.toList (y4+1)).bind fun x32=>(A.gd ((64:Int)≠0) ((A.ix a0.data.toList (y4+2)).bind fun x35=>(A.gd ((64:Int)≠0) (F.bf (F.aE a0 f) xs3 y4 r7 (IntKind.i32.wrap ((IntKind.i32.wrap ((IntKind.i32.wrap ((IntKind.i32.wrap ((IntKind.i32.wrap (Int.tmod (x29.toNat:Int) 16))*64))+(IntKind.i32.wrap (Int.tmod (x32.toNat:Int) 64))))*64))+(IntKind.i32.wrap (Int.tmod (x35.toNat:Int) 64))))))))))))else(if r7=4 then(A.gd (Z.R64 (y4+1)∧Z.R64 (y4+2)∧Z.R64 (y4+3)) ((A.ix a0.data.toList y4).bind fun x39=>(A.gd ((8:Int)≠0) ((A.ix a0.data.toList (y4+1)).bind fun x42=>(A.gd ((64:Int)≠0) ((A.ix a0.data.toList (y4+2)).bind fun x45=>(A.gd ((64:Int)≠0) ((A.ix a0.data.toList (y4+3)).bind fun x48=>(A.gd ((64:Int)≠0) (F.bf (F.aE a0 f) xs3 y4 r7 (IntKind.i32.wrap ((IntKind.i32.wrap ((IntKind.i32.wrap ((IntKind.i32.wrap ((IntKind.i32.wrap ((IntKind.i32.wrap ((IntKind.i32.wrap (Int.tmod (x39.toNat:Int) 8))*64))+(IntKind.i32.wrap (Int.tmod (x42.toNat:Int) 64))))*64))+(IntKind.i32.wrap (Int.tmod (x45.toNat:Int) 64))))*64))+(IntKind.i32.wrap (Int.tmod (x48.toNat:Int) 64))))))))))))))else(F.bf (F.aE a0 f) xs3 y4 1 65533))))))else(some xs3)
def F.er (a0:ByteArray):Option (List X198):=F.aE a0 A.FU [] 0
def F.dY (y2:Bool):Option Bool:=some y2
def F.dn (y6:Bool):Option Bool:=some y6
def F.cP (a0:X67)(y5:Bool):Option Bool:=if y5=true then(if(a0.2.2.size:Int)≤4 then((F.ed a0.2.2).bind fun r7=>(if r7=true then((F.er a0.2.2).bind fun r9=>(F.dn (decide (((r9).length:Int)=1))))else(F.dn false)))else(F.dn false))else(some (decide (a0.2.2=(ByteArray.mk #[]))))
theorem eqn32:True:=(fun _=>trivial) @F.cP.eq_1
def F.d8 (a0:X67):Option Bool:=if a0.1=5 then(if(bif decide ((1:Int)≤(a0.2.2.size:Int))then decide ((a0.2.2.size:Int)≤16)else false)=true then((F.ed a0.2.2).bind fun r3=>(F.dY r3))else(F.dY false))else(if a0.1=12 then(F.cP a0 (decide (a0.1=12)))else(F.cP a0 (decide (a0.1=22))))
theorem eqn33:True:=(fun _=>trivial) @F.d8.eq_1
def F.c9 (k1:Int→Option Int)(y7:Int)(y10:Bool):Option Int:=if y10=true then(some 0)else(A.gd (Z.R64 (y7+1)) (k1 (y7+1)))
def F.bg (a1:X67)(r2:(List Int)):Nat→Int→Option Int
 |0,_=>none
 |f+1,y7=>if y7<((r2).length:Int)then((A.ix r2 y7).bind fun x12=>(if x12=a1.1 then((F.eo a1).bind fun r17=>(if r17=true then((F.d8 a1).bind fun r19=>(F.c9 (F.bg a1 r2 f) y7 r19))else(F.c9 (F.bg a1 r2 f) y7 false)))else(F.c9 (F.bg a1 r2 f) y7 false)))else(some 60)
def F.bh (a1:X67)(r2:(List Int))(y6:Bool):Option Int:=if y6=true then(some 0)else(F.bg a1 r2 A.FU 0)
def F.du (a0:Int)(a1:X67):Option Int:=(F.b2 a0).bind fun r2=>(if((r2).length:Int)=0 then(F.bh a1 r2 (decide (a1=(0,0,ByteArray.mk #[]))))else(F.bh a1 r2 false))
theorem eqn37:True:=(fun _=>trivial) @F.du.eq_1
def F.cp (a0:X23)(a1:Int):Nat→Int→Option Int
 |0,_=>none
 |f+1,y2=>if y2<((a0).length:Int)then((A.ix a0 y2).bind fun x5=>(if x5.1=a1 then(some y2)else(A.gd (Z.R64 (y2+1)) ((F.cp a0 a1 f) (y2+1)))))else(some (-1))
def F.cq (a0:X23)(a1:Int):Option Int:=F.cp a0 a1 A.FU 0
def F.dD (k40:Int→Option Int)(y34:Int)(y61:Bool):Option Int:=if y61=true then(some 80)else(A.gd (Z.R64 (y34+1)) (k40 (y34+1)))
def F.bU (k39:Int→Option Int)(a0:X23)(y31:Int):Nat→Int→Option Int
 |0,_=>none
 |f+1,y34=>(A.ix a0 y31).bind fun x37=>(if y34<((x37.2.2.1).length:Int)then((A.ix a0 y31).bind fun x44=>((A.ix x44.2.2.1 y34).bind fun x52=>((F.cq a0 x52).bind fun r58=>(if r58<0 then(F.dD (F.bU k39 a0 y31 f) y34 true)else((A.ix a0 r58).bind fun x63=>(F.dD (F.bU k39 a0 y31 f) y34 (decide (x63.2.1=15))))))))else(A.gd (Z.R64 (y31+1)) (k39 (y31+1))))
def F.aF (a0:X23):Nat→Int→Option Int
 |0,_=>none
 |f+1,y31=>if y31<((a0).length:Int)then(F.bU (F.aF a0 f) a0 y31 A.FU 0)else(some 0)
def F.bi (a0:X23):Nat→Int→Option Int
 |0,_=>none
 |f+1,y8=>if y8<((a0).length:Int)then((A.ix a0 y8).bind fun x11=>((A.ix a0 y8).bind fun x19=>((F.du x11.2.1 x19.2.2.2.1).bind fun r27=>(if r27≠0 then(some 60)else(A.gd (Z.R64 (y8+1)) ((F.bi a0 f) (y8+1)))))))else(F.aF a0 A.FU 0)
def F.bV (a0:X23):Nat→Int→Option Int
 |0,_=>none
 |f+1,y2=>if y2<((a0).length:Int)then((F.el a0 y2).bind fun r5=>(if(!r5)=true then(some 80)else(A.gd (Z.R64 (y2+1)) ((F.bV a0 f) (y2+1)))))else(F.bi a0 A.FU 0)
def F.dR (a0:X23):Option Int:=if(32:Int)<((a0).length:Int)then(some 80)else(F.bV a0 A.FU 0)
def F.dE (k1:Int→Option Bool)(y3:Int)(y6:Bool):Option Bool:=if y6=true then(some false)else(A.gd (Z.R64 (y3+1)) (k1 (y3+1)))
def F.bW (a0:X23)(a1:X69)(a2:(List Bool)):Nat→Int→Option Bool
 |0,_=>none
 |f+1,y3=>if y3<((a1.2.2.1).length:Int)then(if a1.2.1≠14 then((A.ix a1.2.2.1 y3).bind fun x8=>((F.cq a0 x8).bind fun r14=>((A.ix a2 r14).bind fun x17=>(F.dE (F.bW a0 a1 a2 f) y3 (!x17)))))else(F.dE (F.bW a0 a1 a2 f) y3 false))else(some true)
def F.ee (a0:X23)(a1:X69)(a2:(List Bool)):Option Bool:=F.bW a0 a1 a2 A.FU 0
def F.dF (k5:Int→Int→Option ((List Int)×Bool))(y14:Int)(y17:Int):Option ((List Int)×Bool):=A.gd (Z.R64 (y14+1)) (k5 y17 (y14+1))
def F.cr (k5:Int→Int→Option ((List Int)×Bool))(y12:Int)(y14:Int)(y20:Bool):Option ((List Int)×Bool):=if y20=true then(F.dF k5 y14 y14)else(F.dF k5 y14 y12)
theorem eqn50:True:=(fun _=>trivial) @F.cr.eq_1
def F.bj (k4:(List Bool)→(List Int)→Option ((List Int)×Bool))(a0:X23)(xs6:List Bool)(xs10:List Int):Nat→Int→Int→Option ((List Int)×Bool)
 |0,_,_=>none
 |f+1,y12,y14=>if(bif decide (y14<((a0).length:Int))then decide (y14<((a0).length:Int))else false)=true then(if y12<0 then((A.ix xs6 y14).bind fun x21=>(if(!x21)=true then((A.ix a0 y14).bind fun x26=>((F.ee a0 x26 xs6).bind fun r34=>(F.cr (F.bj k4 a0 xs6 xs10 f) y12 y14 r34)))else(F.cr (F.bj k4 a0 xs6 xs10 f) y12 y14 false)))else(F.cr (F.bj k4 a0 xs6 xs10 f) y12 y14 false))else(if y12<0 then(some ([],false))else((A.ix xs6 y12).bind fun x36=>(A.gd ((List.length (α:=Int) xs10+List.length (α:=Int) [y12])*8≤140737488355328) (k4 (xs6.set y12.toNat true) (xs10++[y12])))))
def F.cs (a0:X23):Nat→(List Bool)→(List Int)→Option ((List Int)×Bool)
 |0,_,_=>none
 |f+1,xs6,xs10=>if((xs10).length:Int)<((a0).length:Int)then(F.bj (F.cs a0 f) a0 xs6 xs10 A.FU (-1) 0)else(some (xs10,true))
def F.dv (a0:X23):Option ((List Int)×Bool):=A.gd (1*((a0).length)≤140737488355328) (F.cs a0 A.FU (List.replicate ((a0).length) false) [])
def F.dG (y6:Int):Option Int:=some y6
def F.aG (y4:Int):Option Int:=if(4:Int)<y4 then(F.dG (-1))else(F.dG y4)
def F.da (y2:Int)(y23:Bool):Option Int:=if y23=true then(if y2≠0 then(F.aG (-1))else(F.aG y2))else(F.aG y2)
def F.ct (a0:X69)(a1:(List Int))(y2:Int)(y10:Bool):Option Int:=if y10=true then((A.ix a1 0).bind fun x11=>((A.ix a1 1).bind fun x17=>(if x11≠x17 then(F.aG (-1))else(F.aG y2))))else(if a0.2.1=11 then(F.da y2 (decide (a0.2.1=11)))else(if a0.2.1=16 then(F.da y2 (decide (a0.2.1=16)))else(F.da y2 (decide (a0.2.1=15)))))
theorem eqn57:True:=(fun _=>trivial) @F.ct.eq_1
def F.cu (a0:X69)(a1:(List Int))(y2:Int):Option Int:=if a0.2.1=14 then(F.aG a0.2.2.2.2.2.2)else(if a0.2.1=12 then(A.gd (Z.R64 (y2+1)) (F.aG (y2+1)))else(if a0.2.1=13 then(A.gd (Z.R64 (y2-1)) (F.aG (y2-1)))else(if a0.2.1=5 then(F.ct a0 a1 y2 (decide (a0.2.1=5)))else(F.ct a0 a1 y2 (decide (a0.2.1=9))))))
theorem eqn58:True:=(fun _=>trivial) @F.cu.eq_1
def F.dS (a0:X69)(a1:(List Int)):Option Int:=if(0:Int)<((a1).length:Int)then((A.ix a1 0).bind fun x24=>(F.cu a0 a1 x24))else(F.cu a0 a1 0)
def F.bG (k5:(List Int)→Int→Option ((List Int)×Bool))(a0:X23)(a1:(List Int))(xs6:List Int)(y8:Int)(x17:X69):Nat→(List Int)→Int→Option ((List Int)×Bool)
 |0,_,_=>none
 |f+1,xs28,y29=>if y29<((x17.2.2.1).length:Int)then((A.ix x17.2.2.1 y29).bind fun x32=>((F.cq a0 x32).bind fun r38=>((A.ix xs6 r38).bind fun x41=>(A.gd ((List.length (α:=Int) xs28+List.length (α:=Int) [x41])*8≤140737488355328) (A.gd (Z.R64 (y29+1)) ((F.bG k5 a0 a1 xs6 y8 x17 f) (xs28++[x41]) (y29+1)))))))else((A.ix a1 y8).bind fun x51=>((F.dS x17 xs28).bind fun r57=>((A.ix xs6 x51).bind fun x60=>((A.ix a1 y8).bind fun x65=>((A.ix (xs6.set x51.toNat r57) x65).bind fun x70=>(if x70<0 then(some ([],false))else(A.gd (Z.R64 (y8+1)) (k5 (xs6.set x51.toNat r57) (y8+1)))))))))
def F.dA (k7:Int→Option ((List Int)×Bool))(y76:Int)(y87:Bool):Option ((List Int)×Bool):=if y87=true then(some ([],false))else(A.gd (Z.R64 (y76+1)) (k7 (y76+1)))
def F.bp (a0:X23)(xs6:List Int):Nat→Int→Option ((List Int)×Bool)
 |0,_=>none
 |f+1,y76=>if y76<((a0).length:Int)then((A.ix a0 y76).bind fun x79=>(if x79.2.1=14 then((A.ix x79.2.2.1 0).bind fun x89=>((F.cq a0 x89).bind fun r95=>((A.ix xs6 r95).bind fun x98=>(F.dA (F.bp a0 xs6 f) y76 (decide (x98≠x79.2.2.2.2.2.2))))))else(F.dA (F.bp a0 xs6 f) y76 false)))else(some (xs6,true))
def F.b6 (a0:X23)(a1:(List Int)):Nat→(List Int)→Int→Option ((List Int)×Bool)
 |0,_,_=>none
 |f+1,xs6,y8=>if y8<((a1).length:Int)then((A.ix a1 y8).bind fun x11=>((A.ix a0 x11).bind fun x17=>(F.bG (F.b6 a0 a1 f) a0 a1 xs6 y8 x17 A.FU [] 0)))else(F.bp a0 xs6 A.FU 0)
def F.db (a0:X23)(a1:(List Int)):Option ((List Int)×Bool):=A.gd (8*((a0).length)≤140737488355328) (F.b6 a0 a1 A.FU (List.replicate ((a0).length) 0) 0)
def F.dH (k8:(List X130)→Int→Option (List X130))(y5:Int)(xs10:List X130):Option (List X130):=A.gd (Z.R64 (y5+1)) (k8 xs10 (y5+1))
def F.bX (k8:(List X130)→Int→Option (List X130))(a0:X23)(a1:(List Int))(y5:Int)(x12:X69):Nat→(List X130)→Int→Option (List X130)
 |0,_,_=>none
 |f+1,xs22,y23=>if y23<((x12.2.2.1).length:Int)then((A.ix x12.2.2.1 y23).bind fun x26=>((F.cq a0 x26).bind fun r32=>((A.ix a1 r32).bind fun x35=>(A.gd ((List.length (α:=X130) xs22+List.length (α:=X130) [((x12.1,y23),x35)])*24≤140737488355328) (A.gd (Z.R64 (y23+1)) ((F.bX k8 a0 a1 y5 x12 f) (xs22++[((x12.1,y23),x35)]) (y23+1)))))))else(if x12.2.1≠15 then((A.ix a1 y5).bind fun x46=>(A.gd ((List.length (α:=X130) xs22+List.length (α:=X130) [((x12.1,2),x46)])*24≤140737488355328) (F.dH k8 y5 (xs22++[((x12.1,2),x46)]))))else(F.dH k8 y5 xs22))
def F.cv (a0:X23)(a1:(List Int)):Nat→(List X130)→Int→Option (List X130)
 |0,_,_=>none
 |f+1,xs4,y5=>if(bif decide (y5<((a0).length:Int))then decide (y5<((a1).length:Int))else false)=true then((A.ix a0 y5).bind fun x12=>(F.bX (F.cv a0 a1 f) a0 a1 y5 x12 A.FU xs4 0))else(some xs4)
def F.ef (a0:X23)(a1:(List Int)):Option (List X130):=F.cv a0 a1 A.FU [] 0
def F.dI (a0:X23)(a1:Int):Option (X69×Bool):=(F.cq a0 a1).bind fun r3=>(if r3<0 then(some ((0,0,[],(0,0,ByteArray.mk #[]),ByteArray.mk #[],0,0),false))else((A.ix a0 r3).bind fun x6=>(A.gd ((List.length (α:=Int) []+List.length (α:=Int) x6.2.2.1)*8≤140737488355328) (some ((x6.1,x6.2.1,[]++x6.2.2.1,x6.2.2.2.1,x6.2.2.2.2.1,x6.2.2.2.2.2.1,x6.2.2.2.2.2.2),true)))))
theorem eqn69:True:=(fun _=>trivial) @F.dI.eq_1
def F.dc (k1:Int→Option Int)(y3:Int)(y6:Bool):Option Int:=if y6=true then(some 20)else(A.gd (Z.R64 (y3+1)) (k1 (y3+1)))
def F.cw (a0:X154):Nat→Int→Option Int
 |0,_=>none
 |f+1,y3=>if y3<4 then((A.ix [a0.2.2.2.2.1,a0.2.2.2.2.2.1,a0.2.2.2.2.2.2.1,a0.2.2.2.2.2.2.2] y3).bind fun x8=>(if x8<0 then(F.dc (F.cw a0 f) y3 true)else((A.ix [a0.2.2.2.2.1,a0.2.2.2.2.2.1,a0.2.2.2.2.2.2.1,a0.2.2.2.2.2.2.2] y3).bind fun x10=>(if(1048576:Int)<x10 then(F.dc (F.cw a0 f) y3 true)else(if a0.2.2.2.1≤y3 then((A.ix [a0.2.2.2.2.1,a0.2.2.2.2.2.1,a0.2.2.2.2.2.2.1,a0.2.2.2.2.2.2.2] y3).bind fun x12=>(F.dc (F.cw a0 f) y3 (decide (x12≠0))))else(F.dc (F.cw a0 f) y3 false))))))else(some 0)
def F.es (a0:X154):Option Int:=A.gd (((bif bif bif bif bif decide (a0.1<0)then true else decide ((4:Int)<a0.1)then true else decide (a0.2.2.2.1<0)then true else decide ((4:Int)<a0.2.2.2.1)then true else decide (a0.2.1<0)then true else decide (a0.1<a0.2.1))=false→Z.R64 (a0.2.1+a0.2.2.2.1))) (if(bif bif bif bif bif bif bif bif decide (a0.1<0)then true else decide ((4:Int)<a0.1)then true else decide (a0.2.2.2.1<0)then true else decide ((4:Int)<a0.2.2.2.1)then true else decide (a0.2.1<0)then true else decide (a0.1<a0.2.1)then true else decide ((4:Int)<a0.2.1+a0.2.2.2.1)then true else decide (a0.2.2.1<0)then true else decide ((1048576:Int)<a0.2.2.1))=true then(some 20)else(if(bif decide (a0.2.1=0)then decide (a0.2.2.1≠0)else false)=true then(some 20)else(F.cw a0 A.FU 0)))
theorem eqn72:True:=(fun _=>trivial) @F.es.eq_1
def F.dJ (a0:Int)(a1:Int)(a2:Int)(a3:Int):Option (X154×Int):=(F.es (a0,a1,a2,a3,(0,0,0,0))).bind fun r3=>(if r3≠0 then(some ((0,0,0,0,(0,0,0,0)),11))else(some ((a0,a1,a2,a3,(0,0,0,0)),0)))
theorem eqn73:True:=(fun _=>trivial) @F.dJ.eq_1
def F.dT (a0:Int):Option (X154×Int):=(F.dJ a0 a0 0 1).bind fun r2=>(some ((r2.1.1,r2.1.2.1,r2.1.2.2.1,r2.1.2.2.2.1,(r2.1.2.2.2.2.1,r2.1.2.2.2.2.2.1,r2.1.2.2.2.2.2.2.1,r2.1.2.2.2.2.2.2.2)),r2.2))
theorem eqn74:True:=(fun _=>trivial) @F.dT.eq_1
def F.dU (a0:Int):Option (X154×Int):=if a0<1 then(some ((0,0,0,0,(0,0,0,0)),11))else(A.gd (Z.R64 (a0-1)) ((F.dJ a0 (a0-1) 0 0).bind fun r3=>(some ((r3.1.1,r3.1.2.1,r3.1.2.2.1,r3.1.2.2.2.1,(r3.1.2.2.2.2.1,r3.1.2.2.2.2.2.1,r3.1.2.2.2.2.2.2.1,r3.1.2.2.2.2.2.2.2)),r3.2))))
theorem eqn75:True:=(fun _=>trivial) @F.dU.eq_1
def F.d9 (a0:Int):Option (X154×Int):=(F.dJ a0 a0 1 0).bind fun r2=>(some ((r2.1.1,r2.1.2.1,r2.1.2.2.1,r2.1.2.2.2.1,(r2.1.2.2.2.2.1,r2.1.2.2.2.2.2.1,r2.1.2.2.2.2.2.2.1,r2.1.2.2.2.2.2.2.2)),r2.2))
theorem eqn76:True:=(fun _=>trivial) @F.d9.eq_1
def F.eg (a0:Int):Option (X154×Int):=(F.dJ a0 a0 0 0).bind fun r2=>(some ((r2.1.1,r2.1.2.1,r2.1.2.2.1,r2.1.2.2.2.1,(r2.1.2.2.2.2.1,r2.1.2.2.2.2.2.1,r2.1.2.2.2.2.2.2.1,r2.1.2.2.2.2.2.2.2)),r2.2))
theorem eqn77:True:=(fun _=>trivial) @F.eg.eq_1
def F.b7 (y15:Int)(y17:Int)(y19:Int)(y21:Int)(y23:Int)(y25:Int)(y27:Int)(y29:Int):Option X154:=some (y15,y17,y19,y21,(y23,y25,y27,y29))
def F.dd (a0:X69)(a1:Int):Option X154:=(F.eg a1).bind fun r3=>(if a0.2.1=12 then((F.dT a1).bind fun r31=>(F.b7 r31.1.1 r31.1.2.1 r31.1.2.2.1 r31.1.2.2.2.1 r31.1.2.2.2.2.1 r31.1.2.2.2.2.2.1 r31.1.2.2.2.2.2.2.1 r31.1.2.2.2.2.2.2.2))else(if a0.2.1=13 then((F.dU a1).bind fun r42=>(F.b7 r42.1.1 r42.1.2.1 r42.1.2.2.1 r42.1.2.2.2.1 r42.1.2.2.2.2.1 r42.1.2.2.2.2.2.1 r42.1.2.2.2.2.2.2.1 r42.1.2.2.2.2.2.2.2))else(if a0.2.1=14 then((F.d9 a1).bind fun r53=>(F.b7 r53.1.1 r53.1.2.1 r53.1.2.2.1 r53.1.2.2.2.1 r53.1.2.2.2.2.1 r53.1.2.2.2.2.2.1 r53.1.2.2.2.2.2.2.1 r53.1.2.2.2.2.2.2.2))else(F.b7 r3.1.1 r3.1.2.1 r3.1.2.2.1 r3.1.2.2.2.1 r3.1.2.2.2.2.1 r3.1.2.2.2.2.2.1 r3.1.2.2.2.2.2.2.1 r3.1.2.2.2.2.2.2.2))))
theorem eqn79:True:=(fun _=>trivial) @F.dd.eq_1
def F.de (k30:(List X157)→Int→Option (List X157))(y5:Int)(xs10:List X157):Option (List X157):=A.gd (Z.R64 (y5+1)) (k30 xs10 (y5+1))
def F.dK (k30:(List X157)→Int→Option (List X157))(y5:Int)(xs33:List X157):Option (List X157):=F.de k30 y5 xs33
def F.dL (k38:(List X157)→Int→Option (List X157))(y80:Int)(xs92:List X157):Option (List X157):=A.gd (Z.R64 (y80+1)) (k38 xs92 (y80+1))
def F.bC (k37:(List X157)→Int→Option (List X157))(a0:X23)(x12:X130)(r18:X69×Bool)(r59:X154×Int)(y74:Int):Nat→(List X157)→Int→Option (List X157)
 |0,_,_=>none
 |f+1,xs79,y80=>(A.ix a0 y74).bind fun x83=>(if y80<((x83.2.2.1).length:Int)then((A.ix a0 y74).bind fun x94=>((A.ix x94.2.2.1 y80).bind fun x102=>(if x102=r18.1.1 then((A.ix a0 y74).bind fun x108=>(A.gd ((List.length (α:=X157) xs79+List.length (α:=X157) [(x12.1,(x108.1,y80),(r59.1.1,r59.1.2.1,r59.1.2.2.1,r59.1.2.2.2.1,(r59.1.2.2.2.2.1,r59.1.2.2.2.2.2.1,r59.1.2.2.2.2.2.2.1,r59.1.2.2.2.2.2.2.2)))])*96≤140737488355328) (F.dL (F.bC k37 a0 x12 r18 r59 y74 f) y80 (xs79++[(x12.1,(x108.1,y80),(r59.1.1,r59.1.2.1,r59.1.2.2.1,r59.1.2.2.2.1,(r59.1.2.2.2.2.1,r59.1.2.2.2.2.2.1,r59.1.2.2.2.2.2.2.1,r59.1.2.2.2.2.2.2.2)))]))))else(F.dL (F.bC k37 a0 x12 r18 r59 y74 f) y80 xs79))))else(A.gd (Z.R64 (y74+1)) (k37 xs79 (y74+1))))
def F.bY (k30:(List X157)→Int→Option (List X157))(a0:X23)(y5:Int)(x12:X130)(r18:X69×Bool)(r59:X154×Int):Nat→(List X157)→Int→Option (List X157)
 |0,_,_=>none
 |f+1,xs73,y74=>if y74<((a0).length:Int)then(F.bC (F.bY k30 a0 y5 x12 r18 r59 f) a0 x12 r18 r59 y74 A.FU xs73 0)else(F.de k30 y5 xs73)
def F.bD (a0:X23)(a1:(List X130)):Nat→(List X157)→Int→Option (List X157)
 |0,_,_=>none
 |f+1,xs4,y5=>if y5<((a1).length:Int)then((A.ix a1 y5).bind fun x12=>((F.dI a0 x12.1.1).bind fun r18=>(if x12.1.2≠2 then(if r18.1.2.1≠15 then((A.ix a1 y5).bind fun x34=>((F.dd r18.1 x34.2).bind fun r40=>(A.gd ((List.length (α:=X157) xs4+List.length (α:=X157) [(x12.1,(r18.1.1,2),(r40.1,r40.2.1,r40.2.2.1,r40.2.2.2.1,(r40.2.2.2.2.1,r40.2.2.2.2.2.1,r40.2.2.2.2.2.2.1,r40.2.2.2.2.2.2.2)))])*96≤140737488355328) (F.dK (F.bD a0 a1 f) y5 (xs4++[(x12.1,(r18.1.1,2),(r40.1,r40.2.1,r40.2.2.1,r40.2.2.2.1,(r40.2.2.2.2.1,r40.2.2.2.2.2.1,r40.2.2.2.2.2.2.1,r40.2.2.2.2.2.2.2)))])))))else(F.dK (F.bD a0 a1 f) y5 xs4))else((A.ix a1 y5).bind fun x54=>((F.eg x54.2).bind fun r59=>(F.bY (F.bD a0 a1 f) a0 y5 x12 r18 r59 A.FU xs4 0))))))else(some xs4)
def F.dV (a0:X23)(a1:(List X130)):Option (List X157):=F.bD a0 a1 A.FU [] 0
def F.dw (a0:(List X130))(a1:X128):Nat→Int→Option Int
 |0,_=>none
 |f+1,y2=>if y2<((a0).length:Int)then((A.ix a0 y2).bind fun x5=>(if x5.1=a1 then((A.ix a0 y2).bind fun x11=>(some x11.2))else(A.gd (Z.R64 (y2+1)) ((F.dw a0 a1 f) (y2+1)))))else(some (-1))
def F.eu (a0:(List X130))(a1:X128):Option Int:=F.dw a0 a1 A.FU 0
def F.dM (a0:X23)(a1:(List X130))(a2:X157)(a3:Int):Option Bool:=(F.dI a0 a2.1.1).bind fun r3=>((F.eu a1 a2.2.1).bind fun r16=>(if a3≤r16 then(some (bif bif decide (r3.1.2.1≠14)then true else decide (r3.1.2.2.2.2.2.2≠a3)then true else decide (a2.1.2=2)))else(some false)))
theorem eqn89:True:=(fun _=>trivial) @F.dM.eq_1
def F.dx (a0:(List X128))(a1:X128):Nat→Int→Option Bool
 |0,_=>none
 |f+1,y2=>if y2<((a0).length:Int)then((A.ix a0 y2).bind fun x5=>(if x5=a1 then(some true)else(A.gd (Z.R64 (y2+1)) ((F.dx a0 a1 f) (y2+1)))))else(some false)
def F.eh (a0:(List X128))(a1:X128):Option Bool:=F.dx a0 a1 A.FU 0
def F.dN (k4:(List X128)→(List X128)→Int→Option Bool)(y20:Int)(xs25:List X128)(xs28:List X128):Option Bool:=A.gd (Z.R64 (y20+1)) (k4 xs25 xs28 (y20+1))
def F.cx (k4:(List X128)→(List X128)→Int→Option Bool)(a2:(List X157))(xs16:List X128)(xs19:List X128)(y20:Int)(y30:Bool):Option Bool:=if y30=true then((A.ix a2 y20).bind fun x31=>(A.gd ((List.length (α:=X128) xs16+List.length (α:=X128) [x31.2.1])*16≤140737488355328) ((A.ix a2 y20).bind fun x40=>(A.gd ((List.length (α:=X128) xs19+List.length (α:=X128) [x40.2.1])*16≤140737488355328) (F.dN k4 y20 (xs16++[x31.2.1]) (xs19++[x40.2.1]))))))else(F.dN k4 y20 xs16 xs19)
theorem eqn93:True:=(fun _=>trivial) @F.cx.eq_1
def F.aY (k3:(List X128)→(List X128)→Int→Option Bool)(a0:X23)(a1:(List X130))(a2:(List X157))(a3:X130)(y11:Int):Nat→(List X128)→(List X128)→Int→Option Bool
 |0,_,_,_=>none
 |f+1,xs16,xs19,y20=>if y20<((a2).length:Int)then((A.ix a2 y20).bind fun x49=>((A.ix xs19 y11).bind fun x55=>(if x49.1=x55 then((A.ix a2 y20).bind fun x60=>((F.dM a0 a1 (x60.1,x60.2.1,(x60.2.2.1,x60.2.2.2.1,x60.2.2.2.2.1,x60.2.2.2.2.2.1,(x60.2.2.2.2.2.2.1,x60.2.2.2.2.2.2.2.1,x60.2.2.2.2.2.2.2.2.1,x60.2.2.2.2.2.2.2.2.2))) a3.2).bind fun r66=>(if r66=true then((A.ix a2 y20).bind fun x68=>((F.eh xs16 x68.2.1).bind fun r74=>(F.cx (F.aY k3 a0 a1 a2 a3 y11 f) a2 xs16 xs19 y20 (!r74))))else(F.cx (F.aY k3 a0 a1 a2 a3 y11 f) a2 xs16 xs19 y20 false))))else(F.cx (F.aY k3 a0 a1 a2 a3 y11 f) a2 xs16 xs19 y20 false))))else(A.gd (Z.R64 (y11+1)) (k3 xs16 xs19 (y11+1)))
def F.df (a0:X23)(a1:(List X130))(a2:(List X157))(a3:X130):Nat→(List X128)→(List X128)→Int→Option Bool
 |0,_,_,_=>none
 |f+1,xs7,xs10,y11=>if y11<((xs10).length:Int)then(F.aY (F.df a0 a1 a2 a3 f) a0 a1 a2 a3 y11 A.FU xs7 xs10 0)else((F.eh xs7 a3.1).bind fun r77=>(some r77))
def F.dW (a0:X23)(a1:(List X130))(a2:(List X157))(a3:X130):Option Bool:=F.df a0 a1 a2 a3 A.FU [] [a3.1] 0
def F.bZ (a0:X23)(r5:(List Int)×Bool)(r9:(List Int)×Bool)(r13:(List X130))(r17:(List X157)):Nat→Int→Option ((List Int)×(List Int)×Int)
 |0,_=>none
 |f+1,y21=>if y21<((r13).length:Int)then((A.ix r13 y21).bind fun x24=>((F.dW a0 r13 r17 (x24.1,x24.2)).bind fun r29=>(if r29=true then(some ([],[],81))else(A.gd (Z.R64 (y21+1)) ((F.bZ a0 r5 r9 r13 r17 f) (y21+1))))))else(some (r5.1,r9.1,0))
def F.cy (a0:X23):Option ((List Int)×(List Int)×Int):=(F.dR a0).bind fun r2=>(if r2≠0 then(some ([],[],r2))else((F.dv a0).bind fun r5=>(if(!r5.2)=true then(some ([],[],81))else((F.db a0 r5.1).bind fun r9=>(if(!r9.2)=true then(some ([],[],80))else((F.ef a0 r9.1).bind fun r13=>((F.dV a0 r13).bind fun r17=>(F.bZ a0 r5 r9 r13 r17 A.FU 0))))))))
theorem eqn98:True:=(fun _=>trivial) @F.cy.eq_1
def F.dX (a0:X23):Option Int:=(F.cy a0).bind fun r2=>(some r2.2.2)
def F.cz (a0:X69):Option X69:=A.gd ((List.length (α:=Int) []+List.length (α:=Int) a0.2.2.1)*8≤140737488355328) (some (a0.1,a0.2.1,[]++a0.2.2.1,a0.2.2.2.1,a0.2.2.2.2.1,a0.2.2.2.2.2.1,a0.2.2.2.2.2.2))
theorem eqn100:True:=(fun _=>trivial) @F.cz.eq_1
def F.dg (a0:(List Int))(a1:Int):Nat→Int→Option Bool
 |0,_=>none
 |f+1,y1=>if y1<((a0).length:Int)then((A.ix a0 y1).bind fun x4=>(if x4=a1 then(some true)else(A.gd (Z.R64 (y1+1)) ((F.dg a0 a1 f) (y1+1)))))else(some false)
def F.ep (a0:(List Int))(a1:Int):Option Bool:=F.dg a0 a1 A.FU 0
def F.dO (k1:(List X69)→Int→Int→Option X23)(y8:Int)(y10:Int)(xs16:List X69):Option X23:=A.gd (Z.R64 (y8+1)) (k1 xs16 (y8+1) y10)
def F.cA (k1:(List X69)→Int→Int→Option X23)(a1:X27)(xs7:List X69)(y10:Int)(y52:Int):Option X23:=(A.ix a1.2.1 y10).bind fun x54=>((F.cz x54).bind fun r62=>(A.gd ((List.length (α:=X69) xs7+List.length (α:=X69) [r62])*104≤140737488355328) (A.gd (Z.R64 (y10+1)) (k1 (xs7++[r62]) y52 (y10+1)))))
theorem eqn104:True:=(fun _=>trivial) @F.cA.eq_1
def F.cB (k1:(List X69)→Int→Int→Option X23)(a1:X27)(xs7:List X69)(y8:Int)(y10:Int)(y79:Bool):Option X23:=if y79=true then(A.gd (Z.R64 (y8+1)) (F.cA k1 a1 xs7 y10 (y8+1)))else(F.cA k1 a1 xs7 y10 y8)
theorem eqn105:True:=(fun _=>trivial) @F.cB.eq_1
def F.bk (k1:(List X69)→Int→Int→Option X23)(a0:X23)(a1:X27)(xs7:List X69)(y8:Int)(y10:Int)(y13:Bool):Option X23:=if y13=true then((A.ix a0 y8).bind fun x18=>((F.ep a1.1 x18.1).bind fun r26=>(if(!r26)=true then((A.ix a0 y8).bind fun x28=>((F.cz x28).bind fun r36=>(A.gd ((List.length (α:=X69) xs7+List.length (α:=X69) [r36])*104≤140737488355328) (F.dO k1 y8 y10 (xs7++[r36])))))else(F.dO k1 y8 y10 xs7))))else(if y8<((a0).length:Int)then((A.ix a0 y8).bind fun x81=>((A.ix a1.2.1 y10).bind fun x89=>(F.cB k1 a1 xs7 y8 y10 (decide (x81.1=x89.1)))))else(F.cB k1 a1 xs7 y8 y10 false))
theorem eqn106:True:=(fun _=>trivial) @F.bk.eq_1
def F.aZ (a0:X23)(a1:X27):Nat→(List X69)→Int→Int→Option X23
 |0,_,_,_=>none
 |f+1,xs7,y8,y10=>if(bif decide (y8<((a0).length:Int))then true else decide (y10<((a1.2.1).length:Int)))=true then(if y10=((a1.2.1).length:Int)then(F.bk (F.aZ a0 a1 f) a0 a1 xs7 y8 y10 true)else(if y8<((a0).length:Int)then((A.ix a0 y8).bind fun x97=>((A.ix a1.2.1 y10).bind fun x105=>(F.bk (F.aZ a0 a1 f) a0 a1 xs7 y8 y10 (decide (x97.1<x105.1)))))else(F.bk (F.aZ a0 a1 f) a0 a1 xs7 y8 y10 false)))else(some xs7)
def F.dy (a0:X23)(a1:X27):Option X23:=F.aZ a0 a1 A.FU [] 0 0
def F.dh (k1:Int→Option Bool)(y2:Int)(y26:Bool):Option Bool:=if y26=true then(some false)else(A.gd (Z.R64 (y2+1)) (k1 (y2+1)))
def F.dP (k1:Int→Option Bool)(a1:(List Int))(y2:Int)(xs7:List Int)(y8:Int)(y10:Int)(y12:Int)(y14:Int)(y16:ByteArray)(y18:ByteArray)(y20:Int)(y22:Int)(y25:Bool):Option Bool:=if(bif !y25 then true else decide (y10=1))=true then(F.dh k1 y2 true)else(if(0:Int)<y2 then(A.gd (Z.R64 (y2-1)) ((A.ix a1 y2).bind fun x29=>((A.ix a1 (y2-1)).bind fun x35=>(F.dh k1 y2 (decide (x29≤x35))))))else(F.dh k1 y2 false))
theorem eqn110:True:=(fun _=>trivial) @F.dP.eq_1
def F.cC (a0:X23)(a1:(List Int)):Nat→Int→Option Bool
 |0,_=>none
 |f+1,y2=>if y2<((a1).length:Int)then((A.ix a1 y2).bind fun x41=>((F.cG a0 x41).bind fun r347=>(F.dP (F.cC a0 a1 f) a1 y2 r347.1.2.2.1 r347.1.1 r347.1.2.1 r347.1.2.2.2.1.1 r347.1.2.2.2.1.2.1 r347.1.2.2.2.1.2.2 r347.1.2.2.2.2.1 r347.1.2.2.2.2.2.1 r347.1.2.2.2.2.2.2 r347.2)))else(some (decide (((a1).length:Int)≤32)))
def F.et (a0:X23)(a1:(List Int)):Option Bool:=F.cC a0 a1 A.FU 0
def F.cc (k1:Int→Option Bool)(y3:Int)(y27:Bool):Option Bool:=if y27=true then(some false)else(A.gd (Z.R64 (y3+1)) (k1 (y3+1)))
def F.dZ (k1:Int→Option Bool)(a1:X27)(y3:Int)(xs8:List Int)(y9:Int)(y11:Int)(y13:Int)(y15:Int)(y17:ByteArray)(y19:ByteArray)(y21:Int)(y23:Int)(y26:Bool):Option Bool:=(A.ix a1.2.1 y3).bind fun x29=>(if x29.2.1=1 then(F.cc k1 y3 true)else(if(bif y26 then decide (y11=1)else false)=true then(F.cc k1 y3 true)else((A.ix a1.2.1 y3).bind fun x37=>((F.ep a1.1 x37.1).bind fun r45=>(if r45=true then(F.cc k1 y3 true)else(if(0:Int)<y3 then(A.gd (Z.R64 (y3-1)) ((A.ix a1.2.1 y3).bind fun x48=>((A.ix a1.2.1 (y3-1)).bind fun x56=>(F.cc k1 y3 (decide (x48.1≤x56.1))))))else(F.cc k1 y3 false)))))))
theorem eqn114:True:=(fun _=>trivial) @F.dZ.eq_1
def F.cQ (a0:X23)(a1:X27):Nat→Int→Option Bool
 |0,_=>none
 |f+1,y3=>if y3<((a1.2.1).length:Int)then((A.ix a1.2.1 y3).bind fun x64=>((F.cG a0 x64.1).bind fun r492=>(F.dZ (F.cQ a0 a1 f) a1 y3 r492.1.2.2.1 r492.1.1 r492.1.2.1 r492.1.2.2.2.1.1 r492.1.2.2.2.1.2.1 r492.1.2.2.2.1.2.2 r492.1.2.2.2.2.1 r492.1.2.2.2.2.2.1 r492.1.2.2.2.2.2.2 r492.2)))else(some (decide (((a1.2.1).length:Int)≤32)))
def F.en (a0:X23)(a1:X27):Option Bool:=F.cQ a0 a1 A.FU 0
def F.ei (a0:Int):Option Bool:=some (bif decide (a0=11)then true else decide (a0=16))
def F.d0 (y31:Bool):Option Bool:=some y31
def F.d1 (y32:Bool):Option Bool:=some y32
def F.dp (a2:X82)(r4:X69×Bool)(y30:Bool):Option Bool:=if y30=true then(some false)else(if a2.2.2.1=1 then(if a2.2.2.2.1=0 then(F.d0 (decide (a2.2.2.2.2=(0,0,ByteArray.mk #[]))))else(F.d0 false))else(if a2.2.2.1=2 then(if(bif bif decide (r4.1.2.1=11)then decide ((0:Int)≤a2.2.2.2.1)else false then decide (a2.2.2.2.1≤1048576)else false)=true then(F.d1 (decide (a2.2.2.2.2=(0,0,ByteArray.mk #[]))))else(F.d1 false))else(if a2.2.2.1=3 then(some (decide (a2.2.2.2.1=0)))else(some false))))
theorem eqn120:True:=(fun _=>trivial) @F.dp.eq_1
def F.dQ (a0:X23)(a1:X27)(a2:X82):Option Bool:=(F.cG a0 a2.1).bind fun r4=>((F.cG a1.2.1 a2.2.1).bind fun r17=>(if(bif !r4.2 then true else !r17.2)=true then(F.dp a2 r4 true)else((F.ei r4.1.2.1).bind fun r33=>(F.dp a2 r4 (bif !r33 then true else decide (r4.1.2.1≠r17.1.2.1))))))
theorem eqn121:True:=(fun _=>trivial) @F.dQ.eq_1
def F.cH (k3:Int→Option Bool)(a1:X27)(y4:Int):Nat→Int→Option Bool
 |0,_=>none
 |f+1,y15=>if y15<y4 then((A.ix a1.2.2 y15).bind fun x18=>((A.ix a1.2.2 y4).bind fun x24=>(if x18.2.1=x24.2.1 then(some false)else(A.gd (Z.R64 (y15+1)) ((F.cH k3 a1 y4 f) (y15+1))))))else(A.gd (Z.R64 (y4+1)) (k3 (y4+1)))
def F.cI (a0:X23)(a1:X27):Nat→Int→Option Bool
 |0,_=>none
 |f+1,y4=>if y4<((a1.2.2).length:Int)then((A.ix a1.2.2 y4).bind fun x7=>((F.dQ a0 a1 x7).bind fun r13=>(if(!r13)=true then(some false)else(F.cH (F.cI a0 a1 f) a1 y4 A.FU 0))))else(some true)
def F.ea (a0:X23)(a1:X27)(y3:Bool):Option Bool:=if y3=true then(some false)else(F.cI a0 a1 A.FU 0)
def F.d5 (a0:X23)(a1:X27):Option Bool:=(F.et a0 a1.1).bind fun r32=>(if(!r32)=true then(F.ea a0 a1 true)else((F.en a0 a1).bind fun r34=>(F.ea a0 a1 (bif !r34 then true else decide ((16:Int)<((a1.2.2).length:Int))))))
theorem eqn125:True:=(fun _=>trivial) @F.d5.eq_1
def F.cZ (a0:X23)(a1:X27):Option Int:=(F.dX a0).bind fun r3=>(if r3≠0 then(some r3)else((F.d5 a0 a1).bind fun r6=>(if(!r6)=true then(some 90)else((F.dy a0 a1).bind fun r8=>((F.dX r8).bind fun r12=>(some r12))))))
theorem eqn126:True:=(fun _=>trivial) @F.cZ.eq_1
def F.ej (a0:X23)(a1:X27):Option (X23×Int):=(F.cZ a0 a1).bind fun r4=>(if r4≠0 then(some ([],r4))else((F.dy a0 a1).bind fun r7=>(some (r7,0))))
theorem eqn127:True:=(fun _=>trivial) @F.ej.eq_1
end Go.Proofs.YtocfaokgoflmhabDoor
end
section
end
section
set_option linter.unusedVariables false
namespace Go.A
open Go.RowKit Go.Z Go.Shelf Go.Proofs Go.Lib
def Hall (W:World):List (Nat×Res)→Prop
 | []=>True
 |p::H=>(p.2.bl=[]∧p.2.ref=none∧p.2.holds W (fun _=>True) (fun _ _=>False))∧Hall W H
theorem Hall.at {W:World}: ∀{H:List (Nat×Res)} {k:Nat} {r:Res},Hall W H→hk H k=some r→r.bl=[]∧r.ref=none∧r.holds W (fun _=>True) (fun _ _=>False)
 | [],_,_,_,h=>by cases h
 |(d,u)::H,k,r,ha,h=>by
  rw[hk_cons]at h
  split at h
  ·injection h with h;subst h;exact ha.1
  ·exact ha.2.at h
theorem Hp.start {W:World}{H:List (Nat×Res)}(h:Hall W H):Hp ⟨0,[],W,[],fun _=>True⟩ H W:=by
 have hb: ∀k b,¬Bk H k b:=fun k b ⟨r,h1,h2⟩=>by rw[(h.at h1).1]at h2;cases h2
 refine⟨Ch.refl W,fun k r hk=>?_,fun k b hB=>(hb k b hB).elim,fun k k' b hB=>(hb k b hB).elim,fun k r j hk hr=>?_⟩
 ·exact Res.to (S:=[]) (h.at hk).2.2 (Ch.refl W) (fun b _ _=>⟨by simp,fun k=>hb k b,.inl trivial⟩) (fun b _ _=>⟨by simp,fun k=>hb k b⟩) (fun i b _ hf=>hf.elim) (by simp)
 ·rw[(h.at hk).2.1]at hr;cases hr
theorem Hall.sh {W:World}{t:Ty}{cs:List Value}{x:t.den}{F:Nat→Prop}(h:t.rep W F cs x):(Res.sh t cs x).bl=[]∧(Res.sh t cs x).ref=none∧(Res.sh t cs x).holds W (fun _=>True) (fun _ _=>False):=
 ⟨rfl,rfl,rep_as h fun _ _ _=>trivial⟩
theorem Hall.ln {W:World}{t:Ty}{A:Option Addr}{c n:Nat}{xs:List t.den}{F:Nat→Prop}(h:(Ty.slice t).rep W F [.slice A xs.length c] xs):(Res.ln t A c xs).bl=[]∧(Res.ln t A c xs).ref=none∧(Res.ln t A c xs).holds W (fun _=>True) (fun _ _=>False):=
 ⟨rfl,rfl,Row.to (S:=[]) (Row.of h) (Ch.refl W) (fun _ _ _=>⟨by simp,trivial⟩) (fun _ _ _=>⟨by simp,fun _ h=>h⟩)⟩
def putCells (cs:List Value):Obj→Obj
 | .cells _ t frozen=>.cells cs.toArray t frozen
 |o=>o
theorem tab_cells {w:World}{g3 g4:Nat}(h:Lib.Utf8Tabs g3 g4 w):Cells w ⟨g3,0,none⟩ tabF∧Cells w ⟨g4,0,none⟩ tabA:=by
 constructor
 ·intro j u hu
  rw[Addr.add_lit,Nat.zero_add]
  have hj:j<256:=by have:=(List.getElem?_eq_some_iff.1 hu).1;simpa[tabF] using this
  have e:tabF[j]?=some (.int .u8 (firstT j)):=by simp[tabF,hj]
  rw[e]at hu;injection hu with hu;subst hu
  exact h.1 j hj
 ·intro j u hu
  rw[Addr.add_lit,Nat.zero_add]
  have hj:j<32:=by have:=(List.getElem?_eq_some_iff.1 hu).1;simpa[tabA] using this
  have e:tabA[j]?=some (.int .u8 (if j%2=0 then accLo (j / 2)else accHi (j / 2))):=by simp[tabA,hj]
  rw[e]at hu;injection hu with hu;subst hu
  have:=h.2 (j / 2) (by omega)
  by_cases he:j%2=0
  ·rw[if_pos he]
   have hj2:j=2*(j / 2):=by omega
   rw[hj2];simpa using this.1
  ·rw[if_neg he]
   have hj2:j=2*(j / 2)+1:=by omega
   have h3:(2*(j / 2)+1) / 2=j / 2:=by omega
   rw[hj2,h3];exact this.2
theorem Hall.tabs {w:World}{g3 g4 i j:Nat}(h:Lib.Utf8Tabs g3 g4 w):Hall w [(i,.el none g3 0 tabF),(j,.el none g4 0 tabA)]:=by
 obtain⟨h1,h2⟩:=tab_cells h
 exact⟨⟨rfl,rfl,h1,World.block_lt_of_cell? w _ (h1 0 (.int .u8 (firstT 0)) (by simp[tabF])),fun _ h=>h⟩,⟨rfl,rfl,h2,World.block_lt_of_cell? w _ (h2 0 (.int .u8 (accLo 0)) (by simp[tabA])),fun _ h=>h⟩,trivial⟩
end Go.A
end
section
namespace Go.Graph
abbrev Fun:=Int×Int×ByteArray
abbrev Nd:=Int×Int×List Int×Fun×ByteArray×Int×Int
abbrev Pl:=Int×Int
abbrev Sp:=Pl×Int
abbrev id (x:Nd):Int:=x.1
abbrev kind (x:Nd):Int:=x.2.1
abbrev fn (x:Nd):Fun:=x.2.2.2.1
abbrev name (x:Nd):ByteArray:=x.2.2.2.2.1
abbrev cap (x:Nd):Int:=x.2.2.2.2.2.1
abbrev dep (x:Nd):Int:=x.2.2.2.2.2.2
def Few (g:List Nd):Prop:=g.length≤40∧∀x,x∈g→x.2.2.1.length≤5000∧x.2.2.2.2.1.size≤5000∧x.2.2.2.1.2.2.size≤5000
theorem Few.in {g:List Nd}{k:Nat}{x:Nd}(h:Few g)(hx:g[k]?=some x):x.2.2.1.length≤5000:=(h.2 x (List.mem_of_getElem? hx)).1
def insK (k:Int):Int:=if k<1∨16<k then-1 else if k=1 then 0 else if k=5∨k=9 then 2 else 1
def letter (c:UInt8):Bool:=decide ((97:Int)≤(c.toNat:Int)∧(c.toNat:Int)≤122∨(65:Int)≤(c.toNat:Int)∧(c.toNat:Int)≤90)
def digit (c:UInt8):Bool:=decide ((48:Int)≤(c.toNat:Int)∧(c.toNat:Int)≤57)
def wordy (l:List UInt8):Bool:=l.all fun c=>letter c||digit c
def named (s:ByteArray):Bool:=decide (s≠ByteArray.mk #[])&&decide ((s.size:Int)≤16)&&letter (Z.bat s 0)&&wordy s.data.toList
theorem drop_bat {s:ByteArray}{i:Nat}(h:i<s.size):s.data.toList.drop i=Z.bat s i::s.data.toList.drop (i+1):=by
 have h':i<s.data.toList.length:=by simpa using h
 rw[List.drop_eq_getElem_cons h']
 have h2:i<s.data.size:=h
 congr 1
 simp[Z.bat,Array.getElem?_eq_getElem h2]
theorem drop_end {s:ByteArray}{i:Nat}(h: ¬i<s.size):s.data.toList.drop i=[]:=
 List.drop_eq_nil_of_le (by have h1:s.data.toList.length=s.size:=rfl;omega)
theorem size_pos {s:ByteArray}(h:s≠ByteArray.mk #[]):0<s.size:=by
 rcases Nat.eq_zero_or_pos s.size with h0|h0
 ·have h1:s.data=#[]:=Array.eq_empty_of_size_eq_zero h0
  exact absurd (by cases s;simp_all) h
 ·exact h0
def idxF (id:Int):Nat→List Nd→Int
 |_,[]=> -1
 |k,x::r=>if x.1=id then(k:Int)else idxF id (k+1) r
def idx (g:List Nd)(id:Int):Int:=idxF id 0 g
def namedF (kd:Int)(s:ByteArray):List Nd→Int×Bool
 | []=>(0,false)
 |x::r=>if kind x=kd∧name x=s then(x.1,true)else namedF kd s r
def z0:Nd:=(0,0,[],(0,0,ByteArray.mk #[]),ByteArray.mk #[],0,0)
def at_ (g:List Nd)(i:Int):Nd:=(g[i.toNat]?).getD z0
def find (g:List Nd)(id:Int):Nd×Bool:=if idx g id<0 then(z0,false)else(at_ g (idx g id),true)
theorem idxF_le (id:Int): ∀(k:Nat) (g:List Nd),-1≤idxF id k g∧idxF id k g<k+g.length
 |k,[]=>by simp[idxF];omega
 |k,x::r=>by
  unfold idxF
  have:=idxF_le id (k+1) r
  by_cases h:x.1=id
  ·rw[if_pos h];simp only[List.length_cons];omega
  ·rw[if_neg h];simp only[List.length_cons];omega
theorem idx_le (g:List Nd)(id:Int): -1≤idx g id∧idx g id<g.length:=by
 have:=idxF_le id 0 g
 unfold idx;omega
theorem at_some {g:List Nd}{i:Int}{x:Nd}{k:Nat}(hk:i=(k:Int))(h:g[k]?=some x):at_ g i=x:=by
 subst hk;simp[at_,h]
def ownT (g:List Nd)(n:Nd):Bool:=if n.2.1≠1∧n.2.1≠15 then decide (n.2.2.2.2.1=ByteArray.mk #[])else named n.2.2.2.2.1&&decide ((namedF n.2.1 n.2.2.2.2.1 g).1=n.1)
def ownC (n:Nd):Prop:=n.2.1=14∧(n.2.2.2.2.2.1<1∨8<n.2.2.2.2.2.1∨n.2.2.2.2.2.2<1∨4<n.2.2.2.2.2.2)∨n.2.1≠14∧(n.2.2.2.2.2.1≠0∨n.2.2.2.2.2.2≠0)
instance (n:Nd):Decidable (ownC n):=by unfold ownC;infer_instance
def own (g:List Nd)(i:Int)(n:Nd):Bool:=
 if n.1<1∨255<n.1∨0<i∧n.1≤(at_ g (i-1)).1∨insK n.2.1<0∨(n.2.2.1.length:Int)≠insK n.2.1 then false else if ownC n then false else ownT g n
def bget (l:List Bool)(i:Int):Bool:=(l[i.toNat]?).getD false
def iget (l:List Int)(i:Int):Int:=(l[i.toNat]?).getD 0
def Fed (g:List Nd):Prop:=∀x,x∈g→∀k,k∈x.2.2.1→0≤idx g k
def readyF (g:List Nd)(done:List Bool)(kd:Int):List Int→Bool
 | []=>true
 |k::r=>if kd≠14∧bget done (idx g k)=false then false else readyF g done kd r
def ready (g:List Nd)(done:List Bool)(n:Nd):Bool:=readyF g done n.2.1 n.2.2.1
def firstF (g:List Nd)(done:List Bool):Nat→List Nd→Int→Int
 |_,[],a=>a
 |i,x::r,a=>firstF g done (i+1) r (if(a<0∧bget done i=false)∧ready g done x=true then i else a)
def orderF (g:List Nd):Nat→List Bool→List Int→Option (List Int)
 |0,_,l=>some l
 |f+1,done,l=>if firstF g done 0 g (-1)<0 then none else orderF g f (done.set (firstF g done 0 g (-1)).toNat true) (l++[firstF g done 0 g (-1)])
def d0:List Int→Int
 | []=>0
 |a::_=>a
def capd (d:Int):Int:=if 4<d then-1 else d
def depthA (n:Nd)(l:List Int):Int:=if n.2.1=14 then n.2.2.2.2.2.2 else if n.2.1=12 then d0 l+1 else if n.2.1=13 then d0 l-1 else
 if n.2.1=5∨n.2.1=9 then(if iget l 0≠iget l 1 then-1 else d0 l)else if n.2.1=11∨n.2.1=16∨n.2.1=15 then(if d0 l≠0 then-1 else d0 l)else d0 l
def depthOf (n:Nd)(l:List Int):Int:=capd (depthA n l)
theorem d0_iget {l:List Int}:iget l 0=d0 l:=by cases l<;>rfl
theorem d0_nil {l:List Int}(h:l.length=0):0=d0 l:=by cases l with
 |nil=>rfl
 |cons a r=>simp at h
def depthsF (g:List Nd):List Int→List Int→Option (List Int)
 | [],d=>some d
 |p::r,d=>if depthOf (at_ g p) ((at_ g p).2.2.1.map fun k=>iget d (idx g k))<0 then none else depthsF g r (d.set p.toNat (depthOf (at_ g p) ((at_ g p).2.2.1.map fun k=>iget d (idx g k))))
def loopsF (g:List Nd)(d:List Int):List Nd→Bool
 | []=>true
 |x::r=>if x.2.1=14∧iget d (idx g (iget x.2.2.1 0))≠x.2.2.2.2.2.2 then false else loopsF g d r
theorem firstF_le (g:List Nd)(done:List Bool): ∀(i:Nat) (l:List Nd) (a:Int),-1≤a→a<i+l.length→ -1≤firstF g done i l a∧firstF g done i l a<i+l.length
 |i,[],a,h1,h2=>by simp[firstF]at*;omega
 |i,x::r,a,h1,h2=>by
  unfold firstF
  simp only[List.length_cons]at h2 ⊢
  have:=firstF_le g done (i+1) r (if(a<0∧bget done i=false)∧ready g done x=true then i else a) (by split<;>omega) (by split<;>omega)
  omega
def depths (g:List Nd)(l:List Int):List Int×Bool:=match depthsF g l (List.replicate g.length 0)with
 |some d=>if loopsF g d g then(d,true)else([],false)
 |none=>([],false)
abbrev inD (g:List Nd) (d:List Int) (l:List Int):List Int:=l.map fun k=>iget d (idx g k)
def InB (d:List Int):Prop:=∀i,0≤iget d i∧iget d i≤4
theorem InB.rep (n:Nat):InB (List.replicate n 0):=fun i=>by
 unfold iget;rw[List.getElem?_replicate];split<;>simp
theorem depthOf_le (n:Nd)(l:List Int):depthOf n l≤4:=by unfold depthOf capd;split<;>omega
theorem InB.set {d:List Int}(h:InB d)(p:Nat){v:Int}(h0:0≤v)(h1:v≤4):InB (d.set p v):=fun i=>by
 unfold iget;rw[List.getElem?_set]
 have:=h i
 unfold iget at this
 split
 ·split<;>simp<;>omega
 ·exact this
theorem InB.d0 {d:List Int}(h:InB d)(g:List Nd)(l:List Int): -1≤Graph.d0 (inD g d l)∧Graph.d0 (inD g d l)≤4:=by
 cases l with
 |nil=>simp[Graph.d0]
 |cons k r=>have:=h (idx g k);simp only[inD,List.map_cons,Graph.d0];omega
theorem inD_take {g:List Nd}{d l:List Int}{k:Nat}{x:Int}(h:l[k]?=some x):inD g d (l.take k)++[iget d (idx g x)]=inD g d (l.take (k+1)):=by
 have h1:=(List.getElem?_eq_some_iff.1 h)
 rw[List.take_add_one,h];simp[inD]
def insS (g:List Nd)(d:List Int)(id:Int):Nat→List Int→List Sp
 |_,[]=>[]
 |k,x::r=>((id,(k:Int)),iget d (idx g x))::insS g d id (k+1) r
def outS (n:Nd)(v:Int):List Sp:=if n.2.1≠15 then [((n.1,2),v)]else []
def spotsF (g:List Nd)(d:List Int):Nat→List Nd→List Sp
 |_,[]=>[]
 |i,n::r=>insS g d n.1 0 n.2.2.1++(outS n (iget d i)++spotsF g d (i+1) r)
def spots (g:List Nd)(d:List Int):List Sp:=spotsF g d 0 g
def atS (p:Pl):List Sp→Int
 | []=> -1
 |x::r=>if x.1=p then x.2 else atS p r
abbrev Sm:=Int×Int×Int×Int×(Int×Int×Int×Int)
def z8:Sm:=(0,0,0,0,(0,0,0,0))
def stepP (d a b:Int)(s:Sm):Sm×Int:=if d<a∨b<d then(z8,11)else((d,s.2),0)
def idP (d:Int):Sm×Int:=stepP d 0 4 (0,d,0,0,(0,0,0,0))
def enterP (d:Int):Sm×Int:=stepP d 0 3 (0,d,0,1,(0,0,0,0))
def leaveP (d:Int):Sm×Int:=stepP d 1 4 (0,d-1,0,0,(0,0,0,0))
def nextP (d:Int):Sm×Int:=stepP d 1 4 (0,d,1,0,(0,0,0,0))
def withinP (n:Nd)(d:Int):Sm:=if n.2.1=12 then(enterP d).1 else if n.2.1=13 then(leaveP d).1 else if n.2.1=14 then(nextP d).1 else(idP d).1
theorem width_pos (s:ByteArray)(pos:Nat):1≤(Utf8.decode s pos).2:=by
 unfold Utf8.decode;simp only[];repeat' split
 all_goals first|exact Nat.le_refl 1|(simp;done)|omega
def numberF (f:Fun):Bool:=if f.1=3∨f.1=13 then decide (0≤f.2.1∧f.2.1≤64)else if f.1=6∨f.1=11 then decide (1≤f.2.1∧f.2.1≤1048576)else decide (f.2.1=0)
def tail5 (c:UInt8):Bool:=decide (128≤(c.toNat:Int)∧(c.toNat:Int)≤191)
end Go.Graph
end
section
set_option linter.unusedVariables false
set_option linter.unusedSimpArgs false
namespace Go.A
open Go.Z
theorem r64n {n:Nat}(h:n<4611686018427387904):R64 ((n:Int)+1):=⟨by omega,by omega⟩
theorem gd1 {α:Type}{p:Prop}[Decidable p](h:p)(x:Option α):gd p x=x:=if_pos h
theorem ixn {α:Type}{xs:List α}{k:Nat}{x:α}(h:xs[k]?=some x):ix xs (k:Int)=some x:=by rw[ix_nat];exact h
theorem ixg {α:Type}{xs:List α}{i:Int}{x:α}(h0:0≤i)(h:xs[i.toNat]?=some x):ix xs i=some x:=by unfold ix;rw[if_neg (by omega)];exact h
theorem dropx {α:Type}{xs:List α}{k:Nat}{x:α}(h:xs[k]?=some x):xs.drop k=x::xs.drop (k+1):=by
 obtain⟨h1,h2⟩:=List.getElem?_eq_some_iff.1 h
 rw[List.drop_eq_getElem_cons h1,h2]
theorem ba {p q:Prop}[Decidable p][Decidable q]:(bif decide p then decide q else false)=decide (p∧q):=by by_cases h:p<;>simp[h]
theorem bo {p q:Prop}[Decidable p][Decidable q]:(bif decide p then true else decide q)=decide (p∨q):=by by_cases h:p<;>simp[h]
theorem bn {p:Prop}[Decidable p]:(!decide p)=decide (¬p):=by by_cases h:p<;>simp[h]
theorem lp {α σ ρ:Type}(xs:List α)(L:Nat→σ→Int→Option ρ)(G:Nat→List α→σ→Option ρ)(P:Nat→σ→Prop)
  (h0: ∀f s,P xs.length s→L (f+1) s (xs.length:Int)=G xs.length [] s)
  (h1: ∀f s (k:Nat) x,xs[k]?=some x→k<xs.length→P k s→(∀s',P (k+1) s'→L f s' ((k:Int)+1)=G (k+1) (xs.drop (k+1)) s')→L (f+1) s k=G k (x::xs.drop (k+1)) s)
  (hl:xs.length<FU) (s:σ) (hs:P 0 s):L FU s 0=G 0 xs s:=by
 have main: ∀(n k f:Nat) (s:σ),k+n=xs.length→n<f→P k s→L f s (k:Int)=G k (xs.drop k) s:=by
  intro n
  induction n with
  |zero=>
   intro k f s hk hf hp
   obtain⟨f,rfl⟩: ∃f',f=f'+1:=⟨f-1,by omega⟩
   obtain rfl:k=xs.length:=by omega
   rw[List.drop_eq_nil_of_le (Nat.le_refl _)];exact h0 f s hp
  |succ n ih=>
   intro k f s hk hf hp
   obtain⟨f,rfl⟩: ∃f',f=f'+1:=⟨f-1,by omega⟩
   have hx:xs[k]?=some xs[k]:=List.getElem?_eq_getElem (by omega)
   rw[dropx hx]
   exact h1 f s k _ hx (by omega) hp fun s' hp'=>ih (k+1) f s' (by omega) (by omega) hp'
 have:=main xs.length 0 FU s (by omega) hl hs
 simpa using this
theorem lp0 {α ρ:Type}(xs:List α)(L:Nat→Int→Option ρ)(G:Nat→List α→Option ρ)
  (h0: ∀f,L (f+1) (xs.length:Int)=G xs.length [])
  (h1: ∀f (k:Nat) x,xs[k]?=some x→k<xs.length→L f ((k:Int)+1)=G (k+1) (xs.drop (k+1))→L (f+1) k=G k (x::xs.drop (k+1)))
  (hl:xs.length<FU):L FU 0=G 0 xs:=
 lp xs (fun f (_:Unit) y=>L f y) (fun k l _=>G k l) (fun _ _=>True) (fun f s _=>h0 f) (fun f s k x hx hk _ ih=>h1 f k x hx hk (ih () trivial)) hl () trivial
end Go.A
namespace Go.Proofs.YtocfaokgoflmhabDoor
open Go.RowKit Go.Graph
theorem FU_big:(1000000000000:Nat)<A.FU:=by decide
theorem Ins_eq (k:Int):F.cU k=F.cY k:=rfl
theorem R08_Ins_eq (k:Int):F.cY k=some (insK k):=by
 unfold F.cY insK
 simp only[Bool.cond_decide]
 by_cases h1:k<1<;>by_cases h2:16<k<;>simp[h1,h2]
 by_cases h3:k=1
 ·simp[h3]
 ·by_cases h4:k=5<;>by_cases h5:k=9<;>simp[h3,h4,h5]
theorem ixb {s:ByteArray}{k:Nat}(h:k<s.size):A.ix s.data.toList (k:Int)=some (Z.bat s k):=by
 refine A.ixn ?_
 have:=drop_bat h
 rw[←List.head?_drop,this];rfl
theorem size_list (s:ByteArray):s.data.toList.length=s.size:=rfl
theorem letter_eq (c:UInt8):F.c7 c=some (letter c):=by
 unfold F.c7 letter
 by_cases h1:(97:Int)≤(c.toNat:Int)<;>by_cases h2:(c.toNat:Int)≤122<;>simp[h1,h2]
theorem digit_eq (c:UInt8):F.ec c=some (digit c):=by
 unfold F.ec digit
 by_cases h1:(48:Int)≤(c.toNat:Int)<;>by_cases h2:(c.toNat:Int)≤57<;>simp[h1,h2]
theorem name_eq (s:ByteArray)(hs:s.size≤5000):F.d7 s=some (named s):=by
 have loop:F.bK s A.FU 0=some (wordy s.data.toList):=A.lp0 s.data.toList (fun f y=>F.bK s f y) (fun _ l=>some (wordy l))
  (fun f=>by rw[F.bK,if_neg (by rw[size_list];omega)];rfl)
  (fun f k x hx hk ih=>by
   have hk':k<s.size:=hk
   rw[F.bK,if_pos (by omega),A.ixn hx,Option.bind_some,letter_eq,Option.bind_some]
   cases hl:letter x with
   |true=>
    simp only[Bool.not_true,Bool.false_eq_true,if_false,F.dm]
    rw[A.gd1 (A.r64n (by omega)),ih];simp[wordy,hl]
   |false=>
    simp only[Bool.not_false,if_true,A.ixn hx,Option.bind_some,digit_eq,F.dm]
    cases hd:digit x with
    |true=>simp only[Bool.not_true,Bool.false_eq_true,if_false];rw[A.gd1 (A.r64n (by omega)),ih];simp[wordy,hl,hd]
    |false=>simp[wordy,hl,hd])
  (by rw[size_list];have:=FU_big;omega)
 unfold F.d7 named
 by_cases h1:s=ByteArray.mk #[]
 ·simp[h1,F.cO]
 ·by_cases h2:(16:Int)<(s.size:Int)
  ·have h2': ¬(s.size:Int)≤16:=by omega
   simp[h1,h2,h2',F.cO]
  ·have h2':(s.size:Int)≤16:=by omega
   have h0:=size_pos h1
   have e0:A.ix s.data.toList 0=some (Z.bat s 0):=ixb h0
   simp only[h1,h2,h2',decide_false,cond_false,Bool.false_eq_true,if_false,e0,Option.bind_some,letter_eq,F.cO,loop,decide_true,ne_eq,not_false_eq_true,Bool.and_true,Bool.true_and]
   cases letter (Z.bat s 0)<;>simp
end Go.Proofs.YtocfaokgoflmhabDoor
end
section
set_option linter.unusedVariables false
set_option linter.unusedSimpArgs false
set_option synthInstance.maxSize 1000000
set_option synthInstance.maxHeartbeats 400000
namespace Go.Proofs.YtocfaokgoflmhabDoor
open Go.RowKit Go.Graph
theorem bat_get (s:ByteArray)(i:Nat):(s.get! i)=Z.bat s i:=by
 cases s;simp[ByteArray.get!,Z.bat,getElem!_def,Option.getD]
 rfl
theorem dec_at (s:ByteArray)(i:Nat):Utf8.decode s i=Lib.decodeN (s.size-i) (Z.bat s i).toNat (Z.bat s (i+1)).toNat (Z.bat s (i+2)).toNat (Z.bat s (i+3)).toNat:=by
 rw[Lib.decode_at,bat_get,bat_get,bat_get,bat_get]
theorem dec_lt {s:ByteArray}{i:Nat}(h:(Z.bat s i).toNat <128):Utf8.decode s i=((Z.bat s i).toNat,1):=by
 rw[dec_at];unfold Lib.decodeN;rw[if_pos h]
theorem dec_ge {s:ByteArray}{i:Nat}(h:128≤(Z.bat s i).toNat):128≤(Utf8.decode s i).1:=by
 rw[dec_at];unfold Lib.decodeN;rw[if_neg (by omega)]
 repeat' split
 all_goals first|(simp only[];omega)|decide
theorem named_eq (s:ByteArray)(hs:s.size≤5000):F.br s=some (named s):=by
 have loop: ∀(n p f:Nat),s.size-p≤n→n<f→F.ao s f p=some ((if p=0∧0<s.size then letter (Z.bat s 0)else true)&&wordy (s.data.toList.drop p)&&(decide (s≠ByteArray.mk #[])&&decide ((s.size:Int)≤16))):=by
  intro n
  induction n with
  |zero=>
   intro p f hp hf
   obtain⟨f,rfl⟩: ∃f',f=f'+1:=⟨f-1,by omega⟩
   rw[F.ao,if_neg (by omega),drop_end (by omega),if_neg (by omega)]
   by_cases h1:s=ByteArray.mk #[]<;>simp[h1,wordy]
  |succ n ih=>
   intro p f hp hf
   obtain⟨f,rfl⟩: ∃f',f=f'+1:=⟨f-1,by omega⟩
   by_cases hp2:p<s.size
   ·rw[F.ao,if_pos hp2,drop_bat hp2]
    rcases Nat.lt_or_ge (Z.bat s p).toNat 128 with hc|hc
    ·rw[dec_lt hc]
     have ih1:=ih (p+1) f (by omega) (by omega)
     rw[if_neg (fun h=>by omega)]at ih1
     simp only[ih1]
     have e1:(bif decide ((97:Int)≤((Z.bat s p).toNat:Int))then decide (((Z.bat s p).toNat:Int)≤122)else false)=decide ((97:Int)≤((Z.bat s p).toNat:Int)∧((Z.bat s p).toNat:Int)≤122):=by by_cases h:(97:Int)≤((Z.bat s p).toNat:Int)<;>simp[h]
     have e2:(bif decide ((65:Int)≤((Z.bat s p).toNat:Int))then decide (((Z.bat s p).toNat:Int)≤90)else false)=decide ((65:Int)≤((Z.bat s p).toNat:Int)∧((Z.bat s p).toNat:Int)≤90):=by by_cases h:(65:Int)≤((Z.bat s p).toNat:Int)<;>simp[h]
     rw[e1,e2]
     by_cases hL:letter (Z.bat s p)=true
     ·have hL':=hL
      simp only[letter,decide_eq_true_eq]at hL'
      have e3:(if p=0∧0<s.size then letter (Z.bat s 0)else true)=true:=by split;rename_i h;rw[←h.1];exact hL;rfl
      rw[e3]
      simp only[wordy,List.all_cons,hL,Bool.true_or,Bool.true_and]
      by_cases h1:(97:Int)≤((Z.bat s p).toNat:Int)∧((Z.bat s p).toNat:Int)≤122
      ·simp[h1]
      ·have h2:=hL'.resolve_left h1
       simp[h1,h2]
     ·have hL':=hL
      simp only[letter,decide_eq_true_eq,not_or]at hL'
      rw[Bool.not_eq_true]at hL
      simp only[hL'.1,hL'.2,decide_false,Bool.false_eq_true,if_false,Bool.not_false,if_true]
      simp only[wordy,List.all_cons,hL,Bool.false_or]
      by_cases h0:p=0
      ·subst h0;simp[hp2,hL]
      ·have h0': ¬(p:Int)=0:=by omega
       simp only[h0,h0',decide_false,cond_false,false_and,if_false,Bool.true_and]
       by_cases hd:digit (Z.bat s p)=true
       ·have hd':=hd
        simp only[digit,decide_eq_true_eq]at hd'
        have a1: ¬((Z.bat s p).toNat:Int)<48:=by omega
        have a2: ¬(57:Int)<((Z.bat s p).toNat:Int):=by omega
        simp[a1,a2,hd]
       ·have hd':=hd
        simp only[digit,decide_eq_true_eq]at hd'
        rw[Bool.not_eq_true]at hd
        by_cases a1:((Z.bat s p).toNat:Int)<48
        ·simp[a1,hd]
        ·have a2:(57:Int)<((Z.bat s p).toNat:Int):=by omega
         simp[a1,a2,hd]
    ·have hd:=dec_ge hc
     have hL:letter (Z.bat s p)=false:=by unfold letter;rw[decide_eq_false_iff_not];omega
     have hD:digit (Z.bat s p)=false:=by unfold digit;rw[decide_eq_false_iff_not];omega
     have b1: ¬((Utf8.decode s p).1:Int)≤122:=by omega
     have b2: ¬((Utf8.decode s p).1:Int)≤90:=by omega
     have b3:(57:Int)<((Utf8.decode s p).1:Int):=by omega
     have b4: ¬((Utf8.decode s p).1:Int)<48:=by omega
     simp[b1,b2,b3,b4,wordy,hL,hD]
   ·rw[F.ao,if_neg hp2,drop_end hp2,if_neg (by omega)]
    by_cases h1:s=ByteArray.mk #[]<;>simp[h1,wordy]
 unfold F.br
 rw[loop s.size 0 A.FU (by omega) (by have:=FU_big;omega)]
 unfold named
 by_cases h1:s=ByteArray.mk #[]
 ·simp[h1]
 ·have h0:=size_pos h1
  simp only[h0,and_self,if_true,List.drop_zero,ne_eq,h1,not_false_eq_true,decide_true,Bool.true_and]
  congr 1
  cases letter (Z.bat s 0)<;>cases wordy s.data.toList<;>simp
end Go.Proofs.YtocfaokgoflmhabDoor
end
section
set_option maxRecDepth 20000
set_option linter.unusedVariables false
set_option linter.unusedSimpArgs false
namespace Go.Proofs.YtocfaokgoflmhabDoor
open Go.RowKit Go.Graph
theorem tail_eq (c:UInt8):F.cl c=some (tail5 c):=by
 unfold F.cl tail5
 by_cases h1:(128:Int)≤(c.toNat:Int)<;>by_cases h2:(c.toNat:Int)≤191<;>simp[h1,h2]
theorem ixk (s:ByteArray)(p k:Nat):A.ix s.data.toList ((p:Int)+(k:Int))=if p+k<s.size then some (Z.bat s (p+k))else none:=by
 have e:(p:Int)+(k:Int)=((p+k:Nat):Int):=by omega
 rw[e]
 by_cases h:p+k<s.size
 ·rw[if_pos h];exact ixb h
 ·rw[if_neg h,A.ix_nat];exact List.getElem?_eq_none (by rw[size_list];omega)
def wid (s:ByteArray)(p:Nat):Nat:=if Utf8.decode s p=(65533,1)then 0 else(Utf8.decode s p).2
theorem wid_le {s:ByteArray}{p:Nat}(h:p<s.size):p+wid s p≤s.size:=by
 unfold wid
 split
 ·omega
 ·rw[dec_at]
  unfold Lib.decodeN
  repeat' split
  all_goals simp only[]
  all_goals omega
def widN (n a b c d:Nat):Nat:=
 if a<128 then 1
 else if(194≤a∧a≤223)∧2≤n∧(128≤b∧b≤191)then 2
 else if(224≤a∧a≤239)∧3≤n∧(128≤b∧b≤191)∧(128≤c∧c≤191)∧¬(a=224∧b<160)∧¬(a=237∧159<b)then 3
 else if(240≤a∧a≤244)∧4≤n∧(128≤b∧b≤191)∧(128≤c∧c≤191)∧(128≤d∧d≤191)∧¬(a=240∧b<144)∧¬(a=244∧143<b)then 4
 else 0
theorem pq (c:Prop)[Decidable c](x w:Nat)(hw:w≠1):(if(if c then(x,w)else(65533,1))=(65533,1)then 0 else(if c then(x,w)else(65533,1)).2)=if c then w else 0:=by
 by_cases h:c<;>simp[h,hw]
theorem widN_eq (n a b c d:Nat)(ha:a<256)(hb:b<256)(hc:c<256)(hd:d<256):(if Lib.decodeN n a b c d=(65533,1)then 0 else(Lib.decodeN n a b c d).2)=widN n a b c d:=by
 unfold Lib.decodeN widN
 by_cases h0:a<128
 ·simp only[h0,if_true,Prod.mk.injEq];rw[if_neg (by omega)]
 ·simp only[h0,if_false]
  by_cases h1:a / 32=6∧1<n∧b / 64=2
  ·simp only[if_pos h1]
   rw[pq _ _ _ (by decide)]
   repeat' split
   all_goals omega
  ·simp only[if_neg h1]
   by_cases h3:a / 16=14∧(1<n∧b / 64=2)∧2<n∧c / 64=2
   ·simp only[if_pos h3]
    rw[pq _ _ _ (by decide)]
    repeat' split
    all_goals omega
   ·simp only[if_neg h3]
    by_cases h5:a / 8=30∧(1<n∧b / 64=2)∧(2<n∧c / 64=2)∧3<n∧d / 64=2
    ·simp only[if_pos h5]
     rw[pq _ _ _ (by decide)]
     repeat' split
     all_goals omega
    ·simp only[if_neg h5,if_true]
     repeat' split
     all_goals omega
theorem wid_N (s:ByteArray)(p:Nat):wid s p=widN (s.size-p) (Z.bat s p).toNat (Z.bat s (p+1)).toNat (Z.bat s (p+2)).toNat (Z.bat s (p+3)).toNat:=by
 rw[←widN_eq _ _ _ _ _ (UInt8.toNat_lt _) (UInt8.toNat_lt _) (UInt8.toNat_lt _) (UInt8.toNat_lt _),←dec_at];rfl
theorem cnd {α:Type}{p:Prop}[Decidable p](x y:α):(bif decide p then x else y)=if p then x else y:=by by_cases h:p<;>simp[h]
set_option maxHeartbeats 4000000 in
theorem width_eq (s:ByteArray)(p:Nat)(hp:p<s.size)(hs:s.size≤5000):F.dt s p=some (wid s p:Int):=by
 have i1:A.ix s.data.toList ((p:Int)+1)=if p+1<s.size then some (Z.bat s (p+1))else none:=ixk s p 1
 have i2:A.ix s.data.toList ((p:Int)+2)=if p+2<s.size then some (Z.bat s (p+2))else none:=ixk s p 2
 have i3:A.ix s.data.toList ((p:Int)+3)=if p+3<s.size then some (Z.bat s (p+3))else none:=ixk s p 3
 have r1:Z.R64 ((p:Int)+1):=⟨by omega,by omega⟩
 have r2:Z.R64 ((p:Int)+2):=⟨by omega,by omega⟩
 have r3:Z.R64 ((p:Int)+3):=⟨by omega,by omega⟩
 unfold F.dt
 rw[A.gd1 ⟨by omega,by omega⟩,ixb hp,Option.bind_some,A.gd1 r1,i1,wid_N]
 generalize Z.bat s p=c0 at*
 generalize Z.bat s (p+1)=c1 at*
 generalize Z.bat s (p+2)=c2 at*
 generalize Z.bat s (p+3)=c3 at*
 have t (c:UInt8):tail5 c=decide (128≤c.toNat∧c.toNat≤191):=by unfold tail5;congr 1;exact propext ⟨fun h=>by omega,fun h=>by omega⟩
 by_cases h1:(1:Int)<(s.size:Int)-(p:Int)
 ·rw[if_pos h1,if_pos (by omega),Option.bind_some]
  simp only[F.cn,F.cm,F.bT,F.bB,tail_eq,Option.bind_some,t,A.gd1 r2,A.gd1 r3,i2,i3]
  unfold widN
  generalize hn:s.size-p=n
  have e2:((2:Int)≤(s.size:Int)-(p:Int))=(2≤n):=propext ⟨fun h=>by omega,fun h=>by omega⟩
  have e3:((3:Int)≤(s.size:Int)-(p:Int))=(3≤n):=propext ⟨fun h=>by omega,fun h=>by omega⟩
  have e4:((4:Int)≤(s.size:Int)-(p:Int))=(4≤n):=propext ⟨fun h=>by omega,fun h=>by omega⟩
  have f2:(p+2<s.size)=(3≤n):=propext ⟨fun h=>by omega,fun h=>by omega⟩
  have f3:(p+3<s.size)=(4≤n):=propext ⟨fun h=>by omega,fun h=>by omega⟩
  have hn2:2≤n:=by omega
  simp only[e2,e3,e4,f2,f3,A.ba,decide_eq_true_eq,hn2,and_true,true_and]
  have q0:((c0.toNat:Int)<128)=(c0.toNat<128):=propext ⟨fun h=>by omega,fun h=>by omega⟩
  have q1:((194:Int)≤(c0.toNat:Int)∧(c0.toNat:Int)≤223)=(194≤c0.toNat∧c0.toNat≤223):=propext ⟨fun h=>by omega,fun h=>by omega⟩
  have q2:((224:Int)≤(c0.toNat:Int)∧(c0.toNat:Int)≤239)=(224≤c0.toNat∧c0.toNat≤239):=propext ⟨fun h=>by omega,fun h=>by omega⟩
  have q3:((240:Int)≤(c0.toNat:Int)∧(c0.toNat:Int)≤244)=(240≤c0.toNat∧c0.toNat≤244):=propext ⟨fun h=>by omega,fun h=>by omega⟩
  have q4:((c0.toNat:Int)=224∧(c1.toNat:Int)<160)=(c0.toNat=224∧c1.toNat<160):=propext ⟨fun h=>by omega,fun h=>by omega⟩
  have q5:((c0.toNat:Int)=237∧(159:Int)<(c1.toNat:Int))=(c0.toNat=237∧159<c1.toNat):=propext ⟨fun h=>by omega,fun h=>by omega⟩
  have q6:((c0.toNat:Int)=240∧(c1.toNat:Int)<144)=(c0.toNat=240∧c1.toNat<144):=propext ⟨fun h=>by omega,fun h=>by omega⟩
  have q7:((c0.toNat:Int)=244∧(143:Int)<(c1.toNat:Int))=(c0.toNat=244∧143<c1.toNat):=propext ⟨fun h=>by omega,fun h=>by omega⟩
  simp only[q0,q1,q2,q3,q4,q5,q6,q7]
  have x1:240≤c0.toNat∧c0.toNat≤244→¬(224≤c0.toNat∧c0.toNat≤239):=fun h h2=>by omega
  have x2:240≤c0.toNat∧c0.toNat≤244→¬(194≤c0.toNat∧c0.toNat≤223):=fun h h2=>by omega
  have x3:224≤c0.toNat∧c0.toNat≤239→¬(194≤c0.toNat∧c0.toNat≤223):=fun h h2=>by omega
  by_cases K0:c0.toNat<128
  ·simp[K0]
  by_cases m1:128≤c1.toNat∧c1.toNat≤191
  ·by_cases K1:194≤c0.toNat∧c0.toNat≤223
   ·simp only[if_neg K0,if_pos K1,if_pos m1,K1,m1,and_self,if_true];rfl
   ·by_cases K2:224≤c0.toNat∧c0.toNat≤239
    ·have K3: ¬(240≤c0.toNat∧c0.toNat≤244):=fun h=>x1 h K2
     by_cases k3:3≤n
     ·by_cases m2:128≤c2.toNat∧c2.toNat≤191
      ·by_cases y1:c0.toNat=224∧c1.toNat<160
       ·simp only[if_neg K0,if_neg K1,if_pos (And.intro K2 k3),if_pos m1,if_pos k3,Option.bind_some,if_pos m2,eq_true y1,if_true,false_and,K1,K3,eq_true y1,not_true_eq_false,and_false,if_false];rfl
       ·by_cases y2:c0.toNat=237∧159<c1.toNat
        ·simp only[if_neg K0,if_neg K1,if_pos (And.intro K2 k3),if_pos m1,if_pos k3,Option.bind_some,if_pos m2,if_neg y1,eq_true y2,if_true,false_and,K1,K3,eq_true y2,not_true_eq_false,and_false,if_false];rfl
        ·simp only[if_neg K0,if_neg K1,if_pos (And.intro K2 k3),if_pos m1,if_pos k3,Option.bind_some,if_pos m2,if_neg y1,if_neg y2,false_and,K1,K2,k3,m1,m2,y1,y2,not_false_eq_true,and_self,if_true,if_false];rfl
      ·simp only[if_neg K0,if_neg K1,if_pos (And.intro K2 k3),if_pos m1,if_pos k3,Option.bind_some,if_neg m2,if_neg K3,false_and,K1,K3,m2,and_false,if_false,Bool.false_eq_true];rfl
     ·simp only[if_neg K0,if_neg K1,k3,and_false,if_neg K3,false_and,K1,K3,if_false];rfl
    ·by_cases K3:240≤c0.toNat∧c0.toNat≤244
     ·by_cases k4:4≤n
      ·have k3:3≤n:=by omega
       by_cases m2:128≤c2.toNat∧c2.toNat≤191
       ·by_cases m3:128≤c3.toNat∧c3.toNat≤191
        ·by_cases y1:c0.toNat=240∧c1.toNat<144
         ·simp only[if_neg K0,if_neg K1,if_neg K2,K2,false_and,if_pos (And.intro K3 k4),if_pos m1,if_pos k3,if_pos k4,Option.bind_some,if_pos m2,if_pos m3,eq_true y1,if_true,K1,eq_true y1,not_true_eq_false,and_false,if_false];rfl
         ·by_cases y2:c0.toNat=244∧143<c1.toNat
          ·simp only[if_neg K0,if_neg K1,if_neg K2,K2,false_and,if_pos (And.intro K3 k4),if_pos m1,if_pos k3,if_pos k4,Option.bind_some,if_pos m2,if_pos m3,if_neg y1,eq_true y2,if_true,K1,eq_true y2,not_true_eq_false,and_false,if_false];rfl
          ·simp only[if_neg K0,if_neg K1,if_neg K2,K2,false_and,if_pos (And.intro K3 k4),if_pos m1,if_pos k3,if_pos k4,Option.bind_some,if_pos m2,if_pos m3,if_neg y1,if_neg y2,K1,K3,k4,m1,m2,m3,y1,y2,not_false_eq_true,and_self,if_true,if_false];rfl
        ·simp only[if_neg K0,if_neg K1,if_neg K2,K2,false_and,if_pos (And.intro K3 k4),if_pos m1,if_pos k3,if_pos k4,Option.bind_some,if_pos m2,if_neg m3,K1,m3,and_false,if_false,Bool.false_eq_true];rfl
       ·simp only[if_neg K0,if_neg K1,if_neg K2,K2,false_and,if_pos (And.intro K3 k4),if_pos m1,if_pos k3,Option.bind_some,if_neg m2,K1,m2,and_false,if_false,Bool.false_eq_true];rfl
      ·simp only[if_neg K0,if_neg K1,if_neg K2,K2,false_and,k4,and_false,K1,if_false];rfl
     ·simp only[if_neg K0,if_neg K1,if_neg K2,if_neg K3,K1,K2,K3,false_and,if_false];rfl
  ·simp[K0,m1]
 ·rw[if_neg h1]
  simp only[F.cn,F.cm,F.bT,F.bB,A.ba,decide_eq_true_eq]
  unfold widN
  have w0:(c0.toNat:Int)<128↔c0.toNat<128:=⟨fun h=>by omega,fun h=>by omega⟩
  by_cases h2:c0.toNat<128
  ·rw[if_pos (w0.2 h2),if_pos h2];rfl
  ·have a1: ¬((194≤c0.toNat∧c0.toNat≤223)∧2≤s.size-p∧128≤c1.toNat∧c1.toNat≤191):=fun h=>by omega
   have a2: ¬((224≤c0.toNat∧c0.toNat≤239)∧3≤s.size-p∧(128≤c1.toNat∧c1.toNat≤191)∧(128≤c2.toNat∧c2.toNat≤191)∧¬(c0.toNat=224∧c1.toNat<160)∧¬(c0.toNat=237∧159<c1.toNat)):=fun h=>by omega
   have a3: ¬((240≤c0.toNat∧c0.toNat≤244)∧4≤s.size-p∧(128≤c1.toNat∧c1.toNat≤191)∧(128≤c2.toNat∧c2.toNat≤191)∧(128≤c3.toNat∧c3.toNat≤191)∧¬(c0.toNat=240∧c1.toNat<144)∧¬(c0.toNat=244∧143<c1.toNat)):=fun h=>by omega
   rw[if_neg (fun h=>h2 (w0.1 h)),if_neg h2,if_neg a1,if_neg a2,if_neg a3]
   simp only[Bool.false_eq_true,if_false]
   rw[if_neg (fun h=>by omega),if_neg (fun h=>by omega),if_neg (fun h=>by omega)];rfl
def vld (s:ByteArray):Nat→Nat→Bool
 |0,_=>true
 |n+1,p=>if p<s.size then(if wid s p=0 then false else vld s n (p+wid s p))else true
def cnt (s:ByteArray):Nat→Nat→Nat
 |0,_=>0
 |n+1,p=>if p<s.size then 1+cnt s n (p+(Utf8.decode s p).2)else 0
theorem wid_4 (s:ByteArray)(p:Nat):wid s p≤4:=by
 rw[wid_N];unfold widN;repeat' split
 all_goals omega
theorem wid_dec {s:ByteArray}{p:Nat}(h:wid s p≠0):(Utf8.decode s p).2=wid s p:=by
 unfold wid at h ⊢;split at h
 ·exact absurd rfl h
 ·rename_i h2;rw[if_neg h2]
theorem Valid_eq (s:ByteArray)(hs:s.size≤5000):F.ed s=some (vld s s.size 0):=by
 have loop: ∀(n p f:Nat),s.size-p≤n→n<f→p≤5010→F.co s f (p:Int)=some (vld s n p):=by
  intro n
  induction n with
  |zero=>
   intro p f hp hf _
   obtain⟨f,rfl⟩: ∃f',f=f'+1:=⟨f-1,by omega⟩
   rw[F.co,if_neg (by omega)];rfl
  |succ n ih=>
   intro p f hp hf hp5
   obtain⟨f,rfl⟩: ∃f',f=f'+1:=⟨f-1,by omega⟩
   rw[F.co,vld]
   by_cases h:p<s.size
   ·rw[if_pos (by omega),if_pos h,width_eq s p h hs,Option.bind_some]
    have:=wid_le h
    by_cases hw:wid s p=0
    ·rw[if_pos (by omega),if_pos hw]
    ·rw[if_neg (by omega),if_neg hw,A.gd1 ⟨by omega,by omega⟩]
     have e:(p:Int)+(wid s p:Int)=((p+wid s p:Nat):Int):=by omega
     rw[e];exact ih _ f (by omega) (by omega) (by omega)
   ·rw[if_neg (by omega),if_neg h]
 exact loop s.size 0 A.FU (by omega) (by have:=FU_big;omega) (by omega)
theorem validD_eq (s:ByteArray):Lib.validD s.data.toList=vld s s.size 0:=by
 have loop: ∀(n p:Nat),Lib.validGoD n (s.data.toList.drop p)=vld s n p:=by
  intro n
  induction n with
  |zero=>intro p;rfl
  |succ n ih=>
   intro p
   rw[Lib.validGoD,vld]
   by_cases h:p<s.size
   ·have hne:s.data.toList.drop p≠[]:=by rw[drop_bat h];simp
    rw[if_neg hne,if_pos h,Lib.decodeL_drop,List.drop_drop]
    by_cases hw:Utf8.decode s p=(65533,1)
    ·rw[if_pos (by rw[hw];exact⟨rfl,rfl⟩),if_pos (by unfold wid;rw[if_pos hw])]
    ·have e:wid s p=(Utf8.decode s p).2:=by unfold wid;rw[if_neg hw]
     rw[if_neg (fun h2=>hw (Prod.ext h2.1 h2.2)),if_neg (by rw[e];have:=width_pos s p;omega),ih,e]
   ·rw[if_pos (drop_end h),if_neg h]
 have:=loop s.size 0
 rw[List.drop_zero]at this
 exact this
theorem Runes_eq (s:ByteArray)(hs:s.size≤5000)(hv:vld s s.size 0=true): ∃l,F.er s=some l∧l.length=cnt s s.size 0:=by
 have loop: ∀(n p f:Nat) (xs:List (Int×Int)),s.size-p≤n→n<f→xs.length≤p→p≤5010→vld s n p=true→∃l,F.aE s f xs (p:Int)=some l∧l.length=xs.length+cnt s n p:=by
  intro n
  induction n with
  |zero=>
   intro p f xs hp hf _ _ _
   obtain⟨f,rfl⟩: ∃f',f=f'+1:=⟨f-1,by omega⟩
   rw[F.aE,if_neg (by omega)];exact⟨_,rfl,rfl⟩
  |succ n ih=>
   intro p f xs hp hf hxs hp5 hv
   obtain⟨f,rfl⟩: ∃f',f=f'+1:=⟨f-1,by omega⟩
   rw[F.aE]
   rw[vld]at hv
   rw[cnt]
   by_cases h:p<s.size
   ·rw[if_pos h]at hv
    have hl:=wid_le h
    have h4:=wid_4 s p
    by_cases hw:wid s p=0
    ·rw[if_pos hw]at hv;cases hv
    rw[if_neg hw]at hv
    have hj: ∀(w c:Int),w=(wid s p:Int)→∃l,F.bf (F.aE s f) xs (p:Int) w c=some l∧l.length=xs.length+(1+cnt s n (p+(Utf8.decode s p).2)):=fun w c hwc=>by
     subst hwc
     rw[F.bf,A.gd1 (by simp only[List.length_cons,List.length_nil];omega),A.gd1 ⟨by omega,by omega⟩,wid_dec hw]
     have e:(p:Int)+(wid s p:Int)=((p+wid s p:Nat):Int):=by omega
     rw[e]
     obtain⟨l,h1,h2⟩:=ih (p+wid s p) f (xs++[((p:Int),c)]) (by omega) (by omega) (by simp only[List.length_append,List.length_cons,List.length_nil];omega) (by omega) hv
     exact⟨l,h1,by rw[h2,List.length_append];simp only[List.length_cons,List.length_nil];omega⟩
    have i0:=ixb (s:=s) h
    have i1:A.ix s.data.toList ((p:Int)+1)=if p+1<s.size then some (Z.bat s (p+1))else none:=ixk s p 1
    have i2:A.ix s.data.toList ((p:Int)+2)=if p+2<s.size then some (Z.bat s (p+2))else none:=ixk s p 2
    have i3:A.ix s.data.toList ((p:Int)+3)=if p+3<s.size then some (Z.bat s (p+3))else none:=ixk s p 3
    have r1:Z.R64 ((p:Int)+1):=⟨by omega,by omega⟩
    have r2:Z.R64 ((p:Int)+2):=⟨by omega,by omega⟩
    have r3:Z.R64 ((p:Int)+3):=⟨by omega,by omega⟩
    rw[if_pos (by omega),if_pos h,width_eq s p h hs,Option.bind_some]
    by_cases w1:wid s p=1
    ·rw[if_pos (by omega),i0,Option.bind_some];exact hj _ _ rfl
    rw[if_neg (by omega)]
    by_cases w2:wid s p=2
    ·rw[if_pos (by omega),A.gd1 r1,i0,Option.bind_some,A.gd1 (by decide),i1,if_pos (by omega),Option.bind_some,A.gd1 (by decide)];exact hj _ _ rfl
    rw[if_neg (by omega)]
    by_cases w3:wid s p=3
    ·rw[if_pos (by omega),A.gd1 ⟨r1,r2⟩,i0,Option.bind_some,A.gd1 (by decide),i1,if_pos (by omega),Option.bind_some,A.gd1 (by decide),i2,if_pos (by omega),Option.bind_some,A.gd1 (by decide)];exact hj _ _ rfl
    rw[if_neg (by omega),if_pos (by omega),A.gd1 ⟨r1,r2,r3⟩,i0,Option.bind_some,A.gd1 (by decide),i1,if_pos (by omega),Option.bind_some,A.gd1 (by decide),i2,if_pos (by omega),Option.bind_some,A.gd1 (by decide),i3,if_pos (by omega),Option.bind_some,A.gd1 (by decide)];exact hj _ _ rfl
   ·rw[if_neg (by omega),if_neg h];exact⟨_,rfl,rfl⟩
 obtain⟨l,h1,h2⟩:=loop s.size 0 A.FU [] (by omega) (by have:=FU_big;omega) (by simp) (by omega) hv
 exact⟨l,h1,by simpa using h2⟩
theorem single_eq (s:ByteArray)(hs:s.size≤5000):F.dr s=some (if cnt s s.size 0=1 then vld s s.size 0 else false):=by
 have loop: ∀(n p f:Nat) (y:Int),s.size-p≤n→n<f→0≤y→y+n≤10000→F.bw s f p y=some (if y+(cnt s n p:Int)=1 then vld s s.size 0 else false):=by
  intro n
  induction n with
  |zero=>
   intro p f y hp hf _ _
   obtain⟨f,rfl⟩: ∃f',f=f'+1:=⟨f-1,by omega⟩
   rw[F.bw,if_neg (by omega),F.a6,validD_eq,Option.bind_some]
   simp only[F.bM]
   have e:y+(cnt s 0 p:Int)=y:=by rw[cnt];omega
   by_cases h:y=1
   ·rw[if_pos h,if_pos (by omega)]
   ·rw[if_neg h,if_neg (by omega)]
  |succ n ih=>
   intro p f y hp hf h0 h2
   obtain⟨f,rfl⟩: ∃f',f=f'+1:=⟨f-1,by omega⟩
   rw[F.bw,cnt]
   by_cases h:p<s.size
   ·rw[if_pos h,if_pos h,A.gd1 ⟨by omega,by omega⟩]
    have hw:=width_pos s p
    rw[ih _ f (y+1) (by omega) (by omega) (by omega) (by omega)]
    congr 2
    exact propext ⟨fun h=>by omega,fun h=>by omega⟩
   ·rw[if_neg h,if_neg h,F.a6,validD_eq,Option.bind_some]
    simp only[F.bM]
    by_cases h:y=1
    ·rw[if_pos h,if_pos (by omega)]
    ·rw[if_neg h,if_neg (by omega)]
 unfold F.dr
 rw[loop s.size 0 A.FU 0 (by omega) (by have:=FU_big;omega) (by omega) (by omega)]
 congr 2
 exact propext ⟨fun h=>by omega,fun h=>by omega⟩
theorem one_small {s:ByteArray}(h1:cnt s s.size 0=1)(h2:vld s s.size 0=true):s.size≤4:=by
 generalize hn:s.size=n at h1 h2
 cases n with
 |zero=>omega
 |succ n=>
  rw[cnt,if_pos (by omega)]at h1
  rw[vld,if_pos (by omega)]at h2
  by_cases hw:wid s 0=0
  ·rw[if_pos hw]at h2;cases h2
  rw[wid_dec hw]at h1
  have:=wid_4 s 0
  cases n with
  |zero=>omega
  |succ n=>
   rw[cnt]at h1
   by_cases h3:0+wid s 0<s.size
   ·rw[if_pos h3]at h1;omega
   ·omega
end Go.Proofs.YtocfaokgoflmhabDoor
end
section
set_option linter.unusedVariables false
set_option linter.unusedSimpArgs false
set_option synthInstance.maxSize 1000000
set_option synthInstance.maxHeartbeats 400000
namespace Go.Proofs.YtocfaokgoflmhabDoor
open Go.RowKit Go.Graph
def textP (f:Fun):Bool:=if f.1=5 then decide (f.2.2≠ByteArray.mk #[])&&decide ((f.2.2.size:Int)≤16)&&vld f.2.2 f.2.2.size 0 else if f.1=12∨f.1=22 then decide (cnt f.2.2 f.2.2.size 0=1)&&vld f.2.2 f.2.2.size 0 else decide (f.2.2=ByteArray.mk #[])
theorem number_eq (f:Fun):F.dq f=some (numberF f):=by
 unfold F.dq F.ci F.ch numberF
 simp only[A.ba,decide_eq_true_eq]
 by_cases h3:f.1=3
 ·simp[h3]
 ·by_cases h13:f.1=13
  ·simp[h13]
  ·by_cases h6:f.1=6
   ·simp[h6]
   ·by_cases h11:f.1=11<;>simp[h3,h13,h6,h11]
theorem R06_number_eq (f:Fun):F.eo f=some (numberF f):=number_eq f
theorem text_eq (f:Fun)(hs:f.2.2.size≤5000):F.d2 f=some (textP f):=by
 unfold F.d2 textP
 simp only[F.c0,F.c1,A.ba,single_eq _ hs,F.a6,validD_eq,Option.bind_some,decide_eq_true_eq]
 by_cases h5:f.1=5
 ·simp only[h5,if_true]
  by_cases h1:f.2.2=ByteArray.mk #[]<;>by_cases h2:(f.2.2.size:Int)≤16<;>simp[h1,h2]
 ·by_cases h12:f.1=12
  ·simp[h12]
  ·by_cases h22:f.1=22<;>simp[h5,h12,h22]
theorem one_le {s:ByteArray}:(1:Int)≤(s.size:Int)↔s≠ByteArray.mk #[]:=by
 constructor
 ·intro h e;subst e;exact absurd h (by decide)
 ·intro h;have:=size_pos h;omega
theorem R06_text_eq (f:Fun)(hs:f.2.2.size≤5000):F.d8 f=some (textP f):=by
 have hj: ∀y,F.cP f y=some (if y=true then decide (cnt f.2.2 f.2.2.size 0=1)&&vld f.2.2 f.2.2.size 0 else decide (f.2.2=ByteArray.mk #[])):=by
  intro y
  unfold F.cP
  simp only[F.dn,Valid_eq _ hs,Option.bind_some]
  cases y with
  |false=>simp
  |true=>
   simp only[if_true]
   by_cases h4:(f.2.2.size:Int)≤4
   ·rw[if_pos h4]
    cases hv:vld f.2.2 f.2.2.size 0 with
    |true=>
     obtain⟨l,h1,h2⟩:=Runes_eq f.2.2 hs hv
     rw[if_pos rfl,h1,Option.bind_some,Bool.and_true]
     congr 2
     rw[h2];exact propext ⟨fun h=>by omega,fun h=>by omega⟩
    |false=>simp
   ·rw[if_neg h4]
    congr 1
    cases hv:vld f.2.2 f.2.2.size 0 with
    |false=>simp
    |true=>
     by_cases h1:cnt f.2.2 f.2.2.size 0=1
     ·have:=one_small h1 hv;omega
     ·simp[h1]
 unfold F.d8 textP
 simp only[F.dY,hj,A.ba,Valid_eq _ hs,Option.bind_some,decide_eq_true_eq,one_le]
 by_cases h5:f.1=5
 ·simp only[h5,if_true]
  by_cases h1:f.2.2=ByteArray.mk #[]<;>by_cases h2:(f.2.2.size:Int)≤16<;>simp[h1,h2]
 ·by_cases h12:f.1=12
  ·simp[h12]
  ·by_cases h22:f.1=22<;>simp[h5,h12,h22]
def anyF (f:Fun)(l:List Int):Int:=if l.any (fun y=>decide (y=f.1)&&(numberF f&&textP f))=true then 0 else 60
def kinds (k:Int):List Int:=if k=2 then [1,2,3,4,5,6,7,8]else if k=3 then [11,12,13]else if k=4 then [21,22]else if k=8 then [31,32,33,34]else if k=11 then [41,42]else []
def chk (k:Int)(f:Fun):Int:=if kinds k=[]then(if f=(0,0,ByteArray.mk #[])then 0 else 60)else anyF f (kinds k)
theorem chk_l (f:Fun)(hs:f.2.2.size≤5000): ∀l,F.aR f l=some (anyF f l)
 | []=>rfl
 |y::l=>by
  have ih:=chk_l f hs l
  unfold F.aR
  simp only[F.b9,number_eq,text_eq _ hs,Option.bind_some,ih,anyF,List.any_cons]
  by_cases h:y=f.1
  ·subst h
   cases hn:numberF f<;>cases ht:textP f<;>simp
  ·simp[h]
theorem fn_Check_eq (k:Int)(f:Fun)(hs:f.2.2.size≤5000):F.dj k f=some (chk k f):=by
 have u2:F.bc 1 8=some [1,2,3,4,5,6,7,8]:=by kernel_rfl
 have u3:F.bc 11 13=some [11,12,13]:=by kernel_rfl
 have u4:F.bc 21 22=some [21,22]:=by kernel_rfl
 have u8:F.bc 31 34=some [31,32,33,34]:=by kernel_rfl
 have u11:F.bc 41 42=some [41,42]:=by kernel_rfl
 unfold F.dj F.ek F.d3 chk kinds
 by_cases h2:k=2
 ·simp[h2,u2,chk_l f hs]
 ·by_cases h3:k=3
  ·simp[h3,u3,chk_l f hs]
  ·by_cases h4:k=4
   ·simp[h4,u4,chk_l f hs]
   ·by_cases h8:k=8
    ·simp[h8,u8,chk_l f hs]
    ·by_cases h11:k=11
     ·simp[h11,u11,chk_l f hs]
     ·simp only[h2,h3,h4,h8,h11,if_false,Option.bind_some]
      rw[if_pos (by decide),if_pos trivial]
      by_cases hz:f=(0,0,ByteArray.mk #[])
      ·rw[if_neg (fun h=>h hz),if_pos hz]
      ·rw[if_pos hz,if_neg hz]
theorem R06_l (f:Fun)(hs:f.2.2.size≤5000)(l:List Int)(hl:l.length≤100):F.bg f l A.FU 0=some (anyF f l):=
 A.lp0 l (fun n y=>F.bg f l n y) (fun _ t=>some (anyF f t))
  (fun n=>by rw[F.bg,if_neg (by omega)];rfl)
  (fun n k x hx hk ih=>by
   rw[F.bg,if_pos (by omega),A.ixn hx,Option.bind_some]
   simp only[F.c9,R06_number_eq,R06_text_eq _ hs,Option.bind_some,ih,A.gd1 (A.r64n (n:=k) (by omega)),anyF,List.any_cons]
   by_cases h:x=f.1
   ·subst h
    cases hn:numberF f<;>cases ht:textP f<;>simp
   ·simp[h])
  (by have:=FU_big;omega)
theorem R06_Check_eq (k:Int)(f:Fun)(hs:f.2.2.size≤5000):F.du k f=some (chk k f):=by
 have u2:F.b2 2=some [1,2,3,4,5,6,7,8]:=by kernel_rfl
 have u3:F.b2 3=some [11,12,13]:=by kernel_rfl
 have u4:F.b2 4=some [21,22]:=by kernel_rfl
 have u8:F.b2 8=some [31,32,33,34]:=by kernel_rfl
 have u11:F.b2 11=some [41,42]:=by kernel_rfl
 have u0:F.bL 1 0=some []:=by kernel_rfl
 unfold F.du chk kinds
 by_cases h2:k=2
 ·subst h2;rw[u2,Option.bind_some,if_neg (by simp),F.bh,if_neg (by simp),R06_l f hs _ (by simp)];simp
 ·by_cases h3:k=3
  ·subst h3;rw[u3,Option.bind_some,if_neg (by simp),F.bh,if_neg (by simp),R06_l f hs _ (by simp)];simp
  ·by_cases h4:k=4
   ·subst h4;rw[u4,Option.bind_some,if_neg (by simp),F.bh,if_neg (by simp),R06_l f hs _ (by simp)];simp
   ·by_cases h8:k=8
    ·subst h8;rw[u8,Option.bind_some,if_neg (by simp),F.bh,if_neg (by simp),R06_l f hs _ (by simp)];simp
    ·by_cases h11:k=11
     ·subst h11;rw[u11,Option.bind_some,if_neg (by simp),F.bh,if_neg (by simp),R06_l f hs _ (by simp)];simp
     ·have u:F.b2 k=some []:=by unfold F.b2;simp only[h2,h3,h4,h8,h11,if_false,u0]
      rw[u,Option.bind_some,if_pos (by simp),F.bh,R06_l f hs _ (by simp)]
      simp only[h2,h3,h4,h8,h11,if_false,if_true,decide_eq_true_eq,anyF,List.any_nil,Bool.false_eq_true]
      by_cases hz:f=(0,0,ByteArray.mk #[])
      ·rw[if_pos hz,if_pos hz]
      ·rw[if_neg hz,if_neg hz]
def mapOf (g:List Nd):List (Int×Nd):=g.map fun n=>(n.1,n)
def Inc (g:List Nd):Prop:=g.Pairwise fun a b=>a.1<b.1
theorem idxF_cases (z:Nd)(id:Int): ∀(k:Nat) (l:List Nd),(idxF id k l= -1∧(∀n∈l,n.1≠id)∧Z.mget z (mapOf l) id=z∧Z.mhas (mapOf l) id=false)∨(∃j n,idxF id k l=((k+j:Nat):Int)∧l[j]?=some n∧n.1=id∧Z.mget z (mapOf l) id=n∧Z.mhas (mapOf l) id=true)
 |k,[]=>.inl ⟨rfl,by simp,rfl,rfl⟩
 |k,x::r=>by
  unfold idxF mapOf
  simp only[List.map_cons,Z.mget,Z.mhas]
  by_cases h:x.1=id
  ·rw[if_pos h,if_pos h.symm,if_pos h.symm]
   exact .inr ⟨0,x,rfl,rfl,h,rfl,rfl⟩
  ·rw[if_neg h,if_neg (fun e=>h e.symm),if_neg (fun e=>h e.symm)]
   rcases idxF_cases z id (k+1) r with⟨h1,h2,h3,h4⟩|⟨j,n,h1,h2,h3,h4,h5⟩
   ·refine .inl ⟨h1,fun n hn=>?_,h3,h4⟩
    rcases List.mem_cons.1 hn with rfl|hn
    ·exact h
    ·exact h2 n hn
   ·exact .inr ⟨j+1,n,by rw[h1];congr 1;omega,h2,h3,h4,h5⟩
theorem idx_cases (z:Nd)(g:List Nd)(id:Int):(idx g id= -1∧(∀n∈g,n.1≠id)∧Z.mget z (mapOf g) id=z∧Z.mhas (mapOf g) id=false)∨(∃(j:Nat) (n:Nd),idx g id=(j:Int)∧g[j]?=some n∧n.1=id∧Z.mget z (mapOf g) id=n∧Z.mhas (mapOf g) id=true):=by
 have:=idxF_cases z id 0 g
 simp only[Nat.zero_add]at this
 exact this
theorem Inc.lt {g:List Nd}(h:Inc g){i j:Nat}{a b:Nd}(hi:g[i]?=some a)(hj:g[j]?=some b)(hij:i<j):a.1<b.1:=by
 obtain⟨h1,rfl⟩:=List.getElem?_eq_some_iff.1 hi
 obtain⟨h2,rfl⟩:=List.getElem?_eq_some_iff.1 hj
 exact List.pairwise_iff_getElem.1 h i j h1 h2 hij
theorem Inc.inj {g:List Nd}(h:Inc g){i j:Nat}{a b:Nd}(hi:g[i]?=some a)(hj:g[j]?=some b)(e:a.1=b.1):i=j:=by
 rcases Nat.lt_trichotomy i j with h1|h1|h1
 ·have:=h.lt hi hj h1;omega
 ·exact h1
 ·have:=h.lt hj hi h1;omega
theorem Inc.idx {g:List Nd}(h:Inc g){j:Nat}{n:Nd}(hj:g[j]?=some n):Graph.idx g n.1=(j:Int):=by
 rcases idx_cases z0 g n.1 with⟨_,h2,_⟩|⟨i,m,h1,h2,h3,_⟩
 ·exact absurd rfl (h2 n (List.mem_of_getElem? hj))
 ·rw[h1,h.inj h2 hj h3]
theorem Inc.mget {g:List Nd}(h:Inc g){j:Nat}{n z:Nd}(hj:g[j]?=some n):Z.mget z (mapOf g) n.1=n:=by
 rcases idx_cases z g n.1 with⟨_,h2,_⟩|⟨i,m,h1,h2,h3,h4,_⟩
 ·exact absurd rfl (h2 n (List.mem_of_getElem? hj))
 ·have:=h.inj h2 hj h3
  subst this
  rw[h2]at hj;injection hj with hj;rw[h4,hj]
theorem index_eq (g:List Nd)(id:Int)(hg:g.length≤100):F.cq g id=some (idx g id):=
 A.lp0 g (fun f y=>F.cp g id f y) (fun k l=>some (idxF id k l))
  (fun f=>by rw[F.cp,if_neg (by omega)];rfl)
  (fun f k x hx hk ih=>by
   rw[F.cp,if_pos (by omega),A.ixn hx,Option.bind_some,idxF]
   by_cases h:x.1=id
   ·rw[if_pos h,if_pos h]
   ·rw[if_neg h,if_neg h,A.gd1 (A.r64n (by omega)),ih])
  (by have:=FU_big;omega)
def ownQ (n:Nd):Bool:=if n.1<1∨255<n.1∨insK n.2.1<0∨(n.2.2.1.length:Int)≠insK n.2.1 then false else if ownC n then false else if n.2.1=1∨n.2.1=15 then named n.2.2.2.2.1 else decide (n.2.2.2.2.1=ByteArray.mk #[])
theorem outside_eq (k:Int):F.aH k=some (decide (k=1∨k=15)):=by
 unfold F.aH;rw[A.bo]
theorem gIns_eq (k:Int):F.cU k=some (insK k):=(Ins_eq k).trans (R08_Ins_eq k)
theorem own_eq (n:Nd)(hs:n.2.2.2.2.1.size≤5000):F.cV n=some (ownQ n):=by
 have hj: ∀y,F.bQ n y=some (if y=true then false else if ownC n then false else if n.2.1=1∨n.2.1=15 then named n.2.2.2.2.1 else decide (n.2.2.2.2.1=ByteArray.mk #[])):=by
  intro y
  unfold F.bQ F.bP ownC
  cases y with
  |true=>simp
  |false=>
   simp only[Bool.false_eq_true,if_false,A.bo,decide_eq_true_eq,outside_eq,Option.bind_some,named_eq _ hs,A.bn]
   by_cases h14:n.2.1=14
   ·simp only[h14,if_true,true_and,not_true_eq_false,ne_eq,false_and,or_false,if_false]
    by_cases hc:n.2.2.2.2.2.1<1∨8<n.2.2.2.2.2.1∨n.2.2.2.2.2.2<1∨4<n.2.2.2.2.2.2
    ·have hc':((n.2.2.2.2.2.1<1∨8<n.2.2.2.2.2.1)∨n.2.2.2.2.2.2<1)∨4<n.2.2.2.2.2.2:=by omega
     rw[if_pos hc',if_pos hc]
    ·have hc': ¬(((n.2.2.2.2.2.1<1∨8<n.2.2.2.2.2.1)∨n.2.2.2.2.2.2<1)∨4<n.2.2.2.2.2.2):=by omega
     rw[if_neg hc',if_neg hc]
     simp
   ·simp only[h14,if_false,false_and,not_false_eq_true,ne_eq,true_and,false_or,if_true]
    by_cases hc: ¬n.2.2.2.2.2.1=0∨¬n.2.2.2.2.2.2=0
    ·rw[if_pos hc,if_pos hc]
    ·rw[if_neg hc,if_neg hc]
     by_cases ho:n.2.1=1∨n.2.1=15
     ·rw[if_pos ho,if_pos ho]
     ·rw[if_neg ho,if_neg ho]
 unfold F.cV ownQ
 simp only[gIns_eq,Option.bind_some,hj,A.bo,decide_eq_true_eq,F.bP]
 by_cases h1:n.1<1∨255<n.1
 ·rw[if_pos h1,if_pos (by omega)]
 ·rw[if_neg h1]
  by_cases h2:insK n.2.1<0
  ·rw[if_pos h2,if_pos trivial,if_pos (by omega)]
  ·rw[if_neg h2]
   by_cases h3:(n.2.2.1.length:Int)≠insK n.2.1
   ·rw[if_pos h3,if_pos (by omega)]
   ·have hb: ¬(n.1<1∨255<n.1∨insK n.2.1<0∨(n.2.2.1.length:Int)≠insK n.2.1):=by omega
    rw[if_neg h3,if_neg hb]
def twiceF (l:List Nd)(n:Nd):Bool:=l.any fun x=>decide (x.2.1=n.2.1)&&decide (x.2.2.2.2.1=n.2.2.2.2.1)
theorem twice_eq (l:List Nd)(n:Nd)(hl:l.length≤100):F.c l n=some (twiceF l n):=by
 have loop:F.a l n A.FU 0=some (if twiceF l n=true then(0:Int)else-1)∨∃i:Nat,F.a l n A.FU 0=some (i:Int)∧twiceF l n=true:=by
  have key: ∀(m k f:Nat),k+m=l.length→m<f→(twiceF (l.drop k) n=true∧∃i:Nat,F.a l n f (k:Int)=some (i:Int))∨(twiceF (l.drop k) n=false∧F.a l n f (k:Int)=some (-1)):=by
   intro m
   induction m with
   |zero=>
    intro k f hk hf
    obtain⟨f,rfl⟩: ∃f',f=f'+1:=⟨f-1,by omega⟩
    rw[F.a,if_neg (by omega),List.drop_eq_nil_of_le (by omega)]
    exact .inr ⟨rfl,rfl⟩
   |succ m ih=>
    intro k f hk hf
    obtain⟨f,rfl⟩: ∃f',f=f'+1:=⟨f-1,by omega⟩
    have hx:l[k]?=some l[k]:=List.getElem?_eq_getElem (by omega)
    generalize l[k]=x at hx
    rw[F.a,if_pos (by omega),A.ixn hx,Option.bind_some,F.cR,Option.bind_some,A.ba,A.dropx hx]
    by_cases h:x.2.1=n.2.1∧x.2.2.2.2.1=n.2.2.2.2.1
    ·left
     exact⟨by simp[twiceF,h.1,h.2],k,by rw[if_pos (by simpa using h)]⟩
    ·rw[if_neg (by simpa using h),A.gd1 (A.r64n (by omega))]
     have e:twiceF (x::l.drop (k+1)) n=twiceF (l.drop (k+1)) n:=by
      simp only[twiceF,List.any_cons]
      rw[←Bool.decide_and,decide_eq_false h,Bool.false_or]
     rw[e]
     exact ih (k+1) f (by omega) (by omega)
  rcases key l.length 0 A.FU (by omega) (by have:=FU_big;omega)with⟨h1,i,h2⟩|⟨h1,h2⟩
  ·rw[List.drop_zero]at h1;exact .inr ⟨i,h2,h1⟩
  ·rw[List.drop_zero]at h1;left;rw[h1];exact h2
 unfold F.c F.o
 rcases loop with h|⟨i,h,h2⟩
 ·rw[show F.a l n A.FU 0=_ from h,Option.bind_some]
  cases twiceF l n<;>simp
 ·rw[show F.a l n A.FU 0=_ from h,Option.bind_some,h2]
  simp
end Go.Proofs.YtocfaokgoflmhabDoor
end
