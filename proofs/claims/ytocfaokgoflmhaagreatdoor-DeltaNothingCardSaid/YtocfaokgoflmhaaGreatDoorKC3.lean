/- Functions on data, and that the code computes them. -/
import Derived.Test.YtocfaokgoflmhaaGreatDoorKC0
import Derived.Test.YtocfaokgoflmhaaGreatDoorKC1
import Derived.Test.YtocfaokgoflmhaaGreatDoorKC2
section
set_option linter.unusedVariables false
set_option linter.unusedSimpArgs false
set_option maxRecDepth 20000
set_option maxHeartbeats 8000000
set_option synthInstance.maxSize 1000000
set_option synthInstance.maxHeartbeats 400000
namespace Go.Proofs.YtocfaokgoflmhaaGreatDoor
open Go.RowKit
def F.delta_uses_j1 (y2:Bool):Option Bool:=some y2
def F.delta_uses_j2 (y3:Bool):Option Bool:=some y3
def F.delta_uses (a0:D82):Option Bool:=if a0.2.2.1=1 then(if a0.2.2.2.1=0 then(F.delta_uses_j1 (decide ((a0.2.2.2.2.1,a0.2.2.2.2.2.1,a0.2.2.2.2.2.2)=(0,0,ByteArray.mk #[]))))else(F.delta_uses_j1 false))else(if a0.2.2.1=2 then(if(bif decide ((0:Int)≤a0.2.2.2.1)then decide (a0.2.2.2.1≤1048576)else false)=true then(F.delta_uses_j2 (decide ((a0.2.2.2.2.1,a0.2.2.2.2.2.1,a0.2.2.2.2.2.2)=(0,0,ByteArray.mk #[]))))else(F.delta_uses_j2 false))else(if a0.2.2.1=3 then(some (decide (a0.2.2.2.1=0)))else(some false)))
theorem delta_uses_ok (a0:D82)(h0_:IntKind.i64.has a0.1)(h1_:IntKind.i64.has a0.2.1)(h2_:IntKind.i64.has a0.2.2.1)(h3_:IntKind.i64.has a0.2.2.2.1)(h4_:IntKind.i64.has a0.2.2.2.2.1)(h5_:IntKind.i64.has a0.2.2.2.2.2.1)(h6_:a0.2.2.2.2.2.2.size≤maxLen)(r:Bool)(hF:F.delta_uses a0=some r):
    A.Ct Tryz.prog 103 [.agg #[.int .i64 a0.1,.int .i64 a0.2.1,.int .i64 a0.2.2.1,.int .i64 a0.2.2.2.1,.int .i64 a0.2.2.2.2.1,.int .i64 a0.2.2.2.2.2.1,.string a0.2.2.2.2.2.2]] [] [] (fun v H'=>v=.bool r∧H'=[]):=by
 refine A.Ct.enter Tryz.func103 rfl Tryz.ntmps103 rfl fun w0 F0=>?_
 rw[F.delta_uses]at hF
 refine A.xl 1 ?_
 refine A.AL.box 0 (cs:=[.int .i64 a0.1,.int .i64 a0.2.1,.int .i64 a0.2.2.1,.int .i64 a0.2.2.2.1,.int .i64 a0.2.2.2.2.1,.int .i64 a0.2.2.2.2.2.1,.string a0.2.2.2.2.2.2]) fun g1=>?_
 refine A.q0 [] [] [.n] [] ?_
 refine A.dl 3 ?_
 refine A.q0 [0] [] [.n,.b 0 2] [(4,.int .i64 a0.2.2.1)] ?_
 refine A.dl 3 ?_
 refine A.q0 [] [] [.n,.n] [(5,.bool (decide (a0.2.2.1=1)))] ?_
 refine A.dx 1 ?_
 refine A.AX.cnd rfl hF (fun hb hF=>?_) (fun hb hF=>?_)
 ·refine A.AX.join [] [] (fun nl nh=>∃(y2:Bool),nl=[(2,.bool y2)]∧nh=[]∧F.delta_uses_j1 y2=some r) ?_ ?_
  ·refine A.xl 0 ?_
   refine A.q0 [0] [] [.n,.b 0 3,.n,.n] [(10,.bool (decide (a0.2.2.2.1=0)))] ?_
   refine A.AL.cnp (j:=10) rfl hF (fun hb hF=>?_) (fun hb hF=>?_)
   ·refine A.q0 [0] [] [.on .n,.on (.b 0 4),.on .n] [(12,.agg #[.int .i64 a0.2.2.2.2.1,.int .i64 a0.2.2.2.2.2.1,.string a0.2.2.2.2.2.2]),(13,.agg #[.int .i64 0,.int .i64 0,.string (ByteArray.mk #[])])] ?_
    refine A.AL.on (dj:=10) rfl rfl ?_
    refine A.AL.val rfl (fun a w hf hh=>eqagg_eql68 (x:=(a0.2.2.2.2.1,a0.2.2.2.2.2.1,a0.2.2.2.2.2.2)) (y:=(0,0,ByteArray.mk #[])) (hf.eval rfl) (hf.eval rfl)) ?_
    refine A.q0 [] [] [.n,.n] [(2,.bool (decide ((a0.2.2.2.2.1,a0.2.2.2.2.2.1,a0.2.2.2.2.2.2)=(0,0,ByteArray.mk #[]))))] ?_
    refine A.AL.done ?_
    exact A.j ⟨(decide ((a0.2.2.2.2.1,a0.2.2.2.2.2.1,a0.2.2.2.2.2.2)=(0,0,ByteArray.mk #[]))),rfl,rfl,hF⟩
   refine A.q0 [] [] [.off,.off,.off,.off,.n,.n] [(2,.bool false)] ?_
   refine A.AL.done ?_
   exact A.j ⟨false,rfl,rfl,hF⟩
  rintro _ _ ⟨y2,rfl,rfl,hF⟩
  rw[F.delta_uses_j1]at hF
  obtain rfl:=Option.some.inj hF
  exact A.rt1 [] ⟨rfl,rfl⟩
 refine A.xl 1 ?_
 refine A.q0 [] [] [.n,.n] [(16,.bool (decide (a0.2.2.1=2)))] ?_
 refine A.dx 1 ?_
 refine A.AX.cnd rfl hF (fun hb hF=>?_) (fun hb hF=>?_)
 ·refine A.AX.join [] [] (fun nl nh=>∃(y3:Bool),nl=[(2,.bool y3)]∧nh=[]∧F.delta_uses_j2 y3=some r) ?_ ?_
  ·refine A.xl 0 ?_
   refine A.q0 [0] [] [.n,.b 0 3,.n,.n,.sy .n,.sy (.b 0 3),.sy .n,.pk,.n] [(26,.bool (bif decide ((0:Int)≤a0.2.2.2.1)then decide (a0.2.2.2.1≤1048576)else false))] ?_
   refine A.AL.cnd (j:=26) rfl hF (fun hF=>?_) (fun hF=>?_)
   ·refine A.q0 [0] [] [.on .n,.on (.b 0 4),.on .n] [(28,.agg #[.int .i64 a0.2.2.2.2.1,.int .i64 a0.2.2.2.2.2.1,.string a0.2.2.2.2.2.2]),(29,.agg #[.int .i64 0,.int .i64 0,.string (ByteArray.mk #[])])] ?_
    refine A.AL.on (dj:=26) rfl rfl ?_
    refine A.AL.val rfl (fun a w hf hh=>eqagg_eql68 (x:=(a0.2.2.2.2.1,a0.2.2.2.2.2.1,a0.2.2.2.2.2.2)) (y:=(0,0,ByteArray.mk #[])) (hf.eval rfl) (hf.eval rfl)) ?_
    refine A.q0 [] [] [.n,.n] [(2,.bool (decide ((a0.2.2.2.2.1,a0.2.2.2.2.2.1,a0.2.2.2.2.2.2)=(0,0,ByteArray.mk #[]))))] ?_
    refine A.AL.done ?_
    exact A.j ⟨(decide ((a0.2.2.2.2.1,a0.2.2.2.2.2.1,a0.2.2.2.2.2.2)=(0,0,ByteArray.mk #[]))),rfl,rfl,hF⟩
   refine A.q0 [] [] [.off,.off,.off,.off,.n,.n] [(2,.bool false)] ?_
   refine A.AL.done ?_
   exact A.j ⟨false,rfl,rfl,hF⟩
  rintro _ _ ⟨y3,rfl,rfl,hF⟩
  rw[F.delta_uses_j2]at hF
  obtain rfl:=Option.some.inj hF
  exact A.rt1 [] ⟨rfl,rfl⟩
 refine A.xl 1 ?_
 refine A.q0 [] [] [.n,.n] [(32,.bool (decide (a0.2.2.1=3)))] ?_
 refine A.dx 1 ?_
 refine A.AX.cnd rfl hF (fun hb hF=>?_) (fun hb hF=>?_)
 ·refine A.xl 1 ?_
  refine A.q0 [0] [] [.n,.b 0 3,.n,.n] [(2,.bool (decide (a0.2.2.2.1=0)))] ?_
  refine A.dx 1 ?_
  obtain rfl:=Option.some.inj hF
  exact A.rt1 [] ⟨rfl,rfl⟩
 refine A.xl 4 ?_
 refine A.q0 [] [] [.n] [(2,.bool false)] ?_
 refine A.dx 1 ?_
 obtain rfl:=Option.some.inj hF
 exact A.rt1 [] ⟨rfl,rfl⟩
def F.delta_moves_j1 (k1:(List (Int×Bool))→Int→Option Bool)(m6:List (Int×Bool))(y7:Int)(x10:D82)(y28:Bool):Option Bool:=if y28=true then(some false)else(A.gd (Z.R64 (y7+1)) (k1 (Z.mins m6 x10.2.1 true) (y7+1)))
def F.delta_moves_l2 (a0:(List (Int×D69)))(a1:D27)(r2:(List (Int×D69))):Nat→(List (Int×Bool))→Int→Option Bool
 |0,_,_=>none
 |f+1,m6,y7=>if y7<((a1.2.2).length:Int)then((A.ix a1.2.2 y7).bind fun x10=>(A.lt (Z.mget ((0,0,[],(0,0,(ByteArray.mk #[])),(ByteArray.mk #[]),0,0):D69) a0 x10.1) fun x16=>(A.lt (Z.mget ((0,0,[],(0,0,(ByteArray.mk #[])),(ByteArray.mk #[]),0,0):D69) r2 x10.2.1) fun x22=>(if(bif !(Z.mhas a0 x10.1)then true else !(Z.mhas r2 x10.2.1))=true then(F.delta_moves_j1 (F.delta_moves_l2 a0 a1 r2 f) m6 y7 x10 true)else((F.delta_keeps x16.2.1).bind fun r30=>(if(bif !r30 then true else decide (x22.2.1≠x16.2.1))=true then(F.delta_moves_j1 (F.delta_moves_l2 a0 a1 r2 f) m6 y7 x10 true)else(A.lt (Z.mget (false:Bool) m6 x10.2.1) fun x32=>(if x32=true then(F.delta_moves_j1 (F.delta_moves_l2 a0 a1 r2 f) m6 y7 x10 true)else((F.delta_uses (x10.1,x10.2.1,x10.2.2.1,x10.2.2.2.1,(x10.2.2.2.2.1,x10.2.2.2.2.2.1,x10.2.2.2.2.2.2))).bind fun r35=>(if(!r35)=true then(F.delta_moves_j1 (F.delta_moves_l2 a0 a1 r2 f) m6 y7 x10 true)else(F.delta_moves_j1 (F.delta_moves_l2 a0 a1 r2 f) m6 y7 x10 (bif decide (x10.2.2.1=2)then decide (x16.2.1≠11)else false))))))))))))else(some true)
def F.delta_moves (a0:(List (Int×D69)))(a1:D27):Option Bool:=(F.delta_byId a1.2.1).bind fun r2=>(F.delta_moves_l2 a0 a1 r2 A.FU [] 0)
theorem delta_moves_ok (a0:(List (Int×D69)))(a1:D27)(b0_:Nat)(A1_:Option Addr)(c2_:Nat)(A3_:Option Addr)(c4_:Nat)(A5_:Option Addr)(c6_:Nat)(r:Bool)(hF:F.delta_moves a0 a1=some r):
    A.Ct Tryz.prog 74 [.map (some b0_),.agg #[.slice A1_ ((a1.1).length) c2_,.slice A3_ ((a1.2.1).length) c4_,.slice A5_ ((a1.2.2).length) c6_]] [(0,.lmp Int (fun i:Int=>.int .i64 i) T69 true b0_ a0),(1,.sh (.slice (Z.Ty.int .i64)) [.slice A1_ (a1.1).length c2_] a1.1),(2,.sh (.slice T69) [.slice A3_ (a1.2.1).length c4_] a1.2.1),(3,.sh (.slice T82) [.slice A5_ (a1.2.2).length c6_] a1.2.2)] [] (fun v H'=>v=.bool r∧H'=[]):=by
 refine A.Ct.enter Tryz.func74 rfl Tryz.ntmps74 rfl fun w0 F0=>?_
 rw[F.delta_moves]at hF
 refine A.xl 1 ?_
 refine A.AL.box 4 (cs:=[.slice A1_ ((a1.1).length) c2_,.slice A3_ ((a1.2.1).length) c4_,.slice A5_ ((a1.2.2).length) c6_]) fun g1=>?_
 refine A.q0 [] [] [.n] [] ?_
 refine A.dl 2 ?_
 refine A.q0 [4] [] [.n,.b 0 1] [(14,.slice A3_ ((a1.2.1).length) c4_)] ?_
 obtain⟨r2,hv3,hF⟩:=A.bd_some hF
 refine A.AL.call 5 [] (first:=[]) (cap:=[]) cf38 (delta_byId_ok a1.2.1 A3_ c4_ r2 hv3) (.l 2 .nil) ?_
 rintro _ _ ⟨b4,rfl,rfl⟩
 refine⟨by kernel_rfl,?_⟩
 refine A.q0 [] [] [.n] [(5,.map (some b4))] ?_
 refine A.dl 2 ?_
 refine A.AL.mkm 45 Int (fun i:Int=>.int .i64 i) Z.Ty.bool false fun b5=>?_
 refine A.q0 [] [] [.n] [(6,.map (some b5))] ?_
 refine A.dl 3 ?_
 refine A.q0 [4] [] [.n,.b 0 2,.n,.n] [(18,.slice A5_ ((a1.2.2).length) c6_),(19,.int .i64 ((a1.2.2).length:Int)),(20,.int .i64 0)] ?_
 refine A.dx 2 ?_
 refine A.lp_ [0,5,6,18,19] [0,3,5] (fun f nl nh=>∃(m6:List (Int×Bool)),∃(y7:Int),nl=[(20,.int .i64 y7)]∧nh=[(45,.mp Int (fun i:Int=>.int .i64 i) Z.Ty.bool false b5 m6)]∧IntKind.i64.has y7∧F.delta_moves_l2 a0 a1 r2 f m6 y7=some r) ⟨[],0,rfl,rfl,(A.hasl .i64 (0) rfl),hF⟩ ?_
 rintro f9 _ _ ⟨m6,y7,rfl,rfl,hy8,hF⟩
 rcases f9 with _|f9
 ·exact A.no0 hF
 rw[F.delta_moves_l2]at hF
 refine A.xl 1 ?_
 refine A.q0 [] [] [.n] [(21,.bool (decide (y7<((a1.2.2).length:Int))))] ?_
 refine A.dx 2 ?_
 refine A.AX.cnd rfl hF (fun hb hF=>?_) (fun hb hF=>?_)
 ·refine A.xl 5 ?_
  obtain⟨x10,hv11,hF⟩:=A.bd_some hF
  refine A.AL.ixs 3 220 hv11 fun ho12=>?_
  intro b13 o14
  refine A.q0 [] [220] [.e 0 0] [(23,.agg #[.int .i64 x10.1,.int .i64 x10.2.1,.int .i64 x10.2.2.1,.int .i64 x10.2.2.2.1,.int .i64 x10.2.2.2.2.1,.int .i64 x10.2.2.2.2.2.1,.string x10.2.2.2.2.2.2])] ?_
  refine A.AL.alloc 221 (cs:=[.int .i64 0,.int .i64 0,.int .i64 0,.int .i64 0,.int .i64 0,.int .i64 0,.string (ByteArray.mk #[])]) Tryz.zeroValue83 fun g15=>?_
  refine A.sw 221 [] [.int .i64 x10.1,.int .i64 x10.2.1,.int .i64 x10.2.2.1,.int .i64 x10.2.2.2.1,.int .i64 x10.2.2.2.2.1,.int .i64 x10.2.2.2.2.2.1,.string x10.2.2.2.2.2.2] ?_
  refine A.dl 2 ?_
  refine A.q0 [221] [] [.n,.n,.b 0 0] [(25,.map (some b0_)),(27,.int .i64 x10.1)] ?_
  obtain⟨x16,hv17,hF⟩:=A.lt_some hF
  refine A.AL.lk2 (t:=T69) 0 222 (z:=((0,0,[],(0,0,(ByteArray.mk #[])),(ByteArray.mk #[]),0,0):D69)) (zs:=[.int .i64 0,.int .i64 0,.slice none 0 0,.int .i64 0,.int .i64 0,.string (ByteArray.mk #[]),.string (ByteArray.mk #[]),.int .i64 0,.int .i64 0]) ky3 x10.1 Tryz.zeroValue70 ⟨⟨rfl,by decide⟩,⟨rfl,by decide⟩,(.inr ⟨rfl,rfl⟩),⟨⟨rfl,by decide⟩,⟨rfl,by decide⟩,⟨rfl,by decide⟩⟩,⟨rfl,by decide⟩,⟨rfl,by decide⟩,⟨rfl,by decide⟩⟩ hv17 fun ho18=>?_
  intro A19 c20
  refine A.q0 [] [] [.n,.n,.n] [(29,.agg #[.int .i64 x16.1,.int .i64 x16.2.1,.slice A19 ((x16.2.2.1).length) c20,.int .i64 x16.2.2.2.1.1,.int .i64 x16.2.2.2.1.2.1,.string x16.2.2.2.1.2.2,.string x16.2.2.2.2.1,.int .i64 x16.2.2.2.2.2.1,.int .i64 x16.2.2.2.2.2.2]),(30,.bool (Z.mhas a0 x10.1))] ?_
  refine A.AL.alloc 223 (cs:=[.int .i64 0,.int .i64 0,.slice none 0 0,.int .i64 0,.int .i64 0,.string (ByteArray.mk #[]),.string (ByteArray.mk #[]),.int .i64 0,.int .i64 0]) Tryz.zeroValue70 fun g21=>?_
  refine A.sw 223 [] [.int .i64 x16.1,.int .i64 x16.2.1,.slice A19 ((x16.2.2.1).length) c20,.int .i64 x16.2.2.2.1.1,.int .i64 x16.2.2.2.1.2.1,.string x16.2.2.2.1.2.2,.string x16.2.2.2.2.1,.int .i64 x16.2.2.2.2.2.1,.int .i64 x16.2.2.2.2.2.2] ?_
  refine A.q0 [] [] [.n] [(10,.bool (Z.mhas a0 x10.1))] ?_
  refine A.dl 2 ?_
  refine A.q0 [221] [] [.n,.n,.b 0 1] [(32,.map (some b4)),(34,.int .i64 x10.2.1)] ?_
  obtain⟨x22,hv23,hF⟩:=A.lt_some hF
  refine A.AL.lk2 (t:=T69) 5 224 (z:=((0,0,[],(0,0,(ByteArray.mk #[])),(ByteArray.mk #[]),0,0):D69)) (zs:=[.int .i64 0,.int .i64 0,.slice none 0 0,.int .i64 0,.int .i64 0,.string (ByteArray.mk #[]),.string (ByteArray.mk #[]),.int .i64 0,.int .i64 0]) ky3 x10.2.1 Tryz.zeroValue70 ⟨⟨rfl,by decide⟩,⟨rfl,by decide⟩,(.inr ⟨rfl,rfl⟩),⟨⟨rfl,by decide⟩,⟨rfl,by decide⟩,⟨rfl,by decide⟩⟩,⟨rfl,by decide⟩,⟨rfl,by decide⟩,⟨rfl,by decide⟩⟩ hv23 fun ho24=>?_
  intro A25 c26
  refine A.q0 [] [] [.n,.n,.n] [(36,.agg #[.int .i64 x22.1,.int .i64 x22.2.1,.slice A25 ((x22.2.2.1).length) c26,.int .i64 x22.2.2.2.1.1,.int .i64 x22.2.2.2.1.2.1,.string x22.2.2.2.1.2.2,.string x22.2.2.2.2.1,.int .i64 x22.2.2.2.2.2.1,.int .i64 x22.2.2.2.2.2.2]),(37,.bool (Z.mhas r2 x10.2.1))] ?_
  refine A.AL.alloc 225 (cs:=[.int .i64 0,.int .i64 0,.slice none 0 0,.int .i64 0,.int .i64 0,.string (ByteArray.mk #[]),.string (ByteArray.mk #[]),.int .i64 0,.int .i64 0]) Tryz.zeroValue70 fun g27=>?_
  refine A.sw 225 [] [.int .i64 x22.1,.int .i64 x22.2.1,.slice A25 ((x22.2.2.1).length) c26,.int .i64 x22.2.2.2.1.1,.int .i64 x22.2.2.2.1.2.1,.string x22.2.2.2.1.2.2,.string x22.2.2.2.2.1,.int .i64 x22.2.2.2.2.2.1,.int .i64 x22.2.2.2.2.2.2] ?_
  refine A.q0 [] [] [.n] [(12,.bool (Z.mhas r2 x10.2.1))] ?_
  refine A.dx 2 ?_
  refine A.AX.join [0,5,6,8,18,19,20] [0,3,5,45,221] (fun nl nh=>∃(y28:Bool),nl=[(77,.bool y28)]∧nh=[]∧F.delta_moves_j1 (F.delta_moves_l2 a0 a1 r2 f9) m6 y7 x10 y28=some r) ?_ ?_
  ·refine A.xl 0 ?_
   refine A.q0 [] [] [.n,.n,.n,.sy .n,.sy .n,.pk,.n] [(44,.bool (bif !(Z.mhas a0 x10.1)then true else !(Z.mhas r2 x10.2.1)))] ?_
   refine A.AL.cnd (j:=44) rfl hF (fun hF=>?_) (fun hF=>?_)
   ·refine A.q0 [] [] [.off,.off,.off,.off,.n,.n,.off,.off,.off,.off,.off,.n,.n,.off,.off,.off,.off,.n,.n,.off,.off,.off,.n,.n,.off,.off,.off,.off,.off,.off,.off,.off,.n] [(77,.bool true)] ?_
    refine A.AL.done ?_
    exact A.j ⟨true,rfl,rfl,hF⟩
   refine A.q0 [223] [] [.on .n,.on (.b 0 1)] [(46,.int .i64 x16.2.1)] ?_
   refine A.AL.on (dj:=44) rfl rfl ?_
   obtain⟨r30,hv31,hF⟩:=A.bd_some hF
   refine A.AL.call 226 [] (first:=[]) (cap:=[]) cf58 (delta_keeps_ok x16.2.1 ho18.2.1 r30 hv31) .nil ?_
   rintro _ _ ⟨rfl,rfl⟩
   refine⟨by kernel_rfl,?_⟩
   refine A.q0 [225,223] [] [.on .n,.n,.n,.sy .n,.sy (.b 0 1),.sy .n,.sy (.b 1 1),.sy .n,.pk,.n] [(57,.bool (bif !r30 then true else decide (x22.2.1≠x16.2.1)))] ?_
   refine A.AL.cnd (j:=57) rfl hF (fun hF=>?_) (fun hF=>?_)
   ·refine A.q0 [] [] [.off,.off,.off,.off,.n,.n,.off,.off,.off,.n,.n,.off,.off,.off,.off,.off,.off,.off,.off,.n] [(77,.bool true)] ?_
    refine A.AL.done ?_
    exact A.j ⟨true,rfl,rfl,hF⟩
   refine A.q0 [221] [] [.on .n,.on .n,.on (.b 0 1)] [(58,.map (some b5)),(60,.int .i64 x10.2.1)] ?_
   refine A.AL.on (dj:=57) rfl rfl ?_
   obtain⟨x32,hv33,hF⟩:=A.lt_some hF
   refine A.AL.lku (t:=Z.Ty.bool) 45 266 (z:=(false:Bool)) (zs:=[.bool false]) ky3 x10.2.1 Tryz.zeroValue4 rfl hv33 fun ho34=>?_
   refine A.q0 [] [] [.n,.n] [(63,.bool x32)] ?_
   refine A.AL.cnd (j:=63) rfl hF (fun hF=>?_) (fun hF=>?_)
   ·refine A.q0 [] [] [.off,.off,.off,.n,.n,.off,.off,.off,.off,.off,.off,.off,.off,.n] [(77,.bool true)] ?_
    refine A.AL.done ?_
    exact A.j ⟨true,rfl,rfl,hF⟩
   refine A.q0 [221] [] [.on (.b 0 0)] [(64,.agg #[.int .i64 x10.1,.int .i64 x10.2.1,.int .i64 x10.2.2.1,.int .i64 x10.2.2.2.1,.int .i64 x10.2.2.2.2.1,.int .i64 x10.2.2.2.2.2.1,.string x10.2.2.2.2.2.2])] ?_
   refine A.AL.on (dj:=63) rfl rfl ?_
   obtain⟨r35,hv36,hF⟩:=A.bd_some hF
   refine A.AL.call 267 [] (first:=[]) (cap:=[]) cf103 (delta_uses_ok (x10.1,x10.2.1,x10.2.2.1,x10.2.2.2.1,(x10.2.2.2.2.1,x10.2.2.2.2.2.1,x10.2.2.2.2.2.2)) ho12.1 ho12.2.1 ho12.2.2.1 ho12.2.2.2.1 ho12.2.2.2.2.1 ho12.2.2.2.2.2.1 ho12.2.2.2.2.2.2 r35 hv36) .nil ?_
   rintro _ _ ⟨rfl,rfl⟩
   refine⟨by kernel_rfl,?_⟩
   refine A.q0 [] [] [.on .n,.n,.n] [(68,.bool (!r35))] ?_
   refine A.AL.cnd (j:=68) rfl hF (fun hF=>?_) (fun hF=>?_)
   ·refine A.q0 [] [] [.off,.off,.off,.off,.off,.off,.off,.off,.n] [(77,.bool true)] ?_
    refine A.AL.done ?_
    exact A.j ⟨true,rfl,rfl,hF⟩
   refine A.q0 [221,223] [] [.on .n,.on (.b 0 2),.on .n,.on .n,.sy .n,.sy (.b 1 1),.sy .n,.on .pk,.n] [(77,.bool (bif decide (x10.2.2.1=2)then decide (x16.2.1≠11)else false))] ?_
   refine A.AL.done ?_
   exact A.j ⟨(bif decide (x10.2.2.1=2)then decide (x16.2.1≠11)else false),rfl,rfl,hF⟩
  rintro _ _ ⟨y28,rfl,rfl,hF⟩
  rw[F.delta_moves_j1]at hF
  refine A.AX.cnb rfl hF (fun hb hF=>?_) (fun hb hF=>?_)
  ·refine A.xl 1 ?_
   refine A.q0 [] [] [.n] [(4,.bool false)] ?_
   refine A.dx 1 ?_
   obtain rfl:=Option.some.inj hF
   exact A.rt1 [] ⟨rfl,rfl⟩
  refine A.xl 2 ?_
  refine A.q0 [221] [] [.n,.n,.b 0 1] [(78,.map (some b5)),(80,.int .i64 x10.2.1)] ?_
  refine A.AL.mup (t:=Z.Ty.bool) 45 [] (cs:=[.bool true]) (u:=true) ky3 x10.2.1 rfl ?_
  refine A.dl 2 ?_
  obtain⟨hc29,hF⟩:=A.gd_some hF
  refine A.q [] [] [.n,.n] [Z.R64 (y7+1)] [(20,.int .i64 (y7+1))] hc29 ?_
  refine A.AL.done ?_
  exact A.j ⟨_,Nat.lt_succ_self _,⟨(Z.mins m6 x10.2.1 true),(y7+1),rfl,rfl,(Z.i64_has hc29),hF⟩⟩
 refine A.xl 3 ?_
 refine A.q0 [] [] [.n] [(4,.bool true)] ?_
 refine A.dx 1 ?_
 obtain rfl:=Option.some.inj hF
 exact A.rt1 [] ⟨rfl,rfl⟩
def F.delta_may_j1 (y2:Bool):Option Bool:=some y2
def F.delta_may (a0:(List (Int×D69)))(a1:D27):Option Bool:=if(bif bif decide (((a1.1).length:Int)≤32)then decide (((a1.2.1).length:Int)≤32)else false then decide (((a1.2.2).length:Int)≤16)else false)=true then((F.delta_drops a0 (a1.1,a1.2.1,a1.2.2)).bind fun r3=>(if r3=true then((F.delta_puts a0 (a1.1,a1.2.1,a1.2.2)).bind fun r5=>(if r5=true then((F.delta_moves a0 (a1.1,a1.2.1,a1.2.2)).bind fun r7=>(F.delta_may_j1 r7))else(F.delta_may_j1 false)))else(F.delta_may_j1 false)))else(F.delta_may_j1 false)
theorem delta_may_ok (a0:(List (Int×D69)))(a1:D27)(b0_:Nat)(A1_:Option Addr)(c2_:Nat)(A3_:Option Addr)(c4_:Nat)(A5_:Option Addr)(c6_:Nat)(r:Bool)(hF:F.delta_may a0 a1=some r):
    A.Ct Tryz.prog 37 [.map (some b0_),.agg #[.slice A1_ ((a1.1).length) c2_,.slice A3_ ((a1.2.1).length) c4_,.slice A5_ ((a1.2.2).length) c6_]] [(0,.lmp Int (fun i:Int=>.int .i64 i) T69 true b0_ a0),(1,.sh (.slice (Z.Ty.int .i64)) [.slice A1_ (a1.1).length c2_] a1.1),(2,.sh (.slice T69) [.slice A3_ (a1.2.1).length c4_] a1.2.1),(3,.sh (.slice T82) [.slice A5_ (a1.2.2).length c6_] a1.2.2)] [] (fun v H'=>v=.bool r∧H'=[]):=by
 refine A.Ct.enter Tryz.func37 rfl Tryz.ntmps37 rfl fun w0 F0=>?_
 rw[F.delta_may]at hF
 refine A.xl 1 ?_
 refine A.AL.box 4 (cs:=[.slice A1_ ((a1.1).length) c2_,.slice A3_ ((a1.2.1).length) c4_,.slice A5_ ((a1.2.2).length) c6_]) fun g1=>?_
 refine A.q0 [] [] [.n] [] ?_
 refine A.dx 1 ?_
 refine A.AX.join [] [] (fun nl nh=>∃(y2:Bool),nl=[(4,.bool y2)]∧nh=[]∧F.delta_may_j1 y2=some r) ?_ ?_
 ·refine A.xl 0 ?_
  refine A.q0 [4] [] [.n,.b 0 0,.n,.n,.n,.sy .n,.sy (.b 0 1),.sy .n,.sy .n,.pk,.n,.sy .n,.sy (.b 0 2),.sy .n,.sy .n,.pk,.n] [(21,.bool (bif bif decide (((a1.1).length:Int)≤32)then decide (((a1.2.1).length:Int)≤32)else false then decide (((a1.2.2).length:Int)≤16)else false))] ?_
  refine A.AL.cnd (j:=21) rfl hF (fun hF=>?_) (fun hF=>?_)
  ·refine A.q0 [4] [] [.on .n,.on (.b 0 0)] [(22,.map (some b0_)),(23,.agg #[.slice A1_ ((a1.1).length) c2_,.slice A3_ ((a1.2.1).length) c4_,.slice A5_ ((a1.2.2).length) c6_])] ?_
   refine A.AL.on (dj:=21) rfl rfl ?_
   obtain⟨r3,hv4,hF⟩:=A.bd_some hF
   refine A.AL.call 5 [] (first:=[]) (cap:=[]) cf72 (delta_drops_ok a0 (a1.1,a1.2.1,a1.2.2) b0_ A1_ c2_ A3_ c4_ A5_ c6_ r3 hv4) (.s 0 (.s 1 (.s 2 (.s 3 .nil)))) ?_
   rintro _ _ ⟨rfl,rfl⟩
   refine⟨by kernel_rfl,?_⟩
   refine A.q0 [] [] [.n,.n] [(26,.bool r3)] ?_
   refine A.AL.cnd (j:=26) rfl hF (fun hF=>?_) (fun hF=>?_)
   ·refine A.q0 [4] [] [.on .n,.on (.b 0 0)] [(27,.map (some b0_)),(28,.agg #[.slice A1_ ((a1.1).length) c2_,.slice A3_ ((a1.2.1).length) c4_,.slice A5_ ((a1.2.2).length) c6_])] ?_
    refine A.AL.on (dj:=26) rfl rfl ?_
    obtain⟨r5,hv6,hF⟩:=A.bd_some hF
    refine A.AL.call 45 [] (first:=[]) (cap:=[]) cf73 (delta_puts_ok a0 (a1.1,a1.2.1,a1.2.2) b0_ A1_ c2_ A3_ c4_ A5_ c6_ r5 hv6) (.s 0 (.s 1 (.s 2 (.s 3 .nil)))) ?_
    rintro _ _ ⟨rfl,rfl⟩
    refine⟨by kernel_rfl,?_⟩
    refine A.q0 [] [] [.n,.n] [(31,.bool r5)] ?_
    refine A.AL.cnd (j:=31) rfl hF (fun hF=>?_) (fun hF=>?_)
    ·refine A.q0 [4] [] [.on .n,.on (.b 0 0)] [(32,.map (some b0_)),(33,.agg #[.slice A1_ ((a1.1).length) c2_,.slice A3_ ((a1.2.1).length) c4_,.slice A5_ ((a1.2.2).length) c6_])] ?_
     refine A.AL.on (dj:=31) rfl rfl ?_
     obtain⟨r7,hv8,hF⟩:=A.bd_some hF
     refine A.AL.call 85 [] (first:=[]) (cap:=[]) cf74 (delta_moves_ok a0 (a1.1,a1.2.1,a1.2.2) b0_ A1_ c2_ A3_ c4_ A5_ c6_ r7 hv8) (.s 0 (.s 1 (.s 2 (.s 3 .nil)))) ?_
     rintro _ _ ⟨rfl,rfl⟩
     refine⟨by kernel_rfl,?_⟩
     refine A.q0 [] [] [.n,.n] [(4,.bool r7)] ?_
     refine A.AL.done ?_
     exact A.j ⟨r7,rfl,rfl,hF⟩
    refine A.q0 [] [] [.off,.off,.off,.n,.n] [(4,.bool false)] ?_
    refine A.AL.done ?_
    exact A.j ⟨false,rfl,rfl,hF⟩
   refine A.q0 [] [] [.off,.off,.off,.n,.n,.off,.off,.off,.n,.n] [(4,.bool false)] ?_
   refine A.AL.done ?_
   exact A.j ⟨false,rfl,rfl,hF⟩
  refine A.q0 [] [] [.off,.off,.off,.n,.n,.off,.off,.off,.n,.n,.off,.off,.off,.n,.n] [(4,.bool false)] ?_
  refine A.AL.done ?_
  exact A.j ⟨false,rfl,rfl,hF⟩
 rintro _ _ ⟨y2,rfl,rfl,hF⟩
 rw[F.delta_may_j1]at hF
 obtain rfl:=Option.some.inj hF
 exact A.rt1 [] ⟨rfl,rfl⟩
end Go.Proofs.YtocfaokgoflmhaaGreatDoor
end
section
set_option linter.unusedVariables false
set_option linter.unusedSimpArgs false
set_option maxRecDepth 20000
set_option maxHeartbeats 8000000
set_option synthInstance.maxSize 1000000
set_option synthInstance.maxHeartbeats 400000
namespace Go.Proofs.YtocfaokgoflmhaaGreatDoor
open Go.RowKit
def F.delta_made_j1 (k13:(List D69)→Int→Option D23)(y34:Int)(xs39:List D69):Option D23:=A.gd (Z.R64 (y34+1)) (k13 xs39 (y34+1))
def F.delta_made_l2 (m17:List (Int×D69)):Nat→(List D69)→Int→Option D23
 |0,_,_=>none
 |f+1,xs33,y34=>if y34<256 then(A.lt (Z.mget ((0,0,[],(0,0,(ByteArray.mk #[])),(ByteArray.mk #[]),0,0):D69) m17 y34) fun x41=>(if(Z.mhas m17 y34)=true then(A.gd ((List.length (α:=D69) xs33+List.length (α:=D69) [(x41.1,x41.2.1,x41.2.2.1,(x41.2.2.2.1.1,x41.2.2.2.1.2.1,x41.2.2.2.1.2.2),x41.2.2.2.2.1,x41.2.2.2.2.2.1,x41.2.2.2.2.2.2)])*104≤140737488355328) (F.delta_made_j1 (F.delta_made_l2 m17 f) y34 (xs33++[(x41.1,x41.2.1,x41.2.2.1,(x41.2.2.2.1.1,x41.2.2.2.1.2.1,x41.2.2.2.1.2.2),x41.2.2.2.2.1,x41.2.2.2.2.2.1,x41.2.2.2.2.2.2)])))else(F.delta_made_j1 (F.delta_made_l2 m17 f) y34 xs33)))else(some xs33)
def F.delta_made_l3 (a1:D27):Nat→(List (Int×D69))→Int→Option D23
 |0,_,_=>none
 |f+1,m17,y18=>if y18<((a1.2.1).length:Int)then((A.ix a1.2.1 y18).bind fun x21=>(A.gd (Z.R64 (y18+1)) ((F.delta_made_l3 a1 f) (Z.mins m17 x21.1 (x21.1,x21.2.1,x21.2.2.1,(x21.2.2.2.1.1,x21.2.2.2.1.2.1,x21.2.2.2.1.2.2),x21.2.2.2.2.1,x21.2.2.2.2.2.1,x21.2.2.2.2.2.2)) (y18+1))))else(F.delta_made_l2 m17 A.FU [] 0)
def F.delta_made_l4 (a1:D27):Nat→(List (Int×D69))→Int→Option D23
 |0,_,_=>none
 |f+1,m7,y8=>if y8<((a1.1).length:Int)then((A.ix a1.1 y8).bind fun x11=>(A.gd (Z.R64 (y8+1)) ((F.delta_made_l4 a1 f) (Z.mdel m7 x11) (y8+1))))else(F.delta_made_l3 a1 A.FU m7 0)
def F.delta_made (a0:D23)(a1:D27):Option D23:=(F.delta_byId a0).bind fun r4=>(F.delta_made_l4 a1 A.FU r4 0)
theorem delta_made_ok (a0:D23)(a1:D27)(A0_:Option Addr)(c1_:Nat)(A2_:Option Addr)(c3_:Nat)(A4_:Option Addr)(c5_:Nat)(A6_:Option Addr)(c7_:Nat)(r:D23)(hF:F.delta_made a0 a1=some r):
    A.Ct Tryz.prog 39 [.agg #[.slice A0_ ((a0).length) c1_],.agg #[.slice A2_ ((a1.1).length) c3_,.slice A4_ ((a1.2.1).length) c5_,.slice A6_ ((a1.2.2).length) c7_]] [(0,.sh (.slice T69) [.slice A0_ (a0).length c1_] a0),(1,.sh (.slice (Z.Ty.int .i64)) [.slice A2_ (a1.1).length c3_] a1.1),(2,.sh (.slice T69) [.slice A4_ (a1.2.1).length c5_] a1.2.1),(3,.sh (.slice T82) [.slice A6_ (a1.2.2).length c7_] a1.2.2)] [] (fun v H'=>∃(A0':Option Addr) (c1':Nat),v=.agg #[.slice A0' ((r).length) c1']∧H'=[(0,.sh (.slice T69) [.slice A0' (r).length c1'] r)]):=by
 refine A.Ct.enter Tryz.func39 rfl Tryz.ntmps39 rfl fun w0 F0=>?_
 rw[F.delta_made]at hF
 refine A.xl 1 ?_
 refine A.AL.box 4 (cs:=[.slice A0_ ((a0).length) c1_]) fun g1=>?_
 refine A.AL.box 5 (cs:=[.slice A2_ ((a1.1).length) c3_,.slice A4_ ((a1.2.1).length) c5_,.slice A6_ ((a1.2.2).length) c7_]) fun g2=>?_
 refine A.AL.alloc 6 (cs:=[.slice none 0 0]) Tryz.zeroValue24 fun g3=>?_
 refine A.dl 2 ?_
 refine A.q0 [4] [] [.n,.b 0 0] [(15,.slice A0_ ((a0).length) c1_)] ?_
 obtain⟨r4,hv5,hF⟩:=A.bd_some hF
 refine A.AL.call 7 [] (first:=[]) (cap:=[]) cf38 (delta_byId_ok a0 A0_ c1_ r4 hv5) (.l 0 .nil) ?_
 rintro _ _ ⟨b6,rfl,rfl⟩
 refine⟨by kernel_rfl,?_⟩
 refine A.q0 [] [] [.n] [(5,.map (some b6))] ?_
 refine A.dl 3 ?_
 refine A.q0 [5] [] [.n,.b 0 0,.n,.n] [(18,.slice A2_ ((a1.1).length) c3_),(19,.int .i64 ((a1.1).length:Int)),(20,.int .i64 0)] ?_
 refine A.dx 2 ?_
 refine A.lp_ [3,4,5,18,19] [1,2,3,5,6] (fun f nl nh=>∃(m7:List (Int×D69)),∃(y8:Int),nl=[(20,.int .i64 y8)]∧nh=[(7,.mp Int (fun i:Int=>.int .i64 i) T69 true b6 m7)]∧IntKind.i64.has y8∧F.delta_made_l4 a1 f m7 y8=some r) ⟨r4,0,rfl,rfl,(A.hasl .i64 (0) rfl),hF⟩ ?_
 rintro f10 _ _ ⟨m7,y8,rfl,rfl,hy9,hF⟩
 rcases f10 with _|f10
 ·exact A.no0 hF
 rw[F.delta_made_l4]at hF
 refine A.xl 1 ?_
 refine A.q0 [] [] [.n] [(21,.bool (decide (y8<((a1.1).length:Int))))] ?_
 refine A.dx 2 ?_
 refine A.AX.cnd rfl hF (fun hb hF=>?_) (fun hb hF=>?_)
 ·refine A.xl 5 ?_
  obtain⟨x11,hv12,hF⟩:=A.bd_some hF
  refine A.AL.ixs 1 187 hv12 fun ho13=>?_
  intro b14 o15
  refine A.q0 [] [187] [.e 0 0,.n] [(7,.int .i64 x11)] ?_
  refine A.dl 1 ?_
  refine A.q0 [] [] [.n,.n] [(24,.map (some b6)),(25,.int .i64 x11)] ?_
  refine A.AL.mdl 7 [] ky3 x11 ?_
  refine A.dl 2 ?_
  obtain⟨hc16,hF⟩:=A.gd_some hF
  refine A.q [] [] [.n,.n] [Z.R64 (y8+1)] [(20,.int .i64 (y8+1))] hc16 ?_
  refine A.AL.done ?_
  exact A.j ⟨_,Nat.lt_succ_self _,⟨(Z.mdel m7 x11),(y8+1),rfl,rfl,(Z.i64_has hc16),hF⟩⟩
 refine A.xl 4 ?_
 refine A.q0 [5] [] [.n,.b 0 1,.n,.n] [(28,.slice A4_ ((a1.2.1).length) c5_),(29,.int .i64 ((a1.2.1).length:Int)),(30,.int .i64 0)] ?_
 refine A.dx 2 ?_
 refine A.lp_ [4,5,28,29] [2,6] (fun f nl nh=>∃(m17:List (Int×D69)),∃(y18:Int),nl=[(30,.int .i64 y18)]∧nh=[(7,.mp Int (fun i:Int=>.int .i64 i) T69 true b6 m17)]∧IntKind.i64.has y18∧F.delta_made_l3 a1 f m17 y18=some r) ⟨m7,0,rfl,rfl,(A.hasl .i64 (0) rfl),hF⟩ ?_
 rintro f20 _ _ ⟨m17,y18,rfl,rfl,hy19,hF⟩
 rcases f20 with _|f20
 ·exact A.no0 hF
 rw[F.delta_made_l3]at hF
 refine A.xl 1 ?_
 refine A.q0 [] [] [.n] [(31,.bool (decide (y18<((a1.2.1).length:Int))))] ?_
 refine A.dx 2 ?_
 refine A.AX.cnd rfl hF (fun hb hF=>?_) (fun hb hF=>?_)
 ·refine A.xl 5 ?_
  obtain⟨x21,hv22,hF⟩:=A.bd_some hF
  refine A.AL.ixs 2 234 hv22 fun ho23=>?_
  intro A24 c25 b26 o27
  refine A.q0 [] [234] [.e 0 0] [(33,.agg #[.int .i64 x21.1,.int .i64 x21.2.1,.slice A24 ((x21.2.2.1).length) c25,.int .i64 x21.2.2.2.1.1,.int .i64 x21.2.2.2.1.2.1,.string x21.2.2.2.1.2.2,.string x21.2.2.2.2.1,.int .i64 x21.2.2.2.2.2.1,.int .i64 x21.2.2.2.2.2.2])] ?_
  refine A.AL.alloc 236 (cs:=[.int .i64 0,.int .i64 0,.slice none 0 0,.int .i64 0,.int .i64 0,.string (ByteArray.mk #[]),.string (ByteArray.mk #[]),.int .i64 0,.int .i64 0]) Tryz.zeroValue70 fun g28=>?_
  refine A.sw 236 [] [.int .i64 x21.1,.int .i64 x21.2.1,.slice A24 ((x21.2.2.1).length) c25,.int .i64 x21.2.2.2.1.1,.int .i64 x21.2.2.2.1.2.1,.string x21.2.2.2.1.2.2,.string x21.2.2.2.2.1,.int .i64 x21.2.2.2.2.2.1,.int .i64 x21.2.2.2.2.2.2] ?_
  refine A.dl 1 ?_
  refine A.q0 [236] [] [.n,.n,.b 0 0,.b 0 0] [(34,.map (some b6)),(36,.int .i64 x21.1),(37,.agg #[.int .i64 x21.1,.int .i64 x21.2.1,.slice A24 ((x21.2.2.1).length) c25,.int .i64 x21.2.2.2.1.1,.int .i64 x21.2.2.2.1.2.1,.string x21.2.2.2.1.2.2,.string x21.2.2.2.2.1,.int .i64 x21.2.2.2.2.2.1,.int .i64 x21.2.2.2.2.2.2])] ?_
  refine A.AL.mup (t:=T69) 7 [] (cs:=[.int .i64 x21.1,.int .i64 x21.2.1,.slice A24 ((x21.2.2.1).length) c25,.int .i64 x21.2.2.2.1.1,.int .i64 x21.2.2.2.1.2.1,.string x21.2.2.2.1.2.2,.string x21.2.2.2.2.1,.int .i64 x21.2.2.2.2.2.1,.int .i64 x21.2.2.2.2.2.2]) (u:=(x21.1,x21.2.1,x21.2.2.1,(x21.2.2.2.1.1,x21.2.2.2.1.2.1,x21.2.2.2.1.2.2),x21.2.2.2.2.1,x21.2.2.2.2.2.1,x21.2.2.2.2.2.2)) ky3 x21.1 ⟨⟨rfl,ho23.1⟩,⟨rfl,ho23.2.1⟩,.inl ⟨235,rfl⟩,⟨⟨rfl,ho23.2.2.2.1.1⟩,⟨rfl,ho23.2.2.2.1.2.1⟩,⟨rfl,ho23.2.2.2.1.2.2⟩⟩,⟨rfl,ho23.2.2.2.2.1⟩,⟨rfl,ho23.2.2.2.2.2.1⟩,⟨rfl,ho23.2.2.2.2.2.2⟩⟩ ?_
  refine A.dl 2 ?_
  obtain⟨hc29,hF⟩:=A.gd_some hF
  refine A.q [] [] [.n,.n] [Z.R64 (y18+1)] [(30,.int .i64 (y18+1))] hc29 ?_
  refine A.AL.done ?_
  exact A.j ⟨_,Nat.lt_succ_self _,⟨(Z.mins m17 x21.1 (x21.1,x21.2.1,x21.2.2.1,(x21.2.2.2.1.1,x21.2.2.2.1.2.1,x21.2.2.2.1.2.2),x21.2.2.2.2.1,x21.2.2.2.2.2.1,x21.2.2.2.2.2.2)),(y18+1),rfl,rfl,(Z.i64_has hc29),hF⟩⟩
 refine A.xl 3 ?_
 refine A.AL.alloc 237 (cs:=[.slice none 0 0]) Tryz.zeroValue24 fun g30=>?_
 refine A.dl 3 ?_
 refine A.q0 [] [] [.n] [(39,.int .i64 0)] ?_
 refine A.dx 2 ?_
 refine A.nil 247 T69 70 ?_
 refine A.lp_ [4,5,10] [6,7] (fun f nl nh=>∃(xs33:List D69),∃(y34:Int),∃(A31:Option Addr),∃(c32:Nat),nl=[(39,.int .i64 y34)]∧nh=[(237,.blk g30 24 [.slice A31 ((xs33).length) c32]),(247,.own T69 70 A31 c32 xs33)]∧IntKind.i64.has y34∧F.delta_made_l2 m17 f xs33 y34=some r) ⟨[],0,none,0,rfl,rfl,(A.hasl .i64 (0) rfl),hF⟩ ?_
 rintro f36 _ _ ⟨xs33,y34,A31,c32,rfl,rfl,hy35,hF⟩
 rcases f36 with _|f36
 ·exact A.no0 hF
 rw[F.delta_made_l2]at hF
 refine A.xl 1 ?_
 refine A.q0 [] [] [.n] [(40,.bool (decide (y34<256)))] ?_
 refine A.dx 2 ?_
 refine A.AX.cnd rfl hF (fun hb hF=>?_) (fun hb hF=>?_)
 ·refine A.xx 2 ?_
  refine A.AX.join [4,5,10,39] [6,7] (fun nl nh=>∃(xs39:List D69),∃(A37:Option Addr),∃(c38:Nat),nl=[]∧nh=[(237,.blk g30 24 [.slice A37 ((xs39).length) c38]),(247,.own T69 70 A37 c38 xs39)]∧F.delta_made_j1 (F.delta_made_l2 m17 f36) y34 xs39=some r) ?_ ?_
  ·refine A.xl 2 ?_
   refine A.q0 [] [] [.n,.n] [(11,.int .i64 y34)] ?_
   refine A.dl 2 ?_
   refine A.q0 [] [] [.n,.n] [(43,.map (some b6)),(44,.int .i64 y34)] ?_
   obtain⟨x41,hv42,hF⟩:=A.lt_some hF
   refine A.AL.lk2 (t:=T69) 7 254 (z:=((0,0,[],(0,0,(ByteArray.mk #[])),(ByteArray.mk #[]),0,0):D69)) (zs:=[.int .i64 0,.int .i64 0,.slice none 0 0,.int .i64 0,.int .i64 0,.string (ByteArray.mk #[]),.string (ByteArray.mk #[]),.int .i64 0,.int .i64 0]) ky3 y34 Tryz.zeroValue70 ⟨⟨rfl,by decide⟩,⟨rfl,by decide⟩,(.inr ⟨rfl,rfl⟩),⟨⟨rfl,by decide⟩,⟨rfl,by decide⟩,⟨rfl,by decide⟩⟩,⟨rfl,by decide⟩,⟨rfl,by decide⟩,⟨rfl,by decide⟩⟩ hv42 fun ho43=>?_
   intro A44 c45
   refine A.q0 [] [] [.n,.n,.n] [(46,.agg #[.int .i64 x41.1,.int .i64 x41.2.1,.slice A44 ((x41.2.2.1).length) c45,.int .i64 x41.2.2.2.1.1,.int .i64 x41.2.2.2.1.2.1,.string x41.2.2.2.1.2.2,.string x41.2.2.2.2.1,.int .i64 x41.2.2.2.2.2.1,.int .i64 x41.2.2.2.2.2.2]),(47,.bool (Z.mhas m17 y34))] ?_
   refine A.AL.alloc 255 (cs:=[.int .i64 0,.int .i64 0,.slice none 0 0,.int .i64 0,.int .i64 0,.string (ByteArray.mk #[]),.string (ByteArray.mk #[]),.int .i64 0,.int .i64 0]) Tryz.zeroValue70 fun g46=>?_
   refine A.sw 255 [] [.int .i64 x41.1,.int .i64 x41.2.1,.slice A44 ((x41.2.2.1).length) c45,.int .i64 x41.2.2.2.1.1,.int .i64 x41.2.2.2.1.2.1,.string x41.2.2.2.1.2.2,.string x41.2.2.2.2.1,.int .i64 x41.2.2.2.2.2.1,.int .i64 x41.2.2.2.2.2.2] ?_
   refine A.q0 [] [] [.n] [(13,.bool (Z.mhas m17 y34))] ?_
   refine A.dl 2 ?_
   refine A.q0 [] [] [.n] [(48,.bool (Z.mhas m17 y34))] ?_
   refine A.dx 1 ?_
   refine A.AX.cnb rfl hF (fun hb hF=>?_) (fun hb hF=>?_)
   ·refine A.xl 0 ?_
    refine A.q0 [237,255] [] [.n,.b 0 0,.b 1 0] [(50,.slice A31 ((xs33).length) c32),(51,.agg #[.int .i64 x41.1,.int .i64 x41.2.1,.slice A44 ((x41.2.2.1).length) c45,.int .i64 x41.2.2.2.1.1,.int .i64 x41.2.2.2.1.2.1,.string x41.2.2.2.1.2.2,.string x41.2.2.2.2.1,.int .i64 x41.2.2.2.2.2.1,.int .i64 x41.2.2.2.2.2.2])] ?_
    refine A.AL.bsl 256 (ty:=T69) (cs:=[.int .i64 x41.1,.int .i64 x41.2.1,.slice A44 ((x41.2.2.1).length) c45,.int .i64 x41.2.2.2.1.1,.int .i64 x41.2.2.2.1.2.1,.string x41.2.2.2.1.2.2,.string x41.2.2.2.2.1,.int .i64 x41.2.2.2.2.2.1,.int .i64 x41.2.2.2.2.2.2]) [(x41.1,x41.2.1,x41.2.2.1,(x41.2.2.2.1.1,x41.2.2.2.1.2.1,x41.2.2.2.1.2.2),x41.2.2.2.2.1,x41.2.2.2.2.2.1,x41.2.2.2.2.2.2)] ⟨⟨⟨rfl,ho43.1⟩,⟨rfl,ho43.2.1⟩,.inl ⟨254,rfl⟩,⟨⟨rfl,ho43.2.2.2.1.1⟩,⟨rfl,ho43.2.2.2.1.2.1⟩,⟨rfl,ho43.2.2.2.1.2.2⟩⟩,⟨rfl,ho43.2.2.2.2.1⟩,⟨rfl,ho43.2.2.2.2.2.1⟩,⟨rfl,ho43.2.2.2.2.2.2⟩⟩,rfl⟩ (fun g47=>?_) Tryz.zeroValue70 Tryz.sizeOf70
    obtain⟨hl50,hF⟩:=A.gd_some hF
    refine A.AL.app (k:=247) [] (A.rowO (k:=256) rfl) inf70 hl50 fun A48 c49=>?_
    refine A.q0 [] [] [.n] [(54,.pointer (some ⟨g30,0,none⟩))] ?_
    refine A.sw 237 [] [.slice A48 ((xs33++[(x41.1,x41.2.1,x41.2.2.1,(x41.2.2.2.1.1,x41.2.2.2.1.2.1,x41.2.2.2.1.2.2),x41.2.2.2.2.1,x41.2.2.2.2.2.1,x41.2.2.2.2.2.2)]).length) c49] ?_
    refine A.de 1 ?_
    exact A.j ⟨(xs33++[(x41.1,x41.2.1,x41.2.2.1,(x41.2.2.2.1.1,x41.2.2.2.1.2.1,x41.2.2.2.1.2.2),x41.2.2.2.2.1,x41.2.2.2.2.2.1,x41.2.2.2.2.2.2)]),A48,c49,rfl,rfl,hF⟩
   refine A.xe 2 ?_
   exact A.j ⟨xs33,A31,c32,rfl,rfl,hF⟩
  rintro _ _ ⟨xs39,A37,c38,rfl,rfl,hF⟩
  rw[F.delta_made_j1]at hF
  refine A.xl 0 ?_
  obtain⟨hc40,hF⟩:=A.gd_some hF
  refine A.q [] [] [.n,.n] [Z.R64 (y34+1)] [(39,.int .i64 (y34+1))] hc40 ?_
  refine A.AL.done ?_
  exact A.j ⟨_,Nat.lt_succ_self _,⟨xs39,(y34+1),A37,c38,rfl,rfl,(Z.i64_has hc40),hF⟩⟩
 refine A.xl 3 ?_
 refine A.q0 [237] [] [.b 0 0] [(56,.agg #[.slice A31 ((xs33).length) c32])] ?_
 refine A.sw 6 [] [.slice A31 ((xs33).length) c32] ?_
 refine A.dx 1 ?_
 obtain rfl:=Option.some.inj hF
 refine A.frz 247 [] ?_
 exact A.AX.ret [(0,247)] (.agg #[.slice A31 ((xs33).length) c32]) (fun a w hf hh=>Z.resv1 rfl (Z.rv_n hf rfl Tryz.isAgg24 Tryz.sizeOf24 (A.Hp.blk hh 6) rfl)) (⟨A31,c32,rfl,rfl⟩)
def F.slices_Clone_api_Node_api_Node (a0:(List D69)):Option (List D69):=A.gd ((List.length (α:=D69) []+List.length (α:=D69) a0)*104≤140737488355328) (some ([]++a0))
theorem slices_Clone_api_Node_api_Node_ok (a0:(List D69))(A0_:Option Addr)(c1_:Nat)(r:(List D69))(hF:F.slices_Clone_api_Node_api_Node a0=some r):
    A.Ct Tryz.prog 75 [.slice A0_ ((a0).length) c1_] [(0,.ln T69 A0_ c1_ a0)] [] (fun v H'=>∃(A0':Option Addr) (c1':Nat),v=.slice A0' ((r).length) c1'∧H'=[(0,.own T69 70 A0' c1' r)]):=by
 refine A.Ct.enter Tryz.func75 rfl Tryz.ntmps75 rfl fun w0 F0=>?_
 rw[F.slices_Clone_api_Node_api_Node]at hF
 refine A.xl 1 ?_
 refine A.q0 [] [] [.n] [] ?_
 refine A.dl 3 ?_
 refine A.q0 [] [] [.n,.n] [(4,.bool A0_.isNone)] ?_
 refine A.dx 1 ?_
 refine A.AX.cnn rfl (fun hb=>?_) (fun hb=>?_)
 ·refine A.nilL 0 hb fun hb=>?_
  subst hb
  replace hF:some []=some r:=by simpa[A.gd,A.ix] using hF
  refine A.xl 1 ?_
  refine A.q0 [] [] [.n] [(2,.slice none 0 0)] ?_
  refine A.dx 1 ?_
  obtain rfl:=Option.some.inj hF
  refine A.nil 2 T69 70 ?_
  exact A.rt1 [(0,2)] ⟨none,0,rfl,rfl⟩
 refine A.xl 3 ?_
 refine A.AL.bs0 1 T69 (fun g1=>?_) Tryz.sizeOf70
 refine A.q0 [] [] [.n] [(6,.slice A0_ ((a0).length) c1_)] ?_
 obtain⟨hl4,hF⟩:=A.gd_some hF
 refine A.AL.app (k:=1) [] (A.rowL (k:=0) rfl) inf70 hl4 fun A2 c3=>?_
 refine A.q0 [] [] [.n] [(2,.slice A2 (([]++a0).length) c3)] ?_
 refine A.dx 1 ?_
 obtain rfl:=Option.some.inj hF
 exact A.rt1 [(0,1)] ⟨A2,c3,rfl,rfl⟩
def F.slices_Clone_int_int (a0:(List Int)):Option (List Int):=A.gd ((List.length (α:=Int) []+List.length (α:=Int) a0)*8≤140737488355328) (some ([]++a0))
theorem slices_Clone_int_int_ok (a0:(List Int))(A0_:Option Addr)(c1_:Nat)(r:(List Int))(hF:F.slices_Clone_int_int a0=some r):
    A.Ct Tryz.prog 76 [.slice A0_ ((a0).length) c1_] [(0,.ln (Z.Ty.int .i64) A0_ c1_ a0)] [] (fun v H'=>∃(A0':Option Addr) (c1':Nat),v=.slice A0' ((r).length) c1'∧H'=[(0,.own (Z.Ty.int .i64) 3 A0' c1' r)]):=by
 refine A.Ct.enter Tryz.func76 rfl Tryz.ntmps76 rfl fun w0 F0=>?_
 rw[F.slices_Clone_int_int]at hF
 refine A.xl 1 ?_
 refine A.q0 [] [] [.n] [] ?_
 refine A.dl 3 ?_
 refine A.q0 [] [] [.n,.n] [(4,.bool A0_.isNone)] ?_
 refine A.dx 1 ?_
 refine A.AX.cnn rfl (fun hb=>?_) (fun hb=>?_)
 ·refine A.nilL 0 hb fun hb=>?_
  subst hb
  replace hF:some []=some r:=by simpa[A.gd,A.ix] using hF
  refine A.xl 1 ?_
  refine A.q0 [] [] [.n] [(2,.slice none 0 0)] ?_
  refine A.dx 1 ?_
  obtain rfl:=Option.some.inj hF
  refine A.nil 2 (Z.Ty.int .i64) 3 ?_
  exact A.rt1 [(0,2)] ⟨none,0,rfl,rfl⟩
 refine A.xl 3 ?_
 refine A.AL.bs0 1 (Z.Ty.int .i64) (fun g1=>?_) Tryz.sizeOf3
 refine A.q0 [] [] [.n] [(6,.slice A0_ ((a0).length) c1_)] ?_
 obtain⟨hl4,hF⟩:=A.gd_some hF
 refine A.AL.app (k:=1) [] (A.rowL (k:=0) rfl) inf3 hl4 fun A2 c3=>?_
 refine A.q0 [] [] [.n] [(2,.slice A2 (([]++a0).length) c3)] ?_
 refine A.dx 1 ?_
 obtain rfl:=Option.some.inj hF
 exact A.rt1 [(0,1)] ⟨A2,c3,rfl,rfl⟩
def F.graph_Clone_l1 (r3:(List D69)):Nat→(List D69)→Int→Option D23
 |0,_,_=>none
 |f+1,xs9,y11=>if y11<((r3).length:Int)then((A.ix xs9 y11).bind fun x14=>((F.slices_Clone_int_int x14.2.2.1).bind fun r21=>((A.ix xs9 y11).bind fun x25=>(A.gd (Z.R64 (y11+1)) ((F.graph_Clone_l1 r3 f) (xs9.set y11.toNat (x25.1,x25.2.1,r21,(x25.2.2.2.1.1,x25.2.2.2.1.2.1,x25.2.2.2.1.2.2),x25.2.2.2.2.1,x25.2.2.2.2.2.1,x25.2.2.2.2.2.2)) (y11+1))))))else(some xs9)
def F.graph_Clone (a0:D23):Option D23:=(F.slices_Clone_api_Node_api_Node a0).bind fun r3=>(F.graph_Clone_l1 r3 A.FU r3 0)
theorem graph_Clone_ok (a0:D23)(A0_:Option Addr)(c1_:Nat)(r:D23)(hF:F.graph_Clone a0=some r):
    A.Ct Tryz.prog 40 [.agg #[.slice A0_ ((a0).length) c1_]] [(0,.sh (.slice T69) [.slice A0_ (a0).length c1_] a0)] [] (fun v H'=>∃(A0':Option Addr) (c1':Nat),v=.agg #[.slice A0' ((r).length) c1']∧H'=[(0,.sh (.slice T69) [.slice A0' (r).length c1'] r)]):=by
 refine A.Ct.enter Tryz.func40 rfl Tryz.ntmps40 rfl fun w0 F0=>?_
 rw[F.graph_Clone]at hF
 refine A.xl 1 ?_
 refine A.AL.box 1 (cs:=[.slice A0_ ((a0).length) c1_]) fun g1=>?_
 refine A.AL.alloc 2 (cs:=[.slice none 0 0]) Tryz.zeroValue24 fun g2=>?_
 refine A.dl 2 ?_
 refine A.q0 [1] [] [.n,.b 0 0] [(5,.slice A0_ ((a0).length) c1_)] ?_
 obtain⟨r3,hv4,hF⟩:=A.bd_some hF
 refine A.AL.call 3 [] (first:=[]) (cap:=[]) cf75 (slices_Clone_api_Node_api_Node_ok a0 A0_ c1_ r3 hv4) (.l 0 .nil) ?_
 rintro _ _ ⟨A5,c6,rfl,rfl⟩
 refine⟨by kernel_rfl,?_⟩
 refine A.q0 [] [] [.n] [(7,.pointer (some ⟨g1,0,none⟩))] ?_
 refine A.sw 1 [] [.slice A5 ((r3).length) c6] ?_
 refine A.dl 3 ?_
 refine A.q0 [1] [] [.n,.b 0 0,.n,.n] [(10,.int .i64 ((r3).length:Int)),(11,.int .i64 0)] ?_
 refine A.dx 2 ?_
 refine A.lp_ [1,2,10] [1,2] (fun f nl nh=>∃(xs9:List D69),∃(y11:Int),nl=[(11,.int .i64 y11)]∧nh=[(3,.own T69 70 A5 c6 xs9)]∧(r3).length=xs9.length∧IntKind.i64.has y11∧F.graph_Clone_l1 r3 f xs9 y11=some r) ⟨r3,0,rfl,rfl,rfl,(A.hasl .i64 (0) rfl),hF⟩ ?_
 rintro f13 _ _ ⟨xs9,y11,rfl,rfl,hn10,hy12,hF⟩
 rcases f13 with _|f13
 ·exact A.no0 hF
 rw[F.graph_Clone_l1]at hF
 refine A.xl 1 ?_
 refine A.q0 [] [] [.n] [(12,.bool (decide (y11<((r3).length:Int))))] ?_
 refine A.dx 2 ?_
 refine A.AX.cnd rfl hF (fun hb hF=>?_) (fun hb hF=>?_)
 ·refine A.xl 5 ?_
  refine A.q0 [] [] [.n,.n] [(3,.int .i64 y11)] ?_
  refine A.dx 1 ?_
  refine A.AX.dr mixed 12 13 (A.mb 13 0) ?_
  refine A.hq A.pb [] [1,2,3] [1] [] (A.mb 13 63) 7 [(0,.n),(2,.n),(3,.n),(5,.n),(1,.b 0 0),(4,.b 0 0)] [(16,.int .i64 y11),(19,.int .i64 y11),(15,.slice A5 ((r3).length) c6),(18,.slice A5 ((r3).length) c6)] ?_
  refine A.cst 18 (Z.slice_n (show(r3).length=(xs9).length from hn10)) ?_
  obtain⟨x14,hv15,hF⟩:=A.bd_some hF
  refine A.AH.pko 3 131 hv15 fun ho16=>?_
  intro A18 c19 g20 hA17
  refine A.AH.v A.pb [1,2,3] [1,2,3,131,132] 6 (A.mb 13 127) rfl (fun a w hf hh=>A.r_ixo (t:=T69) hv15 hA17 hf) ?_
  refine A.hq A.pb [1,2,3,131,132] [1,2,3,131,132] [] [131] (A.mb 13 511) 4 [(7,.n),(8,.e 0 2)] [(22,.slice A18 ((x14.2.2.1).length) c19)] ?_
  refine A.AH.one 9 ?_
  obtain⟨r21,hv22,hF⟩:=A.bd_some hF
  refine A.AL.call 133 [] (first:=[]) (cap:=[]) cf76 (slices_Clone_int_int_ok x14.2.2.1 A18 c19 r21 hv22) (.l 132 .nil) ?_
  rintro _ _ ⟨A23,c24,rfl,rfl⟩
  refine⟨by kernel_rfl,?_⟩
  refine A.AH.nx (A.mb 13 1023) [1,2,3,131,132] ?_
  refine A.cst 15 (Z.slice_n (show(r3).length=(xs9).length from hn10)) ?_
  obtain⟨x25,hv26,hF⟩:=A.bd_some hF
  refine A.AH.pko 3 173 hv26 fun ho27=>?_
  intro A29 c30 g31 hA28
  refine A.AH.v A.pb [1,2,3,131,132] [1,2,3,131,132,133,173,174] 10 (A.mb 13 2047) rfl (fun a w hf hh=>A.r_ixo (t:=T69) hv26 hA28 hf) ?_
  refine A.hq A.pb [1,2,3,131,132,133,173,174] [1,2,3,131,132,133,173,174] [] [] (A.mb 13 4095) 1 [(11,.n)] [(25,.pointer (some ⟨g31,y11.toNat*(T69).size+2,none⟩))] ?_
  refine A.AH.one 12 ?_
  refine A.frz 133 [] ?_
  refine A.AL.setel 3 173 [131,173] (o:=2) (m:=1) (t:=T69) (new:=[.slice A23 ((r21).length) c24]) (es:=[.int .i64 x25.1,.int .i64 x25.2.1,.slice A29 ((x25.2.2.1).length) c30,.int .i64 x25.2.2.2.1.1,.int .i64 x25.2.2.2.1.2.1,.string x25.2.2.2.1.2.2,.string x25.2.2.2.2.1,.int .i64 x25.2.2.2.2.2.1,.int .i64 x25.2.2.2.2.2.2]) (x25.1,x25.2.1,r21,(x25.2.2.2.1.1,x25.2.2.2.1.2.1,x25.2.2.2.1.2.2),x25.2.2.2.2.1,x25.2.2.2.2.2.1,x25.2.2.2.2.2.2) hv26 hA28 ⟨⟨rfl,ho27.1⟩,⟨rfl,ho27.2.1⟩,.inl ⟨133,rfl⟩,⟨⟨rfl,ho27.2.2.2.1.1⟩,⟨rfl,ho27.2.2.2.1.2.1⟩,⟨rfl,ho27.2.2.2.1.2.2⟩⟩,⟨rfl,ho27.2.2.2.2.1⟩,⟨rfl,ho27.2.2.2.2.2.1⟩,⟨rfl,ho27.2.2.2.2.2.2⟩⟩ ?_
  refine A.AH.nm (A.mb 13 8191) ?_
  refine A.AH.done ?_
  refine A.el 2 ?_
  obtain⟨hc32,hF⟩:=A.gd_some hF
  refine A.q [] [] [.n,.n] [Z.R64 (y11+1)] [(11,.int .i64 (y11+1))] hc32 ?_
  refine A.AL.done ?_
  exact A.j ⟨_,Nat.lt_succ_self _,⟨(xs9.set y11.toNat (x25.1,x25.2.1,r21,(x25.2.2.2.1.1,x25.2.2.2.1.2.1,x25.2.2.2.1.2.2),x25.2.2.2.2.1,x25.2.2.2.2.2.1,x25.2.2.2.2.2.2)),(y11+1),rfl,rfl,(by rw[List.length_set];exact hn10),(Z.i64_has hc32),hF⟩⟩
 refine A.xl 3 ?_
 refine A.q0 [1] [] [.b 0 0] [(27,.agg #[.slice A5 ((r3).length) c6])] ?_
 refine A.sw 2 [] [.slice A5 ((r3).length) c6] ?_
 refine A.dx 1 ?_
 obtain rfl:=Option.some.inj hF
 refine A.frz 3 [] ?_
 exact A.AX.ret [(0,3)] (.agg #[.slice A5 ((r3).length) c6]) (fun a w hf hh=>Z.resv1 rfl (Z.rv_n hf rfl Tryz.isAgg24 Tryz.sizeOf24 (A.Hp.blk hh 2) rfl)) (by rw[show(r3).length=(xs9).length from hn10];exact⟨A5,c6,rfl,rfl⟩)
end Go.Proofs.YtocfaokgoflmhaaGreatDoor
end
section
set_option linter.unusedVariables false
set_option linter.unusedSimpArgs false
set_option maxRecDepth 20000
set_option maxHeartbeats 8000000
set_option synthInstance.maxSize 1000000
set_option synthInstance.maxHeartbeats 400000
namespace Go.Proofs.YtocfaokgoflmhaaGreatDoor
open Go.RowKit
def F.delta_Apply_l1 (a0:D23)(a1:D27):Nat→Int→Option (D23×Int)
 |0,_=>none
 |f+1,y12=>if y12<((a1.2.1).length:Int)then((A.ix a1.2.1 y12).bind fun x15=>(if(bif decide (x15.1<1)then true else decide ((255:Int)<x15.1))=true then(some ([],80))else(A.gd (Z.R64 (y12+1)) ((F.delta_Apply_l1 a0 a1 f) (y12+1)))))else((F.delta_made a0 (a1.1,a1.2.1,a1.2.2)).bind fun r24=>((F.graph_Check r24).bind fun r29=>(if r29≠0 then(some ([],r29))else((F.graph_Clone r24).bind fun r32=>(some (r32,0))))))
def F.delta_Apply (a0:D23)(a1:D27):Option (D23×Int):=(F.graph_Check a0).bind fun r4=>(if r4≠0 then(some ([],r4))else((F.delta_byId a0).bind fun r7=>((F.delta_may r7 (a1.1,a1.2.1,a1.2.2)).bind fun r10=>(if(!r10)=true then(some ([],90))else(F.delta_Apply_l1 a0 a1 A.FU 0)))))
theorem delta_Apply_ok (a0:D23)(a1:D27)(A0_:Option Addr)(c1_:Nat)(A2_:Option Addr)(c3_:Nat)(A4_:Option Addr)(c5_:Nat)(A6_:Option Addr)(c7_:Nat)(r:D23×Int)(hF:F.delta_Apply a0 a1=some r):
    A.Ct Tryz.prog 11 [.agg #[.slice A0_ ((a0).length) c1_],.agg #[.slice A2_ ((a1.1).length) c3_,.slice A4_ ((a1.2.1).length) c5_,.slice A6_ ((a1.2.2).length) c7_]] [(0,.sh (.slice T69) [.slice A0_ (a0).length c1_] a0),(1,.sh (.slice (Z.Ty.int .i64)) [.slice A2_ (a1.1).length c3_] a1.1),(2,.sh (.slice T69) [.slice A4_ (a1.2.1).length c5_] a1.2.1),(3,.sh (.slice T82) [.slice A6_ (a1.2.2).length c7_] a1.2.2),(4,.el none 0 0 A.tabF),(5,.el none 1 0 A.tabA)] [] (fun v H'=>∃(A0':Option Addr) (c1':Nat),v=.tuple #[.agg #[.slice A0' ((r.1).length) c1'],.int .i64 r.2]∧H'=[(0,.sh (.slice T69) [.slice A0' (r.1).length c1'] r.1)]∧IntKind.i64.has r.2):=by
 refine A.Ct.enter Tryz.func11 rfl Tryz.ntmps11 rfl fun w0 F0=>?_
 rw[F.delta_Apply]at hF
 refine A.xl 1 ?_
 refine A.AL.box 6 (cs:=[.slice A0_ ((a0).length) c1_]) fun g1=>?_
 refine A.AL.box 7 (cs:=[.slice A2_ ((a1.1).length) c3_,.slice A4_ ((a1.2.1).length) c5_,.slice A6_ ((a1.2.2).length) c7_]) fun g2=>?_
 refine A.AL.alloc 8 (cs:=[.slice none 0 0]) Tryz.zeroValue24 fun g3=>?_
 refine A.q0 [] [] [.n] [] ?_
 refine A.dl 3 ?_
 refine A.q0 [6] [] [.b 0 0] [(11,.agg #[.slice A0_ ((a0).length) c1_])] ?_
 obtain⟨r4,hv5,hF⟩:=A.bd_some hF
 refine A.AL.call 9 [] (first:=[]) (cap:=[]) cf36 (graph_Check_ok a0 A0_ c1_ r4 hv5) (.s 0 (.s 4 (.s 5 .nil))) ?_
 rintro _ _ ⟨rfl,rfl,hr6⟩
 refine⟨by kernel_rfl,?_⟩
 refine A.q0 [] [] [.n] [(6,.int .i64 r4)] ?_
 refine A.dl 2 ?_
 refine A.q0 [] [] [.n,.n] [(14,.bool (decide (r4≠0)))] ?_
 refine A.dx 1 ?_
 refine A.AX.cnd rfl hF (fun hb hF=>?_) (fun hb hF=>?_)
 ·refine A.xl 1 ?_
  refine A.q0 [] [] [.n,.n] [(15,.agg #[.slice none 0 0]),(16,.int .i64 r4)] ?_
  refine A.sw 8 [] [.slice none 0 0] ?_
  refine A.q0 [] [] [.n] [(5,.int .i64 r4)] ?_
  refine A.dx 1 ?_
  obtain rfl:=Option.some.inj hF
  refine A.snil 49 T69 ?_
  exact A.AX.ret [(0,49)] (.tuple #[.agg #[.slice none 0 0],.int .i64 r4]) (fun a w hf hh=>Z.resv2 rfl (Z.rv_n hf rfl Tryz.isAgg24 Tryz.sizeOf24 (A.Hp.blk hh 8) rfl) (Z.rv_t hf rfl)) (⟨none,0,rfl,rfl,hr6⟩)
 refine A.xx 4 ?_
 refine A.AX.dr mixed 6 6 (A.mb 6 0) ?_
 refine A.hq A.pb [] [0,1,2,3,4,5,6,7,8] [7,6] [] (A.mb 6 11) 3 [(0,.n),(3,.b 0 0),(1,.b 1 0)] [(20,.agg #[.slice A2_ ((a1.1).length) c3_,.slice A4_ ((a1.2.1).length) c5_,.slice A6_ ((a1.2.2).length) c7_]),(18,.slice A0_ ((a0).length) c1_)] ?_
 refine A.AH.one 2 ?_
 obtain⟨r7,hv8,hF⟩:=A.bd_some hF
 refine A.AL.call 50 [] (first:=[]) (cap:=[]) cf38 (delta_byId_ok a0 A0_ c1_ r7 hv8) (.l 0 .nil) ?_
 rintro _ _ ⟨b9,rfl,rfl⟩
 refine⟨by kernel_rfl,?_⟩
 refine A.AH.nx (A.mb 6 15) [0,1,2,3,4,5,6,7,8] ?_
 refine A.AH.one 4 ?_
 obtain⟨r10,hv11,hF⟩:=A.bd_some hF
 refine A.AL.call 90 [] (first:=[]) (cap:=[]) cf37 (delta_may_ok r7 (a1.1,a1.2.1,a1.2.2) b9 A2_ c3_ A4_ c5_ A6_ c7_ r10 hv11) (.lm 50 (.s 1 (.s 2 (.s 3 .nil)))) ?_
 rintro _ _ ⟨rfl,rfl⟩
 refine⟨by kernel_rfl,?_⟩
 refine A.AH.nx (A.mb 6 31) [0,1,2,3,4,5,6,7,8] ?_
 refine A.hq A.pb [0,1,2,3,4,5,6,7,8] [0,1,2,3,4,5,6,7,8,50] [] [] (A.mb 6 63) 0 [(5,.n)] [(22,.bool (!r10))] ?_
 refine A.AH.done ?_
 refine A.ex 1 ?_
 refine A.AX.cnb rfl hF (fun hb hF=>?_) (fun hb hF=>?_)
 ·refine A.xl 1 ?_
  refine A.q0 [] [] [.n] [(23,.agg #[.slice none 0 0])] ?_
  refine A.sw 8 [] [.slice none 0 0] ?_
  refine A.q0 [] [] [.n] [(5,.int .i64 90)] ?_
  refine A.dx 1 ?_
  obtain rfl:=Option.some.inj hF
  refine A.snil 130 T69 ?_
  exact A.AX.ret [(0,130)] (.tuple #[.agg #[.slice none 0 0],.int .i64 90]) (fun a w hf hh=>Z.resv2 rfl (Z.rv_n hf rfl Tryz.isAgg24 Tryz.sizeOf24 (A.Hp.blk hh 8) rfl) (Z.rv_t hf rfl)) (⟨none,0,rfl,rfl,(A.hasl .i64 (90) rfl)⟩)
 refine A.xl 4 ?_
 refine A.q0 [7] [] [.n,.b 0 1,.n,.n] [(25,.slice A4_ ((a1.2.1).length) c5_),(26,.int .i64 ((a1.2.1).length:Int)),(27,.int .i64 0)] ?_
 refine A.dx 2 ?_
 refine A.lp_ [2,3,4,25,26] [0,1,2,3,4,5,6,7,8] (fun f nl nh=>∃(y12:Int),nl=[(27,.int .i64 y12)]∧nh=[]∧IntKind.i64.has y12∧F.delta_Apply_l1 a0 a1 f y12=some r) ⟨0,rfl,rfl,(A.hasl .i64 (0) rfl),hF⟩ ?_
 rintro f14 _ _ ⟨y12,rfl,rfl,hy13,hF⟩
 rcases f14 with _|f14
 ·exact A.no0 hF
 rw[F.delta_Apply_l1]at hF
 refine A.xl 1 ?_
 refine A.q0 [] [] [.n] [(28,.bool (decide (y12<((a1.2.1).length:Int))))] ?_
 refine A.dx 2 ?_
 refine A.AX.cnd rfl hF (fun hb hF=>?_) (fun hb hF=>?_)
 ·refine A.xl 5 ?_
  obtain⟨x15,hv16,hF⟩:=A.bd_some hF
  refine A.AL.ixs 2 383 hv16 fun ho17=>?_
  intro A18 c19 b20 o21
  refine A.q0 [] [383] [.e 0 0] [(30,.agg #[.int .i64 x15.1,.int .i64 x15.2.1,.slice A18 ((x15.2.2.1).length) c19,.int .i64 x15.2.2.2.1.1,.int .i64 x15.2.2.2.1.2.1,.string x15.2.2.2.1.2.2,.string x15.2.2.2.2.1,.int .i64 x15.2.2.2.2.2.1,.int .i64 x15.2.2.2.2.2.2])] ?_
  refine A.AL.alloc 385 (cs:=[.int .i64 0,.int .i64 0,.slice none 0 0,.int .i64 0,.int .i64 0,.string (ByteArray.mk #[]),.string (ByteArray.mk #[]),.int .i64 0,.int .i64 0]) Tryz.zeroValue70 fun g22=>?_
  refine A.sw 385 [] [.int .i64 x15.1,.int .i64 x15.2.1,.slice A18 ((x15.2.2.1).length) c19,.int .i64 x15.2.2.2.1.1,.int .i64 x15.2.2.2.1.2.1,.string x15.2.2.2.1.2.2,.string x15.2.2.2.2.1,.int .i64 x15.2.2.2.2.2.1,.int .i64 x15.2.2.2.2.2.2] ?_
  refine A.dl 2 ?_
  refine A.q0 [385] [] [.n,.b 0 0,.n,.n,.sy .n,.sy (.b 0 0),.sy .n,.pk] [(38,.bool (bif decide (x15.1<1)then true else decide ((255:Int)<x15.1)))] ?_
  refine A.dx 1 ?_
  refine A.AX.cnb rfl hF (fun hb hF=>?_) (fun hb hF=>?_)
  ·refine A.xl 1 ?_
   refine A.q0 [] [] [.n] [(39,.agg #[.slice none 0 0])] ?_
   refine A.sw 8 [] [.slice none 0 0] ?_
   refine A.q0 [] [] [.n] [(5,.int .i64 80)] ?_
   refine A.dx 1 ?_
   obtain rfl:=Option.some.inj hF
   refine A.snil 386 T69 ?_
   exact A.AX.ret [(0,386)] (.tuple #[.agg #[.slice none 0 0],.int .i64 80]) (fun a w hf hh=>Z.resv2 rfl (Z.rv_n hf rfl Tryz.isAgg24 Tryz.sizeOf24 (A.Hp.blk hh 8) rfl) (Z.rv_t hf rfl)) (⟨none,0,rfl,rfl,(A.hasl .i64 (80) rfl)⟩)
  refine A.xl 3 ?_
  obtain⟨hc23,hF⟩:=A.gd_some hF
  refine A.q [] [] [.n,.n] [Z.R64 (y12+1)] [(27,.int .i64 (y12+1))] hc23 ?_
  refine A.AL.done ?_
  exact A.j ⟨_,Nat.lt_succ_self _,⟨(y12+1),rfl,rfl,(Z.i64_has hc23),hF⟩⟩
 refine A.xl 3 ?_
 refine A.q0 [6,7] [] [.b 0 0,.b 1 0] [(41,.agg #[.slice A0_ ((a0).length) c1_]),(42,.agg #[.slice A2_ ((a1.1).length) c3_,.slice A4_ ((a1.2.1).length) c5_,.slice A6_ ((a1.2.2).length) c7_])] ?_
 obtain⟨r24,hv25,hF⟩:=A.bd_some hF
 refine A.AL.call 387 [] (first:=[]) (cap:=[]) cf39 (delta_made_ok a0 (a1.1,a1.2.1,a1.2.2) A0_ c1_ A2_ c3_ A4_ c5_ A6_ c7_ r24 hv25) (.s 0 (.s 1 (.s 2 (.s 3 .nil)))) ?_
 rintro _ _ ⟨A26,c27,rfl,rfl⟩
 refine⟨by kernel_rfl,?_⟩
 refine A.AL.alloc 427 (cs:=[.slice none 0 0]) Tryz.zeroValue24 fun g28=>?_
 refine A.sw 427 [] [.slice A26 ((r24).length) c27] ?_
 refine A.dl 3 ?_
 refine A.q0 [427] [] [.b 0 0] [(44,.agg #[.slice A26 ((r24).length) c27])] ?_
 obtain⟨r29,hv30,hF⟩:=A.bd_some hF
 refine A.AL.call 428 [] (first:=[]) (cap:=[]) cf36 (graph_Check_ok r24 A26 c27 r29 hv30) (.s 387 (.s 4 (.s 5 .nil))) ?_
 rintro _ _ ⟨rfl,rfl,hr31⟩
 refine⟨by kernel_rfl,?_⟩
 refine A.q0 [] [] [.n] [(10,.int .i64 r29)] ?_
 refine A.dl 2 ?_
 refine A.q0 [] [] [.n,.n] [(47,.bool (decide (r29≠0)))] ?_
 refine A.dx 1 ?_
 refine A.AX.cnd rfl hF (fun hb hF=>?_) (fun hb hF=>?_)
 ·refine A.xl 1 ?_
  refine A.q0 [] [] [.n,.n] [(48,.agg #[.slice none 0 0]),(49,.int .i64 r29)] ?_
  refine A.sw 8 [] [.slice none 0 0] ?_
  refine A.q0 [] [] [.n] [(5,.int .i64 r29)] ?_
  refine A.dx 1 ?_
  obtain rfl:=Option.some.inj hF
  refine A.snil 468 T69 ?_
  exact A.AX.ret [(0,468)] (.tuple #[.agg #[.slice none 0 0],.int .i64 r29]) (fun a w hf hh=>Z.resv2 rfl (Z.rv_n hf rfl Tryz.isAgg24 Tryz.sizeOf24 (A.Hp.blk hh 8) rfl) (Z.rv_t hf rfl)) (⟨none,0,rfl,rfl,hr31⟩)
 refine A.xl 3 ?_
 refine A.q0 [427] [] [.b 0 0] [(50,.agg #[.slice A26 ((r24).length) c27])] ?_
 obtain⟨r32,hv33,hF⟩:=A.bd_some hF
 refine A.AL.call 469 [] (first:=[]) (cap:=[]) cf40 (graph_Clone_ok r24 A26 c27 r32 hv33) (.s 387 .nil) ?_
 rintro _ _ ⟨A34,c35,rfl,rfl⟩
 refine⟨by kernel_rfl,?_⟩
 refine A.sw 8 [] [.slice A34 ((r32).length) c35] ?_
 refine A.q0 [] [] [.n] [(5,.int .i64 0)] ?_
 refine A.dx 1 ?_
 obtain rfl:=Option.some.inj hF
 exact A.AX.ret [(0,469)] (.tuple #[.agg #[.slice A34 ((r32).length) c35],.int .i64 0]) (fun a w hf hh=>Z.resv2 rfl (Z.rv_n hf rfl Tryz.isAgg24 Tryz.sizeOf24 (A.Hp.blk hh 8) rfl) (Z.rv_t hf rfl)) (⟨A34,c35,rfl,rfl,(A.hasl .i64 (0) rfl)⟩)
def F.slices_Equal_int_int_l1 (a0:(List Int))(a1:(List Int)):Nat→Int→Option Bool
 |0,_=>none
 |f+1,y1=>if y1<((a0).length:Int)then((A.ix a0 y1).bind fun x4=>((A.ix a1 y1).bind fun x10=>(if x4≠x10 then(some false)else(A.gd (Z.R64 (y1+1)) ((F.slices_Equal_int_int_l1 a0 a1 f) (y1+1))))))else(some true)
def F.slices_Equal_int_int (a0:(List Int))(a1:(List Int)):Option Bool:=if((a0).length:Int)≠((a1).length:Int)then(some false)else(F.slices_Equal_int_int_l1 a0 a1 A.FU 0)
theorem slices_Equal_int_int_ok (a0:(List Int))(a1:(List Int))(A0_:Option Addr)(c1_:Nat)(A2_:Option Addr)(c3_:Nat)(r:Bool)(hF:F.slices_Equal_int_int a0 a1=some r):
    A.Ct Tryz.prog 24 [.slice A0_ ((a0).length) c1_,.slice A2_ ((a1).length) c3_] [(0,.ln (Z.Ty.int .i64) A0_ c1_ a0),(1,.ln (Z.Ty.int .i64) A2_ c3_ a1)] [] (fun v H'=>v=.bool r∧H'=[]):=by
 refine A.Ct.enter Tryz.func24 rfl Tryz.ntmps24 rfl fun w0 F0=>?_
 rw[F.slices_Equal_int_int]at hF
 refine A.xl 1 ?_
 refine A.q0 [] [] [.n] [] ?_
 refine A.dl 3 ?_
 refine A.q0 [] [] [.n,.n,.n,.n,.n] [(10,.bool (decide (((a0).length:Int)≠((a1).length:Int))))] ?_
 refine A.dx 1 ?_
 refine A.AX.cnd rfl hF (fun hb hF=>?_) (fun hb hF=>?_)
 ·refine A.xl 1 ?_
  refine A.q0 [] [] [.n] [(4,.bool false)] ?_
  refine A.dx 1 ?_
  obtain rfl:=Option.some.inj hF
  exact A.rt1 [] ⟨rfl,rfl⟩
 refine A.xl 4 ?_
 refine A.q0 [] [] [.n,.n,.n] [(12,.int .i64 ((a0).length:Int)),(13,.int .i64 0)] ?_
 refine A.dx 2 ?_
 refine A.lp_ [0,1,12] [0,1] (fun f nl nh=>∃(y1:Int),nl=[(13,.int .i64 y1)]∧nh=[]∧IntKind.i64.has y1∧F.slices_Equal_int_int_l1 a0 a1 f y1=some r) ⟨0,rfl,rfl,(A.hasl .i64 (0) rfl),hF⟩ ?_
 rintro f3 _ _ ⟨y1,rfl,rfl,hy2,hF⟩
 rcases f3 with _|f3
 ·exact A.no0 hF
 rw[F.slices_Equal_int_int_l1]at hF
 refine A.xl 1 ?_
 refine A.q0 [] [] [.n] [(14,.bool (decide (y1<((a0).length:Int))))] ?_
 refine A.dx 2 ?_
 refine A.AX.cnd rfl hF (fun hb hF=>?_) (fun hb hF=>?_)
 ·refine A.xl 5 ?_
  refine A.q0 [] [] [.n,.n] [(5,.int .i64 y1)] ?_
  refine A.dx 2 ?_
  refine A.AX.dr mixed 9 9 (A.mb 9 0) ?_
  refine A.hq A.pb [] [0,1] [] [] (A.mb 9 51) 5 [(0,.n),(1,.n),(4,.n),(5,.n)] [(16,.slice A0_ ((a0).length) c1_),(17,.int .i64 y1),(20,.slice A2_ ((a1).length) c3_),(21,.int .i64 y1)] ?_
  obtain⟨x4,hv5,hF⟩:=A.bd_some hF
  refine A.AH.pkl 0 6 hv5 fun ho6=>?_
  intro b8 o9 hA7
  refine A.AH.v A.pb [0,1] [0,1,6] 2 (A.mb 9 55) rfl (fun a w hf hh=>A.r_ixa (t:=(Z.Ty.int .i64)) hv5 hA7 hf) ?_
  refine A.hq A.pb [0,1,6] [0,1,6] [] [6] (A.mb 9 63) 3 [(3,.e 0 0)] [(19,.int .i64 x4)] ?_
  obtain⟨x10,hv11,hF⟩:=A.bd_some hF
  refine A.AH.pkl 1 7 hv11 fun ho12=>?_
  intro b14 o15 hA13
  refine A.AH.v A.pb [0,1,6] [0,1,6,7] 6 (A.mb 9 127) rfl (fun a w hf hh=>A.r_ixa (t:=(Z.Ty.int .i64)) hv11 hA13 hf) ?_
  refine A.hq A.pb [0,1,6,7] [0,1,6,7] [] [7] (A.mb 9 511) 0 [(7,.e 0 0),(8,.n)] [(24,.bool (decide (x4≠x10)))] ?_
  refine A.AH.done ?_
  refine A.ex 1 ?_
  refine A.AX.cnd rfl hF (fun hb hF=>?_) (fun hb hF=>?_)
  ·refine A.xl 1 ?_
   refine A.q0 [] [] [.n] [(4,.bool false)] ?_
   refine A.dx 1 ?_
   obtain rfl:=Option.some.inj hF
   exact A.rt1 [] ⟨rfl,rfl⟩
  refine A.xl 3 ?_
  obtain⟨hc16,hF⟩:=A.gd_some hF
  refine A.q [] [] [.n,.n] [Z.R64 (y1+1)] [(13,.int .i64 (y1+1))] hc16 ?_
  refine A.AL.done ?_
  exact A.j ⟨_,Nat.lt_succ_self _,⟨(y1+1),rfl,rfl,(Z.i64_has hc16),hF⟩⟩
 refine A.xl 3 ?_
 refine A.q0 [] [] [.n] [(4,.bool true)] ?_
 refine A.dx 1 ?_
 obtain rfl:=Option.some.inj hF
 exact A.rt1 [] ⟨rfl,rfl⟩
def F.delta_each (a0:(List Int)):Option ((List Int)):=some a0
theorem delta_each_ok (a0:(List Int))(A0_:Option Addr)(c1_:Nat)(r:((List Int)))(hF:F.delta_each a0=some r):
    A.Ct Tryz.prog 52 [.slice A0_ ((a0).length) c1_] [(0,.sh (.slice (Z.Ty.int .i64)) [.slice A0_ (a0).length c1_] a0)] [] (fun v H'=>∃(g0':Nat) (A1':Option Addr) (c2':Nat),v=.func (.func 88) #[] #[.pointer (some ⟨g0',0,none⟩)]∧H'=[(0,.blk g0' 25 [.slice A1' ((r).length) c2']),(1,.sh (.slice (Z.Ty.int .i64)) [.slice A1' (r).length c2'] r)]):=by
 refine A.Ct.enter Tryz.func52 rfl Tryz.ntmps52 rfl fun w0 F0=>?_
 rw[F.delta_each]at hF
 refine A.xl 1 ?_
 refine A.AL.box 1 (cs:=[.slice A0_ ((a0).length) c1_]) fun g1=>?_
 refine A.q0 [] [] [.n] [] ?_
 refine A.dl 2 ?_
 refine A.q0 [] [] [.n,.n] [(2,.func (.func 88) #[] #[.pointer (some ⟨g1,0,none⟩)])] ?_
 refine A.dx 1 ?_
 obtain rfl:=Option.some.inj hF
 exact A.rt1 [(0,1),(1,0)] ⟨g1,A0_,c1_,rfl,rfl⟩
end Go.Proofs.YtocfaokgoflmhaaGreatDoor
end
section
set_option linter.unusedVariables false
set_option linter.unusedSimpArgs false
set_option maxRecDepth 20000
set_option maxHeartbeats 8000000
set_option synthInstance.maxSize 1000000
set_option synthInstance.maxHeartbeats 400000
namespace Go.Proofs.YtocfaokgoflmhaaGreatDoor
open Go.RowKit
def F.delta_each_1_it_l1 (b0:(List Int)):Nat→Int→Option (List Int)
 |0,_=>none
 |f+1,y1=>if y1<((b0).length:Int)then((A.ix b0 y1).bind fun x9=>(A.cns x9 (A.gd (Z.R64 (y1+1)) ((F.delta_each_1_it_l1 b0 f) (y1+1)))))else(some [])
def F.delta_each_1_it (b0:(List Int)):Option (List Int):=F.delta_each_1_it_l1 b0 A.FU 0
theorem delta_each_1_it_sq (b0:(List Int))(g0_:Nat)(A1_:Option Addr)(c2_:Nat)(xs:List Int)(hF:F.delta_each_1_it b0=some xs):
    A.Sq Tryz.prog 88 [.pointer (some ⟨g0_,0,none⟩)] [(0,.el none g0_ 0 [.slice A1_ ((b0).length) c2_]),(1,.sh (.slice (Z.Ty.int .i64)) [.slice A1_ (b0).length c2_] b0)] (Z.Ty.int .i64) (fun cs=>[Z.vof false cs]) xs:=by
 refine A.Sq.enter Tryz.func88 rfl Tryz.ntmps88 rfl fun lid w0 J Jx Φ hY hJ0=>?_
 obtain⟨rs0,hrs⟩: ∃rs0,rs0=xs:=⟨_,rfl⟩
 have hR0:A.Rem xs 0 rs0:=hrs▸A.Rem.zero xs
 rw[F.delta_each_1_it,←hrs]at hF
 clear hrs
 refine A.xl 1 ?_
 refine A.q0 [] [0] [.e 0 0,.n,.n] [(5,.slice A1_ ((b0).length) c2_),(6,.int .i64 ((b0).length:Int)),(7,.int .i64 0)] ?_
 refine A.dx 2 ?_
 refine A.AX.loopC (A.CY 16 Φ) (0,w0) [0,5,6] [1] [1] (fun f i nl nh=>∃(y1:Int),∃(rs:List Int),nl=[(7,.int .i64 y1)]∧nh=[]∧IntKind.i64.has y1∧J i.1 i.2∧A.Rem xs i.1 rs∧F.delta_each_1_it_l1 b0 f y1=some rs) A.FU [(7,.int .i64 0)] [] ⟨0,_,rfl,rfl,(A.hasl .i64 (0) rfl),hJ0,hR0,hF⟩ ?_
 rintro f3 ⟨k4,w5⟩ _ _ ⟨y1,rs8,rfl,rfl,hy2,hJ6,hR7,hF⟩
 rcases f3 with _|f3
 ·exact A.no0 hF
 rw[F.delta_each_1_it_l1]at hF
 refine A.xl 1 ?_
 refine A.q0 [] [] [.n] [(8,.bool (decide (y1<((b0).length:Int))))] ?_
 refine A.dx 2 ?_
 refine A.AX.cnd rfl hF (fun hb hF=>?_) (fun hb hF=>?_)
 ·refine A.xl 5 ?_
  obtain⟨x9,hv10,hF⟩:=A.bd_some hF
  refine A.AL.ixs 1 4 hv10 fun ho11=>?_
  intro b12 o13
  refine A.q0 [] [4] [.e 0 0,.n] [(4,.int .i64 x9)] ?_
  refine A.dl 2 ?_
  refine A.q0 [] [] [.n,.n] [(11,.func (.yield lid) #[] #[]),(12,.int .i64 x9)] ?_
  obtain⟨rs14,hqrs14,hF⟩:=A.cns_some hF
  refine A.AL.yield hY hJ6 (hqrs14▸hR7) [.int .i64 x9] ⟨rfl,ho11⟩ (fun w15 hJ16 hR17=>?_) (fun w15 hX18=>?_)
  ·refine A.q0 [] [] [.n] [(14,.bool false)] ?_
   refine A.dx 1 ?_
   refine A.AX.cnf rfl ?_
   refine A.xl 3 ?_
   obtain⟨hc19,hF⟩:=A.gd_some hF
   refine A.q [] [] [.n,.n] [Z.R64 (y1+1)] [(7,.int .i64 (y1+1))] hc19 ?_
   refine A.AL.done ?_
   exact A.AE.jC (k4+1,w15) [1] [(7,.int .i64 (y1+1))] [] ⟨_,Nat.lt_succ_self _,⟨(y1+1),_,rfl,rfl,(Z.i64_has hc19),hJ16,hR17,hF⟩⟩
  refine A.q0 [] [] [.n] [(14,.bool true)] ?_
  refine A.dx 1 ?_
  refine A.AX.cnt rfl ?_
  exact A.AX.rtX hY hX18
 refine A.xe 1 ?_
 obtain rfl:=Option.some.inj hF
 exact A.AE.rtY hY hJ6 hR7
def F.delta_Touched_1 (a0:Int)(b0:(List (Int×Bool))):Option Bool:=A.lt (Z.mget (false:Bool) b0 a0) fun x1=>(some x1)
theorem delta_Touched_1_ok (a0:Int)(b0:(List (Int×Bool)))(g1_:Nat)(b2_:Nat)(h0_:IntKind.i64.has a0)(r:Bool)(hF:F.delta_Touched_1 a0 b0=some r):
    A.Ct Tryz.prog 55 [.int .i64 a0,.pointer (some ⟨g1_,0,none⟩)] [(0,.el none g1_ 0 [.map (some b2_)]),(1,.lmp Int (fun i:Int=>.int .i64 i) Z.Ty.bool false b2_ b0)] [] (fun v H'=>v=.bool r∧H'=[]):=by
 refine A.Ct.enter Tryz.func55 rfl Tryz.ntmps55 rfl fun w0 F0=>?_
 rw[F.delta_Touched_1]at hF
 refine A.xl 1 ?_
 refine A.q0 [] [] [.n] [] ?_
 refine A.dl 2 ?_
 refine A.q0 [] [0] [.e 0 0,.n] [(4,.map (some b2_)),(5,.int .i64 a0)] ?_
 obtain⟨x1,hv2,hF⟩:=A.lt_some hF
 refine A.AL.lku (t:=Z.Ty.bool) 1 2 (z:=(false:Bool)) (zs:=[.bool false]) ky3 a0 Tryz.zeroValue4 rfl hv2 fun ho3=>?_
 refine A.q0 [] [] [.n] [(3,.bool x1)] ?_
 refine A.dx 1 ?_
 obtain rfl:=Option.some.inj hF
 exact A.rt1 [] ⟨rfl,rfl⟩
def F.slices_IndexFunc_int_int_delta_Touched_1_l1 (a0:(List Int))(a1_0:(List (Int×Bool))):Nat→Int→Option Int
 |0,_=>none
 |f+1,y1=>if y1<((a0).length:Int)then((A.ix a0 y1).bind fun x4=>((F.delta_Touched_1 x4 a1_0).bind fun r9=>(if r9=true then(some y1)else(A.gd (Z.R64 (y1+1)) ((F.slices_IndexFunc_int_int_delta_Touched_1_l1 a0 a1_0 f) (y1+1))))))else(some (-1))
def F.slices_IndexFunc_int_int_delta_Touched_1 (a0:(List Int))(a1_0:(List (Int×Bool))):Option Int:=F.slices_IndexFunc_int_int_delta_Touched_1_l1 a0 a1_0 A.FU 0
theorem slices_IndexFunc_int_int_delta_Touched_1_ok (a0:(List Int))(a1_0:(List (Int×Bool)))(A0_:Option Addr)(c1_:Nat)(g2_:Nat)(b3_:Nat)(r:Int)(hF:F.slices_IndexFunc_int_int_delta_Touched_1 a0 a1_0=some r):
    A.Ct Tryz.prog 89 [.slice A0_ ((a0).length) c1_,.func (.func 55) #[] #[.pointer (some ⟨g2_,0,none⟩)]] [(0,.ln (Z.Ty.int .i64) A0_ c1_ a0),(1,.el none g2_ 0 [.map (some b3_)]),(2,.lmp Int (fun i:Int=>.int .i64 i) Z.Ty.bool false b3_ a1_0)] [] (fun v H'=>v=.int .i64 r∧H'=[]∧IntKind.i64.has r):=by
 refine A.Ct.enter Tryz.func89 rfl Tryz.ntmps89 rfl fun w0 F0=>?_
 rw[F.slices_IndexFunc_int_int_delta_Touched_1]at hF
 refine A.xl 1 ?_
 refine A.q0 [] [] [.n] [] ?_
 refine A.dl 3 ?_
 refine A.q0 [] [] [.n,.n,.n] [(7,.int .i64 ((a0).length:Int)),(8,.int .i64 0)] ?_
 refine A.dx 2 ?_
 refine A.lp_ [0,1,7] [0,1,2] (fun f nl nh=>∃(y1:Int),nl=[(8,.int .i64 y1)]∧nh=[]∧IntKind.i64.has y1∧F.slices_IndexFunc_int_int_delta_Touched_1_l1 a0 a1_0 f y1=some r) ⟨0,rfl,rfl,(A.hasl .i64 (0) rfl),hF⟩ ?_
 rintro f3 _ _ ⟨y1,rfl,rfl,hy2,hF⟩
 rcases f3 with _|f3
 ·exact A.no0 hF
 rw[F.slices_IndexFunc_int_int_delta_Touched_1_l1]at hF
 refine A.xl 1 ?_
 refine A.q0 [] [] [.n] [(9,.bool (decide (y1<((a0).length:Int))))] ?_
 refine A.dx 2 ?_
 refine A.AX.cnd rfl hF (fun hb hF=>?_) (fun hb hF=>?_)
 ·refine A.xl 5 ?_
  refine A.q0 [] [] [.n,.n] [(5,.int .i64 y1)] ?_
  refine A.dl 2 ?_
  refine A.q0 [] [] [.n,.n,.n] [(11,.func (.func 55) #[] #[.pointer (some ⟨g2_,0,none⟩)]),(12,.slice A0_ ((a0).length) c1_),(13,.int .i64 y1)] ?_
  obtain⟨x4,hv5,hF⟩:=A.bd_some hF
  refine A.AL.ixl 0 85 hv5 fun ho6=>?_
  intro b7 o8
  refine A.q0 [] [85] [.e 0 0] [(15,.int .i64 x4)] ?_
  obtain⟨r9,hv10,hF⟩:=A.bd_some hF
  refine A.AL.call 86 [] (first:=[]) (cap:=[.pointer (some ⟨g2_,0,none⟩)]) cf55 (delta_Touched_1_ok x4 a1_0 g2_ b3_ ho6 r9 hv10) (.s 1 (.s 2 .nil)) ?_
  rintro _ _ ⟨rfl,rfl⟩
  refine⟨by kernel_rfl,?_⟩
  refine A.dx 1 ?_
  refine A.AX.cnb rfl hF (fun hb hF=>?_) (fun hb hF=>?_)
  ·refine A.xl 1 ?_
   refine A.q0 [] [] [.n,.n] [(4,.int .i64 y1)] ?_
   refine A.dx 1 ?_
   obtain rfl:=Option.some.inj hF
   exact A.rt1 [] ⟨rfl,rfl,hy2⟩
  refine A.xl 3 ?_
  obtain⟨hc11,hF⟩:=A.gd_some hF
  refine A.q [] [] [.n,.n] [Z.R64 (y1+1)] [(8,.int .i64 (y1+1))] hc11 ?_
  refine A.AL.done ?_
  exact A.j ⟨_,Nat.lt_succ_self _,⟨(y1+1),rfl,rfl,(Z.i64_has hc11),hF⟩⟩
 refine A.xl 3 ?_
 refine A.q0 [] [] [.n] [(4,.int .i64 (-1))] ?_
 refine A.dx 1 ?_
 obtain rfl:=Option.some.inj hF
 exact A.rt1 [] ⟨rfl,rfl,(A.hasl .i64 (-1) rfl)⟩
def F.slices_ContainsFunc_int_int_delta_Touched_1 (a0:(List Int))(a1_0:(List (Int×Bool))):Option Bool:=(F.slices_IndexFunc_int_int_delta_Touched_1 a0 a1_0).bind fun r1=>(some (decide ((0:Int)≤r1)))
theorem slices_ContainsFunc_int_int_delta_Touched_1_ok (a0:(List Int))(a1_0:(List (Int×Bool)))(A0_:Option Addr)(c1_:Nat)(g2_:Nat)(b3_:Nat)(r:Bool)(hF:F.slices_ContainsFunc_int_int_delta_Touched_1 a0 a1_0=some r):
    A.Ct Tryz.prog 54 [.slice A0_ ((a0).length) c1_,.func (.func 55) #[] #[.pointer (some ⟨g2_,0,none⟩)]] [(0,.ln (Z.Ty.int .i64) A0_ c1_ a0),(1,.el none g2_ 0 [.map (some b3_)]),(2,.lmp Int (fun i:Int=>.int .i64 i) Z.Ty.bool false b3_ a1_0)] [] (fun v H'=>v=.bool r∧H'=[]):=by
 refine A.Ct.enter Tryz.func54 rfl Tryz.ntmps54 rfl fun w0 F0=>?_
 rw[F.slices_ContainsFunc_int_int_delta_Touched_1]at hF
 refine A.xl 1 ?_
 refine A.q0 [] [] [.n] [] ?_
 refine A.dl 2 ?_
 refine A.q0 [] [] [.n,.n] [(5,.slice A0_ ((a0).length) c1_),(6,.func (.func 55) #[] #[.pointer (some ⟨g2_,0,none⟩)])] ?_
 obtain⟨r1,hv2,hF⟩:=A.bd_some hF
 refine A.AL.call 3 [] (first:=[]) (cap:=[]) cf89 (slices_IndexFunc_int_int_delta_Touched_1_ok a0 a1_0 A0_ c1_ g2_ b3_ r1 hv2) (.s 0 (.s 1 (.s 2 .nil))) ?_
 rintro _ _ ⟨rfl,rfl,hr3⟩
 refine⟨by kernel_rfl,?_⟩
 refine A.q0 [] [] [.n,.n] [(4,.bool (decide ((0:Int)≤r1)))] ?_
 refine A.dx 1 ?_
 obtain rfl:=Option.some.inj hF
 exact A.rt1 [] ⟨rfl,rfl⟩
def F.delta_Touched_2 (a0:Int)(b0:(List (Int×Bool))):Option Bool:=A.lt (Z.mget (false:Bool) b0 a0) fun x1=>(some (!x1))
theorem delta_Touched_2_ok (a0:Int)(b0:(List (Int×Bool)))(g1_:Nat)(b2_:Nat)(h0_:IntKind.i64.has a0)(r:Bool)(hF:F.delta_Touched_2 a0 b0=some r):
    A.Ct Tryz.prog 57 [.int .i64 a0,.pointer (some ⟨g1_,0,none⟩)] [(0,.el none g1_ 0 [.map (some b2_)]),(1,.lmp Int (fun i:Int=>.int .i64 i) Z.Ty.bool false b2_ b0)] [] (fun v H'=>v=.bool r∧H'=[]):=by
 refine A.Ct.enter Tryz.func57 rfl Tryz.ntmps57 rfl fun w0 F0=>?_
 rw[F.delta_Touched_2]at hF
 refine A.xl 1 ?_
 refine A.q0 [] [] [.n] [] ?_
 refine A.dl 2 ?_
 refine A.q0 [] [0] [.e 0 0,.n] [(4,.map (some b2_)),(5,.int .i64 a0)] ?_
 obtain⟨x1,hv2,hF⟩:=A.lt_some hF
 refine A.AL.lku (t:=Z.Ty.bool) 1 2 (z:=(false:Bool)) (zs:=[.bool false]) ky3 a0 Tryz.zeroValue4 rfl hv2 fun ho3=>?_
 refine A.q0 [] [] [.n,.n] [(3,.bool (!x1))] ?_
 refine A.dx 1 ?_
 obtain rfl:=Option.some.inj hF
 exact A.rt1 [] ⟨rfl,rfl⟩
def F.slices_IndexFunc_int_int_delta_Touched_2_l1 (a0:(List Int))(a1_0:(List (Int×Bool))):Nat→Int→Option Int
 |0,_=>none
 |f+1,y1=>if y1<((a0).length:Int)then((A.ix a0 y1).bind fun x4=>((F.delta_Touched_2 x4 a1_0).bind fun r9=>(if r9=true then(some y1)else(A.gd (Z.R64 (y1+1)) ((F.slices_IndexFunc_int_int_delta_Touched_2_l1 a0 a1_0 f) (y1+1))))))else(some (-1))
def F.slices_IndexFunc_int_int_delta_Touched_2 (a0:(List Int))(a1_0:(List (Int×Bool))):Option Int:=F.slices_IndexFunc_int_int_delta_Touched_2_l1 a0 a1_0 A.FU 0
theorem slices_IndexFunc_int_int_delta_Touched_2_ok (a0:(List Int))(a1_0:(List (Int×Bool)))(A0_:Option Addr)(c1_:Nat)(g2_:Nat)(b3_:Nat)(r:Int)(hF:F.slices_IndexFunc_int_int_delta_Touched_2 a0 a1_0=some r):
    A.Ct Tryz.prog 89 [.slice A0_ ((a0).length) c1_,.func (.func 57) #[] #[.pointer (some ⟨g2_,0,none⟩)]] [(0,.ln (Z.Ty.int .i64) A0_ c1_ a0),(1,.el none g2_ 0 [.map (some b3_)]),(2,.lmp Int (fun i:Int=>.int .i64 i) Z.Ty.bool false b3_ a1_0)] [] (fun v H'=>v=.int .i64 r∧H'=[]∧IntKind.i64.has r):=by
 refine A.Ct.enter Tryz.func89 rfl Tryz.ntmps89 rfl fun w0 F0=>?_
 rw[F.slices_IndexFunc_int_int_delta_Touched_2]at hF
 refine A.xl 1 ?_
 refine A.q0 [] [] [.n] [] ?_
 refine A.dl 3 ?_
 refine A.q0 [] [] [.n,.n,.n] [(7,.int .i64 ((a0).length:Int)),(8,.int .i64 0)] ?_
 refine A.dx 2 ?_
 refine A.lp_ [0,1,7] [0,1,2] (fun f nl nh=>∃(y1:Int),nl=[(8,.int .i64 y1)]∧nh=[]∧IntKind.i64.has y1∧F.slices_IndexFunc_int_int_delta_Touched_2_l1 a0 a1_0 f y1=some r) ⟨0,rfl,rfl,(A.hasl .i64 (0) rfl),hF⟩ ?_
 rintro f3 _ _ ⟨y1,rfl,rfl,hy2,hF⟩
 rcases f3 with _|f3
 ·exact A.no0 hF
 rw[F.slices_IndexFunc_int_int_delta_Touched_2_l1]at hF
 refine A.xl 1 ?_
 refine A.q0 [] [] [.n] [(9,.bool (decide (y1<((a0).length:Int))))] ?_
 refine A.dx 2 ?_
 refine A.AX.cnd rfl hF (fun hb hF=>?_) (fun hb hF=>?_)
 ·refine A.xl 5 ?_
  refine A.q0 [] [] [.n,.n] [(5,.int .i64 y1)] ?_
  refine A.dl 2 ?_
  refine A.q0 [] [] [.n,.n,.n] [(11,.func (.func 57) #[] #[.pointer (some ⟨g2_,0,none⟩)]),(12,.slice A0_ ((a0).length) c1_),(13,.int .i64 y1)] ?_
  obtain⟨x4,hv5,hF⟩:=A.bd_some hF
  refine A.AL.ixl 0 85 hv5 fun ho6=>?_
  intro b7 o8
  refine A.q0 [] [85] [.e 0 0] [(15,.int .i64 x4)] ?_
  obtain⟨r9,hv10,hF⟩:=A.bd_some hF
  refine A.AL.call 86 [] (first:=[]) (cap:=[.pointer (some ⟨g2_,0,none⟩)]) cf57 (delta_Touched_2_ok x4 a1_0 g2_ b3_ ho6 r9 hv10) (.s 1 (.s 2 .nil)) ?_
  rintro _ _ ⟨rfl,rfl⟩
  refine⟨by kernel_rfl,?_⟩
  refine A.dx 1 ?_
  refine A.AX.cnb rfl hF (fun hb hF=>?_) (fun hb hF=>?_)
  ·refine A.xl 1 ?_
   refine A.q0 [] [] [.n,.n] [(4,.int .i64 y1)] ?_
   refine A.dx 1 ?_
   obtain rfl:=Option.some.inj hF
   exact A.rt1 [] ⟨rfl,rfl,hy2⟩
  refine A.xl 3 ?_
  obtain⟨hc11,hF⟩:=A.gd_some hF
  refine A.q [] [] [.n,.n] [Z.R64 (y1+1)] [(8,.int .i64 (y1+1))] hc11 ?_
  refine A.AL.done ?_
  exact A.j ⟨_,Nat.lt_succ_self _,⟨(y1+1),rfl,rfl,(Z.i64_has hc11),hF⟩⟩
 refine A.xl 3 ?_
 refine A.q0 [] [] [.n] [(4,.int .i64 (-1))] ?_
 refine A.dx 1 ?_
 obtain rfl:=Option.some.inj hF
 exact A.rt1 [] ⟨rfl,rfl,(A.hasl .i64 (-1) rfl)⟩
def F.slices_DeleteFunc_int_int_delta_Touched_2_j1 (k1:(List Int)→Int→Int→Option (List Int))(y11:Int)(xs16:List Int)(y18:Int):Option (List Int):=A.gd (Z.R64 (y11+1)) (k1 xs16 y18 (y11+1))
def F.slices_DeleteFunc_int_int_delta_Touched_2_l2 (a0:(List Int))(a1_0:(List (Int×Bool))):Nat→(List Int)→Int→Int→Option (List Int)
 |0,_,_,_=>none
 |f+1,xs7,y9,y11=>if y11<((a0).length:Int)then((A.ix xs7 y11).bind fun x21=>((F.delta_Touched_2 x21 a1_0).bind fun r26=>(if(!r26)=true then((A.ix xs7 y9).bind fun x28=>(A.gd (Z.R64 (y9+1)) (F.slices_DeleteFunc_int_int_delta_Touched_2_j1 (F.slices_DeleteFunc_int_int_delta_Touched_2_l2 a0 a1_0 f) y11 (xs7.set y9.toNat x21) (y9+1))))else(F.slices_DeleteFunc_int_int_delta_Touched_2_j1 (F.slices_DeleteFunc_int_int_delta_Touched_2_l2 a0 a1_0 f) y11 xs7 y9))))else(A.gd (0≤y9∧y9.toNat≤(xs7).length) (A.gd (0≤y9∧y9.toNat≤(List.take y9.toNat xs7++List.replicate ((xs7).length -y9.toNat) (0:Int)).length) (some (List.take y9.toNat (List.take y9.toNat xs7++List.replicate ((xs7).length -y9.toNat) (0:Int))))))
def F.slices_DeleteFunc_int_int_delta_Touched_2 (a0:(List Int))(a1_0:(List (Int×Bool))):Option (List Int):=(F.slices_IndexFunc_int_int_delta_Touched_2 a0 a1_0).bind fun r1=>(if r1= -1 then(some a0)else(A.gd (Z.R64 (r1+1)) (F.slices_DeleteFunc_int_int_delta_Touched_2_l2 a0 a1_0 A.FU a0 r1 (r1+1))))
theorem slices_DeleteFunc_int_int_delta_Touched_2_ok (a0:(List Int))(a1_0:(List (Int×Bool)))(A0_:Option Addr)(c1_:Nat)(g2_:Nat)(b3_:Nat)(r:(List Int))(hF:F.slices_DeleteFunc_int_int_delta_Touched_2 a0 a1_0=some r):
    A.Ct Tryz.prog 56 [.slice A0_ ((a0).length) c1_,.func (.func 57) #[] #[.pointer (some ⟨g2_,0,none⟩)]] [(0,.own (Z.Ty.int .i64) 3 A0_ c1_ a0),(1,.el none g2_ 0 [.map (some b3_)]),(2,.lmp Int (fun i:Int=>.int .i64 i) Z.Ty.bool false b3_ a1_0)] (Z.obl A0_++[]) (fun v H'=>∃(A0':Option Addr) (c1':Nat),v=.slice A0' ((r).length) c1'∧H'=[(0,.sh (.slice (Z.Ty.int .i64)) [.slice A0' (r).length c1'] r)]):=by
 refine A.Ct.enter Tryz.func56 rfl Tryz.ntmps56 rfl fun w0 F0=>?_
 rw[F.slices_DeleteFunc_int_int_delta_Touched_2]at hF
 refine A.xl 1 ?_
 refine A.q0 [] [] [.n] [] ?_
 refine A.dl 2 ?_
 refine A.q0 [] [] [.n,.n] [(8,.slice A0_ ((a0).length) c1_),(9,.func (.func 57) #[] #[.pointer (some ⟨g2_,0,none⟩)])] ?_
 obtain⟨r1,hv2,hF⟩:=A.bd_some hF
 refine A.AL.call 3 [] (first:=[]) (cap:=[]) cf89 (slices_IndexFunc_int_int_delta_Touched_2_ok a0 a1_0 A0_ c1_ g2_ b3_ r1 hv2) (.o 0 (.s 1 (.s 2 .nil))) ?_
 rintro _ _ ⟨rfl,rfl,hr3⟩
 refine⟨by kernel_rfl,?_⟩
 refine A.q0 [] [] [.n] [(5,.int .i64 r1)] ?_
 refine A.dl 3 ?_
 refine A.q0 [] [] [.n,.n] [(12,.bool (decide (r1= -1)))] ?_
 refine A.dx 1 ?_
 refine A.AX.cnd rfl hF (fun hb hF=>?_) (fun hb hF=>?_)
 ·refine A.xl 1 ?_
  refine A.q0 [] [] [.n,.n] [(4,.slice A0_ ((a0).length) c1_)] ?_
  refine A.dx 1 ?_
  obtain rfl:=Option.some.inj hF
  refine A.frz 0 [] ?_
  exact A.rt1 [(0,0)] ⟨A0_,c1_,rfl,rfl⟩
 refine A.xl 4 ?_
 obtain⟨hc4,hF⟩:=A.gd_some hF
 refine A.q [] [] [.n,.n,.n] [Z.R64 (r1+1)] [(6,.int .i64 (r1+1))] hc4 ?_
 refine A.dx 2 ?_
 refine A.lp_ [0,1] [1,2] (fun f nl nh=>∃(xs7:List Int),∃(y9:Int),∃(y11:Int),nl=[(5,.int .i64 y9),(6,.int .i64 y11)]∧nh=[(0,.own (Z.Ty.int .i64) 3 A0_ c1_ xs7)]∧(a0).length=xs7.length∧IntKind.i64.has y9∧IntKind.i64.has y11∧F.slices_DeleteFunc_int_int_delta_Touched_2_l2 a0 a1_0 f xs7 y9 y11=some r) ⟨a0,r1,(r1+1),rfl,rfl,rfl,hr3,(Z.i64_has hc4),hF⟩ ?_
 rintro f13 _ _ ⟨xs7,y9,y11,rfl,rfl,hn8,hy10,hy12,hF⟩
 rcases f13 with _|f13
 ·exact A.no0 hF
 rw[F.slices_DeleteFunc_int_int_delta_Touched_2_l2]at hF
 refine A.xl 2 ?_
 refine A.q0 [] [] [.n,.n,.n,.n] [(19,.bool (decide (y11<((a0).length:Int))))] ?_
 refine A.dx 1 ?_
 refine A.AX.cnd rfl hF (fun hb hF=>?_) (fun hb hF=>?_)
 ·refine A.xx 2 ?_
  refine A.AX.join [0,1,6] [1,2] (fun nl nh=>∃(xs16:List Int),∃(y18:Int),nl=[(5,.int .i64 y18)]∧nh=[(0,.own (Z.Ty.int .i64) 3 A0_ c1_ xs16)]∧(a0).length=xs16.length∧IntKind.i64.has y18∧F.slices_DeleteFunc_int_int_delta_Touched_2_j1 (F.slices_DeleteFunc_int_int_delta_Touched_2_l2 a0 a1_0 f13) y11 xs16 y18=some r) ?_ ?_
  ·refine A.xl 2 ?_
   refine A.q0 [] [] [.n,.n] [(22,.slice A0_ ((a0).length) c1_),(23,.int .i64 y11)] ?_
   refine A.cst 22 (Z.slice_n (show(a0).length=(xs7).length from hn8)) ?_
   obtain⟨x21,hv22,hF⟩:=A.bd_some hF
   refine A.AL.ixo 0 129 hv22 fun ho23=>?_
   intro g24 hA25
   refine A.q0 [] [129] [.e 0 0,.n] [(7,.int .i64 x21)] ?_
   refine A.dl 2 ?_
   refine A.q0 [] [] [.n,.n] [(26,.func (.func 57) #[] #[.pointer (some ⟨g2_,0,none⟩)]),(27,.int .i64 x21)] ?_
   obtain⟨r26,hv27,hF⟩:=A.bd_some hF
   refine A.AL.call 130 [] (first:=[]) (cap:=[.pointer (some ⟨g2_,0,none⟩)]) cf57 (delta_Touched_2_ok x21 a1_0 g2_ b3_ ho23 r26 hv27) (.s 1 (.s 2 .nil)) ?_
   rintro _ _ ⟨rfl,rfl⟩
   refine⟨by kernel_rfl,?_⟩
   refine A.q0 [] [] [.n] [(29,.bool (!r26))] ?_
   refine A.dx 1 ?_
   refine A.AX.cnb rfl hF (fun hb hF=>?_) (fun hb hF=>?_)
   ·refine A.xl 1 ?_
    refine A.q0 [] [] [.n,.n,.n] [(30,.slice A0_ ((a0).length) c1_),(31,.int .i64 y9),(32,.int .i64 x21)] ?_
    refine A.cst 30 (Z.slice_n (show(a0).length=(xs7).length from hn8)) ?_
    obtain⟨x28,hv29,hF⟩:=A.bd_some hF
    refine A.AL.ixo 0 170 hv29 fun ho30=>?_
    intro g31 hA32
    refine A.AL.setel 0 170 [129,170] (o:=0) (m:=1) (t:=(Z.Ty.int .i64)) (new:=[.int .i64 x21]) (es:=[.int .i64 x28]) x21 hv29 hA32 ⟨rfl,ho23⟩ ?_
    refine A.dl 1 ?_
    obtain⟨hc33,hF⟩:=A.gd_some hF
    refine A.q [] [] [.n,.n,.n] [Z.R64 (y9+1)] [(5,.int .i64 (y9+1))] hc33 ?_
    refine A.de 1 ?_
    exact A.j ⟨(xs7.set y9.toNat x21),(y9+1),rfl,rfl,(by rw[List.length_set];exact hn8),(Z.i64_has hc33),hF⟩
   refine A.xe 2 ?_
   exact A.j ⟨xs7,y9,rfl,rfl,hn8,hy10,hF⟩
  rintro _ _ ⟨xs16,y18,rfl,rfl,hn17,hy19,hF⟩
  rw[F.slices_DeleteFunc_int_int_delta_Touched_2_j1]at hF
  refine A.xl 0 ?_
  obtain⟨hc20,hF⟩:=A.gd_some hF
  refine A.q [] [] [.n,.n,.n] [Z.R64 (y11+1)] [(6,.int .i64 (y11+1))] hc20 ?_
  refine A.AL.done ?_
  exact A.j ⟨_,Nat.lt_succ_self _,⟨xs16,y18,(y11+1),rfl,rfl,hn17,hy19,(Z.i64_has hc20),hF⟩⟩
 refine A.xl 3 ?_
 refine A.q0 [] [] [.n,.n] [(36,.slice A0_ ((a0).length) c1_),(37,.int .i64 y9)] ?_
 refine A.cst 36 (Z.slice_n (show(a0).length=(xs7).length from hn8)) ?_
 obtain⟨hc34,hF⟩:=A.gd_some hF
 refine A.AL.clr 0 [] (t:=(Z.Ty.int .i64)) (u:=y9.toNat) (zs:=[.int .i64 0]) (0:Int) (Int.toNat_of_nonneg hc34.1).symm hc34.2 Tryz.zeroValue3 ⟨rfl,by decide⟩ ?_ Tryz.sizeOf3
 refine A.dl 2 ?_
 refine A.q0 [] [] [.n,.n] [(39,.slice A0_ ((a0).length) c1_),(40,.int .i64 y9)] ?_
 refine A.cst 39 (Z.slice_n (show(a0).length=(List.take y9.toNat xs7++List.replicate ((xs7).length -y9.toNat) (0:Int)).length from(Eq.trans hn8 (by rw[List.length_append,List.length_take,List.length_replicate];omega)))) ?_
 obtain⟨hc35,hF⟩:=A.gd_some hF
 refine A.AL.cuto 0 [] (v:=y9.toNat) (Int.toNat_of_nonneg hc35.1).symm hc35.2 ?_
 refine A.q0 [] [] [.n] [(4,.slice A0_ ((List.take y9.toNat (List.take y9.toNat xs7++List.replicate ((xs7).length -y9.toNat) (0:Int))).length) c1_)] ?_
 refine A.dx 1 ?_
 obtain rfl:=Option.some.inj hF
 refine A.frz 0 [] ?_
 exact A.rt1 [(0,0)] ⟨A0_,c1_,rfl,rfl⟩
def F.delta_Touched_j1 (k5:(List (Int×Bool))→Bool→Int→Option ((List Int)×Int))(y38:Int)(m42:List (Int×Bool))(y43:Bool):Option ((List Int)×Int):=A.gd (Z.R64 (y38+1)) (k5 m42 y43 (y38+1))
def F.delta_Touched_j2 (k5:(List (Int×Bool))→Bool→Int→Option ((List Int)×Int))(m36:List (Int×Bool))(y37:Bool)(y38:Int)(x45:D69)(y53:Bool):Option ((List Int)×Int):=if y53=true then(F.delta_Touched_j1 k5 y38 (Z.mins m36 x45.1 true) true)else(F.delta_Touched_j1 k5 y38 m36 y37)
def F.delta_Touched_l3 (k4:(List (Int×Bool))→Bool→Option ((List Int)×Int))(r3:D23×Int):Nat→(List (Int×Bool))→Bool→Int→Option ((List Int)×Int)
 |0,_,_,_=>none
 |f+1,m36,y37,y38=>if y38<((r3.1).length:Int)then((A.ix r3.1 y38).bind fun x45=>(A.lt (Z.mget (false:Bool) m36 x45.1) fun x54=>(if(!x54)=true then((F.slices_ContainsFunc_int_int_delta_Touched_1 x45.2.2.1 m36).bind fun r57=>(F.delta_Touched_j2 (F.delta_Touched_l3 k4 r3 f) m36 y37 y38 x45 r57))else(F.delta_Touched_j2 (F.delta_Touched_l3 k4 r3 f) m36 y37 y38 x45 false))))else(k4 m36 y37)
def F.delta_Touched_l4 (r3:D23×Int):Nat→(List (Int×Bool))→Bool→Option ((List Int)×Int)
 |0,_,_=>none
 |f+1,m33,y34=>if y34=true then(F.delta_Touched_l3 (F.delta_Touched_l4 r3 f) r3 A.FU m33 false 0)else((F.delta_ids r3.1).bind fun r59=>((F.slices_DeleteFunc_int_int_delta_Touched_2 r59 m33).bind fun r63=>(some (r63,0))))
def F.delta_Touched_l5 (r3:D23×Int):List Int→(List (Int×Bool))→Option ((List Int)×Int)
 | [],m32=>F.delta_Touched_l4 r3 A.FU m32 true
 |y29::f,m32=>(F.delta_Touched_l5 r3 f) (Z.mins m32 y29 true)
def F.delta_Touched (a0:D23)(a1:D27):Option ((List Int)×Int):=(F.delta_Apply a0 (a1.1,a1.2.1,a1.2.2)).bind fun r3=>(if r3.2≠0 then(some ([],r3.2))else((F.delta_ids a1.2.1).bind fun r11=>((F.delta_each r11).bind fun r15=>((F.delta_each_1_it r15).bind fun xs20=>F.delta_Touched_l5 r3 xs20 []))))
theorem delta_Touched_ok (a0:D23)(a1:D27)(A0_:Option Addr)(c1_:Nat)(A2_:Option Addr)(c3_:Nat)(A4_:Option Addr)(c5_:Nat)(A6_:Option Addr)(c7_:Nat)(r:(List Int)×Int)(hF:F.delta_Touched a0 a1=some r):
    A.Ct Tryz.prog 19 [.agg #[.slice A0_ ((a0).length) c1_],.agg #[.slice A2_ ((a1.1).length) c3_,.slice A4_ ((a1.2.1).length) c5_,.slice A6_ ((a1.2.2).length) c7_]] [(0,.sh (.slice T69) [.slice A0_ (a0).length c1_] a0),(1,.sh (.slice (Z.Ty.int .i64)) [.slice A2_ (a1.1).length c3_] a1.1),(2,.sh (.slice T69) [.slice A4_ (a1.2.1).length c5_] a1.2.1),(3,.sh (.slice T82) [.slice A6_ (a1.2.2).length c7_] a1.2.2),(4,.el none 0 0 A.tabF),(5,.el none 1 0 A.tabA)] [] (fun v H'=>∃(A0':Option Addr) (c1':Nat),v=.tuple #[.slice A0' ((r.1).length) c1',.int .i64 r.2]∧H'=[(0,.sh (.slice (Z.Ty.int .i64)) [.slice A0' (r.1).length c1'] r.1)]∧IntKind.i64.has r.2):=by
 refine A.Ct.enterM Tryz.func19 rfl Tryz.ntmps19 rfl fun w0 F0=>?_
 rw[F.delta_Touched]at hF
 refine A.xl 1 ?_
 refine A.AL.box 6 (cs:=[.slice A0_ ((a0).length) c1_]) fun g1=>?_
 refine A.AL.box 7 (cs:=[.slice A2_ ((a1.1).length) c3_,.slice A4_ ((a1.2.1).length) c5_,.slice A6_ ((a1.2.2).length) c7_]) fun g2=>?_
 refine A.q0 [] [] [.n,.n] [] ?_
 refine A.dl 2 ?_
 refine A.q0 [6,7] [] [.b 0 0,.b 1 0] [(14,.agg #[.slice A0_ ((a0).length) c1_]),(15,.agg #[.slice A2_ ((a1.1).length) c3_,.slice A4_ ((a1.2.1).length) c5_,.slice A6_ ((a1.2.2).length) c7_])] ?_
 obtain⟨r3,hv4,hF⟩:=A.bd_some hF
 refine A.AL.call 8 [] (first:=[]) (cap:=[]) cf11 (delta_Apply_ok a0 (a1.1,a1.2.1,a1.2.2) A0_ c1_ A2_ c3_ A4_ c5_ A6_ c7_ r3 hv4) (.s 0 (.s 1 (.s 2 (.s 3 (.s 4 (.s 5 .nil)))))) ?_
 rintro _ _ ⟨A5,c6,rfl,rfl,hr7⟩
 refine⟨by kernel_rfl,?_⟩
 refine A.q0 [] [] [.n,.n,.n] [(17,.agg #[.slice A5 ((r3.1).length) c6]),(18,.int .i64 r3.2)] ?_
 refine A.AL.alloc 48 (cs:=[.slice none 0 0]) Tryz.zeroValue24 fun g8=>?_
 refine A.sw 48 [] [.slice A5 ((r3.1).length) c6] ?_
 refine A.q0 [] [] [.n] [(7,.int .i64 r3.2)] ?_
 refine A.dl 3 ?_
 refine A.q0 [] [] [.n,.n] [(20,.bool (decide (r3.2≠0)))] ?_
 refine A.dx 1 ?_
 refine A.AX.cnd rfl hF (fun hb hF=>?_) (fun hb hF=>?_)
 ·refine A.xl 1 ?_
  refine A.q0 [] [] [.n,.n,.n] [(4,.slice none 0 0),(5,.int .i64 r3.2)] ?_
  refine A.dx 1 ?_
  obtain rfl:=Option.some.inj hF
  refine A.snil 49 (Z.Ty.int .i64) ?_
  exact A.AX.rtM (Ds:=[]) [] [(0,49)] (.tuple #[.slice none 0 0,.int .i64 r3.2]) (trivial) (fun a w hf hh=>Z.resv2 rfl (Z.rv_t hf rfl) (Z.rv_t hf rfl)) (⟨none,0,rfl,rfl,hr7⟩)
 refine A.xl 3 ?_
 refine A.AL.mkm 50 Int (fun i:Int=>.int .i64 i) Z.Ty.bool false fun b9=>?_
 refine A.AL.alloc 51 (cs:=[.map none]) Tryz.zeroValue86 fun g10=>?_
 refine A.sw 51 [] [.map (some b9)] ?_
 refine A.dl 3 ?_
 refine A.q0 [7] [] [.n,.b 0 1] [(24,.slice A4_ ((a1.2.1).length) c5_)] ?_
 obtain⟨r11,hv12,hF⟩:=A.bd_some hF
 refine A.AL.call 52 [] (first:=[]) (cap:=[]) cf53 (delta_ids_ok a1.2.1 A4_ c5_ r11 hv12) (.l 2 .nil) ?_
 rintro _ _ ⟨A13,c14,rfl,rfl⟩
 refine⟨by kernel_rfl,?_⟩
 refine A.frz 52 [] ?_
 obtain⟨r15,hv16,hF⟩:=A.bd_some hF
 refine A.AL.call 92 [] (first:=[]) (cap:=[]) cf52 (delta_each_ok r11 A13 c14 r15 hv16) (.s 52 .nil) ?_
 rintro _ _ ⟨g17,A18,c19,rfl,rfl⟩
 refine⟨by kernel_rfl,?_⟩
 refine A.dx 2 ?_
 obtain⟨xs20,hv21,hF⟩:=A.bd_some hF
 refine A.AX.rgf 132 133 134 [4,5,8,48,51,92,93] [50,4,5,8,48,51,92,93] [133,132,50,4,5,8,48,51,92,93] (fun k nh=>∃(m32:List (Int×Bool)),nh=[(50,.mp Int (fun i:Int=>.int .i64 i) Z.Ty.bool false b9 m32)]∧F.delta_Touched_l5 r3 (List.drop k xs20) m32=some r) [(50,.mp Int (fun i:Int=>.int .i64 i) Z.Ty.bool false b9 [])] cf88 (delta_each_1_it_sq r15 g17 A18 c19 xs20 hv21) (fun _=>rfl) ⟨[],rfl,hF⟩ ?_ ?_ ?_
 ·rintro k28 _ D22 L23 ⟨m32,rfl,hF⟩
  exact⟨⟨_,(.b 92 (.s 93 .nil))⟩,rfl,fun o=>rfl⟩
 ·rintro k28 _ y29 D22 L23 w27 o24 ⟨m32,rfl,hF⟩ hx30 hxo31 hh26
  rw[A.drop_at hx30,F.delta_Touched_l5]at hF
  refine A.xl 0 ?_
  refine A.q0 [] [] [.n] [(9,.int .i64 y29)] ?_
  refine A.AL.done ?_
  refine A.AE.flip 132 133 fun o25=>?_
  refine A.xl 1 ?_
  refine A.q0 [51] [] [.b 0 0,.n] [(28,.map (some b9)),(29,.int .i64 y29)] ?_
  refine A.AL.mup (t:=Z.Ty.bool) 50 [] (cs:=[.bool true]) (u:=true) ky3 y29 rfl ?_
  refine A.de 1 ?_
  exact A.AE.bn hh26 [133,132,50,8,48,51,92,93] 100000 [(133,100133),(132,100132),(50,100050),(4,4),(5,5),(8,100008),(48,100048),(51,100051),(92,100092),(93,100093)] [(50,.mp Int (fun i:Int=>.int .i64 i) Z.Ty.bool false b9 (Z.mins m32 y29 true))] ⟨(Z.mins m32 y29 true),rfl,hF⟩ rfl rfl
 rintro _ D22 L23 ⟨m32,rfl,hF⟩
 rw[List.drop_length,F.delta_Touched_l5]at hF
 refine A.el 4 ?_
 refine A.q0 [] [] [.n] [(10,.bool true)] ?_
 refine A.dx 2 ?_
 refine A.lp_ [6,8] [4,5,8,48,51,132] (fun f nl nh=>∃(m33:List (Int×Bool)),∃(y34:Bool),nl=[(10,.bool y34)]∧nh=[(50,.mp Int (fun i:Int=>.int .i64 i) Z.Ty.bool false b9 m33)]∧F.delta_Touched_l4 r3 f m33 y34=some r) ⟨m32,true,rfl,rfl,hF⟩ ?_
 rintro f35 _ _ ⟨m33,y34,rfl,rfl,hF⟩
 rcases f35 with _|f35
 ·exact A.no0 hF
 rw[F.delta_Touched_l4]at hF
 refine A.xl 2 ?_
 refine A.q0 [] [] [.n] [(30,.bool y34)] ?_
 refine A.dx 1 ?_
 refine A.AX.cnb rfl hF (fun hb hF=>?_) (fun hb hF=>?_)
 ·refine A.xl 4 ?_
  refine A.q0 [] [] [.n] [(10,.bool false)] ?_
  refine A.dl 2 ?_
  refine A.q0 [48] [] [.n,.b 0 0,.n,.n] [(32,.slice A5 ((r3.1).length) c6),(33,.int .i64 ((r3.1).length:Int)),(34,.int .i64 0)] ?_
  refine A.dx 2 ?_
  refine A.lp_ [6,8,32,33] [4,5,8,48,51,132] (fun f nl nh=>∃(m36:List (Int×Bool)),∃(y37:Bool),∃(y38:Int),nl=[(10,.bool y37),(34,.int .i64 y38)]∧nh=[(50,.mp Int (fun i:Int=>.int .i64 i) Z.Ty.bool false b9 m36)]∧IntKind.i64.has y38∧F.delta_Touched_l3 (F.delta_Touched_l4 r3 f35) r3 f m36 y37 y38=some r) ⟨m33,false,0,rfl,rfl,(A.hasl .i64 (0) rfl),hF⟩ ?_
  rintro f40 _ _ ⟨m36,y37,y38,rfl,rfl,hy39,hF⟩
  rcases f40 with _|f40
  ·exact A.no0 hF
  rw[F.delta_Touched_l3]at hF
  refine A.xl 1 ?_
  refine A.q0 [] [] [.n] [(35,.bool (decide (y38<((r3.1).length:Int))))] ?_
  refine A.dx 2 ?_
  refine A.AX.cnd rfl hF (fun hb hF=>?_) (fun hb hF=>?_)
  ·refine A.xx 2 ?_
   refine A.AX.join [6,8,32,33,34] [4,5,8,48,51,132] (fun nl nh=>∃(m42:List (Int×Bool)),∃(y43:Bool),nl=[(10,.bool y43)]∧nh=[(50,.mp Int (fun i:Int=>.int .i64 i) Z.Ty.bool false b9 m42)]∧F.delta_Touched_j1 (F.delta_Touched_l3 (F.delta_Touched_l4 r3 f35) r3 f40) y38 m42 y43=some r) ?_ ?_
   ·refine A.xl 2 ?_
    obtain⟨x45,hv46,hF⟩:=A.bd_some hF
    refine A.AL.ixs 8 567 hv46 fun ho47=>?_
    intro A48 c49 b50 o51
    refine A.q0 [] [567] [.e 0 0] [(37,.agg #[.int .i64 x45.1,.int .i64 x45.2.1,.slice A48 ((x45.2.2.1).length) c49,.int .i64 x45.2.2.2.1.1,.int .i64 x45.2.2.2.1.2.1,.string x45.2.2.2.1.2.2,.string x45.2.2.2.2.1,.int .i64 x45.2.2.2.2.2.1,.int .i64 x45.2.2.2.2.2.2])] ?_
    refine A.AL.alloc 569 (cs:=[.int .i64 0,.int .i64 0,.slice none 0 0,.int .i64 0,.int .i64 0,.string (ByteArray.mk #[]),.string (ByteArray.mk #[]),.int .i64 0,.int .i64 0]) Tryz.zeroValue70 fun g52=>?_
    refine A.sw 569 [] [.int .i64 x45.1,.int .i64 x45.2.1,.slice A48 ((x45.2.2.1).length) c49,.int .i64 x45.2.2.2.1.1,.int .i64 x45.2.2.2.1.2.1,.string x45.2.2.2.1.2.2,.string x45.2.2.2.2.1,.int .i64 x45.2.2.2.2.2.1,.int .i64 x45.2.2.2.2.2.2] ?_
    refine A.dx 1 ?_
    refine A.AX.join [6,8,10,12,32,33,34] [4,5,8,48,50,51,132,568,569] (fun nl nh=>∃(y53:Bool),nl=[(48,.bool y53)]∧nh=[]∧F.delta_Touched_j2 (F.delta_Touched_l3 (F.delta_Touched_l4 r3 f35) r3 f40) m36 y37 y38 x45 y53=some r) ?_ ?_
    ·refine A.xl 0 ?_
     refine A.q0 [51,569] [] [.b 0 0,.n,.b 1 0] [(38,.map (some b9)),(40,.int .i64 x45.1)] ?_
     obtain⟨x54,hv55,hF⟩:=A.lt_some hF
     refine A.AL.lku (t:=Z.Ty.bool) 50 570 (z:=(false:Bool)) (zs:=[.bool false]) ky3 x45.1 Tryz.zeroValue4 rfl hv55 fun ho56=>?_
     refine A.q0 [] [] [.n,.n] [(43,.bool (!x54))] ?_
     refine A.AL.cnd (j:=43) rfl hF (fun hF=>?_) (fun hF=>?_)
     ·refine A.q0 [569] [] [.on .n,.on (.b 0 2),.on .n] [(45,.slice A48 ((x45.2.2.1).length) c49),(46,.func (.func 55) #[] #[.pointer (some ⟨g10,0,none⟩)])] ?_
      refine A.AL.on (dj:=43) rfl rfl ?_
      obtain⟨r57,hv58,hF⟩:=A.bd_some hF
      refine A.AL.call 571 [] (first:=[]) (cap:=[]) cf54 (slices_ContainsFunc_int_int_delta_Touched_1_ok x45.2.2.1 m36 A48 c49 g10 b9 r57 hv58) (.l 568 (.b 51 (.lm 50 .nil))) ?_
      rintro _ _ ⟨rfl,rfl⟩
      refine⟨by kernel_rfl,?_⟩
      refine A.q0 [] [] [.n] [(48,.bool r57)] ?_
      refine A.AL.done ?_
      exact A.j ⟨r57,rfl,rfl,hF⟩
     refine A.q0 [] [] [.off,.off,.off,.off,.n] [(48,.bool false)] ?_
     refine A.AL.done ?_
     exact A.j ⟨false,rfl,rfl,hF⟩
    rintro _ _ ⟨y53,rfl,rfl,hF⟩
    rw[F.delta_Touched_j2]at hF
    refine A.AX.cnb rfl hF (fun hb hF=>?_) (fun hb hF=>?_)
    ·refine A.xl 0 ?_
     refine A.q0 [51,569] [] [.b 0 0,.n,.b 1 0] [(49,.map (some b9)),(51,.int .i64 x45.1)] ?_
     refine A.AL.mup (t:=Z.Ty.bool) 50 [] (cs:=[.bool true]) (u:=true) ky3 x45.1 rfl ?_
     refine A.q0 [] [] [.n] [(10,.bool true)] ?_
     refine A.de 1 ?_
     exact A.j ⟨(Z.mins m36 x45.1 true),true,rfl,rfl,hF⟩
    refine A.xe 2 ?_
    exact A.j ⟨m36,y37,rfl,rfl,hF⟩
   rintro _ _ ⟨m42,y43,rfl,rfl,hF⟩
   rw[F.delta_Touched_j1]at hF
   refine A.xl 0 ?_
   obtain⟨hc44,hF⟩:=A.gd_some hF
   refine A.q [] [] [.n,.n] [Z.R64 (y38+1)] [(34,.int .i64 (y38+1))] hc44 ?_
   refine A.AL.done ?_
   exact A.j ⟨_,Nat.lt_succ_self _,⟨m42,y43,(y38+1),rfl,rfl,(Z.i64_has hc44),hF⟩⟩
  refine A.xe 2 ?_
  exact A.j ⟨_,Nat.lt_succ_self _,⟨m36,y37,rfl,rfl,hF⟩⟩
 refine A.xl 3 ?_
 refine A.q0 [48] [] [.n,.b 0 0] [(54,.slice A5 ((r3.1).length) c6)] ?_
 obtain⟨r59,hv60,hF⟩:=A.bd_some hF
 refine A.AL.call 611 [] (first:=[]) (cap:=[]) cf53 (delta_ids_ok r3.1 A5 c6 r59 hv60) (.l 8 .nil) ?_
 rintro _ _ ⟨A61,c62,rfl,rfl⟩
 refine⟨by kernel_rfl,?_⟩
 refine A.q0 [] [] [.n] [(56,.func (.func 57) #[] #[.pointer (some ⟨g10,0,none⟩)])] ?_
 obtain⟨r63,hv64,hF⟩:=A.bd_some hF
 refine A.AL.call 651 [] (first:=[]) (cap:=[]) cf56 (slices_DeleteFunc_int_int_delta_Touched_2_ok r59 m33 A61 c62 g10 b9 r63 hv64) (.m 611 (.b 51 (.lm 50 .nil))) ?_
 rintro _ _ ⟨A65,c66,rfl,rfl⟩
 refine⟨by kernel_rfl,?_⟩
 refine A.q0 [] [] [.n,.n] [(4,.slice A65 ((r63).length) c66),(5,.int .i64 0)] ?_
 refine A.dx 1 ?_
 obtain rfl:=Option.some.inj hF
 exact A.AX.rtM (Ds:=[D22]) [132] [(0,651)] (.tuple #[.slice A65 ((r63).length) c66,.int .i64 0]) (⟨rfl,trivial⟩) (fun a w hf hh=>Z.resv2 rfl (Z.rv_t hf rfl) (Z.rv_t hf rfl)) (⟨A65,c66,rfl,rfl,(A.hasl .i64 (0) rfl)⟩)
end Go.Proofs.YtocfaokgoflmhaaGreatDoor
end
section
set_option linter.unusedVariables false
set_option linter.unusedSimpArgs false
set_option maxRecDepth 20000
set_option maxHeartbeats 8000000
set_option synthInstance.maxSize 1000000
set_option synthInstance.maxHeartbeats 400000
namespace Go.Proofs.YtocfaokgoflmhaaGreatDoor
open Go.RowKit
def F.L09_live_j1 (y19:Bool):Option Bool:=some y19
def F.L09_live:Option Bool:=(F.delta_Touched [(1,1,[],(0,0,ByteArray.mk #[]),ByteArray.mk #[105,110],0,0),(2,5,[1,1],(0,0,ByteArray.mk #[]),ByteArray.mk #[],0,0),(3,15,[2],(0,0,ByteArray.mk #[]),ByteArray.mk #[111,117,116],0,0)] ([],[(2,10,[1],(0,0,ByteArray.mk #[]),ByteArray.mk #[],0,0)],[])).bind fun r8=>((F.delta_Apply [(1,1,[],(0,0,ByteArray.mk #[]),ByteArray.mk #[105,110],0,0),(2,5,[1,1],(0,0,ByteArray.mk #[]),ByteArray.mk #[],0,0),(3,15,[2],(0,0,ByteArray.mk #[]),ByteArray.mk #[111,117,116],0,0)] ([],[(2,10,[1],(0,0,ByteArray.mk #[]),ByteArray.mk #[],0,0)],[])).bind fun r13=>(if(bif decide (r8.2=0)then decide (r13.2=0)else false)=true then((F.slices_Equal_int_int r8.1 [2,3]).bind fun r21=>(if(bif r21 then decide (((r13.1).length:Int)=3)else false)=true then((A.ix r13.1 1).bind fun x23=>(F.L09_live_j1 (decide (x23.2.1=10))))else(F.L09_live_j1 false)))else(F.L09_live_j1 false)))
theorem L09_live_ok (r:Bool)(hF:F.L09_live=some r):
    A.Ct Tryz.prog 8 [] [(0,.el none 0 0 A.tabF),(1,.el none 1 0 A.tabA)] [] (fun v H'=>v=.bool r∧H'=[]):=by
 refine A.Ct.enter Tryz.func8 rfl Tryz.ntmps8 rfl fun w0 F0=>?_
 rw[F.L09_live]at hF
 refine A.xl 1 ?_
 refine A.q0 [] [] [.n] [] ?_
 refine A.dl 2 ?_
 refine A.q0 [] [] [.n] [(7,.agg #[.int .i64 1,.int .i64 1,.slice none 0 0,.int .i64 0,.int .i64 0,.string (ByteArray.mk #[]),.string (ByteArray.mk #[105,110]),.int .i64 0,.int .i64 0])] ?_
 refine A.AL.bsl 2 (ty:=(Z.Ty.int .i64)) (cs:=[.int .i64 1,.int .i64 1]) [1,1] ⟨⟨rfl,(A.hasl .i64 (1) rfl)⟩,⟨⟨rfl,(A.hasl .i64 (1) rfl)⟩,rfl⟩⟩ (fun g1=>?_) Tryz.zeroValue3 Tryz.sizeOf3
 refine A.q0 [] [] [.n] [(9,.agg #[.int .i64 2,.int .i64 5,.slice (some ⟨g1,0,none⟩) 2 2,.int .i64 0,.int .i64 0,.string (ByteArray.mk #[]),.string (ByteArray.mk #[]),.int .i64 0,.int .i64 0])] ?_
 refine A.AL.bsl 3 (ty:=(Z.Ty.int .i64)) (cs:=[.int .i64 2]) [2] ⟨⟨rfl,(A.hasl .i64 (2) rfl)⟩,rfl⟩ (fun g2=>?_) Tryz.zeroValue3 Tryz.sizeOf3
 refine A.q0 [] [] [.n] [(11,.agg #[.int .i64 3,.int .i64 15,.slice (some ⟨g2,0,none⟩) 1 1,.int .i64 0,.int .i64 0,.string (ByteArray.mk #[]),.string (ByteArray.mk #[111,117,116]),.int .i64 0,.int .i64 0])] ?_
 refine A.frz 2 [] ?_
 refine A.frz 3 [] ?_
 refine A.AL.bsl 4 (ty:=T69) (cs:=[.int .i64 1,.int .i64 1,.slice none 0 0,.int .i64 0,.int .i64 0,.string (ByteArray.mk #[]),.string (ByteArray.mk #[105,110]),.int .i64 0,.int .i64 0,.int .i64 2,.int .i64 5,.slice (some ⟨g1,0,none⟩) 2 2,.int .i64 0,.int .i64 0,.string (ByteArray.mk #[]),.string (ByteArray.mk #[]),.int .i64 0,.int .i64 0,.int .i64 3,.int .i64 15,.slice (some ⟨g2,0,none⟩) 1 1,.int .i64 0,.int .i64 0,.string (ByteArray.mk #[]),.string (ByteArray.mk #[111,117,116]),.int .i64 0,.int .i64 0]) [(1,1,[],(0,0,ByteArray.mk #[]),ByteArray.mk #[105,110],0,0),(2,5,[1,1],(0,0,ByteArray.mk #[]),ByteArray.mk #[],0,0),(3,15,[2],(0,0,ByteArray.mk #[]),ByteArray.mk #[111,117,116],0,0)] ⟨⟨⟨rfl,(A.hasl .i64 (1) rfl)⟩,⟨rfl,(A.hasl .i64 (1) rfl)⟩,.inr ⟨rfl,rfl⟩,⟨⟨rfl,(A.hasl .i64 (0) rfl)⟩,⟨rfl,(A.hasl .i64 (0) rfl)⟩,⟨rfl,(A.szl (ByteArray.mk #[]) rfl)⟩⟩,⟨rfl,(A.szl (ByteArray.mk #[105,110]) rfl)⟩,⟨rfl,(A.hasl .i64 (0) rfl)⟩,⟨rfl,(A.hasl .i64 (0) rfl)⟩⟩,⟨⟨⟨rfl,(A.hasl .i64 (2) rfl)⟩,⟨rfl,(A.hasl .i64 (5) rfl)⟩,.inl ⟨2,rfl⟩,⟨⟨rfl,(A.hasl .i64 (0) rfl)⟩,⟨rfl,(A.hasl .i64 (0) rfl)⟩,⟨rfl,(A.szl (ByteArray.mk #[]) rfl)⟩⟩,⟨rfl,(A.szl (ByteArray.mk #[]) rfl)⟩,⟨rfl,(A.hasl .i64 (0) rfl)⟩,⟨rfl,(A.hasl .i64 (0) rfl)⟩⟩,⟨⟨⟨rfl,(A.hasl .i64 (3) rfl)⟩,⟨rfl,(A.hasl .i64 (15) rfl)⟩,.inl ⟨3,rfl⟩,⟨⟨rfl,(A.hasl .i64 (0) rfl)⟩,⟨rfl,(A.hasl .i64 (0) rfl)⟩,⟨rfl,(A.szl (ByteArray.mk #[]) rfl)⟩⟩,⟨rfl,(A.szl (ByteArray.mk #[111,117,116]) rfl)⟩,⟨rfl,(A.hasl .i64 (0) rfl)⟩,⟨rfl,(A.hasl .i64 (0) rfl)⟩⟩,rfl⟩⟩⟩ (fun g3=>?_) Tryz.zeroValue70 Tryz.sizeOf70
 refine A.q0 [] [] [.n] [(13,.agg #[.slice (some ⟨g3,0,none⟩) 3 3])] ?_
 refine A.AL.alloc 5 (cs:=[.slice none 0 0]) Tryz.zeroValue24 fun g4=>?_
 refine A.sw 5 [] [.slice (some ⟨g3,0,none⟩) 3 3] ?_
 refine A.dl 2 ?_
 refine A.AL.bsl 6 (ty:=(Z.Ty.int .i64)) (cs:=[.int .i64 1]) [1] ⟨⟨rfl,(A.hasl .i64 (1) rfl)⟩,rfl⟩ (fun g5=>?_) Tryz.zeroValue3 Tryz.sizeOf3
 refine A.q0 [] [] [.n] [(15,.agg #[.int .i64 2,.int .i64 10,.slice (some ⟨g5,0,none⟩) 1 1,.int .i64 0,.int .i64 0,.string (ByteArray.mk #[]),.string (ByteArray.mk #[]),.int .i64 0,.int .i64 0])] ?_
 refine A.frz 6 [] ?_
 refine A.AL.bsl 7 (ty:=T69) (cs:=[.int .i64 2,.int .i64 10,.slice (some ⟨g5,0,none⟩) 1 1,.int .i64 0,.int .i64 0,.string (ByteArray.mk #[]),.string (ByteArray.mk #[]),.int .i64 0,.int .i64 0]) [(2,10,[1],(0,0,ByteArray.mk #[]),ByteArray.mk #[],0,0)] ⟨⟨⟨rfl,(A.hasl .i64 (2) rfl)⟩,⟨rfl,(A.hasl .i64 (10) rfl)⟩,.inl ⟨6,rfl⟩,⟨⟨rfl,(A.hasl .i64 (0) rfl)⟩,⟨rfl,(A.hasl .i64 (0) rfl)⟩,⟨rfl,(A.szl (ByteArray.mk #[]) rfl)⟩⟩,⟨rfl,(A.szl (ByteArray.mk #[]) rfl)⟩,⟨rfl,(A.hasl .i64 (0) rfl)⟩,⟨rfl,(A.hasl .i64 (0) rfl)⟩⟩,rfl⟩ (fun g6=>?_) Tryz.zeroValue70 Tryz.sizeOf70
 refine A.q0 [] [] [.n] [(17,.agg #[.slice none 0 0,.slice (some ⟨g6,0,none⟩) 1 1,.slice none 0 0])] ?_
 refine A.AL.alloc 8 (cs:=[.slice none 0 0,.slice none 0 0,.slice none 0 0]) Tryz.zeroValue28 fun g7=>?_
 refine A.sw 8 [] [.slice none 0 0,.slice (some ⟨g6,0,none⟩) 1 1,.slice none 0 0] ?_
 refine A.dl 2 ?_
 refine A.q0 [5,8] [] [.b 0 0,.b 1 0] [(19,.agg #[.slice (some ⟨g3,0,none⟩) 3 3]),(20,.agg #[.slice none 0 0,.slice (some ⟨g6,0,none⟩) 1 1,.slice none 0 0])] ?_
 refine A.frz 4 [] ?_
 refine A.frz 7 [] ?_
 obtain⟨r8,hv9,hF⟩:=A.bd_some hF
 refine A.AL.call 9 [] (first:=[]) (cap:=[]) cf19 (delta_Touched_ok [(1,1,[],(0,0,ByteArray.mk #[]),ByteArray.mk #[105,110],0,0),(2,5,[1,1],(0,0,ByteArray.mk #[]),ByteArray.mk #[],0,0),(3,15,[2],(0,0,ByteArray.mk #[]),ByteArray.mk #[111,117,116],0,0)] ([],[(2,10,[1],(0,0,ByteArray.mk #[]),ByteArray.mk #[],0,0)],[]) (some ⟨g3,0,none⟩) 3 none 0 (some ⟨g6,0,none⟩) 1 none 0 r8 hv9) (.s 4 (.ns (.s 7 (.ns (.s 0 (.s 1 .nil)))))) ?_
 rintro _ _ ⟨A10,c11,rfl,rfl,hr12⟩
 refine⟨by kernel_rfl,?_⟩
 refine A.q0 [] [] [.n,.n,.n,.n,.n] [(3,.slice A10 ((r8.1).length) c11),(4,.int .i64 r8.2)] ?_
 refine A.dl 2 ?_
 refine A.q0 [5,8] [] [.b 0 0,.b 1 0] [(25,.agg #[.slice (some ⟨g3,0,none⟩) 3 3]),(26,.agg #[.slice none 0 0,.slice (some ⟨g6,0,none⟩) 1 1,.slice none 0 0])] ?_
 obtain⟨r13,hv14,hF⟩:=A.bd_some hF
 refine A.AL.call 49 [] (first:=[]) (cap:=[]) cf11 (delta_Apply_ok [(1,1,[],(0,0,ByteArray.mk #[]),ByteArray.mk #[105,110],0,0),(2,5,[1,1],(0,0,ByteArray.mk #[]),ByteArray.mk #[],0,0),(3,15,[2],(0,0,ByteArray.mk #[]),ByteArray.mk #[111,117,116],0,0)] ([],[(2,10,[1],(0,0,ByteArray.mk #[]),ByteArray.mk #[],0,0)],[]) (some ⟨g3,0,none⟩) 3 none 0 (some ⟨g6,0,none⟩) 1 none 0 r13 hv14) (.s 4 (.ns (.s 7 (.ns (.s 0 (.s 1 .nil)))))) ?_
 rintro _ _ ⟨A15,c16,rfl,rfl,hr17⟩
 refine⟨by kernel_rfl,?_⟩
 refine A.q0 [] [] [.n,.n,.n] [(28,.agg #[.slice A15 ((r13.1).length) c16]),(29,.int .i64 r13.2)] ?_
 refine A.AL.alloc 89 (cs:=[.slice none 0 0]) Tryz.zeroValue24 fun g18=>?_
 refine A.sw 89 [] [.slice A15 ((r13.1).length) c16] ?_
 refine A.q0 [] [] [.n] [(6,.int .i64 r13.2)] ?_
 refine A.dx 1 ?_
 refine A.AX.join [] [0,1] (fun nl nh=>∃(y19:Bool),nl=[(0,.bool y19)]∧nh=[]∧F.L09_live_j1 y19=some r) ?_ ?_
 ·refine A.xl 0 ?_
  refine A.q0 [] [] [.n,.n,.n,.sy .n,.sy .n,.pk,.n] [(36,.bool (bif decide (r8.2=0)then decide (r13.2=0)else false))] ?_
  refine A.AL.cnd (j:=36) rfl hF (fun hF=>?_) (fun hF=>?_)
  ·refine A.q0 [] [] [.on .n] [(37,.slice A10 ((r8.1).length) c11)] ?_
   refine A.AL.on (dj:=36) rfl rfl ?_
   refine A.AL.bsl 90 (ty:=(Z.Ty.int .i64)) (cs:=[.int .i64 2,.int .i64 3]) [2,3] ⟨⟨rfl,(A.hasl .i64 (2) rfl)⟩,⟨⟨rfl,(A.hasl .i64 (3) rfl)⟩,rfl⟩⟩ (fun g20=>?_) Tryz.zeroValue3 Tryz.sizeOf3
   refine A.AL.on (dj:=36) rfl rfl ?_
   obtain⟨r21,hv22,hF⟩:=A.bd_some hF
   refine A.AL.call 91 [] (first:=[]) (cap:=[]) cf24 (slices_Equal_int_int_ok r8.1 [2,3] A10 c11 (some ⟨g20,0,none⟩) 2 r21 hv22) (.l 9 (.o 90 .nil)) ?_
   rintro _ _ ⟨rfl,rfl⟩
   refine⟨by kernel_rfl,?_⟩
   refine A.q0 [89] [] [.n,.n,.sy .n,.sy (.b 0 0),.sy .n,.sy .n,.pk,.n] [(47,.bool (bif r21 then decide (((r13.1).length:Int)=3)else false))] ?_
   refine A.AL.cnd (j:=47) rfl hF (fun hF=>?_) (fun hF=>?_)
   ·refine A.q0 [89] [] [.on .n,.on (.b 0 0)] [(49,.slice A15 ((r13.1).length) c16)] ?_
    refine A.AL.on (dj:=47) rfl rfl ?_
    obtain⟨x23,hv24,hF⟩:=A.bd_some hF
    refine A.AL.ixs 49 131 hv24 fun ho25=>?_
    intro A26 c27 b28 o29
    refine A.q0 [] [131] [.on .n,.on (.e 0 1),.on .n,.n,.n] [(0,.bool (decide (x23.2.1=10)))] ?_
    refine A.AL.done ?_
    exact A.j ⟨(decide (x23.2.1=10)),rfl,rfl,hF⟩
   refine A.q0 [] [] [.off,.off,.off,.off,.off,.off,.n,.n] [(0,.bool false)] ?_
   refine A.AL.done ?_
   exact A.j ⟨false,rfl,rfl,hF⟩
  refine A.q0 [] [] [.off,.off,.off,.n,.n,.off,.off,.off,.off,.n,.n,.off,.off,.off,.off,.off,.off,.n,.n] [(0,.bool false)] ?_
  refine A.AL.done ?_
  exact A.j ⟨false,rfl,rfl,hF⟩
 rintro _ _ ⟨y19,rfl,rfl,hF⟩
 rw[F.L09_live_j1]at hF
 obtain rfl:=Option.some.inj hF
 exact A.rt1 [] ⟨rfl,rfl⟩
def F.L09_few_l1 (k3:Int→Option Bool)(y1:Int)(x4:(List D69)):Nat→Int→Option Bool
 |0,_=>none
 |f+1,y11=>if y11<((x4).length:Int)then((A.ix x4 y11).bind fun x14=>(if(bif bif decide ((20:Int)<((x14.2.2.1).length:Int))then true else decide ((300:Int)<(x14.2.2.2.2.1.size:Int))then true else decide ((300:Int)<(x14.2.2.2.1.2.2.size:Int)))=true then(some false)else(A.gd (Z.R64 (y11+1)) ((F.L09_few_l1 k3 y1 x4 f) (y11+1)))))else(A.gd (Z.R64 (y1+1)) (k3 (y1+1)))
def F.L09_few_l2 (a0:(List (List D69))):Nat→Int→Option Bool
 |0,_=>none
 |f+1,y1=>if y1<((a0).length:Int)then((A.ix a0 y1).bind fun x4=>(if(60:Int)<((x4).length:Int)then(some false)else(F.L09_few_l1 (F.L09_few_l2 a0 f) y1 x4 A.FU 0)))else(some true)
def F.L09_few (a0:(List (List D69))):Option Bool:=F.L09_few_l2 a0 A.FU 0
theorem L09_few_ok (a0:(List (List D69)))(A0_:Option Addr)(c1_:Nat)(r:Bool)(hF:F.L09_few a0=some r):
    A.Ct Tryz.prog 9 [.slice A0_ ((a0).length) c1_] [(0,.ln (Z.Ty.slice T69) A0_ c1_ a0)] [] (fun v H'=>v=.bool r∧H'=[]):=by
 refine A.Ct.enter Tryz.func9 rfl Tryz.ntmps9 rfl fun w0 F0=>?_
 rw[F.L09_few]at hF
 refine A.xl 1 ?_
 refine A.q0 [] [] [.n] [] ?_
 refine A.dl 3 ?_
 refine A.q0 [] [] [.n,.n,.n] [(7,.slice A0_ ((a0).length) c1_),(8,.int .i64 ((a0).length:Int)),(9,.int .i64 0)] ?_
 refine A.dx 2 ?_
 refine A.lp_ [7,8] [0] (fun f nl nh=>∃(y1:Int),nl=[(9,.int .i64 y1)]∧nh=[]∧IntKind.i64.has y1∧F.L09_few_l2 a0 f y1=some r) ⟨0,rfl,rfl,(A.hasl .i64 (0) rfl),hF⟩ ?_
 rintro f3 _ _ ⟨y1,rfl,rfl,hy2,hF⟩
 rcases f3 with _|f3
 ·exact A.no0 hF
 rw[F.L09_few_l2]at hF
 refine A.xl 1 ?_
 refine A.q0 [] [] [.n] [(10,.bool (decide (y1<((a0).length:Int))))] ?_
 refine A.dx 2 ?_
 refine A.AX.cnd rfl hF (fun hb hF=>?_) (fun hb hF=>?_)
 ·refine A.xl 5 ?_
  obtain⟨x4,hv5,hF⟩:=A.bd_some hF
  refine A.AL.ixl 0 23 hv5 fun ho6=>?_
  intro A7 c8 b9 o10
  refine A.q0 [] [23] [.e 0 0,.n] [(4,.slice A7 ((x4).length) c8)] ?_
  refine A.dl 3 ?_
  refine A.q0 [] [] [.n,.n,.n] [(15,.bool (decide ((60:Int)<((x4).length:Int))))] ?_
  refine A.dx 1 ?_
  refine A.AX.cnd rfl hF (fun hb hF=>?_) (fun hb hF=>?_)
  ·refine A.xl 1 ?_
   refine A.q0 [] [] [.n] [(2,.bool false)] ?_
   refine A.dx 1 ?_
   obtain rfl:=Option.some.inj hF
   exact A.rt1 [] ⟨rfl,rfl⟩
  refine A.xl 3 ?_
  refine A.q0 [] [] [.n,.n,.n] [(16,.slice A7 ((x4).length) c8),(17,.int .i64 ((x4).length:Int)),(18,.int .i64 0)] ?_
  refine A.dx 2 ?_
  refine A.lp_ [7,8,9,16,17] [0,24] (fun f nl nh=>∃(y11:Int),nl=[(18,.int .i64 y11)]∧nh=[]∧IntKind.i64.has y11∧F.L09_few_l1 (F.L09_few_l2 a0 f3) y1 x4 f y11=some r) ⟨0,rfl,rfl,(A.hasl .i64 (0) rfl),hF⟩ ?_
  rintro f13 _ _ ⟨y11,rfl,rfl,hy12,hF⟩
  rcases f13 with _|f13
  ·exact A.no0 hF
  rw[F.L09_few_l1]at hF
  refine A.xl 1 ?_
  refine A.q0 [] [] [.n] [(19,.bool (decide (y11<((x4).length:Int))))] ?_
  refine A.dx 2 ?_
  refine A.AX.cnd rfl hF (fun hb hF=>?_) (fun hb hF=>?_)
  ·refine A.xl 5 ?_
   obtain⟨x14,hv15,hF⟩:=A.bd_some hF
   refine A.AL.ixs 24 31 hv15 fun ho16=>?_
   intro A17 c18 b19 o20
   refine A.q0 [] [31] [.e 0 0] [(21,.agg #[.int .i64 x14.1,.int .i64 x14.2.1,.slice A17 ((x14.2.2.1).length) c18,.int .i64 x14.2.2.2.1.1,.int .i64 x14.2.2.2.1.2.1,.string x14.2.2.2.1.2.2,.string x14.2.2.2.2.1,.int .i64 x14.2.2.2.2.2.1,.int .i64 x14.2.2.2.2.2.2])] ?_
   refine A.AL.alloc 33 (cs:=[.int .i64 0,.int .i64 0,.slice none 0 0,.int .i64 0,.int .i64 0,.string (ByteArray.mk #[]),.string (ByteArray.mk #[]),.int .i64 0,.int .i64 0]) Tryz.zeroValue70 fun g21=>?_
   refine A.sw 33 [] [.int .i64 x14.1,.int .i64 x14.2.1,.slice A17 ((x14.2.2.1).length) c18,.int .i64 x14.2.2.2.1.1,.int .i64 x14.2.2.2.1.2.1,.string x14.2.2.2.1.2.2,.string x14.2.2.2.2.1,.int .i64 x14.2.2.2.2.2.1,.int .i64 x14.2.2.2.2.2.2] ?_
   refine A.dl 2 ?_
   refine A.q0 [33] [] [.n,.b 0 2,.n,.n,.n,.sy .n,.sy (.b 0 6),.sy .n,.sy .n,.pk,.n,.sy .n,.sy .n,.sy (.b 0 5),.sy .n,.sy .n,.pk] [(38,.bool (bif bif decide ((20:Int)<((x14.2.2.1).length:Int))then true else decide ((300:Int)<(x14.2.2.2.2.1.size:Int))then true else decide ((300:Int)<(x14.2.2.2.1.2.2.size:Int))))] ?_
   refine A.dx 1 ?_
   refine A.AX.cnb rfl hF (fun hb hF=>?_) (fun hb hF=>?_)
   ·refine A.xl 1 ?_
    refine A.q0 [] [] [.n] [(2,.bool false)] ?_
    refine A.dx 1 ?_
    obtain rfl:=Option.some.inj hF
    exact A.rt1 [] ⟨rfl,rfl⟩
   refine A.xl 3 ?_
   obtain⟨hc22,hF⟩:=A.gd_some hF
   refine A.q [] [] [.n,.n] [Z.R64 (y11+1)] [(18,.int .i64 (y11+1))] hc22 ?_
   refine A.AL.done ?_
   exact A.j ⟨_,Nat.lt_succ_self _,⟨(y11+1),rfl,rfl,(Z.i64_has hc22),hF⟩⟩
  refine A.xl 3 ?_
  obtain⟨hc23,hF⟩:=A.gd_some hF
  refine A.q [] [] [.n,.n] [Z.R64 (y1+1)] [(9,.int .i64 (y1+1))] hc23 ?_
  refine A.AL.done ?_
  exact A.j ⟨_,Nat.lt_succ_self _,⟨(y1+1),rfl,rfl,(Z.i64_has hc23),hF⟩⟩
 refine A.xl 3 ?_
 refine A.q0 [] [] [.n] [(2,.bool true)] ?_
 refine A.dx 1 ?_
 obtain rfl:=Option.some.inj hF
 exact A.rt1 [] ⟨rfl,rfl⟩
def F.R08_Ins (a0:Int):Option Int:=if(bif decide (a0<1)then true else decide ((16:Int)<a0))=true then(some (-1))else(if a0=1 then(some 0)else(if(bif decide (a0=5)then true else decide (a0=9))=true then(some 2)else(some 1)))
theorem R08_Ins_ok (a0:Int)(h0_:IntKind.i64.has a0)(r:Int)(hF:F.R08_Ins a0=some r):
    A.Ct Tryz.prog 130 [.int .i64 a0] [] [] (fun v H'=>v=.int .i64 r∧H'=[]∧IntKind.i64.has r):=by
 refine A.Ct.enter Tryz.func130 rfl Tryz.ntmps130 rfl fun w0 F0=>?_
 rw[F.R08_Ins]at hF
 refine A.xl 1 ?_
 refine A.q0 [] [] [.n] [] ?_
 refine A.dl 4 ?_
 refine A.q0 [] [] [.n,.n,.n,.sy .n,.sy .n,.pk,.n] [(3,.bool (bif decide (a0<1)then true else decide ((16:Int)<a0)))] ?_
 refine A.dx 1 ?_
 refine A.AX.cnb rfl hF (fun hb hF=>?_) (fun hb hF=>?_)
 ·refine A.xl 1 ?_
  refine A.q0 [] [] [.n] [(2,.int .i64 (-1))] ?_
  refine A.dx 1 ?_
  obtain rfl:=Option.some.inj hF
  exact A.rt1 [] ⟨rfl,rfl,(A.hasl .i64 (-1) rfl)⟩
 refine A.xl 1 ?_
 refine A.q0 [] [] [.n,.n,.n] [(10,.bool (decide (a0=1)))] ?_
 refine A.dx 1 ?_
 refine A.AX.cnd rfl hF (fun hb hF=>?_) (fun hb hF=>?_)
 ·refine A.xl 1 ?_
  refine A.q0 [] [] [.n] [(2,.int .i64 0)] ?_
  refine A.dx 1 ?_
  obtain rfl:=Option.some.inj hF
  exact A.rt1 [] ⟨rfl,rfl,(A.hasl .i64 (0) rfl)⟩
 refine A.xl 1 ?_
 refine A.q0 [] [] [.n,.n,.n,.sy .n,.sy .n,.pk,.n] [(13,.bool (bif decide (a0=5)then true else decide (a0=9)))] ?_
 refine A.dx 1 ?_
 refine A.AX.cnb rfl hF (fun hb hF=>?_) (fun hb hF=>?_)
 ·refine A.xl 1 ?_
  refine A.q0 [] [] [.n] [(2,.int .i64 2)] ?_
  refine A.dx 1 ?_
  obtain rfl:=Option.some.inj hF
  exact A.rt1 [] ⟨rfl,rfl,(A.hasl .i64 (2) rfl)⟩
 refine A.xl 4 ?_
 refine A.q0 [] [] [.n] [(2,.int .i64 1)] ?_
 refine A.dx 1 ?_
 obtain rfl:=Option.some.inj hF
 exact A.rt1 [] ⟨rfl,rfl,(A.hasl .i64 (1) rfl)⟩
def F.R08_Named_j1 (k1:Int→Option (Int×Bool))(a0:D23)(y2:Int)(y5:Bool):Option (Int×Bool):=if y5=true then((A.ix a0 y2).bind fun x6=>(some (x6.1,true)))else(A.gd (Z.R64 (y2+1)) (k1 (y2+1)))
def F.R08_Named_l2 (a0:D23)(a1:Int)(a2:ByteArray):Nat→Int→Option (Int×Bool)
 |0,_=>none
 |f+1,y2=>if y2<((a0).length:Int)then((A.ix a0 y2).bind fun x14=>(if x14.2.1=a1 then((A.ix a0 y2).bind fun x21=>(F.R08_Named_j1 (F.R08_Named_l2 a0 a1 a2 f) a0 y2 (decide (x21.2.2.2.2.1=a2))))else(F.R08_Named_j1 (F.R08_Named_l2 a0 a1 a2 f) a0 y2 false)))else(some (0,false))
def F.R08_Named (a0:D23)(a1:Int)(a2:ByteArray):Option (Int×Bool):=F.R08_Named_l2 a0 a1 a2 A.FU 0
theorem R08_Named_ok (a0:D23)(a1:Int)(a2:ByteArray)(A0_:Option Addr)(c1_:Nat)(h2_:IntKind.i64.has a1)(h3_:a2.size≤maxLen)(r:Int×Bool)(hF:F.R08_Named a0 a1 a2=some r):
    A.Ct Tryz.prog 131 [.agg #[.slice A0_ ((a0).length) c1_],.int .i64 a1,.string a2] [(0,.sh (.slice T69) [.slice A0_ (a0).length c1_] a0)] [] (fun v H'=>v=.tuple #[.int .i64 r.1,.bool r.2]∧H'=[]∧IntKind.i64.has r.1):=by
 refine A.Ct.enter Tryz.func131 rfl Tryz.ntmps131 rfl fun w0 F0=>?_
 rw[F.R08_Named]at hF
 refine A.xl 1 ?_
 refine A.AL.box 1 (cs:=[.slice A0_ ((a0).length) c1_]) fun g1=>?_
 refine A.q0 [] [] [.n,.n] [] ?_
 refine A.dl 3 ?_
 refine A.q0 [] [] [.n] [(8,.int .i64 0)] ?_
 refine A.dx 2 ?_
 refine A.lp_ [1,2,3] [0,1] (fun f nl nh=>∃(y2:Int),nl=[(8,.int .i64 y2)]∧nh=[]∧IntKind.i64.has y2∧F.R08_Named_l2 a0 a1 a2 f y2=some r) ⟨0,rfl,rfl,(A.hasl .i64 (0) rfl),hF⟩ ?_
 rintro f4 _ _ ⟨y2,rfl,rfl,hy3,hF⟩
 rcases f4 with _|f4
 ·exact A.no0 hF
 rw[F.R08_Named_l2]at hF
 refine A.xl 2 ?_
 refine A.q0 [1] [] [.n,.n,.b 0 0,.n,.n] [(13,.bool (decide (y2<((a0).length:Int))))] ?_
 refine A.dx 1 ?_
 refine A.AX.cnd rfl hF (fun hb hF=>?_) (fun hb hF=>?_)
 ·refine A.xx 4 ?_
  refine A.AX.join [1,2,3,8] [0,1] (fun nl nh=>∃(y5:Bool),nl=[(33,.bool y5)]∧nh=[]∧F.R08_Named_j1 (F.R08_Named_l2 a0 a1 a2 f4) a0 y2 y5=some r) ?_ ?_
  ·refine A.xl 0 ?_
   refine A.q0 [1] [] [.n,.b 0 0,.n] [(17,.slice A0_ ((a0).length) c1_),(18,.int .i64 y2)] ?_
   obtain⟨x14,hv15,hF⟩:=A.bd_some hF
   refine A.AL.ixs 0 14 hv15 fun ho16=>?_
   intro A17 c18 b19 o20
   refine A.q0 [] [14] [.n,.e 0 1,.n,.n,.n] [(24,.bool (decide (x14.2.1=a1)))] ?_
   refine A.AL.cnp (j:=24) rfl hF (fun hb hF=>?_) (fun hb hF=>?_)
   ·refine A.q0 [1] [] [.on .n,.on (.b 0 0),.on .n] [(26,.slice A0_ ((a0).length) c1_),(27,.int .i64 y2)] ?_
    refine A.AL.on (dj:=24) rfl rfl ?_
    obtain⟨x21,hv22,hF⟩:=A.bd_some hF
    refine A.AL.ixs 0 16 hv22 fun ho23=>?_
    intro A24 c25 b26 o27
    refine A.q0 [] [16] [.on .n,.on (.e 0 6),.on .n,.on .n,.n] [(33,.bool (decide (x21.2.2.2.2.1=a2)))] ?_
    refine A.AL.done ?_
    exact A.j ⟨(decide (x21.2.2.2.2.1=a2)),rfl,rfl,hF⟩
   refine A.q0 [] [] [.off,.off,.off,.off,.off,.off,.off,.off,.n] [(33,.bool false)] ?_
   refine A.AL.done ?_
   exact A.j ⟨false,rfl,rfl,hF⟩
  rintro _ _ ⟨y5,rfl,rfl,hF⟩
  rw[F.R08_Named_j1]at hF
  refine A.AX.cnb rfl hF (fun hb hF=>?_) (fun hb hF=>?_)
  ·refine A.xl 1 ?_
   refine A.q0 [1] [] [.n,.b 0 0,.n] [(35,.slice A0_ ((a0).length) c1_),(36,.int .i64 y2)] ?_
   obtain⟨x6,hv7,hF⟩:=A.bd_some hF
   refine A.AL.ixs 0 18 hv7 fun ho8=>?_
   intro A9 c10 b11 o12
   refine A.q0 [] [18] [.n,.e 0 0,.n,.n] [(6,.int .i64 x6.1),(7,.bool true)] ?_
   refine A.dx 1 ?_
   obtain rfl:=Option.some.inj hF
   exact A.rt2 [] ⟨rfl,rfl,ho8.1⟩
  refine A.xl 3 ?_
  obtain⟨hc13,hF⟩:=A.gd_some hF
  refine A.q [] [] [.n,.n,.n] [Z.R64 (y2+1)] [(8,.int .i64 (y2+1))] hc13 ?_
  refine A.AL.done ?_
  exact A.j ⟨_,Nat.lt_succ_self _,⟨(y2+1),rfl,rfl,(Z.i64_has hc13),hF⟩⟩
 refine A.xl 3 ?_
 refine A.q0 [] [] [.n,.n] [(6,.int .i64 0),(7,.bool false)] ?_
 refine A.dx 1 ?_
 obtain rfl:=Option.some.inj hF
 exact A.rt2 [] ⟨rfl,rfl,(A.hasl .i64 (0) rfl)⟩
def F.R08_letter (a0:UInt8):Option Bool:=if(bif decide ((97:Int)≤(a0.toNat:Int))then decide ((a0.toNat:Int)≤122)else false)=true then(some true)else(some (bif decide ((65:Int)≤(a0.toNat:Int))then decide ((a0.toNat:Int)≤90)else false))
theorem R08_letter_ok (a0:UInt8)(r:Bool)(hF:F.R08_letter a0=some r):
    A.Ct Tryz.prog 148 [.int .u8 (a0.toNat:Int)] [] [] (fun v H'=>v=.bool r∧H'=[]):=by
 refine A.Ct.enter Tryz.func148 rfl Tryz.ntmps148 rfl fun w0 F0=>?_
 rw[F.R08_letter]at hF
 refine A.xl 1 ?_
 refine A.q0 [] [] [.n] [] ?_
 refine A.dl 2 ?_
 refine A.q0 [] [] [.n,.n,.n,.sy .n,.sy .n,.pk,.n] [(9,.bool (bif decide ((97:Int)≤(a0.toNat:Int))then decide ((a0.toNat:Int)≤122)else false))] ?_
 refine A.AL.cnd (j:=9) rfl hF (fun hF=>?_) (fun hF=>?_)
 ·refine A.q0 [] [] [.off,.off,.off,.off,.off,.off,.n,.n] [(2,.bool true)] ?_
  refine A.dx 1 ?_
  obtain rfl:=Option.some.inj hF
  exact A.rt1 [] ⟨rfl,rfl⟩
 refine A.q0 [] [] [.on .n,.on .n,.on .n,.sy .n,.sy .n,.on .pk,.n,.n] [(2,.bool (bif decide ((65:Int)≤(a0.toNat:Int))then decide ((a0.toNat:Int)≤90)else false))] ?_
 refine A.dx 1 ?_
 obtain rfl:=Option.some.inj hF
 exact A.rt1 [] ⟨rfl,rfl⟩
def F.R08_digit (a0:UInt8):Option Bool:=some (bif decide ((48:Int)≤(a0.toNat:Int))then decide ((a0.toNat:Int)≤57)else false)
theorem R08_digit_ok (a0:UInt8)(r:Bool)(hF:F.R08_digit a0=some r):
    A.Ct Tryz.prog 149 [.int .u8 (a0.toNat:Int)] [] [] (fun v H'=>v=.bool r∧H'=[]):=by
 refine A.Ct.enter Tryz.func149 rfl Tryz.ntmps149 rfl fun w0 F0=>?_
 rw[F.R08_digit]at hF
 refine A.xl 1 ?_
 refine A.q0 [] [] [.n] [] ?_
 refine A.dl 2 ?_
 refine A.q0 [] [] [.n,.n,.n,.sy .n,.sy .n,.pk,.n] [(2,.bool (bif decide ((48:Int)≤(a0.toNat:Int))then decide ((a0.toNat:Int)≤57)else false))] ?_
 refine A.dx 1 ?_
 obtain rfl:=Option.some.inj hF
 exact A.rt1 [] ⟨rfl,rfl⟩
def F.R08_name_j1 (k1:Int→Option Bool)(y2:Int)(y5:Bool):Option Bool:=if y5=true then(some false)else(A.gd (Z.R64 (y2+1)) (k1 (y2+1)))
def F.R08_name_l2 (a0:ByteArray):Nat→Int→Option Bool
 |0,_=>none
 |f+1,y2=>if y2<(a0.size:Int)then((A.ix a0.data.toList y2).bind fun x7=>((F.R08_letter x7).bind fun r9=>(if(!r9)=true then((A.ix a0.data.toList y2).bind fun x11=>((F.R08_digit x11).bind fun r13=>(F.R08_name_j1 (F.R08_name_l2 a0 f) y2 (!r13))))else(F.R08_name_j1 (F.R08_name_l2 a0 f) y2 false))))else(some true)
def F.R08_name_j3 (a0:ByteArray)(y1:Bool):Option Bool:=if y1=true then(some false)else(F.R08_name_l2 a0 A.FU 0)
def F.R08_name (a0:ByteArray):Option Bool:=if(bif decide (a0=(ByteArray.mk #[]))then true else decide ((16:Int)<(a0.size:Int)))=true then(F.R08_name_j3 a0 true)else((A.ix a0.data.toList 0).bind fun x15=>((F.R08_letter x15).bind fun r17=>(F.R08_name_j3 a0 (!r17))))
theorem R08_name_ok (a0:ByteArray)(h0_:a0.size≤maxLen)(r:Bool)(hF:F.R08_name a0=some r):
    A.Ct Tryz.prog 132 [.string a0] [] [] (fun v H'=>v=.bool r∧H'=[]):=by
 refine A.Ct.enter Tryz.func132 rfl Tryz.ntmps132 rfl fun w0 F0=>?_
 rw[F.R08_name]at hF
 refine A.xl 1 ?_
 refine A.q0 [] [] [.n] [] ?_
 refine A.dx 2 ?_
 refine A.AX.join [0] [] (fun nl nh=>∃(y1:Bool),nl=[(16,.bool y1)]∧nh=[]∧F.R08_name_j3 a0 y1=some r) ?_ ?_
 ·refine A.xl 0 ?_
  refine A.q0 [] [] [.n,.n,.n,.sy .n,.sy .n,.sy .n,.pk,.n] [(11,.bool (bif decide (a0=(ByteArray.mk #[]))then true else decide ((16:Int)<(a0.size:Int))))] ?_
  refine A.AL.cnd (j:=11) rfl hF (fun hF=>?_) (fun hF=>?_)
  ·refine A.q0 [] [] [.off,.off,.off,.off,.n] [(16,.bool true)] ?_
   refine A.AL.done ?_
   exact A.j ⟨true,rfl,rfl,hF⟩
  refine A.q0 [] [] [.on .n] [(12,.string a0)] ?_
  refine A.AL.on (dj:=11) rfl rfl ?_
  obtain⟨x15,hv16,hF⟩:=A.bd_some hF
  refine A.AL.ixt hv16 ?_
  refine A.AL.on (dj:=11) rfl rfl ?_
  obtain⟨r17,hv18,hF⟩:=A.bd_some hF
  refine A.AL.call 0 [] (first:=[]) (cap:=[]) cf148 (R08_letter_ok x15 r17 hv18) .nil ?_
  rintro _ _ ⟨rfl,rfl⟩
  refine⟨by kernel_rfl,?_⟩
  refine A.q0 [] [] [.on .n,.n] [(16,.bool (!r17))] ?_
  refine A.AL.done ?_
  exact A.j ⟨(!r17),rfl,rfl,hF⟩
 rintro _ _ ⟨y1,rfl,rfl,hF⟩
 rw[F.R08_name_j3]at hF
 refine A.AX.cnb rfl hF (fun hb hF=>?_) (fun hb hF=>?_)
 ·refine A.xl 1 ?_
  refine A.q0 [] [] [.n] [(2,.bool false)] ?_
  refine A.dx 1 ?_
  obtain rfl:=Option.some.inj hF
  exact A.rt1 [] ⟨rfl,rfl⟩
 refine A.xl 4 ?_
 refine A.q0 [] [] [.n] [(3,.int .i64 0)] ?_
 refine A.dx 2 ?_
 refine A.lp_ [0] [] (fun f nl nh=>∃(y2:Int),nl=[(3,.int .i64 y2)]∧nh=[]∧IntKind.i64.has y2∧F.R08_name_l2 a0 f y2=some r) ⟨0,rfl,rfl,(A.hasl .i64 (0) rfl),hF⟩ ?_
 rintro f4 _ _ ⟨y2,rfl,rfl,hy3,hF⟩
 rcases f4 with _|f4
 ·exact A.no0 hF
 rw[F.R08_name_l2]at hF
 refine A.xl 2 ?_
 refine A.q0 [] [] [.n,.n,.n,.n] [(20,.bool (decide (y2<(a0.size:Int))))] ?_
 refine A.dx 1 ?_
 refine A.AX.cnd rfl hF (fun hb hF=>?_) (fun hb hF=>?_)
 ·refine A.xx 4 ?_
  refine A.AX.join [0,3] [] (fun nl nh=>∃(y5:Bool),nl=[(34,.bool y5)]∧nh=[]∧F.R08_name_j1 (F.R08_name_l2 a0 f4) y2 y5=some r) ?_ ?_
  ·refine A.xl 0 ?_
   refine A.q0 [] [] [.n,.n] [(23,.string a0),(24,.int .i64 y2)] ?_
   obtain⟨x7,hv8,hF⟩:=A.bd_some hF
   refine A.AL.ixt hv8 ?_
   obtain⟨r9,hv10,hF⟩:=A.bd_some hF
   refine A.AL.call 200 [] (first:=[]) (cap:=[]) cf148 (R08_letter_ok x7 r9 hv10) .nil ?_
   rintro _ _ ⟨rfl,rfl⟩
   refine⟨by kernel_rfl,?_⟩
   refine A.q0 [] [] [.n,.n] [(28,.bool (!r9))] ?_
   refine A.AL.cnd (j:=28) rfl hF (fun hF=>?_) (fun hF=>?_)
   ·refine A.q0 [] [] [.on .n,.on .n] [(29,.string a0),(30,.int .i64 y2)] ?_
    refine A.AL.on (dj:=28) rfl rfl ?_
    obtain⟨x11,hv12,hF⟩:=A.bd_some hF
    refine A.AL.ixt hv12 ?_
    refine A.AL.on (dj:=28) rfl rfl ?_
    obtain⟨r13,hv14,hF⟩:=A.bd_some hF
    refine A.AL.call 240 [] (first:=[]) (cap:=[]) cf149 (R08_digit_ok x11 r13 hv14) .nil ?_
    rintro _ _ ⟨rfl,rfl⟩
    refine⟨by kernel_rfl,?_⟩
    refine A.q0 [] [] [.on .n,.n] [(34,.bool (!r13))] ?_
    refine A.AL.done ?_
    exact A.j ⟨(!r13),rfl,rfl,hF⟩
   refine A.q0 [] [] [.off,.off,.off,.off,.off,.n] [(34,.bool false)] ?_
   refine A.AL.done ?_
   exact A.j ⟨false,rfl,rfl,hF⟩
  rintro _ _ ⟨y5,rfl,rfl,hF⟩
  rw[F.R08_name_j1]at hF
  refine A.AX.cnb rfl hF (fun hb hF=>?_) (fun hb hF=>?_)
  ·refine A.xl 1 ?_
   refine A.q0 [] [] [.n] [(2,.bool false)] ?_
   refine A.dx 1 ?_
   obtain rfl:=Option.some.inj hF
   exact A.rt1 [] ⟨rfl,rfl⟩
  refine A.xl 3 ?_
  obtain⟨hc6,hF⟩:=A.gd_some hF
  refine A.q [] [] [.n,.n,.n] [Z.R64 (y2+1)] [(3,.int .i64 (y2+1))] hc6 ?_
  refine A.AL.done ?_
  exact A.j ⟨_,Nat.lt_succ_self _,⟨(y2+1),rfl,rfl,(Z.i64_has hc6),hF⟩⟩
 refine A.xl 3 ?_
 refine A.q0 [] [] [.n] [(2,.bool true)] ?_
 refine A.dx 1 ?_
 obtain rfl:=Option.some.inj hF
 exact A.rt1 [] ⟨rfl,rfl⟩
end Go.Proofs.YtocfaokgoflmhaaGreatDoor
end
section
set_option linter.unusedVariables false
set_option linter.unusedSimpArgs false
set_option maxRecDepth 20000
set_option maxHeartbeats 8000000
set_option synthInstance.maxSize 1000000
set_option synthInstance.maxHeartbeats 400000
namespace Go.Proofs.YtocfaokgoflmhaaGreatDoor
open Go.RowKit
def F.R08_own_j1 (a0:D23)(x2:D69):Option Bool:=if(bif decide (x2.2.1≠1)then decide (x2.2.1≠15)else false)=true then(some (decide (x2.2.2.2.2.1=(ByteArray.mk #[]))))else((F.R08_Named a0 x2.2.1 x2.2.2.2.2.1).bind fun r11=>((F.R08_name x2.2.2.2.2.1).bind fun r14=>(some (bif r14 then decide (r11.1=x2.1)else false))))
def F.R08_own_j2 (a0:D23)(x2:D69)(y10:Bool):Option Bool:=if y10=true then(some false)else(if x2.2.1=14 then(if(bif bif bif decide (x2.2.2.2.2.2.1<1)then true else decide ((8:Int)<x2.2.2.2.2.2.1)then true else decide (x2.2.2.2.2.2.2<1)then true else decide ((4:Int)<x2.2.2.2.2.2.2))=true then(some false)else(F.R08_own_j1 a0 x2))else(if(bif decide (x2.2.2.2.2.2.1≠0)then true else decide (x2.2.2.2.2.2.2≠0))=true then(some false)else(F.R08_own_j1 a0 x2)))
def F.R08_own (a0:D23)(a1:Int):Option Bool:=(A.ix a0 a1).bind fun x2=>(if(bif decide (x2.1<1)then true else decide ((255:Int)<x2.1))=true then(F.R08_own_j2 a0 x2 true)else(if(0:Int)<a1 then(A.gd (Z.R64 (a1-1)) ((A.ix a0 (a1-1)).bind fun x17=>(if x2.1≤x17.1 then(F.R08_own_j2 a0 x2 true)else((F.R08_Ins x2.2.1).bind fun r25=>(if r25<0 then(F.R08_own_j2 a0 x2 true)else((F.R08_Ins x2.2.1).bind fun r28=>(F.R08_own_j2 a0 x2 (decide (((x2.2.2.1).length:Int)≠r28)))))))))else((F.R08_Ins x2.2.1).bind fun r31=>(if r31<0 then(F.R08_own_j2 a0 x2 true)else((F.R08_Ins x2.2.1).bind fun r34=>(F.R08_own_j2 a0 x2 (decide (((x2.2.2.1).length:Int)≠r34))))))))
theorem R08_own_ok (a0:D23)(a1:Int)(A0_:Option Addr)(c1_:Nat)(h2_:IntKind.i64.has a1)(r:Bool)(hF:F.R08_own a0 a1=some r):
    A.Ct Tryz.prog 108 [.agg #[.slice A0_ ((a0).length) c1_],.int .i64 a1] [(0,.sh (.slice T69) [.slice A0_ (a0).length c1_] a0)] [] (fun v H'=>v=.bool r∧H'=[]):=by
 refine A.Ct.enter Tryz.func108 rfl Tryz.ntmps108 rfl fun w0 F0=>?_
 rw[F.R08_own]at hF
 refine A.xl 1 ?_
 refine A.AL.box 1 (cs:=[.slice A0_ ((a0).length) c1_]) fun g1=>?_
 refine A.q0 [] [] [.n] [] ?_
 refine A.dl 2 ?_
 refine A.q0 [1] [] [.n,.b 0 0,.n] [(9,.slice A0_ ((a0).length) c1_),(10,.int .i64 a1)] ?_
 obtain⟨x2,hv3,hF⟩:=A.bd_some hF
 refine A.AL.ixs 0 2 hv3 fun ho4=>?_
 intro A5 c6 b7 o8
 refine A.q0 [] [2] [.e 0 0] [(12,.agg #[.int .i64 x2.1,.int .i64 x2.2.1,.slice A5 ((x2.2.2.1).length) c6,.int .i64 x2.2.2.2.1.1,.int .i64 x2.2.2.2.1.2.1,.string x2.2.2.2.1.2.2,.string x2.2.2.2.2.1,.int .i64 x2.2.2.2.2.2.1,.int .i64 x2.2.2.2.2.2.2])] ?_
 refine A.AL.alloc 4 (cs:=[.int .i64 0,.int .i64 0,.slice none 0 0,.int .i64 0,.int .i64 0,.string (ByteArray.mk #[]),.string (ByteArray.mk #[]),.int .i64 0,.int .i64 0]) Tryz.zeroValue70 fun g9=>?_
 refine A.sw 4 [] [.int .i64 x2.1,.int .i64 x2.2.1,.slice A5 ((x2.2.2.1).length) c6,.int .i64 x2.2.2.2.1.1,.int .i64 x2.2.2.2.1.2.1,.string x2.2.2.2.1.2.2,.string x2.2.2.2.2.1,.int .i64 x2.2.2.2.2.2.1,.int .i64 x2.2.2.2.2.2.2] ?_
 refine A.dx 2 ?_
 refine A.AX.join [2,5] [0,1,3,4] (fun nl nh=>∃(y10:Bool),nl=[(51,.bool y10)]∧nh=[]∧F.R08_own_j2 a0 x2 y10=some r) ?_ ?_
 ·refine A.AX.dr mixed 39 39 (A.mb 39 0) ?_
  refine A.hq A.pb [] [0,1,2,3,4] [4] [] (A.mb 39 511) 30 [(0,.n),(1,.b 0 0),(2,.n),(3,.n),(4,.sy .n),(5,.sy (.b 0 0)),(6,.sy .n),(7,.pk),(8,.n)] [(21,.bool (bif decide (x2.1<1)then true else decide ((255:Int)<x2.1)))] ?_
  refine A.AH.cnd (j:=21) rfl hF (fun hF=>?_) (fun hF=>?_)
  ·refine A.hq A.pb [0,1,2,3,4] [0,1,2,3,4] [] [] (A.mb 39 549755813887) 0 [(9,.off),(10,.off),(11,.off),(12,.off),(14,.off),(16,.off),(13,.off),(15,.off),(17,.off),(18,.off),(19,.off),(20,.off),(21,.off),(22,.off),(23,.n),(24,.n),(25,.off),(26,.off),(27,.off),(28,.off),(29,.n),(30,.n),(31,.off),(34,.off),(32,.off),(35,.off),(33,.off),(36,.off),(37,.off),(38,.n)] [(51,.bool true)] ?_
   refine A.AH.done ?_
   exact A.j ⟨true,rfl,rfl,hF⟩
  refine A.hq A.pb [0,1,2,3,4] [0,1,2,3,4] [] [] (A.mb 39 4095) 27 [(9,.on .n),(10,.on .n),(11,.on .n)] [(24,.bool (decide ((0:Int)<a1)))] ?_
  refine A.AH.cnp (j:=24) rfl hF (fun hb hF=>?_) (fun hb hF=>?_)
  ·obtain⟨hc16,hF⟩:=A.gd_some hF
   refine A.AH.q A.pb [0,1,2,3,4] [0,1,2,3,4] [4,1] [] (A.mb 39 262143) 21 [(12,.on .n),(14,.on .n),(16,.on .n),(13,.on (.b 0 0)),(15,.on (.b 1 0)),(17,.on .n)] [26,28,30] [Z.R64 (a1-1)] [(26,.int .i64 x2.1),(28,.slice A0_ ((a0).length) c1_),(30,.int .i64 (a1-1))] hc16 ?_
   obtain⟨x17,hv18,hF⟩:=A.bd_some hF
   refine A.AH.pks 0 5 hv18 fun ho19=>?_
   intro A21 c22 b23 o24 hA20
   refine A.AH.vg A.pb [0,1,2,3,4] [0,1,2,3,4,5,6] 18 (A.mb 39 524287) (dj:=24) rfl (fun a w hf hh=>A.r_ixa (t:=T69) hv18 hA20 hf) ?_
   refine A.hq A.pb [0,1,2,3,4,5,6] [0,1,2,3,4,5,6] [] [5] (A.mb 39 33554431) 14 [(19,.on .n),(20,.on (.e 0 0)),(21,.on .n),(22,.on .n),(23,.n),(24,.n)] [(37,.bool (decide (x2.1≤x17.1)))] ?_
   refine A.AH.cnp (j:=37) rfl hF (fun hb hF=>?_) (fun hb hF=>?_)
   ·refine A.hq A.pb [0,1,2,3,4,5,6] [0,1,2,3,4,5,6] [] [] (A.mb 39 549755813887) 0 [(25,.off),(26,.off),(27,.off),(28,.off),(29,.n),(30,.n),(31,.off),(34,.off),(32,.off),(35,.off),(33,.off),(36,.off),(37,.off),(38,.n)] [(51,.bool true)] ?_
    refine A.AH.done ?_
    exact A.j ⟨true,rfl,rfl,hF⟩
   refine A.hq A.pb [0,1,2,3,4,5,6] [0,1,2,3,4,5,6] [4] [] (A.mb 39 134217727) 12 [(25,.on .n),(26,.on (.b 0 1))] [(39,.int .i64 x2.2.1)] ?_
   refine A.AH.one 27 ?_
   refine A.AL.on (dj:=37) rfl rfl ?_
   obtain⟨r25,hv26,hF⟩:=A.bd_some hF
   refine A.AL.call 7 [] (first:=[]) (cap:=[]) cf130 (R08_Ins_ok x2.2.1 ho4.2.1 r25 hv26) .nil ?_
   rintro _ _ ⟨rfl,rfl,hr27⟩
   refine⟨by kernel_rfl,?_⟩
   refine A.AH.nx (A.mb 39 268435455) [0,1,2,3,4,5,6] ?_
   refine A.hq A.pb [0,1,2,3,4,5,6] [0,1,2,3,4,5,6] [] [] (A.mb 39 2147483647) 8 [(28,.on .n),(29,.n),(30,.n)] [(43,.bool (decide (r25<0)))] ?_
   refine A.AH.cnp (j:=43) rfl hF (fun hb hF=>?_) (fun hb hF=>?_)
   ·refine A.hq A.pb [0,1,2,3,4,5,6] [0,1,2,3,4,5,6] [] [] (A.mb 39 549755813887) 0 [(31,.off),(34,.off),(32,.off),(35,.off),(33,.off),(36,.off),(37,.off),(38,.n)] [(51,.bool true)] ?_
    refine A.AH.done ?_
    exact A.j ⟨true,rfl,rfl,hF⟩
   refine A.hq A.pb [0,1,2,3,4,5,6] [0,1,2,3,4,5,6] [4] [] (A.mb 39 68719476735) 3 [(31,.on .n),(34,.on .n),(32,.on (.b 0 2)),(35,.on (.b 0 1)),(33,.on .n)] [(48,.int .i64 x2.2.1),(46,.int .i64 ((x2.2.2.1).length:Int))] ?_
   refine A.AH.one 36 ?_
   refine A.AL.on (dj:=43) rfl rfl ?_
   obtain⟨r28,hv29,hF⟩:=A.bd_some hF
   refine A.AL.call 47 [] (first:=[]) (cap:=[]) cf130 (R08_Ins_ok x2.2.1 ho4.2.1 r28 hv29) .nil ?_
   rintro _ _ ⟨rfl,rfl,hr30⟩
   refine⟨by kernel_rfl,?_⟩
   refine A.AH.nx (A.mb 39 137438953471) [0,1,2,3,4,5,6] ?_
   refine A.hq A.pb [0,1,2,3,4,5,6] [0,1,2,3,4,5,6] [] [] (A.mb 39 549755813887) 0 [(37,.on .n),(38,.n)] [(51,.bool (decide (((x2.2.2.1).length:Int)≠r28)))] ?_
   refine A.AH.done ?_
   exact A.j ⟨(decide (((x2.2.2.1).length:Int)≠r28)),rfl,rfl,hF⟩
  refine A.hq A.pb [0,1,2,3,4] [0,1,2,3,4] [4] [] (A.mb 39 134217727) 12 [(12,.off),(14,.off),(16,.off),(13,.off),(15,.off),(17,.off),(18,.off),(19,.off),(20,.off),(21,.off),(22,.on .n),(23,.n),(24,.n),(25,.on .n),(26,.on (.b 0 1))] [(37,.bool false),(39,.int .i64 x2.2.1)] ?_
  refine A.AH.one 27 ?_
  refine A.AL.on (dj:=37) rfl rfl ?_
  obtain⟨r31,hv32,hF⟩:=A.bd_some hF
  refine A.AL.call 87 [] (first:=[]) (cap:=[]) cf130 (R08_Ins_ok x2.2.1 ho4.2.1 r31 hv32) .nil ?_
  rintro _ _ ⟨rfl,rfl,hr33⟩
  refine⟨by kernel_rfl,?_⟩
  refine A.AH.nx (A.mb 39 268435455) [0,1,2,3,4] ?_
  refine A.hq A.pb [0,1,2,3,4] [0,1,2,3,4] [] [] (A.mb 39 2147483647) 8 [(28,.on .n),(29,.n),(30,.n)] [(43,.bool (decide (r31<0)))] ?_
  refine A.AH.cnp (j:=43) rfl hF (fun hb hF=>?_) (fun hb hF=>?_)
  ·refine A.hq A.pb [0,1,2,3,4] [0,1,2,3,4] [] [] (A.mb 39 549755813887) 0 [(31,.off),(34,.off),(32,.off),(35,.off),(33,.off),(36,.off),(37,.off),(38,.n)] [(51,.bool true)] ?_
   refine A.AH.done ?_
   exact A.j ⟨true,rfl,rfl,hF⟩
  refine A.hq A.pb [0,1,2,3,4] [0,1,2,3,4] [4] [] (A.mb 39 68719476735) 3 [(31,.on .n),(34,.on .n),(32,.on (.b 0 2)),(35,.on (.b 0 1)),(33,.on .n)] [(48,.int .i64 x2.2.1),(46,.int .i64 ((x2.2.2.1).length:Int))] ?_
  refine A.AH.one 36 ?_
  refine A.AL.on (dj:=43) rfl rfl ?_
  obtain⟨r34,hv35,hF⟩:=A.bd_some hF
  refine A.AL.call 127 [] (first:=[]) (cap:=[]) cf130 (R08_Ins_ok x2.2.1 ho4.2.1 r34 hv35) .nil ?_
  rintro _ _ ⟨rfl,rfl,hr36⟩
  refine⟨by kernel_rfl,?_⟩
  refine A.AH.nx (A.mb 39 137438953471) [0,1,2,3,4] ?_
  refine A.hq A.pb [0,1,2,3,4] [0,1,2,3,4] [] [] (A.mb 39 549755813887) 0 [(37,.on .n),(38,.n)] [(51,.bool (decide (((x2.2.2.1).length:Int)≠r34)))] ?_
  refine A.AH.done ?_
  exact A.j ⟨(decide (((x2.2.2.1).length:Int)≠r34)),rfl,rfl,hF⟩
 rintro _ _ ⟨y10,rfl,rfl,hF⟩
 rw[F.R08_own_j2]at hF
 refine A.AX.cnb rfl hF (fun hb hF=>?_) (fun hb hF=>?_)
 ·refine A.xl 1 ?_
  refine A.q0 [] [] [.n] [(4,.bool false)] ?_
  refine A.dx 1 ?_
  obtain rfl:=Option.some.inj hF
  exact A.rt1 [] ⟨rfl,rfl⟩
 refine A.xx 2 ?_
 refine A.AX.join [2,5] [0,1,3,4] (fun nl nh=>nl=[]∧nh=[]∧F.R08_own_j1 a0 x2=some r) ?_ ?_
 ·refine A.xl 1 ?_
  refine A.q0 [4] [] [.n,.b 0 1,.n] [(54,.bool (decide (x2.2.1=14)))] ?_
  refine A.dx 1 ?_
  refine A.AX.cnd rfl hF (fun hb hF=>?_) (fun hb hF=>?_)
  ·refine A.xl 1 ?_
   refine A.q0 [4] [] [.n,.b 0 7,.n,.n,.sy .n,.sy (.b 0 7),.sy .n,.pk,.n,.sy .n,.sy (.b 0 8),.sy .n,.pk,.n,.sy .n,.sy (.b 0 8),.sy .n,.pk] [(72,.bool (bif bif bif decide (x2.2.2.2.2.2.1<1)then true else decide ((8:Int)<x2.2.2.2.2.2.1)then true else decide (x2.2.2.2.2.2.2<1)then true else decide ((4:Int)<x2.2.2.2.2.2.2)))] ?_
   refine A.dx 1 ?_
   refine A.AX.cnb rfl hF (fun hb hF=>?_) (fun hb hF=>?_)
   ·refine A.xl 1 ?_
    refine A.q0 [] [] [.n] [(4,.bool false)] ?_
    refine A.dx 1 ?_
    obtain rfl:=Option.some.inj hF
    exact A.rt1 [] ⟨rfl,rfl⟩
   refine A.xe 1 ?_
   exact A.j ⟨rfl,rfl,hF⟩
  refine A.xl 1 ?_
  refine A.q0 [4] [] [.n,.b 0 7,.n,.n,.sy .n,.sy (.b 0 8),.sy .n,.pk] [(80,.bool (bif decide (x2.2.2.2.2.2.1≠0)then true else decide (x2.2.2.2.2.2.2≠0)))] ?_
  refine A.dx 1 ?_
  refine A.AX.cnb rfl hF (fun hb hF=>?_) (fun hb hF=>?_)
  ·refine A.xl 1 ?_
   refine A.q0 [] [] [.n] [(4,.bool false)] ?_
   refine A.dx 1 ?_
   obtain rfl:=Option.some.inj hF
   exact A.rt1 [] ⟨rfl,rfl⟩
  refine A.xe 1 ?_
  exact A.j ⟨rfl,rfl,hF⟩
 rintro _ _ ⟨rfl,rfl,hF⟩
 rw[F.R08_own_j1]at hF
 refine A.xl 2 ?_
 refine A.q0 [4] [] [.n,.b 0 1,.n,.n,.sy .n,.sy (.b 0 1),.sy .n,.pk] [(88,.bool (bif decide (x2.2.1≠1)then decide (x2.2.1≠15)else false))] ?_
 refine A.dx 1 ?_
 refine A.AX.cnb rfl hF (fun hb hF=>?_) (fun hb hF=>?_)
 ·refine A.xl 1 ?_
  refine A.q0 [4] [] [.n,.b 0 6,.n,.n] [(4,.bool (decide (x2.2.2.2.2.1=(ByteArray.mk #[]))))] ?_
  refine A.dx 1 ?_
  obtain rfl:=Option.some.inj hF
  exact A.rt1 [] ⟨rfl,rfl⟩
 refine A.xl 3 ?_
 refine A.q0 [1,4] [] [.b 0 0,.n,.b 1 1,.n,.b 1 6] [(93,.agg #[.slice A0_ ((a0).length) c1_]),(95,.int .i64 x2.2.1),(97,.string x2.2.2.2.2.1)] ?_
 obtain⟨r11,hv12,hF⟩:=A.bd_some hF
 refine A.AL.call 167 [] (first:=[]) (cap:=[]) cf131 (R08_Named_ok a0 x2.2.1 x2.2.2.2.2.1 A0_ c1_ ho4.2.1 ho4.2.2.2.2.1 r11 hv12) (.s 0 .nil) ?_
 rintro _ _ ⟨rfl,rfl,hr13⟩
 refine⟨by kernel_rfl,?_⟩
 refine A.q0 [] [] [.n,.n,.n,.n,.n] [(6,.int .i64 r11.1)] ?_
 refine A.dl 2 ?_
 refine A.q0 [4] [] [.n,.b 0 6] [(102,.string x2.2.2.2.2.1)] ?_
 obtain⟨r14,hv15,hF⟩:=A.bd_some hF
 refine A.AL.call 207 [] (first:=[]) (cap:=[]) cf132 (R08_name_ok x2.2.2.2.2.1 ho4.2.2.2.2.1 r14 hv15) .nil ?_
 rintro _ _ ⟨rfl,rfl⟩
 refine⟨by kernel_rfl,?_⟩
 refine A.q0 [4] [] [.n,.sy .n,.sy .n,.sy (.b 0 0),.sy .n,.pk,.n] [(4,.bool (bif r14 then decide (r11.1=x2.1)else false))] ?_
 refine A.dx 1 ?_
 obtain rfl:=Option.some.inj hF
 exact A.rt1 [] ⟨rfl,rfl⟩
def F.R06_Uses_l1 (y3:Int):Nat→(List Int)→Int→Option (List Int)
 |0,_,_=>none
 |f+1,xs7,y8=>if y8≤y3 then(A.gd ((List.length (α:=Int) xs7+List.length (α:=Int) [y8])*8≤140737488355328) (A.gd (Z.R64 (y8+1)) ((F.R06_Uses_l1 y3 f) (xs7++[y8]) (y8+1))))else(some xs7)
def F.R06_Uses_j2 (y1:Int)(y3:Int):Option (List Int):=F.R06_Uses_l1 y3 A.FU [] y1
def F.R06_Uses (a0:Int):Option (List Int):=if a0=2 then(F.R06_Uses_j2 1 8)else(if a0=3 then(F.R06_Uses_j2 11 13)else(if a0=4 then(F.R06_Uses_j2 21 22)else(if a0=8 then(F.R06_Uses_j2 31 34)else(if a0=11 then(F.R06_Uses_j2 41 42)else(F.R06_Uses_j2 1 0)))))
theorem R06_Uses_ok (a0:Int)(h0_:IntKind.i64.has a0)(r:(List Int))(hF:F.R06_Uses a0=some r):
    A.Ct Tryz.prog 133 [.int .i64 a0] [] [] (fun v H'=>∃(A0':Option Addr) (c1':Nat),v=.slice A0' ((r).length) c1'∧H'=[(0,.own (Z.Ty.int .i64) 3 A0' c1' r)]):=by
 refine A.Ct.enter Tryz.func133 rfl Tryz.ntmps133 rfl fun w0 F0=>?_
 rw[F.R06_Uses]at hF
 refine A.xl 1 ?_
 refine A.q0 [] [] [.n] [] ?_
 refine A.dl 2 ?_
 refine A.q0 [] [] [.n,.n] [(3,.int .i64 1),(4,.int .i64 0)] ?_
 refine A.dx 1 ?_
 refine A.AX.join [] [] (fun nl nh=>∃(y1:Int),∃(y3:Int),nl=[(3,.int .i64 y1),(4,.int .i64 y3)]∧nh=[]∧IntKind.i64.has y1∧IntKind.i64.has y3∧F.R06_Uses_j2 y1 y3=some r) ?_ ?_
 ·refine A.xl 1 ?_
  refine A.q0 [] [] [.n] [(7,.int .i64 a0)] ?_
  refine A.dl 3 ?_
  refine A.q0 [] [] [.n,.n] [(8,.bool (decide (a0=2)))] ?_
  refine A.dx 1 ?_
  refine A.AX.cnd rfl hF (fun hb hF=>?_) (fun hb hF=>?_)
  ·refine A.xl 0 ?_
   refine A.q0 [] [] [.n,.n] [(3,.int .i64 1),(4,.int .i64 8)] ?_
   refine A.de 1 ?_
   exact A.j ⟨1,8,rfl,rfl,(A.hasl .i64 (1) rfl),(A.hasl .i64 (8) rfl),hF⟩
  refine A.xl 1 ?_
  refine A.q0 [] [] [.n,.n] [(10,.bool (decide (a0=3)))] ?_
  refine A.dx 1 ?_
  refine A.AX.cnd rfl hF (fun hb hF=>?_) (fun hb hF=>?_)
  ·refine A.xl 0 ?_
   refine A.q0 [] [] [.n,.n] [(3,.int .i64 11),(4,.int .i64 13)] ?_
   refine A.de 1 ?_
   exact A.j ⟨11,13,rfl,rfl,(A.hasl .i64 (11) rfl),(A.hasl .i64 (13) rfl),hF⟩
  refine A.xl 1 ?_
  refine A.q0 [] [] [.n,.n] [(12,.bool (decide (a0=4)))] ?_
  refine A.dx 1 ?_
  refine A.AX.cnd rfl hF (fun hb hF=>?_) (fun hb hF=>?_)
  ·refine A.xl 0 ?_
   refine A.q0 [] [] [.n,.n] [(3,.int .i64 21),(4,.int .i64 22)] ?_
   refine A.de 1 ?_
   exact A.j ⟨21,22,rfl,rfl,(A.hasl .i64 (21) rfl),(A.hasl .i64 (22) rfl),hF⟩
  refine A.xl 1 ?_
  refine A.q0 [] [] [.n,.n] [(14,.bool (decide (a0=8)))] ?_
  refine A.dx 1 ?_
  refine A.AX.cnd rfl hF (fun hb hF=>?_) (fun hb hF=>?_)
  ·refine A.xl 0 ?_
   refine A.q0 [] [] [.n,.n] [(3,.int .i64 31),(4,.int .i64 34)] ?_
   refine A.de 1 ?_
   exact A.j ⟨31,34,rfl,rfl,(A.hasl .i64 (31) rfl),(A.hasl .i64 (34) rfl),hF⟩
  refine A.xl 1 ?_
  refine A.q0 [] [] [.n,.n] [(16,.bool (decide (a0=11)))] ?_
  refine A.dx 1 ?_
  refine A.AX.cnd rfl hF (fun hb hF=>?_) (fun hb hF=>?_)
  ·refine A.xl 0 ?_
   refine A.q0 [] [] [.n,.n] [(3,.int .i64 41),(4,.int .i64 42)] ?_
   refine A.de 1 ?_
   exact A.j ⟨41,42,rfl,rfl,(A.hasl .i64 (41) rfl),(A.hasl .i64 (42) rfl),hF⟩
  refine A.xe 2 ?_
  exact A.j ⟨1,0,rfl,rfl,(A.hasl .i64 (1) rfl),(A.hasl .i64 (0) rfl),hF⟩
 rintro _ _ ⟨y1,y3,rfl,rfl,hy2,hy4,hF⟩
 rw[F.R06_Uses_j2]at hF
 refine A.xl 1 ?_
 refine A.q0 [] [] [.n] [(5,.slice none 0 0)] ?_
 refine A.dl 3 ?_
 refine A.q0 [] [] [.n,.n] [(6,.int .i64 y1)] ?_
 refine A.dx 2 ?_
 refine A.nil 3 (Z.Ty.int .i64) 3 ?_
 refine A.lp_ [4] [] (fun f nl nh=>∃(xs7:List Int),∃(y8:Int),∃(A5:Option Addr),∃(c6:Nat),nl=[(5,.slice A5 ((xs7).length) c6),(6,.int .i64 y8)]∧nh=[(3,.own (Z.Ty.int .i64) 3 A5 c6 xs7)]∧IntKind.i64.has y8∧F.R06_Uses_l1 y3 f xs7 y8=some r) ⟨[],y1,none,0,rfl,rfl,hy2,hF⟩ ?_
 rintro f10 _ _ ⟨xs7,y8,A5,c6,rfl,rfl,hy9,hF⟩
 rcases f10 with _|f10
 ·exact A.no0 hF
 rw[F.R06_Uses_l1]at hF
 refine A.xl 2 ?_
 refine A.q0 [] [] [.n,.n,.n] [(21,.bool (decide (y8≤y3)))] ?_
 refine A.dx 1 ?_
 refine A.AX.cnd rfl hF (fun hb hF=>?_) (fun hb hF=>?_)
 ·refine A.xl 4 ?_
  refine A.q0 [] [] [.n,.n] [(24,.slice A5 ((xs7).length) c6),(25,.int .i64 y8)] ?_
  refine A.AL.bsl 6 (ty:=(Z.Ty.int .i64)) (cs:=[.int .i64 y8]) [y8] ⟨⟨rfl,hy9⟩,rfl⟩ (fun g11=>?_) Tryz.zeroValue3 Tryz.sizeOf3
  obtain⟨hl14,hF⟩:=A.gd_some hF
  refine A.AL.app (k:=3) [] (A.rowO (k:=6) rfl) inf3 hl14 fun A12 c13=>?_
  refine A.q0 [] [] [.n] [(5,.slice A12 ((xs7++[y8]).length) c13)] ?_
  refine A.dl 2 ?_
  obtain⟨hc15,hF⟩:=A.gd_some hF
  refine A.q [] [] [.n,.n,.n] [Z.R64 (y8+1)] [(6,.int .i64 (y8+1))] hc15 ?_
  refine A.AL.done ?_
  exact A.j ⟨_,Nat.lt_succ_self _,⟨(xs7++[y8]),(y8+1),A12,c13,rfl,rfl,(Z.i64_has hc15),hF⟩⟩
 refine A.xl 3 ?_
 refine A.q0 [] [] [.n,.n] [(2,.slice A5 ((xs7).length) c6)] ?_
 refine A.dx 1 ?_
 obtain rfl:=Option.some.inj hF
 exact A.rt1 [(0,3)] ⟨A5,c6,rfl,rfl⟩
def F.R06_number_j1 (a0:D67)(y3:Bool):Option Bool:=if y3=true then(some (bif decide ((1:Int)≤a0.2.1)then decide (a0.2.1≤1048576)else false))else(some (decide (a0.2.1=0)))
def F.R06_number_j2 (a0:D67)(y2:Bool):Option Bool:=if y2=true then(some (bif decide ((0:Int)≤a0.2.1)then decide (a0.2.1≤64)else false))else(if a0.1=6 then(F.R06_number_j1 a0 (decide (a0.1=6)))else(F.R06_number_j1 a0 (decide (a0.1=11))))
def F.R06_number (a0:D67):Option Bool:=if a0.1=3 then(F.R06_number_j2 a0 (decide (a0.1=3)))else(F.R06_number_j2 a0 (decide (a0.1=13)))
theorem R06_number_ok (a0:D67)(h0_:IntKind.i64.has a0.1)(h1_:IntKind.i64.has a0.2.1)(h2_:a0.2.2.size≤maxLen)(r:Bool)(hF:F.R06_number a0=some r):
    A.Ct Tryz.prog 134 [.agg #[.int .i64 a0.1,.int .i64 a0.2.1,.string a0.2.2]] [] [] (fun v H'=>v=.bool r∧H'=[]):=by
 refine A.Ct.enter Tryz.func134 rfl Tryz.ntmps134 rfl fun w0 F0=>?_
 rw[F.R06_number]at hF
 refine A.xl 1 ?_
 refine A.AL.box 0 (cs:=[.int .i64 a0.1,.int .i64 a0.2.1,.string a0.2.2]) fun g1=>?_
 refine A.q0 [] [] [.n] [] ?_
 refine A.dl 2 ?_
 refine A.q0 [0] [] [.n,.b 0 0] [(4,.int .i64 a0.1)] ?_
 refine A.dx 2 ?_
 refine A.AX.join [1,4] [0] (fun nl nh=>∃(y2:Bool),nl=[(8,.bool y2)]∧nh=[]∧F.R06_number_j2 a0 y2=some r) ?_ ?_
 ·refine A.xl 1 ?_
  refine A.q0 [] [] [.n,.n] [(8,.bool (decide (a0.1=3)))] ?_
  refine A.dx 1 ?_
  refine A.AX.cnd rfl hF (fun hb hF=>?_) (fun hb hF=>?_)
  ·refine A.xe 1 ?_
   exact A.j ⟨(decide (a0.1=3)),rfl,rfl,hF⟩
  refine A.xl 0 ?_
  refine A.q0 [] [] [.n,.n] [(8,.bool (decide (a0.1=13)))] ?_
  refine A.AL.done ?_
  exact A.j ⟨(decide (a0.1=13)),rfl,rfl,hF⟩
 rintro _ _ ⟨y2,rfl,rfl,hF⟩
 rw[F.R06_number_j2]at hF
 refine A.AX.cnb rfl hF (fun hb hF=>?_) (fun hb hF=>?_)
 ·refine A.xl 1 ?_
  refine A.q0 [0] [] [.n,.b 0 1,.n,.n,.sy .n,.sy (.b 0 1),.sy .n,.pk,.n] [(2,.bool (bif decide ((0:Int)≤a0.2.1)then decide (a0.2.1≤64)else false))] ?_
  refine A.dx 1 ?_
  obtain rfl:=Option.some.inj hF
  exact A.rt1 [] ⟨rfl,rfl⟩
 refine A.AX.join [1] [0] (fun nl nh=>∃(y3:Bool),nl=[(19,.bool y3)]∧nh=[]∧F.R06_number_j1 a0 y3=some r) ?_ ?_
 ·refine A.xl 1 ?_
  refine A.q0 [] [] [.n,.n] [(19,.bool (decide (a0.1=6)))] ?_
  refine A.dx 1 ?_
  refine A.AX.cnd rfl hF (fun hb hF=>?_) (fun hb hF=>?_)
  ·refine A.xe 1 ?_
   exact A.j ⟨(decide (a0.1=6)),rfl,rfl,hF⟩
  refine A.xl 0 ?_
  refine A.q0 [] [] [.n,.n] [(19,.bool (decide (a0.1=11)))] ?_
  refine A.AL.done ?_
  exact A.j ⟨(decide (a0.1=11)),rfl,rfl,hF⟩
 rintro _ _ ⟨y3,rfl,rfl,hF⟩
 rw[F.R06_number_j1]at hF
 refine A.AX.cnb rfl hF (fun hb hF=>?_) (fun hb hF=>?_)
 ·refine A.xl 1 ?_
  refine A.q0 [0] [] [.n,.b 0 1,.n,.n,.sy .n,.sy (.b 0 1),.sy .n,.pk,.n] [(2,.bool (bif decide ((1:Int)≤a0.2.1)then decide (a0.2.1≤1048576)else false))] ?_
  refine A.dx 1 ?_
  obtain rfl:=Option.some.inj hF
  exact A.rt1 [] ⟨rfl,rfl⟩
 refine A.xl 1 ?_
 refine A.q0 [0] [] [.n,.b 0 1,.n,.n] [(2,.bool (decide (a0.2.1=0)))] ?_
 refine A.dx 1 ?_
 obtain rfl:=Option.some.inj hF
 exact A.rt1 [] ⟨rfl,rfl⟩
def F.R05_tail (a0:UInt8):Option Bool:=some (bif decide ((128:Int)≤(a0.toNat:Int))then decide ((a0.toNat:Int)≤191)else false)
theorem R05_tail_ok (a0:UInt8)(r:Bool)(hF:F.R05_tail a0=some r):
    A.Ct Tryz.prog 161 [.int .u8 (a0.toNat:Int)] [] [] (fun v H'=>v=.bool r∧H'=[]):=by
 refine A.Ct.enter Tryz.func161 rfl Tryz.ntmps161 rfl fun w0 F0=>?_
 rw[F.R05_tail]at hF
 refine A.xl 1 ?_
 refine A.q0 [] [] [.n] [] ?_
 refine A.dl 2 ?_
 refine A.q0 [] [] [.n,.n,.n,.sy .n,.sy .n,.pk,.n] [(2,.bool (bif decide ((128:Int)≤(a0.toNat:Int))then decide ((a0.toNat:Int)≤191)else false))] ?_
 refine A.dx 1 ?_
 obtain rfl:=Option.some.inj hF
 exact A.rt1 [] ⟨rfl,rfl⟩
end Go.Proofs.YtocfaokgoflmhaaGreatDoor
end
section
set_option linter.unusedVariables false
set_option linter.unusedSimpArgs false
set_option maxRecDepth 20000
set_option maxHeartbeats 8000000
set_option synthInstance.maxSize 1000000
set_option synthInstance.maxHeartbeats 400000
namespace Go.Proofs.YtocfaokgoflmhaaGreatDoor
open Go.RowKit
def F.R05_width_j1 (x2:UInt8)(y4:UInt8)(y7:Bool):Option Int:=if y7=true then(if(bif decide ((x2.toNat:Int)=240)then decide ((y4.toNat:Int)<144)else false)=true then(some 0)else(if(bif decide ((x2.toNat:Int)=244)then decide ((143:Int)<(y4.toNat:Int))else false)=true then(some 0)else(some 4)))else(some 0)
def F.R05_width_j2 (a0:ByteArray)(a1:Int)(x2:UInt8)(y4:UInt8)(y6:Bool):Option Int:=if y6=true then(if(bif decide ((x2.toNat:Int)=224)then decide ((y4.toNat:Int)<160)else false)=true then(some 0)else(if(bif decide ((x2.toNat:Int)=237)then decide ((159:Int)<(y4.toNat:Int))else false)=true then(some 0)else(some 3)))else(if(bif bif decide ((240:Int)≤(x2.toNat:Int))then decide ((x2.toNat:Int)≤244)else false then decide ((4:Int)≤(a0.size:Int)-a1)else false)=true then((F.R05_tail y4).bind fun r8=>(if r8=true then(A.gd (Z.R64 (a1+2)) ((A.ix a0.data.toList (a1+2)).bind fun x11=>((F.R05_tail x11).bind fun r13=>(if r13=true then(A.gd (Z.R64 (a1+3)) ((A.ix a0.data.toList (a1+3)).bind fun x16=>((F.R05_tail x16).bind fun r18=>(F.R05_width_j1 x2 y4 r18))))else(F.R05_width_j1 x2 y4 false)))))else(F.R05_width_j1 x2 y4 false)))else(F.R05_width_j1 x2 y4 false))
def F.R05_width_j3 (a0:ByteArray)(a1:Int)(x2:UInt8)(y4:UInt8)(y5:Bool):Option Int:=if y5=true then(some 2)else(if(bif bif decide ((224:Int)≤(x2.toNat:Int))then decide ((x2.toNat:Int)≤239)else false then decide ((3:Int)≤(a0.size:Int)-a1)else false)=true then((F.R05_tail y4).bind fun r20=>(if r20=true then(A.gd (Z.R64 (a1+2)) ((A.ix a0.data.toList (a1+2)).bind fun x23=>((F.R05_tail x23).bind fun r25=>(F.R05_width_j2 a0 a1 x2 y4 r25))))else(F.R05_width_j2 a0 a1 x2 y4 false)))else(F.R05_width_j2 a0 a1 x2 y4 false))
def F.R05_width_j4 (a0:ByteArray)(a1:Int)(x2:UInt8)(y4:UInt8):Option Int:=if(x2.toNat:Int)<128 then(some 1)else(if(bif bif decide ((194:Int)≤(x2.toNat:Int))then decide ((x2.toNat:Int)≤223)else false then decide ((2:Int)≤(a0.size:Int)-a1)else false)=true then((F.R05_tail y4).bind fun r27=>(F.R05_width_j3 a0 a1 x2 y4 r27))else(F.R05_width_j3 a0 a1 x2 y4 false))
def F.R05_width (a0:ByteArray)(a1:Int):Option Int:=A.gd (Z.R64 ((a0.size:Int)-a1)) ((A.ix a0.data.toList a1).bind fun x2=>(if(1:Int)<(a0.size:Int)-a1 then(A.gd (Z.R64 (a1+1)) ((A.ix a0.data.toList (a1+1)).bind fun x30=>(F.R05_width_j4 a0 a1 x2 x30)))else(F.R05_width_j4 a0 a1 x2 (0:UInt8))))
theorem R05_width_ok (a0:ByteArray)(a1:Int)(h0_:a0.size≤maxLen)(h1_:IntKind.i64.has a1)(r:Int)(hF:F.R05_width a0 a1=some r):
    A.Ct Tryz.prog 159 [.string a0,.int .i64 a1] [] [] (fun v H'=>v=.int .i64 r∧H'=[]∧IntKind.i64.has r):=by
 refine A.Ct.enter Tryz.func159 rfl Tryz.ntmps159 rfl fun w0 F0=>?_
 rw[F.R05_width]at hF
 refine A.xl 1 ?_
 refine A.q0 [] [] [.n] [] ?_
 refine A.dl 2 ?_
 obtain⟨hc1,hF⟩:=A.gd_some hF
 refine A.q [] [] [.n,.n,.n,.n,.n] [Z.R64 ((a0.size:Int)-a1)] [(5,.int .i64 ((a0.size:Int)-a1))] hc1 ?_
 refine A.dl 2 ?_
 refine A.q0 [] [] [.n,.n] [(12,.string a0),(13,.int .i64 a1)] ?_
 obtain⟨x2,hv3,hF⟩:=A.bd_some hF
 refine A.AL.ixt hv3 ?_
 refine A.q0 [] [] [.n] [(6,.int .u8 (x2.toNat:Int))] ?_
 refine A.dl 2 ?_
 refine A.q0 [] [] [.n] [(7,.int .u8 0)] ?_
 refine A.dx 1 ?_
 refine A.AX.join [0,1,5,6] [] (fun nl nh=>∃(y4:UInt8),nl=[(7,.int .u8 (y4.toNat:Int))]∧nh=[]∧F.R05_width_j4 a0 a1 x2 y4=some r) ?_ ?_
 ·refine A.xl 1 ?_
  refine A.q0 [] [] [.n,.n] [(16,.bool (decide ((1:Int)<(a0.size:Int)-a1)))] ?_
  refine A.dx 1 ?_
  refine A.AX.cnd rfl hF (fun hb hF=>?_) (fun hb hF=>?_)
  ·refine A.xl 0 ?_
   obtain⟨hc29,hF⟩:=A.gd_some hF
   refine A.q [] [] [.n,.n,.n] [Z.R64 (a1+1)] [(17,.string a0),(19,.int .i64 (a1+1))] hc29 ?_
   obtain⟨x30,hv31,hF⟩:=A.bd_some hF
   refine A.AL.ixt hv31 ?_
   refine A.q0 [] [] [.n] [(7,.int .u8 (x30.toNat:Int))] ?_
   refine A.AL.done ?_
   exact A.j ⟨x30,rfl,rfl,hF⟩
  refine A.xe 1 ?_
  exact A.j ⟨(0:UInt8),rfl,rfl,hF⟩
 rintro _ _ ⟨y4,rfl,rfl,hF⟩
 rw[F.R05_width_j4]at hF
 refine A.xl 2 ?_
 refine A.q0 [] [] [.n,.n,.n] [(21,.bool (decide ((x2.toNat:Int)<128)))] ?_
 refine A.dx 1 ?_
 refine A.AX.cnd rfl hF (fun hb hF=>?_) (fun hb hF=>?_)
 ·refine A.xl 1 ?_
  refine A.q0 [] [] [.n] [(4,.int .i64 1)] ?_
  refine A.dx 1 ?_
  obtain rfl:=Option.some.inj hF
  exact A.rt1 [] ⟨rfl,rfl,(A.hasl .i64 (1) rfl)⟩
 refine A.AX.join [0,1,5,6,7] [] (fun nl nh=>∃(y5:Bool),nl=[(24,.bool y5)]∧nh=[]∧F.R05_width_j3 a0 a1 x2 y4 y5=some r) ?_ ?_
 ·refine A.xl 0 ?_
  refine A.q0 [] [] [.n,.n,.n,.sy .n,.sy .n,.pk,.n,.sy .n,.sy .n,.pk,.n] [(35,.bool (bif bif decide ((194:Int)≤(x2.toNat:Int))then decide ((x2.toNat:Int)≤223)else false then decide ((2:Int)≤(a0.size:Int)-a1)else false))] ?_
  refine A.AL.cnd (j:=35) rfl hF (fun hF=>?_) (fun hF=>?_)
  ·refine A.q0 [] [] [.on .n] [(36,.int .u8 (y4.toNat:Int))] ?_
   refine A.AL.on (dj:=35) rfl rfl ?_
   obtain⟨r27,hv28,hF⟩:=A.bd_some hF
   refine A.AL.call 0 [] (first:=[]) (cap:=[]) cf161 (R05_tail_ok y4 r27 hv28) .nil ?_
   rintro _ _ ⟨rfl,rfl⟩
   refine⟨by kernel_rfl,?_⟩
   refine A.q0 [] [] [.n,.n] [(24,.bool r27)] ?_
   refine A.AL.done ?_
   exact A.j ⟨r27,rfl,rfl,hF⟩
  refine A.q0 [] [] [.off,.off,.n,.n] [(24,.bool false)] ?_
  refine A.AL.done ?_
  exact A.j ⟨false,rfl,rfl,hF⟩
 rintro _ _ ⟨y5,rfl,rfl,hF⟩
 rw[F.R05_width_j3]at hF
 refine A.AX.cnb rfl hF (fun hb hF=>?_) (fun hb hF=>?_)
 ·refine A.xl 1 ?_
  refine A.q0 [] [] [.n] [(4,.int .i64 2)] ?_
  refine A.dx 1 ?_
  obtain rfl:=Option.some.inj hF
  exact A.rt1 [] ⟨rfl,rfl,(A.hasl .i64 (2) rfl)⟩
 refine A.AX.join [0,1,5,6,7] [] (fun nl nh=>∃(y6:Bool),nl=[(39,.bool y6)]∧nh=[]∧F.R05_width_j2 a0 a1 x2 y4 y6=some r) ?_ ?_
 ·refine A.xl 0 ?_
  refine A.q0 [] [] [.n,.n,.n,.sy .n,.sy .n,.pk,.n,.sy .n,.sy .n,.pk,.n] [(50,.bool (bif bif decide ((224:Int)≤(x2.toNat:Int))then decide ((x2.toNat:Int)≤239)else false then decide ((3:Int)≤(a0.size:Int)-a1)else false))] ?_
  refine A.AL.cnd (j:=50) rfl hF (fun hF=>?_) (fun hF=>?_)
  ·refine A.q0 [] [] [.on .n] [(51,.int .u8 (y4.toNat:Int))] ?_
   refine A.AL.on (dj:=50) rfl rfl ?_
   obtain⟨r20,hv21,hF⟩:=A.bd_some hF
   refine A.AL.call 40 [] (first:=[]) (cap:=[]) cf161 (R05_tail_ok y4 r20 hv21) .nil ?_
   rintro _ _ ⟨rfl,rfl⟩
   refine⟨by kernel_rfl,?_⟩
   refine A.q0 [] [] [.n,.n] [(54,.bool r20)] ?_
   refine A.AL.cnd (j:=54) rfl hF (fun hF=>?_) (fun hF=>?_)
   ·obtain⟨hc22,hF⟩:=A.gd_some hF
    refine A.q [] [] [.on .n,.on .n,.on .n] [Z.R64 (a1+2)] [(55,.string a0),(57,.int .i64 (a1+2))] hc22 ?_
    refine A.AL.on (dj:=54) rfl rfl ?_
    obtain⟨x23,hv24,hF⟩:=A.bd_some hF
    refine A.AL.ixt hv24 ?_
    refine A.AL.on (dj:=54) rfl rfl ?_
    obtain⟨r25,hv26,hF⟩:=A.bd_some hF
    refine A.AL.call 80 [] (first:=[]) (cap:=[]) cf161 (R05_tail_ok x23 r25 hv26) .nil ?_
    rintro _ _ ⟨rfl,rfl⟩
    refine⟨by kernel_rfl,?_⟩
    refine A.q0 [] [] [.n,.n] [(39,.bool r25)] ?_
    refine A.AL.done ?_
    exact A.j ⟨r25,rfl,rfl,hF⟩
   refine A.q0 [] [] [.off,.off,.off,.off,.off,.n,.n] [(39,.bool false)] ?_
   refine A.AL.done ?_
   exact A.j ⟨false,rfl,rfl,hF⟩
  refine A.q0 [] [] [.off,.off,.n,.n,.off,.off,.off,.off,.off,.n,.n] [(39,.bool false)] ?_
  refine A.AL.done ?_
  exact A.j ⟨false,rfl,rfl,hF⟩
 rintro _ _ ⟨y6,rfl,rfl,hF⟩
 rw[F.R05_width_j2]at hF
 refine A.AX.cnb rfl hF (fun hb hF=>?_) (fun hb hF=>?_)
 ·refine A.xl 2 ?_
  refine A.q0 [] [] [.n,.n,.n,.sy .n,.sy .n,.pk,.n] [(67,.bool (bif decide ((x2.toNat:Int)=224)then decide ((y4.toNat:Int)<160)else false))] ?_
  refine A.AL.cnd (j:=67) rfl hF (fun hF=>?_) (fun hF=>?_)
  ·refine A.q0 [] [] [.off,.off,.off,.off,.off,.off,.n] [(74,.bool true)] ?_
   refine A.dx 1 ?_
   refine A.AX.cnt rfl ?_
   refine A.xl 1 ?_
   refine A.q0 [] [] [.n] [(4,.int .i64 0)] ?_
   refine A.dx 1 ?_
   obtain rfl:=Option.some.inj hF
   exact A.rt1 [] ⟨rfl,rfl,(A.hasl .i64 (0) rfl)⟩
  refine A.q0 [] [] [.on .n,.on .n,.on .n,.sy .n,.sy .n,.on .pk,.n] [(74,.bool (bif decide ((x2.toNat:Int)=237)then decide ((159:Int)<(y4.toNat:Int))else false))] ?_
  refine A.dx 1 ?_
  refine A.AX.cnb rfl hF (fun hb hF=>?_) (fun hb hF=>?_)
  ·refine A.xl 1 ?_
   refine A.q0 [] [] [.n] [(4,.int .i64 0)] ?_
   refine A.dx 1 ?_
   obtain rfl:=Option.some.inj hF
   exact A.rt1 [] ⟨rfl,rfl,(A.hasl .i64 (0) rfl)⟩
  refine A.xl 3 ?_
  refine A.q0 [] [] [.n] [(4,.int .i64 3)] ?_
  refine A.dx 1 ?_
  obtain rfl:=Option.some.inj hF
  exact A.rt1 [] ⟨rfl,rfl,(A.hasl .i64 (3) rfl)⟩
 refine A.AX.join [6,7] [] (fun nl nh=>∃(y7:Bool),nl=[(75,.bool y7)]∧nh=[]∧F.R05_width_j1 x2 y4 y7=some r) ?_ ?_
 ·refine A.xl 0 ?_
  refine A.q0 [] [] [.n,.n,.n,.sy .n,.sy .n,.pk,.n,.sy .n,.sy .n,.pk,.n] [(86,.bool (bif bif decide ((240:Int)≤(x2.toNat:Int))then decide ((x2.toNat:Int)≤244)else false then decide ((4:Int)≤(a0.size:Int)-a1)else false))] ?_
  refine A.AL.cnd (j:=86) rfl hF (fun hF=>?_) (fun hF=>?_)
  ·refine A.q0 [] [] [.on .n] [(87,.int .u8 (y4.toNat:Int))] ?_
   refine A.AL.on (dj:=86) rfl rfl ?_
   obtain⟨r8,hv9,hF⟩:=A.bd_some hF
   refine A.AL.call 120 [] (first:=[]) (cap:=[]) cf161 (R05_tail_ok y4 r8 hv9) .nil ?_
   rintro _ _ ⟨rfl,rfl⟩
   refine⟨by kernel_rfl,?_⟩
   refine A.q0 [] [] [.n,.n] [(90,.bool r8)] ?_
   refine A.AL.cnd (j:=90) rfl hF (fun hF=>?_) (fun hF=>?_)
   ·obtain⟨hc10,hF⟩:=A.gd_some hF
    refine A.q [] [] [.on .n,.on .n,.on .n] [Z.R64 (a1+2)] [(91,.string a0),(93,.int .i64 (a1+2))] hc10 ?_
    refine A.AL.on (dj:=90) rfl rfl ?_
    obtain⟨x11,hv12,hF⟩:=A.bd_some hF
    refine A.AL.ixt hv12 ?_
    refine A.AL.on (dj:=90) rfl rfl ?_
    obtain⟨r13,hv14,hF⟩:=A.bd_some hF
    refine A.AL.call 160 [] (first:=[]) (cap:=[]) cf161 (R05_tail_ok x11 r13 hv14) .nil ?_
    rintro _ _ ⟨rfl,rfl⟩
    refine⟨by kernel_rfl,?_⟩
    refine A.q0 [] [] [.n,.n] [(97,.bool r13)] ?_
    refine A.AL.cnd (j:=97) rfl hF (fun hF=>?_) (fun hF=>?_)
    ·obtain⟨hc15,hF⟩:=A.gd_some hF
     refine A.q [] [] [.on .n,.on .n,.on .n] [Z.R64 (a1+3)] [(98,.string a0),(100,.int .i64 (a1+3))] hc15 ?_
     refine A.AL.on (dj:=97) rfl rfl ?_
     obtain⟨x16,hv17,hF⟩:=A.bd_some hF
     refine A.AL.ixt hv17 ?_
     refine A.AL.on (dj:=97) rfl rfl ?_
     obtain⟨r18,hv19,hF⟩:=A.bd_some hF
     refine A.AL.call 200 [] (first:=[]) (cap:=[]) cf161 (R05_tail_ok x16 r18 hv19) .nil ?_
     rintro _ _ ⟨rfl,rfl⟩
     refine⟨by kernel_rfl,?_⟩
     refine A.q0 [] [] [.n,.n] [(75,.bool r18)] ?_
     refine A.AL.done ?_
     exact A.j ⟨r18,rfl,rfl,hF⟩
    refine A.q0 [] [] [.off,.off,.off,.off,.off,.n,.n] [(75,.bool false)] ?_
    refine A.AL.done ?_
    exact A.j ⟨false,rfl,rfl,hF⟩
   refine A.q0 [] [] [.off,.off,.off,.off,.off,.n,.n,.off,.off,.off,.off,.off,.n,.n] [(75,.bool false)] ?_
   refine A.AL.done ?_
   exact A.j ⟨false,rfl,rfl,hF⟩
  refine A.q0 [] [] [.off,.off,.n,.n,.off,.off,.off,.off,.off,.n,.n,.off,.off,.off,.off,.off,.n,.n] [(75,.bool false)] ?_
  refine A.AL.done ?_
  exact A.j ⟨false,rfl,rfl,hF⟩
 rintro _ _ ⟨y7,rfl,rfl,hF⟩
 rw[F.R05_width_j1]at hF
 refine A.AX.cnb rfl hF (fun hb hF=>?_) (fun hb hF=>?_)
 ·refine A.xl 2 ?_
  refine A.q0 [] [] [.n,.n,.n,.sy .n,.sy .n,.pk,.n] [(110,.bool (bif decide ((x2.toNat:Int)=240)then decide ((y4.toNat:Int)<144)else false))] ?_
  refine A.AL.cnd (j:=110) rfl hF (fun hF=>?_) (fun hF=>?_)
  ·refine A.q0 [] [] [.off,.off,.off,.off,.off,.off,.n] [(117,.bool true)] ?_
   refine A.dx 1 ?_
   refine A.AX.cnt rfl ?_
   refine A.xl 1 ?_
   refine A.q0 [] [] [.n] [(4,.int .i64 0)] ?_
   refine A.dx 1 ?_
   obtain rfl:=Option.some.inj hF
   exact A.rt1 [] ⟨rfl,rfl,(A.hasl .i64 (0) rfl)⟩
  refine A.q0 [] [] [.on .n,.on .n,.on .n,.sy .n,.sy .n,.on .pk,.n] [(117,.bool (bif decide ((x2.toNat:Int)=244)then decide ((143:Int)<(y4.toNat:Int))else false))] ?_
  refine A.dx 1 ?_
  refine A.AX.cnb rfl hF (fun hb hF=>?_) (fun hb hF=>?_)
  ·refine A.xl 1 ?_
   refine A.q0 [] [] [.n] [(4,.int .i64 0)] ?_
   refine A.dx 1 ?_
   obtain rfl:=Option.some.inj hF
   exact A.rt1 [] ⟨rfl,rfl,(A.hasl .i64 (0) rfl)⟩
  refine A.xl 3 ?_
  refine A.q0 [] [] [.n] [(4,.int .i64 4)] ?_
  refine A.dx 1 ?_
  obtain rfl:=Option.some.inj hF
  exact A.rt1 [] ⟨rfl,rfl,(A.hasl .i64 (4) rfl)⟩
 refine A.xl 1 ?_
 refine A.q0 [] [] [.n] [(4,.int .i64 0)] ?_
 refine A.dx 1 ?_
 obtain rfl:=Option.some.inj hF
 exact A.rt1 [] ⟨rfl,rfl,(A.hasl .i64 (0) rfl)⟩
def F.R05_Valid_l1 (a0:ByteArray):Nat→Int→Option Bool
 |0,_=>none
 |f+1,y1=>if y1<(a0.size:Int)then((F.R05_width a0 y1).bind fun r4=>(if r4=0 then(some false)else(A.gd (Z.R64 (y1+r4)) ((F.R05_Valid_l1 a0 f) (y1+r4)))))else(some true)
def F.R05_Valid (a0:ByteArray):Option Bool:=F.R05_Valid_l1 a0 A.FU 0
theorem R05_Valid_ok (a0:ByteArray)(h0_:a0.size≤maxLen)(r:Bool)(hF:F.R05_Valid a0=some r):
    A.Ct Tryz.prog 150 [.string a0] [] [] (fun v H'=>v=.bool r∧H'=[]):=by
 refine A.Ct.enter Tryz.func150 rfl Tryz.ntmps150 rfl fun w0 F0=>?_
 rw[F.R05_Valid]at hF
 refine A.xl 1 ?_
 refine A.q0 [] [] [.n] [] ?_
 refine A.dl 3 ?_
 refine A.q0 [] [] [.n] [(3,.int .i64 0)] ?_
 refine A.dx 2 ?_
 refine A.lp_ [0] [] (fun f nl nh=>∃(y1:Int),nl=[(3,.int .i64 y1)]∧nh=[]∧IntKind.i64.has y1∧F.R05_Valid_l1 a0 f y1=some r) ⟨0,rfl,rfl,(A.hasl .i64 (0) rfl),hF⟩ ?_
 rintro f3 _ _ ⟨y1,rfl,rfl,hy2,hF⟩
 rcases f3 with _|f3
 ·exact A.no0 hF
 rw[F.R05_Valid_l1]at hF
 refine A.xl 2 ?_
 refine A.q0 [] [] [.n,.n,.n,.n] [(8,.bool (decide (y1<(a0.size:Int))))] ?_
 refine A.dx 1 ?_
 refine A.AX.cnd rfl hF (fun hb hF=>?_) (fun hb hF=>?_)
 ·refine A.xl 4 ?_
  refine A.q0 [] [] [.n,.n] [(9,.string a0),(10,.int .i64 y1)] ?_
  obtain⟨r4,hv5,hF⟩:=A.bd_some hF
  refine A.AL.call 80 [] (first:=[]) (cap:=[]) cf159 (R05_width_ok a0 y1 h0_ hy2 r4 hv5) .nil ?_
  rintro _ _ ⟨rfl,rfl,hr6⟩
  refine⟨by kernel_rfl,?_⟩
  refine A.q0 [] [] [.n] [(4,.int .i64 r4)] ?_
  refine A.dl 3 ?_
  refine A.q0 [] [] [.n,.n] [(13,.bool (decide (r4=0)))] ?_
  refine A.dx 1 ?_
  refine A.AX.cnd rfl hF (fun hb hF=>?_) (fun hb hF=>?_)
  ·refine A.xl 1 ?_
   refine A.q0 [] [] [.n] [(2,.bool false)] ?_
   refine A.dx 1 ?_
   obtain rfl:=Option.some.inj hF
   exact A.rt1 [] ⟨rfl,rfl⟩
  refine A.xl 2 ?_
  obtain⟨hc7,hF⟩:=A.gd_some hF
  refine A.q [] [] [.n,.n,.n,.n] [Z.R64 (y1+r4)] [(3,.int .i64 (y1+r4))] hc7 ?_
  refine A.de 1 ?_
  exact A.j ⟨_,Nat.lt_succ_self _,⟨(y1+r4),rfl,rfl,(Z.i64_has hc7),hF⟩⟩
 refine A.xl 3 ?_
 refine A.q0 [] [] [.n] [(2,.bool true)] ?_
 refine A.dx 1 ?_
 obtain rfl:=Option.some.inj hF
 exact A.rt1 [] ⟨rfl,rfl⟩
def F.R05_Runes_j1 (k1:(List D198)→Int→Option (List D198))(xs3:List D198)(y4:Int)(y10:Int)(y12:Int):Option (List D198):=A.gd ((List.length (α:=D198) xs3+List.length (α:=D198) [(y4,y12)])*16≤140737488355328) (A.gd (Z.R64 (y4+y10)) (k1 (xs3++[(y4,y12)]) (y4+y10)))
def F.R05_Runes_l2 (a0:ByteArray):Nat→(List D198)→Int→Option (List D198)
 |0,_,_=>none
 |f+1,xs3,y4=>if y4<(a0.size:Int)then((F.R05_width a0 y4).bind fun r7=>(if r7=1 then((A.ix a0.data.toList y4).bind fun x19=>(F.R05_Runes_j1 (F.R05_Runes_l2 a0 f) xs3 y4 r7 (IntKind.i32.wrap ((x19.toNat:Int)))))else(if r7=2 then(A.gd (Z.R64 (y4+1)) ((A.ix a0.data.toList y4).bind fun x22=>(A.gd ((32:Int)≠0) ((A.ix a0.data.toList (y4+1)).bind fun x25=>(A.gd ((64:Int)≠0) (F.R05_Runes_j1 (F.R05_Runes_l2 a0 f) xs3 y4 r7 (IntKind.i32.wrap ((IntKind.i32.wrap ((IntKind.i32.wrap (Int.tmod (x22.toNat:Int) 32))*64))+(IntKind.i32.wrap (Int.tmod (x25.toNat:Int) 64))))))))))else(if r7=3 then(A.gd (Z.R64 (y4+1)∧Z.R64 (y4+2)) ((A.ix a0.data.toList y4).bind fun x29=>(A.gd ((16:Int)≠0) ((A.ix a0.data.toList (y4+1)).bind fun x32=>(A.gd ((64:Int)≠0) ((A.ix a0.data.toList (y4+2)).bind fun x35=>(A.gd ((64:Int)≠0) (F.R05_Runes_j1 (F.R05_Runes_l2 a0 f) xs3 y4 r7 (IntKind.i32.wrap ((IntKind.i32.wrap ((IntKind.i32.wrap ((IntKind.i32.wrap ((IntKind.i32.wrap (Int.tmod (x29.toNat:Int) 16))*64))+(IntKind.i32.wrap (Int.tmod (x32.toNat:Int) 64))))*64))+(IntKind.i32.wrap (Int.tmod (x35.toNat:Int) 64))))))))))))else(if r7=4 then(A.gd (Z.R64 (y4+1)∧Z.R64 (y4+2)∧Z.R64 (y4+3)) ((A.ix a0.data.toList y4).bind fun x39=>(A.gd ((8:Int)≠0) ((A.ix a0.data.toList (y4+1)).bind fun x42=>(A.gd ((64:Int)≠0) ((A.ix a0.data.toList (y4+2)).bind fun x45=>(A.gd ((64:Int)≠0) ((A.ix a0.data.toList (y4+3)).bind fun x48=>(A.gd ((64:Int)≠0) (F.R05_Runes_j1 (F.R05_Runes_l2 a0 f) xs3 y4 r7 (IntKind.i32.wrap ((IntKind.i32.wrap ((IntKind.i32.wrap ((IntKind.i32.wrap ((IntKind.i32.wrap ((IntKind.i32.wrap ((IntKind.i32.wrap (Int.tmod (x39.toNat:Int) 8))*64))+(IntKind.i32.wrap (Int.tmod (x42.toNat:Int) 64))))*64))+(IntKind.i32.wrap (Int.tmod (x45.toNat:Int) 64))))*64))+(IntKind.i32.wrap (Int.tmod (x48.toNat:Int) 64))))))))))))))else(F.R05_Runes_j1 (F.R05_Runes_l2 a0 f) xs3 y4 1 65533))))))else(some xs3)
def F.R05_Runes (a0:ByteArray):Option (List D198):=F.R05_Runes_l2 a0 A.FU [] 0
theorem R05_Runes_ok (a0:ByteArray)(h0_:a0.size≤maxLen)(r:(List D198))(hF:F.R05_Runes a0=some r):
    A.Ct Tryz.prog 151 [.string a0] [] [] (fun v H'=>∃(A0':Option Addr) (c1':Nat),v=.slice A0' ((r).length) c1'∧H'=[(0,.own T198 199 A0' c1' r)]):=by
 refine A.Ct.enter Tryz.func151 rfl Tryz.ntmps151 rfl fun w0 F0=>?_
 rw[F.R05_Runes]at hF
 refine A.xl 1 ?_
 refine A.q0 [] [] [.n] [] ?_
 refine A.dl 2 ?_
 refine A.q0 [] [] [.n] [(3,.slice none 0 0)] ?_
 refine A.dl 3 ?_
 refine A.q0 [] [] [.n] [(4,.int .i64 0)] ?_
 refine A.dx 2 ?_
 refine A.nil 43 T198 199 ?_
 refine A.lp_ [0] [] (fun f nl nh=>∃(xs3:List D198),∃(y4:Int),∃(A1:Option Addr),∃(c2:Nat),nl=[(3,.slice A1 ((xs3).length) c2),(4,.int .i64 y4)]∧nh=[(43,.own T198 199 A1 c2 xs3)]∧IntKind.i64.has y4∧F.R05_Runes_l2 a0 f xs3 y4=some r) ⟨[],0,none,0,rfl,rfl,(A.hasl .i64 (0) rfl),hF⟩ ?_
 rintro f6 _ _ ⟨xs3,y4,A1,c2,rfl,rfl,hy5,hF⟩
 rcases f6 with _|f6
 ·exact A.no0 hF
 rw[F.R05_Runes_l2]at hF
 refine A.xl 2 ?_
 refine A.q0 [] [] [.n,.n,.n,.n] [(10,.bool (decide (y4<(a0.size:Int))))] ?_
 refine A.dx 1 ?_
 refine A.AX.cnd rfl hF (fun hb hF=>?_) (fun hb hF=>?_)
 ·refine A.xl 4 ?_
  refine A.q0 [] [] [.n,.n] [(11,.string a0),(12,.int .i64 y4)] ?_
  obtain⟨r7,hv8,hF⟩:=A.bd_some hF
  refine A.AL.call 126 [] (first:=[]) (cap:=[]) cf159 (R05_width_ok a0 y4 h0_ hy5 r7 hv8) .nil ?_
  rintro _ _ ⟨rfl,rfl,hr9⟩
  refine⟨by kernel_rfl,?_⟩
  refine A.q0 [] [] [.n] [(5,.int .i64 r7)] ?_
  refine A.dl 2 ?_
  refine A.q0 [] [] [.n] [(6,.int .i32 65533)] ?_
  refine A.dx 1 ?_
  refine A.AX.join [0,3,4] [43] (fun nl nh=>∃(y10:Int),∃(y12:Int),nl=[(5,.int .i64 y10),(6,.int .i32 y12)]∧nh=[]∧IntKind.i64.has y10∧IntKind.i32.has y12∧F.R05_Runes_j1 (F.R05_Runes_l2 a0 f6) xs3 y4 y10 y12=some r) ?_ ?_
  ·refine A.xl 1 ?_
   refine A.q0 [] [] [.n] [(14,.int .i64 r7)] ?_
   refine A.dl 3 ?_
   refine A.q0 [] [] [.n,.n] [(15,.bool (decide (r7=1)))] ?_
   refine A.dx 1 ?_
   refine A.AX.cnd rfl hF (fun hb hF=>?_) (fun hb hF=>?_)
   ·refine A.xl 0 ?_
    refine A.q0 [] [] [.n,.n] [(17,.string a0),(18,.int .i64 y4)] ?_
    obtain⟨x19,hv20,hF⟩:=A.bd_some hF
    refine A.AL.ixt hv20 ?_
    refine A.q0 [] [] [.n,.n] [(6,.int .i32 (IntKind.i32.wrap ((x19.toNat:Int))))] ?_
    refine A.de 1 ?_
    exact A.j ⟨r7,(IntKind.i32.wrap ((x19.toNat:Int))),rfl,rfl,hr9,(A.wrap_has _ _),hF⟩
   refine A.xl 1 ?_
   refine A.q0 [] [] [.n,.n] [(21,.bool (decide (r7=2)))] ?_
   refine A.dx 1 ?_
   refine A.AX.cnd rfl hF (fun hb hF=>?_) (fun hb hF=>?_)
   ·refine A.AX.dr mixed 14 14 (A.mb 14 0) ?_
    obtain⟨hc21,hF⟩:=A.gd_some hF
    refine A.AH.q A.pb [] [43] [] [] (A.mb 14 451) 9 [(0,.n),(1,.n),(6,.n),(7,.n),(8,.n)] [23,24,29,31] [Z.R64 (y4+1)] [(23,.string a0),(24,.int .i64 y4),(29,.string a0),(31,.int .i64 (y4+1))] hc21 ?_
    obtain⟨x22,hv23,hF⟩:=A.bd_some hF
    refine A.AH.v A.pb [43] [43] 2 (A.mb 14 455) rfl (fun a w hf hh=>A.r_ixt hv23 hf) ?_
    obtain⟨hc24,hF⟩:=A.gd_some hF
    refine A.AH.q A.pb [43] [43] [] [] (A.mb 14 511) 5 [(3,.n),(4,.n),(5,.n)] [28] [(32:Int)≠0] [(28,.int .i32 (IntKind.i32.wrap ((IntKind.i32.wrap (Int.tmod (x22.toNat:Int) 32))*64)))] hc24 ?_
    obtain⟨x25,hv26,hF⟩:=A.bd_some hF
    refine A.AH.v A.pb [43] [43] 9 (A.mb 14 1023) rfl (fun a w hf hh=>A.r_ixt hv26 hf) ?_
    obtain⟨hc27,hF⟩:=A.gd_some hF
    refine A.AH.q A.pb [43] [43] [] [] (A.mb 14 16383) 0 [(10,.n),(11,.n),(12,.n),(13,.n)] [6] [(64:Int)≠0] [(6,.int .i32 (IntKind.i32.wrap ((IntKind.i32.wrap ((IntKind.i32.wrap (Int.tmod (x22.toNat:Int) 32))*64))+(IntKind.i32.wrap (Int.tmod (x25.toNat:Int) 64)))))] hc27 ?_
    refine A.AH.done ?_
    refine A.ee 1 ?_
    exact A.j ⟨r7,(IntKind.i32.wrap ((IntKind.i32.wrap ((IntKind.i32.wrap (Int.tmod (x22.toNat:Int) 32))*64))+(IntKind.i32.wrap (Int.tmod (x25.toNat:Int) 64)))),rfl,rfl,hr9,(A.wrap_has _ _),hF⟩
   refine A.xl 1 ?_
   refine A.q0 [] [] [.n,.n] [(36,.bool (decide (r7=3)))] ?_
   refine A.dx 1 ?_
   refine A.AX.cnd rfl hF (fun hb hF=>?_) (fun hb hF=>?_)
   ·refine A.AX.dr mixed 22 22 (A.mb 22 0) ?_
    obtain⟨hc28,hF⟩:=A.gd_some hF
    refine A.AH.q A.pb [] [43] [] [] (A.mb 22 115139) 14 [(0,.n),(1,.n),(6,.n),(7,.n),(14,.n),(15,.n),(8,.n),(16,.n)] [38,39,44,52,46,54] [Z.R64 (y4+1),Z.R64 (y4+2)] [(38,.string a0),(39,.int .i64 y4),(44,.string a0),(52,.string a0),(46,.int .i64 (y4+1)),(54,.int .i64 (y4+2))] hc28 ?_
    obtain⟨x29,hv30,hF⟩:=A.bd_some hF
    refine A.AH.v A.pb [43] [43] 2 (A.mb 22 115143) rfl (fun a w hf hh=>A.r_ixt hv30 hf) ?_
    obtain⟨hc31,hF⟩:=A.gd_some hF
    refine A.AH.q A.pb [43] [43] [] [] (A.mb 22 115199) 10 [(3,.n),(4,.n),(5,.n)] [43] [(16:Int)≠0] [(43,.int .i32 (IntKind.i32.wrap ((IntKind.i32.wrap (Int.tmod (x29.toNat:Int) 16))*64)))] hc31 ?_
    obtain⟨x32,hv33,hF⟩:=A.bd_some hF
    refine A.AH.v A.pb [43] [43] 9 (A.mb 22 115711) rfl (fun a w hf hh=>A.r_ixt hv33 hf) ?_
    obtain⟨hc34,hF⟩:=A.gd_some hF
    refine A.AH.q A.pb [43] [43] [] [] (A.mb 22 131071) 5 [(10,.n),(11,.n),(12,.n),(13,.n)] [51] [(64:Int)≠0] [(51,.int .i32 (IntKind.i32.wrap ((IntKind.i32.wrap ((IntKind.i32.wrap ((IntKind.i32.wrap (Int.tmod (x29.toNat:Int) 16))*64))+(IntKind.i32.wrap (Int.tmod (x32.toNat:Int) 64))))*64)))] hc34 ?_
    obtain⟨x35,hv36,hF⟩:=A.bd_some hF
    refine A.AH.v A.pb [43] [43] 17 (A.mb 22 262143) rfl (fun a w hf hh=>A.r_ixt hv36 hf) ?_
    obtain⟨hc37,hF⟩:=A.gd_some hF
    refine A.AH.q A.pb [43] [43] [] [] (A.mb 22 4194303) 0 [(18,.n),(19,.n),(20,.n),(21,.n)] [6] [(64:Int)≠0] [(6,.int .i32 (IntKind.i32.wrap ((IntKind.i32.wrap ((IntKind.i32.wrap ((IntKind.i32.wrap ((IntKind.i32.wrap (Int.tmod (x29.toNat:Int) 16))*64))+(IntKind.i32.wrap (Int.tmod (x32.toNat:Int) 64))))*64))+(IntKind.i32.wrap (Int.tmod (x35.toNat:Int) 64)))))] hc37 ?_
    refine A.AH.done ?_
    refine A.ee 1 ?_
    exact A.j ⟨r7,(IntKind.i32.wrap ((IntKind.i32.wrap ((IntKind.i32.wrap ((IntKind.i32.wrap ((IntKind.i32.wrap (Int.tmod (x29.toNat:Int) 16))*64))+(IntKind.i32.wrap (Int.tmod (x32.toNat:Int) 64))))*64))+(IntKind.i32.wrap (Int.tmod (x35.toNat:Int) 64)))),rfl,rfl,hr9,(A.wrap_has _ _),hF⟩
   refine A.xl 1 ?_
   refine A.q0 [] [] [.n,.n] [(59,.bool (decide (r7=4)))] ?_
   refine A.dx 1 ?_
   refine A.AX.cnd rfl hF (fun hb hF=>?_) (fun hb hF=>?_)
   ·refine A.AX.dr mixed 30 30 (A.mb 30 0) ?_
    obtain⟨hc38,hF⟩:=A.gd_some hF
    refine A.AH.q A.pb [] [43] [] [] (A.mb 30 29475267) 19 [(0,.n),(1,.n),(6,.n),(7,.n),(14,.n),(15,.n),(22,.n),(23,.n),(8,.n),(16,.n),(24,.n)] [61,62,67,75,83,69,77,85] [Z.R64 (y4+1),Z.R64 (y4+2),Z.R64 (y4+3)] [(61,.string a0),(62,.int .i64 y4),(67,.string a0),(75,.string a0),(83,.string a0),(69,.int .i64 (y4+1)),(77,.int .i64 (y4+2)),(85,.int .i64 (y4+3))] hc38 ?_
    obtain⟨x39,hv40,hF⟩:=A.bd_some hF
    refine A.AH.v A.pb [43] [43] 2 (A.mb 30 29475271) rfl (fun a w hf hh=>A.r_ixt hv40 hf) ?_
    obtain⟨hc41,hF⟩:=A.gd_some hF
    refine A.AH.q A.pb [43] [43] [] [] (A.mb 30 29475327) 15 [(3,.n),(4,.n),(5,.n)] [66] [(8:Int)≠0] [(66,.int .i32 (IntKind.i32.wrap ((IntKind.i32.wrap (Int.tmod (x39.toNat:Int) 8))*64)))] hc41 ?_
    obtain⟨x42,hv43,hF⟩:=A.bd_some hF
    refine A.AH.v A.pb [43] [43] 9 (A.mb 30 29475839) rfl (fun a w hf hh=>A.r_ixt hv43 hf) ?_
    obtain⟨hc44,hF⟩:=A.gd_some hF
    refine A.AH.q A.pb [43] [43] [] [] (A.mb 30 29491199) 10 [(10,.n),(11,.n),(12,.n),(13,.n)] [74] [(64:Int)≠0] [(74,.int .i32 (IntKind.i32.wrap ((IntKind.i32.wrap ((IntKind.i32.wrap ((IntKind.i32.wrap (Int.tmod (x39.toNat:Int) 8))*64))+(IntKind.i32.wrap (Int.tmod (x42.toNat:Int) 64))))*64)))] hc44 ?_
    obtain⟨x45,hv46,hF⟩:=A.bd_some hF
    refine A.AH.v A.pb [43] [43] 17 (A.mb 30 29622271) rfl (fun a w hf hh=>A.r_ixt hv46 hf) ?_
    obtain⟨hc47,hF⟩:=A.gd_some hF
    refine A.AH.q A.pb [43] [43] [] [] (A.mb 30 33554431) 5 [(18,.n),(19,.n),(20,.n),(21,.n)] [82] [(64:Int)≠0] [(82,.int .i32 (IntKind.i32.wrap ((IntKind.i32.wrap ((IntKind.i32.wrap ((IntKind.i32.wrap ((IntKind.i32.wrap ((IntKind.i32.wrap (Int.tmod (x39.toNat:Int) 8))*64))+(IntKind.i32.wrap (Int.tmod (x42.toNat:Int) 64))))*64))+(IntKind.i32.wrap (Int.tmod (x45.toNat:Int) 64))))*64)))] hc47 ?_
    obtain⟨x48,hv49,hF⟩:=A.bd_some hF
    refine A.AH.v A.pb [43] [43] 25 (A.mb 30 67108863) rfl (fun a w hf hh=>A.r_ixt hv49 hf) ?_
    obtain⟨hc50,hF⟩:=A.gd_some hF
    refine A.AH.q A.pb [43] [43] [] [] (A.mb 30 1073741823) 0 [(26,.n),(27,.n),(28,.n),(29,.n)] [6] [(64:Int)≠0] [(6,.int .i32 (IntKind.i32.wrap ((IntKind.i32.wrap ((IntKind.i32.wrap ((IntKind.i32.wrap ((IntKind.i32.wrap ((IntKind.i32.wrap ((IntKind.i32.wrap (Int.tmod (x39.toNat:Int) 8))*64))+(IntKind.i32.wrap (Int.tmod (x42.toNat:Int) 64))))*64))+(IntKind.i32.wrap (Int.tmod (x45.toNat:Int) 64))))*64))+(IntKind.i32.wrap (Int.tmod (x48.toNat:Int) 64)))))] hc50 ?_
    refine A.AH.done ?_
    refine A.ee 1 ?_
    exact A.j ⟨r7,(IntKind.i32.wrap ((IntKind.i32.wrap ((IntKind.i32.wrap ((IntKind.i32.wrap ((IntKind.i32.wrap ((IntKind.i32.wrap ((IntKind.i32.wrap (Int.tmod (x39.toNat:Int) 8))*64))+(IntKind.i32.wrap (Int.tmod (x42.toNat:Int) 64))))*64))+(IntKind.i32.wrap (Int.tmod (x45.toNat:Int) 64))))*64))+(IntKind.i32.wrap (Int.tmod (x48.toNat:Int) 64)))),rfl,rfl,hr9,(A.wrap_has _ _),hF⟩
   refine A.xl 0 ?_
   refine A.q0 [] [] [.n] [(5,.int .i64 1)] ?_
   refine A.de 1 ?_
   exact A.j ⟨1,65533,rfl,rfl,(A.hasl .i64 (1) rfl),(A.hasl .i32 (65533) rfl),hF⟩
  rintro _ _ ⟨y10,y12,rfl,rfl,hy11,hy13,hF⟩
  rw[F.R05_Runes_j1]at hF
  refine A.xl 1 ?_
  refine A.q0 [] [] [.n,.n,.n,.n] [(90,.slice A1 ((xs3).length) c2),(93,.agg #[.int .i64 y4,.int .i32 y12])] ?_
  refine A.AL.bsl 166 (ty:=T198) (cs:=[.int .i64 y4,.int .i32 y12]) [(y4,y12)] ⟨⟨⟨rfl,hy5⟩,⟨rfl,hy13⟩⟩,rfl⟩ (fun g14=>?_) Tryz.zeroValue199 Tryz.sizeOf199
  obtain⟨hl17,hF⟩:=A.gd_some hF
  refine A.AL.app (k:=43) [] (A.rowO (k:=166) rfl) inf199 hl17 fun A15 c16=>?_
  refine A.q0 [] [] [.n] [(3,.slice A15 ((xs3++[(y4,y12)]).length) c16)] ?_
  refine A.dl 1 ?_
  obtain⟨hc18,hF⟩:=A.gd_some hF
  refine A.q [] [] [.n,.n,.n,.n] [Z.R64 (y4+y10)] [(4,.int .i64 (y4+y10))] hc18 ?_
  refine A.de 1 ?_
  exact A.j ⟨_,Nat.lt_succ_self _,⟨(xs3++[(y4,y12)]),(y4+y10),A15,c16,rfl,rfl,(Z.i64_has hc18),hF⟩⟩
 refine A.xl 3 ?_
 refine A.q0 [] [] [.n,.n] [(2,.slice A1 ((xs3).length) c2)] ?_
 refine A.dx 1 ?_
 obtain rfl:=Option.some.inj hF
 exact A.rt1 [(0,43)] ⟨A1,c2,rfl,rfl⟩
end Go.Proofs.YtocfaokgoflmhaaGreatDoor
end
section
set_option linter.unusedVariables false
set_option linter.unusedSimpArgs false
set_option maxRecDepth 20000
set_option maxHeartbeats 8000000
set_option synthInstance.maxSize 1000000
set_option synthInstance.maxHeartbeats 400000
namespace Go.Proofs.YtocfaokgoflmhaaGreatDoor
open Go.RowKit
def F.R06_text_j1 (y2:Bool):Option Bool:=some y2
def F.R06_text_j2 (y6:Bool):Option Bool:=some y6
def F.R06_text_j3 (a0:D67)(y5:Bool):Option Bool:=if y5=true then(if(a0.2.2.size:Int)≤4 then((F.R05_Valid a0.2.2).bind fun r7=>(if r7=true then((F.R05_Runes a0.2.2).bind fun r9=>(F.R06_text_j2 (decide (((r9).length:Int)=1))))else(F.R06_text_j2 false)))else(F.R06_text_j2 false))else(some (decide (a0.2.2=(ByteArray.mk #[]))))
def F.R06_text (a0:D67):Option Bool:=if a0.1=5 then(if(bif decide ((1:Int)≤(a0.2.2.size:Int))then decide ((a0.2.2.size:Int)≤16)else false)=true then((F.R05_Valid a0.2.2).bind fun r3=>(F.R06_text_j1 r3))else(F.R06_text_j1 false))else(if a0.1=12 then(F.R06_text_j3 a0 (decide (a0.1=12)))else(F.R06_text_j3 a0 (decide (a0.1=22))))
theorem R06_text_ok (a0:D67)(h0_:IntKind.i64.has a0.1)(h1_:IntKind.i64.has a0.2.1)(h2_:a0.2.2.size≤maxLen)(r:Bool)(hF:F.R06_text a0=some r):
    A.Ct Tryz.prog 135 [.agg #[.int .i64 a0.1,.int .i64 a0.2.1,.string a0.2.2]] [] [] (fun v H'=>v=.bool r∧H'=[]):=by
 refine A.Ct.enter Tryz.func135 rfl Tryz.ntmps135 rfl fun w0 F0=>?_
 rw[F.R06_text]at hF
 refine A.xl 1 ?_
 refine A.AL.box 0 (cs:=[.int .i64 a0.1,.int .i64 a0.2.1,.string a0.2.2]) fun g1=>?_
 refine A.q0 [] [] [.n] [] ?_
 refine A.dl 2 ?_
 refine A.q0 [0] [] [.n,.b 0 0] [(4,.int .i64 a0.1)] ?_
 refine A.dl 3 ?_
 refine A.q0 [] [] [.n,.n] [(8,.bool (decide (a0.1=5)))] ?_
 refine A.dx 1 ?_
 refine A.AX.cnd rfl hF (fun hb hF=>?_) (fun hb hF=>?_)
 ·refine A.AX.join [] [] (fun nl nh=>∃(y2:Bool),nl=[(2,.bool y2)]∧nh=[]∧F.R06_text_j1 y2=some r) ?_ ?_
  ·refine A.xl 0 ?_
   refine A.q0 [0] [] [.n,.b 0 2,.n,.n,.n,.sy .n,.sy (.b 0 2),.sy .n,.sy .n,.pk,.n] [(20,.bool (bif decide ((1:Int)≤(a0.2.2.size:Int))then decide ((a0.2.2.size:Int)≤16)else false))] ?_
   refine A.AL.cnd (j:=20) rfl hF (fun hF=>?_) (fun hF=>?_)
   ·refine A.q0 [0] [] [.on .n,.on (.b 0 2)] [(22,.string a0.2.2)] ?_
    refine A.AL.on (dj:=20) rfl rfl ?_
    obtain⟨r3,hv4,hF⟩:=A.bd_some hF
    refine A.AL.call 1 [] (first:=[]) (cap:=[]) cf150 (R05_Valid_ok a0.2.2 h2_ r3 hv4) .nil ?_
    rintro _ _ ⟨rfl,rfl⟩
    refine⟨by kernel_rfl,?_⟩
    refine A.q0 [] [] [.n,.n] [(2,.bool r3)] ?_
    refine A.AL.done ?_
    exact A.j ⟨r3,rfl,rfl,hF⟩
   refine A.q0 [] [] [.off,.off,.off,.n,.n] [(2,.bool false)] ?_
   refine A.AL.done ?_
   exact A.j ⟨false,rfl,rfl,hF⟩
  rintro _ _ ⟨y2,rfl,rfl,hF⟩
  rw[F.R06_text_j1]at hF
  obtain rfl:=Option.some.inj hF
  exact A.rt1 [] ⟨rfl,rfl⟩
 refine A.AX.join [1] [0] (fun nl nh=>∃(y5:Bool),nl=[(25,.bool y5)]∧nh=[]∧F.R06_text_j3 a0 y5=some r) ?_ ?_
 ·refine A.xl 1 ?_
  refine A.q0 [] [] [.n,.n] [(25,.bool (decide (a0.1=12)))] ?_
  refine A.dx 1 ?_
  refine A.AX.cnd rfl hF (fun hb hF=>?_) (fun hb hF=>?_)
  ·refine A.xe 1 ?_
   exact A.j ⟨(decide (a0.1=12)),rfl,rfl,hF⟩
  refine A.xl 0 ?_
  refine A.q0 [] [] [.n,.n] [(25,.bool (decide (a0.1=22)))] ?_
  refine A.AL.done ?_
  exact A.j ⟨(decide (a0.1=22)),rfl,rfl,hF⟩
 rintro _ _ ⟨y5,rfl,rfl,hF⟩
 rw[F.R06_text_j3]at hF
 refine A.AX.cnb rfl hF (fun hb hF=>?_) (fun hb hF=>?_)
 ·refine A.AX.join [] [] (fun nl nh=>∃(y6:Bool),nl=[(2,.bool y6)]∧nh=[]∧F.R06_text_j2 y6=some r) ?_ ?_
  ·refine A.xl 0 ?_
   refine A.q0 [0] [] [.n,.b 0 2,.n,.n,.n] [(32,.bool (decide ((a0.2.2.size:Int)≤4)))] ?_
   refine A.AL.cnp (j:=32) rfl hF (fun hb hF=>?_) (fun hb hF=>?_)
   ·refine A.q0 [0] [] [.on .n,.on (.b 0 2)] [(34,.string a0.2.2)] ?_
    refine A.AL.on (dj:=32) rfl rfl ?_
    obtain⟨r7,hv8,hF⟩:=A.bd_some hF
    refine A.AL.call 41 [] (first:=[]) (cap:=[]) cf150 (R05_Valid_ok a0.2.2 h2_ r7 hv8) .nil ?_
    rintro _ _ ⟨rfl,rfl⟩
    refine⟨by kernel_rfl,?_⟩
    refine A.q0 [] [] [.n,.n] [(37,.bool r7)] ?_
    refine A.AL.cnd (j:=37) rfl hF (fun hF=>?_) (fun hF=>?_)
    ·refine A.q0 [0] [] [.on .n,.on (.b 0 2)] [(39,.string a0.2.2)] ?_
     refine A.AL.on (dj:=37) rfl rfl ?_
     obtain⟨r9,hv10,hF⟩:=A.bd_some hF
     refine A.AL.call 81 [] (first:=[]) (cap:=[]) cf151 (R05_Runes_ok a0.2.2 h2_ r9 hv10) .nil ?_
     rintro _ _ ⟨A11,c12,rfl,rfl⟩
     refine⟨by kernel_rfl,?_⟩
     refine A.q0 [] [] [.on .n,.on .n,.n,.n] [(2,.bool (decide (((r9).length:Int)=1)))] ?_
     refine A.AL.done ?_
     exact A.j ⟨(decide (((r9).length:Int)=1)),rfl,rfl,hF⟩
    refine A.q0 [] [] [.off,.off,.off,.off,.off,.n,.n] [(2,.bool false)] ?_
    refine A.AL.done ?_
    exact A.j ⟨false,rfl,rfl,hF⟩
   refine A.q0 [] [] [.off,.off,.off,.n,.n,.off,.off,.off,.off,.off,.n,.n] [(2,.bool false)] ?_
   refine A.AL.done ?_
   exact A.j ⟨false,rfl,rfl,hF⟩
  rintro _ _ ⟨y6,rfl,rfl,hF⟩
  rw[F.R06_text_j2]at hF
  obtain rfl:=Option.some.inj hF
  exact A.rt1 [] ⟨rfl,rfl⟩
 refine A.xl 1 ?_
 refine A.q0 [0] [] [.n,.b 0 2,.n,.n] [(2,.bool (decide (a0.2.2=(ByteArray.mk #[]))))] ?_
 refine A.dx 1 ?_
 obtain rfl:=Option.some.inj hF
 exact A.rt1 [] ⟨rfl,rfl⟩
def F.R06_Check_j1 (k1:Int→Option Int)(y7:Int)(y10:Bool):Option Int:=if y10=true then(some 0)else(A.gd (Z.R64 (y7+1)) (k1 (y7+1)))
def F.R06_Check_l2 (a1:D67)(r2:(List Int)):Nat→Int→Option Int
 |0,_=>none
 |f+1,y7=>if y7<((r2).length:Int)then((A.ix r2 y7).bind fun x12=>(if x12=a1.1 then((F.R06_number (a1.1,a1.2.1,a1.2.2)).bind fun r17=>(if r17=true then((F.R06_text (a1.1,a1.2.1,a1.2.2)).bind fun r19=>(F.R06_Check_j1 (F.R06_Check_l2 a1 r2 f) y7 r19))else(F.R06_Check_j1 (F.R06_Check_l2 a1 r2 f) y7 false)))else(F.R06_Check_j1 (F.R06_Check_l2 a1 r2 f) y7 false)))else(some 60)
def F.R06_Check_j3 (a1:D67)(r2:(List Int))(y6:Bool):Option Int:=if y6=true then(some 0)else(F.R06_Check_l2 a1 r2 A.FU 0)
def F.R06_Check (a0:Int)(a1:D67):Option Int:=(F.R06_Uses a0).bind fun r2=>(if((r2).length:Int)=0 then(F.R06_Check_j3 a1 r2 (decide ((a1.1,a1.2.1,a1.2.2)=(0,0,ByteArray.mk #[]))))else(F.R06_Check_j3 a1 r2 false))
theorem R06_Check_ok (a0:Int)(a1:D67)(h0_:IntKind.i64.has a0)(h1_:IntKind.i64.has a1.1)(h2_:IntKind.i64.has a1.2.1)(h3_:a1.2.2.size≤maxLen)(r:Int)(hF:F.R06_Check a0 a1=some r):
    A.Ct Tryz.prog 109 [.int .i64 a0,.agg #[.int .i64 a1.1,.int .i64 a1.2.1,.string a1.2.2]] [] [] (fun v H'=>v=.int .i64 r∧H'=[]∧IntKind.i64.has r):=by
 refine A.Ct.enter Tryz.func109 rfl Tryz.ntmps109 rfl fun w0 F0=>?_
 rw[F.R06_Check]at hF
 refine A.xl 1 ?_
 refine A.AL.box 0 (cs:=[.int .i64 a1.1,.int .i64 a1.2.1,.string a1.2.2]) fun g1=>?_
 refine A.q0 [] [] [.n] [] ?_
 refine A.dl 2 ?_
 refine A.q0 [] [] [.n] [(7,.int .i64 a0)] ?_
 obtain⟨r2,hv3,hF⟩:=A.bd_some hF
 refine A.AL.call 1 [] (first:=[]) (cap:=[]) cf133 (R06_Uses_ok a0 h0_ r2 hv3) .nil ?_
 rintro _ _ ⟨A4,c5,rfl,rfl⟩
 refine⟨by kernel_rfl,?_⟩
 refine A.q0 [] [] [.n] [(5,.slice A4 ((r2).length) c5)] ?_
 refine A.dx 2 ?_
 refine A.AX.join [3,5] [0,1] (fun nl nh=>∃(y6:Bool),nl=[(16,.bool y6)]∧nh=[]∧F.R06_Check_j3 a1 r2 y6=some r) ?_ ?_
 ·refine A.xl 0 ?_
  refine A.q0 [] [] [.n,.n,.n,.n] [(12,.bool (decide (((r2).length:Int)=0)))] ?_
  refine A.AL.cnp (j:=12) rfl hF (fun hb hF=>?_) (fun hb hF=>?_)
  ·refine A.q0 [0] [] [.on (.b 0 0),.on .n] [(13,.agg #[.int .i64 a1.1,.int .i64 a1.2.1,.string a1.2.2]),(14,.agg #[.int .i64 0,.int .i64 0,.string (ByteArray.mk #[])])] ?_
   refine A.AL.on (dj:=12) rfl rfl ?_
   refine A.AL.val rfl (fun a w hf hh=>eqagg_eql68 (x:=(a1.1,a1.2.1,a1.2.2)) (y:=(0,0,ByteArray.mk #[])) (hf.eval rfl) (hf.eval rfl)) ?_
   refine A.q0 [] [] [.n] [(16,.bool (decide ((a1.1,a1.2.1,a1.2.2)=(0,0,ByteArray.mk #[]))))] ?_
   refine A.AL.done ?_
   exact A.j ⟨(decide ((a1.1,a1.2.1,a1.2.2)=(0,0,ByteArray.mk #[]))),rfl,rfl,hF⟩
  refine A.q0 [] [] [.off,.off,.off,.n] [(16,.bool false)] ?_
  refine A.AL.done ?_
  exact A.j ⟨false,rfl,rfl,hF⟩
 rintro _ _ ⟨y6,rfl,rfl,hF⟩
 rw[F.R06_Check_j3]at hF
 refine A.AX.cnb rfl hF (fun hb hF=>?_) (fun hb hF=>?_)
 ·refine A.xl 1 ?_
  refine A.q0 [] [] [.n] [(4,.int .i64 0)] ?_
  refine A.dx 1 ?_
  obtain rfl:=Option.some.inj hF
  exact A.rt1 [] ⟨rfl,rfl,(A.hasl .i64 (0) rfl)⟩
 refine A.xl 4 ?_
 refine A.q0 [] [] [.n] [(6,.int .i64 0)] ?_
 refine A.dx 2 ?_
 refine A.lp_ [3,5] [0,1] (fun f nl nh=>∃(y7:Int),nl=[(6,.int .i64 y7)]∧nh=[]∧IntKind.i64.has y7∧F.R06_Check_l2 a1 r2 f y7=some r) ⟨0,rfl,rfl,(A.hasl .i64 (0) rfl),hF⟩ ?_
 rintro f9 _ _ ⟨y7,rfl,rfl,hy8,hF⟩
 rcases f9 with _|f9
 ·exact A.no0 hF
 rw[F.R06_Check_l2]at hF
 refine A.xl 2 ?_
 refine A.q0 [] [] [.n,.n,.n,.n] [(20,.bool (decide (y7<((r2).length:Int))))] ?_
 refine A.dx 1 ?_
 refine A.AX.cnd rfl hF (fun hb hF=>?_) (fun hb hF=>?_)
 ·refine A.xx 4 ?_
  refine A.AX.join [3,5,6] [0,1] (fun nl nh=>∃(y10:Bool),nl=[(37,.bool y10)]∧nh=[]∧F.R06_Check_j1 (F.R06_Check_l2 a1 r2 f9) y7 y10=some r) ?_ ?_
  ·refine A.AX.dr mixed 15 15 (A.mb 15 0) ?_
   refine A.hq A.pb [] [0,1] [0] [] (A.mb 15 51) 11 [(0,.n),(1,.n),(4,.n),(5,.b 0 0)] [(23,.slice A4 ((r2).length) c5),(24,.int .i64 y7),(28,.int .i64 a1.1)] ?_
   obtain⟨x12,hv13,hF⟩:=A.bd_some hF
   refine A.AH.pko 1 203 hv13 fun ho14=>?_
   intro g16 hA15
   refine A.AH.v A.pb [0,1] [0,1,203] 2 (A.mb 15 55) rfl (fun a w hf hh=>A.r_ixo (t:=(Z.Ty.int .i64)) hv13 hA15 hf) ?_
   refine A.hq A.pb [0,1,203] [0,1,203] [] [203] (A.mb 15 255) 7 [(3,.e 0 0),(6,.n),(7,.n)] [(30,.bool (decide (x12=a1.1)))] ?_
   refine A.AH.cnp (j:=30) rfl hF (fun hb hF=>?_) (fun hb hF=>?_)
   ·refine A.hq A.pb [0,1,203] [0,1,203] [0] [] (A.mb 15 511) 6 [(8,.on (.b 0 0))] [(31,.agg #[.int .i64 a1.1,.int .i64 a1.2.1,.string a1.2.2])] ?_
    refine A.AH.one 9 ?_
    refine A.AL.on (dj:=30) rfl rfl ?_
    obtain⟨r17,hv18,hF⟩:=A.bd_some hF
    refine A.AL.call 204 [] (first:=[]) (cap:=[]) cf134 (R06_number_ok (a1.1,a1.2.1,a1.2.2) h1_ h2_ h3_ r17 hv18) .nil ?_
    rintro _ _ ⟨rfl,rfl⟩
    refine⟨by kernel_rfl,?_⟩
    refine A.AH.nx (A.mb 15 1023) [0,1,203] ?_
    refine A.hq A.pb [0,1,203] [0,1,203] [] [] (A.mb 15 4095) 3 [(10,.n),(11,.n)] [(34,.bool r17)] ?_
    refine A.AH.cnd (j:=34) rfl hF (fun hF=>?_) (fun hF=>?_)
    ·refine A.hq A.pb [0,1,203] [0,1,203] [0] [] (A.mb 15 8191) 2 [(12,.on (.b 0 0))] [(35,.agg #[.int .i64 a1.1,.int .i64 a1.2.1,.string a1.2.2])] ?_
     refine A.AH.one 13 ?_
     refine A.AL.on (dj:=34) rfl rfl ?_
     obtain⟨r19,hv20,hF⟩:=A.bd_some hF
     refine A.AL.call 244 [] (first:=[]) (cap:=[]) cf135 (R06_text_ok (a1.1,a1.2.1,a1.2.2) h1_ h2_ h3_ r19 hv20) .nil ?_
     rintro _ _ ⟨rfl,rfl⟩
     refine⟨by kernel_rfl,?_⟩
     refine A.AH.nx (A.mb 15 16383) [0,1,203] ?_
     refine A.hq A.pb [0,1,203] [0,1,203] [] [] (A.mb 15 32767) 0 [(14,.n)] [(37,.bool r19)] ?_
     refine A.AH.done ?_
     exact A.j ⟨r19,rfl,rfl,hF⟩
    refine A.hq A.pb [0,1,203] [0,1,203] [] [] (A.mb 15 32767) 0 [(12,.off),(13,.off),(14,.n)] [(37,.bool false)] ?_
    refine A.AH.done ?_
    exact A.j ⟨false,rfl,rfl,hF⟩
   refine A.hq A.pb [0,1,203] [0,1,203] [] [] (A.mb 15 32767) 0 [(8,.off),(9,.off),(10,.n),(11,.n),(12,.off),(13,.off),(14,.n)] [(37,.bool false)] ?_
   refine A.AH.done ?_
   exact A.j ⟨false,rfl,rfl,hF⟩
  rintro _ _ ⟨y10,rfl,rfl,hF⟩
  rw[F.R06_Check_j1]at hF
  refine A.AX.cnb rfl hF (fun hb hF=>?_) (fun hb hF=>?_)
  ·refine A.xl 1 ?_
   refine A.q0 [] [] [.n] [(4,.int .i64 0)] ?_
   refine A.dx 1 ?_
   obtain rfl:=Option.some.inj hF
   exact A.rt1 [] ⟨rfl,rfl,(A.hasl .i64 (0) rfl)⟩
  refine A.xl 3 ?_
  obtain⟨hc11,hF⟩:=A.gd_some hF
  refine A.q [] [] [.n,.n,.n] [Z.R64 (y7+1)] [(6,.int .i64 (y7+1))] hc11 ?_
  refine A.AL.done ?_
  exact A.j ⟨_,Nat.lt_succ_self _,⟨(y7+1),rfl,rfl,(Z.i64_has hc11),hF⟩⟩
 refine A.xl 3 ?_
 refine A.q0 [] [] [.n] [(4,.int .i64 60)] ?_
 refine A.dx 1 ?_
 obtain rfl:=Option.some.inj hF
 exact A.rt1 [] ⟨rfl,rfl,(A.hasl .i64 (60) rfl)⟩
def F.R08_index_l1 (a0:D23)(a1:Int):Nat→Int→Option Int
 |0,_=>none
 |f+1,y2=>if y2<((a0).length:Int)then((A.ix a0 y2).bind fun x5=>(if x5.1=a1 then(some y2)else(A.gd (Z.R64 (y2+1)) ((F.R08_index_l1 a0 a1 f) (y2+1)))))else(some (-1))
def F.R08_index (a0:D23)(a1:Int):Option Int:=F.R08_index_l1 a0 a1 A.FU 0
theorem R08_index_ok (a0:D23)(a1:Int)(A0_:Option Addr)(c1_:Nat)(h2_:IntKind.i64.has a1)(r:Int)(hF:F.R08_index a0 a1=some r):
    A.Ct Tryz.prog 110 [.agg #[.slice A0_ ((a0).length) c1_],.int .i64 a1] [(0,.sh (.slice T69) [.slice A0_ (a0).length c1_] a0)] [] (fun v H'=>v=.int .i64 r∧H'=[]∧IntKind.i64.has r):=by
 refine A.Ct.enter Tryz.func110 rfl Tryz.ntmps110 rfl fun w0 F0=>?_
 rw[F.R08_index]at hF
 refine A.xl 1 ?_
 refine A.AL.box 1 (cs:=[.slice A0_ ((a0).length) c1_]) fun g1=>?_
 refine A.q0 [] [] [.n] [] ?_
 refine A.dl 3 ?_
 refine A.q0 [] [] [.n] [(5,.int .i64 0)] ?_
 refine A.dx 2 ?_
 refine A.lp_ [1,2] [0,1] (fun f nl nh=>∃(y2:Int),nl=[(5,.int .i64 y2)]∧nh=[]∧IntKind.i64.has y2∧F.R08_index_l1 a0 a1 f y2=some r) ⟨0,rfl,rfl,(A.hasl .i64 (0) rfl),hF⟩ ?_
 rintro f4 _ _ ⟨y2,rfl,rfl,hy3,hF⟩
 rcases f4 with _|f4
 ·exact A.no0 hF
 rw[F.R08_index_l1]at hF
 refine A.xl 2 ?_
 refine A.q0 [1] [] [.n,.n,.b 0 0,.n,.n] [(10,.bool (decide (y2<((a0).length:Int))))] ?_
 refine A.dx 1 ?_
 refine A.AX.cnd rfl hF (fun hb hF=>?_) (fun hb hF=>?_)
 ·refine A.xl 5 ?_
  refine A.q0 [1] [] [.n,.b 0 0,.n] [(14,.slice A0_ ((a0).length) c1_),(15,.int .i64 y2)] ?_
  obtain⟨x5,hv6,hF⟩:=A.bd_some hF
  refine A.AL.ixs 0 6 hv6 fun ho7=>?_
  intro A8 c9 b10 o11
  refine A.q0 [] [6] [.n,.e 0 0,.n,.n] [(20,.bool (decide (x5.1=a1)))] ?_
  refine A.dx 1 ?_
  refine A.AX.cnd rfl hF (fun hb hF=>?_) (fun hb hF=>?_)
  ·refine A.xl 1 ?_
   refine A.q0 [] [] [.n,.n] [(4,.int .i64 y2)] ?_
   refine A.dx 1 ?_
   obtain rfl:=Option.some.inj hF
   exact A.rt1 [] ⟨rfl,rfl,hy3⟩
  refine A.xl 3 ?_
  obtain⟨hc12,hF⟩:=A.gd_some hF
  refine A.q [] [] [.n,.n,.n] [Z.R64 (y2+1)] [(5,.int .i64 (y2+1))] hc12 ?_
  refine A.AL.done ?_
  exact A.j ⟨_,Nat.lt_succ_self _,⟨(y2+1),rfl,rfl,(Z.i64_has hc12),hF⟩⟩
 refine A.xl 3 ?_
 refine A.q0 [] [] [.n] [(4,.int .i64 (-1))] ?_
 refine A.dx 1 ?_
 obtain rfl:=Option.some.inj hF
 exact A.rt1 [] ⟨rfl,rfl,(A.hasl .i64 (-1) rfl)⟩
def F.R08_parts_j1 (k40:Int→Option Int)(y34:Int)(y61:Bool):Option Int:=if y61=true then(some 80)else(A.gd (Z.R64 (y34+1)) (k40 (y34+1)))
def F.R08_parts_l2 (k39:Int→Option Int)(a0:D23)(y31:Int):Nat→Int→Option Int
 |0,_=>none
 |f+1,y34=>(A.ix a0 y31).bind fun x37=>(if y34<((x37.2.2.1).length:Int)then((A.ix a0 y31).bind fun x44=>((A.ix x44.2.2.1 y34).bind fun x52=>((F.R08_index a0 x52).bind fun r58=>(if r58<0 then(F.R08_parts_j1 (F.R08_parts_l2 k39 a0 y31 f) y34 true)else((A.ix a0 r58).bind fun x63=>(F.R08_parts_j1 (F.R08_parts_l2 k39 a0 y31 f) y34 (decide (x63.2.1=15))))))))else(A.gd (Z.R64 (y31+1)) (k39 (y31+1))))
def F.R08_parts_l3 (a0:D23):Nat→Int→Option Int
 |0,_=>none
 |f+1,y31=>if y31<((a0).length:Int)then(F.R08_parts_l2 (F.R08_parts_l3 a0 f) a0 y31 A.FU 0)else(some 0)
def F.R08_parts_l4 (a0:D23):Nat→Int→Option Int
 |0,_=>none
 |f+1,y8=>if y8<((a0).length:Int)then((A.ix a0 y8).bind fun x11=>((A.ix a0 y8).bind fun x19=>((F.R06_Check x11.2.1 (x19.2.2.2.1.1,x19.2.2.2.1.2.1,x19.2.2.2.1.2.2)).bind fun r27=>(if r27≠0 then(some 60)else(A.gd (Z.R64 (y8+1)) ((F.R08_parts_l4 a0 f) (y8+1)))))))else(F.R08_parts_l3 a0 A.FU 0)
def F.R08_parts_l5 (a0:D23):Nat→Int→Option Int
 |0,_=>none
 |f+1,y2=>if y2<((a0).length:Int)then((F.R08_own a0 y2).bind fun r5=>(if(!r5)=true then(some 80)else(A.gd (Z.R64 (y2+1)) ((F.R08_parts_l5 a0 f) (y2+1)))))else(F.R08_parts_l4 a0 A.FU 0)
def F.R08_parts (a0:D23):Option Int:=if(32:Int)<((a0).length:Int)then(some 80)else(F.R08_parts_l5 a0 A.FU 0)
theorem R08_parts_ok (a0:D23)(A0_:Option Addr)(c1_:Nat)(r:Int)(hF:F.R08_parts a0=some r):
    A.Ct Tryz.prog 82 [.agg #[.slice A0_ ((a0).length) c1_]] [(0,.sh (.slice T69) [.slice A0_ (a0).length c1_] a0)] [] (fun v H'=>v=.int .i64 r∧H'=[]∧IntKind.i64.has r):=by
 refine A.Ct.enter Tryz.func82 rfl Tryz.ntmps82 rfl fun w0 F0=>?_
 rw[F.R08_parts]at hF
 refine A.xl 1 ?_
 refine A.AL.box 1 (cs:=[.slice A0_ ((a0).length) c1_]) fun g1=>?_
 refine A.q0 [] [] [.n] [] ?_
 refine A.dl 3 ?_
 refine A.q0 [1] [] [.n,.b 0 0,.n,.n] [(11,.bool (decide ((32:Int)<((a0).length:Int))))] ?_
 refine A.dx 1 ?_
 refine A.AX.cnd rfl hF (fun hb hF=>?_) (fun hb hF=>?_)
 ·refine A.xl 1 ?_
  refine A.q0 [] [] [.n] [(2,.int .i64 80)] ?_
  refine A.dx 1 ?_
  obtain rfl:=Option.some.inj hF
  exact A.rt1 [] ⟨rfl,rfl,(A.hasl .i64 (80) rfl)⟩
 refine A.xl 4 ?_
 refine A.q0 [] [] [.n] [(3,.int .i64 0)] ?_
 refine A.dx 2 ?_
 refine A.lp_ [1] [0,1] (fun f nl nh=>∃(y2:Int),nl=[(3,.int .i64 y2)]∧nh=[]∧IntKind.i64.has y2∧F.R08_parts_l5 a0 f y2=some r) ⟨0,rfl,rfl,(A.hasl .i64 (0) rfl),hF⟩ ?_
 rintro f4 _ _ ⟨y2,rfl,rfl,hy3,hF⟩
 rcases f4 with _|f4
 ·exact A.no0 hF
 rw[F.R08_parts_l5]at hF
 refine A.xl 2 ?_
 refine A.q0 [1] [] [.n,.n,.b 0 0,.n,.n] [(16,.bool (decide (y2<((a0).length:Int))))] ?_
 refine A.dx 1 ?_
 refine A.AX.cnd rfl hF (fun hb hF=>?_) (fun hb hF=>?_)
 ·refine A.xl 5 ?_
  refine A.q0 [1] [] [.b 0 0,.n] [(19,.agg #[.slice A0_ ((a0).length) c1_]),(20,.int .i64 y2)] ?_
  obtain⟨r5,hv6,hF⟩:=A.bd_some hF
  refine A.AL.call 2884 [] (first:=[]) (cap:=[]) cf108 (R08_own_ok a0 y2 A0_ c1_ hy3 r5 hv6) (.s 0 .nil) ?_
  rintro _ _ ⟨rfl,rfl⟩
  refine⟨by kernel_rfl,?_⟩
  refine A.q0 [] [] [.n] [(22,.bool (!r5))] ?_
  refine A.dx 1 ?_
  refine A.AX.cnb rfl hF (fun hb hF=>?_) (fun hb hF=>?_)
  ·refine A.xl 1 ?_
   refine A.q0 [] [] [.n] [(2,.int .i64 80)] ?_
   refine A.dx 1 ?_
   obtain rfl:=Option.some.inj hF
   exact A.rt1 [] ⟨rfl,rfl,(A.hasl .i64 (80) rfl)⟩
  refine A.xl 3 ?_
  obtain⟨hc7,hF⟩:=A.gd_some hF
  refine A.q [] [] [.n,.n,.n] [Z.R64 (y2+1)] [(3,.int .i64 (y2+1))] hc7 ?_
  refine A.AL.done ?_
  exact A.j ⟨_,Nat.lt_succ_self _,⟨(y2+1),rfl,rfl,(Z.i64_has hc7),hF⟩⟩
 refine A.xl 4 ?_
 refine A.q0 [] [] [.n] [(4,.int .i64 0)] ?_
 refine A.dx 2 ?_
 refine A.lp_ [1] [0,1] (fun f nl nh=>∃(y8:Int),nl=[(4,.int .i64 y8)]∧nh=[]∧IntKind.i64.has y8∧F.R08_parts_l4 a0 f y8=some r) ⟨0,rfl,rfl,(A.hasl .i64 (0) rfl),hF⟩ ?_
 rintro f10 _ _ ⟨y8,rfl,rfl,hy9,hF⟩
 rcases f10 with _|f10
 ·exact A.no0 hF
 rw[F.R08_parts_l4]at hF
 refine A.xl 2 ?_
 refine A.q0 [1] [] [.n,.n,.b 0 0,.n,.n] [(27,.bool (decide (y8<((a0).length:Int))))] ?_
 refine A.dx 1 ?_
 refine A.AX.cnd rfl hF (fun hb hF=>?_) (fun hb hF=>?_)
 ·refine A.xx 5 ?_
  refine A.AX.dr mixed 14 14 (A.mb 14 0) ?_
  refine A.hq A.pb [] [0,1] [1] [] (A.mb 14 455) 8 [(0,.n),(2,.n),(6,.n),(8,.n),(1,.b 0 0),(7,.b 0 0)] [(32,.int .i64 y8),(38,.int .i64 y8),(31,.slice A0_ ((a0).length) c1_),(37,.slice A0_ ((a0).length) c1_)] ?_
  obtain⟨x11,hv12,hF⟩:=A.bd_some hF
  refine A.AH.pks 0 3858 hv12 fun ho13=>?_
  intro A15 c16 b17 o18 hA14
  refine A.AH.v A.pb [0,1] [0,1,3858,3859] 3 (A.mb 14 463) rfl (fun a w hf hh=>A.r_ixa (t:=T69) hv12 hA14 hf) ?_
  refine A.hq A.pb [0,1,3858,3859] [0,1,3858,3859] [] [3858] (A.mb 14 511) 5 [(4,.n),(5,.e 0 1)] [(35,.int .i64 x11.2.1)] ?_
  obtain⟨x19,hv20,hF⟩:=A.bd_some hF
  refine A.AH.pks 0 3860 hv20 fun ho21=>?_
  intro A23 c24 b25 o26 hA22
  refine A.AH.v A.pb [0,1,3858,3859] [0,1,3858,3859,3860,3861] 9 (A.mb 14 1023) rfl (fun a w hf hh=>A.r_ixa (t:=T69) hv20 hA22 hf) ?_
  refine A.hq A.pb [0,1,3858,3859,3860,3861] [0,1,3858,3859,3860,3861] [] [3860] (A.mb 14 4095) 2 [(10,.n),(11,.e 0 3)] [(41,.agg #[.int .i64 x19.2.2.2.1.1,.int .i64 x19.2.2.2.1.2.1,.string x19.2.2.2.1.2.2])] ?_
  refine A.AH.one 12 ?_
  obtain⟨r27,hv28,hF⟩:=A.bd_some hF
  refine A.AL.call 3862 [] (first:=[]) (cap:=[]) cf109 (R06_Check_ok x11.2.1 (x19.2.2.2.1.1,x19.2.2.2.1.2.1,x19.2.2.2.1.2.2) ho13.2.1 ho21.2.2.2.1.1 ho21.2.2.2.1.2.1 ho21.2.2.2.1.2.2 r27 hv28) .nil ?_
  rintro _ _ ⟨rfl,rfl,hr29⟩
  refine⟨by kernel_rfl,?_⟩
  refine A.AH.nx (A.mb 14 8191) [0,1,3858,3859,3860,3861] ?_
  refine A.hq A.pb [0,1,3858,3859,3860,3861] [0,1,3858,3859,3860,3861] [] [] (A.mb 14 16383) 0 [(13,.n)] [(43,.bool (decide (r27≠0)))] ?_
  refine A.AH.done ?_
  refine A.ex 1 ?_
  refine A.AX.cnd rfl hF (fun hb hF=>?_) (fun hb hF=>?_)
  ·refine A.xl 1 ?_
   refine A.q0 [] [] [.n] [(2,.int .i64 60)] ?_
   refine A.dx 1 ?_
   obtain rfl:=Option.some.inj hF
   exact A.rt1 [] ⟨rfl,rfl,(A.hasl .i64 (60) rfl)⟩
  refine A.xl 3 ?_
  obtain⟨hc30,hF⟩:=A.gd_some hF
  refine A.q [] [] [.n,.n,.n] [Z.R64 (y8+1)] [(4,.int .i64 (y8+1))] hc30 ?_
  refine A.AL.done ?_
  exact A.j ⟨_,Nat.lt_succ_self _,⟨(y8+1),rfl,rfl,(Z.i64_has hc30),hF⟩⟩
 refine A.xl 4 ?_
 refine A.q0 [] [] [.n] [(5,.int .i64 0)] ?_
 refine A.dx 2 ?_
 refine A.lp_ [1] [0,1] (fun f nl nh=>∃(y31:Int),nl=[(5,.int .i64 y31)]∧nh=[]∧IntKind.i64.has y31∧F.R08_parts_l3 a0 f y31=some r) ⟨0,rfl,rfl,(A.hasl .i64 (0) rfl),hF⟩ ?_
 rintro f33 _ _ ⟨y31,rfl,rfl,hy32,hF⟩
 rcases f33 with _|f33
 ·exact A.no0 hF
 rw[F.R08_parts_l3]at hF
 refine A.xl 2 ?_
 refine A.q0 [1] [] [.n,.n,.b 0 0,.n,.n] [(48,.bool (decide (y31<((a0).length:Int))))] ?_
 refine A.dx 1 ?_
 refine A.AX.cnd rfl hF (fun hb hF=>?_) (fun hb hF=>?_)
 ·refine A.xl 5 ?_
  refine A.q0 [] [] [.n] [(6,.int .i64 0)] ?_
  refine A.dx 2 ?_
  refine A.lp_ [1,5] [0,1] (fun f nl nh=>∃(y34:Int),nl=[(6,.int .i64 y34)]∧nh=[]∧IntKind.i64.has y34∧F.R08_parts_l2 (F.R08_parts_l3 a0 f33) a0 y31 f y34=some r) ⟨0,rfl,rfl,(A.hasl .i64 (0) rfl),hF⟩ ?_
  rintro f36 _ _ ⟨y34,rfl,rfl,hy35,hF⟩
  rcases f36 with _|f36
  ·exact A.no0 hF
  rw[F.R08_parts_l2]at hF
  refine A.xl 2 ?_
  refine A.q0 [1] [] [.n,.n,.b 0 0,.n] [(51,.int .i64 y34),(53,.slice A0_ ((a0).length) c1_),(54,.int .i64 y31)] ?_
  obtain⟨x37,hv38,hF⟩:=A.bd_some hF
  refine A.AL.ixs 0 4278 hv38 fun ho39=>?_
  intro A40 c41 b42 o43
  refine A.q0 [] [4278] [.n,.e 0 2,.n,.n] [(59,.bool (decide (y34<((x37.2.2.1).length:Int))))] ?_
  refine A.dx 1 ?_
  refine A.AX.cnd rfl hF (fun hb hF=>?_) (fun hb hF=>?_)
  ·refine A.xx 5 ?_
   refine A.AX.dr mixed 12 12 (A.mb 12 0) ?_
   refine A.hq A.pb [] [0,1,4278,4279] [1] [] (A.mb 12 143) 7 [(0,.b 0 0),(1,.n),(3,.n),(7,.n),(2,.b 0 0)] [(62,.agg #[.slice A0_ ((a0).length) c1_]),(65,.int .i64 y31),(69,.int .i64 y34),(64,.slice A0_ ((a0).length) c1_)] ?_
   obtain⟨x44,hv45,hF⟩:=A.bd_some hF
   refine A.AH.pks 0 4280 hv45 fun ho46=>?_
   intro A48 c49 b50 o51 hA47
   refine A.AH.v A.pb [0,1,4278,4279] [0,1,4278,4279,4280,4281] 4 (A.mb 12 159) rfl (fun a w hf hh=>A.r_ixa (t:=T69) hv45 hA47 hf) ?_
   refine A.hq A.pb [0,1,4278,4279,4280,4281] [0,1,4278,4279,4280,4281] [] [4280] (A.mb 12 255) 4 [(5,.n),(6,.e 0 2)] [(68,.slice A48 ((x44.2.2.1).length) c49)] ?_
   obtain⟨x52,hv53,hF⟩:=A.bd_some hF
   refine A.AH.pks 4281 4282 hv53 fun ho54=>?_
   intro b56 o57 hA55
   refine A.AH.v A.pb [0,1,4278,4279,4280,4281] [0,1,4278,4279,4280,4281,4282] 8 (A.mb 12 511) rfl (fun a w hf hh=>A.r_ixa (t:=(Z.Ty.int .i64)) hv53 hA55 hf) ?_
   refine A.hq A.pb [0,1,4278,4279,4280,4281,4282] [0,1,4278,4279,4280,4281,4282] [] [4282] (A.mb 12 1023) 2 [(9,.e 0 0)] [(71,.int .i64 x52)] ?_
   refine A.AH.one 10 ?_
   obtain⟨r58,hv59,hF⟩:=A.bd_some hF
   refine A.AL.call 4283 [] (first:=[]) (cap:=[]) cf110 (R08_index_ok a0 x52 A0_ c1_ ho54 r58 hv59) (.s 0 .nil) ?_
   rintro _ _ ⟨rfl,rfl,hr60⟩
   refine⟨by kernel_rfl,?_⟩
   refine A.AH.nx (A.mb 12 2047) [0,1,4278,4279,4280,4281,4282] ?_
   refine A.hq A.pb [0,1,4278,4279,4280,4281,4282] [0,1,4278,4279,4280,4281,4282] [] [] (A.mb 12 4095) 0 [(11,.n)] [(7,.int .i64 r58)] ?_
   refine A.AH.done ?_
   refine A.ex 1 ?_
   refine A.AX.join [1,5,6] [0,1] (fun nl nh=>∃(y61:Bool),nl=[(83,.bool y61)]∧nh=[]∧F.R08_parts_j1 (F.R08_parts_l2 (F.R08_parts_l3 a0 f33) a0 y31 f36) y34 y61=some r) ?_ ?_
   ·refine A.xl 0 ?_
    refine A.q0 [] [] [.n,.n,.n] [(75,.bool (decide (r58<0)))] ?_
    refine A.AL.cnp (j:=75) rfl hF (fun hb hF=>?_) (fun hb hF=>?_)
    ·refine A.q0 [] [] [.off,.off,.off,.off,.off,.off,.off,.n] [(83,.bool true)] ?_
     refine A.AL.done ?_
     exact A.j ⟨true,rfl,rfl,hF⟩
    refine A.q0 [1] [] [.on .n,.on (.b 0 0),.on .n] [(77,.slice A0_ ((a0).length) c1_),(78,.int .i64 r58)] ?_
    refine A.AL.on (dj:=75) rfl rfl ?_
    obtain⟨x63,hv64,hF⟩:=A.bd_some hF
    refine A.AL.ixs 0 4323 hv64 fun ho65=>?_
    intro A66 c67 b68 o69
    refine A.q0 [] [4323] [.on .n,.on (.e 0 1),.on .n,.n] [(83,.bool (decide (x63.2.1=15)))] ?_
    refine A.AL.done ?_
    exact A.j ⟨(decide (x63.2.1=15)),rfl,rfl,hF⟩
   rintro _ _ ⟨y61,rfl,rfl,hF⟩
   rw[F.R08_parts_j1]at hF
   refine A.AX.cnb rfl hF (fun hb hF=>?_) (fun hb hF=>?_)
   ·refine A.xl 1 ?_
    refine A.q0 [] [] [.n] [(2,.int .i64 80)] ?_
    refine A.dx 1 ?_
    obtain rfl:=Option.some.inj hF
    exact A.rt1 [] ⟨rfl,rfl,(A.hasl .i64 (80) rfl)⟩
   refine A.xl 3 ?_
   obtain⟨hc62,hF⟩:=A.gd_some hF
   refine A.q [] [] [.n,.n,.n] [Z.R64 (y34+1)] [(6,.int .i64 (y34+1))] hc62 ?_
   refine A.AL.done ?_
   exact A.j ⟨_,Nat.lt_succ_self _,⟨(y34+1),rfl,rfl,(Z.i64_has hc62),hF⟩⟩
  refine A.xl 3 ?_
  obtain⟨hc70,hF⟩:=A.gd_some hF
  refine A.q [] [] [.n,.n,.n] [Z.R64 (y31+1)] [(5,.int .i64 (y31+1))] hc70 ?_
  refine A.AL.done ?_
  exact A.j ⟨_,Nat.lt_succ_self _,⟨(y31+1),rfl,rfl,(Z.i64_has hc70),hF⟩⟩
 refine A.xl 3 ?_
 refine A.q0 [] [] [.n] [(2,.int .i64 0)] ?_
 refine A.dx 1 ?_
 obtain rfl:=Option.some.inj hF
 exact A.rt1 [] ⟨rfl,rfl,(A.hasl .i64 (0) rfl)⟩
end Go.Proofs.YtocfaokgoflmhaaGreatDoor
end
section
set_option linter.unusedVariables false
set_option linter.unusedSimpArgs false
set_option maxRecDepth 20000
set_option maxHeartbeats 8000000
set_option synthInstance.maxSize 1000000
set_option synthInstance.maxHeartbeats 400000
namespace Go.Proofs.YtocfaokgoflmhaaGreatDoor
open Go.RowKit
def F.R08_ready_j1 (k1:Int→Option Bool)(y3:Int)(y6:Bool):Option Bool:=if y6=true then(some false)else(A.gd (Z.R64 (y3+1)) (k1 (y3+1)))
def F.R08_ready_l2 (a0:D23)(a1:D69)(a2:(List Bool)):Nat→Int→Option Bool
 |0,_=>none
 |f+1,y3=>if y3<((a1.2.2.1).length:Int)then(if a1.2.1≠14 then((A.ix a1.2.2.1 y3).bind fun x8=>((F.R08_index a0 x8).bind fun r14=>((A.ix a2 r14).bind fun x17=>(F.R08_ready_j1 (F.R08_ready_l2 a0 a1 a2 f) y3 (!x17)))))else(F.R08_ready_j1 (F.R08_ready_l2 a0 a1 a2 f) y3 false))else(some true)
def F.R08_ready (a0:D23)(a1:D69)(a2:(List Bool)):Option Bool:=F.R08_ready_l2 a0 a1 a2 A.FU 0
theorem R08_ready_ok (a0:D23)(a1:D69)(a2:(List Bool))(A0_:Option Addr)(c1_:Nat)(A4_:Option Addr)(c5_:Nat)(A12_:Option Addr)(c13_:Nat)(h2_:IntKind.i64.has a1.1)(h3_:IntKind.i64.has a1.2.1)(h6_:IntKind.i64.has a1.2.2.2.1.1)(h7_:IntKind.i64.has a1.2.2.2.1.2.1)(h8_:a1.2.2.2.1.2.2.size≤maxLen)(h9_:a1.2.2.2.2.1.size≤maxLen)(h10_:IntKind.i64.has a1.2.2.2.2.2.1)(h11_:IntKind.i64.has a1.2.2.2.2.2.2)(r:Bool)(hF:F.R08_ready a0 a1 a2=some r):
    A.Ct Tryz.prog 111 [.agg #[.slice A0_ ((a0).length) c1_],.agg #[.int .i64 a1.1,.int .i64 a1.2.1,.slice A4_ ((a1.2.2.1).length) c5_,.int .i64 a1.2.2.2.1.1,.int .i64 a1.2.2.2.1.2.1,.string a1.2.2.2.1.2.2,.string a1.2.2.2.2.1,.int .i64 a1.2.2.2.2.2.1,.int .i64 a1.2.2.2.2.2.2],.slice A12_ ((a2).length) c13_] [(0,.sh (.slice T69) [.slice A0_ (a0).length c1_] a0),(1,.sh (.slice (Z.Ty.int .i64)) [.slice A4_ (a1.2.2.1).length c5_] a1.2.2.1),(2,.ln Z.Ty.bool A12_ c13_ a2)] [] (fun v H'=>v=.bool r∧H'=[]):=by
 refine A.Ct.enter Tryz.func111 rfl Tryz.ntmps111 rfl fun w0 F0=>?_
 rw[F.R08_ready]at hF
 refine A.xl 1 ?_
 refine A.AL.box 3 (cs:=[.slice A0_ ((a0).length) c1_]) fun g1=>?_
 refine A.AL.box 4 (cs:=[.int .i64 a1.1,.int .i64 a1.2.1,.slice A4_ ((a1.2.2.1).length) c5_,.int .i64 a1.2.2.2.1.1,.int .i64 a1.2.2.2.1.2.1,.string a1.2.2.2.1.2.2,.string a1.2.2.2.2.1,.int .i64 a1.2.2.2.2.2.1,.int .i64 a1.2.2.2.2.2.2]) fun g2=>?_
 refine A.q0 [] [] [.n] [] ?_
 refine A.dl 3 ?_
 refine A.q0 [] [] [.n] [(7,.int .i64 0)] ?_
 refine A.dx 2 ?_
 refine A.lp_ [2,3,4] [0,1,2,3,4] (fun f nl nh=>∃(y3:Int),nl=[(7,.int .i64 y3)]∧nh=[]∧IntKind.i64.has y3∧F.R08_ready_l2 a0 a1 a2 f y3=some r) ⟨0,rfl,rfl,(A.hasl .i64 (0) rfl),hF⟩ ?_
 rintro f5 _ _ ⟨y3,rfl,rfl,hy4,hF⟩
 rcases f5 with _|f5
 ·exact A.no0 hF
 rw[F.R08_ready_l2]at hF
 refine A.xl 2 ?_
 refine A.q0 [4] [] [.n,.n,.b 0 2,.n,.n] [(12,.bool (decide (y3<((a1.2.2.1).length:Int))))] ?_
 refine A.dx 1 ?_
 refine A.AX.cnd rfl hF (fun hb hF=>?_) (fun hb hF=>?_)
 ·refine A.xx 4 ?_
  refine A.AX.join [2,3,4,7] [0,1,2,3,4] (fun nl nh=>∃(y6:Bool),nl=[(30,.bool y6)]∧nh=[]∧F.R08_ready_j1 (F.R08_ready_l2 a0 a1 a2 f5) y3 y6=some r) ?_ ?_
  ·refine A.AX.dr mixed 16 16 (A.mb 16 0) ?_
   refine A.hq A.pb [] [0,1,2,3,4] [4] [] (A.mb 16 15) 12 [(0,.n),(1,.b 0 1),(2,.n),(3,.n)] [(18,.bool (decide (a1.2.1≠14)))] ?_
   refine A.AH.cnp (j:=18) rfl hF (fun hb hF=>?_) (fun hb hF=>?_)
   ·refine A.hq A.pb [0,1,2,3,4] [0,1,2,3,4] [3,4] [] (A.mb 16 511) 7 [(4,.on .n),(5,.on (.b 0 0)),(6,.on .n),(8,.on .n),(7,.on (.b 1 2))] [(19,.slice A12_ ((a2).length) c13_),(20,.agg #[.slice A0_ ((a0).length) c1_]),(23,.int .i64 y3),(22,.slice A4_ ((a1.2.2.1).length) c5_)] ?_
    obtain⟨x8,hv9,hF⟩:=A.bd_some hF
    refine A.AH.pks 1 89 hv9 fun ho10=>?_
    intro b12 o13 hA11
    refine A.AH.vg A.pb [0,1,2,3,4] [0,1,2,3,4,89] 9 (A.mb 16 1023) (dj:=18) rfl (fun a w hf hh=>A.r_ixa (t:=(Z.Ty.int .i64)) hv9 hA11 hf) ?_
    refine A.hq A.pb [0,1,2,3,4,89] [0,1,2,3,4,89] [] [89] (A.mb 16 2047) 5 [(10,.on (.e 0 0))] [(25,.int .i64 x8)] ?_
    refine A.AH.one 11 ?_
    refine A.AL.on (dj:=18) rfl rfl ?_
    obtain⟨r14,hv15,hF⟩:=A.bd_some hF
    refine A.AL.call 90 [] (first:=[]) (cap:=[]) cf110 (R08_index_ok a0 x8 A0_ c1_ ho10 r14 hv15) (.s 0 .nil) ?_
    rintro _ _ ⟨rfl,rfl,hr16⟩
    refine⟨by kernel_rfl,?_⟩
    refine A.AH.nx (A.mb 16 4095) [0,1,2,3,4,89] ?_
    obtain⟨x17,hv18,hF⟩:=A.bd_some hF
    refine A.AH.pkl 2 130 hv18 fun ho19=>?_
    intro b21 o22 hA20
    refine A.AH.vg A.pb [0,1,2,3,4,89] [0,1,2,3,4,89,130] 12 (A.mb 16 8191) (dj:=18) rfl (fun a w hf hh=>A.r_ixa (t:=Z.Ty.bool) hv18 hA20 hf) ?_
    refine A.hq A.pb [0,1,2,3,4,89,130] [0,1,2,3,4,89,130] [] [130] (A.mb 16 65535) 0 [(13,.on (.e 0 0)),(14,.on .n),(15,.n)] [(30,.bool (!x17))] ?_
    refine A.AH.done ?_
    exact A.j ⟨(!x17),rfl,rfl,hF⟩
   refine A.hq A.pb [0,1,2,3,4] [0,1,2,3,4] [] [] (A.mb 16 65535) 0 [(4,.off),(5,.off),(6,.off),(8,.off),(7,.off),(9,.off),(10,.off),(11,.off),(12,.off),(13,.off),(14,.off),(15,.n)] [(30,.bool false)] ?_
   refine A.AH.done ?_
   exact A.j ⟨false,rfl,rfl,hF⟩
  rintro _ _ ⟨y6,rfl,rfl,hF⟩
  rw[F.R08_ready_j1]at hF
  refine A.AX.cnb rfl hF (fun hb hF=>?_) (fun hb hF=>?_)
  ·refine A.xl 1 ?_
   refine A.q0 [] [] [.n] [(6,.bool false)] ?_
   refine A.dx 1 ?_
   obtain rfl:=Option.some.inj hF
   exact A.rt1 [] ⟨rfl,rfl⟩
  refine A.xl 3 ?_
  obtain⟨hc7,hF⟩:=A.gd_some hF
  refine A.q [] [] [.n,.n,.n] [Z.R64 (y3+1)] [(7,.int .i64 (y3+1))] hc7 ?_
  refine A.AL.done ?_
  exact A.j ⟨_,Nat.lt_succ_self _,⟨(y3+1),rfl,rfl,(Z.i64_has hc7),hF⟩⟩
 refine A.xl 3 ?_
 refine A.q0 [] [] [.n] [(6,.bool true)] ?_
 refine A.dx 1 ?_
 obtain rfl:=Option.some.inj hF
 exact A.rt1 [] ⟨rfl,rfl⟩
def F.R08_order_j1 (k5:Int→Int→Option ((List Int)×Bool))(y14:Int)(y17:Int):Option ((List Int)×Bool):=A.gd (Z.R64 (y14+1)) (k5 y17 (y14+1))
def F.R08_order_j2 (k5:Int→Int→Option ((List Int)×Bool))(y12:Int)(y14:Int)(y20:Bool):Option ((List Int)×Bool):=if y20=true then(F.R08_order_j1 k5 y14 y14)else(F.R08_order_j1 k5 y14 y12)
def F.R08_order_l3 (k4:(List Bool)→(List Int)→Option ((List Int)×Bool))(a0:D23)(xs6:List Bool)(xs10:List Int):Nat→Int→Int→Option ((List Int)×Bool)
 |0,_,_=>none
 |f+1,y12,y14=>if(bif decide (y14<((a0).length:Int))then decide (y14<((a0).length:Int))else false)=true then(if y12<0 then((A.ix xs6 y14).bind fun x21=>(if(!x21)=true then((A.ix a0 y14).bind fun x26=>((F.R08_ready a0 (x26.1,x26.2.1,x26.2.2.1,(x26.2.2.2.1.1,x26.2.2.2.1.2.1,x26.2.2.2.1.2.2),x26.2.2.2.2.1,x26.2.2.2.2.2.1,x26.2.2.2.2.2.2) xs6).bind fun r34=>(F.R08_order_j2 (F.R08_order_l3 k4 a0 xs6 xs10 f) y12 y14 r34)))else(F.R08_order_j2 (F.R08_order_l3 k4 a0 xs6 xs10 f) y12 y14 false)))else(F.R08_order_j2 (F.R08_order_l3 k4 a0 xs6 xs10 f) y12 y14 false))else(if y12<0 then(some ([],false))else((A.ix xs6 y12).bind fun x36=>(A.gd ((List.length (α:=Int) xs10+List.length (α:=Int) [y12])*8≤140737488355328) (k4 (xs6.set y12.toNat true) (xs10++[y12])))))
def F.R08_order_l4 (a0:D23):Nat→(List Bool)→(List Int)→Option ((List Int)×Bool)
 |0,_,_=>none
 |f+1,xs6,xs10=>if((xs10).length:Int)<((a0).length:Int)then(F.R08_order_l3 (F.R08_order_l4 a0 f) a0 xs6 xs10 A.FU (-1) 0)else(some (xs10,true))
def F.R08_order (a0:D23):Option ((List Int)×Bool):=A.gd (1*((a0).length)≤140737488355328) (F.R08_order_l4 a0 A.FU (List.replicate ((a0).length) false) [])
theorem R08_order_ok (a0:D23)(A0_:Option Addr)(c1_:Nat)(r:(List Int)×Bool)(hF:F.R08_order a0=some r):
    A.Ct Tryz.prog 83 [.agg #[.slice A0_ ((a0).length) c1_]] [(0,.sh (.slice T69) [.slice A0_ (a0).length c1_] a0)] [] (fun v H'=>∃(A0':Option Addr) (c1':Nat),v=.tuple #[.slice A0' ((r.1).length) c1',.bool r.2]∧H'=[(0,.own (Z.Ty.int .i64) 3 A0' c1' r.1)]):=by
 refine A.Ct.enter Tryz.func83 rfl Tryz.ntmps83 rfl fun w0 F0=>?_
 rw[F.R08_order]at hF
 refine A.xl 1 ?_
 refine A.AL.box 1 (cs:=[.slice A0_ ((a0).length) c1_]) fun g1=>?_
 refine A.q0 [] [] [.n,.n] [] ?_
 refine A.dl 2 ?_
 refine A.q0 [] [] [.n] [(4,.slice none 0 0)] ?_
 refine A.dl 2 ?_
 refine A.q0 [1] [] [.n,.b 0 0,.n] [(10,.int .i64 ((a0).length:Int))] ?_
 obtain⟨hc3,hF⟩:=A.gd_some hF
 refine A.AL.mks 2 (t:=Z.Ty.bool) (u:=(a0).length) (false:Bool) hc3 inf4 (fun g2=>?_) rfl rfl rfl rfl rfl
 refine A.q0 [] [] [.n] [(5,.slice (some ⟨g2,0,none⟩) ((a0).length) ((a0).length))] ?_
 refine A.dx 3 ?_
 refine A.nil 145 (Z.Ty.int .i64) 3 ?_
 refine A.lp_ [1,5] [0,1] (fun f nl nh=>∃(xs6:List Bool),∃(xs10:List Int),∃(A8:Option Addr),∃(c9:Nat),nl=[(4,.slice A8 ((xs10).length) c9)]∧nh=[(2,.own Z.Ty.bool 4 (some ⟨g2,0,none⟩) ((a0).length) xs6),(145,.own (Z.Ty.int .i64) 3 A8 c9 xs10)]∧(a0).length=xs6.length∧F.R08_order_l4 a0 f xs6 xs10=some r) ⟨(List.replicate ((a0).length) false),[],none,0,rfl,rfl,(by rw[List.length_replicate]),hF⟩ ?_
 rintro f11 _ _ ⟨xs6,xs10,A8,c9,rfl,rfl,hn7,hF⟩
 rcases f11 with _|f11
 ·exact A.no0 hF
 rw[F.R08_order_l4]at hF
 refine A.xl 2 ?_
 refine A.q0 [1] [] [.n,.n,.n,.b 0 0,.n,.n] [(17,.bool (decide (((xs10).length:Int)<((a0).length:Int))))] ?_
 refine A.dx 1 ?_
 refine A.AX.cnd rfl hF (fun hb hF=>?_) (fun hb hF=>?_)
 ·refine A.xl 4 ?_
  refine A.q0 [] [] [.n] [(6,.int .i64 (-1))] ?_
  refine A.dl 3 ?_
  refine A.q0 [] [] [.n] [(7,.int .i64 0)] ?_
  refine A.dx 2 ?_
  refine A.lp_ [1,4,5] [0,1,2,145] (fun f nl nh=>∃(y12:Int),∃(y14:Int),nl=[(6,.int .i64 y12),(7,.int .i64 y14)]∧nh=[]∧IntKind.i64.has y12∧IntKind.i64.has y14∧F.R08_order_l3 (F.R08_order_l4 a0 f11) a0 xs6 xs10 f y12 y14=some r) ⟨(-1),0,rfl,rfl,(A.hasl .i64 (-1) rfl),(A.hasl .i64 (0) rfl),hF⟩ ?_
  rintro f16 _ _ ⟨y12,y14,rfl,rfl,hy13,hy15,hF⟩
  rcases f16 with _|f16
  ·exact A.no0 hF
  rw[F.R08_order_l3]at hF
  refine A.xl 2 ?_
  refine A.q0 [1] [] [.n,.n,.b 0 0,.n,.n,.n,.sy .n,.sy .n,.sy .n,.sy .n,.pk] [(28,.bool (bif decide (y14<((a0).length:Int))then decide (y14<((a0).length:Int))else false))] ?_
  refine A.dx 1 ?_
  refine A.AX.cnb rfl hF (fun hb hF=>?_) (fun hb hF=>?_)
  ·refine A.xx 2 ?_
   refine A.AX.join [1,4,5,7] [0,1,2,145] (fun nl nh=>∃(y17:Int),nl=[(6,.int .i64 y17)]∧nh=[]∧IntKind.i64.has y17∧F.R08_order_j1 (F.R08_order_l3 (F.R08_order_l4 a0 f11) a0 xs6 xs10 f16) y14 y17=some r) ?_ ?_
   ·refine A.xx 1 ?_
    refine A.AX.join [1,4,5,6,7] [0,1,2,145] (fun nl nh=>∃(y20:Bool),nl=[(49,.bool y20)]∧nh=[]∧F.R08_order_j2 (F.R08_order_l3 (F.R08_order_l4 a0 f11) a0 xs6 xs10 f16) y12 y14 y20=some r) ?_ ?_
    ·refine A.AX.dr mixed 19 19 (A.mb 19 0) ?_
     refine A.hq A.pb [] [0,1,2,145] [] [] (A.mb 19 7) 16 [(0,.n),(1,.n),(2,.n)] [(33,.bool (decide (y12<0)))] ?_
     refine A.AH.cnp (j:=33) rfl hF (fun hb hF=>?_) (fun hb hF=>?_)
     ·refine A.hq A.pb [0,1,2,145] [0,1,2,145] [] [] (A.mb 19 31) 14 [(3,.on .n),(4,.on .n)] [(34,.slice (some ⟨g2,0,none⟩) ((a0).length) ((a0).length)),(35,.int .i64 y14)] ?_
      refine A.cst 34 (Z.slice_n (show(a0).length=(xs6).length from hn7)) ?_
      obtain⟨x21,hv22,hF⟩:=A.bd_some hF
      refine A.AH.pko 2 514 hv22 fun ho23=>?_
      intro g25 hA24
      refine A.AH.vg A.pb [0,1,2,145] [0,1,2,145,514] 5 (A.mb 19 63) (dj:=33) rfl (fun a w hf hh=>A.r_ixo (t:=Z.Ty.bool) hv22 hA24 hf) ?_
      refine A.hq A.pb [0,1,2,145,514] [0,1,2,145,514] [] [514] (A.mb 19 1023) 9 [(6,.on (.e 0 0)),(7,.on .n),(8,.n),(9,.n)] [(40,.bool (!x21))] ?_
      refine A.AH.cnd (j:=40) rfl hF (fun hF=>?_) (fun hF=>?_)
      ·refine A.hq A.pb [0,1,2,145,514] [0,1,2,145,514] [1] [] (A.mb 19 81919) 4 [(10,.on (.b 0 0)),(11,.on .n),(13,.on .n),(16,.on .n),(12,.on (.b 0 0))] [(41,.agg #[.slice A0_ ((a0).length) c1_]),(44,.int .i64 y14),(47,.slice (some ⟨g2,0,none⟩) ((a0).length) ((a0).length)),(43,.slice A0_ ((a0).length) c1_)] ?_
       obtain⟨x26,hv27,hF⟩:=A.bd_some hF
       refine A.AH.pks 0 515 hv27 fun ho28=>?_
       intro A30 c31 b32 o33 hA29
       refine A.AH.vg A.pb [0,1,2,145,514] [0,1,2,145,514,515,516] 14 (A.mb 19 98303) (dj:=40) rfl (fun a w hf hh=>A.r_ixa (t:=T69) hv27 hA29 hf) ?_
       refine A.hq A.pb [0,1,2,145,514,515,516] [0,1,2,145,514,515,516] [] [515] (A.mb 19 131071) 2 [(15,.on (.e 0 0))] [(46,.agg #[.int .i64 x26.1,.int .i64 x26.2.1,.slice A30 ((x26.2.2.1).length) c31,.int .i64 x26.2.2.2.1.1,.int .i64 x26.2.2.2.1.2.1,.string x26.2.2.2.1.2.2,.string x26.2.2.2.2.1,.int .i64 x26.2.2.2.2.2.1,.int .i64 x26.2.2.2.2.2.2])] ?_
       refine A.AH.one 17 ?_
       refine A.AL.on (dj:=40) rfl rfl ?_
       refine A.cst 47 (Z.slice_n (show(a0).length=(xs6).length from hn7)) ?_
       obtain⟨r34,hv35,hF⟩:=A.bd_some hF
       refine A.AL.call 517 [] (first:=[]) (cap:=[]) cf111 (R08_ready_ok a0 (x26.1,x26.2.1,x26.2.2.1,(x26.2.2.2.1.1,x26.2.2.2.1.2.1,x26.2.2.2.1.2.2),x26.2.2.2.2.1,x26.2.2.2.2.2.1,x26.2.2.2.2.2.2) xs6 A0_ c1_ A30 c31 (some ⟨g2,0,none⟩) ((a0).length) ho28.1 ho28.2.1 ho28.2.2.2.1.1 ho28.2.2.2.1.2.1 ho28.2.2.2.1.2.2 ho28.2.2.2.2.1 ho28.2.2.2.2.2.1 ho28.2.2.2.2.2.2 r34 hv35) (.s 0 (.s 516 (.o 2 .nil))) ?_
       rintro _ _ ⟨rfl,rfl⟩
       refine⟨by kernel_rfl,?_⟩
       refine A.AH.nx (A.mb 19 262143) [0,1,2,145,514,515,516] ?_
       refine A.hq A.pb [0,1,2,145,514,515,516] [0,1,2,145,514,515,516] [] [] (A.mb 19 524287) 0 [(18,.n)] [(49,.bool r34)] ?_
       refine A.AH.done ?_
       exact A.j ⟨r34,rfl,rfl,hF⟩
      refine A.hq A.pb [0,1,2,145,514] [0,1,2,145,514] [] [] (A.mb 19 524287) 0 [(10,.off),(11,.off),(13,.off),(16,.off),(12,.off),(14,.off),(15,.off),(17,.off),(18,.n)] [(49,.bool false)] ?_
      refine A.AH.done ?_
      exact A.j ⟨false,rfl,rfl,hF⟩
     refine A.hq A.pb [0,1,2,145] [0,1,2,145] [] [] (A.mb 19 524287) 0 [(3,.off),(4,.off),(5,.off),(6,.off),(7,.off),(8,.n),(9,.n),(10,.off),(11,.off),(13,.off),(16,.off),(12,.off),(14,.off),(15,.off),(17,.off),(18,.n)] [(49,.bool false)] ?_
     refine A.AH.done ?_
     exact A.j ⟨false,rfl,rfl,hF⟩
    rintro _ _ ⟨y20,rfl,rfl,hF⟩
    rw[F.R08_order_j2]at hF
    refine A.AX.cnb rfl hF (fun hb hF=>?_) (fun hb hF=>?_)
    ·refine A.xl 0 ?_
     refine A.q0 [] [] [.n,.n] [(6,.int .i64 y14)] ?_
     refine A.de 1 ?_
     exact A.j ⟨y14,rfl,rfl,hy15,hF⟩
    refine A.xe 2 ?_
    exact A.j ⟨y12,rfl,rfl,hy13,hF⟩
   rintro _ _ ⟨y17,rfl,rfl,hy18,hF⟩
   rw[F.R08_order_j1]at hF
   refine A.xl 0 ?_
   obtain⟨hc19,hF⟩:=A.gd_some hF
   refine A.q [] [] [.n,.n,.n] [Z.R64 (y14+1)] [(7,.int .i64 (y14+1))] hc19 ?_
   refine A.AL.done ?_
   exact A.j ⟨_,Nat.lt_succ_self _,⟨y17,(y14+1),rfl,rfl,hy18,(Z.i64_has hc19),hF⟩⟩
  refine A.xl 4 ?_
  refine A.q0 [] [] [.n,.n] [(52,.bool (decide (y12<0)))] ?_
  refine A.dx 1 ?_
  refine A.AX.cnd rfl hF (fun hb hF=>?_) (fun hb hF=>?_)
  ·refine A.xl 1 ?_
   refine A.q0 [] [] [.n,.n] [(2,.slice none 0 0),(3,.bool false)] ?_
   refine A.dx 1 ?_
   obtain rfl:=Option.some.inj hF
   refine A.nil 557 (Z.Ty.int .i64) 3 ?_
   exact A.rt2 [(0,557)] ⟨none,0,rfl,rfl⟩
  refine A.xl 3 ?_
  refine A.q0 [] [] [.n,.n] [(53,.slice (some ⟨g2,0,none⟩) ((a0).length) ((a0).length)),(54,.int .i64 y12)] ?_
  refine A.cst 53 (Z.slice_n (show(a0).length=(xs6).length from hn7)) ?_
  obtain⟨x36,hv37,hF⟩:=A.bd_some hF
  refine A.AL.ixo 2 558 hv37 fun ho38=>?_
  intro g39 hA40
  refine A.AL.setel 2 558 [558] (o:=0) (m:=1) (t:=Z.Ty.bool) (new:=[.bool true]) (es:=[.bool x36]) true hv37 hA40 rfl ?_
  refine A.dl 1 ?_
  refine A.q0 [] [] [.n,.n] [(56,.slice A8 ((xs10).length) c9),(57,.int .i64 y12)] ?_
  refine A.AL.bsl 559 (ty:=(Z.Ty.int .i64)) (cs:=[.int .i64 y12]) [y12] ⟨⟨rfl,hy13⟩,rfl⟩ (fun g41=>?_) Tryz.zeroValue3 Tryz.sizeOf3
  obtain⟨hl44,hF⟩:=A.gd_some hF
  refine A.AL.app (k:=145) [] (A.rowO (k:=559) rfl) inf3 hl44 fun A42 c43=>?_
  refine A.q0 [] [] [.n] [(4,.slice A42 ((xs10++[y12]).length) c43)] ?_
  refine A.de 1 ?_
  exact A.j ⟨_,Nat.lt_succ_self _,⟨(xs6.set y12.toNat true),(xs10++[y12]),A42,c43,rfl,rfl,(by rw[List.length_set];exact hn7),hF⟩⟩
 refine A.xl 3 ?_
 refine A.q0 [] [] [.n,.n,.n] [(2,.slice A8 ((xs10).length) c9),(3,.bool true)] ?_
 refine A.dx 1 ?_
 obtain rfl:=Option.some.inj hF
 exact A.rt2 [(0,145)] ⟨A8,c9,rfl,rfl⟩
def F.R08_depth_j1 (y6:Int):Option Int:=some y6
def F.R08_depth_j2 (y4:Int):Option Int:=if(4:Int)<y4 then(F.R08_depth_j1 (-1))else(F.R08_depth_j1 y4)
def F.R08_depth_j3 (y2:Int)(y23:Bool):Option Int:=if y23=true then(if y2≠0 then(F.R08_depth_j2 (-1))else(F.R08_depth_j2 y2))else(F.R08_depth_j2 y2)
def F.R08_depth_j4 (a0:D69)(a1:(List Int))(y2:Int)(y10:Bool):Option Int:=if y10=true then((A.ix a1 0).bind fun x11=>((A.ix a1 1).bind fun x17=>(if x11≠x17 then(F.R08_depth_j2 (-1))else(F.R08_depth_j2 y2))))else(if a0.2.1=11 then(F.R08_depth_j3 y2 (decide (a0.2.1=11)))else(if a0.2.1=16 then(F.R08_depth_j3 y2 (decide (a0.2.1=16)))else(F.R08_depth_j3 y2 (decide (a0.2.1=15)))))
def F.R08_depth_j5 (a0:D69)(a1:(List Int))(y2:Int):Option Int:=if a0.2.1=14 then(F.R08_depth_j2 a0.2.2.2.2.2.2)else(if a0.2.1=12 then(A.gd (Z.R64 (y2+1)) (F.R08_depth_j2 (y2+1)))else(if a0.2.1=13 then(A.gd (Z.R64 (y2-1)) (F.R08_depth_j2 (y2-1)))else(if a0.2.1=5 then(F.R08_depth_j4 a0 a1 y2 (decide (a0.2.1=5)))else(F.R08_depth_j4 a0 a1 y2 (decide (a0.2.1=9))))))
def F.R08_depth (a0:D69)(a1:(List Int)):Option Int:=if(0:Int)<((a1).length:Int)then((A.ix a1 0).bind fun x24=>(F.R08_depth_j5 a0 a1 x24))else(F.R08_depth_j5 a0 a1 0)
theorem R08_depth_ok (a0:D69)(a1:(List Int))(A2_:Option Addr)(c3_:Nat)(A10_:Option Addr)(c11_:Nat)(h0_:IntKind.i64.has a0.1)(h1_:IntKind.i64.has a0.2.1)(h4_:IntKind.i64.has a0.2.2.2.1.1)(h5_:IntKind.i64.has a0.2.2.2.1.2.1)(h6_:a0.2.2.2.1.2.2.size≤maxLen)(h7_:a0.2.2.2.2.1.size≤maxLen)(h8_:IntKind.i64.has a0.2.2.2.2.2.1)(h9_:IntKind.i64.has a0.2.2.2.2.2.2)(r:Int)(hF:F.R08_depth a0 a1=some r):
    A.Ct Tryz.prog 112 [.agg #[.int .i64 a0.1,.int .i64 a0.2.1,.slice A2_ ((a0.2.2.1).length) c3_,.int .i64 a0.2.2.2.1.1,.int .i64 a0.2.2.2.1.2.1,.string a0.2.2.2.1.2.2,.string a0.2.2.2.2.1,.int .i64 a0.2.2.2.2.2.1,.int .i64 a0.2.2.2.2.2.2],.slice A10_ ((a1).length) c11_] [(0,.sh (.slice (Z.Ty.int .i64)) [.slice A2_ (a0.2.2.1).length c3_] a0.2.2.1),(1,.ln (Z.Ty.int .i64) A10_ c11_ a1)] [] (fun v H'=>v=.int .i64 r∧H'=[]∧IntKind.i64.has r):=by
 refine A.Ct.enter Tryz.func112 rfl Tryz.ntmps112 rfl fun w0 F0=>?_
 rw[F.R08_depth]at hF
 refine A.xl 1 ?_
 refine A.AL.box 2 (cs:=[.int .i64 a0.1,.int .i64 a0.2.1,.slice A2_ ((a0.2.2.1).length) c3_,.int .i64 a0.2.2.2.1.1,.int .i64 a0.2.2.2.1.2.1,.string a0.2.2.2.1.2.2,.string a0.2.2.2.2.1,.int .i64 a0.2.2.2.2.2.1,.int .i64 a0.2.2.2.2.2.2]) fun g1=>?_
 refine A.q0 [] [] [.n] [] ?_
 refine A.dl 2 ?_
 refine A.q0 [] [] [.n] [(5,.int .i64 0)] ?_
 refine A.dx 1 ?_
 refine A.AX.join [1,2] [0,1,2] (fun nl nh=>∃(y2:Int),nl=[(5,.int .i64 y2)]∧nh=[]∧IntKind.i64.has y2∧F.R08_depth_j5 a0 a1 y2=some r) ?_ ?_
 ·refine A.xl 1 ?_
  refine A.q0 [] [] [.n,.n,.n] [(8,.bool (decide ((0:Int)<((a1).length:Int))))] ?_
  refine A.dx 1 ?_
  refine A.AX.cnd rfl hF (fun hb hF=>?_) (fun hb hF=>?_)
  ·refine A.xl 0 ?_
   refine A.q0 [] [] [.n] [(9,.slice A10_ ((a1).length) c11_)] ?_
   obtain⟨x24,hv25,hF⟩:=A.bd_some hF
   refine A.AL.ixl 1 3 hv25 fun ho26=>?_
   intro b27 o28
   refine A.q0 [] [3] [.e 0 0,.n] [(5,.int .i64 x24)] ?_
   refine A.AL.done ?_
   exact A.j ⟨x24,rfl,rfl,ho26,hF⟩
  refine A.xe 1 ?_
  exact A.j ⟨0,rfl,rfl,(A.hasl .i64 (0) rfl),hF⟩
 rintro _ _ ⟨y2,rfl,rfl,hy3,hF⟩
 rw[F.R08_depth_j5]at hF
 refine A.AX.join [] [] (fun nl nh=>∃(y4:Int),nl=[(5,.int .i64 y4)]∧nh=[]∧IntKind.i64.has y4∧F.R08_depth_j2 y4=some r) ?_ ?_
 ·refine A.xl 1 ?_
  refine A.q0 [2] [] [.n,.b 0 1] [(13,.int .i64 a0.2.1)] ?_
  refine A.dl 3 ?_
  refine A.q0 [] [] [.n,.n] [(14,.bool (decide (a0.2.1=14)))] ?_
  refine A.dx 1 ?_
  refine A.AX.cnd rfl hF (fun hb hF=>?_) (fun hb hF=>?_)
  ·refine A.xl 0 ?_
   refine A.q0 [2] [] [.n,.b 0 8,.n] [(5,.int .i64 a0.2.2.2.2.2.2)] ?_
   refine A.de 1 ?_
   exact A.j ⟨a0.2.2.2.2.2.2,rfl,rfl,h9_,hF⟩
  refine A.xl 1 ?_
  refine A.q0 [] [] [.n,.n] [(18,.bool (decide (a0.2.1=12)))] ?_
  refine A.dx 1 ?_
  refine A.AX.cnd rfl hF (fun hb hF=>?_) (fun hb hF=>?_)
  ·refine A.xl 0 ?_
   obtain⟨hc8,hF⟩:=A.gd_some hF
   refine A.q [] [] [.n,.n,.n] [Z.R64 (y2+1)] [(5,.int .i64 (y2+1))] hc8 ?_
   refine A.de 1 ?_
   exact A.j ⟨(y2+1),rfl,rfl,(Z.i64_has hc8),hF⟩
  refine A.xl 1 ?_
  refine A.q0 [] [] [.n,.n] [(22,.bool (decide (a0.2.1=13)))] ?_
  refine A.dx 1 ?_
  refine A.AX.cnd rfl hF (fun hb hF=>?_) (fun hb hF=>?_)
  ·refine A.xl 0 ?_
   obtain⟨hc9,hF⟩:=A.gd_some hF
   refine A.q [] [] [.n,.n,.n] [Z.R64 (y2-1)] [(5,.int .i64 (y2-1))] hc9 ?_
   refine A.de 1 ?_
   exact A.j ⟨(y2-1),rfl,rfl,(Z.i64_has hc9),hF⟩
  refine A.AX.join [1,5,13] [1] (fun nl nh=>∃(y10:Bool),nl=[(26,.bool y10)]∧nh=[]∧F.R08_depth_j4 a0 a1 y2 y10=some r) ?_ ?_
  ·refine A.xl 1 ?_
   refine A.q0 [] [] [.n,.n] [(26,.bool (decide (a0.2.1=5)))] ?_
   refine A.dx 1 ?_
   refine A.AX.cnd rfl hF (fun hb hF=>?_) (fun hb hF=>?_)
   ·refine A.xe 1 ?_
    exact A.j ⟨(decide (a0.2.1=5)),rfl,rfl,hF⟩
   refine A.xl 0 ?_
   refine A.q0 [] [] [.n,.n] [(26,.bool (decide (a0.2.1=9)))] ?_
   refine A.AL.done ?_
   exact A.j ⟨(decide (a0.2.1=9)),rfl,rfl,hF⟩
  rintro _ _ ⟨y10,rfl,rfl,hF⟩
  rw[F.R08_depth_j4]at hF
  refine A.AX.cnb rfl hF (fun hb hF=>?_) (fun hb hF=>?_)
  ·refine A.xx 1 ?_
   refine A.AX.dr mixed 7 7 (A.mb 7 0) ?_
   refine A.hq A.pb [] [1] [] [] (A.mb 7 9) 5 [(0,.n),(3,.n)] [(29,.slice A10_ ((a1).length) c11_),(32,.slice A10_ ((a1).length) c11_)] ?_
   obtain⟨x11,hv12,hF⟩:=A.bd_some hF
   refine A.AH.pkl 1 4 hv12 fun ho13=>?_
   intro b15 o16 hA14
   refine A.AH.v A.pb [1] [1,4] 1 (A.mb 7 11) rfl (fun a w hf hh=>A.r_ixa (t:=(Z.Ty.int .i64)) hv12 hA14 hf) ?_
   refine A.hq A.pb [1,4] [1,4] [] [4] (A.mb 7 15) 3 [(2,.e 0 0)] [(31,.int .i64 x11)] ?_
   obtain⟨x17,hv18,hF⟩:=A.bd_some hF
   refine A.AH.pkl 1 5 hv18 fun ho19=>?_
   intro b21 o22 hA20
   refine A.AH.v A.pb [1,4] [1,4,5] 4 (A.mb 7 31) rfl (fun a w hf hh=>A.r_ixa (t:=(Z.Ty.int .i64)) hv18 hA20 hf) ?_
   refine A.hq A.pb [1,4,5] [1,4,5] [] [5] (A.mb 7 127) 0 [(5,.e 0 0),(6,.n)] [(35,.bool (decide (x11≠x17)))] ?_
   refine A.AH.done ?_
   refine A.ex 1 ?_
   refine A.AX.cnd rfl hF (fun hb hF=>?_) (fun hb hF=>?_)
   ·refine A.xl 0 ?_
    refine A.q0 [] [] [.n] [(5,.int .i64 (-1))] ?_
    refine A.de 1 ?_
    exact A.j ⟨(-1),rfl,rfl,(A.hasl .i64 (-1) rfl),hF⟩
   refine A.xe 2 ?_
   exact A.j ⟨y2,rfl,rfl,hy3,hF⟩
  refine A.AX.join [5] [] (fun nl nh=>∃(y23:Bool),nl=[(36,.bool y23)]∧nh=[]∧F.R08_depth_j3 y2 y23=some r) ?_ ?_
  ·refine A.xl 1 ?_
   refine A.q0 [] [] [.n,.n] [(36,.bool (decide (a0.2.1=11)))] ?_
   refine A.dx 1 ?_
   refine A.AX.cnd rfl hF (fun hb hF=>?_) (fun hb hF=>?_)
   ·refine A.xe 1 ?_
    exact A.j ⟨(decide (a0.2.1=11)),rfl,rfl,hF⟩
   refine A.xl 1 ?_
   refine A.q0 [] [] [.n,.n] [(36,.bool (decide (a0.2.1=16)))] ?_
   refine A.dx 1 ?_
   refine A.AX.cnd rfl hF (fun hb hF=>?_) (fun hb hF=>?_)
   ·refine A.xe 1 ?_
    exact A.j ⟨(decide (a0.2.1=16)),rfl,rfl,hF⟩
   refine A.xl 0 ?_
   refine A.q0 [] [] [.n,.n] [(36,.bool (decide (a0.2.1=15)))] ?_
   refine A.AL.done ?_
   exact A.j ⟨(decide (a0.2.1=15)),rfl,rfl,hF⟩
  rintro _ _ ⟨y23,rfl,rfl,hF⟩
  rw[F.R08_depth_j3]at hF
  refine A.AX.cnb rfl hF (fun hb hF=>?_) (fun hb hF=>?_)
  ·refine A.xl 1 ?_
   refine A.q0 [] [] [.n,.n] [(41,.bool (decide (y2≠0)))] ?_
   refine A.dx 1 ?_
   refine A.AX.cnd rfl hF (fun hb hF=>?_) (fun hb hF=>?_)
   ·refine A.xl 0 ?_
    refine A.q0 [] [] [.n] [(5,.int .i64 (-1))] ?_
    refine A.de 1 ?_
    exact A.j ⟨(-1),rfl,rfl,(A.hasl .i64 (-1) rfl),hF⟩
   refine A.xe 2 ?_
   exact A.j ⟨y2,rfl,rfl,hy3,hF⟩
  refine A.xe 2 ?_
  exact A.j ⟨y2,rfl,rfl,hy3,hF⟩
 rintro _ _ ⟨y4,rfl,rfl,hy5,hF⟩
 rw[F.R08_depth_j2]at hF
 refine A.AX.join [] [] (fun nl nh=>∃(y6:Int),nl=[(5,.int .i64 y6)]∧nh=[]∧IntKind.i64.has y6∧F.R08_depth_j1 y6=some r) ?_ ?_
 ·refine A.xl 1 ?_
  refine A.q0 [] [] [.n,.n] [(43,.bool (decide ((4:Int)<y4)))] ?_
  refine A.dx 1 ?_
  refine A.AX.cnd rfl hF (fun hb hF=>?_) (fun hb hF=>?_)
  ·refine A.xl 0 ?_
   refine A.q0 [] [] [.n] [(5,.int .i64 (-1))] ?_
   refine A.AL.done ?_
   exact A.j ⟨(-1),rfl,rfl,(A.hasl .i64 (-1) rfl),hF⟩
  refine A.xe 1 ?_
  exact A.j ⟨y4,rfl,rfl,hy5,hF⟩
 rintro _ _ ⟨y6,rfl,rfl,hy7,hF⟩
 rw[F.R08_depth_j1]at hF
 refine A.xl 1 ?_
 refine A.q0 [] [] [.n,.n] [(4,.int .i64 y6)] ?_
 refine A.dx 1 ?_
 obtain rfl:=Option.some.inj hF
 exact A.rt1 [] ⟨rfl,rfl,hy7⟩
end Go.Proofs.YtocfaokgoflmhaaGreatDoor
end
section
set_option linter.unusedVariables false
set_option linter.unusedSimpArgs false
set_option maxRecDepth 20000
set_option maxHeartbeats 8000000
set_option synthInstance.maxSize 1000000
set_option synthInstance.maxHeartbeats 400000
namespace Go.Proofs.YtocfaokgoflmhaaGreatDoor
open Go.RowKit
def F.R08_depths_l1 (k5:(List Int)→Int→Option ((List Int)×Bool))(a0:D23)(a1:(List Int))(xs6:List Int)(y8:Int)(x17:D69):Nat→(List Int)→Int→Option ((List Int)×Bool)
 |0,_,_=>none
 |f+1,xs28,y29=>if y29<((x17.2.2.1).length:Int)then((A.ix x17.2.2.1 y29).bind fun x32=>((F.R08_index a0 x32).bind fun r38=>((A.ix xs6 r38).bind fun x41=>(A.gd ((List.length (α:=Int) xs28+List.length (α:=Int) [x41])*8≤140737488355328) (A.gd (Z.R64 (y29+1)) ((F.R08_depths_l1 k5 a0 a1 xs6 y8 x17 f) (xs28++[x41]) (y29+1)))))))else((A.ix a1 y8).bind fun x51=>((F.R08_depth (x17.1,x17.2.1,x17.2.2.1,(x17.2.2.2.1.1,x17.2.2.2.1.2.1,x17.2.2.2.1.2.2),x17.2.2.2.2.1,x17.2.2.2.2.2.1,x17.2.2.2.2.2.2) xs28).bind fun r57=>((A.ix xs6 x51).bind fun x60=>((A.ix a1 y8).bind fun x65=>((A.ix (xs6.set x51.toNat r57) x65).bind fun x70=>(if x70<0 then(some ([],false))else(A.gd (Z.R64 (y8+1)) (k5 (xs6.set x51.toNat r57) (y8+1)))))))))
def F.R08_depths_j2 (k7:Int→Option ((List Int)×Bool))(y76:Int)(y87:Bool):Option ((List Int)×Bool):=if y87=true then(some ([],false))else(A.gd (Z.R64 (y76+1)) (k7 (y76+1)))
def F.R08_depths_l3 (a0:D23)(xs6:List Int):Nat→Int→Option ((List Int)×Bool)
 |0,_=>none
 |f+1,y76=>if y76<((a0).length:Int)then((A.ix a0 y76).bind fun x79=>(if x79.2.1=14 then((A.ix x79.2.2.1 0).bind fun x89=>((F.R08_index a0 x89).bind fun r95=>((A.ix xs6 r95).bind fun x98=>(F.R08_depths_j2 (F.R08_depths_l3 a0 xs6 f) y76 (decide (x98≠x79.2.2.2.2.2.2))))))else(F.R08_depths_j2 (F.R08_depths_l3 a0 xs6 f) y76 false)))else(some (xs6,true))
def F.R08_depths_l4 (a0:D23)(a1:(List Int)):Nat→(List Int)→Int→Option ((List Int)×Bool)
 |0,_,_=>none
 |f+1,xs6,y8=>if y8<((a1).length:Int)then((A.ix a1 y8).bind fun x11=>((A.ix a0 x11).bind fun x17=>(F.R08_depths_l1 (F.R08_depths_l4 a0 a1 f) a0 a1 xs6 y8 x17 A.FU [] 0)))else(F.R08_depths_l3 a0 xs6 A.FU 0)
def F.R08_depths (a0:D23)(a1:(List Int)):Option ((List Int)×Bool):=A.gd (8*((a0).length)≤140737488355328) (F.R08_depths_l4 a0 a1 A.FU (List.replicate ((a0).length) 0) 0)
theorem R08_depths_ok (a0:D23)(a1:(List Int))(A0_:Option Addr)(c1_:Nat)(A2_:Option Addr)(c3_:Nat)(r:(List Int)×Bool)(hF:F.R08_depths a0 a1=some r):
    A.Ct Tryz.prog 84 [.agg #[.slice A0_ ((a0).length) c1_],.slice A2_ ((a1).length) c3_] [(0,.sh (.slice T69) [.slice A0_ (a0).length c1_] a0),(1,.ln (Z.Ty.int .i64) A2_ c3_ a1)] [] (fun v H'=>∃(A0':Option Addr) (c1':Nat),v=.tuple #[.slice A0' ((r.1).length) c1',.bool r.2]∧H'=[(0,.own (Z.Ty.int .i64) 3 A0' c1' r.1)]):=by
 refine A.Ct.enter Tryz.func84 rfl Tryz.ntmps84 rfl fun w0 F0=>?_
 rw[F.R08_depths]at hF
 refine A.xl 1 ?_
 refine A.AL.box 2 (cs:=[.slice A0_ ((a0).length) c1_]) fun g1=>?_
 refine A.q0 [] [] [.n,.n] [] ?_
 refine A.dl 2 ?_
 refine A.q0 [2] [] [.n,.b 0 0,.n] [(15,.int .i64 ((a0).length:Int))] ?_
 obtain⟨hc3,hF⟩:=A.gd_some hF
 refine A.AL.mks 3 (t:=(Z.Ty.int .i64)) (u:=(a0).length) (0:Int) hc3 inf3 (fun g2=>?_) rfl rfl rfl rfl ⟨rfl,by decide⟩
 refine A.q0 [] [] [.n] [(6,.slice (some ⟨g2,0,none⟩) ((a0).length) ((a0).length))] ?_
 refine A.dl 3 ?_
 refine A.q0 [] [] [.n] [(7,.int .i64 0)] ?_
 refine A.dx 2 ?_
 refine A.lp_ [1,2,6] [0,1,2] (fun f nl nh=>∃(xs6:List Int),∃(y8:Int),nl=[(7,.int .i64 y8)]∧nh=[(3,.own (Z.Ty.int .i64) 3 (some ⟨g2,0,none⟩) ((a0).length) xs6)]∧(a0).length=xs6.length∧IntKind.i64.has y8∧F.R08_depths_l4 a0 a1 f xs6 y8=some r) ⟨(List.replicate ((a0).length) 0),0,rfl,rfl,(by rw[List.length_replicate]),(A.hasl .i64 (0) rfl),hF⟩ ?_
 rintro f10 _ _ ⟨xs6,y8,rfl,rfl,hn7,hy9,hF⟩
 rcases f10 with _|f10
 ·exact A.no0 hF
 rw[F.R08_depths_l4]at hF
 refine A.xl 2 ?_
 refine A.q0 [] [] [.n,.n,.n,.n] [(20,.bool (decide (y8<((a1).length:Int))))] ?_
 refine A.dx 1 ?_
 refine A.AX.cnd rfl hF (fun hb hF=>?_) (fun hb hF=>?_)
 ·refine A.xx 5 ?_
  refine A.AX.dr mixed 9 10 (A.mb 10 0) ?_
  refine A.hq A.pb [] [0,1,2,3] [2] [] (A.mb 10 15) 6 [(0,.n),(2,.n),(3,.n),(1,.b 0 0)] [(25,.slice A2_ ((a1).length) c3_),(26,.int .i64 y8),(24,.slice A0_ ((a0).length) c1_)] ?_
  obtain⟨x11,hv12,hF⟩:=A.bd_some hF
  refine A.AH.pkl 1 996 hv12 fun ho13=>?_
  intro b15 o16 hA14
  refine A.AH.v A.pb [0,1,2,3] [0,1,2,3,996] 4 (A.mb 10 31) rfl (fun a w hf hh=>A.r_ixa (t:=(Z.Ty.int .i64)) hv12 hA14 hf) ?_
  refine A.hq A.pb [0,1,2,3,996] [0,1,2,3,996] [] [996] (A.mb 10 63) 4 [(5,.e 0 0)] [(28,.int .i64 x11)] ?_
  obtain⟨x17,hv18,hF⟩:=A.bd_some hF
  refine A.AH.pks 0 997 hv18 fun ho19=>?_
  intro A21 c22 b23 o24 hA20
  refine A.AH.v A.pb [0,1,2,3,996] [0,1,2,3,996,997,998] 6 (A.mb 10 127) rfl (fun a w hf hh=>A.r_ixa (t:=T69) hv18 hA20 hf) ?_
  refine A.hq A.pb [0,1,2,3,996,997,998] [0,1,2,3,996,997,998] [] [997] (A.mb 10 255) 2 [(7,.e 0 0)] [(30,.agg #[.int .i64 x17.1,.int .i64 x17.2.1,.slice A21 ((x17.2.2.1).length) c22,.int .i64 x17.2.2.2.1.1,.int .i64 x17.2.2.2.1.2.1,.string x17.2.2.2.1.2.2,.string x17.2.2.2.2.1,.int .i64 x17.2.2.2.2.2.1,.int .i64 x17.2.2.2.2.2.2])] ?_
  refine A.AH.one 8 ?_
  refine A.AL.alloc 999 (cs:=[.int .i64 0,.int .i64 0,.slice none 0 0,.int .i64 0,.int .i64 0,.string (ByteArray.mk #[]),.string (ByteArray.mk #[]),.int .i64 0,.int .i64 0]) Tryz.zeroValue70 fun g25=>?_
  refine A.AH.nx (A.mb 10 511) [0,1,2,3,996,997,998] ?_
  refine A.AH.one 9 ?_
  refine A.sw 999 [] [.int .i64 x17.1,.int .i64 x17.2.1,.slice A21 ((x17.2.2.1).length) c22,.int .i64 x17.2.2.2.1.1,.int .i64 x17.2.2.2.1.2.1,.string x17.2.2.2.1.2.2,.string x17.2.2.2.2.1,.int .i64 x17.2.2.2.2.2.1,.int .i64 x17.2.2.2.2.2.2] ?_
  refine A.AH.nm (A.mb 10 1023) ?_
  refine A.AH.done ?_
  refine A.el 2 ?_
  refine A.q0 [] [] [.n] [(9,.slice none 0 0)] ?_
  refine A.dl 3 ?_
  refine A.q0 [] [] [.n] [(10,.int .i64 0)] ?_
  refine A.dx 2 ?_
  refine A.nil 1089 (Z.Ty.int .i64) 3 ?_
  refine A.lp_ [1,2,6,7,8] [0,1,2,3,998,999] (fun f nl nh=>∃(xs28:List Int),∃(y29:Int),∃(A26:Option Addr),∃(c27:Nat),nl=[(9,.slice A26 ((xs28).length) c27),(10,.int .i64 y29)]∧nh=[(1089,.own (Z.Ty.int .i64) 3 A26 c27 xs28)]∧IntKind.i64.has y29∧F.R08_depths_l1 (F.R08_depths_l4 a0 a1 f10) a0 a1 xs6 y8 x17 f xs28 y29=some r) ⟨[],0,none,0,rfl,rfl,(A.hasl .i64 (0) rfl),hF⟩ ?_
  rintro f31 _ _ ⟨xs28,y29,A26,c27,rfl,rfl,hy30,hF⟩
  rcases f31 with _|f31
  ·exact A.no0 hF
  rw[F.R08_depths_l1]at hF
  refine A.xl 2 ?_
  refine A.q0 [999] [] [.n,.n,.b 0 2,.n,.n] [(35,.bool (decide (y29<((x17.2.2.1).length:Int))))] ?_
  refine A.dx 1 ?_
  refine A.AX.cnd rfl hF (fun hb hF=>?_) (fun hb hF=>?_)
  ·refine A.xx 4 ?_
   refine A.AX.dr mixed 14 14 (A.mb 14 0) ?_
   refine A.hq A.pb [] [0,1,2,3,998,999] [2,999] [] (A.mb 14 63) 8 [(0,.n),(1,.n),(2,.b 0 0),(3,.n),(5,.n),(4,.b 1 2)] [(38,.slice A26 ((xs28).length) c27),(39,.slice (some ⟨g2,0,none⟩) ((a0).length) ((a0).length)),(40,.agg #[.slice A0_ ((a0).length) c1_]),(43,.int .i64 y29),(42,.slice A21 ((x17.2.2.1).length) c22)] ?_
   obtain⟨x32,hv33,hF⟩:=A.bd_some hF
   refine A.AH.pks 998 1266 hv33 fun ho34=>?_
   intro b36 o37 hA35
   refine A.AH.v A.pb [0,1,2,3,998,999] [0,1,2,3,998,999,1266] 6 (A.mb 14 127) rfl (fun a w hf hh=>A.r_ixa (t:=(Z.Ty.int .i64)) hv33 hA35 hf) ?_
   refine A.hq A.pb [0,1,2,3,998,999,1266] [0,1,2,3,998,999,1266] [] [1266] (A.mb 14 255) 6 [(7,.e 0 0)] [(45,.int .i64 x32)] ?_
   refine A.AH.one 8 ?_
   obtain⟨r38,hv39,hF⟩:=A.bd_some hF
   refine A.AL.call 1267 [] (first:=[]) (cap:=[]) cf110 (R08_index_ok a0 x32 A0_ c1_ ho34 r38 hv39) (.s 0 .nil) ?_
   rintro _ _ ⟨rfl,rfl,hr40⟩
   refine⟨by kernel_rfl,?_⟩
   refine A.AH.nx (A.mb 14 511) [0,1,2,3,998,999,1266] ?_
   refine A.cst 39 (Z.slice_n (show(a0).length=(xs6).length from hn7)) ?_
   obtain⟨x41,hv42,hF⟩:=A.bd_some hF
   refine A.AH.pko 3 1307 hv42 fun ho43=>?_
   intro g45 hA44
   refine A.AH.v A.pb [0,1,2,3,998,999,1266] [0,1,2,3,998,999,1266,1307] 9 (A.mb 14 1023) rfl (fun a w hf hh=>A.r_ixo (t:=(Z.Ty.int .i64)) hv42 hA44 hf) ?_
   refine A.hq A.pb [0,1,2,3,998,999,1266,1307] [0,1,2,3,998,999,1266,1307] [] [1307] (A.mb 14 2047) 3 [(10,.e 0 0)] [(48,.int .i64 x41)] ?_
   refine A.AH.one 11 ?_
   refine A.AL.bsl 1308 (ty:=(Z.Ty.int .i64)) (cs:=[.int .i64 x41]) [x41] ⟨⟨rfl,ho43⟩,rfl⟩ (fun g46=>?_) Tryz.zeroValue3 Tryz.sizeOf3
   refine A.AH.nx (A.mb 14 4095) [0,1,2,3,998,999,1266,1307] ?_
   refine A.AH.one 12 ?_
   obtain⟨hl49,hF⟩:=A.gd_some hF
   refine A.AL.app (k:=1089) [] (A.rowO (k:=1308) rfl) inf3 hl49 fun A47 c48=>?_
   refine A.AH.nx (A.mb 14 8191) [0,1,2,3,998,999,1266,1307] ?_
   refine A.hq A.pb [0,1,2,3,998,999,1266,1307] [0,1,2,3,998,999,1089,1266,1307,1308] [] [] (A.mb 14 16383) 0 [(13,.n)] [(9,.slice A47 ((xs28++[x41]).length) c48)] ?_
   refine A.AH.done ?_
   refine A.el 2 ?_
   obtain⟨hc50,hF⟩:=A.gd_some hF
   refine A.q [] [] [.n,.n,.n] [Z.R64 (y29+1)] [(10,.int .i64 (y29+1))] hc50 ?_
   refine A.AL.done ?_
   exact A.j ⟨_,Nat.lt_succ_self _,⟨(xs28++[x41]),(y29+1),A47,c48,rfl,rfl,(Z.i64_has hc50),hF⟩⟩
  refine A.xx 3 ?_
  refine A.AX.dr mixed 9 10 (A.mb 10 0) ?_
  refine A.hq A.pb [] [0,1,2,3,998,999,1089] [999] [] (A.mb 10 103) 5 [(0,.n),(1,.n),(2,.n),(5,.b 0 0),(6,.n)] [(51,.slice (some ⟨g2,0,none⟩) ((a0).length) ((a0).length)),(52,.slice A2_ ((a1).length) c3_),(53,.int .i64 y8),(56,.agg #[.int .i64 x17.1,.int .i64 x17.2.1,.slice A21 ((x17.2.2.1).length) c22,.int .i64 x17.2.2.2.1.1,.int .i64 x17.2.2.2.1.2.1,.string x17.2.2.2.1.2.2,.string x17.2.2.2.2.1,.int .i64 x17.2.2.2.2.2.1,.int .i64 x17.2.2.2.2.2.2]),(57,.slice A26 ((xs28).length) c27)] ?_
  obtain⟨x51,hv52,hF⟩:=A.bd_some hF
  refine A.AH.pkl 1 1309 hv52 fun ho53=>?_
  intro b55 o56 hA54
  refine A.AH.v A.pb [0,1,2,3,998,999,1089] [0,1,2,3,998,999,1089,1309] 3 (A.mb 10 111) rfl (fun a w hf hh=>A.r_ixa (t:=(Z.Ty.int .i64)) hv52 hA54 hf) ?_
  refine A.hq A.pb [0,1,2,3,998,999,1089,1309] [0,1,2,3,998,999,1089,1309] [] [1309] (A.mb 10 127) 3 [(4,.e 0 0)] [(55,.int .i64 x51)] ?_
  refine A.AH.one 7 ?_
  obtain⟨r57,hv58,hF⟩:=A.bd_some hF
  refine A.AL.call 1310 [] (first:=[]) (cap:=[]) cf112 (R08_depth_ok (x17.1,x17.2.1,x17.2.2.1,(x17.2.2.2.1.1,x17.2.2.2.1.2.1,x17.2.2.2.1.2.2),x17.2.2.2.2.1,x17.2.2.2.2.2.1,x17.2.2.2.2.2.2) xs28 A21 c22 A26 c27 ho19.1 ho19.2.1 ho19.2.2.2.1.1 ho19.2.2.2.1.2.1 ho19.2.2.2.1.2.2 ho19.2.2.2.2.1 ho19.2.2.2.2.2.1 ho19.2.2.2.2.2.2 r57 hv58) (.s 998 (.o 1089 .nil)) ?_
  rintro _ _ ⟨rfl,rfl,hr59⟩
  refine⟨by kernel_rfl,?_⟩
  refine A.AH.nx (A.mb 10 255) [0,1,2,3,998,999,1089,1309] ?_
  refine A.cst 51 (Z.slice_n (show(a0).length=(xs6).length from hn7)) ?_
  obtain⟨x60,hv61,hF⟩:=A.bd_some hF
  refine A.AH.pko 3 1350 hv61 fun ho62=>?_
  intro g64 hA63
  refine A.AH.v A.pb [0,1,2,3,998,999,1089,1309] [0,1,2,3,998,999,1089,1309,1350] 8 (A.mb 10 511) rfl (fun a w hf hh=>A.r_ixo (t:=(Z.Ty.int .i64)) hv61 hA63 hf) ?_
  refine A.AH.one 9 ?_
  refine A.AL.setel 3 1350 [1350] (o:=0) (m:=1) (t:=(Z.Ty.int .i64)) (new:=[.int .i64 r57]) (es:=[.int .i64 x60]) r57 hv61 hA63 ⟨rfl,hr59⟩ ?_
  refine A.AH.nm (A.mb 10 1023) ?_
  refine A.AH.done ?_
  refine A.el 2 ?_
  refine A.q0 [] [] [.n,.n,.n] [(60,.slice (some ⟨g2,0,none⟩) ((a0).length) ((a0).length)),(61,.slice A2_ ((a1).length) c3_),(62,.int .i64 y8)] ?_
  obtain⟨x65,hv66,hF⟩:=A.bd_some hF
  refine A.AL.ixl 1 1351 hv66 fun ho67=>?_
  intro b68 o69
  refine A.q0 [] [1351] [.e 0 0] [(64,.int .i64 x65)] ?_
  refine A.cst 60 (Z.slice_n (show(a0).length=(xs6.set x51.toNat r57).length from(by rw[List.length_set];exact hn7))) ?_
  obtain⟨x70,hv71,hF⟩:=A.bd_some hF
  refine A.AL.ixo 3 1352 hv71 fun ho72=>?_
  intro g73 hA74
  refine A.q0 [] [1352] [.e 0 0,.n] [(67,.bool (decide (x70<0)))] ?_
  refine A.dx 1 ?_
  refine A.AX.cnd rfl hF (fun hb hF=>?_) (fun hb hF=>?_)
  ·refine A.xl 1 ?_
   refine A.q0 [] [] [.n,.n] [(4,.slice none 0 0),(5,.bool false)] ?_
   refine A.dx 1 ?_
   obtain rfl:=Option.some.inj hF
   refine A.nil 1353 (Z.Ty.int .i64) 3 ?_
   exact A.rt2 [(0,1353)] ⟨none,0,rfl,rfl⟩
  refine A.xl 3 ?_
  obtain⟨hc75,hF⟩:=A.gd_some hF
  refine A.q [] [] [.n,.n,.n] [Z.R64 (y8+1)] [(7,.int .i64 (y8+1))] hc75 ?_
  refine A.AL.done ?_
  exact A.j ⟨_,Nat.lt_succ_self _,⟨(xs6.set x51.toNat r57),(y8+1),rfl,rfl,(by rw[List.length_set];exact hn7),(Z.i64_has hc75),hF⟩⟩
 refine A.xl 4 ?_
 refine A.q0 [] [] [.n] [(11,.int .i64 0)] ?_
 refine A.dx 2 ?_
 refine A.lp_ [2,6] [0,2,3] (fun f nl nh=>∃(y76:Int),nl=[(11,.int .i64 y76)]∧nh=[]∧IntKind.i64.has y76∧F.R08_depths_l3 a0 xs6 f y76=some r) ⟨0,rfl,rfl,(A.hasl .i64 (0) rfl),hF⟩ ?_
 rintro f78 _ _ ⟨y76,rfl,rfl,hy77,hF⟩
 rcases f78 with _|f78
 ·exact A.no0 hF
 rw[F.R08_depths_l3]at hF
 refine A.xl 2 ?_
 refine A.q0 [2] [] [.n,.n,.b 0 0,.n,.n] [(72,.bool (decide (y76<((a0).length:Int))))] ?_
 refine A.dx 1 ?_
 refine A.AX.cnd rfl hF (fun hb hF=>?_) (fun hb hF=>?_)
 ·refine A.xl 5 ?_
  refine A.q0 [2] [] [.n,.b 0 0,.n] [(76,.slice A0_ ((a0).length) c1_),(77,.int .i64 y76)] ?_
  obtain⟨x79,hv80,hF⟩:=A.bd_some hF
  refine A.AL.ixs 0 1446 hv80 fun ho81=>?_
  intro A82 c83 b84 o85
  refine A.q0 [] [1446] [.e 0 0] [(79,.agg #[.int .i64 x79.1,.int .i64 x79.2.1,.slice A82 ((x79.2.2.1).length) c83,.int .i64 x79.2.2.2.1.1,.int .i64 x79.2.2.2.1.2.1,.string x79.2.2.2.1.2.2,.string x79.2.2.2.2.1,.int .i64 x79.2.2.2.2.2.1,.int .i64 x79.2.2.2.2.2.2])] ?_
  refine A.AL.alloc 1448 (cs:=[.int .i64 0,.int .i64 0,.slice none 0 0,.int .i64 0,.int .i64 0,.string (ByteArray.mk #[]),.string (ByteArray.mk #[]),.int .i64 0,.int .i64 0]) Tryz.zeroValue70 fun g86=>?_
  refine A.sw 1448 [] [.int .i64 x79.1,.int .i64 x79.2.1,.slice A82 ((x79.2.2.1).length) c83,.int .i64 x79.2.2.2.1.1,.int .i64 x79.2.2.2.1.2.1,.string x79.2.2.2.1.2.2,.string x79.2.2.2.2.1,.int .i64 x79.2.2.2.2.2.1,.int .i64 x79.2.2.2.2.2.2] ?_
  refine A.dx 1 ?_
  refine A.AX.join [2,6,11] [0,2,3] (fun nl nh=>∃(y87:Bool),nl=[(96,.bool y87)]∧nh=[]∧F.R08_depths_j2 (F.R08_depths_l3 a0 xs6 f78) y76 y87=some r) ?_ ?_
  ·refine A.AX.dr mixed 17 17 (A.mb 17 0) ?_
   refine A.hq A.pb [] [0,2,3,1446,1447,1448] [1448] [] (A.mb 17 15) 13 [(0,.n),(1,.b 0 1),(2,.n),(3,.n)] [(83,.bool (decide (x79.2.1=14)))] ?_
   refine A.AH.cnp (j:=83) rfl hF (fun hb hF=>?_) (fun hb hF=>?_)
   ·refine A.hq A.pb [0,2,3,1446,1447,1448] [0,2,3,1446,1447,1448] [2,1448] [] (A.mb 17 24831) 7 [(4,.on .n),(5,.on (.b 0 0)),(6,.on .n),(13,.on .n),(7,.on (.b 1 2)),(14,.on (.b 1 8))] [(84,.slice (some ⟨g2,0,none⟩) ((a0).length) ((a0).length)),(85,.agg #[.slice A0_ ((a0).length) c1_]),(87,.slice A82 ((x79.2.2.1).length) c83),(94,.int .i64 x79.2.2.2.2.2.2)] ?_
    obtain⟨x89,hv90,hF⟩:=A.bd_some hF
    refine A.AH.pks 1447 1449 hv90 fun ho91=>?_
    intro b93 o94 hA92
    refine A.AH.vg A.pb [0,2,3,1446,1447,1448] [0,2,3,1446,1447,1448,1449] 8 (A.mb 17 25087) (dj:=83) rfl (fun a w hf hh=>A.r_ixa (t:=(Z.Ty.int .i64)) hv90 hA92 hf) ?_
    refine A.hq A.pb [0,2,3,1446,1447,1448,1449] [0,2,3,1446,1447,1448,1449] [] [1449] (A.mb 17 25599) 5 [(9,.on (.e 0 0))] [(89,.int .i64 x89)] ?_
    refine A.AH.one 10 ?_
    refine A.AL.on (dj:=83) rfl rfl ?_
    obtain⟨r95,hv96,hF⟩:=A.bd_some hF
    refine A.AL.call 1450 [] (first:=[]) (cap:=[]) cf110 (R08_index_ok a0 x89 A0_ c1_ ho91 r95 hv96) (.s 0 .nil) ?_
    rintro _ _ ⟨rfl,rfl,hr97⟩
    refine⟨by kernel_rfl,?_⟩
    refine A.AH.nx (A.mb 17 26623) [0,2,3,1446,1447,1448,1449] ?_
    refine A.cst 84 (Z.slice_n (show(a0).length=(xs6).length from hn7)) ?_
    obtain⟨x98,hv99,hF⟩:=A.bd_some hF
    refine A.AH.pko 3 1490 hv99 fun ho100=>?_
    intro g102 hA101
    refine A.AH.vg A.pb [0,2,3,1446,1447,1448,1449] [0,2,3,1446,1447,1448,1449,1490] 11 (A.mb 17 28671) (dj:=83) rfl (fun a w hf hh=>A.r_ixo (t:=(Z.Ty.int .i64)) hv99 hA101 hf) ?_
    refine A.hq A.pb [0,2,3,1446,1447,1448,1449,1490] [0,2,3,1446,1447,1448,1449,1490] [] [1490] (A.mb 17 131071) 0 [(12,.on (.e 0 0)),(15,.on .n),(16,.n)] [(96,.bool (decide (x98≠x79.2.2.2.2.2.2)))] ?_
    refine A.AH.done ?_
    exact A.j ⟨(decide (x98≠x79.2.2.2.2.2.2)),rfl,rfl,hF⟩
   refine A.hq A.pb [0,2,3,1446,1447,1448] [0,2,3,1446,1447,1448] [] [] (A.mb 17 131071) 0 [(4,.off),(5,.off),(6,.off),(13,.off),(7,.off),(14,.off),(8,.off),(9,.off),(10,.off),(11,.off),(12,.off),(15,.off),(16,.n)] [(96,.bool false)] ?_
   refine A.AH.done ?_
   exact A.j ⟨false,rfl,rfl,hF⟩
  rintro _ _ ⟨y87,rfl,rfl,hF⟩
  rw[F.R08_depths_j2]at hF
  refine A.AX.cnb rfl hF (fun hb hF=>?_) (fun hb hF=>?_)
  ·refine A.xl 1 ?_
   refine A.q0 [] [] [.n,.n] [(4,.slice none 0 0),(5,.bool false)] ?_
   refine A.dx 1 ?_
   obtain rfl:=Option.some.inj hF
   refine A.nil 1491 (Z.Ty.int .i64) 3 ?_
   exact A.rt2 [(0,1491)] ⟨none,0,rfl,rfl⟩
  refine A.xl 3 ?_
  obtain⟨hc88,hF⟩:=A.gd_some hF
  refine A.q [] [] [.n,.n,.n] [Z.R64 (y76+1)] [(11,.int .i64 (y76+1))] hc88 ?_
  refine A.AL.done ?_
  exact A.j ⟨_,Nat.lt_succ_self _,⟨(y76+1),rfl,rfl,(Z.i64_has hc88),hF⟩⟩
 refine A.xl 3 ?_
 refine A.q0 [] [] [.n,.n,.n] [(4,.slice (some ⟨g2,0,none⟩) ((a0).length) ((a0).length)),(5,.bool true)] ?_
 refine A.dx 1 ?_
 obtain rfl:=Option.some.inj hF
 refine A.cst 4 (Z.slice_n (show(a0).length=(xs6).length from hn7)) ?_
 exact A.rt2 [(0,3)] ⟨(some ⟨g2,0,none⟩),((a0).length),rfl,rfl⟩
def F.R08_spots_j1 (k8:(List D130)→Int→Option (List D130))(y5:Int)(xs10:List D130):Option (List D130):=A.gd (Z.R64 (y5+1)) (k8 xs10 (y5+1))
def F.R08_spots_l2 (k8:(List D130)→Int→Option (List D130))(a0:D23)(a1:(List Int))(y5:Int)(x12:D69):Nat→(List D130)→Int→Option (List D130)
 |0,_,_=>none
 |f+1,xs22,y23=>if y23<((x12.2.2.1).length:Int)then((A.ix x12.2.2.1 y23).bind fun x26=>((F.R08_index a0 x26).bind fun r32=>((A.ix a1 r32).bind fun x35=>(A.gd ((List.length (α:=D130) xs22+List.length (α:=D130) [((x12.1,y23),x35)])*24≤140737488355328) (A.gd (Z.R64 (y23+1)) ((F.R08_spots_l2 k8 a0 a1 y5 x12 f) (xs22++[((x12.1,y23),x35)]) (y23+1)))))))else(if x12.2.1≠15 then((A.ix a1 y5).bind fun x46=>(A.gd ((List.length (α:=D130) xs22+List.length (α:=D130) [((x12.1,2),x46)])*24≤140737488355328) (F.R08_spots_j1 k8 y5 (xs22++[((x12.1,2),x46)]))))else(F.R08_spots_j1 k8 y5 xs22))
def F.R08_spots_l3 (a0:D23)(a1:(List Int)):Nat→(List D130)→Int→Option (List D130)
 |0,_,_=>none
 |f+1,xs4,y5=>if(bif decide (y5<((a0).length:Int))then decide (y5<((a1).length:Int))else false)=true then((A.ix a0 y5).bind fun x12=>(F.R08_spots_l2 (F.R08_spots_l3 a0 a1 f) a0 a1 y5 x12 A.FU xs4 0))else(some xs4)
def F.R08_spots (a0:D23)(a1:(List Int)):Option (List D130):=F.R08_spots_l3 a0 a1 A.FU [] 0
theorem R08_spots_ok (a0:D23)(a1:(List Int))(A0_:Option Addr)(c1_:Nat)(A2_:Option Addr)(c3_:Nat)(r:(List D130))(hF:F.R08_spots a0 a1=some r):
    A.Ct Tryz.prog 85 [.agg #[.slice A0_ ((a0).length) c1_],.slice A2_ ((a1).length) c3_] [(0,.sh (.slice T69) [.slice A0_ (a0).length c1_] a0),(1,.ln (Z.Ty.int .i64) A2_ c3_ a1)] [] (fun v H'=>∃(A0':Option Addr) (c1':Nat),v=.slice A0' ((r).length) c1'∧H'=[(0,.own T130 131 A0' c1' r)]):=by
 refine A.Ct.enter Tryz.func85 rfl Tryz.ntmps85 rfl fun w0 F0=>?_
 rw[F.R08_spots]at hF
 refine A.xl 1 ?_
 refine A.AL.box 2 (cs:=[.slice A0_ ((a0).length) c1_]) fun g1=>?_
 refine A.q0 [] [] [.n] [] ?_
 refine A.dl 2 ?_
 refine A.q0 [] [] [.n] [(5,.slice none 0 0)] ?_
 refine A.dl 3 ?_
 refine A.q0 [] [] [.n] [(6,.int .i64 0)] ?_
 refine A.dx 2 ?_
 refine A.nil 329 T130 131 ?_
 refine A.lp_ [1,2] [0,1,2] (fun f nl nh=>∃(xs4:List D130),∃(y5:Int),∃(A2:Option Addr),∃(c3:Nat),nl=[(5,.slice A2 ((xs4).length) c3),(6,.int .i64 y5)]∧nh=[(329,.own T130 131 A2 c3 xs4)]∧IntKind.i64.has y5∧F.R08_spots_l3 a0 a1 f xs4 y5=some r) ⟨[],0,none,0,rfl,rfl,(A.hasl .i64 (0) rfl),hF⟩ ?_
 rintro f7 _ _ ⟨xs4,y5,A2,c3,rfl,rfl,hy6,hF⟩
 rcases f7 with _|f7
 ·exact A.no0 hF
 rw[F.R08_spots_l3]at hF
 refine A.xl 2 ?_
 refine A.q0 [2] [] [.n,.n,.b 0 0,.n,.n,.n,.sy .n,.sy .n,.sy .n,.sy .n,.pk] [(19,.bool (bif decide (y5<((a0).length:Int))then decide (y5<((a1).length:Int))else false))] ?_
 refine A.dx 1 ?_
 refine A.AX.cnb rfl hF (fun hb hF=>?_) (fun hb hF=>?_)
 ·refine A.xx 2 ?_
  refine A.AX.join [1,2,6] [0,1,2] (fun nl nh=>∃(xs10:List D130),∃(A8:Option Addr),∃(c9:Nat),nl=[(5,.slice A8 ((xs10).length) c9)]∧nh=[(329,.own T130 131 A8 c9 xs10)]∧F.R08_spots_j1 (F.R08_spots_l3 a0 a1 f7) y5 xs10=some r) ?_ ?_
  ·refine A.xl 2 ?_
   refine A.q0 [2] [] [.n,.b 0 0,.n] [(23,.slice A0_ ((a0).length) c1_),(24,.int .i64 y5)] ?_
   obtain⟨x12,hv13,hF⟩:=A.bd_some hF
   refine A.AL.ixs 0 606 hv13 fun ho14=>?_
   intro A15 c16 b17 o18
   refine A.q0 [] [606] [.e 0 0] [(26,.agg #[.int .i64 x12.1,.int .i64 x12.2.1,.slice A15 ((x12.2.2.1).length) c16,.int .i64 x12.2.2.2.1.1,.int .i64 x12.2.2.2.1.2.1,.string x12.2.2.2.1.2.2,.string x12.2.2.2.2.1,.int .i64 x12.2.2.2.2.2.1,.int .i64 x12.2.2.2.2.2.2])] ?_
   refine A.AL.alloc 608 (cs:=[.int .i64 0,.int .i64 0,.slice none 0 0,.int .i64 0,.int .i64 0,.string (ByteArray.mk #[]),.string (ByteArray.mk #[]),.int .i64 0,.int .i64 0]) Tryz.zeroValue70 fun g19=>?_
   refine A.sw 608 [] [.int .i64 x12.1,.int .i64 x12.2.1,.slice A15 ((x12.2.2.1).length) c16,.int .i64 x12.2.2.2.1.1,.int .i64 x12.2.2.2.1.2.1,.string x12.2.2.2.1.2.2,.string x12.2.2.2.2.1,.int .i64 x12.2.2.2.2.2.1,.int .i64 x12.2.2.2.2.2.2] ?_
   refine A.dl 3 ?_
   refine A.q0 [] [] [.n] [(8,.int .i64 0)] ?_
   refine A.dx 2 ?_
   refine A.lp_ [1,2,6,7] [0,1,2,607,608] (fun f nl nh=>∃(xs22:List D130),∃(y23:Int),∃(A20:Option Addr),∃(c21:Nat),nl=[(5,.slice A20 ((xs22).length) c21),(8,.int .i64 y23)]∧nh=[(329,.own T130 131 A20 c21 xs22)]∧IntKind.i64.has y23∧F.R08_spots_l2 (F.R08_spots_l3 a0 a1 f7) a0 a1 y5 x12 f xs22 y23=some r) ⟨xs4,0,A2,c3,rfl,rfl,(A.hasl .i64 (0) rfl),hF⟩ ?_
   rintro f25 _ _ ⟨xs22,y23,A20,c21,rfl,rfl,hy24,hF⟩
   rcases f25 with _|f25
   ·exact A.no0 hF
   rw[F.R08_spots_l2]at hF
   refine A.xl 2 ?_
   refine A.q0 [608] [] [.n,.n,.b 0 2,.n,.n] [(31,.bool (decide (y23<((x12.2.2.1).length:Int))))] ?_
   refine A.dx 1 ?_
   refine A.AX.cnd rfl hF (fun hb hF=>?_) (fun hb hF=>?_)
   ·refine A.xx 4 ?_
    refine A.AX.dr mixed 19 19 (A.mb 19 0) ?_
    refine A.hq A.pb [] [0,1,2,607,608] [2,608] [] (A.mb 19 1023) 9 [(0,.n),(1,.n),(3,.n),(5,.n),(6,.b 0 0),(7,.n),(9,.n),(2,.b 1 0),(8,.b 1 2),(4,.n)] [(34,.slice A20 ((xs22).length) c21),(39,.slice A2_ ((a1).length) c3_),(40,.agg #[.slice A0_ ((a0).length) c1_]),(43,.int .i64 y23),(42,.slice A15 ((x12.2.2.1).length) c16),(38,.agg #[.int .i64 x12.1,.int .i64 y23])] ?_
    obtain⟨x26,hv27,hF⟩:=A.bd_some hF
    refine A.AH.pks 607 699 hv27 fun ho28=>?_
    intro b30 o31 hA29
    refine A.AH.v A.pb [0,1,2,607,608] [0,1,2,607,608,699] 10 (A.mb 19 2047) rfl (fun a w hf hh=>A.r_ixa (t:=(Z.Ty.int .i64)) hv27 hA29 hf) ?_
    refine A.hq A.pb [0,1,2,607,608,699] [0,1,2,607,608,699] [] [699] (A.mb 19 4095) 7 [(11,.e 0 0)] [(45,.int .i64 x26)] ?_
    refine A.AH.one 12 ?_
    obtain⟨r32,hv33,hF⟩:=A.bd_some hF
    refine A.AL.call 700 [] (first:=[]) (cap:=[]) cf110 (R08_index_ok a0 x26 A0_ c1_ ho28 r32 hv33) (.s 0 .nil) ?_
    rintro _ _ ⟨rfl,rfl,hr34⟩
    refine⟨by kernel_rfl,?_⟩
    refine A.AH.nx (A.mb 19 8191) [0,1,2,607,608,699] ?_
    obtain⟨x35,hv36,hF⟩:=A.bd_some hF
    refine A.AH.pkl 1 740 hv36 fun ho37=>?_
    intro b39 o40 hA38
    refine A.AH.v A.pb [0,1,2,607,608,699] [0,1,2,607,608,699,740] 13 (A.mb 19 16383) rfl (fun a w hf hh=>A.r_ixa (t:=(Z.Ty.int .i64)) hv36 hA38 hf) ?_
    refine A.hq A.pb [0,1,2,607,608,699,740] [0,1,2,607,608,699,740] [] [740] (A.mb 19 65535) 3 [(14,.e 0 0),(15,.n)] [(49,.agg #[.int .i64 x12.1,.int .i64 y23,.int .i64 x35])] ?_
    refine A.AH.one 16 ?_
    refine A.AL.bsl 741 (ty:=T130) (cs:=[.int .i64 x12.1,.int .i64 y23,.int .i64 x35]) [((x12.1,y23),x35)] ⟨⟨⟨⟨rfl,ho14.1⟩,⟨rfl,hy24⟩⟩,⟨rfl,ho37⟩⟩,rfl⟩ (fun g41=>?_) Tryz.zeroValue131 Tryz.sizeOf131
    refine A.AH.nx (A.mb 19 131071) [0,1,2,607,608,699,740] ?_
    refine A.AH.one 17 ?_
    obtain⟨hl44,hF⟩:=A.gd_some hF
    refine A.AL.app (k:=329) [] (A.rowO (k:=741) rfl) inf131 hl44 fun A42 c43=>?_
    refine A.AH.nx (A.mb 19 262143) [0,1,2,607,608,699,740] ?_
    refine A.hq A.pb [0,1,2,607,608,699,740] [0,1,2,329,607,608,699,740,741] [] [] (A.mb 19 524287) 0 [(18,.n)] [(5,.slice A42 ((xs22++[((x12.1,y23),x35)]).length) c43)] ?_
    refine A.AH.done ?_
    refine A.el 2 ?_
    obtain⟨hc45,hF⟩:=A.gd_some hF
    refine A.q [] [] [.n,.n,.n] [Z.R64 (y23+1)] [(8,.int .i64 (y23+1))] hc45 ?_
    refine A.AL.done ?_
    exact A.j ⟨_,Nat.lt_succ_self _,⟨(xs22++[((x12.1,y23),x35)]),(y23+1),A42,c43,rfl,rfl,(Z.i64_has hc45),hF⟩⟩
   refine A.xl 3 ?_
   refine A.q0 [608] [] [.n,.b 0 1,.n] [(54,.bool (decide (x12.2.1≠15)))] ?_
   refine A.dx 1 ?_
   refine A.AX.cnd rfl hF (fun hb hF=>?_) (fun hb hF=>?_)
   ·refine A.AX.dr mixed 12 12 (A.mb 12 0) ?_
    refine A.hq A.pb [] [0,1,2,607,608] [608] [] (A.mb 12 63) 6 [(0,.n),(1,.n),(4,.n),(5,.n),(2,.b 0 0),(3,.n)] [(55,.slice A20 ((xs22).length) c21),(59,.slice A2_ ((a1).length) c3_),(60,.int .i64 y5),(58,.agg #[.int .i64 x12.1,.int .i64 2])] ?_
    obtain⟨x46,hv47,hF⟩:=A.bd_some hF
    refine A.AH.pkl 1 742 hv47 fun ho48=>?_
    intro b50 o51 hA49
    refine A.AH.v A.pb [0,1,2,607,608] [0,1,2,607,608,742] 6 (A.mb 12 127) rfl (fun a w hf hh=>A.r_ixa (t:=(Z.Ty.int .i64)) hv47 hA49 hf) ?_
    refine A.hq A.pb [0,1,2,607,608,742] [0,1,2,607,608,742] [] [742] (A.mb 12 511) 3 [(7,.e 0 0),(8,.n)] [(63,.agg #[.int .i64 x12.1,.int .i64 2,.int .i64 x46])] ?_
    refine A.AH.one 9 ?_
    refine A.AL.bsl 743 (ty:=T130) (cs:=[.int .i64 x12.1,.int .i64 2,.int .i64 x46]) [((x12.1,2),x46)] ⟨⟨⟨⟨rfl,ho14.1⟩,⟨rfl,(A.hasl .i64 (2) rfl)⟩⟩,⟨rfl,ho48⟩⟩,rfl⟩ (fun g52=>?_) Tryz.zeroValue131 Tryz.sizeOf131
    refine A.AH.nx (A.mb 12 1023) [0,1,2,607,608,742] ?_
    refine A.AH.one 10 ?_
    obtain⟨hl55,hF⟩:=A.gd_some hF
    refine A.AL.app (k:=329) [] (A.rowO (k:=743) rfl) inf131 hl55 fun A53 c54=>?_
    refine A.AH.nx (A.mb 12 2047) [0,1,2,607,608,742] ?_
    refine A.hq A.pb [0,1,2,607,608,742] [0,1,2,329,607,608,742,743] [] [] (A.mb 12 4095) 0 [(11,.n)] [(5,.slice A53 ((xs22++[((x12.1,2),x46)]).length) c54)] ?_
    refine A.AH.done ?_
    refine A.ee 1 ?_
    exact A.j ⟨(xs22++[((x12.1,2),x46)]),A53,c54,rfl,rfl,hF⟩
   refine A.xe 2 ?_
   exact A.j ⟨xs22,A20,c21,rfl,rfl,hF⟩
  rintro _ _ ⟨xs10,A8,c9,rfl,rfl,hF⟩
  rw[F.R08_spots_j1]at hF
  refine A.xl 0 ?_
  obtain⟨hc11,hF⟩:=A.gd_some hF
  refine A.q [] [] [.n,.n,.n] [Z.R64 (y5+1)] [(6,.int .i64 (y5+1))] hc11 ?_
  refine A.AL.done ?_
  exact A.j ⟨_,Nat.lt_succ_self _,⟨xs10,(y5+1),A8,c9,rfl,rfl,(Z.i64_has hc11),hF⟩⟩
 refine A.xl 3 ?_
 refine A.q0 [] [] [.n,.n] [(4,.slice A2 ((xs4).length) c3)] ?_
 refine A.dx 1 ?_
 obtain rfl:=Option.some.inj hF
 exact A.rt1 [(0,329)] ⟨A2,c3,rfl,rfl⟩
end Go.Proofs.YtocfaokgoflmhaaGreatDoor
end
