/- Functions on data, and that the code computes them. * A layer over the small logic, continued: where a law's walk begins. No program in sight. * Plain law of graphs: what the reference and the program say of graphs, as functions on data (no program in sight). * Plain: rounds by a count of steps are recursion over a list; small functions of graphs. * Plain: names, rune by rune; functions of nodes. * Plain: what a text's bytes are, by the reference and by the model's decoder. * Plain: functions of nodes may be; a node for itself. -/
import Derived.Test.YtfdfcaiiengdfaaGreatDoorKB0
import Derived.Test.YtfdfcaiiengdfaaGreatDoorKB1
import Derived.Test.YtfdfcaiiengdfaaGreatDoorKB2
import Derived.Test.YtfdfcaiiengdfaaGreatDoorKB4
import Derived.Test.YtfdfcaiiengdfaaGreatDoorKB3
import Derived.Lib.TrimUEq
section
set_option linter.unusedVariables false
set_option linter.unusedSimpArgs false
set_option maxRecDepth 20000
set_option maxHeartbeats 8000000
set_option synthInstance.maxSize 1000000
set_option synthInstance.maxHeartbeats 400000
namespace Go.Proofs.YtfdfcaiiengdfaaGreatDoor
open Go.RowKit
def F.d9 (a0:Int)(a1:Int)(a2:Int)(a3:Int):Option (D168×Int):=(F.eN (a0,a1,a2,a3,(0,0,0,0))).bind fun r3=>(if r3≠0 then(some ((0,0,0,0,(0,0,0,0)),11))else(some ((a0,a1,a2,a3,(0,0,0,0)),0)))
theorem o_w (a0:Int)(a1:Int)(a2:Int)(a3:Int)(h0_:A.h6 a0)(h1_:A.h6 a1)(h2_:A.h6 a2)(h3_:A.h6 a3)(r:D168×Int)(hF:F.d9 a0 a1 a2 a3=some r):
    A.Ct Tryz.prog 141 [A.i a0,A.i a1,A.i a2,A.i a3] [] [] (fun v H'=>v=.tuple #[.agg #[A.i r.1.1,A.i r.1.2.1,A.i r.1.2.2.1,A.i r.1.2.2.2.1,A.i r.1.2.2.2.2.1,A.i r.1.2.2.2.2.2.1,A.i r.1.2.2.2.2.2.2.1,A.i r.1.2.2.2.2.2.2.2],A.i r.2]∧H'=[]∧A.h6 r.1.1∧A.h6 r.1.2.1∧A.h6 r.1.2.2.1∧A.h6 r.1.2.2.2.1∧A.h6 r.1.2.2.2.2.1∧A.h6 r.1.2.2.2.2.2.1∧A.h6 r.1.2.2.2.2.2.2.1∧A.h6 r.1.2.2.2.2.2.2.2∧A.h6 r.2):=by
 refine A.Ct.enter Tryz.func141 rfl Tryz.ntmps141 rfl fun w0 F0=>?_;rw[F.d9]at hF;refine A.xl 1 ?_;refine A.AL.alloc 0 (cs:=[A.i 0,A.i 0,A.i 0,A.i 0,A.i 0,A.i 0,A.i 0,A.i 0]) Tryz.zeroValue169 fun g1=>?_;refine A.q0 [] [] [.n] [] (A.dl 2 ?_);refine A.q0 [] [] [.n,.n,.n,.n,.n] [(15,.agg #[A.i a0,A.i a1,A.i a2,A.i a3,A.i 0,A.i 0,A.i 0,A.i 0])] ?_;refine A.AL.alloc 1 (cs:=[A.i 0,A.i 0,A.i 0,A.i 0,A.i 0,A.i 0,A.i 0,A.i 0]) Tryz.zeroValue169 fun g2=>?_;refine A.sw 1 [] [A.i a0,A.i a1,A.i a2,A.i a3,A.i 0,A.i 0,A.i 0,A.i 0] ?_;refine A.dl 3 ?_;refine A.q0 [1] [] [.b 0 0] [(16,.agg #[A.i a0,A.i a1,A.i a2,A.i a3,A.i 0,A.i 0,A.i 0,A.i 0])] ?_;obtain⟨r3,hv4,hF⟩:=A.bd_some hF;refine A.AL.call 2 [] (first:=[]) (cap:=[]) cf153 (o_bx (a0,a1,a2,a3,(0,0,0,0)) h0_ h1_ h2_ h3_ (A.hasl .i64 (0) rfl) (A.hasl .i64 (0) rfl) (A.hasl .i64 (0) rfl) (A.hasl .i64 (0) rfl) r3 hv4) .nil ?_;rintro _ _ ⟨rfl,rfl,hr5⟩;refine⟨by kernel_rfl,?_⟩;refine A.q0 [] [] [.n] [(18,.bool (decide (r3≠0)))] (A.dx 1 ?_);refine A.AX.cnd rfl hF ?_ ?_<;>intro hb hF
 ·refine A.xl 1 ?_;refine A.q0 [] [] [.n] [(19,.agg #[A.i 0,A.i 0,A.i 0,A.i 0,A.i 0,A.i 0,A.i 0,A.i 0])] ?_;refine A.sw 0 [] [A.i 0,A.i 0,A.i 0,A.i 0,A.i 0,A.i 0,A.i 0,A.i 0] ?_;refine A.q0 [] [] [.n] [(9,A.i 11)] (A.dx 1 ?_);obtain rfl:=A.si hF;exact A.AX.ret [] (.tuple #[.agg #[A.i 0,A.i 0,A.i 0,A.i 0,A.i 0,A.i 0,A.i 0,A.i 0],A.i 11]) (fun a w hf hh=>Z.resv2 rfl (Z.rv_n hf rfl Tryz.isAgg169 Tryz.sizeOf169 (A.Hp.blk hh 0) rfl) (Z.rv_t hf rfl)) (⟨rfl,rfl,(A.hasl .i64 (0) rfl),(A.hasl .i64 (0) rfl),(A.hasl .i64 (0) rfl),(A.hasl .i64 (0) rfl),(A.hasl .i64 (0) rfl),(A.hasl .i64 (0) rfl),(A.hasl .i64 (0) rfl),(A.hasl .i64 (0) rfl),(A.hasl .i64 (11) rfl)⟩)
 refine A.xl 3 ?_;refine A.q0 [1] [] [.b 0 0] [(20,.agg #[A.i a0,A.i a1,A.i a2,A.i a3,A.i 0,A.i 0,A.i 0,A.i 0])] ?_;refine A.sw 0 [] [A.i a0,A.i a1,A.i a2,A.i a3,A.i 0,A.i 0,A.i 0,A.i 0] ?_;refine A.q0 [] [] [.n] [(9,A.i 0)] (A.dx 1 ?_);obtain rfl:=A.si hF;exact A.AX.ret [] (.tuple #[.agg #[A.i a0,A.i a1,A.i a2,A.i a3,A.i 0,A.i 0,A.i 0,A.i 0],A.i 0]) (fun a w hf hh=>Z.resv2 rfl (Z.rv_n hf rfl Tryz.isAgg169 Tryz.sizeOf169 (A.Hp.blk hh 0) rfl) (Z.rv_t hf rfl)) (⟨rfl,rfl,h0_,h1_,h2_,h3_,(A.hasl .i64 (0) rfl),(A.hasl .i64 (0) rfl),(A.hasl .i64 (0) rfl),(A.hasl .i64 (0) rfl),(A.hasl .i64 (0) rfl)⟩)
def F.eL (a0:Int):Option (D168×Int):=(F.d9 a0 a0 0 0).bind fun r2=>(some ((r2.1.1,r2.1.2.1,r2.1.2.2.1,r2.1.2.2.2.1,(r2.1.2.2.2.2.1,r2.1.2.2.2.2.2.1,r2.1.2.2.2.2.2.2.1,r2.1.2.2.2.2.2.2.2)),r2.2))
theorem o_a1 (a0:Int)(h0_:A.h6 a0)(r:D168×Int)(hF:F.eL a0=some r):
    A.Ct Tryz.prog 122 [A.i a0] [] [] (fun v H'=>v=.tuple #[.agg #[A.i r.1.1,A.i r.1.2.1,A.i r.1.2.2.1,A.i r.1.2.2.2.1,A.i r.1.2.2.2.2.1,A.i r.1.2.2.2.2.2.1,A.i r.1.2.2.2.2.2.2.1,A.i r.1.2.2.2.2.2.2.2],A.i r.2]∧H'=[]∧A.h6 r.1.1∧A.h6 r.1.2.1∧A.h6 r.1.2.2.1∧A.h6 r.1.2.2.2.1∧A.h6 r.1.2.2.2.2.1∧A.h6 r.1.2.2.2.2.2.1∧A.h6 r.1.2.2.2.2.2.2.1∧A.h6 r.1.2.2.2.2.2.2.2∧A.h6 r.2):=by
 refine A.Ct.enter Tryz.func122 rfl Tryz.ntmps122 rfl fun w0 F0=>?_;rw[F.eL]at hF;refine A.xl 1 ?_;refine A.AL.alloc 0 (cs:=[A.i 0,A.i 0,A.i 0,A.i 0,A.i 0,A.i 0,A.i 0,A.i 0]) Tryz.zeroValue169 fun g1=>?_;refine A.q0 [] [] [.n] [] (A.dl 2 ?_);refine A.q0 [] [] [.n,.n] [(4,A.i a0),(5,A.i a0)] ?_;obtain⟨r2,hv3,hF⟩:=A.bd_some hF;refine A.AL.call 1 [] (first:=[]) (cap:=[]) cf141 (o_w a0 a0 0 0 h0_ h0_ (A.hasl .i64 (0) rfl) (A.hasl .i64 (0) rfl) r2 hv3) .nil ?_;rintro _ _ ⟨rfl,rfl,hr4,hr5,hr6,hr7,hr8,hr9,hr10,hr11,hr12⟩;refine⟨by kernel_rfl,?_⟩;refine A.q0 [] [] [.n,.n] [(7,.agg #[A.i r2.1.1,A.i r2.1.2.1,A.i r2.1.2.2.1,A.i r2.1.2.2.2.1,A.i r2.1.2.2.2.2.1,A.i r2.1.2.2.2.2.2.1,A.i r2.1.2.2.2.2.2.2.1,A.i r2.1.2.2.2.2.2.2.2]),(8,A.i r2.2)] ?_;refine A.sw 0 [] [A.i r2.1.1,A.i r2.1.2.1,A.i r2.1.2.2.1,A.i r2.1.2.2.2.1,A.i r2.1.2.2.2.2.1,A.i r2.1.2.2.2.2.2.1,A.i r2.1.2.2.2.2.2.2.1,A.i r2.1.2.2.2.2.2.2.2] ?_;refine A.q0 [] [] [.n] [(3,A.i r2.2)] (A.dx 1 ?_);obtain rfl:=A.si hF;exact A.AX.ret [] (.tuple #[.agg #[A.i r2.1.1,A.i r2.1.2.1,A.i r2.1.2.2.1,A.i r2.1.2.2.2.1,A.i r2.1.2.2.2.2.1,A.i r2.1.2.2.2.2.2.1,A.i r2.1.2.2.2.2.2.2.1,A.i r2.1.2.2.2.2.2.2.2],A.i r2.2]) (fun a w hf hh=>Z.resv2 rfl (Z.rv_n hf rfl Tryz.isAgg169 Tryz.sizeOf169 (A.Hp.blk hh 0) rfl) (Z.rv_t hf rfl)) (⟨rfl,rfl,hr4,hr5,hr6,hr7,hr8,hr9,hr10,hr11,hr12⟩)
def F.eo (a0:Int):Option (D168×Int):=if a0<1 then(some ((0,0,0,0,(0,0,0,0)),11))else(A.gd (Z.R64 (a0-1)) ((F.d9 a0 (a0-1) 0 0).bind fun r3=>(some ((r3.1.1,r3.1.2.1,r3.1.2.2.1,r3.1.2.2.2.1,(r3.1.2.2.2.2.1,r3.1.2.2.2.2.2.1,r3.1.2.2.2.2.2.2.1,r3.1.2.2.2.2.2.2.2)),r3.2))))
theorem o_bz (a0:Int)(h0_:A.h6 a0)(r:D168×Int)(hF:F.eo a0=some r):
    A.Ct Tryz.prog 139 [A.i a0] [] [] (fun v H'=>v=.tuple #[.agg #[A.i r.1.1,A.i r.1.2.1,A.i r.1.2.2.1,A.i r.1.2.2.2.1,A.i r.1.2.2.2.2.1,A.i r.1.2.2.2.2.2.1,A.i r.1.2.2.2.2.2.2.1,A.i r.1.2.2.2.2.2.2.2],A.i r.2]∧H'=[]∧A.h6 r.1.1∧A.h6 r.1.2.1∧A.h6 r.1.2.2.1∧A.h6 r.1.2.2.2.1∧A.h6 r.1.2.2.2.2.1∧A.h6 r.1.2.2.2.2.2.1∧A.h6 r.1.2.2.2.2.2.2.1∧A.h6 r.1.2.2.2.2.2.2.2∧A.h6 r.2):=by
 refine A.Ct.enter Tryz.func139 rfl Tryz.ntmps139 rfl fun w0 F0=>?_;rw[F.eo]at hF;refine A.xl 1 ?_;refine A.AL.alloc 0 (cs:=[A.i 0,A.i 0,A.i 0,A.i 0,A.i 0,A.i 0,A.i 0,A.i 0]) Tryz.zeroValue169 fun g1=>?_;refine A.q0 [] [] [.n] [] (A.dl 3 ?_);refine A.q0 [] [] [.n,.n] [(5,.bool (decide (a0<1)))] (A.dx 1 ?_);refine A.AX.cnd rfl hF ?_ ?_<;>intro hb hF
 ·refine A.xl 1 ?_;refine A.q0 [] [] [.n] [(6,.agg #[A.i 0,A.i 0,A.i 0,A.i 0,A.i 0,A.i 0,A.i 0,A.i 0])] ?_;refine A.sw 0 [] [A.i 0,A.i 0,A.i 0,A.i 0,A.i 0,A.i 0,A.i 0,A.i 0] ?_;refine A.q0 [] [] [.n] [(3,A.i 11)] (A.dx 1 ?_);obtain rfl:=A.si hF;exact A.AX.ret [] (.tuple #[.agg #[A.i 0,A.i 0,A.i 0,A.i 0,A.i 0,A.i 0,A.i 0,A.i 0],A.i 11]) (fun a w hf hh=>Z.resv2 rfl (Z.rv_n hf rfl Tryz.isAgg169 Tryz.sizeOf169 (A.Hp.blk hh 0) rfl) (Z.rv_t hf rfl)) (⟨rfl,rfl,(A.hasl .i64 (0) rfl),(A.hasl .i64 (0) rfl),(A.hasl .i64 (0) rfl),(A.hasl .i64 (0) rfl),(A.hasl .i64 (0) rfl),(A.hasl .i64 (0) rfl),(A.hasl .i64 (0) rfl),(A.hasl .i64 (0) rfl),(A.hasl .i64 (11) rfl)⟩)
 refine A.xl 3 ?_;obtain⟨hc2,hF⟩:=A.gd_some hF;refine A.q [] [] [.n,.n,.n] [Z.R64 (a0-1)] [(7,A.i a0),(9,A.i (a0-1))] hc2 ?_;obtain⟨r3,hv4,hF⟩:=A.bd_some hF;refine A.AL.call 1 [] (first:=[]) (cap:=[]) cf141 (o_w a0 (a0-1) 0 0 h0_ (Z.i64_has hc2) (A.hasl .i64 (0) rfl) (A.hasl .i64 (0) rfl) r3 hv4) .nil ?_;rintro _ _ ⟨rfl,rfl,hr5,hr6,hr7,hr8,hr9,hr10,hr11,hr12,hr13⟩;refine⟨by kernel_rfl,?_⟩;refine A.q0 [] [] [.n,.n] [(11,.agg #[A.i r3.1.1,A.i r3.1.2.1,A.i r3.1.2.2.1,A.i r3.1.2.2.2.1,A.i r3.1.2.2.2.2.1,A.i r3.1.2.2.2.2.2.1,A.i r3.1.2.2.2.2.2.2.1,A.i r3.1.2.2.2.2.2.2.2]),(12,A.i r3.2)] ?_;refine A.sw 0 [] [A.i r3.1.1,A.i r3.1.2.1,A.i r3.1.2.2.1,A.i r3.1.2.2.2.1,A.i r3.1.2.2.2.2.1,A.i r3.1.2.2.2.2.2.1,A.i r3.1.2.2.2.2.2.2.1,A.i r3.1.2.2.2.2.2.2.2] ?_;refine A.q0 [] [] [.n] [(3,A.i r3.2)] (A.dx 1 ?_);obtain rfl:=A.si hF;exact A.AX.ret [] (.tuple #[.agg #[A.i r3.1.1,A.i r3.1.2.1,A.i r3.1.2.2.1,A.i r3.1.2.2.2.1,A.i r3.1.2.2.2.2.1,A.i r3.1.2.2.2.2.2.1,A.i r3.1.2.2.2.2.2.2.1,A.i r3.1.2.2.2.2.2.2.2],A.i r3.2]) (fun a w hf hh=>Z.resv2 rfl (Z.rv_n hf rfl Tryz.isAgg169 Tryz.sizeOf169 (A.Hp.blk hh 0) rfl) (Z.rv_t hf rfl)) (⟨rfl,rfl,hr5,hr6,hr7,hr8,hr9,hr10,hr11,hr12,hr13⟩)
def F.ez (a0:Int):Option (D168×Int):=(F.d9 a0 a0 1 0).bind fun r2=>(some ((r2.1.1,r2.1.2.1,r2.1.2.2.1,r2.1.2.2.2.1,(r2.1.2.2.2.2.1,r2.1.2.2.2.2.2.1,r2.1.2.2.2.2.2.2.1,r2.1.2.2.2.2.2.2.2)),r2.2))
theorem o_bP (a0:Int)(h0_:A.h6 a0)(r:D168×Int)(hF:F.ez a0=some r):
    A.Ct Tryz.prog 140 [A.i a0] [] [] (fun v H'=>v=.tuple #[.agg #[A.i r.1.1,A.i r.1.2.1,A.i r.1.2.2.1,A.i r.1.2.2.2.1,A.i r.1.2.2.2.2.1,A.i r.1.2.2.2.2.2.1,A.i r.1.2.2.2.2.2.2.1,A.i r.1.2.2.2.2.2.2.2],A.i r.2]∧H'=[]∧A.h6 r.1.1∧A.h6 r.1.2.1∧A.h6 r.1.2.2.1∧A.h6 r.1.2.2.2.1∧A.h6 r.1.2.2.2.2.1∧A.h6 r.1.2.2.2.2.2.1∧A.h6 r.1.2.2.2.2.2.2.1∧A.h6 r.1.2.2.2.2.2.2.2∧A.h6 r.2):=by
 refine A.Ct.enter Tryz.func140 rfl Tryz.ntmps140 rfl fun w0 F0=>?_;rw[F.ez]at hF;refine A.xl 1 ?_;refine A.AL.alloc 0 (cs:=[A.i 0,A.i 0,A.i 0,A.i 0,A.i 0,A.i 0,A.i 0,A.i 0]) Tryz.zeroValue169 fun g1=>?_;refine A.q0 [] [] [.n] [] (A.dl 2 ?_);refine A.q0 [] [] [.n,.n] [(4,A.i a0),(5,A.i a0)] ?_;obtain⟨r2,hv3,hF⟩:=A.bd_some hF;refine A.AL.call 1 [] (first:=[]) (cap:=[]) cf141 (o_w a0 a0 1 0 h0_ h0_ (A.hasl .i64 (1) rfl) (A.hasl .i64 (0) rfl) r2 hv3) .nil ?_;rintro _ _ ⟨rfl,rfl,hr4,hr5,hr6,hr7,hr8,hr9,hr10,hr11,hr12⟩;refine⟨by kernel_rfl,?_⟩;refine A.q0 [] [] [.n,.n] [(7,.agg #[A.i r2.1.1,A.i r2.1.2.1,A.i r2.1.2.2.1,A.i r2.1.2.2.2.1,A.i r2.1.2.2.2.2.1,A.i r2.1.2.2.2.2.2.1,A.i r2.1.2.2.2.2.2.2.1,A.i r2.1.2.2.2.2.2.2.2]),(8,A.i r2.2)] ?_;refine A.sw 0 [] [A.i r2.1.1,A.i r2.1.2.1,A.i r2.1.2.2.1,A.i r2.1.2.2.2.1,A.i r2.1.2.2.2.2.1,A.i r2.1.2.2.2.2.2.1,A.i r2.1.2.2.2.2.2.2.1,A.i r2.1.2.2.2.2.2.2.2] ?_;refine A.q0 [] [] [.n] [(3,A.i r2.2)] (A.dx 1 ?_);obtain rfl:=A.si hF;exact A.AX.ret [] (.tuple #[.agg #[A.i r2.1.1,A.i r2.1.2.1,A.i r2.1.2.2.1,A.i r2.1.2.2.2.1,A.i r2.1.2.2.2.2.1,A.i r2.1.2.2.2.2.2.1,A.i r2.1.2.2.2.2.2.2.1,A.i r2.1.2.2.2.2.2.2.2],A.i r2.2]) (fun a w hf hh=>Z.resv2 rfl (Z.rv_n hf rfl Tryz.isAgg169 Tryz.sizeOf169 (A.Hp.blk hh 0) rfl) (Z.rv_t hf rfl)) (⟨rfl,rfl,hr4,hr5,hr6,hr7,hr8,hr9,hr10,hr11,hr12⟩)
def F.ep (a0:Int):Option (D168×Int):=(F.d9 a0 a0 0 1).bind fun r2=>(some ((r2.1.1,r2.1.2.1,r2.1.2.2.1,r2.1.2.2.2.1,(r2.1.2.2.2.2.1,r2.1.2.2.2.2.2.1,r2.1.2.2.2.2.2.2.1,r2.1.2.2.2.2.2.2.2)),r2.2))
theorem o_bA (a0:Int)(h0_:A.h6 a0)(r:D168×Int)(hF:F.ep a0=some r):
    A.Ct Tryz.prog 138 [A.i a0] [] [] (fun v H'=>v=.tuple #[.agg #[A.i r.1.1,A.i r.1.2.1,A.i r.1.2.2.1,A.i r.1.2.2.2.1,A.i r.1.2.2.2.2.1,A.i r.1.2.2.2.2.2.1,A.i r.1.2.2.2.2.2.2.1,A.i r.1.2.2.2.2.2.2.2],A.i r.2]∧H'=[]∧A.h6 r.1.1∧A.h6 r.1.2.1∧A.h6 r.1.2.2.1∧A.h6 r.1.2.2.2.1∧A.h6 r.1.2.2.2.2.1∧A.h6 r.1.2.2.2.2.2.1∧A.h6 r.1.2.2.2.2.2.2.1∧A.h6 r.1.2.2.2.2.2.2.2∧A.h6 r.2):=by
 refine A.Ct.enter Tryz.func138 rfl Tryz.ntmps138 rfl fun w0 F0=>?_;rw[F.ep]at hF;refine A.xl 1 ?_;refine A.AL.alloc 0 (cs:=[A.i 0,A.i 0,A.i 0,A.i 0,A.i 0,A.i 0,A.i 0,A.i 0]) Tryz.zeroValue169 fun g1=>?_;refine A.q0 [] [] [.n] [] (A.dl 2 ?_);refine A.q0 [] [] [.n,.n] [(4,A.i a0),(5,A.i a0)] ?_;obtain⟨r2,hv3,hF⟩:=A.bd_some hF;refine A.AL.call 1 [] (first:=[]) (cap:=[]) cf141 (o_w a0 a0 0 1 h0_ h0_ (A.hasl .i64 (0) rfl) (A.hasl .i64 (1) rfl) r2 hv3) .nil ?_;rintro _ _ ⟨rfl,rfl,hr4,hr5,hr6,hr7,hr8,hr9,hr10,hr11,hr12⟩;refine⟨by kernel_rfl,?_⟩;refine A.q0 [] [] [.n,.n] [(7,.agg #[A.i r2.1.1,A.i r2.1.2.1,A.i r2.1.2.2.1,A.i r2.1.2.2.2.1,A.i r2.1.2.2.2.2.1,A.i r2.1.2.2.2.2.2.1,A.i r2.1.2.2.2.2.2.2.1,A.i r2.1.2.2.2.2.2.2.2]),(8,A.i r2.2)] ?_;refine A.sw 0 [] [A.i r2.1.1,A.i r2.1.2.1,A.i r2.1.2.2.1,A.i r2.1.2.2.2.1,A.i r2.1.2.2.2.2.1,A.i r2.1.2.2.2.2.2.1,A.i r2.1.2.2.2.2.2.2.1,A.i r2.1.2.2.2.2.2.2.2] ?_;refine A.q0 [] [] [.n] [(3,A.i r2.2)] (A.dx 1 ?_);obtain rfl:=A.si hF;exact A.AX.ret [] (.tuple #[.agg #[A.i r2.1.1,A.i r2.1.2.1,A.i r2.1.2.2.1,A.i r2.1.2.2.2.1,A.i r2.1.2.2.2.2.1,A.i r2.1.2.2.2.2.2.1,A.i r2.1.2.2.2.2.2.2.1,A.i r2.1.2.2.2.2.2.2.2],A.i r2.2]) (fun a w hf hh=>Z.resv2 rfl (Z.rv_n hf rfl Tryz.isAgg169 Tryz.sizeOf169 (A.Hp.blk hh 0) rfl) (Z.rv_t hf rfl)) (⟨rfl,rfl,hr4,hr5,hr6,hr7,hr8,hr9,hr10,hr11,hr12⟩)
def F.bQ (y15:Int)(y17:Int)(y19:Int)(y21:Int)(y23:Int)(y25:Int)(y27:Int)(y29:Int):Option D168:=some (y15,y17,y19,y21,(y23,y25,y27,y29))
def F.dy (a0:D70)(a1:Int):Option D168:=(F.eL a1).bind fun r3=>(if a0.2.1=12 then((F.ep a1).bind fun r31=>(F.bQ r31.1.1 r31.1.2.1 r31.1.2.2.1 r31.1.2.2.2.1 r31.1.2.2.2.2.1 r31.1.2.2.2.2.2.1 r31.1.2.2.2.2.2.2.1 r31.1.2.2.2.2.2.2.2))else(if a0.2.1=13 then((F.eo a1).bind fun r42=>(F.bQ r42.1.1 r42.1.2.1 r42.1.2.2.1 r42.1.2.2.2.1 r42.1.2.2.2.2.1 r42.1.2.2.2.2.2.1 r42.1.2.2.2.2.2.2.1 r42.1.2.2.2.2.2.2.2))else(if a0.2.1=14 then((F.ez a1).bind fun r53=>(F.bQ r53.1.1 r53.1.2.1 r53.1.2.2.1 r53.1.2.2.2.1 r53.1.2.2.2.2.1 r53.1.2.2.2.2.2.1 r53.1.2.2.2.2.2.2.1 r53.1.2.2.2.2.2.2.2))else(F.bQ r3.1.1 r3.1.2.1 r3.1.2.2.1 r3.1.2.2.2.1 r3.1.2.2.2.2.1 r3.1.2.2.2.2.2.1 r3.1.2.2.2.2.2.2.1 r3.1.2.2.2.2.2.2.2))))
theorem o_bd (a0:D70)(a1:Int)(A2_:Option Addr)(c3_:Nat)(h0_:A.h6 a0.1)(h1_:A.h6 a0.2.1)(h4_:A.h6 a0.2.2.2.1.1)(h5_:A.h6 a0.2.2.2.1.2.1)(h6_:a0.2.2.2.1.2.2.size≤maxLen)(h7_:a0.2.2.2.2.1.size≤maxLen)(h8_:A.h6 a0.2.2.2.2.2.1)(h9_:A.h6 a0.2.2.2.2.2.2)(h10_:A.h6 a1)(r:D168)(hF:F.dy a0 a1=some r):
    A.Ct Tryz.prog 121 [.agg #[A.i a0.1,A.i a0.2.1,.slice A2_ ((a0.2.2.1).length) c3_,A.i a0.2.2.2.1.1,A.i a0.2.2.2.1.2.1,.string a0.2.2.2.1.2.2,.string a0.2.2.2.2.1,A.i a0.2.2.2.2.2.1,A.i a0.2.2.2.2.2.2],A.i a1] [(0,.sh A.TI [.slice A2_ (a0.2.2.1).length c3_] a0.2.2.1)] [] (fun v H'=>v=.agg #[A.i r.1,A.i r.2.1,A.i r.2.2.1,A.i r.2.2.2.1,A.i r.2.2.2.2.1,A.i r.2.2.2.2.2.1,A.i r.2.2.2.2.2.2.1,A.i r.2.2.2.2.2.2.2]∧H'=[]∧A.h6 r.1∧A.h6 r.2.1∧A.h6 r.2.2.1∧A.h6 r.2.2.2.1∧A.h6 r.2.2.2.2.1∧A.h6 r.2.2.2.2.2.1∧A.h6 r.2.2.2.2.2.2.1∧A.h6 r.2.2.2.2.2.2.2):=by
 refine A.Ct.enter Tryz.func121 rfl Tryz.ntmps121 rfl fun w0 F0=>?_;rw[F.dy]at hF;refine A.xl 1 ?_;refine A.AL.box 1 (cs:=[A.i a0.1,A.i a0.2.1,.slice A2_ ((a0.2.2.1).length) c3_,A.i a0.2.2.2.1.1,A.i a0.2.2.2.1.2.1,.string a0.2.2.2.1.2.2,.string a0.2.2.2.2.1,A.i a0.2.2.2.2.2.1,A.i a0.2.2.2.2.2.2]) fun g1=>?_;refine A.AL.alloc 2 (cs:=[A.i 0,A.i 0,A.i 0,A.i 0,A.i 0,A.i 0,A.i 0,A.i 0]) Tryz.zeroValue169 fun g2=>?_;refine A.dl 2 ?_;refine A.q0 [] [] [.n] [(8,A.i a1)] ?_;obtain⟨r3,hv4,hF⟩:=A.bd_some hF;refine A.AL.call 3 [] (first:=[]) (cap:=[]) cf122 (o_a1 a1 h10_ r3 hv4) .nil ?_;rintro _ _ ⟨rfl,rfl,hr5,hr6,hr7,hr8,hr9,hr10,hr11,hr12,hr13⟩;refine⟨by kernel_rfl,?_⟩;refine A.q0 [] [] [.n,.n,.n] [(10,.agg #[A.i r3.1.1,A.i r3.1.2.1,A.i r3.1.2.2.1,A.i r3.1.2.2.2.1,A.i r3.1.2.2.2.2.1,A.i r3.1.2.2.2.2.2.1,A.i r3.1.2.2.2.2.2.2.1,A.i r3.1.2.2.2.2.2.2.2]),(11,A.i r3.2)] ?_;refine A.AL.alloc 43 (cs:=[A.i 0,A.i 0,A.i 0,A.i 0,A.i 0,A.i 0,A.i 0,A.i 0]) Tryz.zeroValue169 fun g14=>?_;refine A.sw 43 [] [A.i r3.1.1,A.i r3.1.2.1,A.i r3.1.2.2.1,A.i r3.1.2.2.2.1,A.i r3.1.2.2.2.2.1,A.i r3.1.2.2.2.2.2.1,A.i r3.1.2.2.2.2.2.2.1,A.i r3.1.2.2.2.2.2.2.2] ?_;refine A.q0 [] [] [.n] [] (A.dx 1 ?_);refine A.AX.join [4,5] [2] (fun nl nh=>∃(y15:Int),∃(y17:Int),∃(y19:Int),∃(y21:Int),∃(y23:Int),∃(y25:Int),∃(y27:Int),∃(y29:Int),nl=[]∧nh=[(43,.blk g14 169 [A.i y15,A.i y17,A.i y19,A.i y21,A.i y23,A.i y25,A.i y27,A.i y29])]∧A.h6 y15∧A.h6 y17∧A.h6 y19∧A.h6 y21∧A.h6 y23∧A.h6 y25∧A.h6 y27∧A.h6 y29∧F.bQ y15 y17 y19 y21 y23 y25 y27 y29=some r) ?_ ?_
 ·refine A.xl 1 ?_;refine A.q0 [1] [] [.n,.b 0 1] [(13,A.i a0.2.1)] (A.dl 3 ?_);refine A.q0 [] [] [.n,.n] [(14,.bool (decide (a0.2.1=12)))] (A.dx 1 ?_);refine A.AX.cnd rfl hF ?_ ?_<;>intro hb hF
  ·refine A.xl 0 ?_;refine A.q0 [] [] [.n] [(17,A.i a1)] ?_;obtain⟨r31,hv32,hF⟩:=A.bd_some hF;refine A.AL.call 44 [] (first:=[]) (cap:=[]) cf138 (o_bA a1 h10_ r31 hv32) .nil ?_;rintro _ _ ⟨rfl,rfl,hr33,hr34,hr35,hr36,hr37,hr38,hr39,hr40,hr41⟩;refine⟨by kernel_rfl,?_⟩;refine A.q0 [] [] [.n,.n,.n] [(19,.agg #[A.i r31.1.1,A.i r31.1.2.1,A.i r31.1.2.2.1,A.i r31.1.2.2.2.1,A.i r31.1.2.2.2.2.1,A.i r31.1.2.2.2.2.2.1,A.i r31.1.2.2.2.2.2.2.1,A.i r31.1.2.2.2.2.2.2.2])] ?_;refine A.sw 43 [] [A.i r31.1.1,A.i r31.1.2.1,A.i r31.1.2.2.1,A.i r31.1.2.2.2.1,A.i r31.1.2.2.2.2.1,A.i r31.1.2.2.2.2.2.1,A.i r31.1.2.2.2.2.2.2.1,A.i r31.1.2.2.2.2.2.2.2] ?_;refine A.de 1 ?_;exact A.j ⟨r31.1.1,r31.1.2.1,r31.1.2.2.1,r31.1.2.2.2.1,r31.1.2.2.2.2.1,r31.1.2.2.2.2.2.1,r31.1.2.2.2.2.2.2.1,r31.1.2.2.2.2.2.2.2,rfl,rfl,hr33,hr34,hr35,hr36,hr37,hr38,hr39,hr40,hF⟩
  refine A.xl 1 ?_;refine A.q0 [] [] [.n,.n] [(21,.bool (decide (a0.2.1=13)))] (A.dx 1 ?_);refine A.AX.cnd rfl hF ?_ ?_<;>intro hb hF
  ·refine A.xl 0 ?_;refine A.q0 [] [] [.n] [(24,A.i a1)] ?_;obtain⟨r42,hv43,hF⟩:=A.bd_some hF;refine A.AL.call 84 [] (first:=[]) (cap:=[]) cf139 (o_bz a1 h10_ r42 hv43) .nil ?_;rintro _ _ ⟨rfl,rfl,hr44,hr45,hr46,hr47,hr48,hr49,hr50,hr51,hr52⟩;refine⟨by kernel_rfl,?_⟩;refine A.q0 [] [] [.n,.n,.n] [(26,.agg #[A.i r42.1.1,A.i r42.1.2.1,A.i r42.1.2.2.1,A.i r42.1.2.2.2.1,A.i r42.1.2.2.2.2.1,A.i r42.1.2.2.2.2.2.1,A.i r42.1.2.2.2.2.2.2.1,A.i r42.1.2.2.2.2.2.2.2])] ?_;refine A.sw 43 [] [A.i r42.1.1,A.i r42.1.2.1,A.i r42.1.2.2.1,A.i r42.1.2.2.2.1,A.i r42.1.2.2.2.2.1,A.i r42.1.2.2.2.2.2.1,A.i r42.1.2.2.2.2.2.2.1,A.i r42.1.2.2.2.2.2.2.2] ?_;refine A.de 1 ?_;exact A.j ⟨r42.1.1,r42.1.2.1,r42.1.2.2.1,r42.1.2.2.2.1,r42.1.2.2.2.2.1,r42.1.2.2.2.2.2.1,r42.1.2.2.2.2.2.2.1,r42.1.2.2.2.2.2.2.2,rfl,rfl,hr44,hr45,hr46,hr47,hr48,hr49,hr50,hr51,hF⟩
  refine A.xl 1 ?_;refine A.q0 [] [] [.n,.n] [(28,.bool (decide (a0.2.1=14)))] (A.dx 1 ?_);refine A.AX.cnd rfl hF ?_ ?_<;>intro hb hF
  ·refine A.xl 0 ?_;refine A.q0 [] [] [.n] [(31,A.i a1)] ?_;obtain⟨r53,hv54,hF⟩:=A.bd_some hF;refine A.AL.call 124 [] (first:=[]) (cap:=[]) cf140 (o_bP a1 h10_ r53 hv54) .nil ?_;rintro _ _ ⟨rfl,rfl,hr55,hr56,hr57,hr58,hr59,hr60,hr61,hr62,hr63⟩;refine⟨by kernel_rfl,?_⟩;refine A.q0 [] [] [.n,.n,.n] [(33,.agg #[A.i r53.1.1,A.i r53.1.2.1,A.i r53.1.2.2.1,A.i r53.1.2.2.2.1,A.i r53.1.2.2.2.2.1,A.i r53.1.2.2.2.2.2.1,A.i r53.1.2.2.2.2.2.2.1,A.i r53.1.2.2.2.2.2.2.2])] ?_;refine A.sw 43 [] [A.i r53.1.1,A.i r53.1.2.1,A.i r53.1.2.2.1,A.i r53.1.2.2.2.1,A.i r53.1.2.2.2.2.1,A.i r53.1.2.2.2.2.2.1,A.i r53.1.2.2.2.2.2.2.1,A.i r53.1.2.2.2.2.2.2.2] ?_;refine A.de 1 ?_;exact A.j ⟨r53.1.1,r53.1.2.1,r53.1.2.2.1,r53.1.2.2.2.1,r53.1.2.2.2.2.1,r53.1.2.2.2.2.2.1,r53.1.2.2.2.2.2.2.1,r53.1.2.2.2.2.2.2.2,rfl,rfl,hr55,hr56,hr57,hr58,hr59,hr60,hr61,hr62,hF⟩
  refine A.xe 2 ?_;exact A.j ⟨r3.1.1,r3.1.2.1,r3.1.2.2.1,r3.1.2.2.2.1,r3.1.2.2.2.2.1,r3.1.2.2.2.2.2.1,r3.1.2.2.2.2.2.2.1,r3.1.2.2.2.2.2.2.2,rfl,rfl,hr5,hr6,hr7,hr8,hr9,hr10,hr11,hr12,hF⟩
 rintro _ _ ⟨y15,y17,y19,y21,y23,y25,y27,y29,rfl,rfl,hy16,hy18,hy20,hy22,hy24,hy26,hy28,hy30,hF⟩;rw[F.bQ]at hF;refine A.xl 1 ?_;refine A.q0 [43] [] [.b 0 0] [(35,.agg #[A.i y15,A.i y17,A.i y19,A.i y21,A.i y23,A.i y25,A.i y27,A.i y29])] ?_;refine A.sw 2 [] [A.i y15,A.i y17,A.i y19,A.i y21,A.i y23,A.i y25,A.i y27,A.i y29] ?_;refine A.dx 1 ?_;obtain rfl:=A.si hF;exact A.AX.ret [] (.agg #[A.i y15,A.i y17,A.i y19,A.i y21,A.i y23,A.i y25,A.i y27,A.i y29]) (fun a w hf hh=>Z.resv1 rfl (Z.rv_n hf rfl Tryz.isAgg169 Tryz.sizeOf169 (A.Hp.blk hh 2) rfl)) (⟨rfl,rfl,hy16,hy18,hy20,hy22,hy24,hy26,hy28,hy30⟩)
def F.cH (k30:(List D170)→Int→Option (List D170))(y5:Int)(xs10:List D170):Option (List D170):=A.gd (Z.R64 (y5+1)) (k30 xs10 (y5+1))
def F.dg (k30:(List D170)→Int→Option (List D170))(y5:Int)(xs33:List D170):Option (List D170):=F.cH k30 y5 xs33
def F.dh (k38:(List D170)→Int→Option (List D170))(y80:Int)(xs92:List D170):Option (List D170):=A.gd (Z.R64 (y80+1)) (k38 xs92 (y80+1))
def F.aQ (k37:(List D170)→Int→Option (List D170))(a0:D23)(x12:D145)(r18:D70×Bool)(r59:D168×Int)(y74:Int):Nat→(List D170)→Int→Option (List D170)
 |0,_,_=>none
 |f+1,xs79,y80=>(A.ix a0 y74).bind fun x83=>(if y80<((x83.2.2.1).length:Int)then((A.ix a0 y74).bind fun x94=>((A.ix x94.2.2.1 y80).bind fun x102=>(if x102=r18.1.1 then((A.ix a0 y74).bind fun x108=>(A.gd ((List.length (α:=D170) xs79+List.length (α:=D170) [(x12.1,(x108.1,y80),(r59.1.1,r59.1.2.1,r59.1.2.2.1,r59.1.2.2.2.1,(r59.1.2.2.2.2.1,r59.1.2.2.2.2.2.1,r59.1.2.2.2.2.2.2.1,r59.1.2.2.2.2.2.2.2)))])*96≤140737488355328) (F.dh (F.aQ k37 a0 x12 r18 r59 y74 f) y80 (xs79++[(x12.1,(x108.1,y80),(r59.1.1,r59.1.2.1,r59.1.2.2.1,r59.1.2.2.2.1,(r59.1.2.2.2.2.1,r59.1.2.2.2.2.2.1,r59.1.2.2.2.2.2.2.1,r59.1.2.2.2.2.2.2.2)))]))))else(F.dh (F.aQ k37 a0 x12 r18 r59 y74 f) y80 xs79))))else(A.gd (Z.R64 (y74+1)) (k37 xs79 (y74+1))))
def F.aR (k30:(List D170)→Int→Option (List D170))(a0:D23)(y5:Int)(x12:D145)(r18:D70×Bool)(r59:D168×Int):Nat→(List D170)→Int→Option (List D170)
 |0,_,_=>none
 |f+1,xs73,y74=>if y74<((a0).length:Int)then(F.aQ (F.aR k30 a0 y5 x12 r18 r59 f) a0 x12 r18 r59 y74 A.FU xs73 0)else(F.cH k30 y5 xs73)
def F.ad (a0:D23)(a1:(List D145)):Nat→(List D170)→Int→Option (List D170)
 |0,_,_=>none
 |f+1,xs4,y5=>if y5<((a1).length:Int)then((A.ix a1 y5).bind fun x12=>((F.d8 a0 x12.1.1).bind fun r18=>(if x12.1.2≠2 then(if r18.1.2.1≠15 then((A.ix a1 y5).bind fun x34=>((F.dy r18.1 x34.2).bind fun r40=>(A.gd ((List.length (α:=D170) xs4+List.length (α:=D170) [(x12.1,(r18.1.1,2),(r40.1,r40.2.1,r40.2.2.1,r40.2.2.2.1,(r40.2.2.2.2.1,r40.2.2.2.2.2.1,r40.2.2.2.2.2.2.1,r40.2.2.2.2.2.2.2)))])*96≤140737488355328) (F.dg (F.ad a0 a1 f) y5 (xs4++[(x12.1,(r18.1.1,2),(r40.1,r40.2.1,r40.2.2.1,r40.2.2.2.1,(r40.2.2.2.2.1,r40.2.2.2.2.2.1,r40.2.2.2.2.2.2.1,r40.2.2.2.2.2.2.2)))])))))else(F.dg (F.ad a0 a1 f) y5 xs4))else((A.ix a1 y5).bind fun x54=>((F.eL x54.2).bind fun r59=>(F.aR (F.ad a0 a1 f) a0 y5 x12 r18 r59 A.FU xs4 0))))))else(some xs4)
def F.dS (a0:D23)(a1:(List D145)):Option (List D170):=F.ad a0 a1 A.FU [] 0
theorem o_bB (a0:D23)(a1:(List D145))(A0_:Option Addr)(c1_:Nat)(A2_:Option Addr)(c3_:Nat)(r:(List D170))(hF:F.dS a0 a1=some r):
    A.Ct Tryz.prog 91 [.agg #[.slice A0_ ((a0).length) c1_],.slice A2_ ((a1).length) c3_] [(0,.sh (.slice T70) [.slice A0_ (a0).length c1_] a0),(1,.ln T145 A2_ c3_ a1)] [] (fun v H'=>∃(A0':Option Addr) (c1':Nat),v=.slice A0' ((r).length) c1'∧H'=[(0,.own T170 171 A0' c1' r)]):=by
 refine A.Ct.enter Tryz.func91 rfl Tryz.ntmps91 rfl fun w0 F0=>?_;rw[F.dS]at hF;refine A.xl 1 ?_;refine A.AL.box 2 (cs:=[.slice A0_ ((a0).length) c1_]) fun g1=>?_;refine A.q0 [] [] [.n] [] (A.dl 2 ?_);refine A.q0 [] [] [.n] [(5,.slice none 0 0)] (A.dl 3 ?_);refine A.q0 [] [] [.n] [(6,A.i 0)] (A.dx 2 ?_);refine A.nil 489 T170 171 ?_;refine A.lp_ [1,2] [0,1,2] (fun f nl nh=>∃(xs4:List D170),∃(y5:Int),∃(A2:Option Addr),∃(c3:Nat),nl=[(5,.slice A2 ((xs4).length) c3),(6,A.i y5)]∧nh=[(489,.own T170 171 A2 c3 xs4)]∧A.h6 y5∧F.ad a0 a1 f xs4 y5=some r) ⟨[],0,none,0,rfl,rfl,(A.hasl .i64 (0) rfl),hF⟩ ?_;rintro f7 _ _ ⟨xs4,y5,A2,c3,rfl,rfl,hy6,hF⟩;rcases f7 with _|f7
 ·exact A.no0 hF
 rw[F.ad]at hF;refine A.xl 2 ?_;refine A.q0 [] [] [.n,.n,.n,.n] [(17,.bool (decide (y5<((a1).length:Int))))] (A.dx 1 ?_);refine A.AX.cnd rfl hF ?_ ?_<;>intro hb hF
 ·refine A.xx 2 ?_;refine A.AX.join [1,2,6] [0,1,2] (fun nl nh=>∃(xs10:List D170),∃(A8:Option Addr),∃(c9:Nat),nl=[(5,.slice A8 ((xs10).length) c9)]∧nh=[(489,.own T170 171 A8 c9 xs10)]∧F.cH (F.ad a0 a1 f7) y5 xs10=some r) ?_ ?_
  ·refine A.xl 2 ?_;refine A.q0 [] [] [.n,.n] [(20,.slice A2_ ((a1).length) c3_),(21,A.i y5)] ?_;obtain⟨x12,hv13,hF⟩:=A.bd_some hF;refine A.AL.ixl 1 888 hv13 fun ho14=>?_;intro b15 o16;refine A.q0 [] [888] [.n,.e 0 0] [(24,.agg #[A.i x12.1.1,A.i x12.1.2])] ?_;refine A.AL.alloc 889 (cs:=[A.i 0,A.i 0]) Tryz.zeroValue119 fun g17=>?_;refine A.sw 889 [] [A.i x12.1.1,A.i x12.1.2] ?_;refine A.dl 2 ?_;refine A.q0 [2,889] [] [.b 0 0,.n,.b 1 0] [(26,.agg #[.slice A0_ ((a0).length) c1_]),(28,A.i x12.1.1)] ?_;obtain⟨r18,hv19,hF⟩:=A.bd_some hF;refine A.AL.call 890 [] (first:=[]) (cap:=[]) cf120 (o_aI a0 x12.1.1 A0_ c1_ ho14.1.1 r18 hv19) (.s 0 .nil) ?_;rintro _ _ ⟨A22,c23,rfl,rfl,hr20,hr21,hr24,hr25,hr26,hr27,hr28,hr29⟩;refine⟨by kernel_rfl,?_⟩;refine A.q0 [] [] [.n,.n,.n] [(30,.agg #[A.i r18.1.1,A.i r18.1.2.1,.slice A22 ((r18.1.2.2.1).length) c23,A.i r18.1.2.2.2.1.1,A.i r18.1.2.2.2.1.2.1,.string r18.1.2.2.2.1.2.2,.string r18.1.2.2.2.2.1,A.i r18.1.2.2.2.2.2.1,A.i r18.1.2.2.2.2.2.2]),(31,.bool r18.2)] ?_;refine A.AL.alloc 930 (cs:=[A.i 0,A.i 0,.slice none 0 0,A.i 0,A.i 0,.string (ByteArray.mk #[]),.string (ByteArray.mk #[]),A.i 0,A.i 0]) Tryz.zeroValue71 fun g30=>?_;refine A.sw 930 [] [A.i r18.1.1,A.i r18.1.2.1,.slice A22 ((r18.1.2.2.1).length) c23,A.i r18.1.2.2.2.1.1,A.i r18.1.2.2.2.1.2.1,.string r18.1.2.2.2.1.2.2,.string r18.1.2.2.2.2.1,A.i r18.1.2.2.2.2.2.1,A.i r18.1.2.2.2.2.2.2] ?_;refine A.q0 [] [] [.n] [] (A.dl 3 ?_);refine A.q0 [889] [] [.n,.b 0 1,.n] [(34,.bool (decide (x12.1.2≠2)))] (A.dx 1 ?_);refine A.AX.cnd rfl hF ?_ ?_<;>intro hb hF
   ·refine A.AX.join [1,2,6] [0,1,2] (fun nl nh=>∃(xs33:List D170),∃(A31:Option Addr),∃(c32:Nat),nl=[(5,.slice A31 ((xs33).length) c32)]∧nh=[(489,.own T170 171 A31 c32 xs33)]∧F.dg (F.ad a0 a1 f7) y5 xs33=some r) ?_ ?_
    ·refine A.xl 1 ?_;refine A.q0 [930] [] [.n,.b 0 1,.n] [(37,.bool (decide (r18.1.2.1≠15)))] (A.dx 1 ?_);refine A.AX.cnd rfl hF ?_ ?_<;>intro hb hF
     ·refine A.AX.dr mixed 16 16 (A.mb 16 0) ?_;refine A.hq A.pb [] [0,1,2,888,889,890,930] [889,930] [] (A.mb 16 255) 8 [(0,.n),(1,.b 0 0),(2,.n),(5,.b 1 0),(6,.n),(7,.n),(3,.b 1 0),(4,.n)] [(38,.slice A2 ((xs4).length) c3),(39,.agg #[A.i x12.1.1,A.i x12.1.2]),(43,.agg #[A.i r18.1.1,A.i r18.1.2.1,.slice A22 ((r18.1.2.2.1).length) c23,A.i r18.1.2.2.2.1.1,A.i r18.1.2.2.2.1.2.1,.string r18.1.2.2.2.1.2.2,.string r18.1.2.2.2.2.1,A.i r18.1.2.2.2.2.2.1,A.i r18.1.2.2.2.2.2.2]),(44,.slice A2_ ((a1).length) c3_),(45,A.i y5),(42,.agg #[A.i r18.1.1,A.i 2])] ?_;obtain⟨x34,hv35,hF⟩:=A.bd_some hF;refine A.AH.pkl 1 931 hv35 fun ho36=>?_;intro b38 o39 hA37;refine A.AH.v A.pb [0,1,2,888,889,890,930] [0,1,2,888,889,890,930,931] 8 (A.mb 16 511) rfl (fun a w hf hh=>A.r_ixa (t:=T145) hv35 hA37 hf) ?_;refine A.hq A.pb [0,1,2,888,889,890,930,931] [0,1,2,888,889,890,930,931] [] [931] (A.mb 16 2047) 5 [(9,.n),(10,.e 0 2)] [(48,A.i x34.2)] ?_;refine A.AH.one 11 ?_;obtain⟨r40,hv41,hF⟩:=A.bd_some hF;refine A.AL.call 932 [] (first:=[]) (cap:=[]) cf121 (o_bd r18.1 x34.2 A22 c23 hr20 hr21 hr24 hr25 hr26 hr27 hr28 hr29 ho36.2 r40 hv41) (.s 890 .nil) ?_;rintro _ _ ⟨rfl,rfl,hr42,hr43,hr44,hr45,hr46,hr47,hr48,hr49⟩;refine⟨by kernel_rfl,?_⟩;refine A.AH.nx (A.mb 16 4095) [0,1,2,888,889,890,930,931] ?_;refine A.hq A.pb [0,1,2,888,889,890,930,931] [0,1,2,888,889,890,930,931] [] [] (A.mb 16 8191) 3 [(12,.n)] [(50,.agg #[A.i x12.1.1,A.i x12.1.2,A.i r18.1.1,A.i 2,A.i r40.1,A.i r40.2.1,A.i r40.2.2.1,A.i r40.2.2.2.1,A.i r40.2.2.2.2.1,A.i r40.2.2.2.2.2.1,A.i r40.2.2.2.2.2.2.1,A.i r40.2.2.2.2.2.2.2])] ?_;refine A.AH.one 13 ?_;refine A.AL.bsl 972 (ty:=T170) (cs:=[A.i x12.1.1,A.i x12.1.2,A.i r18.1.1,A.i 2,A.i r40.1,A.i r40.2.1,A.i r40.2.2.1,A.i r40.2.2.2.1,A.i r40.2.2.2.2.1,A.i r40.2.2.2.2.2.1,A.i r40.2.2.2.2.2.2.1,A.i r40.2.2.2.2.2.2.2]) [(x12.1,(r18.1.1,2),(r40.1,r40.2.1,r40.2.2.1,r40.2.2.2.1,(r40.2.2.2.2.1,r40.2.2.2.2.2.1,r40.2.2.2.2.2.2.1,r40.2.2.2.2.2.2.2)))] ⟨⟨⟨⟨rfl,ho14.1.1⟩,⟨rfl,ho14.1.2⟩⟩,⟨⟨rfl,hr20⟩,⟨rfl,(A.hasl .i64 (2) rfl)⟩⟩,⟨⟨rfl,hr42⟩,⟨rfl,hr43⟩,⟨rfl,hr44⟩,⟨rfl,hr45⟩,⟨⟨rfl,hr46⟩,⟨rfl,hr47⟩,⟨rfl,hr48⟩,⟨rfl,hr49⟩⟩⟩⟩,rfl⟩ (fun g50=>?_) Tryz.zeroValue171 Tryz.sizeOf171
      refine A.AH.nx (A.mb 16 16383) [0,1,2,888,889,890,930,931] ?_;refine A.AH.one 14 ?_;obtain⟨hl53,hF⟩:=A.gd_some hF;refine A.AL.app (k:=489) [] (A.rowO (k:=972) rfl) inf171 hl53 fun A51 c52=>?_;refine A.AH.nx (A.mb 16 32767) [0,1,2,888,889,890,930,931] ?_;refine A.hq A.pb [0,1,2,888,889,890,930,931] [0,1,2,489,888,889,890,930,931,972] [] [] (A.mb 16 65535) 0 [(15,.n)] [(5,.slice A51 ((xs4++[(x12.1,(r18.1.1,2),(r40.1,r40.2.1,r40.2.2.1,r40.2.2.2.1,(r40.2.2.2.2.1,r40.2.2.2.2.2.1,r40.2.2.2.2.2.2.1,r40.2.2.2.2.2.2.2)))]).length) c52)] (A.AH.done ?_);exact A.j ⟨(xs4++[(x12.1,(r18.1.1,2),(r40.1,r40.2.1,r40.2.2.1,r40.2.2.2.1,(r40.2.2.2.2.1,r40.2.2.2.2.2.1,r40.2.2.2.2.2.2.1,r40.2.2.2.2.2.2.2)))]),A51,c52,rfl,rfl,hF⟩
     refine A.xe 1 ?_;exact A.j ⟨xs4,A2,c3,rfl,rfl,hF⟩
    rintro _ _ ⟨xs33,A31,c32,rfl,rfl,hF⟩;rw[F.dg]at hF;refine A.xe 1 ?_;exact A.j ⟨xs33,A31,c32,rfl,rfl,hF⟩
   refine A.xl 3 ?_;refine A.q0 [] [] [.n,.n] [(54,.slice A2_ ((a1).length) c3_),(55,A.i y5)] ?_;obtain⟨x54,hv55,hF⟩:=A.bd_some hF;refine A.AL.ixl 1 973 hv55 fun ho56=>?_;intro b57 o58;refine A.q0 [] [973] [.n,.e 0 2] [(58,A.i x54.2)] ?_;obtain⟨r59,hv60,hF⟩:=A.bd_some hF;refine A.AL.call 974 [] (first:=[]) (cap:=[]) cf122 (o_a1 x54.2 ho56.2 r59 hv60) .nil ?_;rintro _ _ ⟨rfl,rfl,hr61,hr62,hr63,hr64,hr65,hr66,hr67,hr68,hr69⟩;refine⟨by kernel_rfl,?_⟩;refine A.q0 [] [] [.n,.n,.n] [(60,.agg #[A.i r59.1.1,A.i r59.1.2.1,A.i r59.1.2.2.1,A.i r59.1.2.2.2.1,A.i r59.1.2.2.2.2.1,A.i r59.1.2.2.2.2.2.1,A.i r59.1.2.2.2.2.2.2.1,A.i r59.1.2.2.2.2.2.2.2]),(61,A.i r59.2)] ?_;refine A.AL.alloc 1014 (cs:=[A.i 0,A.i 0,A.i 0,A.i 0,A.i 0,A.i 0,A.i 0,A.i 0]) Tryz.zeroValue169 fun g70=>?_;refine A.sw 1014 [] [A.i r59.1.1,A.i r59.1.2.1,A.i r59.1.2.2.1,A.i r59.1.2.2.2.1,A.i r59.1.2.2.2.2.1,A.i r59.1.2.2.2.2.2.1,A.i r59.1.2.2.2.2.2.2.1,A.i r59.1.2.2.2.2.2.2.2] ?_;refine A.q0 [] [] [.n] [] (A.dl 2 ?_);refine A.q0 [] [] [.n] [(12,A.i 0)] (A.dx 2 ?_);refine A.lp_ [1,2,6,7,8,10] [0,1,2,889,890,930,1014] (fun f nl nh=>∃(xs73:List D170),∃(y74:Int),∃(A71:Option Addr),∃(c72:Nat),nl=[(5,.slice A71 ((xs73).length) c72),(12,A.i y74)]∧nh=[(489,.own T170 171 A71 c72 xs73)]∧A.h6 y74∧F.aR (F.ad a0 a1 f7) a0 y5 x12 r18 r59 f xs73 y74=some r) ⟨xs4,0,A2,c3,rfl,rfl,(A.hasl .i64 (0) rfl),hF⟩ ?_;rintro f76 _ _ ⟨xs73,y74,A71,c72,rfl,rfl,hy75,hF⟩;rcases f76 with _|f76
   ·exact A.no0 hF
   rw[F.aR]at hF;refine A.xl 2 ?_;refine A.q0 [2] [] [.n,.n,.b 0 0,.n,.n] [(66,.bool (decide (y74<((a0).length:Int))))] (A.dx 1 ?_);refine A.AX.cnd rfl hF ?_ ?_<;>intro hb hF
   ·refine A.xl 5 ?_;refine A.q0 [] [] [.n] [(13,A.i 0)] (A.dx 2 ?_);refine A.lp_ [1,2,6,7,8,10,12] [0,1,2,889,890,930,1014] (fun f nl nh=>∃(xs79:List D170),∃(y80:Int),∃(A77:Option Addr),∃(c78:Nat),nl=[(5,.slice A77 ((xs79).length) c78),(13,A.i y80)]∧nh=[(489,.own T170 171 A77 c78 xs79)]∧A.h6 y80∧F.aQ (F.aR (F.ad a0 a1 f7) a0 y5 x12 r18 r59 f76) a0 x12 r18 r59 y74 f xs79 y80=some r) ⟨xs73,0,A71,c72,rfl,rfl,(A.hasl .i64 (0) rfl),hF⟩ ?_;rintro f82 _ _ ⟨xs79,y80,A77,c78,rfl,rfl,hy81,hF⟩;rcases f82 with _|f82
    ·exact A.no0 hF
    rw[F.aQ]at hF;refine A.xl 2 ?_;refine A.q0 [2] [] [.n,.n,.b 0 0,.n] [(69,A.i y80),(71,.slice A0_ ((a0).length) c1_),(72,A.i y74)] ?_;obtain⟨x83,hv84,hF⟩:=A.bd_some hF;refine A.AL.ixs 0 1079 hv84 fun ho85=>?_;intro A86 c87 b88 o89;refine A.q0 [] [1079] [.n,.e 0 2,.n,.n] [(77,.bool (decide (y80<((x83.2.2.1).length:Int))))] (A.dx 1 ?_);refine A.AX.cnd rfl hF ?_ ?_<;>intro hb hF
    ·refine A.xx 2 ?_;refine A.AX.join [1,2,6,7,8,10,12,13] [0,1,2,889,890,930,1014] (fun nl nh=>∃(xs92:List D170),∃(A90:Option Addr),∃(c91:Nat),nl=[(5,.slice A90 ((xs92).length) c91)]∧nh=[(489,.own T170 171 A90 c91 xs92)]∧F.dh (F.aQ (F.aR (F.ad a0 a1 f7) a0 y5 x12 r18 r59 f76) a0 x12 r18 r59 y74 f82) y80 xs92=some r) ?_ ?_
     ·refine A.xx 2 ?_;refine A.AX.dr mixed 12 12 (A.mb 12 0) ?_;refine A.hq A.pb [] [0,1,2,489,889,890,930,1014,1079,1080] [2,930] [] (A.mb 12 1607) 6 [(0,.n),(2,.n),(6,.n),(9,.n),(1,.b 0 0),(10,.b 1 0)] [(82,A.i y74),(86,A.i y80),(81,.slice A0_ ((a0).length) c1_),(90,A.i r18.1.1)] ?_;obtain⟨x94,hv95,hF⟩:=A.bd_some hF;refine A.AH.pks 0 1081 hv95 fun ho96=>?_;intro A98 c99 b100 o101 hA97;refine A.AH.v A.pb [0,1,2,489,889,890,930,1014,1079,1080] [0,1,2,489,889,890,930,1014,1079,1080,1081,1082] 3 (A.mb 12 1615) rfl (fun a w hf hh=>A.r_ixa (t:=T70) hv95 hA97 hf) ?_;refine A.hq A.pb [0,1,2,489,889,890,930,1014,1079,1080,1081,1082] [0,1,2,489,889,890,930,1014,1079,1080,1081,1082] [] [1081] (A.mb 12 1663) 3 [(4,.n),(5,.e 0 2)] [(85,.slice A98 ((x94.2.2.1).length) c99)] ?_;obtain⟨x102,hv103,hF⟩:=A.bd_some hF;refine A.AH.pks 1082 1083 hv103 fun ho104=>?_;intro b106 o107 hA105;refine A.AH.v A.pb [0,1,2,489,889,890,930,1014,1079,1080,1081,1082] [0,1,2,489,889,890,930,1014,1079,1080,1081,1082,1083] 7 (A.mb 12 1791) rfl (fun a w hf hh=>A.r_ixa (t:=A.ti) hv103 hA105 hf) ?_;refine A.hq A.pb [0,1,2,489,889,890,930,1014,1079,1080,1081,1082,1083] [0,1,2,489,889,890,930,1014,1079,1080,1081,1082,1083] [] [1083] (A.mb 12 4095) 0 [(8,.e 0 0),(11,.n)] [(91,.bool (decide (x102=r18.1.1)))] (A.AH.done ?_);refine A.ex 1 ?_;refine A.AX.cnd rfl hF ?_ ?_<;>intro hb hF
      ·refine A.AX.dr mixed 15 15 (A.mb 15 0) ?_;refine A.hq A.pb [] [0,1,2,889,890,930,1014,1079,1080,1081,1082,1083] [889,1014,2] [] (A.mb 15 1311) 8 [(0,.n),(1,.b 0 0),(2,.n),(4,.n),(8,.n),(10,.b 1 0),(3,.b 2 0)] [(92,.slice A77 ((xs79).length) c78),(93,.agg #[A.i x12.1.1,A.i x12.1.2]),(96,A.i y74),(100,A.i y80),(102,.agg #[A.i r59.1.1,A.i r59.1.2.1,A.i r59.1.2.2.1,A.i r59.1.2.2.2.1,A.i r59.1.2.2.2.2.1,A.i r59.1.2.2.2.2.2.1,A.i r59.1.2.2.2.2.2.2.1,A.i r59.1.2.2.2.2.2.2.2]),(95,.slice A0_ ((a0).length) c1_)] ?_;obtain⟨x108,hv109,hF⟩:=A.bd_some hF;refine A.AH.pks 0 1084 hv109 fun ho110=>?_;intro A112 c113 b114 o115 hA111;refine A.AH.v A.pb [0,1,2,889,890,930,1014,1079,1080,1081,1082,1083] [0,1,2,889,890,930,1014,1079,1080,1081,1082,1083,1084,1085] 5 (A.mb 15 1343) rfl (fun a w hf hh=>A.r_ixa (t:=T70) hv109 hA111 hf) ?_;refine A.hq A.pb [0,1,2,889,890,930,1014,1079,1080,1081,1082,1083,1084,1085] [0,1,2,889,890,930,1014,1079,1080,1081,1082,1083,1084,1085] [] [1084] (A.mb 15 4095) 3 [(6,.n),(7,.e 0 0),(9,.n),(11,.n)] [(103,.agg #[A.i x12.1.1,A.i x12.1.2,A.i x108.1,A.i y80,A.i r59.1.1,A.i r59.1.2.1,A.i r59.1.2.2.1,A.i r59.1.2.2.2.1,A.i r59.1.2.2.2.2.1,A.i r59.1.2.2.2.2.2.1,A.i r59.1.2.2.2.2.2.2.1,A.i r59.1.2.2.2.2.2.2.2])] ?_;refine A.AH.one 12 ?_;refine A.AL.bsl 1086 (ty:=T170) (cs:=[A.i x12.1.1,A.i x12.1.2,A.i x108.1,A.i y80,A.i r59.1.1,A.i r59.1.2.1,A.i r59.1.2.2.1,A.i r59.1.2.2.2.1,A.i r59.1.2.2.2.2.1,A.i r59.1.2.2.2.2.2.1,A.i r59.1.2.2.2.2.2.2.1,A.i r59.1.2.2.2.2.2.2.2]) [(x12.1,(x108.1,y80),(r59.1.1,r59.1.2.1,r59.1.2.2.1,r59.1.2.2.2.1,(r59.1.2.2.2.2.1,r59.1.2.2.2.2.2.1,r59.1.2.2.2.2.2.2.1,r59.1.2.2.2.2.2.2.2)))] ⟨⟨⟨⟨rfl,ho14.1.1⟩,⟨rfl,ho14.1.2⟩⟩,⟨⟨rfl,ho110.1⟩,⟨rfl,hy81⟩⟩,⟨⟨rfl,hr61⟩,⟨rfl,hr62⟩,⟨rfl,hr63⟩,⟨rfl,hr64⟩,⟨⟨rfl,hr65⟩,⟨rfl,hr66⟩,⟨rfl,hr67⟩,⟨rfl,hr68⟩⟩⟩⟩,rfl⟩ (fun g116=>?_) Tryz.zeroValue171 Tryz.sizeOf171
       refine A.AH.nx (A.mb 15 8191) [0,1,2,889,890,930,1014,1079,1080,1081,1082,1083,1084,1085] ?_;refine A.AH.one 13 ?_;obtain⟨hl119,hF⟩:=A.gd_some hF;refine A.AL.app (k:=489) [] (A.rowO (k:=1086) rfl) inf171 hl119 fun A117 c118=>?_;refine A.AH.nx (A.mb 15 16383) [0,1,2,889,890,930,1014,1079,1080,1081,1082,1083,1084,1085] ?_;refine A.hq A.pb [0,1,2,889,890,930,1014,1079,1080,1081,1082,1083,1084,1085] [0,1,2,489,889,890,930,1014,1079,1080,1081,1082,1083,1084,1085,1086] [] [] (A.mb 15 32767) 0 [(14,.n)] [(5,.slice A117 ((xs79++[(x12.1,(x108.1,y80),(r59.1.1,r59.1.2.1,r59.1.2.2.1,r59.1.2.2.2.1,(r59.1.2.2.2.2.1,r59.1.2.2.2.2.2.1,r59.1.2.2.2.2.2.2.1,r59.1.2.2.2.2.2.2.2)))]).length) c118)] (A.AH.done ?_);refine A.ee 1 ?_;exact A.j ⟨(xs79++[(x12.1,(x108.1,y80),(r59.1.1,r59.1.2.1,r59.1.2.2.1,r59.1.2.2.2.1,(r59.1.2.2.2.2.1,r59.1.2.2.2.2.2.1,r59.1.2.2.2.2.2.2.1,r59.1.2.2.2.2.2.2.2)))]),A117,c118,rfl,rfl,hF⟩
      refine A.xe 2 ?_;exact A.j ⟨xs79,A77,c78,rfl,rfl,hF⟩
     rintro _ _ ⟨xs92,A90,c91,rfl,rfl,hF⟩;rw[F.dh]at hF;refine A.xl 0 ?_;obtain⟨hc93,hF⟩:=A.gd_some hF;refine A.q [] [] [.n,.n,.n] [Z.R64 (y80+1)] [(13,A.i (y80+1))] hc93 (A.AL.done ?_);exact A.j ⟨_,Nat.lt_succ_self _,⟨xs92,(y80+1),A90,c91,rfl,rfl,(Z.i64_has hc93),hF⟩⟩
    refine A.xl 3 ?_;obtain⟨hc120,hF⟩:=A.gd_some hF;refine A.q [] [] [.n,.n,.n] [Z.R64 (y74+1)] [(12,A.i (y74+1))] hc120 (A.AL.done ?_);exact A.j ⟨_,Nat.lt_succ_self _,⟨xs79,(y74+1),A77,c78,rfl,rfl,(Z.i64_has hc120),hF⟩⟩
   refine A.xe 2 ?_;exact A.j ⟨xs73,A71,c72,rfl,rfl,hF⟩
  rintro _ _ ⟨xs10,A8,c9,rfl,rfl,hF⟩;rw[F.cH]at hF;refine A.xl 0 ?_;obtain⟨hc11,hF⟩:=A.gd_some hF;refine A.q [] [] [.n,.n,.n] [Z.R64 (y5+1)] [(6,A.i (y5+1))] hc11 (A.AL.done ?_);exact A.j ⟨_,Nat.lt_succ_self _,⟨xs10,(y5+1),A8,c9,rfl,rfl,(Z.i64_has hc11),hF⟩⟩
 refine A.xl 3 ?_;refine A.q0 [] [] [.n,.n] [(4,.slice A2 ((xs4).length) c3)] (A.dx 1 ?_);obtain rfl:=A.si hF;exact A.rt1 [(0,489)] ⟨A2,c3,rfl,rfl⟩
def F.di (a0:(List D145))(a1:D118):Nat→Int→Option Int
 |0,_=>none
 |f+1,y2=>if y2<((a0).length:Int)then((A.ix a0 y2).bind fun x5=>(if x5.1=a1 then((A.ix a0 y2).bind fun x11=>(some x11.2))else(A.gd (Z.R64 (y2+1)) ((F.di a0 a1 f) (y2+1)))))else(some (-1))
def F.eO (a0:(List D145))(a1:D118):Option Int:=F.di a0 a1 A.FU 0
theorem o_b3 (a0:(List D145))(a1:D118)(A0_:Option Addr)(c1_:Nat)(h2_:A.h6 a1.1)(h3_:A.h6 a1.2)(r:Int)(hF:F.eO a0 a1=some r):
    A.Ct Tryz.prog 142 [.slice A0_ ((a0).length) c1_,.agg #[A.i a1.1,A.i a1.2]] [(0,.ln T145 A0_ c1_ a0)] [] (fun v H'=>v=A.i r∧H'=[]∧A.h6 r):=by
 refine A.Ct.enter Tryz.func142 rfl Tryz.ntmps142 rfl fun w0 F0=>?_;rw[F.eO]at hF;refine A.xl 1 ?_;refine A.AL.box 1 (cs:=[A.i a1.1,A.i a1.2]) fun g1=>?_;refine A.q0 [] [] [.n] [] (A.dl 3 ?_);refine A.q0 [] [] [.n] [(5,A.i 0)] (A.dx 2 ?_);refine A.lp_ [0,3] [0,1] (fun f nl nh=>∃(y2:Int),nl=[(5,A.i y2)]∧nh=[]∧A.h6 y2∧F.di a0 a1 f y2=some r) ⟨0,rfl,rfl,(A.hasl .i64 (0) rfl),hF⟩ ?_;rintro f4 _ _ ⟨y2,rfl,rfl,hy3,hF⟩;rcases f4 with _|f4
 ·exact A.no0 hF
 rw[F.di]at hF;refine A.xl 2 ?_;refine A.q0 [] [] [.n,.n,.n,.n] [(9,.bool (decide (y2<((a0).length:Int))))] (A.dx 1 ?_);refine A.AX.cnd rfl hF ?_ ?_<;>intro hb hF
 ·refine A.xx 5 ?_;refine A.AX.dr mixed 7 7 (A.mb 7 0) ?_;refine A.hq A.pb [] [0,1] [1] [] (A.mb 7 35) 4 [(0,.n),(1,.n),(5,.b 0 0)] [(12,.slice A0_ ((a0).length) c1_),(13,A.i y2),(17,.agg #[A.i a1.1,A.i a1.2])] ?_;obtain⟨x5,hv6,hF⟩:=A.bd_some hF;refine A.AH.pkl 0 6 hv6 fun ho7=>?_;intro b9 o10 hA8;refine A.AH.v A.pb [0,1] [0,1,6] 2 (A.mb 7 39) rfl (fun a w hf hh=>A.r_ixa (t:=T145) hv6 hA8 hf) ?_;refine A.hq A.pb [0,1,6] [0,1,6] [] [6] (A.mb 7 63) 1 [(3,.n),(4,.e 0 0)] [(16,.agg #[A.i x5.1.1,A.i x5.1.2])] ?_;refine A.AH.v A.pb [0,1,6] [0,1,6] 6 (A.mb 7 127) rfl (fun a w hf hh=>eqagg_eql119 (x:=x5.1) (y:=a1) (hf.eval rfl) (hf.eval rfl)) ?_;refine A.AH.done ?_;refine A.ex 1 ?_;refine A.AX.cnd rfl hF ?_ ?_<;>intro hb hF
  ·refine A.xl 1 ?_;refine A.q0 [] [] [.n,.n] [(19,.slice A0_ ((a0).length) c1_),(20,A.i y2)] ?_;obtain⟨x11,hv12,hF⟩:=A.bd_some hF;refine A.AL.ixl 0 7 hv12 fun ho13=>?_;intro b14 o15;refine A.q0 [] [7] [.n,.e 0 2,.n] [(4,A.i x11.2)] (A.dx 1 ?_);obtain rfl:=A.si hF;exact A.rt1 [] ⟨rfl,rfl,ho13.2⟩
  refine A.xl 3 ?_;obtain⟨hc16,hF⟩:=A.gd_some hF;refine A.q [] [] [.n,.n,.n] [Z.R64 (y2+1)] [(5,A.i (y2+1))] hc16 (A.AL.done ?_);exact A.j ⟨_,Nat.lt_succ_self _,⟨(y2+1),rfl,rfl,(Z.i64_has hc16),hF⟩⟩
 refine A.xl 3 ?_;refine A.q0 [] [] [.n] [(4,A.i (-1))] (A.dx 1 ?_);obtain rfl:=A.si hF;exact A.rt1 [] ⟨rfl,rfl,(A.hasl .i64 (-1) rfl)⟩
def F.ea (a0:D23)(a1:(List D145))(a2:D170)(a3:Int):Option Bool:=(F.d8 a0 a2.1.1).bind fun r3=>((F.eO a1 a2.2.1).bind fun r16=>(if a3≤r16 then(some (bif bif decide (r3.1.2.1≠14)then true else decide (r3.1.2.2.2.2.2.2≠a3)then true else decide (a2.1.2=2)))else(some false)))
theorem o_bQ (a0:D23)(a1:(List D145))(a2:D170)(a3:Int)(A0_:Option Addr)(c1_:Nat)(A2_:Option Addr)(c3_:Nat)(h4_:A.h6 a2.1.1)(h5_:A.h6 a2.1.2)(h6_:A.h6 a2.2.1.1)(h7_:A.h6 a2.2.1.2)(h8_:A.h6 a2.2.2.1)(h9_:A.h6 a2.2.2.2.1)(h10_:A.h6 a2.2.2.2.2.1)(h11_:A.h6 a2.2.2.2.2.2.1)(h12_:A.h6 a2.2.2.2.2.2.2.1)(h13_:A.h6 a2.2.2.2.2.2.2.2.1)(h14_:A.h6 a2.2.2.2.2.2.2.2.2.1)(h15_:A.h6 a2.2.2.2.2.2.2.2.2.2)(h16_:A.h6 a3)(r:Bool)(hF:F.ea a0 a1 a2 a3=some r):
    A.Ct Tryz.prog 123 [.agg #[.slice A0_ ((a0).length) c1_],.slice A2_ ((a1).length) c3_,.agg #[A.i a2.1.1,A.i a2.1.2,A.i a2.2.1.1,A.i a2.2.1.2,A.i a2.2.2.1,A.i a2.2.2.2.1,A.i a2.2.2.2.2.1,A.i a2.2.2.2.2.2.1,A.i a2.2.2.2.2.2.2.1,A.i a2.2.2.2.2.2.2.2.1,A.i a2.2.2.2.2.2.2.2.2.1,A.i a2.2.2.2.2.2.2.2.2.2],A.i a3] [(0,.sh (.slice T70) [.slice A0_ (a0).length c1_] a0),(1,.ln T145 A2_ c3_ a1)] [] (fun v H'=>v=.bool r∧H'=[]):=by
 refine A.Ct.enter Tryz.func123 rfl Tryz.ntmps123 rfl fun w0 F0=>?_;rw[F.ea]at hF;refine A.xl 1 ?_;refine A.AL.box 2 (cs:=[.slice A0_ ((a0).length) c1_]) fun g1=>?_;refine A.AL.box 3 (cs:=[A.i a2.1.1,A.i a2.1.2,A.i a2.2.1.1,A.i a2.2.1.2,A.i a2.2.2.1,A.i a2.2.2.2.1,A.i a2.2.2.2.2.1,A.i a2.2.2.2.2.2.1,A.i a2.2.2.2.2.2.2.1,A.i a2.2.2.2.2.2.2.2.1,A.i a2.2.2.2.2.2.2.2.2.1,A.i a2.2.2.2.2.2.2.2.2.2]) fun g2=>?_;refine A.q0 [] [] [.n] [] (A.dl 2 ?_);refine A.q0 [2,3] [] [.b 0 0,.n,.n,.b 1 0] [(12,.agg #[.slice A0_ ((a0).length) c1_]),(15,A.i a2.1.1)] ?_;obtain⟨r3,hv4,hF⟩:=A.bd_some hF;refine A.AL.call 4 [] (first:=[]) (cap:=[]) cf120 (o_aI a0 a2.1.1 A0_ c1_ h4_ r3 hv4) (.s 0 .nil) ?_;rintro _ _ ⟨A7,c8,rfl,rfl,hr5,hr6,hr9,hr10,hr11,hr12,hr13,hr14⟩;refine⟨by kernel_rfl,?_⟩;refine A.q0 [] [] [.n,.n,.n] [(17,.agg #[A.i r3.1.1,A.i r3.1.2.1,.slice A7 ((r3.1.2.2.1).length) c8,A.i r3.1.2.2.2.1.1,A.i r3.1.2.2.2.1.2.1,.string r3.1.2.2.2.1.2.2,.string r3.1.2.2.2.2.1,A.i r3.1.2.2.2.2.2.1,A.i r3.1.2.2.2.2.2.2]),(18,.bool r3.2)] ?_;refine A.AL.alloc 44 (cs:=[A.i 0,A.i 0,.slice none 0 0,A.i 0,A.i 0,.string (ByteArray.mk #[]),.string (ByteArray.mk #[]),A.i 0,A.i 0]) Tryz.zeroValue71 fun g15=>?_;refine A.sw 44 [] [A.i r3.1.1,A.i r3.1.2.1,.slice A7 ((r3.1.2.2.1).length) c8,A.i r3.1.2.2.2.1.1,A.i r3.1.2.2.2.1.2.1,.string r3.1.2.2.2.1.2.2,.string r3.1.2.2.2.2.1,A.i r3.1.2.2.2.2.2.1,A.i r3.1.2.2.2.2.2.2] ?_;refine A.q0 [] [] [.n] [] (A.dl 2 ?_);refine A.q0 [3] [] [.n,.n,.b 0 2] [(19,.slice A2_ ((a1).length) c3_),(21,.agg #[A.i a2.2.1.1,A.i a2.2.1.2])] ?_;obtain⟨r16,hv17,hF⟩:=A.bd_some hF;refine A.AL.call 45 [] (first:=[]) (cap:=[]) cf142 (o_b3 a1 a2.2.1 A2_ c3_ h6_ h7_ r16 hv17) (.s 1 .nil) ?_;rintro _ _ ⟨rfl,rfl,hr18⟩;refine⟨by kernel_rfl,?_⟩;refine A.q0 [] [] [.n,.n,.n] [(25,.bool (decide (a3≤r16)))] ?_;refine A.AL.cnp (j:=25) rfl hF ?_ ?_<;>intro hb hF
 ·refine A.q0 [44,3] [] [.on .n,.on (.b 0 1),.on .n,.on .n,.sy .n,.sy (.b 0 8),.sy .n,.sy .n,.on .pk,.on .n,.sy .n,.sy .n,.sy (.b 1 1),.sy .n,.on .pk,.n,.n] [(8,.bool (bif bif decide (r3.1.2.1≠14)then true else decide (r3.1.2.2.2.2.2.2≠a3)then true else decide (a2.1.2=2)))] (A.dx 1 ?_);obtain rfl:=A.si hF;exact A.rt1 [] ⟨rfl,rfl⟩
 refine A.q0 [] [] [.off,.off,.off,.off,.off,.off,.off,.off,.off,.off,.off,.off,.off,.off,.off,.n,.n] [(8,.bool false)] (A.dx 1 ?_);obtain rfl:=A.si hF;exact A.rt1 [] ⟨rfl,rfl⟩
def F.dj (a0:(List D118))(a1:D118):Nat→Int→Option Bool
 |0,_=>none
 |f+1,y2=>if y2<((a0).length:Int)then((A.ix a0 y2).bind fun x5=>(if x5=a1 then(some true)else(A.gd (Z.R64 (y2+1)) ((F.dj a0 a1 f) (y2+1)))))else(some false)
def F.eA (a0:(List D118))(a1:D118):Option Bool:=F.dj a0 a1 A.FU 0
theorem o_a2 (a0:(List D118))(a1:D118)(A0_:Option Addr)(c1_:Nat)(h2_:A.h6 a1.1)(h3_:A.h6 a1.2)(r:Bool)(hF:F.eA a0 a1=some r):
    A.Ct Tryz.prog 124 [.slice A0_ ((a0).length) c1_,.agg #[A.i a1.1,A.i a1.2]] [(0,.ln T118 A0_ c1_ a0)] [] (fun v H'=>v=.bool r∧H'=[]):=by
 refine A.Ct.enter Tryz.func124 rfl Tryz.ntmps124 rfl fun w0 F0=>?_;rw[F.eA]at hF;refine A.xl 1 ?_;refine A.AL.box 1 (cs:=[A.i a1.1,A.i a1.2]) fun g1=>?_;refine A.q0 [] [] [.n] [] (A.dl 3 ?_);refine A.q0 [] [] [.n] [(5,A.i 0)] (A.dx 2 ?_);refine A.lp_ [0,3] [0,1] (fun f nl nh=>∃(y2:Int),nl=[(5,A.i y2)]∧nh=[]∧A.h6 y2∧F.dj a0 a1 f y2=some r) ⟨0,rfl,rfl,(A.hasl .i64 (0) rfl),hF⟩ ?_;rintro f4 _ _ ⟨y2,rfl,rfl,hy3,hF⟩;rcases f4 with _|f4
 ·exact A.no0 hF
 rw[F.dj]at hF;refine A.xl 2 ?_;refine A.q0 [] [] [.n,.n,.n,.n] [(9,.bool (decide (y2<((a0).length:Int))))] (A.dx 1 ?_);refine A.AX.cnd rfl hF ?_ ?_<;>intro hb hF
 ·refine A.xx 5 ?_;refine A.AX.dr mixed 6 6 (A.mb 6 0) ?_;refine A.hq A.pb [] [0,1] [1] [] (A.mb 6 19) 3 [(0,.n),(1,.n),(4,.b 0 0)] [(12,.slice A0_ ((a0).length) c1_),(13,A.i y2),(16,.agg #[A.i a1.1,A.i a1.2])] ?_;obtain⟨x5,hv6,hF⟩:=A.bd_some hF;refine A.AH.pkl 0 4 hv6 fun ho7=>?_;intro b9 o10 hA8;refine A.AH.v A.pb [0,1] [0,1,4] 2 (A.mb 6 23) rfl (fun a w hf hh=>A.r_ixa (t:=T118) hv6 hA8 hf) ?_;refine A.hq A.pb [0,1,4] [0,1,4] [] [4] (A.mb 6 31) 1 [(3,.e 0 0)] [(15,.agg #[A.i x5.1,A.i x5.2])] ?_;refine A.AH.v A.pb [0,1,4] [0,1,4] 5 (A.mb 6 63) rfl (fun a w hf hh=>eqagg_eql119 (x:=x5) (y:=a1) (hf.eval rfl) (hf.eval rfl)) ?_;refine A.AH.done ?_;refine A.ex 1 ?_;refine A.AX.cnd rfl hF ?_ ?_<;>intro hb hF
  ·refine A.xl 1 ?_;refine A.q0 [] [] [.n] [(4,.bool true)] (A.dx 1 ?_);obtain rfl:=A.si hF;exact A.rt1 [] ⟨rfl,rfl⟩
  refine A.xl 3 ?_;obtain⟨hc11,hF⟩:=A.gd_some hF;refine A.q [] [] [.n,.n,.n] [Z.R64 (y2+1)] [(5,A.i (y2+1))] hc11 (A.AL.done ?_);exact A.j ⟨_,Nat.lt_succ_self _,⟨(y2+1),rfl,rfl,(Z.i64_has hc11),hF⟩⟩
 refine A.xl 3 ?_;refine A.q0 [] [] [.n] [(4,.bool false)] (A.dx 1 ?_);obtain rfl:=A.si hF;exact A.rt1 [] ⟨rfl,rfl⟩
def F.dk (k4:(List D118)→(List D118)→Int→Option Bool)(y20:Int)(xs25:List D118)(xs28:List D118):Option Bool:=A.gd (Z.R64 (y20+1)) (k4 xs25 xs28 (y20+1))
def F.cI (k4:(List D118)→(List D118)→Int→Option Bool)(a2:(List D170))(xs16:List D118)(xs19:List D118)(y20:Int)(y30:Bool):Option Bool:=if y30=true then((A.ix a2 y20).bind fun x31=>(A.gd ((List.length (α:=D118) xs16+List.length (α:=D118) [x31.2.1])*16≤140737488355328) ((A.ix a2 y20).bind fun x40=>(A.gd ((List.length (α:=D118) xs19+List.length (α:=D118) [x40.2.1])*16≤140737488355328) (F.dk k4 y20 (xs16++[x31.2.1]) (xs19++[x40.2.1]))))))else(F.dk k4 y20 xs16 xs19)
def F.ak (k3:(List D118)→(List D118)→Int→Option Bool)(a0:D23)(a1:(List D145))(a2:(List D170))(a3:D145)(y11:Int):Nat→(List D118)→(List D118)→Int→Option Bool
 |0,_,_,_=>none
 |f+1,xs16,xs19,y20=>if y20<((a2).length:Int)then((A.ix a2 y20).bind fun x49=>((A.ix xs19 y11).bind fun x55=>(if x49.1=x55 then((A.ix a2 y20).bind fun x60=>((F.ea a0 a1 (x60.1,x60.2.1,(x60.2.2.1,x60.2.2.2.1,x60.2.2.2.2.1,x60.2.2.2.2.2.1,(x60.2.2.2.2.2.2.1,x60.2.2.2.2.2.2.2.1,x60.2.2.2.2.2.2.2.2.1,x60.2.2.2.2.2.2.2.2.2))) a3.2).bind fun r66=>(if r66=true then((A.ix a2 y20).bind fun x68=>((F.eA xs16 x68.2.1).bind fun r74=>(F.cI (F.ak k3 a0 a1 a2 a3 y11 f) a2 xs16 xs19 y20 (!r74))))else(F.cI (F.ak k3 a0 a1 a2 a3 y11 f) a2 xs16 xs19 y20 false))))else(F.cI (F.ak k3 a0 a1 a2 a3 y11 f) a2 xs16 xs19 y20 false))))else(A.gd (Z.R64 (y11+1)) (k3 xs16 xs19 (y11+1)))
def F.bh (a0:D23)(a1:(List D145))(a2:(List D170))(a3:D145):Nat→(List D118)→(List D118)→Int→Option Bool
 |0,_,_,_=>none
 |f+1,xs7,xs10,y11=>if y11<((xs10).length:Int)then(F.ak (F.bh a0 a1 a2 a3 f) a0 a1 a2 a3 y11 A.FU xs7 xs10 0)else((F.eA xs7 a3.1).bind fun r77=>(some r77))
def F.dT (a0:D23)(a1:(List D145))(a2:(List D170))(a3:D145):Option Bool:=F.bh a0 a1 a2 a3 A.FU [] [a3.1] 0
theorem o_bC (a0:D23)(a1:(List D145))(a2:(List D170))(a3:D145)(A0_:Option Addr)(c1_:Nat)(A2_:Option Addr)(c3_:Nat)(A4_:Option Addr)(c5_:Nat)(h6_:A.h6 a3.1.1)(h7_:A.h6 a3.1.2)(h8_:A.h6 a3.2)(r:Bool)(hF:F.dT a0 a1 a2 a3=some r):
    A.Ct Tryz.prog 92 [.agg #[.slice A0_ ((a0).length) c1_],.slice A2_ ((a1).length) c3_,.slice A4_ ((a2).length) c5_,.agg #[A.i a3.1.1,A.i a3.1.2,A.i a3.2]] [(0,.sh (.slice T70) [.slice A0_ (a0).length c1_] a0),(1,.ln T145 A2_ c3_ a1),(2,.ln T170 A4_ c5_ a2)] [] (fun v H'=>v=.bool r∧H'=[]):=by
 refine A.Ct.enter Tryz.func92 rfl Tryz.ntmps92 rfl fun w0 F0=>?_;rw[F.dT]at hF;refine A.xl 1 ?_;refine A.AL.box 3 (cs:=[.slice A0_ ((a0).length) c1_]) fun g1=>?_;refine A.AL.box 4 (cs:=[A.i a3.1.1,A.i a3.1.2,A.i a3.2]) fun g2=>?_;refine A.q0 [] [] [.n] [] (A.dl 2 ?_);refine A.AL.bs0 5 T118 (fun g3=>?_) Tryz.sizeOf119
 refine A.q0 [] [] [.n] [(9,.slice (some ⟨g3,0,none⟩) 0 0)] (A.dl 2 ?_);refine A.q0 [4] [] [.n,.b 0 0] [(15,.agg #[A.i a3.1.1,A.i a3.1.2])] ?_;refine A.AL.bsl 6 (ty:=T118) (cs:=[A.i a3.1.1,A.i a3.1.2]) [a3.1] ⟨⟨⟨rfl,h6_⟩,⟨rfl,h7_⟩⟩,rfl⟩ (fun g4=>?_) Tryz.zeroValue119 Tryz.sizeOf119
 refine A.q0 [] [] [.n] [(10,.slice (some ⟨g4,0,none⟩) 1 1)] (A.dl 3 ?_);refine A.q0 [] [] [.n] [(11,A.i 0)] (A.dx 2 ?_);refine A.lp_ [1,2,4,7] [0,1,2,3,4] (fun f nl nh=>∃(xs7:List D118),∃(xs10:List D118),∃(y11:Int),∃(A5:Option Addr),∃(c6:Nat),∃(A8:Option Addr),∃(c9:Nat),nl=[(9,.slice A5 ((xs7).length) c6),(10,.slice A8 ((xs10).length) c9),(11,A.i y11)]∧nh=[(5,.own T118 119 A5 c6 xs7),(6,.own T118 119 A8 c9 xs10)]∧A.h6 y11∧F.bh a0 a1 a2 a3 f xs7 xs10 y11=some r) ⟨[],[a3.1],0,(some ⟨g3,0,none⟩),0,(some ⟨g4,0,none⟩),1,rfl,rfl,(A.hasl .i64 (0) rfl),hF⟩ ?_;rintro f13 _ _ ⟨xs7,xs10,y11,A5,c6,A8,c9,rfl,rfl,hy12,hF⟩;rcases f13 with _|f13
 ·exact A.no0 hF
 rw[F.bh]at hF;refine A.xl 2 ?_;refine A.q0 [] [] [.n,.n,.n,.n] [(20,.bool (decide (y11<((xs10).length:Int))))] (A.dx 1 ?_);refine A.AX.cnd rfl hF ?_ ?_<;>intro hb hF
 ·refine A.xl 5 ?_;refine A.q0 [] [] [.n] [(12,A.i 0)] (A.dx 2 ?_);refine A.lp_ [1,2,4,7,11] [0,1,2,3,4] (fun f nl nh=>∃(xs16:List D118),∃(xs19:List D118),∃(y20:Int),∃(A14:Option Addr),∃(c15:Nat),∃(A17:Option Addr),∃(c18:Nat),nl=[(9,.slice A14 ((xs16).length) c15),(10,.slice A17 ((xs19).length) c18),(12,A.i y20)]∧nh=[(5,.own T118 119 A14 c15 xs16),(6,.own T118 119 A17 c18 xs19)]∧A.h6 y20∧F.ak (F.bh a0 a1 a2 a3 f13) a0 a1 a2 a3 y11 f xs16 xs19 y20=some r) ⟨xs7,xs10,0,A5,c6,A8,c9,rfl,rfl,(A.hasl .i64 (0) rfl),hF⟩ ?_;rintro f22 _ _ ⟨xs16,xs19,y20,A14,c15,A17,c18,rfl,rfl,hy21,hF⟩;rcases f22 with _|f22
  ·exact A.no0 hF
  rw[F.ak]at hF;refine A.xl 2 ?_;refine A.q0 [] [] [.n,.n,.n,.n] [(26,.bool (decide (y20<((a2).length:Int))))] (A.dx 1 ?_);refine A.AX.cnd rfl hF ?_ ?_<;>intro hb hF
  ·refine A.xx 2 ?_;refine A.AX.join [1,2,4,7,11,12] [0,1,2,3,4] (fun nl nh=>∃(xs25:List D118),∃(xs28:List D118),∃(A23:Option Addr),∃(c24:Nat),∃(A26:Option Addr),∃(c27:Nat),nl=[(9,.slice A23 ((xs25).length) c24),(10,.slice A26 ((xs28).length) c27)]∧nh=[(5,.own T118 119 A23 c24 xs25),(6,.own T118 119 A26 c27 xs28)]∧F.dk (F.ak (F.bh a0 a1 a2 a3 f13) a0 a1 a2 a3 y11 f22) y20 xs25 xs28=some r) ?_ ?_
   ·refine A.xx 1 ?_;refine A.AX.join [1,2,4,7,9,10,11,12] [0,1,2,3,4,5,6] (fun nl nh=>∃(y30:Bool),nl=[(59,.bool y30)]∧nh=[]∧F.cI (F.ak (F.bh a0 a1 a2 a3 f13) a0 a1 a2 a3 y11 f22) a2 xs16 xs19 y20 y30=some r) ?_ ?_
    ·refine A.AX.dr mixed 31 31 (A.mb 31 0) ?_;refine A.hq A.pb [] [0,1,2,3,4,5,6] [] [] (A.mb 31 99) 27 [(0,.n),(1,.n),(5,.n),(6,.n)] [(29,.slice A4_ ((a2).length) c5_),(30,A.i y20),(34,.slice A17 ((xs19).length) c18),(35,A.i y11)] ?_;obtain⟨x49,hv50,hF⟩:=A.bd_some hF;refine A.AH.pkl 2 791 hv50 fun ho51=>?_;intro b53 o54 hA52;refine A.AH.v A.pb [0,1,2,3,4,5,6] [0,1,2,3,4,5,6,791] 2 (A.mb 31 103) rfl (fun a w hf hh=>A.r_ixa (t:=T170) hv50 hA52 hf) ?_;refine A.hq A.pb [0,1,2,3,4,5,6,791] [0,1,2,3,4,5,6,791] [] [791] (A.mb 31 127) 24 [(3,.n),(4,.e 0 0)] [(33,.agg #[A.i x49.1.1,A.i x49.1.2])] ?_;obtain⟨x55,hv56,hF⟩:=A.bd_some hF;refine A.AH.pko 6 792 hv56 fun ho57=>?_;intro g59 hA58;refine A.AH.v A.pb [0,1,2,3,4,5,6,791] [0,1,2,3,4,5,6,791,792] 7 (A.mb 31 255) rfl (fun a w hf hh=>A.r_ixo (t:=T118) hv56 hA58 hf) ?_;refine A.hq A.pb [0,1,2,3,4,5,6,791,792] [0,1,2,3,4,5,6,791,792] [] [792] (A.mb 31 511) 22 [(8,.e 0 0)] [(37,.agg #[A.i x55.1,A.i x55.2])] ?_;refine A.AH.v A.pb [0,1,2,3,4,5,6,791,792] [0,1,2,3,4,5,6,791,792] 9 (A.mb 31 1023) rfl (fun a w hf hh=>eqagg_eql119 (x:=x49.1) (y:=x55) (hf.eval rfl) (hf.eval rfl)) ?_;refine A.hq A.pb [0,1,2,3,4,5,6,791,792] [0,1,2,3,4,5,6,791,792] [] [] (A.mb 31 2047) 20 [(10,.n)] [(39,.bool (decide (x49.1=x55)))] ?_;refine A.AH.cnp (j:=39) rfl hF ?_ ?_<;>intro hb hF
     ·refine A.hq A.pb [0,1,2,3,4,5,6,791,792] [0,1,2,3,4,5,6,791,792] [3,4] [] (A.mb 31 425983) 14 [(11,.on (.b 0 0)),(12,.on .n),(13,.on .n),(14,.on .n),(17,.on .n),(18,.on (.b 1 2))] [(40,.agg #[.slice A0_ ((a0).length) c1_]),(41,.slice A2_ ((a1).length) c3_),(42,.slice A4_ ((a2).length) c5_),(43,A.i y20),(47,A.i a3.2)] ?_;obtain⟨x60,hv61,hF⟩:=A.bd_some hF;refine A.AH.pkl 2 793 hv61 fun ho62=>?_;intro b64 o65 hA63;refine A.AH.vg A.pb [0,1,2,3,4,5,6,791,792] [0,1,2,3,4,5,6,791,792,793] 15 (A.mb 31 458751) (dj:=39) rfl (fun a w hf hh=>A.r_ixa (t:=T170) hv61 hA63 hf) ?_;refine A.hq A.pb [0,1,2,3,4,5,6,791,792,793] [0,1,2,3,4,5,6,791,792,793] [] [793] (A.mb 31 524287) 12 [(16,.on (.e 0 0))] [(45,.agg #[A.i x60.1.1,A.i x60.1.2,A.i x60.2.1.1,A.i x60.2.1.2,A.i x60.2.2.1,A.i x60.2.2.2.1,A.i x60.2.2.2.2.1,A.i x60.2.2.2.2.2.1,A.i x60.2.2.2.2.2.2.1,A.i x60.2.2.2.2.2.2.2.1,A.i x60.2.2.2.2.2.2.2.2.1,A.i x60.2.2.2.2.2.2.2.2.2])] ?_;refine A.AH.one 19 ?_;refine A.AL.on (dj:=39) rfl rfl ?_;obtain⟨r66,hv67,hF⟩:=A.bd_some hF;refine A.AL.call 794 [] (first:=[]) (cap:=[]) cf123 (o_bQ a0 a1 (x60.1,x60.2.1,(x60.2.2.1,x60.2.2.2.1,x60.2.2.2.2.1,x60.2.2.2.2.2.1,(x60.2.2.2.2.2.2.1,x60.2.2.2.2.2.2.2.1,x60.2.2.2.2.2.2.2.2.1,x60.2.2.2.2.2.2.2.2.2))) a3.2 A0_ c1_ A2_ c3_ ho62.1.1 ho62.1.2 ho62.2.1.1 ho62.2.1.2 ho62.2.2.1 ho62.2.2.2.1 ho62.2.2.2.2.1 ho62.2.2.2.2.2.1 ho62.2.2.2.2.2.2.1 ho62.2.2.2.2.2.2.2.1 ho62.2.2.2.2.2.2.2.2.1 ho62.2.2.2.2.2.2.2.2.2 h8_ r66 hv67) (.s 0 (.s 1 .nil)) ?_;rintro _ _ ⟨rfl,rfl⟩;refine⟨by kernel_rfl,?_⟩;refine A.AH.nx (A.mb 31 1048575) [0,1,2,3,4,5,6,791,792,793] ?_;refine A.hq A.pb [0,1,2,3,4,5,6,791,792,793] [0,1,2,3,4,5,6,791,792,793] [] [] (A.mb 31 4194303) 9 [(20,.n),(21,.n)] [(50,.bool r66)] ?_;refine A.AH.cnd (j:=50) rfl hF (fun hF=>?_) (fun hF=>?_)
      ·refine A.hq A.pb [0,1,2,3,4,5,6,791,792,793] [0,1,2,3,4,5,6,791,792,793] [] [] (A.mb 31 33554431) 6 [(22,.on .n),(23,.on .n),(24,.on .n)] [(51,.slice A14 ((xs16).length) c15),(52,.slice A4_ ((a2).length) c5_),(53,A.i y20)] ?_;obtain⟨x68,hv69,hF⟩:=A.bd_some hF;refine A.AH.pkl 2 834 hv69 fun ho70=>?_;intro b72 o73 hA71;refine A.AH.vg A.pb [0,1,2,3,4,5,6,791,792,793] [0,1,2,3,4,5,6,791,792,793,834] 25 (A.mb 31 67108863) (dj:=50) rfl (fun a w hf hh=>A.r_ixa (t:=T170) hv69 hA71 hf) ?_;refine A.hq A.pb [0,1,2,3,4,5,6,791,792,793,834] [0,1,2,3,4,5,6,791,792,793,834] [] [834] (A.mb 31 268435455) 3 [(26,.on .n),(27,.on (.e 0 2))] [(56,.agg #[A.i x68.2.1.1,A.i x68.2.1.2])] ?_;refine A.AH.one 28 ?_;refine A.AL.on (dj:=50) rfl rfl ?_;obtain⟨r74,hv75,hF⟩:=A.bd_some hF;refine A.AL.call 835 [] (first:=[]) (cap:=[]) cf124 (o_a2 xs16 x68.2.1 A14 c15 ho70.2.1.1 ho70.2.1.2 r74 hv75) (.o 5 .nil) ?_;rintro _ _ ⟨rfl,rfl⟩;refine⟨by kernel_rfl,?_⟩;refine A.AH.nx (A.mb 31 536870911) [0,1,2,3,4,5,6,791,792,793,834] ?_;refine A.hq A.pb [0,1,2,3,4,5,6,791,792,793,834] [0,1,2,3,4,5,6,791,792,793,834] [] [] (A.mb 31 2147483647) 0 [(29,.on .n),(30,.n)] [(59,.bool (!r74))] (A.AH.done ?_);exact A.j ⟨(!r74),rfl,rfl,hF⟩
      refine A.hq A.pb [0,1,2,3,4,5,6,791,792,793] [0,1,2,3,4,5,6,791,792,793] [] [] (A.mb 31 2147483647) 0 [(22,.off),(23,.off),(24,.off),(25,.off),(26,.off),(27,.off),(28,.off),(29,.off),(30,.n)] [(59,.bool false)] (A.AH.done ?_);exact A.j ⟨false,rfl,rfl,hF⟩
     refine A.hq A.pb [0,1,2,3,4,5,6,791,792] [0,1,2,3,4,5,6,791,792] [] [] (A.mb 31 2147483647) 0 [(11,.off),(12,.off),(13,.off),(14,.off),(17,.off),(15,.off),(18,.off),(16,.off),(19,.off),(20,.n),(21,.n),(22,.off),(23,.off),(24,.off),(25,.off),(26,.off),(27,.off),(28,.off),(29,.off),(30,.n)] [(59,.bool false)] (A.AH.done ?_);exact A.j ⟨false,rfl,rfl,hF⟩
    rintro _ _ ⟨y30,rfl,rfl,hF⟩;rw[F.cI]at hF;refine A.AX.cnb rfl hF ?_ ?_<;>intro hb hF
    ·refine A.xl 1 ?_;refine A.q0 [] [] [.n,.n,.n] [(60,.slice A14 ((xs16).length) c15),(61,.slice A4_ ((a2).length) c5_),(62,A.i y20)] ?_;obtain⟨x31,hv32,hF⟩:=A.bd_some hF;refine A.AL.ixl 2 875 hv32 fun ho33=>?_;intro b34 o35;refine A.q0 [] [875] [.n,.e 0 2] [(65,.agg #[A.i x31.2.1.1,A.i x31.2.1.2])] ?_;refine A.AL.bsl 876 (ty:=T118) (cs:=[A.i x31.2.1.1,A.i x31.2.1.2]) [x31.2.1] ⟨⟨⟨rfl,ho33.2.1.1⟩,⟨rfl,ho33.2.1.2⟩⟩,rfl⟩ (fun g36=>?_) Tryz.zeroValue119 Tryz.sizeOf119
     obtain⟨hl39,hF⟩:=A.gd_some hF;refine A.AL.app (k:=5) [] (A.rowO (k:=876) rfl) inf119 hl39 fun A37 c38=>?_;refine A.q0 [] [] [.n] [(9,.slice A37 ((xs16++[x31.2.1]).length) c38)] (A.dl 1 ?_);refine A.q0 [] [] [.n,.n,.n] [(68,.slice A17 ((xs19).length) c18),(69,.slice A4_ ((a2).length) c5_),(70,A.i y20)] ?_;obtain⟨x40,hv41,hF⟩:=A.bd_some hF;refine A.AL.ixl 2 877 hv41 fun ho42=>?_;intro b43 o44;refine A.q0 [] [877] [.n,.e 0 2] [(73,.agg #[A.i x40.2.1.1,A.i x40.2.1.2])] ?_;refine A.AL.bsl 878 (ty:=T118) (cs:=[A.i x40.2.1.1,A.i x40.2.1.2]) [x40.2.1] ⟨⟨⟨rfl,ho42.2.1.1⟩,⟨rfl,ho42.2.1.2⟩⟩,rfl⟩ (fun g45=>?_) Tryz.zeroValue119 Tryz.sizeOf119
     obtain⟨hl48,hF⟩:=A.gd_some hF;refine A.AL.app (k:=6) [] (A.rowO (k:=878) rfl) inf119 hl48 fun A46 c47=>?_;refine A.q0 [] [] [.n] [(10,.slice A46 ((xs19++[x40.2.1]).length) c47)] (A.de 1 ?_);exact A.j ⟨(xs16++[x31.2.1]),(xs19++[x40.2.1]),A37,c38,A46,c47,rfl,rfl,hF⟩
    refine A.xe 2 ?_;exact A.j ⟨xs16,xs19,A14,c15,A17,c18,rfl,rfl,hF⟩
   rintro _ _ ⟨xs25,xs28,A23,c24,A26,c27,rfl,rfl,hF⟩;rw[F.dk]at hF;refine A.xl 0 ?_;obtain⟨hc29,hF⟩:=A.gd_some hF;refine A.q [] [] [.n,.n,.n] [Z.R64 (y20+1)] [(12,A.i (y20+1))] hc29 (A.AL.done ?_);exact A.j ⟨_,Nat.lt_succ_self _,⟨xs25,xs28,(y20+1),A23,c24,A26,c27,rfl,rfl,(Z.i64_has hc29),hF⟩⟩
  refine A.xl 3 ?_;obtain⟨hc76,hF⟩:=A.gd_some hF;refine A.q [] [] [.n,.n,.n] [Z.R64 (y11+1)] [(11,A.i (y11+1))] hc76 (A.AL.done ?_);exact A.j ⟨_,Nat.lt_succ_self _,⟨xs16,xs19,(y11+1),A14,c15,A17,c18,rfl,rfl,(Z.i64_has hc76),hF⟩⟩
 refine A.xl 3 ?_;refine A.q0 [4] [] [.n,.n,.b 0 0] [(76,.slice A5 ((xs7).length) c6),(78,.agg #[A.i a3.1.1,A.i a3.1.2])] ?_;obtain⟨r77,hv78,hF⟩:=A.bd_some hF;refine A.AL.call 879 [] (first:=[]) (cap:=[]) cf124 (o_a2 xs7 a3.1 A5 c6 h6_ h7_ r77 hv78) (.o 5 .nil) ?_;rintro _ _ ⟨rfl,rfl⟩;refine⟨by kernel_rfl,?_⟩;refine A.q0 [] [] [.n] [(8,.bool r77)] (A.dx 1 ?_);obtain rfl:=A.si hF;exact A.rt1 [] ⟨rfl,rfl⟩
def F.bL (a0:D23)(r5:(List Int)×Bool)(r9:(List Int)×Bool)(r13:(List D145))(r17:(List D170)):Nat→Int→Option ((List Int)×(List Int)×Int)
 |0,_=>none
 |f+1,y21=>if y21<((r13).length:Int)then((A.ix r13 y21).bind fun x24=>((F.dT a0 r13 r17 (x24.1,x24.2)).bind fun r29=>(if r29=true then(some ([],[],81))else(A.gd (Z.R64 (y21+1)) ((F.bL a0 r5 r9 r13 r17 f) (y21+1))))))else(some (r5.1,r9.1,0))
def F.cL (a0:D23):Option ((List Int)×(List Int)×Int):=(F.dQ a0).bind fun r2=>(if r2≠0 then(some ([],[],r2))else((F.dd a0).bind fun r5=>(if(!r5.2)=true then(some ([],[],81))else((F.cR a0 r5.1).bind fun r9=>(if(!r9.2)=true then(some ([],[],80))else((F.en a0 r9.1).bind fun r13=>((F.dS a0 r13).bind fun r17=>(F.bL a0 r5 r9 r13 r17 A.FU 0))))))))
theorem o_bD (a0:D23)(A0_:Option Addr)(c1_:Nat)(r:(List Int)×(List Int)×Int)(hF:F.cL a0=some r):
    A.Ct Tryz.prog 66 [.agg #[.slice A0_ ((a0).length) c1_]] [(0,.sh (.slice T70) [.slice A0_ (a0).length c1_] a0)] [] (fun v H'=>∃(A0':Option Addr) (c1':Nat) (A2':Option Addr) (c3':Nat),v=.tuple #[.slice A0' ((r.1).length) c1',.slice A2' ((r.2.1).length) c3',A.i r.2.2]∧H'=[(0,.own A.ti 3 A0' c1' r.1),(1,.own A.ti 3 A2' c3' r.2.1)]∧A.h6 r.2.2):=by
 refine A.Ct.enter Tryz.func66 rfl Tryz.ntmps66 rfl fun w0 F0=>?_;rw[F.cL]at hF;refine A.xl 1 ?_;refine A.AL.box 1 (cs:=[.slice A0_ ((a0).length) c1_]) fun g1=>?_;refine A.q0 [] [] [.n,.n,.n] [] (A.dl 3 ?_);refine A.q0 [1] [] [.b 0 0] [(12,.agg #[.slice A0_ ((a0).length) c1_])] ?_;obtain⟨r2,hv3,hF⟩:=A.bd_some hF;refine A.AL.call 2 [] (first:=[]) (cap:=[]) cf87 (o_bs a0 A0_ c1_ r2 hv3) (.s 0 .nil) ?_;rintro _ _ ⟨rfl,rfl,hr4⟩;refine⟨by kernel_rfl,?_⟩;refine A.q0 [] [] [.n] [(5,A.i r2)] (A.dl 2 ?_);refine A.q0 [] [] [.n,.n] [(15,.bool (decide (r2≠0)))] (A.dx 1 ?_);refine A.AX.cnd rfl hF ?_ ?_<;>intro hb hF
 ·refine A.xl 1 ?_;refine A.q0 [] [] [.n,.n,.n,.n] [(2,.slice none 0 0),(3,.slice none 0 0),(4,A.i r2)] (A.dx 1 ?_);obtain rfl:=A.si hF;refine A.nil 42 A.ti 3 ?_;refine A.nil 43 A.ti 3 ?_;exact A.AX.ret [(0,42),(1,43)] (.tuple #[.slice none 0 0,.slice none 0 0,A.i r2]) (fun a w hf hh=>Z.resv3 rfl (Z.rv_t hf rfl) (Z.rv_t hf rfl) (Z.rv_t hf rfl)) (⟨none,0,none,0,rfl,rfl,hr4⟩)
 refine A.xl 3 ?_;refine A.q0 [1] [] [.b 0 0] [(18,.agg #[.slice A0_ ((a0).length) c1_])] ?_;obtain⟨r5,hv6,hF⟩:=A.bd_some hF;refine A.AL.call 44 [] (first:=[]) (cap:=[]) cf88 (o_bu a0 A0_ c1_ r5 hv6) (.s 0 .nil) ?_;rintro _ _ ⟨A7,c8,rfl,rfl⟩;refine⟨by kernel_rfl,?_⟩;refine A.q0 [] [] [.n,.n,.n,.n,.n] [(6,.slice A7 ((r5.1).length) c8),(7,.bool r5.2)] (A.dl 3 ?_);refine A.q0 [] [] [.n,.n] [(23,.bool (!r5.2))] (A.dx 1 ?_);refine A.AX.cnb rfl hF ?_ ?_<;>intro hb hF
 ·refine A.xl 1 ?_;refine A.q0 [] [] [.n,.n,.n] [(2,.slice none 0 0),(3,.slice none 0 0),(4,A.i 81)] (A.dx 1 ?_);obtain rfl:=A.si hF;refine A.nil 84 A.ti 3 ?_;refine A.nil 85 A.ti 3 ?_;exact A.AX.ret [(0,84),(1,85)] (.tuple #[.slice none 0 0,.slice none 0 0,A.i 81]) (fun a w hf hh=>Z.resv3 rfl (Z.rv_t hf rfl) (Z.rv_t hf rfl) (Z.rv_t hf rfl)) (⟨none,0,none,0,rfl,rfl,(A.hasl .i64 (81) rfl)⟩)
 refine A.xl 3 ?_;refine A.q0 [1] [] [.b 0 0,.n] [(25,.agg #[.slice A0_ ((a0).length) c1_]),(26,.slice A7 ((r5.1).length) c8)] ?_;obtain⟨r9,hv10,hF⟩:=A.bd_some hF;refine A.AL.call 86 [] (first:=[]) (cap:=[]) cf89 (o_bc a0 r5.1 A0_ c1_ A7 c8 r9 hv10) (.s 0 (.o 44 .nil)) ?_;rintro _ _ ⟨A11,c12,rfl,rfl⟩;refine⟨by kernel_rfl,?_⟩;refine A.q0 [] [] [.n,.n,.n,.n,.n] [(8,.slice A11 ((r9.1).length) c12),(7,.bool r9.2)] (A.dl 3 ?_);refine A.q0 [] [] [.n,.n] [(31,.bool (!r9.2))] (A.dx 1 ?_);refine A.AX.cnb rfl hF ?_ ?_<;>intro hb hF
 ·refine A.xl 1 ?_;refine A.q0 [] [] [.n,.n,.n] [(2,.slice none 0 0),(3,.slice none 0 0),(4,A.i 80)] (A.dx 1 ?_);obtain rfl:=A.si hF;refine A.nil 126 A.ti 3 ?_;refine A.nil 127 A.ti 3 ?_;exact A.AX.ret [(0,126),(1,127)] (.tuple #[.slice none 0 0,.slice none 0 0,A.i 80]) (fun a w hf hh=>Z.resv3 rfl (Z.rv_t hf rfl) (Z.rv_t hf rfl) (Z.rv_t hf rfl)) (⟨none,0,none,0,rfl,rfl,(A.hasl .i64 (80) rfl)⟩)
 refine A.xl 3 ?_;refine A.q0 [1] [] [.b 0 0,.n] [(32,.agg #[.slice A0_ ((a0).length) c1_]),(33,.slice A11 ((r9.1).length) c12)] ?_;obtain⟨r13,hv14,hF⟩:=A.bd_some hF;refine A.AL.call 128 [] (first:=[]) (cap:=[]) cf90 (o_bw a0 r9.1 A0_ c1_ A11 c12 r13 hv14) (.s 0 (.o 86 .nil)) ?_;rintro _ _ ⟨A15,c16,rfl,rfl⟩;refine⟨by kernel_rfl,?_⟩;refine A.q0 [] [] [.n] [(9,.slice A15 ((r13).length) c16)] (A.dl 2 ?_);refine A.q0 [1] [] [.b 0 0,.n] [(35,.agg #[.slice A0_ ((a0).length) c1_]),(36,.slice A15 ((r13).length) c16)] ?_;obtain⟨r17,hv18,hF⟩:=A.bd_some hF;refine A.AL.call 168 [] (first:=[]) (cap:=[]) cf91 (o_bB a0 r13 A0_ c1_ A15 c16 r17 hv18) (.s 0 (.o 128 .nil)) ?_;rintro _ _ ⟨A19,c20,rfl,rfl⟩;refine⟨by kernel_rfl,?_⟩;refine A.q0 [] [] [.n] [(10,.slice A19 ((r17).length) c20)] (A.dl 3 ?_);refine A.q0 [] [] [.n] [(11,A.i 0)] (A.dx 2 ?_);refine A.lp_ [1,6,8,9,10] [0,1,44,86,128,168] (fun f nl nh=>∃(y21:Int),nl=[(11,A.i y21)]∧nh=[]∧A.h6 y21∧F.bL a0 r5 r9 r13 r17 f y21=some r) ⟨0,rfl,rfl,(A.hasl .i64 (0) rfl),hF⟩ ?_;rintro f23 _ _ ⟨y21,rfl,rfl,hy22,hF⟩;rcases f23 with _|f23
 ·exact A.no0 hF
 rw[F.bL]at hF;refine A.xl 2 ?_;refine A.q0 [] [] [.n,.n,.n,.n] [(41,.bool (decide (y21<((r13).length:Int))))] (A.dx 1 ?_);refine A.AX.cnd rfl hF ?_ ?_<;>intro hb hF
 ·refine A.xx 5 ?_;refine A.AX.dr mixed 7 8 (A.mb 8 0) ?_;refine A.hq A.pb [] [0,1,44,86,128,168] [1] [] (A.mb 8 31) 3 [(0,.b 0 0),(1,.n),(2,.n),(3,.n),(4,.n)] [(44,.agg #[.slice A0_ ((a0).length) c1_]),(45,.slice A15 ((r13).length) c16),(46,.slice A19 ((r17).length) c20),(47,.slice A15 ((r13).length) c16),(48,A.i y21)] ?_;obtain⟨x24,hv25,hF⟩:=A.bd_some hF;refine A.AH.pko 128 294 hv25 fun ho26=>?_;intro g28 hA27;refine A.AH.v A.pb [0,1,44,86,128,168] [0,1,44,86,128,168,294] 5 (A.mb 8 63) rfl (fun a w hf hh=>A.r_ixo (t:=T145) hv25 hA27 hf) ?_;refine A.hq A.pb [0,1,44,86,128,168,294] [0,1,44,86,128,168,294] [] [294] (A.mb 8 127) 1 [(6,.e 0 0)] [(50,.agg #[A.i x24.1.1,A.i x24.1.2,A.i x24.2])] ?_;refine A.AH.one 7 ?_;obtain⟨r29,hv30,hF⟩:=A.bd_some hF;refine A.AL.call 295 [] (first:=[]) (cap:=[]) cf92 (o_bC a0 r13 r17 (x24.1,x24.2) A0_ c1_ A15 c16 A19 c20 ho26.1.1 ho26.1.2 ho26.2 r29 hv30) (.s 0 (.o 128 (.o 168 .nil))) ?_;rintro _ _ ⟨rfl,rfl⟩;refine⟨by kernel_rfl,?_⟩;refine A.AH.nm (A.mb 8 255) ?_;refine A.AH.done ?_;refine A.ex 1 ?_;refine A.AX.cnb rfl hF ?_ ?_<;>intro hb hF
  ·refine A.xl 1 ?_;refine A.q0 [] [] [.n,.n,.n] [(2,.slice none 0 0),(3,.slice none 0 0),(4,A.i 81)] (A.dx 1 ?_);obtain rfl:=A.si hF;refine A.nil 335 A.ti 3 ?_;refine A.nil 336 A.ti 3 ?_;exact A.AX.ret [(0,335),(1,336)] (.tuple #[.slice none 0 0,.slice none 0 0,A.i 81]) (fun a w hf hh=>Z.resv3 rfl (Z.rv_t hf rfl) (Z.rv_t hf rfl) (Z.rv_t hf rfl)) (⟨none,0,none,0,rfl,rfl,(A.hasl .i64 (81) rfl)⟩)
  refine A.xl 3 ?_;obtain⟨hc31,hF⟩:=A.gd_some hF;refine A.q [] [] [.n,.n,.n] [Z.R64 (y21+1)] [(11,A.i (y21+1))] hc31 (A.AL.done ?_);exact A.j ⟨_,Nat.lt_succ_self _,⟨(y21+1),rfl,rfl,(Z.i64_has hc31),hF⟩⟩
 refine A.xl 3 ?_;refine A.q0 [] [] [.n,.n,.n,.n,.n] [(2,.slice A7 ((r5.1).length) c8),(3,.slice A11 ((r9.1).length) c12),(4,A.i 0)] (A.dx 1 ?_);obtain rfl:=A.si hF;exact A.AX.ret [(0,44),(1,86)] (.tuple #[.slice A7 ((r5.1).length) c8,.slice A11 ((r9.1).length) c12,A.i 0]) (fun a w hf hh=>Z.resv3 rfl (Z.rv_t hf rfl) (Z.rv_t hf rfl) (Z.rv_t hf rfl)) (⟨A7,c8,A11,c12,rfl,rfl,(A.hasl .i64 (0) rfl)⟩)
def F.cM (a0:D23):Option Int:=(F.cL a0).bind fun r2=>(some r2.2.2)
theorem o_ad (a0:D23)(A0_:Option Addr)(c1_:Nat)(r:Int)(hF:F.cM a0=some r):
    A.Ct Tryz.prog 50 [.agg #[.slice A0_ ((a0).length) c1_]] [(0,.sh (.slice T70) [.slice A0_ (a0).length c1_] a0)] [] (fun v H'=>v=A.i r∧H'=[]∧A.h6 r):=by
 refine A.Ct.enter Tryz.func50 rfl Tryz.ntmps50 rfl fun w0 F0=>?_;rw[F.cM]at hF;refine A.xl 1 ?_;refine A.AL.box 1 (cs:=[.slice A0_ ((a0).length) c1_]) fun g1=>?_;refine A.q0 [] [] [.n] [] (A.dl 2 ?_);refine A.q0 [1] [] [.b 0 0] [(7,.agg #[.slice A0_ ((a0).length) c1_])] ?_;obtain⟨r2,hv3,hF⟩:=A.bd_some hF;refine A.AL.call 2 [] (first:=[]) (cap:=[]) cf66 (o_bD a0 A0_ c1_ r2 hv3) (.s 0 .nil) ?_;rintro _ _ ⟨A4,c5,A6,c7,rfl,rfl,hr8⟩;refine⟨by kernel_rfl,?_⟩;refine A.q0 [] [] [.n,.n,.n,.n,.n,.n,.n] [(5,A.i r2.2.2)] (A.dl 2 ?_);refine A.q0 [] [] [.n,.n] [(2,A.i r2.2.2)] (A.dx 1 ?_);obtain rfl:=A.si hF;exact A.rt1 [] ⟨rfl,rfl,hr8⟩
def F.cN (a0:D70):Option D70:=A.gd ((List.length (α:=Int) []+List.length (α:=Int) a0.2.2.1)*8≤140737488355328) (some (a0.1,a0.2.1,[]++a0.2.2.1,a0.2.2.2.1,a0.2.2.2.2.1,a0.2.2.2.2.2.1,a0.2.2.2.2.2.2))
theorem o_aB (a0:D70)(A2_:Option Addr)(c3_:Nat)(h0_:A.h6 a0.1)(h1_:A.h6 a0.2.1)(h4_:A.h6 a0.2.2.2.1.1)(h5_:A.h6 a0.2.2.2.1.2.1)(h6_:a0.2.2.2.1.2.2.size≤maxLen)(h7_:a0.2.2.2.2.1.size≤maxLen)(h8_:A.h6 a0.2.2.2.2.2.1)(h9_:A.h6 a0.2.2.2.2.2.2)(r:D70)(hF:F.cN a0=some r):
    A.Ct Tryz.prog 59 [.agg #[A.i a0.1,A.i a0.2.1,.slice A2_ ((a0.2.2.1).length) c3_,A.i a0.2.2.2.1.1,A.i a0.2.2.2.1.2.1,.string a0.2.2.2.1.2.2,.string a0.2.2.2.2.1,A.i a0.2.2.2.2.2.1,A.i a0.2.2.2.2.2.2]] [(0,.sh A.TI [.slice A2_ (a0.2.2.1).length c3_] a0.2.2.1)] [] (fun v H'=>∃(A0':Option Addr) (c1':Nat),v=.agg #[A.i r.1,A.i r.2.1,.slice A0' ((r.2.2.1).length) c1',A.i r.2.2.2.1.1,A.i r.2.2.2.1.2.1,.string r.2.2.2.1.2.2,.string r.2.2.2.2.1,A.i r.2.2.2.2.2.1,A.i r.2.2.2.2.2.2]∧H'=[(0,.sh A.TI [.slice A0' (r.2.2.1).length c1'] r.2.2.1)]∧A.h6 r.1∧A.h6 r.2.1∧A.h6 r.2.2.2.1.1∧A.h6 r.2.2.2.1.2.1∧r.2.2.2.1.2.2.size≤maxLen∧r.2.2.2.2.1.size≤maxLen∧A.h6 r.2.2.2.2.2.1∧A.h6 r.2.2.2.2.2.2):=by
 refine A.Ct.enter Tryz.func59 rfl Tryz.ntmps59 rfl fun w0 F0=>?_;rw[F.cN]at hF;refine A.xl 1 ?_;refine A.AL.box 1 (cs:=[A.i a0.1,A.i a0.2.1,.slice A2_ ((a0.2.2.1).length) c3_,A.i a0.2.2.2.1.1,A.i a0.2.2.2.1.2.1,.string a0.2.2.2.1.2.2,.string a0.2.2.2.2.1,A.i a0.2.2.2.2.2.1,A.i a0.2.2.2.2.2.2]) fun g1=>?_;refine A.AL.alloc 2 (cs:=[A.i 0,A.i 0,.slice none 0 0,A.i 0,A.i 0,.string (ByteArray.mk #[]),.string (ByteArray.mk #[]),A.i 0,A.i 0]) Tryz.zeroValue71 fun g2=>?_;refine A.dl 2 ?_;refine A.q0 [1] [] [.n,.b 0 2] [(4,.slice A2_ ((a0.2.2.1).length) c3_)] ?_;refine A.nil 3 A.ti 3 ?_;obtain⟨hl5,hF⟩:=A.gd_some hF;refine A.AL.app (k:=3) [] (A.rowS (k:=0) rfl) inf3 hl5 fun A3 c4=>?_;refine A.q0 [] [] [.n] [(6,.pointer (some ⟨g1,2,none⟩))] ?_;refine A.AL.store 1 [] (new:=[.slice A3 (([]++a0.2.2.1).length) c4]) (cs':=[A.i a0.1,A.i a0.2.1,.slice A3 (([]++a0.2.2.1).length) c4,A.i a0.2.2.2.1.1,A.i a0.2.2.2.1.2.1,.string a0.2.2.2.1.2.2,.string a0.2.2.2.2.1,A.i a0.2.2.2.2.2.1,A.i a0.2.2.2.2.2.2]) ?_;refine A.dl 2 ?_;refine A.q0 [1] [] [.b 0 0] [(7,.agg #[A.i a0.1,A.i a0.2.1,.slice A3 (([]++a0.2.2.1).length) c4,A.i a0.2.2.2.1.1,A.i a0.2.2.2.1.2.1,.string a0.2.2.2.1.2.2,.string a0.2.2.2.2.1,A.i a0.2.2.2.2.2.1,A.i a0.2.2.2.2.2.2])] ?_;refine A.sw 2 [] [A.i a0.1,A.i a0.2.1,.slice A3 (([]++a0.2.2.1).length) c4,A.i a0.2.2.2.1.1,A.i a0.2.2.2.1.2.1,.string a0.2.2.2.1.2.2,.string a0.2.2.2.2.1,A.i a0.2.2.2.2.2.1,A.i a0.2.2.2.2.2.2] ?_;refine A.dx 1 ?_;obtain rfl:=A.si hF;refine A.frz 3 [] ?_;exact A.AX.ret [(0,3)] (.agg #[A.i a0.1,A.i a0.2.1,.slice A3 (([]++a0.2.2.1).length) c4,A.i a0.2.2.2.1.1,A.i a0.2.2.2.1.2.1,.string a0.2.2.2.1.2.2,.string a0.2.2.2.2.1,A.i a0.2.2.2.2.2.1,A.i a0.2.2.2.2.2.2]) (fun a w hf hh=>Z.resv1 rfl (Z.rv_n hf rfl Tryz.isAgg71 Tryz.sizeOf71 (A.Hp.blk hh 2) rfl)) (⟨A3,c4,rfl,rfl,h0_,h1_,h4_,h5_,h6_,h7_,h8_,h9_⟩)
def F.dl (k1:(List D70)→Int→Int→Option D23)(y8:Int)(y10:Int)(xs16:List D70):Option D23:=A.gd (Z.R64 (y8+1)) (k1 xs16 (y8+1) y10)
def F.cJ (k1:(List D70)→Int→Int→Option D23)(a1:D30)(xs7:List D70)(y10:Int)(y52:Int):Option D23:=(A.ix a1.2.1 y10).bind fun x54=>((F.cN x54).bind fun r62=>(A.gd ((List.length (α:=D70) xs7+List.length (α:=D70) [r62])*104≤140737488355328) (A.gd (Z.R64 (y10+1)) (k1 (xs7++[r62]) y52 (y10+1)))))
def F.cK (k1:(List D70)→Int→Int→Option D23)(a1:D30)(xs7:List D70)(y8:Int)(y10:Int)(y79:Bool):Option D23:=if y79=true then(A.gd (Z.R64 (y8+1)) (F.cJ k1 a1 xs7 y10 (y8+1)))else(F.cJ k1 a1 xs7 y10 y8)
def F.bi (k1:(List D70)→Int→Int→Option D23)(a0:D23)(a1:D30)(xs7:List D70)(y8:Int)(y10:Int)(y13:Bool):Option D23:=if y13=true then((A.ix a0 y8).bind fun x18=>((F.eJ a1.1 x18.1).bind fun r26=>(if(!r26)=true then((A.ix a0 y8).bind fun x28=>((F.cN x28).bind fun r36=>(A.gd ((List.length (α:=D70) xs7+List.length (α:=D70) [r36])*104≤140737488355328) (F.dl k1 y8 y10 (xs7++[r36])))))else(F.dl k1 y8 y10 xs7))))else(if y8<((a0).length:Int)then((A.ix a0 y8).bind fun x81=>((A.ix a1.2.1 y10).bind fun x89=>(F.cK k1 a1 xs7 y8 y10 (decide (x81.1=x89.1)))))else(F.cK k1 a1 xs7 y8 y10 false))
def F.v (a0:D23)(a1:D30):Nat→(List D70)→Int→Int→Option D23
 |0,_,_,_=>none
 |f+1,xs7,y8,y10=>if(bif decide (y8<((a0).length:Int))then true else decide (y10<((a1.2.1).length:Int)))=true then(if y10=((a1.2.1).length:Int)then(F.bi (F.v a0 a1 f) a0 a1 xs7 y8 y10 true)else(if y8<((a0).length:Int)then((A.ix a0 y8).bind fun x97=>((A.ix a1.2.1 y10).bind fun x105=>(F.bi (F.v a0 a1 f) a0 a1 xs7 y8 y10 (decide (x97.1<x105.1)))))else(F.bi (F.v a0 a1 f) a0 a1 xs7 y8 y10 false)))else(some xs7)
def F.dm (a0:D23)(a1:D30):Option D23:=F.v a0 a1 A.FU [] 0 0
theorem o_aC (a0:D23)(a1:D30)(A0_:Option Addr)(c1_:Nat)(A2_:Option Addr)(c3_:Nat)(A4_:Option Addr)(c5_:Nat)(A6_:Option Addr)(c7_:Nat)(r:D23)(hF:F.dm a0 a1=some r):
    A.Ct Tryz.prog 39 [.agg #[.slice A0_ ((a0).length) c1_],.agg #[.slice A2_ ((a1.1).length) c3_,.slice A4_ ((a1.2.1).length) c5_,.slice A6_ ((a1.2.2).length) c7_]] [(0,.sh (.slice T70) [.slice A0_ (a0).length c1_] a0),(1,.sh A.TI [.slice A2_ (a1.1).length c3_] a1.1),(2,.sh (.slice T70) [.slice A4_ (a1.2.1).length c5_] a1.2.1),(3,.sh (.slice T94) [.slice A6_ (a1.2.2).length c7_] a1.2.2)] [] (fun v H'=>∃(A0':Option Addr) (c1':Nat),v=.agg #[.slice A0' ((r).length) c1']∧H'=[(0,.sh (.slice T70) [.slice A0' (r).length c1'] r)]):=by
 refine A.Ct.enter Tryz.func39 rfl Tryz.ntmps39 rfl fun w0 F0=>?_;rw[F.dm]at hF;refine A.xl 1 ?_;refine A.AL.box 4 (cs:=[.slice A0_ ((a0).length) c1_]) fun g1=>?_;refine A.AL.box 5 (cs:=[.slice A2_ ((a1.1).length) c3_,.slice A4_ ((a1.2.1).length) c5_,.slice A6_ ((a1.2.2).length) c7_]) fun g2=>?_;refine A.AL.alloc 6 (cs:=[.slice none 0 0]) Tryz.zeroValue24 fun g3=>?_;refine A.dl 2 ?_;refine A.AL.alloc 7 (cs:=[.slice none 0 0]) Tryz.zeroValue24 fun g4=>?_;refine A.dl 2 ?_;refine A.q0 [] [] [.n] [(6,A.i 0)] (A.dl 2 ?_);refine A.q0 [] [] [.n] [(7,A.i 0)] (A.dx 3 ?_);refine A.nil 233 T70 71 ?_;refine A.lp_ [2,3,4,5] [0,1,2,3,4,5,6] (fun f nl nh=>∃(xs7:List D70),∃(y8:Int),∃(y10:Int),∃(A5:Option Addr),∃(c6:Nat),nl=[(6,A.i y8),(7,A.i y10)]∧nh=[(7,.blk g4 24 [.slice A5 ((xs7).length) c6]),(233,.own T70 71 A5 c6 xs7)]∧A.h6 y8∧A.h6 y10∧F.v a0 a1 f xs7 y8 y10=some r) ⟨[],0,0,none,0,rfl,rfl,(A.hasl .i64 (0) rfl),(A.hasl .i64 (0) rfl),hF⟩ ?_;rintro f12 _ _ ⟨xs7,y8,y10,A5,c6,rfl,rfl,hy9,hy11,hF⟩;rcases f12 with _|f12
 ·exact A.no0 hF
 rw[F.v]at hF;refine A.xl 2 ?_;refine A.q0 [4,5] [] [.n,.n,.b 0 0,.n,.n,.n,.sy .n,.sy .n,.sy (.b 1 1),.sy .n,.sy .n,.pk] [(19,.bool (bif decide (y8<((a0).length:Int))then true else decide (y10<((a1.2.1).length:Int))))] (A.dx 1 ?_);refine A.AX.cnb rfl hF ?_ ?_<;>intro hb hF
 ·refine A.xx 4 ?_;refine A.AX.join [2,3,4,5,6,7] [0,1,2,3,4,5,6,7,233] (fun nl nh=>∃(y13:Bool),nl=[(46,.bool y13)]∧nh=[]∧F.bi (F.v a0 a1 f12) a0 a1 xs7 y8 y10 y13=some r) ?_ ?_
  ·refine A.AX.dr mixed 27 27 (A.mb 27 0) ?_;refine A.hq A.pb [] [0,1,2,3,4,5,6,7,233] [5] [] (A.mb 27 63) 21 [(0,.n),(1,.n),(2,.b 0 1),(3,.n),(4,.n),(5,.n)] [(25,.bool (decide (y10=((a1.2.1).length:Int))))] ?_;refine A.AH.cnp (j:=25) rfl hF ?_ ?_<;>intro hb hF
   ·refine A.hq A.pb [0,1,2,3,4,5,6,7,233] [0,1,2,3,4,5,6,7,233] [] [] (A.mb 27 134217727) 0 [(6,.off),(7,.off),(8,.off),(9,.off),(10,.off),(11,.off),(12,.off),(14,.off),(18,.off),(20,.off),(13,.off),(19,.off),(15,.off),(21,.off),(16,.off),(22,.off),(17,.off),(23,.off),(24,.off),(25,.off),(26,.n)] [(46,.bool true)] (A.AH.done ?_);exact A.j ⟨true,rfl,rfl,hF⟩
   refine A.hq A.pb [0,1,2,3,4,5,6,7,233] [0,1,2,3,4,5,6,7,233] [4] [] (A.mb 27 4095) 15 [(6,.on .n),(7,.on .n),(8,.on (.b 0 0)),(9,.on .n),(10,.on .n),(11,.on .n)] [(31,.bool (decide (y8<((a0).length:Int))))] ?_;refine A.AH.cnp (j:=31) rfl hF ?_ ?_<;>intro hb hF
   ·refine A.hq A.pb [0,1,2,3,4,5,6,7,233] [0,1,2,3,4,5,6,7,233] [4,5] [] (A.mb 27 1867775) 9 [(12,.on .n),(14,.on .n),(18,.on .n),(20,.on .n),(13,.on (.b 0 0)),(19,.on (.b 1 1))] [(34,A.i y8),(40,A.i y10),(33,.slice A0_ ((a0).length) c1_),(39,.slice A4_ ((a1.2.1).length) c5_)] ?_;obtain⟨x97,hv98,hF⟩:=A.bd_some hF;refine A.AH.pks 0 506 hv98 fun ho99=>?_;intro A101 c102 b103 o104 hA100;refine A.AH.vg A.pb [0,1,2,3,4,5,6,7,233] [0,1,2,3,4,5,6,7,233,506,507] 15 (A.mb 27 1900543) (dj:=31) rfl (fun a w hf hh=>A.r_ixa (t:=T70) hv98 hA100 hf) ?_;refine A.hq A.pb [0,1,2,3,4,5,6,7,233,506,507] [0,1,2,3,4,5,6,7,233,506,507] [] [506] (A.mb 27 2097151) 6 [(16,.on .n),(17,.on (.e 0 0))] [(37,A.i x97.1)] ?_;obtain⟨x105,hv106,hF⟩:=A.bd_some hF;refine A.AH.pks 2 508 hv106 fun ho107=>?_;intro A109 c110 b111 o112 hA108;refine A.AH.vg A.pb [0,1,2,3,4,5,6,7,233,506,507] [0,1,2,3,4,5,6,7,233,506,507,508,509] 21 (A.mb 27 4194303) (dj:=31) rfl (fun a w hf hh=>A.r_ixa (t:=T70) hv106 hA108 hf) ?_;refine A.hq A.pb [0,1,2,3,4,5,6,7,233,506,507,508,509] [0,1,2,3,4,5,6,7,233,506,507,508,509] [] [508] (A.mb 27 134217727) 0 [(22,.on .n),(23,.on (.e 0 0)),(24,.on .n),(25,.on .n),(26,.n)] [(46,.bool (decide (x97.1<x105.1)))] (A.AH.done ?_);exact A.j ⟨(decide (x97.1<x105.1)),rfl,rfl,hF⟩
   refine A.hq A.pb [0,1,2,3,4,5,6,7,233] [0,1,2,3,4,5,6,7,233] [] [] (A.mb 27 134217727) 0 [(12,.off),(14,.off),(18,.off),(20,.off),(13,.off),(19,.off),(15,.off),(21,.off),(16,.off),(22,.off),(17,.off),(23,.off),(24,.off),(25,.on .n),(26,.n)] [(46,.bool false)] (A.AH.done ?_);exact A.j ⟨false,rfl,rfl,hF⟩
  rintro _ _ ⟨y13,rfl,rfl,hF⟩;rw[F.bi]at hF;refine A.AX.cnb rfl hF ?_ ?_<;>intro hb hF
  ·refine A.AX.join [2,3,4,5,6,7] [0,1,2,3,4,5,6] (fun nl nh=>∃(xs16:List D70),∃(A14:Option Addr),∃(c15:Nat),nl=[]∧nh=[(7,.blk g4 24 [.slice A14 ((xs16).length) c15]),(233,.own T70 71 A14 c15 xs16)]∧F.dl (F.v a0 a1 f12) y8 y10 xs16=some r) ?_ ?_
   ·refine A.xx 1 ?_;refine A.AX.dr mixed 10 10 (A.mb 10 0) ?_;refine A.hq A.pb [] [0,1,2,3,4,5,6,7,233] [5,4] [] (A.mb 10 31) 5 [(0,.n),(2,.n),(4,.n),(1,.b 0 0),(3,.b 1 0)] [(51,A.i y8),(48,.slice A2_ ((a1.1).length) c3_),(50,.slice A0_ ((a0).length) c1_)] ?_;obtain⟨x18,hv19,hF⟩:=A.bd_some hF;refine A.AH.pks 0 510 hv19 fun ho20=>?_;intro A22 c23 b24 o25 hA21;refine A.AH.v A.pb [0,1,2,3,4,5,6,7,233] [0,1,2,3,4,5,6,7,233,510,511] 5 (A.mb 10 63) rfl (fun a w hf hh=>A.r_ixa (t:=T70) hv19 hA21 hf) ?_;refine A.hq A.pb [0,1,2,3,4,5,6,7,233,510,511] [0,1,2,3,4,5,6,7,233,510,511] [] [510] (A.mb 10 255) 2 [(6,.n),(7,.e 0 0)] [(54,A.i x18.1)] ?_;refine A.AH.one 8 ?_;obtain⟨r26,hv27,hF⟩:=A.bd_some hF;refine A.AL.call 512 [] (first:=[]) (cap:=[]) cf58 (o_aR a1.1 x18.1 A2_ c3_ ho20.1 r26 hv27) (.l 1 .nil) ?_;rintro _ _ ⟨rfl,rfl⟩;refine⟨by kernel_rfl,?_⟩;refine A.AH.nx (A.mb 10 511) [0,1,2,3,4,5,6,7,233,510,511] ?_;refine A.hq A.pb [0,1,2,3,4,5,6,7,233,510,511] [0,1,2,3,4,5,6,7,233,510,511] [] [] (A.mb 10 1023) 0 [(9,.n)] [(56,.bool (!r26))] (A.AH.done ?_);refine A.ex 1 ?_;refine A.AX.cnb rfl hF ?_ ?_<;>intro hb hF
    ·refine A.AX.dr mixed 11 12 (A.mb 12 0) ?_;refine A.hq A.pb [] [0,1,2,3,4,5,6,7,510,511] [7,4] [] (A.mb 12 31) 7 [(0,.n),(2,.n),(4,.n),(1,.b 0 0),(3,.b 1 0)] [(61,A.i y8),(58,.slice A5 ((xs7).length) c6),(60,.slice A0_ ((a0).length) c1_)] ?_;obtain⟨x28,hv29,hF⟩:=A.bd_some hF;refine A.AH.pks 0 552 hv29 fun ho30=>?_;intro A32 c33 b34 o35 hA31;refine A.AH.v A.pb [0,1,2,3,4,5,6,7,510,511] [0,1,2,3,4,5,6,7,510,511,552,553] 5 (A.mb 12 63) rfl (fun a w hf hh=>A.r_ixa (t:=T70) hv29 hA31 hf) ?_;refine A.hq A.pb [0,1,2,3,4,5,6,7,510,511,552,553] [0,1,2,3,4,5,6,7,510,511,552,553] [] [552] (A.mb 12 127) 5 [(6,.e 0 0)] [(63,.agg #[A.i x28.1,A.i x28.2.1,.slice A32 ((x28.2.2.1).length) c33,A.i x28.2.2.2.1.1,A.i x28.2.2.2.1.2.1,.string x28.2.2.2.1.2.2,.string x28.2.2.2.2.1,A.i x28.2.2.2.2.2.1,A.i x28.2.2.2.2.2.2])] ?_;refine A.AH.one 7 ?_;obtain⟨r36,hv37,hF⟩:=A.bd_some hF;refine A.AL.call 554 [] (first:=[]) (cap:=[]) cf59 (o_aB x28 A32 c33 ho30.1 ho30.2.1 ho30.2.2.2.1.1 ho30.2.2.2.1.2.1 ho30.2.2.2.1.2.2 ho30.2.2.2.2.1 ho30.2.2.2.2.2.1 ho30.2.2.2.2.2.2 r36 hv37) (.s 553 .nil) ?_;rintro _ _ ⟨A40,c41,rfl,rfl,hr38,hr39,hr42,hr43,hr44,hr45,hr46,hr47⟩;refine⟨by kernel_rfl,?_⟩;refine A.AH.nx (A.mb 12 255) [0,1,2,3,4,5,6,7,510,511,552,553] ?_;refine A.AH.one 8 ?_;refine A.AL.bsl 594 (ty:=T70) (cs:=[A.i r36.1,A.i r36.2.1,.slice A40 ((r36.2.2.1).length) c41,A.i r36.2.2.2.1.1,A.i r36.2.2.2.1.2.1,.string r36.2.2.2.1.2.2,.string r36.2.2.2.2.1,A.i r36.2.2.2.2.2.1,A.i r36.2.2.2.2.2.2]) [r36] ⟨⟨⟨rfl,hr38⟩,⟨rfl,hr39⟩,.inl ⟨554,rfl⟩,⟨⟨rfl,hr42⟩,⟨rfl,hr43⟩,⟨rfl,hr44⟩⟩,⟨rfl,hr45⟩,⟨rfl,hr46⟩,⟨rfl,hr47⟩⟩,rfl⟩ (fun g48=>?_) Tryz.zeroValue71 Tryz.sizeOf71
     refine A.AH.nx (A.mb 12 511) [0,1,2,3,4,5,6,7,510,511,552,553] ?_;refine A.AH.one 9 ?_;obtain⟨hl51,hF⟩:=A.gd_some hF;refine A.AL.app (k:=233) [] (A.rowO (k:=594) rfl) inf71 hl51 fun A49 c50=>?_;refine A.AH.nx (A.mb 12 1023) [0,1,2,3,4,5,6,7,510,511,552,553] ?_;refine A.hq A.pb [0,1,2,3,4,5,6,7,510,511,552,553] [0,1,2,3,4,5,6,7,233,510,511,552,553,554,594] [] [] (A.mb 12 2047) 1 [(10,.n)] [(67,.pointer (some ⟨g4,0,none⟩))] ?_;refine A.AH.one 11 ?_;refine A.sw 7 [] [.slice A49 ((xs7++[r36]).length) c50] ?_;refine A.AH.nm (A.mb 12 4095) ?_;refine A.AH.done ?_;exact A.j ⟨(xs7++[r36]),A49,c50,rfl,rfl,hF⟩
    refine A.xe 1 ?_;exact A.j ⟨xs7,A5,c6,rfl,rfl,hF⟩
   rintro _ _ ⟨xs16,A14,c15,rfl,rfl,hF⟩;rw[F.dl]at hF;refine A.xl 1 ?_;obtain⟨hc17,hF⟩:=A.gd_some hF;refine A.q [] [] [.n,.n,.n] [Z.R64 (y8+1)] [(6,A.i (y8+1))] hc17 (A.de 2 ?_);exact A.j ⟨_,Nat.lt_succ_self _,⟨xs16,(y8+1),y10,A14,c15,rfl,rfl,(Z.i64_has hc17),hy11,hF⟩⟩
  refine A.xx 2 ?_;refine A.AX.join [2,3,4,5,7] [0,1,2,3,4,5,6,7,233] (fun nl nh=>∃(y52:Int),nl=[(6,A.i y52)]∧nh=[]∧A.h6 y52∧F.cJ (F.v a0 a1 f12) a1 xs7 y10 y52=some r) ?_ ?_
  ·refine A.AX.join [2,3,4,5,6,7] [0,1,2,3,4,5,6,7,233] (fun nl nh=>∃(y79:Bool),nl=[(89,.bool y79)]∧nh=[]∧F.cK (F.v a0 a1 f12) a1 xs7 y8 y10 y79=some r) ?_ ?_
   ·refine A.AX.dr mixed 20 20 (A.mb 20 0) ?_;refine A.hq A.pb [] [0,1,2,3,4,5,6,7,233] [4] [] (A.mb 20 63) 14 [(0,.n),(1,.n),(2,.b 0 0),(3,.n),(4,.n),(5,.n)] [(75,.bool (decide (y8<((a0).length:Int))))] ?_;refine A.AH.cnp (j:=75) rfl hF ?_ ?_<;>intro hb hF
    ·refine A.hq A.pb [0,1,2,3,4,5,6,7,233] [0,1,2,3,4,5,6,7,233] [4,5] [] (A.mb 20 29183) 8 [(6,.on .n),(8,.on .n),(12,.on .n),(14,.on .n),(7,.on (.b 0 0)),(13,.on (.b 1 1))] [(78,A.i y8),(84,A.i y10),(77,.slice A0_ ((a0).length) c1_),(83,.slice A4_ ((a1.2.1).length) c5_)] ?_;obtain⟨x81,hv82,hF⟩:=A.bd_some hF;refine A.AH.pks 0 595 hv82 fun ho83=>?_;intro A85 c86 b87 o88 hA84;refine A.AH.vg A.pb [0,1,2,3,4,5,6,7,233] [0,1,2,3,4,5,6,7,233,595,596] 9 (A.mb 20 29695) (dj:=75) rfl (fun a w hf hh=>A.r_ixa (t:=T70) hv82 hA84 hf) ?_;refine A.hq A.pb [0,1,2,3,4,5,6,7,233,595,596] [0,1,2,3,4,5,6,7,233,595,596] [] [595] (A.mb 20 32767) 5 [(10,.on .n),(11,.on (.e 0 0))] [(81,A.i x81.1)] ?_;obtain⟨x89,hv90,hF⟩:=A.bd_some hF;refine A.AH.pks 2 597 hv90 fun ho91=>?_;intro A93 c94 b95 o96 hA92;refine A.AH.vg A.pb [0,1,2,3,4,5,6,7,233,595,596] [0,1,2,3,4,5,6,7,233,595,596,597,598] 15 (A.mb 20 65535) (dj:=75) rfl (fun a w hf hh=>A.r_ixa (t:=T70) hv90 hA92 hf) ?_;refine A.hq A.pb [0,1,2,3,4,5,6,7,233,595,596,597,598] [0,1,2,3,4,5,6,7,233,595,596,597,598] [] [597] (A.mb 20 1048575) 0 [(16,.on .n),(17,.on (.e 0 0)),(18,.on .n),(19,.n)] [(89,.bool (decide (x81.1=x89.1)))] (A.AH.done ?_);exact A.j ⟨(decide (x81.1=x89.1)),rfl,rfl,hF⟩
    refine A.hq A.pb [0,1,2,3,4,5,6,7,233] [0,1,2,3,4,5,6,7,233] [] [] (A.mb 20 1048575) 0 [(6,.off),(8,.off),(12,.off),(14,.off),(7,.off),(13,.off),(9,.off),(15,.off),(10,.off),(16,.off),(11,.off),(17,.off),(18,.off),(19,.n)] [(89,.bool false)] (A.AH.done ?_);exact A.j ⟨false,rfl,rfl,hF⟩
   rintro _ _ ⟨y79,rfl,rfl,hF⟩;rw[F.cK]at hF;refine A.AX.cnb rfl hF ?_ ?_<;>intro hb hF
   ·refine A.xl 0 ?_;obtain⟨hc80,hF⟩:=A.gd_some hF;refine A.q [] [] [.n,.n,.n] [Z.R64 (y8+1)] [(6,A.i (y8+1))] hc80 (A.AL.done ?_);exact A.j ⟨(y8+1),rfl,rfl,(Z.i64_has hc80),hF⟩
   refine A.xe 1 ?_;exact A.j ⟨y8,rfl,rfl,hy9,hF⟩
  rintro _ _ ⟨y52,rfl,rfl,hy53,hF⟩;rw[F.cJ]at hF;refine A.xx 1 ?_;refine A.AX.dr mixed 11 12 (A.mb 12 0) ?_;refine A.hq A.pb [] [0,1,2,3,4,5,6,7] [7,5] [] (A.mb 12 31) 7 [(0,.n),(2,.n),(4,.n),(1,.b 0 0),(3,.b 1 1)] [(96,A.i y10),(93,.slice A5 ((xs7).length) c6),(95,.slice A4_ ((a1.2.1).length) c5_)] ?_;obtain⟨x54,hv55,hF⟩:=A.bd_some hF;refine A.AH.pks 2 599 hv55 fun ho56=>?_;intro A58 c59 b60 o61 hA57;refine A.AH.v A.pb [0,1,2,3,4,5,6,7] [0,1,2,3,4,5,6,7,599,600] 5 (A.mb 12 63) rfl (fun a w hf hh=>A.r_ixa (t:=T70) hv55 hA57 hf) ?_;refine A.hq A.pb [0,1,2,3,4,5,6,7,599,600] [0,1,2,3,4,5,6,7,599,600] [] [599] (A.mb 12 127) 5 [(6,.e 0 0)] [(98,.agg #[A.i x54.1,A.i x54.2.1,.slice A58 ((x54.2.2.1).length) c59,A.i x54.2.2.2.1.1,A.i x54.2.2.2.1.2.1,.string x54.2.2.2.1.2.2,.string x54.2.2.2.2.1,A.i x54.2.2.2.2.2.1,A.i x54.2.2.2.2.2.2])] ?_;refine A.AH.one 7 ?_;obtain⟨r62,hv63,hF⟩:=A.bd_some hF;refine A.AL.call 601 [] (first:=[]) (cap:=[]) cf59 (o_aB x54 A58 c59 ho56.1 ho56.2.1 ho56.2.2.2.1.1 ho56.2.2.2.1.2.1 ho56.2.2.2.1.2.2 ho56.2.2.2.2.1 ho56.2.2.2.2.2.1 ho56.2.2.2.2.2.2 r62 hv63) (.s 600 .nil) ?_;rintro _ _ ⟨A66,c67,rfl,rfl,hr64,hr65,hr68,hr69,hr70,hr71,hr72,hr73⟩;refine⟨by kernel_rfl,?_⟩;refine A.AH.nx (A.mb 12 255) [0,1,2,3,4,5,6,7,599,600] ?_;refine A.AH.one 8 ?_;refine A.AL.bsl 641 (ty:=T70) (cs:=[A.i r62.1,A.i r62.2.1,.slice A66 ((r62.2.2.1).length) c67,A.i r62.2.2.2.1.1,A.i r62.2.2.2.1.2.1,.string r62.2.2.2.1.2.2,.string r62.2.2.2.2.1,A.i r62.2.2.2.2.2.1,A.i r62.2.2.2.2.2.2]) [r62] ⟨⟨⟨rfl,hr64⟩,⟨rfl,hr65⟩,.inl ⟨601,rfl⟩,⟨⟨rfl,hr68⟩,⟨rfl,hr69⟩,⟨rfl,hr70⟩⟩,⟨rfl,hr71⟩,⟨rfl,hr72⟩,⟨rfl,hr73⟩⟩,rfl⟩ (fun g74=>?_) Tryz.zeroValue71 Tryz.sizeOf71
  refine A.AH.nx (A.mb 12 511) [0,1,2,3,4,5,6,7,599,600] ?_;refine A.AH.one 9 ?_;obtain⟨hl77,hF⟩:=A.gd_some hF;refine A.AL.app (k:=233) [] (A.rowO (k:=641) rfl) inf71 hl77 fun A75 c76=>?_;refine A.AH.nx (A.mb 12 1023) [0,1,2,3,4,5,6,7,599,600] ?_;refine A.hq A.pb [0,1,2,3,4,5,6,7,599,600] [0,1,2,3,4,5,6,7,233,599,600,601,641] [] [] (A.mb 12 2047) 1 [(10,.n)] [(102,.pointer (some ⟨g4,0,none⟩))] ?_;refine A.AH.one 11 ?_;refine A.sw 7 [] [.slice A75 ((xs7++[r62]).length) c76] ?_;refine A.AH.nm (A.mb 12 4095) ?_;refine A.AH.done ?_;refine A.el 1 ?_;obtain⟨hc78,hF⟩:=A.gd_some hF;refine A.q [] [] [.n,.n,.n] [Z.R64 (y10+1)] [(7,A.i (y10+1))] hc78 (A.de 1 ?_);exact A.j ⟨_,Nat.lt_succ_self _,⟨(xs7++[r62]),y52,(y10+1),A75,c76,rfl,rfl,hy53,(Z.i64_has hc78),hF⟩⟩
 refine A.xl 3 ?_;refine A.q0 [7] [] [.b 0 0] [(105,.agg #[.slice A5 ((xs7).length) c6])] ?_;refine A.sw 6 [] [.slice A5 ((xs7).length) c6] ?_;refine A.dx 1 ?_;obtain rfl:=A.si hF;refine A.frz 233 [] ?_;exact A.AX.ret [(0,233)] (.agg #[.slice A5 ((xs7).length) c6]) (fun a w hf hh=>Z.resv1 rfl (Z.rv_n hf rfl Tryz.isAgg24 Tryz.sizeOf24 (A.Hp.blk hh 6) rfl)) (⟨A5,c6,rfl,rfl⟩)
def F.bW (a0:D23)(a1:D30):Option Int:=(F.cM a0).bind fun r3=>(if r3≠0 then(some r3)else((F.et a0 a1).bind fun r6=>(if(!r6)=true then(some 90)else((F.dm a0 a1).bind fun r8=>((F.cM r8).bind fun r12=>(some r12))))))
theorem o_aD (a0:D23)(a1:D30)(A0_:Option Addr)(c1_:Nat)(A2_:Option Addr)(c3_:Nat)(A4_:Option Addr)(c5_:Nat)(A6_:Option Addr)(c7_:Nat)(r:Int)(hF:F.bW a0 a1=some r):
    A.Ct Tryz.prog 38 [.agg #[.slice A0_ ((a0).length) c1_],.agg #[.slice A2_ ((a1.1).length) c3_,.slice A4_ ((a1.2.1).length) c5_,.slice A6_ ((a1.2.2).length) c7_]] [(0,.sh (.slice T70) [.slice A0_ (a0).length c1_] a0),(1,.sh A.TI [.slice A2_ (a1.1).length c3_] a1.1),(2,.sh (.slice T70) [.slice A4_ (a1.2.1).length c5_] a1.2.1),(3,.sh (.slice T94) [.slice A6_ (a1.2.2).length c7_] a1.2.2)] [] (fun v H'=>v=A.i r∧H'=[]∧A.h6 r):=by
 refine A.Ct.enter Tryz.func38 rfl Tryz.ntmps38 rfl fun w0 F0=>?_;rw[F.bW]at hF;refine A.xl 1 ?_;refine A.AL.box 4 (cs:=[.slice A0_ ((a0).length) c1_]) fun g1=>?_;refine A.AL.box 5 (cs:=[.slice A2_ ((a1.1).length) c3_,.slice A4_ ((a1.2.1).length) c5_,.slice A6_ ((a1.2.2).length) c7_]) fun g2=>?_;refine A.q0 [] [] [.n] [] (A.dl 3 ?_);refine A.q0 [4] [] [.b 0 0] [(6,.agg #[.slice A0_ ((a0).length) c1_])] ?_;obtain⟨r3,hv4,hF⟩:=A.bd_some hF;refine A.AL.call 6 [] (first:=[]) (cap:=[]) cf50 (o_ad a0 A0_ c1_ r3 hv4) (.s 0 .nil) ?_;rintro _ _ ⟨rfl,rfl,hr5⟩;refine⟨by kernel_rfl,?_⟩;refine A.q0 [] [] [.n] [(5,A.i r3)] (A.dl 2 ?_);refine A.q0 [] [] [.n,.n] [(9,.bool (decide (r3≠0)))] (A.dx 1 ?_);refine A.AX.cnd rfl hF ?_ ?_<;>intro hb hF
 ·refine A.xl 1 ?_;refine A.q0 [] [] [.n,.n] [(4,A.i r3)] (A.dx 1 ?_);obtain rfl:=A.si hF;exact A.rt1 [] ⟨rfl,rfl,hr5⟩
 refine A.xl 4 ?_;refine A.q0 [4,5] [] [.b 0 0,.b 1 0] [(11,.agg #[.slice A0_ ((a0).length) c1_]),(12,.agg #[.slice A2_ ((a1.1).length) c3_,.slice A4_ ((a1.2.1).length) c5_,.slice A6_ ((a1.2.2).length) c7_])] ?_;obtain⟨r6,hv7,hF⟩:=A.bd_some hF;refine A.AL.call 46 [] (first:=[]) (cap:=[]) cf57 (o_bY a0 a1 A0_ c1_ A2_ c3_ A4_ c5_ A6_ c7_ r6 hv7) (.s 0 (.s 1 (.s 2 (.s 3 .nil)))) ?_;rintro _ _ ⟨rfl,rfl⟩;refine⟨by kernel_rfl,?_⟩;refine A.q0 [] [] [.n] [(14,.bool (!r6))] (A.dx 1 ?_);refine A.AX.cnb rfl hF ?_ ?_<;>intro hb hF
 ·refine A.xl 1 ?_;refine A.q0 [] [] [.n] [(4,A.i 90)] (A.dx 1 ?_);obtain rfl:=A.si hF;exact A.rt1 [] ⟨rfl,rfl,(A.hasl .i64 (90) rfl)⟩
 refine A.xl 3 ?_;refine A.q0 [4,5] [] [.b 0 0,.b 1 0] [(15,.agg #[.slice A0_ ((a0).length) c1_]),(16,.agg #[.slice A2_ ((a1.1).length) c3_,.slice A4_ ((a1.2.1).length) c5_,.slice A6_ ((a1.2.2).length) c7_])] ?_;obtain⟨r8,hv9,hF⟩:=A.bd_some hF;refine A.AL.call 86 [] (first:=[]) (cap:=[]) cf39 (o_aC a0 a1 A0_ c1_ A2_ c3_ A4_ c5_ A6_ c7_ r8 hv9) (.s 0 (.s 1 (.s 2 (.s 3 .nil)))) ?_;rintro _ _ ⟨A10,c11,rfl,rfl⟩;refine⟨by kernel_rfl,?_⟩;obtain⟨r12,hv13,hF⟩:=A.bd_some hF;refine A.AL.call 126 [] (first:=[]) (cap:=[]) cf50 (o_ad r8 A10 c11 r12 hv13) (.s 86 .nil) ?_;rintro _ _ ⟨rfl,rfl,hr14⟩;refine⟨by kernel_rfl,?_⟩;refine A.q0 [] [] [.n] [(4,A.i r12)] (A.dx 1 ?_);obtain rfl:=A.si hF;exact A.rt1 [] ⟨rfl,rfl,hr14⟩
def F.cO (a0:D23)(a1:D30):Option (D23×Int):=(F.bW a0 a1).bind fun r4=>(if r4≠0 then(some ([],r4))else((F.dm a0 a1).bind fun r7=>(some (r7,0))))
theorem o_bE (a0:D23)(a1:D30)(A0_:Option Addr)(c1_:Nat)(A2_:Option Addr)(c3_:Nat)(A4_:Option Addr)(c5_:Nat)(A6_:Option Addr)(c7_:Nat)(r:D23×Int)(hF:F.cO a0 a1=some r):
    A.Ct Tryz.prog 14 [.agg #[.slice A0_ ((a0).length) c1_],.agg #[.slice A2_ ((a1.1).length) c3_,.slice A4_ ((a1.2.1).length) c5_,.slice A6_ ((a1.2.2).length) c7_]] [(0,.sh (.slice T70) [.slice A0_ (a0).length c1_] a0),(1,.sh A.TI [.slice A2_ (a1.1).length c3_] a1.1),(2,.sh (.slice T70) [.slice A4_ (a1.2.1).length c5_] a1.2.1),(3,.sh (.slice T94) [.slice A6_ (a1.2.2).length c7_] a1.2.2)] [] (fun v H'=>∃(A0':Option Addr) (c1':Nat),v=.tuple #[.agg #[.slice A0' ((r.1).length) c1'],A.i r.2]∧H'=[(0,.sh (.slice T70) [.slice A0' (r.1).length c1'] r.1)]∧A.h6 r.2):=by
 refine A.Ct.enter Tryz.func14 rfl Tryz.ntmps14 rfl fun w0 F0=>?_;rw[F.cO]at hF;refine A.xl 1 ?_;refine A.AL.box 4 (cs:=[.slice A0_ ((a0).length) c1_]) fun g1=>?_;refine A.AL.box 5 (cs:=[.slice A2_ ((a1.1).length) c3_,.slice A4_ ((a1.2.1).length) c5_,.slice A6_ ((a1.2.2).length) c7_]) fun g2=>?_;refine A.AL.alloc 6 (cs:=[.slice none 0 0]) Tryz.zeroValue24 fun g3=>?_;refine A.q0 [] [] [.n] [] (A.dl 3 ?_);refine A.q0 [4,5] [] [.b 0 0,.b 1 0] [(7,.agg #[.slice A0_ ((a0).length) c1_]),(8,.agg #[.slice A2_ ((a1.1).length) c3_,.slice A4_ ((a1.2.1).length) c5_,.slice A6_ ((a1.2.2).length) c7_])] ?_;obtain⟨r4,hv5,hF⟩:=A.bd_some hF;refine A.AL.call 7 [] (first:=[]) (cap:=[]) cf38 (o_aD a0 a1 A0_ c1_ A2_ c3_ A4_ c5_ A6_ c7_ r4 hv5) (.s 0 (.s 1 (.s 2 (.s 3 .nil)))) ?_;rintro _ _ ⟨rfl,rfl,hr6⟩;refine⟨by kernel_rfl,?_⟩;refine A.q0 [] [] [.n] [(6,A.i r4)] (A.dl 2 ?_);refine A.q0 [] [] [.n,.n] [(11,.bool (decide (r4≠0)))] (A.dx 1 ?_);refine A.AX.cnd rfl hF ?_ ?_<;>intro hb hF
 ·refine A.xl 1 ?_;refine A.q0 [] [] [.n,.n] [(12,.agg #[.slice none 0 0]),(13,A.i r4)] ?_;refine A.sw 6 [] [.slice none 0 0] ?_;refine A.q0 [] [] [.n] [(5,A.i r4)] (A.dx 1 ?_);obtain rfl:=A.si hF;refine A.snil 47 T70 ?_;exact A.AX.ret [(0,47)] (.tuple #[.agg #[.slice none 0 0],A.i r4]) (fun a w hf hh=>Z.resv2 rfl (Z.rv_n hf rfl Tryz.isAgg24 Tryz.sizeOf24 (A.Hp.blk hh 6) rfl) (Z.rv_t hf rfl)) (⟨none,0,rfl,rfl,hr6⟩)
 refine A.xl 3 ?_;refine A.q0 [4,5] [] [.b 0 0,.b 1 0] [(14,.agg #[.slice A0_ ((a0).length) c1_]),(15,.agg #[.slice A2_ ((a1.1).length) c3_,.slice A4_ ((a1.2.1).length) c5_,.slice A6_ ((a1.2.2).length) c7_])] ?_;obtain⟨r7,hv8,hF⟩:=A.bd_some hF;refine A.AL.call 48 [] (first:=[]) (cap:=[]) cf39 (o_aC a0 a1 A0_ c1_ A2_ c3_ A4_ c5_ A6_ c7_ r7 hv8) (.s 0 (.s 1 (.s 2 (.s 3 .nil)))) ?_;rintro _ _ ⟨A9,c10,rfl,rfl⟩;refine⟨by kernel_rfl,?_⟩;refine A.sw 6 [] [.slice A9 ((r7).length) c10] ?_;refine A.q0 [] [] [.n] [(5,A.i 0)] (A.dx 1 ?_);obtain rfl:=A.si hF;exact A.AX.ret [(0,48)] (.tuple #[.agg #[.slice A9 ((r7).length) c10],A.i 0]) (fun a w hf hh=>Z.resv2 rfl (Z.rv_n hf rfl Tryz.isAgg24 Tryz.sizeOf24 (A.Hp.blk hh 6) rfl) (Z.rv_t hf rfl)) (⟨A9,c10,rfl,rfl,(A.hasl .i64 (0) rfl)⟩)
def F.bj (a0:(List Int))(a1:(List Int)):Nat→Int→Option Bool
 |0,_=>none
 |f+1,y1=>if y1<((a0).length:Int)then((A.ix a0 y1).bind fun x4=>((A.ix a1 y1).bind fun x10=>(if x4≠x10 then(some false)else(A.gd (Z.R64 (y1+1)) ((F.bj a0 a1 f) (y1+1))))))else(some true)
def F.dn (a0:(List Int))(a1:(List Int)):Option Bool:=if((a0).length:Int)≠((a1).length:Int)then(some false)else(F.bj a0 a1 A.FU 0)
theorem o_aS (a0:(List Int))(a1:(List Int))(A0_:Option Addr)(c1_:Nat)(A2_:Option Addr)(c3_:Nat)(r:Bool)(hF:F.dn a0 a1=some r):
    A.Ct Tryz.prog 44 [.slice A0_ ((a0).length) c1_,.slice A2_ ((a1).length) c3_] [(0,.ln A.ti A0_ c1_ a0),(1,.ln A.ti A2_ c3_ a1)] [] (fun v H'=>v=.bool r∧H'=[]):=by
 refine A.Ct.enter Tryz.func44 rfl Tryz.ntmps44 rfl fun w0 F0=>?_;rw[F.dn]at hF;refine A.xl 1 ?_;refine A.q0 [] [] [.n] [] (A.dl 3 ?_);refine A.q0 [] [] [.n,.n,.n,.n,.n] [(10,.bool (decide (((a0).length:Int)≠((a1).length:Int))))] (A.dx 1 ?_);refine A.AX.cnd rfl hF ?_ ?_<;>intro hb hF
 ·refine A.xl 1 ?_;refine A.q0 [] [] [.n] [(4,.bool false)] (A.dx 1 ?_);obtain rfl:=A.si hF;exact A.rt1 [] ⟨rfl,rfl⟩
 refine A.xl 4 ?_;refine A.q0 [] [] [.n] [(5,A.i 0)] (A.dx 2 ?_);refine A.lp_ [0,1] [0,1] (fun f nl nh=>∃(y1:Int),nl=[(5,A.i y1)]∧nh=[]∧A.h6 y1∧F.bj a0 a1 f y1=some r) ⟨0,rfl,rfl,(A.hasl .i64 (0) rfl),hF⟩ ?_;rintro f3 _ _ ⟨y1,rfl,rfl,hy2,hF⟩;rcases f3 with _|f3
 ·exact A.no0 hF
 rw[F.bj]at hF;refine A.xl 2 ?_;refine A.q0 [] [] [.n,.n,.n,.n] [(14,.bool (decide (y1<((a0).length:Int))))] (A.dx 1 ?_);refine A.AX.cnd rfl hF ?_ ?_<;>intro hb hF
 ·refine A.xx 5 ?_;refine A.AX.dr mixed 9 9 (A.mb 9 0) ?_;refine A.hq A.pb [] [0,1] [] [] (A.mb 9 51) 5 [(0,.n),(1,.n),(4,.n),(5,.n)] [(17,.slice A0_ ((a0).length) c1_),(18,A.i y1),(21,.slice A2_ ((a1).length) c3_),(22,A.i y1)] ?_;obtain⟨x4,hv5,hF⟩:=A.bd_some hF;refine A.AH.pkl 0 6 hv5 fun ho6=>?_;intro b8 o9 hA7;refine A.AH.v A.pb [0,1] [0,1,6] 2 (A.mb 9 55) rfl (fun a w hf hh=>A.r_ixa (t:=A.ti) hv5 hA7 hf) ?_;refine A.hq A.pb [0,1,6] [0,1,6] [] [6] (A.mb 9 63) 3 [(3,.e 0 0)] [(20,A.i x4)] ?_;obtain⟨x10,hv11,hF⟩:=A.bd_some hF;refine A.AH.pkl 1 7 hv11 fun ho12=>?_;intro b14 o15 hA13;refine A.AH.v A.pb [0,1,6] [0,1,6,7] 6 (A.mb 9 127) rfl (fun a w hf hh=>A.r_ixa (t:=A.ti) hv11 hA13 hf) ?_;refine A.hq A.pb [0,1,6,7] [0,1,6,7] [] [7] (A.mb 9 511) 0 [(7,.e 0 0),(8,.n)] [(25,.bool (decide (x4≠x10)))] (A.AH.done ?_);refine A.ex 1 ?_;refine A.AX.cnd rfl hF ?_ ?_<;>intro hb hF
  ·refine A.xl 1 ?_;refine A.q0 [] [] [.n] [(4,.bool false)] (A.dx 1 ?_);obtain rfl:=A.si hF;exact A.rt1 [] ⟨rfl,rfl⟩
  refine A.xl 3 ?_;obtain⟨hc16,hF⟩:=A.gd_some hF;refine A.q [] [] [.n,.n,.n] [Z.R64 (y1+1)] [(5,A.i (y1+1))] hc16 (A.AL.done ?_);exact A.j ⟨_,Nat.lt_succ_self _,⟨(y1+1),rfl,rfl,(Z.i64_has hc16),hF⟩⟩
 refine A.xl 3 ?_;refine A.q0 [] [] [.n] [(4,.bool true)] (A.dx 1 ?_);obtain rfl:=A.si hF;exact A.rt1 [] ⟨rfl,rfl⟩
def F.cp (a0:D30)(a1:D30):Nat→Int→Option Bool
 |0,_=>none
 |f+1,y4=>if y4<((a0.2.2).length:Int)then((A.ix a0.2.2 y4).bind fun x7=>((A.ix a1.2.2 y4).bind fun x13=>(if x7≠x13 then(some false)else(A.gd (Z.R64 (y4+1)) ((F.cp a0 a1 f) (y4+1))))))else(some true)
def F.cq (a0:D30)(a1:D30)(y3:Bool):Option Bool:=if y3=true then(some false)else(F.cp a0 a1 A.FU 0)
def F.eb (a0:D30)(a1:D30):Option Bool:=(F.dn a0.1 a1.1).bind fun r20=>(if(!r20)=true then(F.cq a0 a1 true)else((F.ev a0.2.1 a1.2.1).bind fun r22=>(F.cq a0 a1 (bif !r22 then true else decide (((a0.2.2).length:Int)≠((a1.2.2).length:Int))))))
theorem o_bR (a0:D30)(a1:D30)(A0_:Option Addr)(c1_:Nat)(A2_:Option Addr)(c3_:Nat)(A4_:Option Addr)(c5_:Nat)(A6_:Option Addr)(c7_:Nat)(A8_:Option Addr)(c9_:Nat)(A10_:Option Addr)(c11_:Nat)(r:Bool)(hF:F.eb a0 a1=some r):
    A.Ct Tryz.prog 24 [.agg #[.slice A0_ ((a0.1).length) c1_,.slice A2_ ((a0.2.1).length) c3_,.slice A4_ ((a0.2.2).length) c5_],.agg #[.slice A6_ ((a1.1).length) c7_,.slice A8_ ((a1.2.1).length) c9_,.slice A10_ ((a1.2.2).length) c11_]] [(0,.sh A.TI [.slice A0_ (a0.1).length c1_] a0.1),(1,.sh (.slice T70) [.slice A2_ (a0.2.1).length c3_] a0.2.1),(2,.sh (.slice T94) [.slice A4_ (a0.2.2).length c5_] a0.2.2),(3,.sh A.TI [.slice A6_ (a1.1).length c7_] a1.1),(4,.sh (.slice T70) [.slice A8_ (a1.2.1).length c9_] a1.2.1),(5,.sh (.slice T94) [.slice A10_ (a1.2.2).length c11_] a1.2.2)] [] (fun v H'=>v=.bool r∧H'=[]):=by
 refine A.Ct.enter Tryz.func24 rfl Tryz.ntmps24 rfl fun w0 F0=>?_;rw[F.eb]at hF;refine A.xl 1 ?_;refine A.AL.box 6 (cs:=[.slice A0_ ((a0.1).length) c1_,.slice A2_ ((a0.2.1).length) c3_,.slice A4_ ((a0.2.2).length) c5_]) fun g1=>?_;refine A.AL.box 7 (cs:=[.slice A6_ ((a1.1).length) c7_,.slice A8_ ((a1.2.1).length) c9_,.slice A10_ ((a1.2.2).length) c11_]) fun g2=>?_;refine A.q0 [] [] [.n] [] (A.dx 2 ?_);refine A.AX.join [2,3] [0,1,2,3,4,5,6,7] (fun nl nh=>∃(y3:Bool),nl=[(30,.bool y3)]∧nh=[]∧F.cq a0 a1 y3=some r) ?_ ?_
 ·refine A.xl 0 ?_;refine A.q0 [6,7] [] [.n,.b 0 0,.n,.b 1 0] [(7,.slice A0_ ((a0.1).length) c1_),(9,.slice A6_ ((a1.1).length) c7_)] ?_;obtain⟨r20,hv21,hF⟩:=A.bd_some hF;refine A.AL.call 8 [] (first:=[]) (cap:=[]) cf44 (o_aS a0.1 a1.1 A0_ c1_ A6_ c7_ r20 hv21) (.l 0 (.l 3 .nil)) ?_;rintro _ _ ⟨rfl,rfl⟩;refine⟨by kernel_rfl,?_⟩;refine A.q0 [] [] [.n,.n] [(12,.bool (!r20))] ?_;refine A.AL.cnd (j:=12) rfl hF (fun hF=>?_) (fun hF=>?_)
  ·refine A.q0 [] [] [.off,.off,.off,.off,.off,.off,.off,.off,.n,.n,.off,.off,.off,.off,.off,.off,.off,.n] [(30,.bool true)] (A.AL.done ?_);exact A.j ⟨true,rfl,rfl,hF⟩
  refine A.q0 [6,7] [] [.on .n,.on (.b 0 1),.on .n,.on .n,.on (.b 1 1),.on .n] [(15,.agg #[.slice A2_ ((a0.2.1).length) c3_]),(18,.agg #[.slice A8_ ((a1.2.1).length) c9_])] ?_;refine A.AL.on (dj:=12) rfl rfl ?_;obtain⟨r22,hv23,hF⟩:=A.bd_some hF;refine A.AL.call 48 [] (first:=[]) (cap:=[]) cf16 (o_bJ a0.2.1 a1.2.1 A2_ c3_ A8_ c9_ r22 hv23) (.s 1 (.s 4 .nil)) ?_;rintro _ _ ⟨rfl,rfl⟩;refine⟨by kernel_rfl,?_⟩;refine A.q0 [6,7] [] [.on .n,.n,.n,.sy .n,.sy (.b 0 2),.sy .n,.sy .n,.sy (.b 1 2),.sy .n,.sy .n,.pk] [(30,.bool (bif !r22 then true else decide (((a0.2.2).length:Int)≠((a1.2.2).length:Int))))] (A.AL.done ?_);exact A.j ⟨(bif !r22 then true else decide (((a0.2.2).length:Int)≠((a1.2.2).length:Int))),rfl,rfl,hF⟩
 rintro _ _ ⟨y3,rfl,rfl,hF⟩;rw[F.cq]at hF;refine A.AX.cnb rfl hF ?_ ?_<;>intro hb hF
 ·refine A.xl 1 ?_;refine A.q0 [] [] [.n] [(4,.bool false)] (A.dx 1 ?_);obtain rfl:=A.si hF;exact A.rt1 [] ⟨rfl,rfl⟩
 refine A.xl 4 ?_;refine A.q0 [] [] [.n] [(5,A.i 0)] (A.dx 2 ?_);refine A.lp_ [2,3] [0,1,2,3,4,5,6,7] (fun f nl nh=>∃(y4:Int),nl=[(5,A.i y4)]∧nh=[]∧A.h6 y4∧F.cp a0 a1 f y4=some r) ⟨0,rfl,rfl,(A.hasl .i64 (0) rfl),hF⟩ ?_;rintro f6 _ _ ⟨y4,rfl,rfl,hy5,hF⟩;rcases f6 with _|f6
 ·exact A.no0 hF
 rw[F.cp]at hF;refine A.xl 2 ?_;refine A.q0 [6] [] [.n,.n,.b 0 2,.n,.n] [(35,.bool (decide (y4<((a0.2.2).length:Int))))] (A.dx 1 ?_);refine A.AX.cnd rfl hF ?_ ?_<;>intro hb hF
 ·refine A.xx 5 ?_;refine A.AX.dr mixed 11 11 (A.mb 11 0) ?_;refine A.hq A.pb [] [0,1,2,3,4,5,6,7] [6,7] [] (A.mb 11 231) 5 [(0,.n),(2,.n),(5,.n),(7,.n),(1,.b 0 2),(6,.b 1 2)] [(40,A.i y4),(45,A.i y4),(39,.slice A4_ ((a0.2.2).length) c5_),(44,.slice A10_ ((a1.2.2).length) c11_)] ?_;obtain⟨x7,hv8,hF⟩:=A.bd_some hF;refine A.AH.pks 2 92 hv8 fun ho9=>?_;intro b11 o12 hA10;refine A.AH.v A.pb [0,1,2,3,4,5,6,7] [0,1,2,3,4,5,6,7,92] 3 (A.mb 11 239) rfl (fun a w hf hh=>A.r_ixa (t:=T94) hv8 hA10 hf) ?_;refine A.hq A.pb [0,1,2,3,4,5,6,7,92] [0,1,2,3,4,5,6,7,92] [] [92] (A.mb 11 255) 3 [(4,.e 0 0)] [(42,.agg #[A.i x7.1,A.i x7.2.1,A.i x7.2.2.1,A.i x7.2.2.2.1,A.i x7.2.2.2.2.1,A.i x7.2.2.2.2.2.1,.string x7.2.2.2.2.2.2])] ?_;obtain⟨x13,hv14,hF⟩:=A.bd_some hF;refine A.AH.pks 5 93 hv14 fun ho15=>?_;intro b17 o18 hA16;refine A.AH.v A.pb [0,1,2,3,4,5,6,7,92] [0,1,2,3,4,5,6,7,92,93] 8 (A.mb 11 511) rfl (fun a w hf hh=>A.r_ixa (t:=T94) hv14 hA16 hf) ?_;refine A.hq A.pb [0,1,2,3,4,5,6,7,92,93] [0,1,2,3,4,5,6,7,92,93] [] [93] (A.mb 11 1023) 1 [(9,.e 0 0)] [(47,.agg #[A.i x13.1,A.i x13.2.1,A.i x13.2.2.1,A.i x13.2.2.2.1,A.i x13.2.2.2.2.1,A.i x13.2.2.2.2.2.1,.string x13.2.2.2.2.2.2])] ?_;refine A.AH.v A.pb [0,1,2,3,4,5,6,7,92,93] [0,1,2,3,4,5,6,7,92,93] 10 (A.mb 11 2047) rfl (fun a w hf hh=>eqagg_neq95 (x:=x7) (y:=x13) (hf.eval rfl) (hf.eval rfl)) ?_;refine A.AH.done ?_;refine A.ex 1 ?_;refine A.AX.cnd rfl hF ?_ ?_<;>intro hb hF
  ·refine A.xl 1 ?_;refine A.q0 [] [] [.n] [(4,.bool false)] (A.dx 1 ?_);obtain rfl:=A.si hF;exact A.rt1 [] ⟨rfl,rfl⟩
  refine A.xl 3 ?_;obtain⟨hc19,hF⟩:=A.gd_some hF;refine A.q [] [] [.n,.n,.n] [Z.R64 (y4+1)] [(5,A.i (y4+1))] hc19 (A.AL.done ?_);exact A.j ⟨_,Nat.lt_succ_self _,⟨(y4+1),rfl,rfl,(Z.i64_has hc19),hF⟩⟩
 refine A.xl 3 ?_;refine A.q0 [] [] [.n] [(4,.bool true)] (A.dx 1 ?_);obtain rfl:=A.si hF;exact A.rt1 [] ⟨rfl,rfl⟩
def F.aK (a0:D91)(a1:D55)(y4:Bool):Option (Bool×D91):=if y4=true then(some (false,(a0.1,a0.2.1,a0.2.2.1,a0.2.2.2.1,(a0.2.2.2.2.1.1,a0.2.2.2.2.1.2.1,a0.2.2.2.2.1.2.2.1,a0.2.2.2.2.1.2.2.2.1,a0.2.2.2.2.1.2.2.2.2),a0.2.2.2.2.2.1,a0.2.2.2.2.2.2.1,a0.2.2.2.2.2.2.2)))else(some (true,(a0.1,a0.2.1,a0.2.2.1,true,(a1.1,a1.2.1,a1.2.2.1,a1.2.2.2.1,a1.2.2.2.2),a0.2.2.2.2.2.1,a0.2.2.2.2.2.2.1,a0.2.2.2.2.2.2.2)))
def F.bZ (a0:D91)(a1:D55):Option (Bool×D91):=(F.eb a1.2.2.2.1 ([],[],[])).bind fun r2=>(if a1.1=1 then(if(bif bif bif bif bif a0.2.2.2.1 then true else decide (a1.2.1≠a0.2.1)then true else decide (a1.2.2.1<1)then true else decide ((1073741824:Int)<a1.2.2.1)then true else decide (a1.2.2.1≤a0.2.2.1)then true else decide (a1.2.2.2.2≠0))=true then(F.aK a0 a1 true)else((F.bW a0.1 a1.2.2.2.1).bind fun r5=>(F.aK a0 a1 (decide (r5≠0)))))else(if a1.1=2 then(A.gd (((!a0.2.2.2.1)=false→Z.R64 (a0.2.1+1))) (if(bif bif bif bif !a0.2.2.2.1 then true else decide (a1.2.1≠a0.2.1+1)then true else decide (a1.2.2.1≠a0.2.2.2.2.1.2.2.1)then true else !r2 then true else decide (a1.2.2.2.2≠0))=true then(some (false,(a0.1,a0.2.1,a0.2.2.1,a0.2.2.2.1,(a0.2.2.2.2.1.1,a0.2.2.2.2.1.2.1,a0.2.2.2.2.1.2.2.1,a0.2.2.2.2.1.2.2.2.1,a0.2.2.2.2.1.2.2.2.2),a0.2.2.2.2.2.1,a0.2.2.2.2.2.2.1,a0.2.2.2.2.2.2.2)))else(A.gd (Z.R64 (a0.2.1+1)) ((F.cO a0.1 a0.2.2.2.2.1.2.2.2.1).bind fun r10=>(A.gd ((List.length (α:=D23) a0.2.2.2.2.2.1+List.length (α:=D23) [r10.1])*24≤140737488355328) (A.gd ((List.length (α:=Int) a0.2.2.2.2.2.2.1+List.length (α:=Int) [a1.2.2.1])*8≤140737488355328) (A.gd ((List.length (α:=D30) a0.2.2.2.2.2.2.2+List.length (α:=D30) [a0.2.2.2.2.1.2.2.2.1])*72≤140737488355328) (some (true,(r10.1,a0.2.1+1,a1.2.2.1,false,(a0.2.2.2.2.1.1,a0.2.2.2.2.1.2.1,a0.2.2.2.2.1.2.2.1,a0.2.2.2.2.1.2.2.2.1,a0.2.2.2.2.1.2.2.2.2),a0.2.2.2.2.2.1++[r10.1],a0.2.2.2.2.2.2.1++[a1.2.2.1],a0.2.2.2.2.2.2.2++[a0.2.2.2.2.1.2.2.2.1]))))))))))else(if a1.1=3 then(if(bif bif bif bif !a0.2.2.2.1 then true else decide (a1.2.1≠a0.2.1)then true else decide (a1.2.2.1≠a0.2.2.2.2.1.2.2.1)then true else !r2 then true else decide (a1.2.2.2.2=0))=true then(some (false,(a0.1,a0.2.1,a0.2.2.1,a0.2.2.2.1,(a0.2.2.2.2.1.1,a0.2.2.2.2.1.2.1,a0.2.2.2.2.1.2.2.1,a0.2.2.2.2.1.2.2.2.1,a0.2.2.2.2.1.2.2.2.2),a0.2.2.2.2.2.1,a0.2.2.2.2.2.2.1,a0.2.2.2.2.2.2.2)))else(some (true,(a0.1,a0.2.1,a0.2.2.1,false,(a0.2.2.2.2.1.1,a0.2.2.2.2.1.2.1,a0.2.2.2.2.1.2.2.1,a0.2.2.2.2.1.2.2.2.1,a0.2.2.2.2.1.2.2.2.2),a0.2.2.2.2.2.1,a0.2.2.2.2.2.2.1,a0.2.2.2.2.2.2.2))))else(some (false,(a0.1,a0.2.1,a0.2.2.1,a0.2.2.2.1,(a0.2.2.2.2.1.1,a0.2.2.2.2.1.2.1,a0.2.2.2.2.1.2.2.1,a0.2.2.2.2.1.2.2.2.1,a0.2.2.2.2.1.2.2.2.2),a0.2.2.2.2.2.1,a0.2.2.2.2.2.2.1,a0.2.2.2.2.2.2.2))))))
theorem o_aH (a0:D91)(a1:D55)(g0_:Nat)(A1_:Option Addr)(c2_:Nat)(A8_:Option Addr)(c9_:Nat)(A10_:Option Addr)(c11_:Nat)(A12_:Option Addr)(c13_:Nat)(A15_:Option Addr)(c16_:Nat)(A17_:Option Addr)(c18_:Nat)(A19_:Option Addr)(c20_:Nat)(A24_:Option Addr)(c25_:Nat)(A26_:Option Addr)(c27_:Nat)(A28_:Option Addr)(c29_:Nat)(h3_:A.h6 a0.2.1)(h4_:A.h6 a0.2.2.1)(h5_:A.h6 a0.2.2.2.2.1.1)(h6_:A.h6 a0.2.2.2.2.1.2.1)(h7_:A.h6 a0.2.2.2.2.1.2.2.1)(h14_:A.h6 a0.2.2.2.2.1.2.2.2.2)(h21_:A.h6 a1.1)(h22_:A.h6 a1.2.1)(h23_:A.h6 a1.2.2.1)(h30_:A.h6 a1.2.2.2.2)(r:Bool×D91)(hF:F.bZ a0 a1=some r):
    A.Ct Tryz.prog 63 [.pointer (some ⟨g0_,0,none⟩),.agg #[A.i a1.1,A.i a1.2.1,A.i a1.2.2.1,.slice A24_ ((a1.2.2.2.1.1).length) c25_,.slice A26_ ((a1.2.2.2.1.2.1).length) c27_,.slice A28_ ((a1.2.2.2.1.2.2).length) c29_,A.i a1.2.2.2.2]] [(0,.blk g0_ 92 [.slice A1_ ((a0.1).length) c2_,A.i a0.2.1,A.i a0.2.2.1,.bool a0.2.2.2.1,A.i a0.2.2.2.2.1.1,A.i a0.2.2.2.2.1.2.1,A.i a0.2.2.2.2.1.2.2.1,.slice A8_ ((a0.2.2.2.2.1.2.2.2.1.1).length) c9_,.slice A10_ ((a0.2.2.2.2.1.2.2.2.1.2.1).length) c11_,.slice A12_ ((a0.2.2.2.2.1.2.2.2.1.2.2).length) c13_,A.i a0.2.2.2.2.1.2.2.2.2,.slice A15_ ((a0.2.2.2.2.2.1).length) c16_,.slice A17_ ((a0.2.2.2.2.2.2.1).length) c18_,.slice A19_ ((a0.2.2.2.2.2.2.2).length) c20_]),(1,.sh (.slice T70) [.slice A1_ (a0.1).length c2_] a0.1),(2,.sh A.TI [.slice A8_ (a0.2.2.2.2.1.2.2.2.1.1).length c9_] a0.2.2.2.2.1.2.2.2.1.1),(3,.sh (.slice T70) [.slice A10_ (a0.2.2.2.2.1.2.2.2.1.2.1).length c11_] a0.2.2.2.2.1.2.2.2.1.2.1),(4,.sh (.slice T94) [.slice A12_ (a0.2.2.2.2.1.2.2.2.1.2.2).length c13_] a0.2.2.2.2.1.2.2.2.1.2.2),(5,.own T23 24 A15_ c16_ a0.2.2.2.2.2.1),(6,.own A.ti 2 A17_ c18_ a0.2.2.2.2.2.2.1),(7,.own T30 31 A19_ c20_ a0.2.2.2.2.2.2.2),(8,.sh A.TI [.slice A24_ (a1.2.2.2.1.1).length c25_] a1.2.2.2.1.1),(9,.sh (.slice T70) [.slice A26_ (a1.2.2.2.1.2.1).length c27_] a1.2.2.2.1.2.1),(10,.sh (.slice T94) [.slice A28_ (a1.2.2.2.1.2.2).length c29_] a1.2.2.2.1.2.2)] ([g0_]++(Z.obl A15_++(Z.obl A17_++(Z.obl A19_++[])))) (fun v H'=>∃(A0':Option Addr) (c1':Nat) (A2':Option Addr) (c3':Nat) (A4':Option Addr) (c5':Nat) (A6':Option Addr) (c7':Nat) (A8':Option Addr) (c9':Nat) (A10':Option Addr) (c11':Nat) (A12':Option Addr) (c13':Nat),v=.bool r.1∧H'=[(0,.blk g0_ 92 [.slice A0' ((r.2.1).length) c1',A.i r.2.2.1,A.i r.2.2.2.1,.bool r.2.2.2.2.1,A.i r.2.2.2.2.2.1.1,A.i r.2.2.2.2.2.1.2.1,A.i r.2.2.2.2.2.1.2.2.1,.slice A2' ((r.2.2.2.2.2.1.2.2.2.1.1).length) c3',.slice A4' ((r.2.2.2.2.2.1.2.2.2.1.2.1).length) c5',.slice A6' ((r.2.2.2.2.2.1.2.2.2.1.2.2).length) c7',A.i r.2.2.2.2.2.1.2.2.2.2,.slice A8' ((r.2.2.2.2.2.2.1).length) c9',.slice A10' ((r.2.2.2.2.2.2.2.1).length) c11',.slice A12' ((r.2.2.2.2.2.2.2.2).length) c13']),(1,.sh (.slice T70) [.slice A0' (r.2.1).length c1'] r.2.1),(2,.sh A.TI [.slice A2' (r.2.2.2.2.2.1.2.2.2.1.1).length c3'] r.2.2.2.2.2.1.2.2.2.1.1),(3,.sh (.slice T70) [.slice A4' (r.2.2.2.2.2.1.2.2.2.1.2.1).length c5'] r.2.2.2.2.2.1.2.2.2.1.2.1),(4,.sh (.slice T94) [.slice A6' (r.2.2.2.2.2.1.2.2.2.1.2.2).length c7'] r.2.2.2.2.2.1.2.2.2.1.2.2),(5,.own T23 24 A8' c9' r.2.2.2.2.2.2.1),(6,.own A.ti 2 A10' c11' r.2.2.2.2.2.2.2.1),(7,.own T30 31 A12' c13' r.2.2.2.2.2.2.2.2)]∧A.h6 r.2.2.1∧A.h6 r.2.2.2.1∧A.h6 r.2.2.2.2.2.1.1∧A.h6 r.2.2.2.2.2.1.2.1∧A.h6 r.2.2.2.2.2.1.2.2.1∧A.h6 r.2.2.2.2.2.1.2.2.2.2):=by
 refine A.Ct.enter Tryz.func63 rfl Tryz.ntmps63 rfl fun w0 F0=>?_;rw[F.bZ]at hF;refine A.xl 1 ?_;refine A.AL.box 11 (cs:=[A.i a1.1,A.i a1.2.1,A.i a1.2.2.1,.slice A24_ ((a1.2.2.2.1.1).length) c25_,.slice A26_ ((a1.2.2.2.1.2.1).length) c27_,.slice A28_ ((a1.2.2.2.1.2.2).length) c29_,A.i a1.2.2.2.2]) fun g1=>?_;refine A.q0 [] [] [.n] [] (A.dl 2 ?_);refine A.q0 [11] [] [.n,.b 0 3,.n] [(7,.agg #[.slice A24_ ((a1.2.2.2.1.1).length) c25_,.slice A26_ ((a1.2.2.2.1.2.1).length) c27_,.slice A28_ ((a1.2.2.2.1.2.2).length) c29_]),(8,.agg #[.slice none 0 0,.slice none 0 0,.slice none 0 0])] ?_;obtain⟨r2,hv3,hF⟩:=A.bd_some hF;refine A.AL.call 12 [] (first:=[]) (cap:=[]) cf24 (o_bR a1.2.2.2.1 ([],[],[]) A24_ c25_ A26_ c27_ A28_ c29_ none 0 none 0 none 0 r2 hv3) (.s 8 (.s 9 (.s 10 (.ns (.ns (.ns .nil)))))) ?_;rintro _ _ ⟨rfl,rfl⟩;refine⟨by kernel_rfl,?_⟩;refine A.q0 [] [] [.n] [(5,.bool r2)] (A.dl 2 ?_);refine A.q0 [11] [] [.n,.b 0 0] [(11,A.i a1.1)] (A.dl 3 ?_);refine A.q0 [] [] [.n,.n] [(12,.bool (decide (a1.1=1)))] (A.dx 1 ?_);refine A.AX.cnd rfl hF ?_ ?_<;>intro hb hF
 ·refine A.xx 1 ?_;refine A.AX.join [0,3] [0,1,2,3,4,5,6,7,8,9,10,11] (fun nl nh=>∃(y4:Bool),nl=[(60,.bool y4)]∧nh=[]∧F.aK a0 a1 y4=some r) ?_ ?_
  ·refine A.AX.dr mixed 47 47 (A.mb 47 0) ?_;refine A.hq A.pb [] [0,1,2,3,4,5,6,7,8,9,10,11] [0,11] [] (A.mb 47 274877906943) 9 [(0,.n),(1,.n),(2,.n),(3,.b 0 3),(4,.n),(5,.sy .n),(7,.sy .n),(6,.sy (.b 1 1)),(8,.sy .n),(9,.sy .n),(10,.sy (.b 0 1)),(11,.sy .n),(12,.pk),(13,.n),(14,.sy .n),(15,.sy (.b 1 2)),(16,.sy .n),(17,.pk),(18,.n),(19,.sy .n),(20,.sy (.b 1 2)),(21,.sy .n),(22,.pk),(23,.n),(24,.sy .n),(26,.sy .n),(25,.sy (.b 1 2)),(27,.sy .n),(28,.sy .n),(29,.sy (.b 0 2)),(30,.sy .n),(31,.pk),(32,.n),(33,.sy .n),(34,.sy (.b 1 6)),(35,.sy .n),(36,.pk),(37,.n)] [(51,.bool (bif bif bif bif bif a0.2.2.2.1 then true else decide (a1.2.1≠a0.2.1)then true else decide (a1.2.2.1<1)then true else decide ((1073741824:Int)<a1.2.2.1)then true else decide (a1.2.2.1≤a0.2.2.1)then true else decide (a1.2.2.2.2≠0)))] ?_;refine A.AH.cnd (j:=51) rfl hF (fun hF=>?_) (fun hF=>?_)
   ·refine A.hq A.pb [0,1,2,3,4,5,6,7,8,9,10,11] [0,1,2,3,4,5,6,7,8,9,10,11] [] [] (A.mb 47 140737488355327) 0 [(38,.off),(42,.off),(39,.off),(43,.off),(40,.off),(41,.off),(44,.off),(45,.off),(46,.n)] [(60,.bool true)] (A.AH.done ?_);exact A.j ⟨true,rfl,rfl,hF⟩
   refine A.hq A.pb [0,1,2,3,4,5,6,7,8,9,10,11] [0,1,2,3,4,5,6,7,8,9,10,11] [11,0] [] (A.mb 47 17592186044415) 3 [(38,.on .n),(42,.on .n),(39,.on .n),(43,.on (.b 0 3)),(40,.on .n),(41,.on (.b 1 0))] [(57,.agg #[.slice A24_ ((a1.2.2.2.1.1).length) c25_,.slice A26_ ((a1.2.2.2.1.2.1).length) c27_,.slice A28_ ((a1.2.2.2.1.2.2).length) c29_]),(55,.agg #[.slice A1_ ((a0.1).length) c2_])] ?_;refine A.AH.one 44 ?_;refine A.AL.on (dj:=51) rfl rfl ?_;obtain⟨r5,hv6,hF⟩:=A.bd_some hF;refine A.AL.call 52 [] (first:=[]) (cap:=[]) cf38 (o_aD a0.1 a1.2.2.2.1 A1_ c2_ A24_ c25_ A26_ c27_ A28_ c29_ r5 hv6) (.s 1 (.s 8 (.s 9 (.s 10 .nil)))) ?_;rintro _ _ ⟨rfl,rfl,hr7⟩;refine⟨by kernel_rfl,?_⟩;refine A.AH.nx (A.mb 47 35184372088831) [0,1,2,3,4,5,6,7,8,9,10,11] ?_;refine A.hq A.pb [0,1,2,3,4,5,6,7,8,9,10,11] [0,1,2,3,4,5,6,7,8,9,10,11] [] [] (A.mb 47 140737488355327) 0 [(45,.on .n),(46,.n)] [(60,.bool (decide (r5≠0)))] (A.AH.done ?_);exact A.j ⟨(decide (r5≠0)),rfl,rfl,hF⟩
  rintro _ _ ⟨y4,rfl,rfl,hF⟩;rw[F.aK]at hF;refine A.AX.cnb rfl hF ?_ ?_<;>intro hb hF
  ·refine A.xl 1 ?_;refine A.q0 [] [] [.n] [(4,.bool false)] (A.dx 1 ?_);obtain rfl:=A.si hF;exact A.rt1 [(0,0),(1,1),(2,2),(3,3),(4,4),(5,5),(6,6),(7,7)] ⟨A1_,c2_,A8_,c9_,A10_,c11_,A12_,c13_,A15_,c16_,A17_,c18_,A19_,c20_,rfl,rfl,h3_,h4_,h5_,h6_,h7_,h14_⟩
  refine A.xl 3 ?_;refine A.q0 [] [] [.n,.n,.n] [(63,.pointer (some ⟨g0_,3,none⟩))] ?_;refine A.AL.store 0 [] (new:=[.bool true]) (cs':=[.slice A1_ ((a0.1).length) c2_,A.i a0.2.1,A.i a0.2.2.1,.bool true,A.i a0.2.2.2.2.1.1,A.i a0.2.2.2.2.1.2.1,A.i a0.2.2.2.2.1.2.2.1,.slice A8_ ((a0.2.2.2.2.1.2.2.2.1.1).length) c9_,.slice A10_ ((a0.2.2.2.2.1.2.2.2.1.2.1).length) c11_,.slice A12_ ((a0.2.2.2.2.1.2.2.2.1.2.2).length) c13_,A.i a0.2.2.2.2.1.2.2.2.2,.slice A15_ ((a0.2.2.2.2.2.1).length) c16_,.slice A17_ ((a0.2.2.2.2.2.2.1).length) c18_,.slice A19_ ((a0.2.2.2.2.2.2.2).length) c20_]) ?_;refine A.dl 2 ?_;refine A.q0 [11] [] [.n,.b 0 0,.n,.n] [(65,.agg #[A.i a1.1,A.i a1.2.1,A.i a1.2.2.1,.slice A24_ ((a1.2.2.2.1.1).length) c25_,.slice A26_ ((a1.2.2.2.1.2.1).length) c27_,.slice A28_ ((a1.2.2.2.1.2.2).length) c29_,A.i a1.2.2.2.2]),(67,.pointer (some ⟨g0_,4,none⟩))] ?_;refine A.dup 8 92 ?_;refine A.dup 9 93 ?_;refine A.dup 10 94 ?_;refine A.AL.store 0 [] (new:=[A.i a1.1,A.i a1.2.1,A.i a1.2.2.1,.slice A24_ ((a1.2.2.2.1.1).length) c25_,.slice A26_ ((a1.2.2.2.1.2.1).length) c27_,.slice A28_ ((a1.2.2.2.1.2.2).length) c29_,A.i a1.2.2.2.2]) (cs':=[.slice A1_ ((a0.1).length) c2_,A.i a0.2.1,A.i a0.2.2.1,.bool true,A.i a1.1,A.i a1.2.1,A.i a1.2.2.1,.slice A24_ ((a1.2.2.2.1.1).length) c25_,.slice A26_ ((a1.2.2.2.1.2.1).length) c27_,.slice A28_ ((a1.2.2.2.1.2.2).length) c29_,A.i a1.2.2.2.2,.slice A15_ ((a0.2.2.2.2.2.1).length) c16_,.slice A17_ ((a0.2.2.2.2.2.2.1).length) c18_,.slice A19_ ((a0.2.2.2.2.2.2.2).length) c20_]) ?_;refine A.dl 2 ?_;refine A.q0 [] [] [.n] [(4,.bool true)] (A.dx 1 ?_);obtain rfl:=A.si hF;exact A.rt1 [(0,0),(1,1),(2,92),(3,93),(4,94),(5,5),(6,6),(7,7)] ⟨A1_,c2_,A24_,c25_,A26_,c27_,A28_,c29_,A15_,c16_,A17_,c18_,A19_,c20_,rfl,rfl,h3_,h4_,h21_,h22_,h23_,h30_⟩
 refine A.xl 1 ?_;refine A.q0 [] [] [.n,.n] [(68,.bool (decide (a1.1=2)))] (A.dx 1 ?_);refine A.AX.cnd rfl hF ?_ ?_<;>intro hb hF
 ·refine A.xx 2 ?_;refine A.AX.dr mixed 34 34 (A.mb 34 0) ?_;obtain⟨hc8,hF⟩:=A.gd_some hF;refine A.AH.q A.pb [] [0,1,2,3,4,5,6,7,8,9,10,11] [0,11] [] (A.mb 34 17179869183) 0 [(0,.n),(1,.n),(2,.n),(3,.b 0 3),(4,.n),(5,.n),(6,.sy .n),(8,.sy .n),(7,.sy (.b 1 1)),(9,.sy .n),(10,.sy .n),(11,.sy (.b 0 1)),(12,.sy .n),(13,.sy .n),(14,.pk),(15,.n),(16,.sy .n),(18,.sy .n),(17,.sy (.b 1 2)),(19,.sy .n),(20,.sy .n),(21,.sy .n),(22,.sy (.b 0 6)),(23,.sy .n),(24,.pk),(25,.n),(26,.sy .n),(27,.sy .n),(28,.pk),(29,.n),(30,.sy .n),(31,.sy (.b 1 6)),(32,.sy .n),(33,.pk)] [103] [(!a0.2.2.2.1)=false→Z.R64 (a0.2.1+1)] [(103,.bool (bif bif bif bif !a0.2.2.2.1 then true else decide (a1.2.1≠a0.2.1+1)then true else decide (a1.2.2.1≠a0.2.2.2.2.1.2.2.1)then true else !r2 then true else decide (a1.2.2.2.2≠0)))] hc8 ?_;refine A.AH.done ?_;refine A.ex 1 ?_;refine A.AX.cnb rfl hF ?_ ?_<;>intro hb hF
  ·refine A.xl 1 ?_;refine A.q0 [] [] [.n] [(4,.bool false)] (A.dx 1 ?_);obtain rfl:=A.si hF;exact A.rt1 [(0,0),(1,1),(2,2),(3,3),(4,4),(5,5),(6,6),(7,7)] ⟨A1_,c2_,A8_,c9_,A10_,c11_,A12_,c13_,A15_,c16_,A17_,c18_,A19_,c20_,rfl,rfl,h3_,h4_,h5_,h6_,h7_,h14_⟩
  refine A.xl 3 ?_;refine A.q0 [] [] [.n,.n,.n] [(106,.pointer (some ⟨g0_,3,none⟩))] ?_;refine A.AL.store 0 [] (new:=[.bool false]) (cs':=[.slice A1_ ((a0.1).length) c2_,A.i a0.2.1,A.i a0.2.2.1,.bool false,A.i a0.2.2.2.2.1.1,A.i a0.2.2.2.2.1.2.1,A.i a0.2.2.2.2.1.2.2.1,.slice A8_ ((a0.2.2.2.2.1.2.2.2.1.1).length) c9_,.slice A10_ ((a0.2.2.2.2.1.2.2.2.1.2.1).length) c11_,.slice A12_ ((a0.2.2.2.2.1.2.2.2.1.2.2).length) c13_,A.i a0.2.2.2.2.1.2.2.2.2,.slice A15_ ((a0.2.2.2.2.2.1).length) c16_,.slice A17_ ((a0.2.2.2.2.2.2.1).length) c18_,.slice A19_ ((a0.2.2.2.2.2.2.2).length) c20_]) ?_;refine A.dl 2 ?_;obtain⟨hc9,hF⟩:=A.gd_some hF;refine A.q [0] [] [.n,.n,.n,.b 0 1,.n,.n,.n] [Z.R64 (a0.2.1+1)] [(111,A.i (a0.2.1+1)),(113,.pointer (some ⟨g0_,1,none⟩))] hc9 ?_;refine A.AL.store 0 [] (new:=[A.i (a0.2.1+1)]) (cs':=[.slice A1_ ((a0.1).length) c2_,A.i (a0.2.1+1),A.i a0.2.2.1,.bool false,A.i a0.2.2.2.2.1.1,A.i a0.2.2.2.2.1.2.1,A.i a0.2.2.2.2.1.2.2.1,.slice A8_ ((a0.2.2.2.2.1.2.2.2.1.1).length) c9_,.slice A10_ ((a0.2.2.2.2.1.2.2.2.1.2.1).length) c11_,.slice A12_ ((a0.2.2.2.2.1.2.2.2.1.2.2).length) c13_,A.i a0.2.2.2.2.1.2.2.2.2,.slice A15_ ((a0.2.2.2.2.2.1).length) c16_,.slice A17_ ((a0.2.2.2.2.2.2.1).length) c18_,.slice A19_ ((a0.2.2.2.2.2.2.2).length) c20_]) ?_;refine A.dl 2 ?_;refine A.q0 [11] [] [.n,.n,.b 0 2,.n,.n] [(116,A.i a1.2.2.1),(118,.pointer (some ⟨g0_,2,none⟩))] ?_;refine A.AL.store 0 [] (new:=[A.i a1.2.2.1]) (cs':=[.slice A1_ ((a0.1).length) c2_,A.i (a0.2.1+1),A.i a1.2.2.1,.bool false,A.i a0.2.2.2.2.1.1,A.i a0.2.2.2.2.1.2.1,A.i a0.2.2.2.2.1.2.2.1,.slice A8_ ((a0.2.2.2.2.1.2.2.2.1.1).length) c9_,.slice A10_ ((a0.2.2.2.2.1.2.2.2.1.2.1).length) c11_,.slice A12_ ((a0.2.2.2.2.1.2.2.2.1.2.2).length) c13_,A.i a0.2.2.2.2.1.2.2.2.2,.slice A15_ ((a0.2.2.2.2.2.1).length) c16_,.slice A17_ ((a0.2.2.2.2.2.2.1).length) c18_,.slice A19_ ((a0.2.2.2.2.2.2.2).length) c20_]) ?_;refine A.dx 2 ?_;refine A.AX.dr mixed 16 17 (A.mb 17 0) ?_;refine A.hq A.pb [] [0,1,2,3,4,5,6,7,8,9,10,11] [0] [] (A.mb 17 1023) 7 [(0,.n),(1,.n),(5,.n),(2,.n),(6,.n),(3,.n),(7,.n),(4,.b 0 0),(8,.n),(9,.b 0 7)] [(120,.pointer (some ⟨g0_,0,none⟩)),(124,.agg #[.slice A1_ ((a0.1).length) c2_]),(129,.agg #[.slice A8_ ((a0.2.2.2.2.1.2.2.2.1.1).length) c9_,.slice A10_ ((a0.2.2.2.2.1.2.2.2.1.2.1).length) c11_,.slice A12_ ((a0.2.2.2.2.1.2.2.2.1.2.2).length) c13_])] ?_;refine A.AH.one 10 ?_;obtain⟨r10,hv11,hF⟩:=A.bd_some hF;refine A.AL.call 95 [] (first:=[]) (cap:=[]) cf14 (o_bE a0.1 a0.2.2.2.2.1.2.2.2.1 A1_ c2_ A8_ c9_ A10_ c11_ A12_ c13_ r10 hv11) (.s 1 (.s 2 (.s 3 (.s 4 .nil)))) ?_;rintro _ _ ⟨A12,c13,rfl,rfl,hr14⟩;refine⟨by kernel_rfl,?_⟩;refine A.AH.nx (A.mb 17 2047) [0,1,2,3,4,5,6,7,8,9,10,11] ?_;refine A.hq A.pb [0,1,2,3,4,5,6,7,8,9,10,11] [0,1,2,3,4,5,6,7,8,9,10,11,95] [] [] (A.mb 17 57343) 2 [(11,.n),(12,.n),(14,.n),(15,.n)] [(119,.tuple #[.agg #[.slice A12 ((r10.1).length) c13],A.i r10.2]),(131,.agg #[.slice A12 ((r10.1).length) c13]),(134,.pointer (some ⟨g0_,0,none⟩))] ?_;refine A.AH.qp A.pb [0,1,2,3,4,5,6,7,8,9,10,11,95] (A.mb 17 65535) 1 [(13,.n)] [] ?_;refine A.AH.one 16 ?_;refine A.dup 95 135 ?_;refine A.AL.store 0 [] (new:=[.slice A12 ((r10.1).length) c13]) (cs':=[.slice A12 ((r10.1).length) c13,A.i (a0.2.1+1),A.i a1.2.2.1,.bool false,A.i a0.2.2.2.2.1.1,A.i a0.2.2.2.2.1.2.1,A.i a0.2.2.2.2.1.2.2.1,.slice A8_ ((a0.2.2.2.2.1.2.2.2.1.1).length) c9_,.slice A10_ ((a0.2.2.2.2.1.2.2.2.1.2.1).length) c11_,.slice A12_ ((a0.2.2.2.2.1.2.2.2.1.2.2).length) c13_,A.i a0.2.2.2.2.1.2.2.2.2,.slice A15_ ((a0.2.2.2.2.2.1).length) c16_,.slice A17_ ((a0.2.2.2.2.2.2.1).length) c18_,.slice A19_ ((a0.2.2.2.2.2.2.2).length) c20_]) ?_;refine A.AH.nm (A.mb 17 131071) ?_;refine A.AH.done ?_;refine A.ex 2 ?_;refine A.AX.dr mixed 13 14 (A.mb 14 0) ?_;refine A.hq A.pb [] [0,1,2,3,4,6,7,8,9,10,11,95,135] [0] [] (A.mb 14 511) 5 [(0,.n),(1,.n),(5,.n),(2,.n),(6,.n),(3,.n),(7,.n),(4,.b 0 11),(8,.b 0 0)] [(135,.pointer (some ⟨g0_,0,none⟩)),(139,.slice A15_ ((a0.2.2.2.2.2.1).length) c16_),(143,.agg #[.slice A12 ((r10.1).length) c13])] ?_;refine A.AH.one 9 ?_;refine A.AL.bsl 136 (ty:=T23) (cs:=[.slice A12 ((r10.1).length) c13]) [r10.1] ⟨.inl ⟨135,rfl⟩,rfl⟩ (fun g15=>?_) Tryz.zeroValue24 Tryz.sizeOf24
  refine A.AH.nx (A.mb 14 1023) [0,1,2,3,4,6,7,8,9,10,11,95,135] ?_;refine A.AH.one 10 ?_;obtain⟨hl18,hF⟩:=A.gd_some hF;refine A.AL.app (k:=5) [] (A.rowO (k:=136) rfl) inf24 hl18 fun A16 c17=>?_;refine A.AH.nx (A.mb 14 2047) [0,1,2,3,4,6,7,8,9,10,11,95,135] ?_;refine A.hq A.pb [0,1,2,3,4,6,7,8,9,10,11,95,135] [0,1,2,3,4,5,6,7,8,9,10,11,95,135,136] [] [] (A.mb 14 8191) 1 [(11,.n),(12,.n)] [(147,.pointer (some ⟨g0_,11,none⟩))] ?_;refine A.AH.one 13 ?_;refine A.AL.store 0 [] (new:=[.slice A16 ((a0.2.2.2.2.2.1++[r10.1]).length) c17]) (cs':=[.slice A12 ((r10.1).length) c13,A.i (a0.2.1+1),A.i a1.2.2.1,.bool false,A.i a0.2.2.2.2.1.1,A.i a0.2.2.2.2.1.2.1,A.i a0.2.2.2.2.1.2.2.1,.slice A8_ ((a0.2.2.2.2.1.2.2.2.1.1).length) c9_,.slice A10_ ((a0.2.2.2.2.1.2.2.2.1.2.1).length) c11_,.slice A12_ ((a0.2.2.2.2.1.2.2.2.1.2.2).length) c13_,A.i a0.2.2.2.2.1.2.2.2.2,.slice A16 ((a0.2.2.2.2.2.1++[r10.1]).length) c17,.slice A17_ ((a0.2.2.2.2.2.2.1).length) c18_,.slice A19_ ((a0.2.2.2.2.2.2.2).length) c20_]) ?_;refine A.AH.nm (A.mb 14 16383) ?_;refine A.AH.done ?_;refine A.ex 2 ?_;refine A.AX.dr mixed 11 12 (A.mb 12 0) ?_;refine A.hq A.pb [] [0,1,2,3,4,5,7,8,9,10,11,95,135,136] [11,0] [] (A.mb 12 127) 5 [(0,.n),(1,.n),(5,.n),(2,.n),(6,.b 0 2),(3,.n),(4,.b 1 12)] [(148,.pointer (some ⟨g0_,0,none⟩)),(154,A.i a1.2.2.1),(152,.slice A17_ ((a0.2.2.2.2.2.2.1).length) c18_)] ?_;refine A.AH.one 7 ?_;refine A.AL.bsl 137 (ty:=A.ti) (cs:=[A.i a1.2.2.1]) [a1.2.2.1] ⟨⟨rfl,h23_⟩,rfl⟩ (fun g19=>?_) Tryz.zeroValue2 Tryz.sizeOf2
  refine A.AH.nx (A.mb 12 255) [0,1,2,3,4,5,7,8,9,10,11,95,135,136] ?_;refine A.AH.one 8 ?_;obtain⟨hl22,hF⟩:=A.gd_some hF;refine A.AL.app (k:=6) [] (A.rowO (k:=137) rfl) inf2 hl22 fun A20 c21=>?_;refine A.AH.nx (A.mb 12 511) [0,1,2,3,4,5,7,8,9,10,11,95,135,136] ?_;refine A.hq A.pb [0,1,2,3,4,5,7,8,9,10,11,95,135,136] [0,1,2,3,4,5,6,7,8,9,10,11,95,135,136,137] [] [] (A.mb 12 2047) 1 [(9,.n),(10,.n)] [(158,.pointer (some ⟨g0_,12,none⟩))] ?_;refine A.AH.one 11 ?_;refine A.AL.store 0 [] (new:=[.slice A20 ((a0.2.2.2.2.2.2.1++[a1.2.2.1]).length) c21]) (cs':=[.slice A12 ((r10.1).length) c13,A.i (a0.2.1+1),A.i a1.2.2.1,.bool false,A.i a0.2.2.2.2.1.1,A.i a0.2.2.2.2.1.2.1,A.i a0.2.2.2.2.1.2.2.1,.slice A8_ ((a0.2.2.2.2.1.2.2.2.1.1).length) c9_,.slice A10_ ((a0.2.2.2.2.1.2.2.2.1.2.1).length) c11_,.slice A12_ ((a0.2.2.2.2.1.2.2.2.1.2.2).length) c13_,A.i a0.2.2.2.2.1.2.2.2.2,.slice A16 ((a0.2.2.2.2.2.1++[r10.1]).length) c17,.slice A20 ((a0.2.2.2.2.2.2.1++[a1.2.2.1]).length) c21,.slice A19_ ((a0.2.2.2.2.2.2.2).length) c20_]) ?_;refine A.AH.nm (A.mb 12 4095) ?_;refine A.AH.done ?_;refine A.ex 2 ?_;refine A.AX.dr mixed 14 15 (A.mb 15 0) ?_;refine A.hq A.pb [] [0,1,2,3,4,5,6,8,9,10,11,95,135,136,137] [0] [] (A.mb 15 1023) 5 [(0,.n),(1,.n),(5,.n),(2,.n),(6,.n),(3,.n),(7,.n),(4,.b 0 13),(8,.n),(9,.b 0 7)] [(159,.pointer (some ⟨g0_,0,none⟩)),(163,.slice A19_ ((a0.2.2.2.2.2.2.2).length) c20_),(168,.agg #[.slice A8_ ((a0.2.2.2.2.1.2.2.2.1.1).length) c9_,.slice A10_ ((a0.2.2.2.2.1.2.2.2.1.2.1).length) c11_,.slice A12_ ((a0.2.2.2.2.1.2.2.2.1.2.2).length) c13_])] ?_;refine A.AH.one 10 ?_;refine A.AL.bsl 138 (ty:=T30) (cs:=[.slice A8_ ((a0.2.2.2.2.1.2.2.2.1.1).length) c9_,.slice A10_ ((a0.2.2.2.2.1.2.2.2.1.2.1).length) c11_,.slice A12_ ((a0.2.2.2.2.1.2.2.2.1.2.2).length) c13_]) [a0.2.2.2.2.1.2.2.2.1] ⟨⟨.inl ⟨2,rfl⟩,.inl ⟨3,rfl⟩,.inl ⟨4,rfl⟩⟩,rfl⟩ (fun g23=>?_) Tryz.zeroValue31 Tryz.sizeOf31
  refine A.AH.nx (A.mb 15 2047) [0,1,2,3,4,5,6,8,9,10,11,95,135,136,137] ?_;refine A.AH.one 11 ?_;obtain⟨hl26,hF⟩:=A.gd_some hF;refine A.AL.app (k:=7) [] (A.rowO (k:=138) rfl) inf31 hl26 fun A24 c25=>?_;refine A.AH.nx (A.mb 15 4095) [0,1,2,3,4,5,6,8,9,10,11,95,135,136,137] ?_;refine A.hq A.pb [0,1,2,3,4,5,6,8,9,10,11,95,135,136,137] [0,1,2,3,4,5,6,7,8,9,10,11,95,135,136,137,138] [] [] (A.mb 15 16383) 1 [(12,.n),(13,.n)] [(172,.pointer (some ⟨g0_,13,none⟩))] ?_;refine A.AH.one 14 ?_;refine A.AL.store 0 [] (new:=[.slice A24 ((a0.2.2.2.2.2.2.2++[a0.2.2.2.2.1.2.2.2.1]).length) c25]) (cs':=[.slice A12 ((r10.1).length) c13,A.i (a0.2.1+1),A.i a1.2.2.1,.bool false,A.i a0.2.2.2.2.1.1,A.i a0.2.2.2.2.1.2.1,A.i a0.2.2.2.2.1.2.2.1,.slice A8_ ((a0.2.2.2.2.1.2.2.2.1.1).length) c9_,.slice A10_ ((a0.2.2.2.2.1.2.2.2.1.2.1).length) c11_,.slice A12_ ((a0.2.2.2.2.1.2.2.2.1.2.2).length) c13_,A.i a0.2.2.2.2.1.2.2.2.2,.slice A16 ((a0.2.2.2.2.2.1++[r10.1]).length) c17,.slice A20 ((a0.2.2.2.2.2.2.1++[a1.2.2.1]).length) c21,.slice A24 ((a0.2.2.2.2.2.2.2++[a0.2.2.2.2.1.2.2.2.1]).length) c25]) ?_;refine A.AH.nm (A.mb 15 32767) ?_;refine A.AH.done ?_;refine A.el 2 ?_;refine A.q0 [] [] [.n] [(4,.bool true)] (A.dx 1 ?_);obtain rfl:=A.si hF;exact A.rt1 [(0,0),(1,135),(2,2),(3,3),(4,4),(5,5),(6,6),(7,7)] ⟨A12,c13,A8_,c9_,A10_,c11_,A12_,c13_,A16,c17,A20,c21,A24,c25,rfl,rfl,(Z.i64_has hc9),h23_,h5_,h6_,h7_,h14_⟩
 refine A.xl 1 ?_;refine A.q0 [] [] [.n,.n] [(173,.bool (decide (a1.1=3)))] (A.dx 1 ?_);refine A.AX.cnd rfl hF ?_ ?_<;>intro hb hF
 ·refine A.xx 2 ?_;refine A.AX.dr mixed 33 33 (A.mb 33 0) ?_;refine A.hq A.pb [] [0,1,2,3,4,5,6,7,8,9,10,11] [0,11] [] (A.mb 33 8589934591) 0 [(0,.n),(1,.n),(2,.n),(3,.b 0 3),(4,.n),(5,.n),(6,.sy .n),(8,.sy .n),(7,.sy (.b 1 1)),(9,.sy .n),(10,.sy .n),(11,.sy (.b 0 1)),(12,.sy .n),(13,.pk),(14,.n),(15,.sy .n),(17,.sy .n),(16,.sy (.b 1 2)),(18,.sy .n),(19,.sy .n),(20,.sy .n),(21,.sy (.b 0 6)),(22,.sy .n),(23,.pk),(24,.n),(25,.sy .n),(26,.sy .n),(27,.pk),(28,.n),(29,.sy .n),(30,.sy (.b 1 6)),(31,.sy .n),(32,.pk)] [(207,.bool (bif bif bif bif !a0.2.2.2.1 then true else decide (a1.2.1≠a0.2.1)then true else decide (a1.2.2.1≠a0.2.2.2.2.1.2.2.1)then true else !r2 then true else decide (a1.2.2.2.2=0)))] (A.AH.done ?_);refine A.ex 1 ?_;refine A.AX.cnb rfl hF ?_ ?_<;>intro hb hF
  ·refine A.xl 1 ?_;refine A.q0 [] [] [.n] [(4,.bool false)] (A.dx 1 ?_);obtain rfl:=A.si hF;exact A.rt1 [(0,0),(1,1),(2,2),(3,3),(4,4),(5,5),(6,6),(7,7)] ⟨A1_,c2_,A8_,c9_,A10_,c11_,A12_,c13_,A15_,c16_,A17_,c18_,A19_,c20_,rfl,rfl,h3_,h4_,h5_,h6_,h7_,h14_⟩
  refine A.xl 3 ?_;refine A.q0 [] [] [.n,.n,.n] [(210,.pointer (some ⟨g0_,3,none⟩))] ?_;refine A.AL.store 0 [] (new:=[.bool false]) (cs':=[.slice A1_ ((a0.1).length) c2_,A.i a0.2.1,A.i a0.2.2.1,.bool false,A.i a0.2.2.2.2.1.1,A.i a0.2.2.2.2.1.2.1,A.i a0.2.2.2.2.1.2.2.1,.slice A8_ ((a0.2.2.2.2.1.2.2.2.1.1).length) c9_,.slice A10_ ((a0.2.2.2.2.1.2.2.2.1.2.1).length) c11_,.slice A12_ ((a0.2.2.2.2.1.2.2.2.1.2.2).length) c13_,A.i a0.2.2.2.2.1.2.2.2.2,.slice A15_ ((a0.2.2.2.2.2.1).length) c16_,.slice A17_ ((a0.2.2.2.2.2.2.1).length) c18_,.slice A19_ ((a0.2.2.2.2.2.2.2).length) c20_]) ?_;refine A.dl 2 ?_;refine A.q0 [] [] [.n] [(4,.bool true)] (A.dx 1 ?_);obtain rfl:=A.si hF;exact A.rt1 [(0,0),(1,1),(2,2),(3,3),(4,4),(5,5),(6,6),(7,7)] ⟨A1_,c2_,A8_,c9_,A10_,c11_,A12_,c13_,A15_,c16_,A17_,c18_,A19_,c20_,rfl,rfl,h3_,h4_,h5_,h6_,h7_,h14_⟩
 refine A.xl 1 ?_;refine A.q0 [] [] [.n] [(4,.bool false)] (A.dx 1 ?_);obtain rfl:=A.si hF;exact A.rt1 [(0,0),(1,1),(2,2),(3,3),(4,4),(5,5),(6,6),(7,7)] ⟨A1_,c2_,A8_,c9_,A10_,c11_,A12_,c13_,A15_,c16_,A17_,c18_,A19_,c20_,rfl,rfl,h3_,h4_,h5_,h6_,h7_,h14_⟩
def F.cr (a0:D26):Nat→(List D70)→(List Int)→(List D70)→(List D94)→(List D23)→(List Int)→(List D30)→Int→Int→Bool→Int→Int→Int→Int→Int→Option ((Option D91)×Int)
 |0,_,_,_,_,_,_,_,_,_,_,_,_,_,_,_=>none
 |f+1,xs8,xs11,xs14,xs17,xs20,xs23,xs26,y27,y29,y31,y32,y34,y36,y38,y40=>if y40<((a0.2).length:Int)then((A.ix a0.2 y40).bind fun x43=>((F.bZ (xs8,y27,y29,y31,(y32,y34,y36,(xs11,xs14,xs17),y38),xs20,xs23,xs26) (x43.1,x43.2.1,x43.2.2.1,x43.2.2.2.1,x43.2.2.2.2)).bind fun r54=>(if(!r54.1)=true then(some (none,220))else(A.gd (Z.R64 (y40+1)) ((F.cr a0 f) r54.2.1 r54.2.2.2.2.2.1.2.2.2.1.1 r54.2.2.2.2.2.1.2.2.2.1.2.1 r54.2.2.2.2.2.1.2.2.2.1.2.2 r54.2.2.2.2.2.2.1 r54.2.2.2.2.2.2.2.1 r54.2.2.2.2.2.2.2.2 r54.2.2.1 r54.2.2.2.1 r54.2.2.2.2.1 r54.2.2.2.2.2.1.1 r54.2.2.2.2.2.1.2.1 r54.2.2.2.2.2.1.2.2.1 r54.2.2.2.2.2.1.2.2.2.2 (y40+1))))))else(some (some (xs8,y27,y29,y31,(y32,y34,y36,(xs11,xs14,xs17),y38),xs20,xs23,xs26),0))
def F.ec (a0:D26):Option ((Option D91)×Int):=(F.cM a0.1).bind fun r2=>(if r2≠0 then(some (none,r2))else(if(1024:Int)<((a0.2).length:Int)then(some (none,220))else(F.cr a0 A.FU a0.1 [] [] [] [] [] [] 0 0 false 0 0 0 0 0)))
theorem o_bS (a0:D26)(A0_:Option Addr)(c1_:Nat)(A2_:Option Addr)(c3_:Nat)(r:(Option D91)×Int)(hF:F.ec a0=some r):
    A.Ct Tryz.prog 41 [.agg #[.slice A0_ ((a0.1).length) c1_,.slice A2_ ((a0.2).length) c3_]] [(0,.sh (.slice T70) [.slice A0_ (a0.1).length c1_] a0.1),(1,.sh (.slice T55) [.slice A2_ (a0.2).length c3_] a0.2)] [] (fun v H'=>(r.1=none∧v=.tuple #[.pointer none,A.i r.2]∧H'=[]∧A.h6 r.2)∨(∃(p0:D91),r.1=some p0∧∃(g0':Nat) (A1':Option Addr) (c2':Nat) (A3':Option Addr) (c4':Nat) (A5':Option Addr) (c6':Nat) (A7':Option Addr) (c8':Nat) (A9':Option Addr) (c10':Nat) (A11':Option Addr) (c12':Nat) (A13':Option Addr) (c14':Nat),v=.tuple #[.pointer (some ⟨g0',0,none⟩),A.i r.2]∧H'=[(0,.blk g0' 92 [.slice A1' ((p0.1).length) c2',A.i p0.2.1,A.i p0.2.2.1,.bool p0.2.2.2.1,A.i p0.2.2.2.2.1.1,A.i p0.2.2.2.2.1.2.1,A.i p0.2.2.2.2.1.2.2.1,.slice A3' ((p0.2.2.2.2.1.2.2.2.1.1).length) c4',.slice A5' ((p0.2.2.2.2.1.2.2.2.1.2.1).length) c6',.slice A7' ((p0.2.2.2.2.1.2.2.2.1.2.2).length) c8',A.i p0.2.2.2.2.1.2.2.2.2,.slice A9' ((p0.2.2.2.2.2.1).length) c10',.slice A11' ((p0.2.2.2.2.2.2.1).length) c12',.slice A13' ((p0.2.2.2.2.2.2.2).length) c14']),(1,.sh (.slice T70) [.slice A1' (p0.1).length c2'] p0.1),(2,.sh A.TI [.slice A3' (p0.2.2.2.2.1.2.2.2.1.1).length c4'] p0.2.2.2.2.1.2.2.2.1.1),(3,.sh (.slice T70) [.slice A5' (p0.2.2.2.2.1.2.2.2.1.2.1).length c6'] p0.2.2.2.2.1.2.2.2.1.2.1),(4,.sh (.slice T94) [.slice A7' (p0.2.2.2.2.1.2.2.2.1.2.2).length c8'] p0.2.2.2.2.1.2.2.2.1.2.2),(5,.own T23 24 A9' c10' p0.2.2.2.2.2.1),(6,.own A.ti 2 A11' c12' p0.2.2.2.2.2.2.1),(7,.own T30 31 A13' c14' p0.2.2.2.2.2.2.2)]∧A.h6 p0.2.1∧A.h6 p0.2.2.1∧A.h6 p0.2.2.2.2.1.1∧A.h6 p0.2.2.2.2.1.2.1∧A.h6 p0.2.2.2.2.1.2.2.1∧A.h6 p0.2.2.2.2.1.2.2.2.2∧A.h6 r.2)):=by
 refine A.Ct.enter Tryz.func41 rfl Tryz.ntmps41 rfl fun w0 F0=>?_;rw[F.ec]at hF;refine A.xl 1 ?_;refine A.AL.box 2 (cs:=[.slice A0_ ((a0.1).length) c1_,.slice A2_ ((a0.2).length) c3_]) fun g1=>?_;refine A.q0 [] [] [.n,.n] [] (A.dl 3 ?_);refine A.q0 [2] [] [.n,.b 0 0] [(8,.agg #[.slice A0_ ((a0.1).length) c1_])] ?_;obtain⟨r2,hv3,hF⟩:=A.bd_some hF;refine A.AL.call 3 [] (first:=[]) (cap:=[]) cf50 (o_ad a0.1 A0_ c1_ r2 hv3) (.s 0 .nil) ?_;rintro _ _ ⟨rfl,rfl,hr4⟩;refine⟨by kernel_rfl,?_⟩;refine A.q0 [] [] [.n] [(4,A.i r2)] (A.dl 2 ?_);refine A.q0 [] [] [.n,.n] [(11,.bool (decide (r2≠0)))] (A.dx 1 ?_);refine A.AX.cnd rfl hF ?_ ?_<;>intro hb hF
 ·refine A.xl 1 ?_;refine A.q0 [] [] [.n,.n,.n] [(2,.pointer none),(3,A.i r2)] (A.dx 1 ?_);obtain rfl:=A.si hF;exact A.rt2 [] (.inl ⟨rfl,⟨rfl,rfl,hr4⟩⟩)
 refine A.xl 3 ?_;refine A.q0 [2] [] [.n,.b 0 0,.n] [(15,.agg #[.slice A0_ ((a0.1).length) c1_,A.i 0,A.i 0,.bool false,A.i 0,A.i 0,A.i 0,.slice none 0 0,.slice none 0 0,.slice none 0 0,A.i 0,.slice none 0 0,.slice none 0 0,.slice none 0 0])] ?_;refine A.AL.box 43 (cs:=[.slice A0_ ((a0.1).length) c1_,A.i 0,A.i 0,.bool false,A.i 0,A.i 0,A.i 0,.slice none 0 0,.slice none 0 0,.slice none 0 0,A.i 0,.slice none 0 0,.slice none 0 0,.slice none 0 0]) fun g5=>?_;refine A.q0 [] [] [.n] [(5,.pointer (some ⟨g5,0,none⟩))] (A.dl 3 ?_);refine A.q0 [2] [] [.n,.b 0 1,.n,.n] [(20,.bool (decide ((1024:Int)<((a0.2).length:Int))))] (A.dx 1 ?_);refine A.AX.cnd rfl hF ?_ ?_<;>intro hb hF
 ·refine A.xl 1 ?_;refine A.q0 [] [] [.n,.n] [(2,.pointer none),(3,A.i 220)] (A.dx 1 ?_);obtain rfl:=A.si hF;exact A.rt2 [] (.inl ⟨rfl,⟨rfl,rfl,(A.hasl .i64 (220) rfl)⟩⟩)
 refine A.xl 4 ?_;refine A.q0 [] [] [.n] [(6,A.i 0)] (A.dx 2 ?_);refine A.snil 100 A.ti ?_;refine A.snil 101 T70 ?_;refine A.snil 102 T94 ?_;refine A.nil 103 T23 24 ?_;refine A.nil 104 A.ti 2 ?_;refine A.nil 105 T30 31 ?_;refine A.lp_ [1,5] [1,2] (fun f nl nh=>∃(xs8:List D70),∃(xs11:List Int),∃(xs14:List D70),∃(xs17:List D94),∃(xs20:List D23),∃(xs23:List Int),∃(xs26:List D30),∃(y27:Int),∃(y29:Int),∃(y31:Bool),∃(y32:Int),∃(y34:Int),∃(y36:Int),∃(y38:Int),∃(y40:Int),∃(A6:Option Addr),∃(c7:Nat),∃(A9:Option Addr),∃(c10:Nat),∃(A12:Option Addr),∃(c13:Nat),∃(A15:Option Addr),∃(c16:Nat),∃(A18:Option Addr),∃(c19:Nat),∃(A21:Option Addr),∃(c22:Nat),∃(A24:Option Addr),∃(c25:Nat),nl=[(6,A.i y40)]∧nh=[(0,.sh (.slice T70) [.slice A6 (xs8).length c7] xs8),(43,.blk g5 92 [.slice A6 ((xs8).length) c7,A.i y27,A.i y29,.bool y31,A.i y32,A.i y34,A.i y36,.slice A9 ((xs11).length) c10,.slice A12 ((xs14).length) c13,.slice A15 ((xs17).length) c16,A.i y38,.slice A18 ((xs20).length) c19,.slice A21 ((xs23).length) c22,.slice A24 ((xs26).length) c25]),(100,.sh A.TI [.slice A9 (xs11).length c10] xs11),(101,.sh (.slice T70) [.slice A12 (xs14).length c13] xs14),(102,.sh (.slice T94) [.slice A15 (xs17).length c16] xs17),(103,.own T23 24 A18 c19 xs20),(104,.own A.ti 2 A21 c22 xs23),(105,.own T30 31 A24 c25 xs26)]∧A.h6 y27∧A.h6 y29∧A.h6 y32∧A.h6 y34∧A.h6 y36∧A.h6 y38∧A.h6 y40∧F.cr a0 f xs8 xs11 xs14 xs17 xs20 xs23 xs26 y27 y29 y31 y32 y34 y36 y38 y40=some r) ⟨a0.1,[],[],[],[],[],[],0,0,false,0,0,0,0,0,A0_,c1_,none,0,none,0,none,0,none,0,none,0,none,0,rfl,rfl,(A.hasl .i64 (0) rfl),(A.hasl .i64 (0) rfl),(A.hasl .i64 (0) rfl),(A.hasl .i64 (0) rfl),(A.hasl .i64 (0) rfl),(A.hasl .i64 (0) rfl),(A.hasl .i64 (0) rfl),hF⟩ ?_;rintro f42 _ _ ⟨xs8,xs11,xs14,xs17,xs20,xs23,xs26,y27,y29,y31,y32,y34,y36,y38,y40,A6,c7,A9,c10,A12,c13,A15,c16,A18,c19,A21,c22,A24,c25,rfl,rfl,hy28,hy30,hy33,hy35,hy37,hy39,hy41,hF⟩;rcases f42 with _|f42
 ·exact A.no0 hF
 rw[F.cr]at hF;refine A.xl 2 ?_;refine A.q0 [2] [] [.n,.n,.b 0 1,.n,.n] [(25,.bool (decide (y40<((a0.2).length:Int))))] (A.dx 1 ?_);refine A.AX.cnd rfl hF ?_ ?_<;>intro hb hF
 ·refine A.xl 5 ?_;refine A.q0 [2] [] [.n,.n,.b 0 1,.n] [(28,.pointer (some ⟨g5,0,none⟩)),(30,.slice A2_ ((a0.2).length) c3_),(31,A.i y40)] ?_;obtain⟨x43,hv44,hF⟩:=A.bd_some hF;refine A.AL.ixs 1 194 hv44 fun ho45=>?_;intro A46 c47 A48 c49 A50 c51 b52 o53;refine A.q0 [] [194] [.e 0 0] [(33,.agg #[A.i x43.1,A.i x43.2.1,A.i x43.2.2.1,.slice A46 ((x43.2.2.2.1.1).length) c47,.slice A48 ((x43.2.2.2.1.2.1).length) c49,.slice A50 ((x43.2.2.2.1.2.2).length) c51,A.i x43.2.2.2.2])] ?_;obtain⟨r54,hv55,hF⟩:=A.bd_some hF;refine A.AL.call 198 [] (first:=[]) (cap:=[]) cf63 (o_aH (xs8,y27,y29,y31,(y32,y34,y36,(xs11,xs14,xs17),y38),xs20,xs23,xs26) (x43.1,x43.2.1,x43.2.2.1,x43.2.2.2.1,x43.2.2.2.2) g5 A6 c7 A9 c10 A12 c13 A15 c16 A18 c19 A21 c22 A24 c25 A46 c47 A48 c49 A50 c51 hy28 hy30 hy33 hy35 hy37 hy39 ho45.1 ho45.2.1 ho45.2.2.1 ho45.2.2.2.2 r54 hv55) (.m 43 (.m 0 (.m 100 (.m 101 (.m 102 (.m 103 (.m 104 (.m 105 (.s 195 (.s 196 (.s 197 .nil))))))))))) ?_;rintro _ _ ⟨A56,c57,A63,c64,A65,c66,A67,c68,A70,c71,A72,c73,A74,c75,rfl,rfl,hr58,hr59,hr60,hr61,hr62,hr69⟩;refine⟨by kernel_rfl,?_⟩;refine A.mvd 198 43 [] ?_;refine A.mvd 199 0 [] ?_;refine A.mvd 200 100 [] ?_;refine A.mvd 201 101 [] ?_;refine A.mvd 202 102 [] ?_;refine A.mvd 203 103 [] ?_;refine A.mvd 204 104 [] ?_;refine A.mvd 205 105 [] ?_;refine A.q0 [] [] [.n] [(35,.bool (!r54.1))] (A.dx 1 ?_);refine A.AX.cnb rfl hF ?_ ?_<;>intro hb hF
  ·refine A.xl 1 ?_;refine A.q0 [] [] [.n,.n] [(2,.pointer none),(3,A.i 220)] (A.dx 1 ?_);obtain rfl:=A.si hF;exact A.rt2 [] (.inl ⟨rfl,⟨rfl,rfl,(A.hasl .i64 (220) rfl)⟩⟩)
  refine A.xl 3 ?_;obtain⟨hc76,hF⟩:=A.gd_some hF;refine A.q [] [] [.n,.n,.n] [Z.R64 (y40+1)] [(6,A.i (y40+1))] hc76 (A.AL.done ?_);exact A.j ⟨_,Nat.lt_succ_self _,⟨r54.2.1,r54.2.2.2.2.2.1.2.2.2.1.1,r54.2.2.2.2.2.1.2.2.2.1.2.1,r54.2.2.2.2.2.1.2.2.2.1.2.2,r54.2.2.2.2.2.2.1,r54.2.2.2.2.2.2.2.1,r54.2.2.2.2.2.2.2.2,r54.2.2.1,r54.2.2.2.1,r54.2.2.2.2.1,r54.2.2.2.2.2.1.1,r54.2.2.2.2.2.1.2.1,r54.2.2.2.2.2.1.2.2.1,r54.2.2.2.2.2.1.2.2.2.2,(y40+1),A56,c57,A63,c64,A65,c66,A67,c68,A70,c71,A72,c73,A74,c75,rfl,rfl,hr58,hr59,hr60,hr61,hr62,hr69,(Z.i64_has hc76),hF⟩⟩
 refine A.xl 3 ?_;refine A.q0 [] [] [.n,.n,.n] [(2,.pointer (some ⟨g5,0,none⟩)),(3,A.i 0)] (A.dx 1 ?_);obtain rfl:=A.si hF;exact A.rt2 [(0,43),(1,0),(2,100),(3,101),(4,102),(5,103),(6,104),(7,105)] (.inr ⟨(xs8,y27,y29,y31,(y32,y34,y36,(xs11,xs14,xs17),y38),xs20,xs23,xs26),rfl,⟨g5,A6,c7,A9,c10,A12,c13,A15,c16,A18,c19,A21,c22,A24,c25,rfl,rfl,hy28,hy30,hy33,hy35,hy37,hy39,(A.hasl .i64 (0) rfl)⟩⟩)
def F.dU (a0:D26):Option Int:=(F.ec a0).bind fun r2=>A.om r2.1 (some r2.2) fun p5=>(some r2.2)
theorem o_bF (a0:D26)(A0_:Option Addr)(c1_:Nat)(A2_:Option Addr)(c3_:Nat)(r:Int)(hF:F.dU a0=some r):
    A.Ct Tryz.prog 17 [.agg #[.slice A0_ ((a0.1).length) c1_,.slice A2_ ((a0.2).length) c3_]] [(0,.sh (.slice T70) [.slice A0_ (a0.1).length c1_] a0.1),(1,.sh (.slice T55) [.slice A2_ (a0.2).length c3_] a0.2)] [] (fun v H'=>v=A.i r∧H'=[]∧A.h6 r):=by
 refine A.Ct.enter Tryz.func17 rfl Tryz.ntmps17 rfl fun w0 F0=>?_;rw[F.dU]at hF;refine A.xl 1 ?_;refine A.AL.box 2 (cs:=[.slice A0_ ((a0.1).length) c1_,.slice A2_ ((a0.2).length) c3_]) fun g1=>?_;refine A.q0 [] [] [.n] [] (A.dl 2 ?_);refine A.q0 [2] [] [.b 0 0] [(6,.agg #[.slice A0_ ((a0.1).length) c1_,.slice A2_ ((a0.2).length) c3_])] ?_;obtain⟨r2,hv3,hF⟩:=A.bd_some hF;refine A.AL.call 3 [] (first:=[]) (cap:=[]) cf41 (o_bS a0 A0_ c1_ A2_ c3_ r2 hv3) (.s 0 (.s 1 .nil)) ?_;rintro _ _ (⟨hp28,rfl,rfl,hr4⟩|⟨p5,hp28,g6,A7,c8,A14,c15,A16,c17,A18,c19,A21,c22,A23,c24,A25,c26,rfl,rfl,hr9,hr10,hr11,hr12,hr13,hr20,hr27⟩)
 ·refine⟨by kernel_rfl,?_⟩;rw[A.om_n hp28]at hF
  refine A.q0 [] [] [.n,.n,.n,.n,.n] [(4,A.i r2.2)] (A.dl 2 ?_);refine A.q0 [] [] [.n,.n] [(2,A.i r2.2)] (A.dx 1 ?_);obtain rfl:=A.si hF;exact A.rt1 [] ⟨rfl,rfl,hr4⟩
 refine⟨by kernel_rfl,?_⟩;rw[A.om_s hp28]at hF
 refine A.q0 [] [] [.n,.n,.n,.n,.n] [(4,A.i r2.2)] (A.dl 2 ?_);refine A.q0 [] [] [.n,.n] [(2,A.i r2.2)] (A.dx 1 ?_);obtain rfl:=A.si hF;exact A.rt1 [] ⟨rfl,rfl,hr27⟩
def F.o (a0:D26):List (Int×D53)→Int→Int→Option Bool
 | [],y31,y33=>(F.cZ a0).bind fun r37=>((F.cg a0 1073741824).bind fun r44=>(some (bif bif bif decide (r37.2.2=0)then decide (r44.2.2=0)else false then decide (r37.2.1=y31)else false then decide (r44.2.1=y31)else false)))
 |y22::f,y31,y33=>A.gd (Z.R64 (y31+1)) (if(bif decide (y22.1≠y31+1)then true else decide (y22.2.2≤y33))=true then(some false)else((F.o a0 f) (y31+1) y22.2.2))
def F.bt (a0:D26)(y5:Bool):Option Bool:=if y5=true then(some true)else((F.bp a0).bind fun r6=>((F.a3 r6).bind fun xs13=>F.o a0 xs13 0 0))
def F.b7 (a0:D26):Option Bool:=(F.eM).bind fun r3=>(if(!r3)=true then(some false)else((F.es a0).bind fun r51=>(if(!r51)=true then(F.bt a0 true)else((F.dU a0).bind fun r53=>(F.bt a0 (decide (r53≠0)))))))
theorem o_av (a0:D26)(A0_:Option Addr)(c1_:Nat)(A2_:Option Addr)(c3_:Nat)(r:Bool)(hF:F.b7 a0=some r):
    A.Ct Tryz.prog 4 [.agg #[.slice A0_ ((a0.1).length) c1_,.slice A2_ ((a0.2).length) c3_]] [(0,.sh (.slice T70) [.slice A0_ (a0.1).length c1_] a0.1),(1,.sh (.slice T55) [.slice A2_ (a0.2).length c3_] a0.2),(2,.el none 0 0 A.tabF),(3,.el none 1 0 A.tabA)] [] (fun v H'=>v=.bool r∧H'=[]):=by
 refine A.Ct.enterM Tryz.func4 rfl Tryz.ntmps4 rfl fun w0 F0=>?_;rw[F.b7]at hF;refine A.xl 1 ?_;refine A.AL.box 4 (cs:=[.slice A0_ ((a0.1).length) c1_,.slice A2_ ((a0.2).length) c3_]) fun g1=>?_;refine A.AL.alloc 5 (cs:=[.bool false]) Tryz.zeroValue4 fun g2=>?_;refine A.dl 3 ?_;obtain⟨r3,hv4,hF⟩:=A.bd_some hF;refine A.AL.call 6 [] (first:=[]) (cap:=[]) cf7 (o_bH r3 hv4) (.s 2 (.s 3 .nil)) ?_;rintro _ _ ⟨rfl,rfl⟩;refine⟨by kernel_rfl,?_⟩;refine A.q0 [] [] [.n] [(15,.bool (!r3))] (A.dx 1 ?_);refine A.AX.cnb rfl hF ?_ ?_<;>intro hb hF
 ·refine A.xl 1 ?_;refine A.sw 5 [] [.bool false] ?_;refine A.dx 1 ?_;obtain rfl:=A.si hF;exact A.AX.rtM (Ds:=[]) [] [] (.bool false) (trivial) (fun a w hf hh=>Z.resv1 rfl (Z.rv_1 hf rfl Tryz.isAgg4 (A.Hp.blk hh 5))) (⟨rfl,rfl⟩)
 refine A.xx 3 ?_;refine A.AX.join [1,2] [0,1,2,3,4,5] (fun nl nh=>∃(y5:Bool),nl=[(23,.bool y5)]∧nh=[]∧F.bt a0 y5=some r) ?_ ?_
 ·refine A.xl 0 ?_;refine A.q0 [4] [] [.b 0 0] [(16,.agg #[.slice A0_ ((a0.1).length) c1_,.slice A2_ ((a0.2).length) c3_])] ?_;obtain⟨r51,hv52,hF⟩:=A.bd_some hF;refine A.AL.call 46 [] (first:=[]) (cap:=[]) cf8 (o_bX a0 A0_ c1_ A2_ c3_ r51 hv52) (.s 0 (.s 1 .nil)) ?_;rintro _ _ ⟨rfl,rfl⟩;refine⟨by kernel_rfl,?_⟩;refine A.q0 [] [] [.n,.n] [(19,.bool (!r51))] ?_;refine A.AL.cnd (j:=19) rfl hF (fun hF=>?_) (fun hF=>?_)
  ·refine A.q0 [] [] [.off,.off,.off,.n] [(23,.bool true)] (A.AL.done ?_);exact A.j ⟨true,rfl,rfl,hF⟩
  refine A.q0 [4] [] [.on (.b 0 0)] [(20,.agg #[.slice A0_ ((a0.1).length) c1_,.slice A2_ ((a0.2).length) c3_])] ?_;refine A.AL.on (dj:=19) rfl rfl ?_;obtain⟨r53,hv54,hF⟩:=A.bd_some hF;refine A.AL.call 86 [] (first:=[]) (cap:=[]) cf17 (o_bF a0 A0_ c1_ A2_ c3_ r53 hv54) (.s 0 (.s 1 .nil)) ?_;rintro _ _ ⟨rfl,rfl,hr55⟩;refine⟨by kernel_rfl,?_⟩;refine A.q0 [] [] [.on .n,.n] [(23,.bool (decide (r53≠0)))] (A.AL.done ?_);exact A.j ⟨(decide (r53≠0)),rfl,rfl,hF⟩
 rintro _ _ ⟨y5,rfl,rfl,hF⟩;rw[F.bt]at hF;refine A.AX.cnb rfl hF ?_ ?_<;>intro hb hF
 ·refine A.xl 1 ?_;refine A.sw 5 [] [.bool true] ?_;refine A.dx 1 ?_;obtain rfl:=A.si hF;exact A.AX.rtM (Ds:=[]) [] [] (.bool true) (trivial) (fun a w hf hh=>Z.resv1 rfl (Z.rv_1 hf rfl Tryz.isAgg4 (A.Hp.blk hh 5))) (⟨rfl,rfl⟩)
 refine A.xl 3 ?_;refine A.q0 [4] [] [.b 0 0] [(24,.agg #[.slice A0_ ((a0.1).length) c1_,.slice A2_ ((a0.2).length) c3_])] ?_;obtain⟨r6,hv7,hF⟩:=A.bd_some hF;refine A.AL.call 126 [] (first:=[]) (cap:=[]) cf18 (o_ac a0 A0_ c1_ A2_ c3_ r6 hv7) (.s 0 (.s 1 (.s 2 (.s 3 .nil)))) ?_;rintro _ _ ⟨g8,A9,c10,rfl,rfl⟩;refine⟨by kernel_rfl,?_⟩;refine A.q0 [] [] [.n] [(3,.func (.func 43) #[] #[.pointer (some ⟨g8,0,none⟩)])] (A.dl 3 ?_);refine A.q0 [] [] [.n] [(26,.func (.func 43) #[] #[.pointer (some ⟨g8,0,none⟩)])] ?_;refine A.AL.val rfl (fun a w hf hh=>Z.r_eqfn rfl (hf.eval rfl)) ?_;refine A.dx 1 ?_;refine A.AX.cnf rfl ?_;refine A.xl 3 ?_;refine A.AL.alloc 166 (cs:=[A.i 0]) Tryz.zeroValue2 fun g11=>?_;refine A.AL.alloc 167 (cs:=[A.i 0]) Tryz.zeroValue2 fun g12=>?_;refine A.sw 166 [] [A.i 0] ?_;refine A.sw 167 [] [A.i 0] ?_;refine A.dl 3 ?_;refine A.q0 [] [] [.n] [(28,.func (.func 43) #[] #[.pointer (some ⟨g8,0,none⟩)])] (A.dx 2 ?_);obtain⟨xs13,hv14,hF⟩:=A.bd_some hF;refine A.AX.rgf 168 169 170 [0,1,2,3,4,5,126,127] [166,167,0,1,2,3,4,5,126,127] [169,168,166,167,0,1,2,3,4,5,126,127] (fun k nh=>∃(y31:Int),∃(y33:Int),nh=[(166,.blk g11 2 [A.i y31]),(167,.blk g12 2 [A.i y33])]∧A.h6 y31∧A.h6 y33∧F.o a0 (List.drop k xs13) y31 y33=some r) [(166,.blk g11 2 [A.i 0]),(167,.blk g12 2 [A.i 0])] cf43 (o_s r6 g8 A9 c10 xs13 hv14) (fun _=>rfl) ⟨0,0,rfl,(A.hasl .i64 (0) rfl),(A.hasl .i64 (0) rfl),hF⟩ ?_ ?_ ?_
 ·rintro k21 _ D15 L16 ⟨y31,y33,rfl,hy32,hy34,hF⟩;exact⟨⟨_,(.b 126 (.s 127 .nil))⟩,rfl,fun o=>rfl⟩
 ·rintro k21 _ y22 D15 L16 w20 o17 ⟨y31,y33,rfl,hy32,hy34,hF⟩ hx29 hxo30 hh19;intro A23 c24 A25 c26 A27 c28;rw[A.drop_at hx29,F.o]at hF
  refine A.xl 1 ?_;refine A.q0 [] [] [.n] [(6,A.i y22.1)] (A.dl 1 ?_);refine A.AL.alloc 175 (cs:=[.slice none 0 0,.slice none 0 0,.slice none 0 0,A.i 0]) Tryz.zeroValue54 fun g35=>?_;refine A.sw 175 [] [.slice A23 ((y22.2.1.1).length) c24,.slice A25 ((y22.2.1.2.1).length) c26,.slice A27 ((y22.2.1.2.2).length) c28,A.i y22.2.2] ?_;refine A.AL.done ?_;refine A.AE.flip 168 169 fun o18=>?_;refine A.xl 2 ?_;obtain⟨hc36,hF⟩:=A.gd_some hF;refine A.q [166] [] [.b 0 0,.n] [Z.R64 (y31+1)] [(32,A.i (y31+1))] hc36 ?_;refine A.sw 166 [] [A.i (y31+1)] ?_;refine A.dl 3 ?_;refine A.q0 [166,175,167] [] [.n,.b 0 0,.n,.n,.sy .n,.sy (.b 1 3),.sy (.b 2 0),.sy .n,.pk] [(41,.bool (bif decide (y22.1≠y31+1)then true else decide (y22.2.2≤y33)))] (A.dx 1 ?_);refine A.AX.cnb rfl hF ?_ ?_<;>intro hb hF
  ·refine A.xl 1 ?_;refine A.sw 5 [] [.bool false] ?_;refine A.dx 1 ?_;refine A.AX.bret hh19 [169,0,1,4,5,126,127,166,167,170,171,172,168,175] 100000 [(169,100169),(0,100000),(1,100001),(4,100004),(5,100005),(126,100126),(127,100127),(166,100166),(167,100167),(170,100170),(171,100171),(172,100172),(168,100168),(175,100175),(2,2),(3,3)] [(0,.sh (.slice T70) [.slice A0_ (a0.1).length c1_] a0.1),(1,.sh (.slice T55) [.slice A2_ (a0.2).length c3_] a0.2),(4,.blk g1 27 [.slice A0_ ((a0.1).length) c1_,.slice A2_ ((a0.2).length) c3_]),(5,.blk g2 4 [.bool false]),(126,.blk g8 59 [.slice A9 ((r6).length) c10]),(127,.sh (.slice T53) [.slice A9 (r6).length c10] r6),(166,.blk g11 2 [A.i (y31+1)]),(167,.blk g12 2 [A.i y33]),(170,.sh A.TI [.slice A23 (y22.2.1.1).length c24] y22.2.1.1),(171,.sh (.slice T70) [.slice A25 (y22.2.1.2.1).length c26] y22.2.1.2.1),(172,.sh (.slice T94) [.slice A27 (y22.2.1.2.2).length c28] y22.2.1.2.2),(168,.ob D15 A.dfT),(175,.blk g35 54 [.slice A23 ((y22.2.1.1).length) c24,.slice A25 ((y22.2.1.2.1).length) c26,.slice A27 ((y22.2.1.2.2).length) c28,A.i y22.2.2]),(2,.el none 0 0 A.tabF),(3,.el none 1 0 A.tabA)] ?_ rfl rfl
   obtain rfl:=A.si hF;exact A.AE.rtM (Ds:=[D15]) [168] [] (.bool false) (⟨rfl,trivial⟩) (fun a w hf hh=>Z.resv1 rfl (Z.rv_1 hf rfl Tryz.isAgg4 (A.Hp.blk hh 5))) (⟨rfl,rfl⟩)
  refine A.xl 2 ?_;refine A.q0 [175] [] [.n,.b 0 3] [(43,A.i y22.2.2)] ?_;refine A.sw 167 [] [A.i y22.2.2] ?_;refine A.de 1 ?_;exact A.AE.bn hh19 [169,168,166,167,0,1,4,5,126,127] 100000 [(169,100169),(168,100168),(166,100166),(167,100167),(0,100000),(1,100001),(2,2),(3,3),(4,100004),(5,100005),(126,100126),(127,100127)] [(166,.blk g11 2 [A.i (y31+1)]),(167,.blk g12 2 [A.i y22.2.2])] ⟨(y31+1),y22.2.2,rfl,(Z.i64_has hc36),hxo30.2.2,hF⟩ rfl rfl
 rintro _ D15 L16 ⟨y31,y33,rfl,hy32,hy34,hF⟩;rw[List.drop_length,F.o]at hF
 refine A.el 3 ?_;refine A.q0 [4] [] [.b 0 0] [(45,.agg #[.slice A0_ ((a0.1).length) c1_,.slice A2_ ((a0.2).length) c3_])] ?_;obtain⟨r37,hv38,hF⟩:=A.bd_some hF;refine A.AL.call 176 [] (first:=[]) (cap:=[]) cf13 (o_a0 a0 A0_ c1_ A2_ c3_ r37 hv38) (.s 0 (.s 1 (.s 2 (.s 3 .nil)))) ?_;rintro _ _ ⟨A39,c40,rfl,rfl,hr41,hr42⟩;refine⟨by kernel_rfl,?_⟩;refine A.q0 [] [] [.n,.n,.n,.n] [(47,.agg #[.slice A39 ((r37.1).length) c40]),(48,A.i r37.2.1),(49,A.i r37.2.2)] ?_;refine A.AL.alloc 216 (cs:=[.slice none 0 0]) Tryz.zeroValue24 fun g43=>?_;refine A.sw 216 [] [.slice A39 ((r37.1).length) c40] ?_;refine A.q0 [] [] [.n,.n] [(9,A.i r37.2.1),(10,A.i r37.2.2)] (A.dl 2 ?_);refine A.q0 [4] [] [.b 0 0] [(51,.agg #[.slice A0_ ((a0.1).length) c1_,.slice A2_ ((a0.2).length) c3_])] ?_;obtain⟨r44,hv45,hF⟩:=A.bd_some hF;refine A.AL.call 217 [] (first:=[]) (cap:=[]) cf15 (o_z a0 1073741824 A0_ c1_ A2_ c3_ (A.hasl .i64 (1073741824) rfl) r44 hv45) (.s 0 (.s 1 (.s 2 (.s 3 .nil)))) ?_;rintro _ _ ⟨A46,c47,rfl,rfl,hr48,hr49⟩;refine⟨by kernel_rfl,?_⟩;refine A.q0 [] [] [.n,.n,.n,.n] [(53,.agg #[.slice A46 ((r44.1).length) c47]),(54,A.i r44.2.1),(55,A.i r44.2.2)] ?_;refine A.AL.alloc 257 (cs:=[.slice none 0 0]) Tryz.zeroValue24 fun g50=>?_;refine A.sw 257 [] [.slice A46 ((r44.1).length) c47] ?_;refine A.q0 [] [] [.n,.n] [(12,A.i r44.2.1),(13,A.i r44.2.2)] (A.dl 2 ?_);refine A.q0 [166] [] [.n,.n,.n,.sy .n,.sy .n,.pk,.n,.sy .n,.sy (.b 0 0),.sy .n,.pk,.n,.sy .n,.sy (.b 0 0),.sy .n,.pk] [(71,.bool (bif bif bif decide (r37.2.2=0)then decide (r44.2.2=0)else false then decide (r37.2.1=y31)else false then decide (r44.2.1=y31)else false))] ?_;refine A.sw 5 [] [.bool (bif bif bif decide (r37.2.2=0)then decide (r44.2.2=0)else false then decide (r37.2.1=y31)else false then decide (r44.2.1=y31)else false)] ?_;refine A.dx 1 ?_;obtain rfl:=A.si hF;exact A.AX.rtM (Ds:=[D15]) [168] [] (.bool (bif bif bif decide (r37.2.2=0)then decide (r44.2.2=0)else false then decide (r37.2.1=y31)else false then decide (r44.2.1=y31)else false)) (⟨rfl,trivial⟩) (fun a w hf hh=>Z.resv1 rfl (Z.rv_1 hf rfl Tryz.isAgg4 (A.Hp.blk hh 5))) (⟨rfl,rfl⟩)
end Go.Proofs.YtfdfcaiiengdfaaGreatDoor
end
section
set_option linter.unusedVariables false
set_option linter.unusedSimpArgs false
set_option maxRecDepth 20000
set_option maxHeartbeats 8000000
set_option synthInstance.maxSize 1000000
set_option synthInstance.maxHeartbeats 400000
namespace Go.Proofs.YtfdfcaiiengdfaaGreatDoor
open Go.RowKit
end Go.Proofs.YtfdfcaiiengdfaaGreatDoor
end
section
set_option linter.unusedVariables false
set_option linter.unusedSimpArgs false
set_option maxRecDepth 20000
set_option maxHeartbeats 8000000
set_option synthInstance.maxSize 1000000
set_option synthInstance.maxHeartbeats 400000
namespace Go.Proofs.YtfdfcaiiengdfaaGreatDoor
open Go.RowKit
end Go.Proofs.YtfdfcaiiengdfaaGreatDoor
end
section
set_option linter.unusedVariables false
set_option linter.unusedSimpArgs false
set_option maxRecDepth 20000
set_option maxHeartbeats 8000000
set_option synthInstance.maxSize 1000000
set_option synthInstance.maxHeartbeats 400000
namespace Go.Proofs.YtfdfcaiiengdfaaGreatDoor
open Go.RowKit
end Go.Proofs.YtfdfcaiiengdfaaGreatDoor
end
section
set_option linter.unusedVariables false
set_option linter.unusedSimpArgs false
set_option maxRecDepth 20000
set_option maxHeartbeats 8000000
set_option synthInstance.maxSize 1000000
set_option synthInstance.maxHeartbeats 400000
namespace Go.Proofs.YtfdfcaiiengdfaaGreatDoor
open Go.RowKit
end Go.Proofs.YtfdfcaiiengdfaaGreatDoor
end
section
set_option linter.unusedVariables false
set_option linter.unusedSimpArgs false
set_option maxRecDepth 20000
set_option maxHeartbeats 8000000
set_option synthInstance.maxSize 1000000
set_option synthInstance.maxHeartbeats 400000
namespace Go.Proofs.YtfdfcaiiengdfaaGreatDoor
open Go.RowKit
end Go.Proofs.YtfdfcaiiengdfaaGreatDoor
end
section
end
section
set_option linter.unusedVariables false
namespace Go.A
open Go.RowKit Go.Z Go.Shelf Go.Proofs Go.Lib
def Hall (W:World):List (Nat×Res)→Prop
 | []=>True
 |p::H=>(p.2.bl=[]∧p.2.ref=none∧p.2.holds W (fun _=>True) (fun _ _=>False))∧Hall W H
theorem Hall.at {W:World}: ∀{H:List (Nat×Res)} {k:Nat} {r:Res},Hall W H→hk H k=some r→r.bl=[]∧r.ref=none∧r.holds W (fun _=>True) (fun _ _=>False)
 | [],_,_,_,h=>by cases h
 |(d,u)::H,k,r,ha,h=>by
  rw[hk_cons]at h
  split at h
  ·injection h with h;subst h;exact ha.1
  ·exact ha.2.at h
theorem Hp.start {W:World}{H:List (Nat×Res)}(h:Hall W H):Hp ⟨0,[],W,[],fun _=>True⟩ H W:=by
 have hb: ∀k b,¬Bk H k b:=fun k b ⟨r,h1,h2⟩=>by rw[(h.at h1).1]at h2;cases h2
 refine⟨Ch.refl W,fun k r hk=>?_,fun k b hB=>(hb k b hB).elim,fun k k' b hB=>(hb k b hB).elim,fun k r j hk hr=>?_⟩
 ·exact Res.to (S:=[]) (h.at hk).2.2 (Ch.refl W) (fun b _ _=>⟨by simp,fun k=>hb k b,.inl trivial⟩) (fun b _ _=>⟨by simp,fun k=>hb k b⟩) (fun i b _ hf=>hf.elim) (by simp)
 ·rw[(h.at hk).2.1]at hr;cases hr
theorem Hall.sh {W:World}{t:Ty}{cs:List Value}{x:t.den}{F:Nat→Prop}(h:t.rep W F cs x):(Res.sh t cs x).bl=[]∧(Res.sh t cs x).ref=none∧(Res.sh t cs x).holds W (fun _=>True) (fun _ _=>False):=
 ⟨rfl,rfl,rep_as h fun _ _ _=>trivial⟩
theorem Hall.ln {W:World}{t:Ty}{A:Option Addr}{c n:Nat}{xs:List t.den}{F:Nat→Prop}(h:(Ty.slice t).rep W F [.slice A xs.length c] xs):(Res.ln t A c xs).bl=[]∧(Res.ln t A c xs).ref=none∧(Res.ln t A c xs).holds W (fun _=>True) (fun _ _=>False):=
 ⟨rfl,rfl,Row.to (S:=[]) (Row.of h) (Ch.refl W) (fun _ _ _=>⟨by simp,trivial⟩) (fun _ _ _=>⟨by simp,fun _ h=>h⟩)⟩
def putCells (cs:List Value):Obj→Obj
 | .cells _ t frozen=>.cells cs.toArray t frozen
 |o=>o
theorem tab_cells {w:World}{g3 g4:Nat}(h:Lib.Utf8Tabs g3 g4 w):Cells w ⟨g3,0,none⟩ tabF∧Cells w ⟨g4,0,none⟩ tabA:=by
 constructor
 ·intro j u hu
  rw[Addr.add_lit,Nat.zero_add]
  have hj:j<256:=by have:=(List.getElem?_eq_some_iff.1 hu).1;simpa[tabF] using this
  have e:tabF[j]?=some (.int .u8 (firstT j)):=by simp[tabF,hj]
  rw[e]at hu;injection hu with hu;subst hu
  exact h.1 j hj
 ·intro j u hu
  rw[Addr.add_lit,Nat.zero_add]
  have hj:j<32:=by have:=(List.getElem?_eq_some_iff.1 hu).1;simpa[tabA] using this
  have e:tabA[j]?=some (.int .u8 (if j%2=0 then accLo (j / 2)else accHi (j / 2))):=by simp[tabA,hj]
  rw[e]at hu;injection hu with hu;subst hu
  have:=h.2 (j / 2) (by omega)
  by_cases he:j%2=0
  ·rw[if_pos he]
   have hj2:j=2*(j / 2):=by omega
   rw[hj2];simpa using this.1
  ·rw[if_neg he]
   have hj2:j=2*(j / 2)+1:=by omega
   have h3:(2*(j / 2)+1) / 2=j / 2:=by omega
   rw[hj2,h3];exact this.2
theorem Hall.tabs {w:World}{g3 g4 i j:Nat}(h:Lib.Utf8Tabs g3 g4 w):Hall w [(i,.el none g3 0 tabF),(j,.el none g4 0 tabA)]:=by
 obtain⟨h1,h2⟩:=tab_cells h
 exact⟨⟨rfl,rfl,h1,World.block_lt_of_cell? w _ (h1 0 (.int .u8 (firstT 0)) (by simp[tabF])),fun _ h=>h⟩,⟨rfl,rfl,h2,World.block_lt_of_cell? w _ (h2 0 (.int .u8 (accLo 0)) (by simp[tabA])),fun _ h=>h⟩,trivial⟩
end Go.A
end
section
namespace Go.Graph
abbrev Fun:=Int×Int×ByteArray
abbrev Nd:=Int×Int×List Int×Fun×ByteArray×Int×Int
abbrev Pl:=Int×Int
abbrev Sp:=Pl×Int
abbrev id (x:Nd):Int:=x.1
abbrev kind (x:Nd):Int:=x.2.1
abbrev fn (x:Nd):Fun:=x.2.2.2.1
abbrev name (x:Nd):ByteArray:=x.2.2.2.2.1
abbrev cap (x:Nd):Int:=x.2.2.2.2.2.1
abbrev dep (x:Nd):Int:=x.2.2.2.2.2.2
def Few (g:List Nd):Prop:=g.length≤40∧∀x,x∈g→x.2.2.1.length≤5000∧x.2.2.2.2.1.size≤5000∧x.2.2.2.1.2.2.size≤5000
theorem Few.in {g:List Nd}{k:Nat}{x:Nd}(h:Few g)(hx:g[k]?=some x):x.2.2.1.length≤5000:=(h.2 x (List.mem_of_getElem? hx)).1
def insK (k:Int):Int:=if k<1∨16<k then-1 else if k=1 then 0 else if k=5∨k=9 then 2 else 1
def letter (c:UInt8):Bool:=decide ((97:Int)≤(c.toNat:Int)∧(c.toNat:Int)≤122∨(65:Int)≤(c.toNat:Int)∧(c.toNat:Int)≤90)
def digit (c:UInt8):Bool:=decide ((48:Int)≤(c.toNat:Int)∧(c.toNat:Int)≤57)
def wordy (l:List UInt8):Bool:=l.all fun c=>letter c||digit c
def named (s:ByteArray):Bool:=decide (s≠ByteArray.mk #[])&&decide ((s.size:Int)≤16)&&letter (Z.bat s 0)&&wordy s.data.toList
theorem drop_bat {s:ByteArray}{i:Nat}(h:i<s.size):s.data.toList.drop i=Z.bat s i::s.data.toList.drop (i+1):=by
 have h':i<s.data.toList.length:=by simpa using h
 rw[List.drop_eq_getElem_cons h']
 have h2:i<s.data.size:=h
 congr 1
 simp[Z.bat,Array.getElem?_eq_getElem h2]
theorem drop_end {s:ByteArray}{i:Nat}(h: ¬i<s.size):s.data.toList.drop i=[]:=
 List.drop_eq_nil_of_le (by have h1:s.data.toList.length=s.size:=rfl;omega)
theorem size_pos {s:ByteArray}(h:s≠ByteArray.mk #[]):0<s.size:=by
 rcases Nat.eq_zero_or_pos s.size with h0|h0
 ·have h1:s.data=#[]:=Array.eq_empty_of_size_eq_zero h0
  exact absurd (by cases s;simp_all) h
 ·exact h0
def idxF (id:Int):Nat→List Nd→Int
 |_,[]=> -1
 |k,x::r=>if x.1=id then(k:Int)else idxF id (k+1) r
def idx (g:List Nd)(id:Int):Int:=idxF id 0 g
def namedF (kd:Int)(s:ByteArray):List Nd→Int×Bool
 | []=>(0,false)
 |x::r=>if kind x=kd∧name x=s then(x.1,true)else namedF kd s r
def z0:Nd:=(0,0,[],(0,0,ByteArray.mk #[]),ByteArray.mk #[],0,0)
def at_ (g:List Nd)(i:Int):Nd:=(g[i.toNat]?).getD z0
def find (g:List Nd)(id:Int):Nd×Bool:=if idx g id<0 then(z0,false)else(at_ g (idx g id),true)
theorem idxF_le (id:Int): ∀(k:Nat) (g:List Nd),-1≤idxF id k g∧idxF id k g<k+g.length
 |k,[]=>by simp[idxF];omega
 |k,x::r=>by
  unfold idxF
  have:=idxF_le id (k+1) r
  by_cases h:x.1=id
  ·rw[if_pos h];simp only[List.length_cons];omega
  ·rw[if_neg h];simp only[List.length_cons];omega
theorem idx_le (g:List Nd)(id:Int): -1≤idx g id∧idx g id<g.length:=by
 have:=idxF_le id 0 g
 unfold idx;omega
theorem at_some {g:List Nd}{i:Int}{x:Nd}{k:Nat}(hk:i=(k:Int))(h:g[k]?=some x):at_ g i=x:=by
 subst hk;simp[at_,h]
def ownT (g:List Nd)(n:Nd):Bool:=if n.2.1≠1∧n.2.1≠15 then decide (n.2.2.2.2.1=ByteArray.mk #[])else named n.2.2.2.2.1&&decide ((namedF n.2.1 n.2.2.2.2.1 g).1=n.1)
def ownC (n:Nd):Prop:=n.2.1=14∧(n.2.2.2.2.2.1<1∨8<n.2.2.2.2.2.1∨n.2.2.2.2.2.2<1∨4<n.2.2.2.2.2.2)∨n.2.1≠14∧(n.2.2.2.2.2.1≠0∨n.2.2.2.2.2.2≠0)
instance (n:Nd):Decidable (ownC n):=by unfold ownC;infer_instance
def own (g:List Nd)(i:Int)(n:Nd):Bool:=
 if n.1<1∨255<n.1∨0<i∧n.1≤(at_ g (i-1)).1∨insK n.2.1<0∨(n.2.2.1.length:Int)≠insK n.2.1 then false else if ownC n then false else ownT g n
def bget (l:List Bool)(i:Int):Bool:=(l[i.toNat]?).getD false
def iget (l:List Int)(i:Int):Int:=(l[i.toNat]?).getD 0
def Fed (g:List Nd):Prop:=∀x,x∈g→∀k,k∈x.2.2.1→0≤idx g k
def readyF (g:List Nd)(done:List Bool)(kd:Int):List Int→Bool
 | []=>true
 |k::r=>if kd≠14∧bget done (idx g k)=false then false else readyF g done kd r
def ready (g:List Nd)(done:List Bool)(n:Nd):Bool:=readyF g done n.2.1 n.2.2.1
def firstF (g:List Nd)(done:List Bool):Nat→List Nd→Int→Int
 |_,[],a=>a
 |i,x::r,a=>firstF g done (i+1) r (if(a<0∧bget done i=false)∧ready g done x=true then i else a)
def orderF (g:List Nd):Nat→List Bool→List Int→Option (List Int)
 |0,_,l=>some l
 |f+1,done,l=>if firstF g done 0 g (-1)<0 then none else orderF g f (done.set (firstF g done 0 g (-1)).toNat true) (l++[firstF g done 0 g (-1)])
def d0:List Int→Int
 | []=>0
 |a::_=>a
def capd (d:Int):Int:=if 4<d then-1 else d
def depthA (n:Nd)(l:List Int):Int:=if n.2.1=14 then n.2.2.2.2.2.2 else if n.2.1=12 then d0 l+1 else if n.2.1=13 then d0 l-1 else
 if n.2.1=5∨n.2.1=9 then(if iget l 0≠iget l 1 then-1 else d0 l)else if n.2.1=11∨n.2.1=16∨n.2.1=15 then(if d0 l≠0 then-1 else d0 l)else d0 l
def depthOf (n:Nd)(l:List Int):Int:=capd (depthA n l)
theorem d0_iget {l:List Int}:iget l 0=d0 l:=by cases l<;>rfl
theorem d0_nil {l:List Int}(h:l.length=0):0=d0 l:=by cases l with
 |nil=>rfl
 |cons a r=>simp at h
def depthsF (g:List Nd):List Int→List Int→Option (List Int)
 | [],d=>some d
 |p::r,d=>if depthOf (at_ g p) ((at_ g p).2.2.1.map fun k=>iget d (idx g k))<0 then none else depthsF g r (d.set p.toNat (depthOf (at_ g p) ((at_ g p).2.2.1.map fun k=>iget d (idx g k))))
def loopsF (g:List Nd)(d:List Int):List Nd→Bool
 | []=>true
 |x::r=>if x.2.1=14∧iget d (idx g (iget x.2.2.1 0))≠x.2.2.2.2.2.2 then false else loopsF g d r
theorem firstF_le (g:List Nd)(done:List Bool): ∀(i:Nat) (l:List Nd) (a:Int),-1≤a→a<i+l.length→ -1≤firstF g done i l a∧firstF g done i l a<i+l.length
 |i,[],a,h1,h2=>by simp[firstF]at*;omega
 |i,x::r,a,h1,h2=>by
  unfold firstF
  simp only[List.length_cons]at h2 ⊢
  have:=firstF_le g done (i+1) r (if(a<0∧bget done i=false)∧ready g done x=true then i else a) (by split<;>omega) (by split<;>omega)
  omega
def depths (g:List Nd)(l:List Int):List Int×Bool:=match depthsF g l (List.replicate g.length 0)with
 |some d=>if loopsF g d g then(d,true)else([],false)
 |none=>([],false)
abbrev inD (g:List Nd) (d:List Int) (l:List Int):List Int:=l.map fun k=>iget d (idx g k)
def InB (d:List Int):Prop:=∀i,0≤iget d i∧iget d i≤4
theorem InB.rep (n:Nat):InB (List.replicate n 0):=fun i=>by
 unfold iget;rw[List.getElem?_replicate];split<;>simp
theorem depthOf_le (n:Nd)(l:List Int):depthOf n l≤4:=by unfold depthOf capd;split<;>omega
theorem InB.set {d:List Int}(h:InB d)(p:Nat){v:Int}(h0:0≤v)(h1:v≤4):InB (d.set p v):=fun i=>by
 unfold iget;rw[List.getElem?_set]
 have:=h i
 unfold iget at this
 split
 ·split<;>simp<;>omega
 ·exact this
theorem InB.d0 {d:List Int}(h:InB d)(g:List Nd)(l:List Int): -1≤Graph.d0 (inD g d l)∧Graph.d0 (inD g d l)≤4:=by
 cases l with
 |nil=>simp[Graph.d0]
 |cons k r=>have:=h (idx g k);simp only[inD,List.map_cons,Graph.d0];omega
theorem inD_take {g:List Nd}{d l:List Int}{k:Nat}{x:Int}(h:l[k]?=some x):inD g d (l.take k)++[iget d (idx g x)]=inD g d (l.take (k+1)):=by
 have h1:=(List.getElem?_eq_some_iff.1 h)
 rw[List.take_add_one,h];simp[inD]
def insS (g:List Nd)(d:List Int)(id:Int):Nat→List Int→List Sp
 |_,[]=>[]
 |k,x::r=>((id,(k:Int)),iget d (idx g x))::insS g d id (k+1) r
def outS (n:Nd)(v:Int):List Sp:=if n.2.1≠15 then [((n.1,2),v)]else []
def spotsF (g:List Nd)(d:List Int):Nat→List Nd→List Sp
 |_,[]=>[]
 |i,n::r=>insS g d n.1 0 n.2.2.1++(outS n (iget d i)++spotsF g d (i+1) r)
def spots (g:List Nd)(d:List Int):List Sp:=spotsF g d 0 g
def atS (p:Pl):List Sp→Int
 | []=> -1
 |x::r=>if x.1=p then x.2 else atS p r
abbrev Sm:=Int×Int×Int×Int×(Int×Int×Int×Int)
def z8:Sm:=(0,0,0,0,(0,0,0,0))
def stepP (d a b:Int)(s:Sm):Sm×Int:=if d<a∨b<d then(z8,11)else((d,s.2),0)
def idP (d:Int):Sm×Int:=stepP d 0 4 (0,d,0,0,(0,0,0,0))
def enterP (d:Int):Sm×Int:=stepP d 0 3 (0,d,0,1,(0,0,0,0))
def leaveP (d:Int):Sm×Int:=stepP d 1 4 (0,d-1,0,0,(0,0,0,0))
def nextP (d:Int):Sm×Int:=stepP d 1 4 (0,d,1,0,(0,0,0,0))
def withinP (n:Nd)(d:Int):Sm:=if n.2.1=12 then(enterP d).1 else if n.2.1=13 then(leaveP d).1 else if n.2.1=14 then(nextP d).1 else(idP d).1
theorem width_pos (s:ByteArray)(pos:Nat):1≤(Utf8.decode s pos).2:=by
 unfold Utf8.decode;simp only[];repeat' split
 all_goals first|exact Nat.le_refl 1|(simp;done)|omega
def numberF (f:Fun):Bool:=if f.1=3∨f.1=13 then decide (0≤f.2.1∧f.2.1≤64)else if f.1=6∨f.1=11 then decide (1≤f.2.1∧f.2.1≤1048576)else decide (f.2.1=0)
def tail5 (c:UInt8):Bool:=decide (128≤(c.toNat:Int)∧(c.toNat:Int)≤191)
end Go.Graph
end
section
set_option linter.unusedVariables false
set_option linter.unusedSimpArgs false
namespace Go.A
open Go.Z
theorem r64n {n:Nat}(h:n<4611686018427387904):R64 ((n:Int)+1):=⟨by omega,by omega⟩
theorem gd1 {α:Type}{p:Prop}[Decidable p](h:p)(x:Option α):gd p x=x:=if_pos h
theorem ixn {α:Type}{xs:List α}{k:Nat}{x:α}(h:xs[k]?=some x):ix xs (k:Int)=some x:=by rw[ix_nat];exact h
theorem ixg {α:Type}{xs:List α}{i:Int}{x:α}(h0:0≤i)(h:xs[i.toNat]?=some x):ix xs i=some x:=by unfold ix;rw[if_neg (by omega)];exact h
theorem dropx {α:Type}{xs:List α}{k:Nat}{x:α}(h:xs[k]?=some x):xs.drop k=x::xs.drop (k+1):=by
 obtain⟨h1,h2⟩:=List.getElem?_eq_some_iff.1 h
 rw[List.drop_eq_getElem_cons h1,h2]
theorem ba {p q:Prop}[Decidable p][Decidable q]:(bif decide p then decide q else false)=decide (p∧q):=by by_cases h:p<;>simp[h]
theorem bo {p q:Prop}[Decidable p][Decidable q]:(bif decide p then true else decide q)=decide (p∨q):=by by_cases h:p<;>simp[h]
theorem bn {p:Prop}[Decidable p]:(!decide p)=decide (¬p):=by by_cases h:p<;>simp[h]
theorem lp {α σ ρ:Type}(xs:List α)(L:Nat→σ→Int→Option ρ)(G:Nat→List α→σ→Option ρ)(P:Nat→σ→Prop)
  (h0: ∀f s,P xs.length s→L (f+1) s (xs.length:Int)=G xs.length [] s)
  (h1: ∀f s (k:Nat) x,xs[k]?=some x→k<xs.length→P k s→(∀s',P (k+1) s'→L f s' ((k:Int)+1)=G (k+1) (xs.drop (k+1)) s')→L (f+1) s k=G k (x::xs.drop (k+1)) s)
  (hl:xs.length<FU) (s:σ) (hs:P 0 s):L FU s 0=G 0 xs s:=by
 have main: ∀(n k f:Nat) (s:σ),k+n=xs.length→n<f→P k s→L f s (k:Int)=G k (xs.drop k) s:=by
  intro n
  induction n with
  |zero=>
   intro k f s hk hf hp
   obtain⟨f,rfl⟩: ∃f',f=f'+1:=⟨f-1,by omega⟩
   obtain rfl:k=xs.length:=by omega
   rw[List.drop_eq_nil_of_le (Nat.le_refl _)];exact h0 f s hp
  |succ n ih=>
   intro k f s hk hf hp
   obtain⟨f,rfl⟩: ∃f',f=f'+1:=⟨f-1,by omega⟩
   have hx:xs[k]?=some xs[k]:=List.getElem?_eq_getElem (by omega)
   rw[dropx hx]
   exact h1 f s k _ hx (by omega) hp fun s' hp'=>ih (k+1) f s' (by omega) (by omega) hp'
 have:=main xs.length 0 FU s (by omega) hl hs
 simpa using this
theorem lp0 {α ρ:Type}(xs:List α)(L:Nat→Int→Option ρ)(G:Nat→List α→Option ρ)
  (h0: ∀f,L (f+1) (xs.length:Int)=G xs.length [])
  (h1: ∀f (k:Nat) x,xs[k]?=some x→k<xs.length→L f ((k:Int)+1)=G (k+1) (xs.drop (k+1))→L (f+1) k=G k (x::xs.drop (k+1)))
  (hl:xs.length<FU):L FU 0=G 0 xs:=
 lp xs (fun f (_:Unit) y=>L f y) (fun k l _=>G k l) (fun _ _=>True) (fun f s _=>h0 f) (fun f s k x hx hk _ ih=>h1 f k x hx hk (ih () trivial)) hl () trivial
end Go.A
namespace Go.Proofs.YtfdfcaiiengdfaaGreatDoor
open Go.RowKit Go.Graph
theorem FU_big:(1000000000000:Nat)<A.FU:=by decide
theorem Ins_eq (k:Int):F.dJ k=F.dv k:=rfl
theorem R08_Ins_eq (k:Int):F.dv k=some (insK k):=by
 unfold F.dv insK
 simp only[Bool.cond_decide]
 by_cases h1:k<1<;>by_cases h2:16<k<;>simp[h1,h2]
 by_cases h3:k=1
 ·simp[h3]
 ·by_cases h4:k=5<;>by_cases h5:k=9<;>simp[h3,h4,h5]
theorem ixb {s:ByteArray}{k:Nat}(h:k<s.size):A.ix s.data.toList (k:Int)=some (Z.bat s k):=by
 refine A.ixn ?_
 have:=drop_bat h
 rw[←List.head?_drop,this];rfl
theorem size_list (s:ByteArray):s.data.toList.length=s.size:=rfl
theorem letter_eq (c:UInt8):F.dw c=some (letter c):=by
 unfold F.dw letter
 by_cases h1:(97:Int)≤(c.toNat:Int)<;>by_cases h2:(c.toNat:Int)≤122<;>simp[h1,h2]
theorem digit_eq (c:UInt8):F.ek c=some (digit c):=by
 unfold F.ek digit
 by_cases h1:(48:Int)≤(c.toNat:Int)<;>by_cases h2:(c.toNat:Int)≤57<;>simp[h1,h2]
theorem name_eq (s:ByteArray)(hs:s.size≤5000):F.ex s=some (named s):=by
 have loop:F.a6 s A.FU 0=some (wordy s.data.toList):=A.lp0 s.data.toList (fun f y=>F.a6 s f y) (fun _ l=>some (wordy l))
  (fun f=>by rw[F.a6,if_neg (by rw[size_list];omega)];rfl)
  (fun f k x hx hk ih=>by
   have hk':k<s.size:=hk
   rw[F.a6,if_pos (by omega),A.ixn hx,Option.bind_some,letter_eq,Option.bind_some]
   cases hl:letter x with
   |true=>
    simp only[Bool.not_true,Bool.false_eq_true,if_false,F.c0]
    rw[A.gd1 (A.r64n (by omega)),ih];simp[wordy,hl]
   |false=>
    simp only[Bool.not_false,if_true,A.ixn hx,Option.bind_some,digit_eq,F.c0]
    cases hd:digit x with
    |true=>simp only[Bool.not_true,Bool.false_eq_true,if_false];rw[A.gd1 (A.r64n (by omega)),ih];simp[wordy,hl,hd]
    |false=>simp[wordy,hl,hd])
  (by rw[size_list];have:=FU_big;omega)
 unfold F.ex named
 by_cases h1:s=ByteArray.mk #[]
 ·simp[h1,F.cm]
 ·by_cases h2:(16:Int)<(s.size:Int)
  ·have h2': ¬(s.size:Int)≤16:=by omega
   simp[h1,h2,h2',F.cm]
  ·have h2':(s.size:Int)≤16:=by omega
   have h0:=size_pos h1
   have e0:A.ix s.data.toList 0=some (Z.bat s 0):=ixb h0
   simp only[h1,h2,h2',decide_false,cond_false,Bool.false_eq_true,if_false,e0,Option.bind_some,letter_eq,F.cm,loop,decide_true,ne_eq,not_false_eq_true,Bool.and_true,Bool.true_and]
   cases letter (Z.bat s 0)<;>simp
end Go.Proofs.YtfdfcaiiengdfaaGreatDoor
end
section
set_option linter.unusedVariables false
set_option linter.unusedSimpArgs false
set_option synthInstance.maxSize 1000000
set_option synthInstance.maxHeartbeats 400000
namespace Go.Proofs.YtfdfcaiiengdfaaGreatDoor
open Go.RowKit Go.Graph
theorem bat_get (s:ByteArray)(i:Nat):(s.get! i)=Z.bat s i:=by
 cases s;simp[ByteArray.get!,Z.bat,getElem!_def,Option.getD]
 rfl
theorem dec_at (s:ByteArray)(i:Nat):Utf8.decode s i=Lib.decodeN (s.size-i) (Z.bat s i).toNat (Z.bat s (i+1)).toNat (Z.bat s (i+2)).toNat (Z.bat s (i+3)).toNat:=by
 rw[Lib.decode_at,bat_get,bat_get,bat_get,bat_get]
theorem dec_lt {s:ByteArray}{i:Nat}(h:(Z.bat s i).toNat <128):Utf8.decode s i=((Z.bat s i).toNat,1):=by
 rw[dec_at];unfold Lib.decodeN;rw[if_pos h]
theorem dec_ge {s:ByteArray}{i:Nat}(h:128≤(Z.bat s i).toNat):128≤(Utf8.decode s i).1:=by
 rw[dec_at];unfold Lib.decodeN;rw[if_neg (by omega)]
 repeat' split
 all_goals first|(simp only[];omega)|decide
theorem named_eq (s:ByteArray)(hs:s.size≤5000):F.bT s=some (named s):=by
 have loop: ∀(n p f:Nat),s.size-p≤n→n<f→F.ar s f p=some ((if p=0∧0<s.size then letter (Z.bat s 0)else true)&&wordy (s.data.toList.drop p)&&(decide (s≠ByteArray.mk #[])&&decide ((s.size:Int)≤16))):=by
  intro n
  induction n with
  |zero=>
   intro p f hp hf
   obtain⟨f,rfl⟩: ∃f',f=f'+1:=⟨f-1,by omega⟩
   rw[F.ar,if_neg (by omega),drop_end (by omega),if_neg (by omega)]
   by_cases h1:s=ByteArray.mk #[]<;>simp[h1,wordy]
  |succ n ih=>
   intro p f hp hf
   obtain⟨f,rfl⟩: ∃f',f=f'+1:=⟨f-1,by omega⟩
   by_cases hp2:p<s.size
   ·rw[F.ar,if_pos hp2,drop_bat hp2]
    rcases Nat.lt_or_ge (Z.bat s p).toNat 128 with hc|hc
    ·rw[dec_lt hc]
     have ih1:=ih (p+1) f (by omega) (by omega)
     rw[if_neg (fun h=>by omega)]at ih1
     simp only[ih1]
     have e1:(bif decide ((97:Int)≤((Z.bat s p).toNat:Int))then decide (((Z.bat s p).toNat:Int)≤122)else false)=decide ((97:Int)≤((Z.bat s p).toNat:Int)∧((Z.bat s p).toNat:Int)≤122):=by by_cases h:(97:Int)≤((Z.bat s p).toNat:Int)<;>simp[h]
     have e2:(bif decide ((65:Int)≤((Z.bat s p).toNat:Int))then decide (((Z.bat s p).toNat:Int)≤90)else false)=decide ((65:Int)≤((Z.bat s p).toNat:Int)∧((Z.bat s p).toNat:Int)≤90):=by by_cases h:(65:Int)≤((Z.bat s p).toNat:Int)<;>simp[h]
     rw[e1,e2]
     by_cases hL:letter (Z.bat s p)=true
     ·have hL':=hL
      simp only[letter,decide_eq_true_eq]at hL'
      have e3:(if p=0∧0<s.size then letter (Z.bat s 0)else true)=true:=by split;rename_i h;rw[←h.1];exact hL;rfl
      rw[e3]
      simp only[wordy,List.all_cons,hL,Bool.true_or,Bool.true_and]
      by_cases h1:(97:Int)≤((Z.bat s p).toNat:Int)∧((Z.bat s p).toNat:Int)≤122
      ·simp[h1]
      ·have h2:=hL'.resolve_left h1
       simp[h1,h2]
     ·have hL':=hL
      simp only[letter,decide_eq_true_eq,not_or]at hL'
      rw[Bool.not_eq_true]at hL
      simp only[hL'.1,hL'.2,decide_false,Bool.false_eq_true,if_false,Bool.not_false,if_true]
      simp only[wordy,List.all_cons,hL,Bool.false_or]
      by_cases h0:p=0
      ·subst h0;simp[hp2,hL]
      ·have h0': ¬(p:Int)=0:=by omega
       simp only[h0,h0',decide_false,cond_false,false_and,if_false,Bool.true_and]
       by_cases hd:digit (Z.bat s p)=true
       ·have hd':=hd
        simp only[digit,decide_eq_true_eq]at hd'
        have a1: ¬((Z.bat s p).toNat:Int)<48:=by omega
        have a2: ¬(57:Int)<((Z.bat s p).toNat:Int):=by omega
        simp[a1,a2,hd]
       ·have hd':=hd
        simp only[digit,decide_eq_true_eq]at hd'
        rw[Bool.not_eq_true]at hd
        by_cases a1:((Z.bat s p).toNat:Int)<48
        ·simp[a1,hd]
        ·have a2:(57:Int)<((Z.bat s p).toNat:Int):=by omega
         simp[a1,a2,hd]
    ·have hd:=dec_ge hc
     have hL:letter (Z.bat s p)=false:=by unfold letter;rw[decide_eq_false_iff_not];omega
     have hD:digit (Z.bat s p)=false:=by unfold digit;rw[decide_eq_false_iff_not];omega
     have b1: ¬((Utf8.decode s p).1:Int)≤122:=by omega
     have b2: ¬((Utf8.decode s p).1:Int)≤90:=by omega
     have b3:(57:Int)<((Utf8.decode s p).1:Int):=by omega
     have b4: ¬((Utf8.decode s p).1:Int)<48:=by omega
     simp[b1,b2,b3,b4,wordy,hL,hD]
   ·rw[F.ar,if_neg hp2,drop_end hp2,if_neg (by omega)]
    by_cases h1:s=ByteArray.mk #[]<;>simp[h1,wordy]
 unfold F.bT
 rw[loop s.size 0 A.FU (by omega) (by have:=FU_big;omega)]
 unfold named
 by_cases h1:s=ByteArray.mk #[]
 ·simp[h1]
 ·have h0:=size_pos h1
  simp only[h0,and_self,if_true,List.drop_zero,ne_eq,h1,not_false_eq_true,decide_true,Bool.true_and]
  congr 1
  cases letter (Z.bat s 0)<;>cases wordy s.data.toList<;>simp
end Go.Proofs.YtfdfcaiiengdfaaGreatDoor
end
section
set_option maxRecDepth 20000
set_option linter.unusedVariables false
set_option linter.unusedSimpArgs false
namespace Go.Proofs.YtfdfcaiiengdfaaGreatDoor
open Go.RowKit Go.Graph
theorem tail_eq (c:UInt8):F.cn c=some (tail5 c):=by
 unfold F.cn tail5
 by_cases h1:(128:Int)≤(c.toNat:Int)<;>by_cases h2:(c.toNat:Int)≤191<;>simp[h1,h2]
theorem ixk (s:ByteArray)(p k:Nat):A.ix s.data.toList ((p:Int)+(k:Int))=if p+k<s.size then some (Z.bat s (p+k))else none:=by
 have e:(p:Int)+(k:Int)=((p+k:Nat):Int):=by omega
 rw[e]
 by_cases h:p+k<s.size
 ·rw[if_pos h];exact ixb h
 ·rw[if_neg h,A.ix_nat];exact List.getElem?_eq_none (by rw[size_list];omega)
def wid (s:ByteArray)(p:Nat):Nat:=if Utf8.decode s p=(65533,1)then 0 else(Utf8.decode s p).2
theorem wid_le {s:ByteArray}{p:Nat}(h:p<s.size):p+wid s p≤s.size:=by
 unfold wid
 split
 ·omega
 ·rw[dec_at]
  unfold Lib.decodeN
  repeat' split
  all_goals simp only[]
  all_goals omega
def widN (n a b c d:Nat):Nat:=
 if a<128 then 1
 else if(194≤a∧a≤223)∧2≤n∧(128≤b∧b≤191)then 2
 else if(224≤a∧a≤239)∧3≤n∧(128≤b∧b≤191)∧(128≤c∧c≤191)∧¬(a=224∧b<160)∧¬(a=237∧159<b)then 3
 else if(240≤a∧a≤244)∧4≤n∧(128≤b∧b≤191)∧(128≤c∧c≤191)∧(128≤d∧d≤191)∧¬(a=240∧b<144)∧¬(a=244∧143<b)then 4
 else 0
theorem pq (c:Prop)[Decidable c](x w:Nat)(hw:w≠1):(if(if c then(x,w)else(65533,1))=(65533,1)then 0 else(if c then(x,w)else(65533,1)).2)=if c then w else 0:=by
 by_cases h:c<;>simp[h,hw]
theorem widN_eq (n a b c d:Nat)(ha:a<256)(hb:b<256)(hc:c<256)(hd:d<256):(if Lib.decodeN n a b c d=(65533,1)then 0 else(Lib.decodeN n a b c d).2)=widN n a b c d:=by
 unfold Lib.decodeN widN
 by_cases h0:a<128
 ·simp only[h0,if_true,Prod.mk.injEq];rw[if_neg (by omega)]
 ·simp only[h0,if_false]
  by_cases h1:a / 32=6∧1<n∧b / 64=2
  ·simp only[if_pos h1]
   rw[pq _ _ _ (by decide)]
   repeat' split
   all_goals omega
  ·simp only[if_neg h1]
   by_cases h3:a / 16=14∧(1<n∧b / 64=2)∧2<n∧c / 64=2
   ·simp only[if_pos h3]
    rw[pq _ _ _ (by decide)]
    repeat' split
    all_goals omega
   ·simp only[if_neg h3]
    by_cases h5:a / 8=30∧(1<n∧b / 64=2)∧(2<n∧c / 64=2)∧3<n∧d / 64=2
    ·simp only[if_pos h5]
     rw[pq _ _ _ (by decide)]
     repeat' split
     all_goals omega
    ·simp only[if_neg h5,if_true]
     repeat' split
     all_goals omega
theorem wid_N (s:ByteArray)(p:Nat):wid s p=widN (s.size-p) (Z.bat s p).toNat (Z.bat s (p+1)).toNat (Z.bat s (p+2)).toNat (Z.bat s (p+3)).toNat:=by
 rw[←widN_eq _ _ _ _ _ (UInt8.toNat_lt _) (UInt8.toNat_lt _) (UInt8.toNat_lt _) (UInt8.toNat_lt _),←dec_at];rfl
theorem cnd {α:Type}{p:Prop}[Decidable p](x y:α):(bif decide p then x else y)=if p then x else y:=by by_cases h:p<;>simp[h]
set_option maxHeartbeats 4000000 in
theorem width_eq (s:ByteArray)(p:Nat)(hp:p<s.size)(hs:s.size≤5000):F.dO s p=some (wid s p:Int):=by
 have i1:A.ix s.data.toList ((p:Int)+1)=if p+1<s.size then some (Z.bat s (p+1))else none:=ixk s p 1
 have i2:A.ix s.data.toList ((p:Int)+2)=if p+2<s.size then some (Z.bat s (p+2))else none:=ixk s p 2
 have i3:A.ix s.data.toList ((p:Int)+3)=if p+3<s.size then some (Z.bat s (p+3))else none:=ixk s p 3
 have r1:Z.R64 ((p:Int)+1):=⟨by omega,by omega⟩
 have r2:Z.R64 ((p:Int)+2):=⟨by omega,by omega⟩
 have r3:Z.R64 ((p:Int)+3):=⟨by omega,by omega⟩
 unfold F.dO
 rw[A.gd1 ⟨by omega,by omega⟩,ixb hp,Option.bind_some,A.gd1 r1,i1,wid_N]
 generalize Z.bat s p=c0 at*
 generalize Z.bat s (p+1)=c1 at*
 generalize Z.bat s (p+2)=c2 at*
 generalize Z.bat s (p+3)=c3 at*
 have t (c:UInt8):tail5 c=decide (128≤c.toNat∧c.toNat≤191):=by unfold tail5;congr 1;exact propext ⟨fun h=>by omega,fun h=>by omega⟩
 by_cases h1:(1:Int)<(s.size:Int)-(p:Int)
 ·rw[if_pos h1,if_pos (by omega),Option.bind_some]
  simp only[F.cA,F.cz,F.b4,F.bH,tail_eq,Option.bind_some,t,A.gd1 r2,A.gd1 r3,i2,i3]
  unfold widN
  generalize hn:s.size-p=n
  have e2:((2:Int)≤(s.size:Int)-(p:Int))=(2≤n):=propext ⟨fun h=>by omega,fun h=>by omega⟩
  have e3:((3:Int)≤(s.size:Int)-(p:Int))=(3≤n):=propext ⟨fun h=>by omega,fun h=>by omega⟩
  have e4:((4:Int)≤(s.size:Int)-(p:Int))=(4≤n):=propext ⟨fun h=>by omega,fun h=>by omega⟩
  have f2:(p+2<s.size)=(3≤n):=propext ⟨fun h=>by omega,fun h=>by omega⟩
  have f3:(p+3<s.size)=(4≤n):=propext ⟨fun h=>by omega,fun h=>by omega⟩
  have hn2:2≤n:=by omega
  simp only[e2,e3,e4,f2,f3,A.ba,decide_eq_true_eq,hn2,and_true,true_and]
  have q0:((c0.toNat:Int)<128)=(c0.toNat<128):=propext ⟨fun h=>by omega,fun h=>by omega⟩
  have q1:((194:Int)≤(c0.toNat:Int)∧(c0.toNat:Int)≤223)=(194≤c0.toNat∧c0.toNat≤223):=propext ⟨fun h=>by omega,fun h=>by omega⟩
  have q2:((224:Int)≤(c0.toNat:Int)∧(c0.toNat:Int)≤239)=(224≤c0.toNat∧c0.toNat≤239):=propext ⟨fun h=>by omega,fun h=>by omega⟩
  have q3:((240:Int)≤(c0.toNat:Int)∧(c0.toNat:Int)≤244)=(240≤c0.toNat∧c0.toNat≤244):=propext ⟨fun h=>by omega,fun h=>by omega⟩
  have q4:((c0.toNat:Int)=224∧(c1.toNat:Int)<160)=(c0.toNat=224∧c1.toNat<160):=propext ⟨fun h=>by omega,fun h=>by omega⟩
  have q5:((c0.toNat:Int)=237∧(159:Int)<(c1.toNat:Int))=(c0.toNat=237∧159<c1.toNat):=propext ⟨fun h=>by omega,fun h=>by omega⟩
  have q6:((c0.toNat:Int)=240∧(c1.toNat:Int)<144)=(c0.toNat=240∧c1.toNat<144):=propext ⟨fun h=>by omega,fun h=>by omega⟩
  have q7:((c0.toNat:Int)=244∧(143:Int)<(c1.toNat:Int))=(c0.toNat=244∧143<c1.toNat):=propext ⟨fun h=>by omega,fun h=>by omega⟩
  simp only[q0,q1,q2,q3,q4,q5,q6,q7]
  have x1:240≤c0.toNat∧c0.toNat≤244→¬(224≤c0.toNat∧c0.toNat≤239):=fun h h2=>by omega
  have x2:240≤c0.toNat∧c0.toNat≤244→¬(194≤c0.toNat∧c0.toNat≤223):=fun h h2=>by omega
  have x3:224≤c0.toNat∧c0.toNat≤239→¬(194≤c0.toNat∧c0.toNat≤223):=fun h h2=>by omega
  by_cases K0:c0.toNat<128
  ·simp[K0]
  by_cases m1:128≤c1.toNat∧c1.toNat≤191
  ·by_cases K1:194≤c0.toNat∧c0.toNat≤223
   ·simp only[if_neg K0,if_pos K1,if_pos m1,K1,m1,and_self,if_true];rfl
   ·by_cases K2:224≤c0.toNat∧c0.toNat≤239
    ·have K3: ¬(240≤c0.toNat∧c0.toNat≤244):=fun h=>x1 h K2
     by_cases k3:3≤n
     ·by_cases m2:128≤c2.toNat∧c2.toNat≤191
      ·by_cases y1:c0.toNat=224∧c1.toNat<160
       ·simp only[if_neg K0,if_neg K1,if_pos (And.intro K2 k3),if_pos m1,if_pos k3,Option.bind_some,if_pos m2,eq_true y1,if_true,false_and,K1,K3,eq_true y1,not_true_eq_false,and_false,if_false];rfl
       ·by_cases y2:c0.toNat=237∧159<c1.toNat
        ·simp only[if_neg K0,if_neg K1,if_pos (And.intro K2 k3),if_pos m1,if_pos k3,Option.bind_some,if_pos m2,if_neg y1,eq_true y2,if_true,false_and,K1,K3,eq_true y2,not_true_eq_false,and_false,if_false];rfl
        ·simp only[if_neg K0,if_neg K1,if_pos (And.intro K2 k3),if_pos m1,if_pos k3,Option.bind_some,if_pos m2,if_neg y1,if_neg y2,false_and,K1,K2,k3,m1,m2,y1,y2,not_false_eq_true,and_self,if_true,if_false];rfl
      ·simp only[if_neg K0,if_neg K1,if_pos (And.intro K2 k3),if_pos m1,if_pos k3,Option.bind_some,if_neg m2,if_neg K3,false_and,K1,K3,m2,and_false,if_false,Bool.false_eq_true];rfl
     ·simp only[if_neg K0,if_neg K1,k3,and_false,if_neg K3,false_and,K1,K3,if_false];rfl
    ·by_cases K3:240≤c0.toNat∧c0.toNat≤244
     ·by_cases k4:4≤n
      ·have k3:3≤n:=by omega
       by_cases m2:128≤c2.toNat∧c2.toNat≤191
       ·by_cases m3:128≤c3.toNat∧c3.toNat≤191
        ·by_cases y1:c0.toNat=240∧c1.toNat<144
         ·simp only[if_neg K0,if_neg K1,if_neg K2,K2,false_and,if_pos (And.intro K3 k4),if_pos m1,if_pos k3,if_pos k4,Option.bind_some,if_pos m2,if_pos m3,eq_true y1,if_true,K1,eq_true y1,not_true_eq_false,and_false,if_false];rfl
         ·by_cases y2:c0.toNat=244∧143<c1.toNat
          ·simp only[if_neg K0,if_neg K1,if_neg K2,K2,false_and,if_pos (And.intro K3 k4),if_pos m1,if_pos k3,if_pos k4,Option.bind_some,if_pos m2,if_pos m3,if_neg y1,eq_true y2,if_true,K1,eq_true y2,not_true_eq_false,and_false,if_false];rfl
          ·simp only[if_neg K0,if_neg K1,if_neg K2,K2,false_and,if_pos (And.intro K3 k4),if_pos m1,if_pos k3,if_pos k4,Option.bind_some,if_pos m2,if_pos m3,if_neg y1,if_neg y2,K1,K3,k4,m1,m2,m3,y1,y2,not_false_eq_true,and_self,if_true,if_false];rfl
        ·simp only[if_neg K0,if_neg K1,if_neg K2,K2,false_and,if_pos (And.intro K3 k4),if_pos m1,if_pos k3,if_pos k4,Option.bind_some,if_pos m2,if_neg m3,K1,m3,and_false,if_false,Bool.false_eq_true];rfl
       ·simp only[if_neg K0,if_neg K1,if_neg K2,K2,false_and,if_pos (And.intro K3 k4),if_pos m1,if_pos k3,Option.bind_some,if_neg m2,K1,m2,and_false,if_false,Bool.false_eq_true];rfl
      ·simp only[if_neg K0,if_neg K1,if_neg K2,K2,false_and,k4,and_false,K1,if_false];rfl
     ·simp only[if_neg K0,if_neg K1,if_neg K2,if_neg K3,K1,K2,K3,false_and,if_false];rfl
  ·simp[K0,m1]
 ·rw[if_neg h1]
  simp only[F.cA,F.cz,F.b4,F.bH,A.ba,decide_eq_true_eq]
  unfold widN
  have w0:(c0.toNat:Int)<128↔c0.toNat<128:=⟨fun h=>by omega,fun h=>by omega⟩
  by_cases h2:c0.toNat<128
  ·rw[if_pos (w0.2 h2),if_pos h2];rfl
  ·have a1: ¬((194≤c0.toNat∧c0.toNat≤223)∧2≤s.size-p∧128≤c1.toNat∧c1.toNat≤191):=fun h=>by omega
   have a2: ¬((224≤c0.toNat∧c0.toNat≤239)∧3≤s.size-p∧(128≤c1.toNat∧c1.toNat≤191)∧(128≤c2.toNat∧c2.toNat≤191)∧¬(c0.toNat=224∧c1.toNat<160)∧¬(c0.toNat=237∧159<c1.toNat)):=fun h=>by omega
   have a3: ¬((240≤c0.toNat∧c0.toNat≤244)∧4≤s.size-p∧(128≤c1.toNat∧c1.toNat≤191)∧(128≤c2.toNat∧c2.toNat≤191)∧(128≤c3.toNat∧c3.toNat≤191)∧¬(c0.toNat=240∧c1.toNat<144)∧¬(c0.toNat=244∧143<c1.toNat)):=fun h=>by omega
   rw[if_neg (fun h=>h2 (w0.1 h)),if_neg h2,if_neg a1,if_neg a2,if_neg a3]
   simp only[Bool.false_eq_true,if_false]
   rw[if_neg (fun h=>by omega),if_neg (fun h=>by omega),if_neg (fun h=>by omega)];rfl
def vld (s:ByteArray):Nat→Nat→Bool
 |0,_=>true
 |n+1,p=>if p<s.size then(if wid s p=0 then false else vld s n (p+wid s p))else true
def cnt (s:ByteArray):Nat→Nat→Nat
 |0,_=>0
 |n+1,p=>if p<s.size then 1+cnt s n (p+(Utf8.decode s p).2)else 0
theorem wid_4 (s:ByteArray)(p:Nat):wid s p≤4:=by
 rw[wid_N];unfold widN;repeat' split
 all_goals omega
theorem wid_dec {s:ByteArray}{p:Nat}(h:wid s p≠0):(Utf8.decode s p).2=wid s p:=by
 unfold wid at h ⊢;split at h
 ·exact absurd rfl h
 ·rename_i h2;rw[if_neg h2]
theorem Valid_eq (s:ByteArray)(hs:s.size≤5000):F.el s=some (vld s s.size 0):=by
 have loop: ∀(n p f:Nat),s.size-p≤n→n<f→p≤5010→F.b5 s f (p:Int)=some (vld s n p):=by
  intro n
  induction n with
  |zero=>
   intro p f hp hf _
   obtain⟨f,rfl⟩: ∃f',f=f'+1:=⟨f-1,by omega⟩
   rw[F.b5,if_neg (by omega)];rfl
  |succ n ih=>
   intro p f hp hf hp5
   obtain⟨f,rfl⟩: ∃f',f=f'+1:=⟨f-1,by omega⟩
   rw[F.b5,vld]
   by_cases h:p<s.size
   ·rw[if_pos (by omega),if_pos h,width_eq s p h hs,Option.bind_some]
    have:=wid_le h
    by_cases hw:wid s p=0
    ·rw[if_pos (by omega),if_pos hw]
    ·rw[if_neg (by omega),if_neg hw,A.gd1 ⟨by omega,by omega⟩]
     have e:(p:Int)+(wid s p:Int)=((p+wid s p:Nat):Int):=by omega
     rw[e];exact ih _ f (by omega) (by omega) (by omega)
   ·rw[if_neg (by omega),if_neg h]
 exact loop s.size 0 A.FU (by omega) (by have:=FU_big;omega) (by omega)
theorem validD_eq (s:ByteArray):Lib.validD s.data.toList=vld s s.size 0:=by
 have loop: ∀(n p:Nat),Lib.validGoD n (s.data.toList.drop p)=vld s n p:=by
  intro n
  induction n with
  |zero=>intro p;rfl
  |succ n ih=>
   intro p
   rw[Lib.validGoD,vld]
   by_cases h:p<s.size
   ·have hne:s.data.toList.drop p≠[]:=by rw[drop_bat h];simp
    rw[if_neg hne,if_pos h,Lib.decodeL_drop,List.drop_drop]
    by_cases hw:Utf8.decode s p=(65533,1)
    ·rw[if_pos (by rw[hw];exact⟨rfl,rfl⟩),if_pos (by unfold wid;rw[if_pos hw])]
    ·have e:wid s p=(Utf8.decode s p).2:=by unfold wid;rw[if_neg hw]
     rw[if_neg (fun h2=>hw (Prod.ext h2.1 h2.2)),if_neg (by rw[e];have:=width_pos s p;omega),ih,e]
   ·rw[if_pos (drop_end h),if_neg h]
 have:=loop s.size 0
 rw[List.drop_zero]at this
 exact this
theorem Runes_eq (s:ByteArray)(hs:s.size≤5000)(hv:vld s s.size 0=true): ∃l,F.eE s=some l∧l.length=cnt s s.size 0:=by
 have loop: ∀(n p f:Nat) (xs:List (Int×Int)),s.size-p≤n→n<f→xs.length≤p→p≤5010→vld s n p=true→∃l,F.aj s f xs (p:Int)=some l∧l.length=xs.length+cnt s n p:=by
  intro n
  induction n with
  |zero=>
   intro p f xs hp hf _ _ _
   obtain⟨f,rfl⟩: ∃f',f=f'+1:=⟨f-1,by omega⟩
   rw[F.aj,if_neg (by omega)];exact⟨_,rfl,rfl⟩
  |succ n ih=>
   intro p f xs hp hf hxs hp5 hv
   obtain⟨f,rfl⟩: ∃f',f=f'+1:=⟨f-1,by omega⟩
   rw[F.aj]
   rw[vld]at hv
   rw[cnt]
   by_cases h:p<s.size
   ·rw[if_pos h]at hv
    have hl:=wid_le h
    have h4:=wid_4 s p
    by_cases hw:wid s p=0
    ·rw[if_pos hw]at hv;cases hv
    rw[if_neg hw]at hv
    have hj: ∀(w c:Int),w=(wid s p:Int)→∃l,F.bd (F.aj s f) xs (p:Int) w c=some l∧l.length=xs.length+(1+cnt s n (p+(Utf8.decode s p).2)):=fun w c hwc=>by
     subst hwc
     rw[F.bd,A.gd1 (by simp only[List.length_cons,List.length_nil];omega),A.gd1 ⟨by omega,by omega⟩,wid_dec hw]
     have e:(p:Int)+(wid s p:Int)=((p+wid s p:Nat):Int):=by omega
     rw[e]
     obtain⟨l,h1,h2⟩:=ih (p+wid s p) f (xs++[((p:Int),c)]) (by omega) (by omega) (by simp only[List.length_append,List.length_cons,List.length_nil];omega) (by omega) hv
     exact⟨l,h1,by rw[h2,List.length_append];simp only[List.length_cons,List.length_nil];omega⟩
    have i0:=ixb (s:=s) h
    have i1:A.ix s.data.toList ((p:Int)+1)=if p+1<s.size then some (Z.bat s (p+1))else none:=ixk s p 1
    have i2:A.ix s.data.toList ((p:Int)+2)=if p+2<s.size then some (Z.bat s (p+2))else none:=ixk s p 2
    have i3:A.ix s.data.toList ((p:Int)+3)=if p+3<s.size then some (Z.bat s (p+3))else none:=ixk s p 3
    have r1:Z.R64 ((p:Int)+1):=⟨by omega,by omega⟩
    have r2:Z.R64 ((p:Int)+2):=⟨by omega,by omega⟩
    have r3:Z.R64 ((p:Int)+3):=⟨by omega,by omega⟩
    rw[if_pos (by omega),if_pos h,width_eq s p h hs,Option.bind_some]
    by_cases w1:wid s p=1
    ·rw[if_pos (by omega),i0,Option.bind_some];exact hj _ _ rfl
    rw[if_neg (by omega)]
    by_cases w2:wid s p=2
    ·rw[if_pos (by omega),A.gd1 r1,i0,Option.bind_some,A.gd1 (by decide),i1,if_pos (by omega),Option.bind_some,A.gd1 (by decide)];exact hj _ _ rfl
    rw[if_neg (by omega)]
    by_cases w3:wid s p=3
    ·rw[if_pos (by omega),A.gd1 ⟨r1,r2⟩,i0,Option.bind_some,A.gd1 (by decide),i1,if_pos (by omega),Option.bind_some,A.gd1 (by decide),i2,if_pos (by omega),Option.bind_some,A.gd1 (by decide)];exact hj _ _ rfl
    rw[if_neg (by omega),if_pos (by omega),A.gd1 ⟨r1,r2,r3⟩,i0,Option.bind_some,A.gd1 (by decide),i1,if_pos (by omega),Option.bind_some,A.gd1 (by decide),i2,if_pos (by omega),Option.bind_some,A.gd1 (by decide),i3,if_pos (by omega),Option.bind_some,A.gd1 (by decide)];exact hj _ _ rfl
   ·rw[if_neg (by omega),if_neg h];exact⟨_,rfl,rfl⟩
 obtain⟨l,h1,h2⟩:=loop s.size 0 A.FU [] (by omega) (by have:=FU_big;omega) (by simp) (by omega) hv
 exact⟨l,h1,by simpa using h2⟩
theorem single_eq (s:ByteArray)(hs:s.size≤5000):F.eh s=some (if cnt s s.size 0=1 then vld s s.size 0 else false):=by
 have loop: ∀(n p f:Nat) (y:Int),s.size-p≤n→n<f→0≤y→y+n≤10000→F.b0 s f p y=some (if y+(cnt s n p:Int)=1 then vld s s.size 0 else false):=by
  intro n
  induction n with
  |zero=>
   intro p f y hp hf _ _
   obtain⟨f,rfl⟩: ∃f',f=f'+1:=⟨f-1,by omega⟩
   rw[F.b0,if_neg (by omega),F.bu,validD_eq,Option.bind_some]
   simp only[F.cu]
   have e:y+(cnt s 0 p:Int)=y:=by rw[cnt];omega
   by_cases h:y=1
   ·rw[if_pos h,if_pos (by omega)]
   ·rw[if_neg h,if_neg (by omega)]
  |succ n ih=>
   intro p f y hp hf h0 h2
   obtain⟨f,rfl⟩: ∃f',f=f'+1:=⟨f-1,by omega⟩
   rw[F.b0,cnt]
   by_cases h:p<s.size
   ·rw[if_pos h,if_pos h,A.gd1 ⟨by omega,by omega⟩]
    have hw:=width_pos s p
    rw[ih _ f (y+1) (by omega) (by omega) (by omega) (by omega)]
    congr 2
    exact propext ⟨fun h=>by omega,fun h=>by omega⟩
   ·rw[if_neg h,if_neg h,F.bu,validD_eq,Option.bind_some]
    simp only[F.cu]
    by_cases h:y=1
    ·rw[if_pos h,if_pos (by omega)]
    ·rw[if_neg h,if_neg (by omega)]
 unfold F.eh
 rw[loop s.size 0 A.FU 0 (by omega) (by have:=FU_big;omega) (by omega) (by omega)]
 congr 2
 exact propext ⟨fun h=>by omega,fun h=>by omega⟩
theorem one_small {s:ByteArray}(h1:cnt s s.size 0=1)(h2:vld s s.size 0=true):s.size≤4:=by
 generalize hn:s.size=n at h1 h2
 cases n with
 |zero=>omega
 |succ n=>
  rw[cnt,if_pos (by omega)]at h1
  rw[vld,if_pos (by omega)]at h2
  by_cases hw:wid s 0=0
  ·rw[if_pos hw]at h2;cases h2
  rw[wid_dec hw]at h1
  have:=wid_4 s 0
  cases n with
  |zero=>omega
  |succ n=>
   rw[cnt]at h1
   by_cases h3:0+wid s 0<s.size
   ·rw[if_pos h3]at h1;omega
   ·omega
end Go.Proofs.YtfdfcaiiengdfaaGreatDoor
end
section
set_option linter.unusedVariables false
set_option linter.unusedSimpArgs false
set_option synthInstance.maxSize 1000000
set_option synthInstance.maxHeartbeats 400000
namespace Go.Proofs.YtfdfcaiiengdfaaGreatDoor
open Go.RowKit Go.Graph
def textP (f:Fun):Bool:=if f.1=5 then decide (f.2.2≠ByteArray.mk #[])&&decide ((f.2.2.size:Int)≤16)&&vld f.2.2 f.2.2.size 0 else if f.1=12∨f.1=22 then decide (cnt f.2.2 f.2.2.size 0=1)&&vld f.2.2 f.2.2.size 0 else decide (f.2.2=ByteArray.mk #[])
theorem number_eq (f:Fun):F.eg f=some (numberF f):=by
 unfold F.eg F.c7 F.c6 numberF
 simp only[A.ba,decide_eq_true_eq]
 by_cases h3:f.1=3
 ·simp[h3]
 ·by_cases h13:f.1=13
  ·simp[h13]
  ·by_cases h6:f.1=6
   ·simp[h6]
   ·by_cases h11:f.1=11<;>simp[h3,h13,h6,h11]
theorem R06_number_eq (f:Fun):F.eq f=some (numberF f):=number_eq f
theorem text_eq (f:Fun)(hs:f.2.2.size≤5000):F.eI f=some (textP f):=by
 unfold F.eI textP
 simp only[F.dV,F.dW,A.ba,single_eq _ hs,F.bu,validD_eq,Option.bind_some,decide_eq_true_eq]
 by_cases h5:f.1=5
 ·simp only[h5,if_true]
  by_cases h1:f.2.2=ByteArray.mk #[]<;>by_cases h2:(f.2.2.size:Int)≤16<;>simp[h1,h2]
 ·by_cases h12:f.1=12
  ·simp[h12]
  ·by_cases h22:f.1=22<;>simp[h5,h12,h22]
theorem one_le {s:ByteArray}:(1:Int)≤(s.size:Int)↔s≠ByteArray.mk #[]:=by
 constructor
 ·intro h e;subst e;exact absurd h (by decide)
 ·intro h;have:=size_pos h;omega
theorem R06_text_eq (f:Fun)(hs:f.2.2.size≤5000):F.ey f=some (textP f):=by
 have hj: ∀y,F.c2 f y=some (if y=true then decide (cnt f.2.2 f.2.2.size 0=1)&&vld f.2.2 f.2.2.size 0 else decide (f.2.2=ByteArray.mk #[])):=by
  intro y
  unfold F.c2
  simp only[F.c1,Valid_eq _ hs,Option.bind_some]
  cases y with
  |false=>simp
  |true=>
   simp only[if_true]
   by_cases h4:(f.2.2.size:Int)≤4
   ·rw[if_pos h4]
    cases hv:vld f.2.2 f.2.2.size 0 with
    |true=>
     obtain⟨l,h1,h2⟩:=Runes_eq f.2.2 hs hv
     rw[if_pos rfl,h1,Option.bind_some,Bool.and_true]
     congr 2
     rw[h2];exact propext ⟨fun h=>by omega,fun h=>by omega⟩
    |false=>simp
   ·rw[if_neg h4]
    congr 1
    cases hv:vld f.2.2 f.2.2.size 0 with
    |false=>simp
    |true=>
     by_cases h1:cnt f.2.2 f.2.2.size 0=1
     ·have:=one_small h1 hv;omega
     ·simp[h1]
 unfold F.ey textP
 simp only[F.dF,hj,A.ba,Valid_eq _ hs,Option.bind_some,decide_eq_true_eq,one_le]
 by_cases h5:f.1=5
 ·simp only[h5,if_true]
  by_cases h1:f.2.2=ByteArray.mk #[]<;>by_cases h2:(f.2.2.size:Int)≤16<;>simp[h1,h2]
 ·by_cases h12:f.1=12
  ·simp[h12]
  ·by_cases h22:f.1=22<;>simp[h5,h12,h22]
def anyF (f:Fun)(l:List Int):Int:=if l.any (fun y=>decide (y=f.1)&&(numberF f&&textP f))=true then 0 else 60
def kinds (k:Int):List Int:=if k=2 then [1,2,3,4,5,6,7,8]else if k=3 then [11,12,13]else if k=4 then [21,22]else if k=8 then [31,32,33,34]else if k=11 then [41,42]else []
def chk (k:Int)(f:Fun):Int:=if kinds k=[]then(if f=(0,0,ByteArray.mk #[])then 0 else 60)else anyF f (kinds k)
theorem chk_l (f:Fun)(hs:f.2.2.size≤5000): ∀l,F.a4 f l=some (anyF f l)
 | []=>rfl
 |y::l=>by
  have ih:=chk_l f hs l
  unfold F.a4
  simp only[F.cW,number_eq,text_eq _ hs,Option.bind_some,ih,anyF,List.any_cons]
  by_cases h:y=f.1
  ·subst h
   cases hn:numberF f<;>cases ht:textP f<;>simp
  ·simp[h]
theorem fn_Check_eq (k:Int)(f:Fun)(hs:f.2.2.size≤5000):F.d4 k f=some (chk k f):=by
 have u2:F.bE 1 8=some [1,2,3,4,5,6,7,8]:=by kernel_rfl
 have u3:F.bE 11 13=some [11,12,13]:=by kernel_rfl
 have u4:F.bE 21 22=some [21,22]:=by kernel_rfl
 have u8:F.bE 31 34=some [31,32,33,34]:=by kernel_rfl
 have u11:F.bE 41 42=some [41,42]:=by kernel_rfl
 unfold F.d4 F.eP F.eH chk kinds
 by_cases h2:k=2
 ·simp[h2,u2,chk_l f hs]
 ·by_cases h3:k=3
  ·simp[h3,u3,chk_l f hs]
  ·by_cases h4:k=4
   ·simp[h4,u4,chk_l f hs]
   ·by_cases h8:k=8
    ·simp[h8,u8,chk_l f hs]
    ·by_cases h11:k=11
     ·simp[h11,u11,chk_l f hs]
     ·simp only[h2,h3,h4,h8,h11,if_false,Option.bind_some]
      rw[if_pos (by decide),if_pos trivial]
      by_cases hz:f=(0,0,ByteArray.mk #[])
      ·rw[if_neg (fun h=>h hz),if_pos hz]
      ·rw[if_pos hz,if_neg hz]
theorem R06_l (f:Fun)(hs:f.2.2.size≤5000)(l:List Int)(hl:l.length≤100):F.aC f l A.FU 0=some (anyF f l):=
 A.lp0 l (fun n y=>F.aC f l n y) (fun _ t=>some (anyF f t))
  (fun n=>by rw[F.aC,if_neg (by omega)];rfl)
  (fun n k x hx hk ih=>by
   rw[F.aC,if_pos (by omega),A.ixn hx,Option.bind_some]
   simp only[F.cB,R06_number_eq,R06_text_eq _ hs,Option.bind_some,ih,A.gd1 (A.r64n (n:=k) (by omega)),anyF,List.any_cons]
   by_cases h:x=f.1
   ·subst h
    cases hn:numberF f<;>cases ht:textP f<;>simp
   ·simp[h])
  (by have:=FU_big;omega)
theorem R06_Check_eq (k:Int)(f:Fun)(hs:f.2.2.size≤5000):F.dP k f=some (chk k f):=by
 have u2:F.co 2=some [1,2,3,4,5,6,7,8]:=by kernel_rfl
 have u3:F.co 3=some [11,12,13]:=by kernel_rfl
 have u4:F.co 4=some [21,22]:=by kernel_rfl
 have u8:F.co 8=some [31,32,33,34]:=by kernel_rfl
 have u11:F.co 11=some [41,42]:=by kernel_rfl
 have u0:F.bD 1 0=some []:=by kernel_rfl
 unfold F.dP chk kinds
 by_cases h2:k=2
 ·subst h2;rw[u2,Option.bind_some,if_neg (by simp),F.aN,if_neg (by simp),R06_l f hs _ (by simp)];simp
 ·by_cases h3:k=3
  ·subst h3;rw[u3,Option.bind_some,if_neg (by simp),F.aN,if_neg (by simp),R06_l f hs _ (by simp)];simp
  ·by_cases h4:k=4
   ·subst h4;rw[u4,Option.bind_some,if_neg (by simp),F.aN,if_neg (by simp),R06_l f hs _ (by simp)];simp
   ·by_cases h8:k=8
    ·subst h8;rw[u8,Option.bind_some,if_neg (by simp),F.aN,if_neg (by simp),R06_l f hs _ (by simp)];simp
    ·by_cases h11:k=11
     ·subst h11;rw[u11,Option.bind_some,if_neg (by simp),F.aN,if_neg (by simp),R06_l f hs _ (by simp)];simp
     ·have u:F.co k=some []:=by unfold F.co;simp only[h2,h3,h4,h8,h11,if_false,u0]
      rw[u,Option.bind_some,if_pos (by simp),F.aN,R06_l f hs _ (by simp)]
      simp only[h2,h3,h4,h8,h11,if_false,if_true,decide_eq_true_eq,anyF,List.any_nil,Bool.false_eq_true]
      by_cases hz:f=(0,0,ByteArray.mk #[])
      ·rw[if_pos hz,if_pos hz]
      ·rw[if_neg hz,if_neg hz]
end Go.Proofs.YtfdfcaiiengdfaaGreatDoor
end
