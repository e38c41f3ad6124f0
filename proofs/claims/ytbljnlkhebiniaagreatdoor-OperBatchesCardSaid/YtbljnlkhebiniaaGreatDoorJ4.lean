/- Functions on data, and that the code computes them. * Plain law of graphs: what the reference and the program say of graphs, as functions on data (no program in sight). * Plain: rounds by a count of steps are recursion over a list. * Plain: a text's bytes by the model's decoder. * Plain: what a text's bytes are, by the reference and by the model's decoder. * Plain: functions of nodes may be; a node for itself. * Plain: a text as runes, each with its bytes. No program in sight. -/
import Derived.Test.YtbljnlkhebiniaaGreatDoorJ0
import Derived.Test.YtbljnlkhebiniaaGreatDoorJ1
import Derived.Test.YtbljnlkhebiniaaGreatDoorJ2
import Derived.Test.YtbljnlkhebiniaaGreatDoorJ3
import Derived.Lib.TrimUEq
import Derived.Lib.MapLaws
import Derived.Lib.ValidU
import Derived.Laws.Cover4
section
set_option linter.unusedVariables false
set_option linter.unusedSimpArgs false
set_option maxRecDepth 20000
set_option maxHeartbeats 8000000
set_option synthInstance.maxSize 1000000
set_option synthInstance.maxHeartbeats 400000
namespace Go.Proofs.YtbljnlkhebiniaaGreatDoor
open Go.RowKit
def F.oper_goes (a0:D25)(a1:D28):Option (D28×Bool×Int):=if a0.2.1=12 then((F.tstamp_Enter (a1.1,a1.2.1,(a1.2.2.1,a1.2.2.2.1,a1.2.2.2.2.1,a1.2.2.2.2.2))).bind fun r4=>(some ((r4.1.1,r4.1.2.1,(r4.1.2.2.1,r4.1.2.2.2.1,r4.1.2.2.2.2.1,r4.1.2.2.2.2.2)),true,r4.2)))else(if a0.2.1=13 then((F.tstamp_Leave (a1.1,a1.2.1,(a1.2.2.1,a1.2.2.2.1,a1.2.2.2.2.1,a1.2.2.2.2.2))).bind fun r14=>(some ((r14.1.1,r14.1.2.1,(r14.1.2.2.1,r14.1.2.2.2.1,r14.1.2.2.2.2.1,r14.1.2.2.2.2.2)),true,r14.2)))else(if a0.2.1=14 then(if a1.2.1=0 then(some ((0,0,(0,0,0,0)),false,11))else(A.gd (Z.R64 (a1.2.1-1)) ((A.ix [a1.2.2.1,a1.2.2.2.1,a1.2.2.2.2.1,a1.2.2.2.2.2] (a1.2.1-1)).bind fun x25=>(if a0.2.2.2.2.2.1≤x25 then(some ((a1.1,a1.2.1,(a1.2.2.1,a1.2.2.2.1,a1.2.2.2.2.1,a1.2.2.2.2.2)),false,0))else((F.tstamp_Next (a1.1,a1.2.1,(a1.2.2.1,a1.2.2.2.1,a1.2.2.2.2.1,a1.2.2.2.2.2))).bind fun r27=>(some ((r27.1.1,r27.1.2.1,(r27.1.2.2.1,r27.1.2.2.2.1,r27.1.2.2.2.2.1,r27.1.2.2.2.2.2)),true,r27.2)))))))else(some ((a1.1,a1.2.1,(a1.2.2.1,a1.2.2.2.1,a1.2.2.2.2.1,a1.2.2.2.2.2)),true,0))))
theorem oper_goes_ok (a0:D25)(a1:D28)(A2_:Option Addr)(c3_:Nat)(h0_:IntKind.i64.has a0.1)(h1_:IntKind.i64.has a0.2.1)(h4_:IntKind.i64.has a0.2.2.2.1.1)(h5_:IntKind.i64.has a0.2.2.2.1.2.1)(h6_:a0.2.2.2.1.2.2.size≤maxLen)(h7_:a0.2.2.2.2.1.size≤maxLen)(h8_:IntKind.i64.has a0.2.2.2.2.2.1)(h9_:IntKind.i64.has a0.2.2.2.2.2.2)(h10_:IntKind.i64.has a1.1)(h11_:IntKind.i64.has a1.2.1)(h12_:IntKind.i64.has a1.2.2.1)(h13_:IntKind.i64.has a1.2.2.2.1)(h14_:IntKind.i64.has a1.2.2.2.2.1)(h15_:IntKind.i64.has a1.2.2.2.2.2)(r:D28×Bool×Int)(hF:F.oper_goes a0 a1=some r):
    A.Ct Tryz.prog 49 [.agg #[.int .i64 a0.1,.int .i64 a0.2.1,.slice A2_ ((a0.2.2.1).length) c3_,.int .i64 a0.2.2.2.1.1,.int .i64 a0.2.2.2.1.2.1,.string a0.2.2.2.1.2.2,.string a0.2.2.2.2.1,.int .i64 a0.2.2.2.2.2.1,.int .i64 a0.2.2.2.2.2.2],.agg #[.int .i64 a1.1,.int .i64 a1.2.1,.int .i64 a1.2.2.1,.int .i64 a1.2.2.2.1,.int .i64 a1.2.2.2.2.1,.int .i64 a1.2.2.2.2.2]] [(0,.sh (.slice (Z.Ty.int .i64)) [.slice A2_ (a0.2.2.1).length c3_] a0.2.2.1)] [] (fun v H'=>v=.tuple #[.agg #[.int .i64 r.1.1,.int .i64 r.1.2.1,.int .i64 r.1.2.2.1,.int .i64 r.1.2.2.2.1,.int .i64 r.1.2.2.2.2.1,.int .i64 r.1.2.2.2.2.2],.bool r.2.1,.int .i64 r.2.2]∧H'=[]∧IntKind.i64.has r.1.1∧IntKind.i64.has r.1.2.1∧IntKind.i64.has r.1.2.2.1∧IntKind.i64.has r.1.2.2.2.1∧IntKind.i64.has r.1.2.2.2.2.1∧IntKind.i64.has r.1.2.2.2.2.2∧IntKind.i64.has r.2.2):=by
 refine A.Ct.enter Tryz.func49 rfl Tryz.ntmps49 rfl fun w0 F0=>?_
 rw[F.oper_goes]at hF
 refine A.xl 1 ?_
 refine A.AL.box 1 (cs:=[.int .i64 a0.1,.int .i64 a0.2.1,.slice A2_ ((a0.2.2.1).length) c3_,.int .i64 a0.2.2.2.1.1,.int .i64 a0.2.2.2.1.2.1,.string a0.2.2.2.1.2.2,.string a0.2.2.2.2.1,.int .i64 a0.2.2.2.2.2.1,.int .i64 a0.2.2.2.2.2.2]) fun g1=>?_
 refine A.AL.box 2 (cs:=[.int .i64 a1.1,.int .i64 a1.2.1,.int .i64 a1.2.2.1,.int .i64 a1.2.2.2.1,.int .i64 a1.2.2.2.2.1,.int .i64 a1.2.2.2.2.2]) fun g2=>?_
 refine A.AL.alloc 3 (cs:=[.int .i64 0,.int .i64 0,.int .i64 0,.int .i64 0,.int .i64 0,.int .i64 0]) Tryz.zeroValue29 fun g3=>?_
 refine A.q0 [] [] [.n,.n] [] ?_
 refine A.dl 3 ?_
 refine A.q0 [1] [] [.n,.b 0 1] [(14,.int .i64 a0.2.1)] ?_
 refine A.dl 3 ?_
 refine A.q0 [] [] [.n,.n] [(15,.bool (decide (a0.2.1=12)))] ?_
 refine A.dx 1 ?_
 refine A.AX.cnd rfl hF (fun hb hF=>?_) (fun hb hF=>?_)
 ·refine A.xl 1 ?_
  refine A.q0 [2] [] [.b 0 0] [(18,.agg #[.int .i64 a1.1,.int .i64 a1.2.1,.int .i64 a1.2.2.1,.int .i64 a1.2.2.2.1,.int .i64 a1.2.2.2.2.1,.int .i64 a1.2.2.2.2.2])] ?_
  obtain⟨r4,hv5,hF⟩:=A.bd_some hF
  refine A.AL.call 4 [] (first:=[]) (cap:=[]) cf86 (tstamp_Enter_ok (a1.1,a1.2.1,(a1.2.2.1,a1.2.2.2.1,a1.2.2.2.2.1,a1.2.2.2.2.2)) h10_ h11_ h12_ h13_ h14_ h15_ r4 hv5) .nil ?_
  rintro _ _ ⟨rfl,rfl,hr6,hr7,hr8,hr9,hr10,hr11,hr12⟩
  refine⟨by kernel_rfl,?_⟩
  refine A.q0 [] [] [.n,.n,.n] [(20,.agg #[.int .i64 r4.1.1,.int .i64 r4.1.2.1,.int .i64 r4.1.2.2.1,.int .i64 r4.1.2.2.2.1,.int .i64 r4.1.2.2.2.2.1,.int .i64 r4.1.2.2.2.2.2]),(21,.int .i64 r4.2)] ?_
  refine A.AL.alloc 44 (cs:=[.int .i64 0,.int .i64 0,.int .i64 0,.int .i64 0,.int .i64 0,.int .i64 0]) Tryz.zeroValue29 fun g13=>?_
  refine A.sw 44 [] [.int .i64 r4.1.1,.int .i64 r4.1.2.1,.int .i64 r4.1.2.2.1,.int .i64 r4.1.2.2.2.1,.int .i64 r4.1.2.2.2.2.1,.int .i64 r4.1.2.2.2.2.2] ?_
  refine A.q0 [] [] [.n] [(8,.int .i64 r4.2)] ?_
  refine A.dl 2 ?_
  refine A.q0 [44] [] [.b 0 0,.n] [(22,.agg #[.int .i64 r4.1.1,.int .i64 r4.1.2.1,.int .i64 r4.1.2.2.1,.int .i64 r4.1.2.2.2.1,.int .i64 r4.1.2.2.2.2.1,.int .i64 r4.1.2.2.2.2.2]),(23,.int .i64 r4.2)] ?_
  refine A.sw 3 [] [.int .i64 r4.1.1,.int .i64 r4.1.2.1,.int .i64 r4.1.2.2.1,.int .i64 r4.1.2.2.2.1,.int .i64 r4.1.2.2.2.2.1,.int .i64 r4.1.2.2.2.2.2] ?_
  refine A.q0 [] [] [.n,.n] [(5,.bool true),(6,.int .i64 r4.2)] ?_
  refine A.dx 1 ?_
  obtain rfl:=Option.some.inj hF
  exact A.AX.ret [] (.tuple #[.agg #[.int .i64 r4.1.1,.int .i64 r4.1.2.1,.int .i64 r4.1.2.2.1,.int .i64 r4.1.2.2.2.1,.int .i64 r4.1.2.2.2.2.1,.int .i64 r4.1.2.2.2.2.2],.bool true,.int .i64 r4.2]) (fun a w hf hh=>Z.resv3 rfl (Z.rv_n hf rfl Tryz.isAgg29 Tryz.sizeOf29 (A.Hp.blk hh 3) rfl) (Z.rv_t hf rfl) (Z.rv_t hf rfl)) (⟨rfl,rfl,hr6,hr7,hr8,hr9,hr10,hr11,hr12⟩)
 refine A.xl 1 ?_
 refine A.q0 [] [] [.n,.n] [(24,.bool (decide (a0.2.1=13)))] ?_
 refine A.dx 1 ?_
 refine A.AX.cnd rfl hF (fun hb hF=>?_) (fun hb hF=>?_)
 ·refine A.xl 1 ?_
  refine A.q0 [2] [] [.b 0 0] [(27,.agg #[.int .i64 a1.1,.int .i64 a1.2.1,.int .i64 a1.2.2.1,.int .i64 a1.2.2.2.1,.int .i64 a1.2.2.2.2.1,.int .i64 a1.2.2.2.2.2])] ?_
  obtain⟨r14,hv15,hF⟩:=A.bd_some hF
  refine A.AL.call 45 [] (first:=[]) (cap:=[]) cf87 (tstamp_Leave_ok (a1.1,a1.2.1,(a1.2.2.1,a1.2.2.2.1,a1.2.2.2.2.1,a1.2.2.2.2.2)) h10_ h11_ h12_ h13_ h14_ h15_ r14 hv15) .nil ?_
  rintro _ _ ⟨rfl,rfl,hr16,hr17,hr18,hr19,hr20,hr21,hr22⟩
  refine⟨by kernel_rfl,?_⟩
  refine A.q0 [] [] [.n,.n,.n] [(29,.agg #[.int .i64 r14.1.1,.int .i64 r14.1.2.1,.int .i64 r14.1.2.2.1,.int .i64 r14.1.2.2.2.1,.int .i64 r14.1.2.2.2.2.1,.int .i64 r14.1.2.2.2.2.2]),(30,.int .i64 r14.2)] ?_
  refine A.AL.alloc 85 (cs:=[.int .i64 0,.int .i64 0,.int .i64 0,.int .i64 0,.int .i64 0,.int .i64 0]) Tryz.zeroValue29 fun g23=>?_
  refine A.sw 85 [] [.int .i64 r14.1.1,.int .i64 r14.1.2.1,.int .i64 r14.1.2.2.1,.int .i64 r14.1.2.2.2.1,.int .i64 r14.1.2.2.2.2.1,.int .i64 r14.1.2.2.2.2.2] ?_
  refine A.q0 [] [] [.n] [(10,.int .i64 r14.2)] ?_
  refine A.dl 2 ?_
  refine A.q0 [85] [] [.b 0 0,.n] [(31,.agg #[.int .i64 r14.1.1,.int .i64 r14.1.2.1,.int .i64 r14.1.2.2.1,.int .i64 r14.1.2.2.2.1,.int .i64 r14.1.2.2.2.2.1,.int .i64 r14.1.2.2.2.2.2]),(32,.int .i64 r14.2)] ?_
  refine A.sw 3 [] [.int .i64 r14.1.1,.int .i64 r14.1.2.1,.int .i64 r14.1.2.2.1,.int .i64 r14.1.2.2.2.1,.int .i64 r14.1.2.2.2.2.1,.int .i64 r14.1.2.2.2.2.2] ?_
  refine A.q0 [] [] [.n,.n] [(5,.bool true),(6,.int .i64 r14.2)] ?_
  refine A.dx 1 ?_
  obtain rfl:=Option.some.inj hF
  exact A.AX.ret [] (.tuple #[.agg #[.int .i64 r14.1.1,.int .i64 r14.1.2.1,.int .i64 r14.1.2.2.1,.int .i64 r14.1.2.2.2.1,.int .i64 r14.1.2.2.2.2.1,.int .i64 r14.1.2.2.2.2.2],.bool true,.int .i64 r14.2]) (fun a w hf hh=>Z.resv3 rfl (Z.rv_n hf rfl Tryz.isAgg29 Tryz.sizeOf29 (A.Hp.blk hh 3) rfl) (Z.rv_t hf rfl) (Z.rv_t hf rfl)) (⟨rfl,rfl,hr16,hr17,hr18,hr19,hr20,hr21,hr22⟩)
 refine A.xl 1 ?_
 refine A.q0 [] [] [.n,.n] [(33,.bool (decide (a0.2.1=14)))] ?_
 refine A.dx 1 ?_
 refine A.AX.cnd rfl hF (fun hb hF=>?_) (fun hb hF=>?_)
 ·refine A.xl 2 ?_
  refine A.q0 [2] [] [.n,.b 0 1,.n] [(37,.bool (decide (a1.2.1=0)))] ?_
  refine A.dx 1 ?_
  refine A.AX.cnd rfl hF (fun hb hF=>?_) (fun hb hF=>?_)
  ·refine A.xl 1 ?_
   refine A.q0 [] [] [.n] [(38,.agg #[.int .i64 0,.int .i64 0,.int .i64 0,.int .i64 0,.int .i64 0,.int .i64 0])] ?_
   refine A.sw 3 [] [.int .i64 0,.int .i64 0,.int .i64 0,.int .i64 0,.int .i64 0,.int .i64 0] ?_
   refine A.q0 [] [] [.n,.n] [(5,.bool false),(6,.int .i64 11)] ?_
   refine A.dx 1 ?_
   obtain rfl:=Option.some.inj hF
   exact A.AX.ret [] (.tuple #[.agg #[.int .i64 0,.int .i64 0,.int .i64 0,.int .i64 0,.int .i64 0,.int .i64 0],.bool false,.int .i64 11]) (fun a w hf hh=>Z.resv3 rfl (Z.rv_n hf rfl Tryz.isAgg29 Tryz.sizeOf29 (A.Hp.blk hh 3) rfl) (Z.rv_t hf rfl) (Z.rv_t hf rfl)) (⟨rfl,rfl,(A.hasl .i64 (0) rfl),(A.hasl .i64 (0) rfl),(A.hasl .i64 (0) rfl),(A.hasl .i64 (0) rfl),(A.hasl .i64 (0) rfl),(A.hasl .i64 (0) rfl),(A.hasl .i64 (11) rfl)⟩)
  refine A.xx 4 ?_
  refine A.AX.dr mixed 9 9 (A.mb 9 0) ?_
  obtain⟨hc24,hF⟩:=A.gd_some hF
  refine A.AH.q A.pb [] [0,1,2,3] [2,1] [] (A.mb 9 207) 3 [(0,.n),(3,.n),(6,.n),(1,.b 0 1),(7,.b 1 7),(2,.n)] [42,46,41] [Z.R64 (a1.2.1-1)] [(42,.pointer (some ⟨g2,2,none⟩)),(46,.int .i64 a0.2.2.2.2.2.1),(41,.int .i64 (a1.2.1-1))] hc24 ?_
  obtain⟨x25,hv26,hF⟩:=A.bd_some hF
  refine A.pkb 2 86 (fun v:Int=>.int .i64 v) [a1.2.2.1,a1.2.2.2.1,a1.2.2.2.2.1,a1.2.2.2.2.2] 2 hv26 ?_
  refine A.AH.v A.pb [0,1,2,3] [0,1,2,3,86] 4 (A.mb 9 223) rfl (fun a w hf hh=>A.r_indexArr Tryz.underlying27 Tryz.sizeOf2 (hf.eval rfl) (hf.eval rfl) (A.ix_ok hv26).1 (A.ix_ok hv26).2) ?_
  refine A.hq A.pb [0,1,2,3,86] [0,1,2,3,86] [] [86] (A.mb 9 511) 0 [(5,.e 0 0),(8,.n)] [(47,.bool (decide (a0.2.2.2.2.2.1≤x25)))] ?_
  refine A.AH.done ?_
  refine A.ex 1 ?_
  refine A.AX.cnd rfl hF (fun hb hF=>?_) (fun hb hF=>?_)
  ·refine A.xl 1 ?_
   refine A.q0 [2] [] [.b 0 0] [(48,.agg #[.int .i64 a1.1,.int .i64 a1.2.1,.int .i64 a1.2.2.1,.int .i64 a1.2.2.2.1,.int .i64 a1.2.2.2.2.1,.int .i64 a1.2.2.2.2.2])] ?_
   refine A.sw 3 [] [.int .i64 a1.1,.int .i64 a1.2.1,.int .i64 a1.2.2.1,.int .i64 a1.2.2.2.1,.int .i64 a1.2.2.2.2.1,.int .i64 a1.2.2.2.2.2] ?_
   refine A.q0 [] [] [.n,.n] [(5,.bool false),(6,.int .i64 0)] ?_
   refine A.dx 1 ?_
   obtain rfl:=Option.some.inj hF
   exact A.AX.ret [] (.tuple #[.agg #[.int .i64 a1.1,.int .i64 a1.2.1,.int .i64 a1.2.2.1,.int .i64 a1.2.2.2.1,.int .i64 a1.2.2.2.2.1,.int .i64 a1.2.2.2.2.2],.bool false,.int .i64 0]) (fun a w hf hh=>Z.resv3 rfl (Z.rv_n hf rfl Tryz.isAgg29 Tryz.sizeOf29 (A.Hp.blk hh 3) rfl) (Z.rv_t hf rfl) (Z.rv_t hf rfl)) (⟨rfl,rfl,h10_,h11_,h12_,h13_,h14_,h15_,(A.hasl .i64 (0) rfl)⟩)
  refine A.xl 3 ?_
  refine A.q0 [2] [] [.b 0 0] [(50,.agg #[.int .i64 a1.1,.int .i64 a1.2.1,.int .i64 a1.2.2.1,.int .i64 a1.2.2.2.1,.int .i64 a1.2.2.2.2.1,.int .i64 a1.2.2.2.2.2])] ?_
  obtain⟨r27,hv28,hF⟩:=A.bd_some hF
  refine A.AL.call 87 [] (first:=[]) (cap:=[]) cf88 (tstamp_Next_ok (a1.1,a1.2.1,(a1.2.2.1,a1.2.2.2.1,a1.2.2.2.2.1,a1.2.2.2.2.2)) h10_ h11_ h12_ h13_ h14_ h15_ r27 hv28) .nil ?_
  rintro _ _ ⟨rfl,rfl,hr29,hr30,hr31,hr32,hr33,hr34,hr35⟩
  refine⟨by kernel_rfl,?_⟩
  refine A.q0 [] [] [.n,.n,.n] [(52,.agg #[.int .i64 r27.1.1,.int .i64 r27.1.2.1,.int .i64 r27.1.2.2.1,.int .i64 r27.1.2.2.2.1,.int .i64 r27.1.2.2.2.2.1,.int .i64 r27.1.2.2.2.2.2]),(53,.int .i64 r27.2)] ?_
  refine A.AL.alloc 127 (cs:=[.int .i64 0,.int .i64 0,.int .i64 0,.int .i64 0,.int .i64 0,.int .i64 0]) Tryz.zeroValue29 fun g36=>?_
  refine A.sw 127 [] [.int .i64 r27.1.1,.int .i64 r27.1.2.1,.int .i64 r27.1.2.2.1,.int .i64 r27.1.2.2.2.1,.int .i64 r27.1.2.2.2.2.1,.int .i64 r27.1.2.2.2.2.2] ?_
  refine A.q0 [] [] [.n] [(12,.int .i64 r27.2)] ?_
  refine A.dl 2 ?_
  refine A.q0 [127] [] [.b 0 0,.n] [(54,.agg #[.int .i64 r27.1.1,.int .i64 r27.1.2.1,.int .i64 r27.1.2.2.1,.int .i64 r27.1.2.2.2.1,.int .i64 r27.1.2.2.2.2.1,.int .i64 r27.1.2.2.2.2.2]),(55,.int .i64 r27.2)] ?_
  refine A.sw 3 [] [.int .i64 r27.1.1,.int .i64 r27.1.2.1,.int .i64 r27.1.2.2.1,.int .i64 r27.1.2.2.2.1,.int .i64 r27.1.2.2.2.2.1,.int .i64 r27.1.2.2.2.2.2] ?_
  refine A.q0 [] [] [.n,.n] [(5,.bool true),(6,.int .i64 r27.2)] ?_
  refine A.dx 1 ?_
  obtain rfl:=Option.some.inj hF
  exact A.AX.ret [] (.tuple #[.agg #[.int .i64 r27.1.1,.int .i64 r27.1.2.1,.int .i64 r27.1.2.2.1,.int .i64 r27.1.2.2.2.1,.int .i64 r27.1.2.2.2.2.1,.int .i64 r27.1.2.2.2.2.2],.bool true,.int .i64 r27.2]) (fun a w hf hh=>Z.resv3 rfl (Z.rv_n hf rfl Tryz.isAgg29 Tryz.sizeOf29 (A.Hp.blk hh 3) rfl) (Z.rv_t hf rfl) (Z.rv_t hf rfl)) (⟨rfl,rfl,hr29,hr30,hr31,hr32,hr33,hr34,hr35⟩)
 refine A.xl 4 ?_
 refine A.q0 [2] [] [.b 0 0] [(56,.agg #[.int .i64 a1.1,.int .i64 a1.2.1,.int .i64 a1.2.2.1,.int .i64 a1.2.2.2.1,.int .i64 a1.2.2.2.2.1,.int .i64 a1.2.2.2.2.2])] ?_
 refine A.sw 3 [] [.int .i64 a1.1,.int .i64 a1.2.1,.int .i64 a1.2.2.1,.int .i64 a1.2.2.2.1,.int .i64 a1.2.2.2.2.1,.int .i64 a1.2.2.2.2.2] ?_
 refine A.q0 [] [] [.n,.n] [(5,.bool true),(6,.int .i64 0)] ?_
 refine A.dx 1 ?_
 obtain rfl:=Option.some.inj hF
 exact A.AX.ret [] (.tuple #[.agg #[.int .i64 a1.1,.int .i64 a1.2.1,.int .i64 a1.2.2.1,.int .i64 a1.2.2.2.1,.int .i64 a1.2.2.2.2.1,.int .i64 a1.2.2.2.2.2],.bool true,.int .i64 0]) (fun a w hf hh=>Z.resv3 rfl (Z.rv_n hf rfl Tryz.isAgg29 Tryz.sizeOf29 (A.Hp.blk hh 3) rfl) (Z.rv_t hf rfl) (Z.rv_t hf rfl)) (⟨rfl,rfl,h10_,h11_,h12_,h13_,h14_,h15_,(A.hasl .i64 (0) rfl)⟩)
def F.fn_rest_j1 (y2:Int):Option Int:=some y2
def F.fn_rest (a0:Int)(a1:Int):Option Int:=A.gd (a1≠0) (if Int.tmod a0 a1<0 then(A.gd (Z.R64 ((Int.tmod a0 a1)+a1)) (F.fn_rest_j1 ((Int.tmod a0 a1)+a1)))else(F.fn_rest_j1 (Int.tmod a0 a1)))
theorem fn_rest_ok (a0:Int)(a1:Int)(h0_:IntKind.i64.has a0)(h1_:IntKind.i64.has a1)(r:Int)(hF:F.fn_rest a0 a1=some r):
    A.Ct Tryz.prog 126 [.int .i64 a0,.int .i64 a1] [] [] (fun v H'=>v=.int .i64 r∧H'=[]∧IntKind.i64.has r):=by
 refine A.Ct.enter Tryz.func126 rfl Tryz.ntmps126 rfl fun w0 F0=>?_
 rw[F.fn_rest]at hF
 refine A.xl 1 ?_
 refine A.q0 [] [] [.n] [] ?_
 refine A.dl 2 ?_
 obtain⟨hc1,hF⟩:=A.gd_some hF
 refine A.q [] [] [.n,.n,.n,.n] [a1≠0] [(0,.int .i64 (Int.tmod a0 a1))] hc1 ?_
 refine A.dx 1 ?_
 refine A.AX.join [] [] (fun nl nh=>∃(y2:Int),nl=[(0,.int .i64 y2)]∧nh=[]∧IntKind.i64.has y2∧F.fn_rest_j1 y2=some r) ?_ ?_
 ·refine A.xl 1 ?_
  refine A.q0 [] [] [.n,.n] [(9,.bool (decide (Int.tmod a0 a1<0)))] ?_
  refine A.dx 1 ?_
  refine A.AX.cnd rfl hF (fun hb hF=>?_) (fun hb hF=>?_)
  ·refine A.xl 0 ?_
   obtain⟨hc4,hF⟩:=A.gd_some hF
   refine A.q [] [] [.n,.n,.n,.n] [Z.R64 ((Int.tmod a0 a1)+a1)] [(0,.int .i64 ((Int.tmod a0 a1)+a1))] hc4 ?_
   refine A.AL.done ?_
   exact A.j ⟨((Int.tmod a0 a1)+a1),rfl,rfl,(Z.i64_has hc4),hF⟩
  refine A.xe 1 ?_
  exact A.j ⟨(Int.tmod a0 a1),rfl,rfl,(A.tmod_has h0_),hF⟩
 rintro _ _ ⟨y2,rfl,rfl,hy3,hF⟩
 rw[F.fn_rest_j1]at hF
 refine A.xl 1 ?_
 refine A.q0 [] [] [.n,.n] [(4,.int .i64 y2)] ?_
 refine A.dx 1 ?_
 obtain rfl:=Option.some.inj hF
 exact A.rt1 [] ⟨rfl,rfl,hy3⟩
def F.fn_upper_j1 (k1:(List UInt8)→Int→Option ByteArray)(y5:Int)(xs8:List UInt8):Option ByteArray:=A.gd (Z.R64 (y5+1)) (k1 xs8 (y5+1))
def F.fn_upper_l2 (a0:ByteArray):Nat→(List UInt8)→Int→Option ByteArray
 |0,_,_=>none
 |f+1,xs3,y5=>if y5<((a0.data.toList).length:Int)then((A.ix xs3 y5).bind fun x11=>(if(bif decide ((97:Int)≤(x11.toNat:Int))then decide ((x11.toNat:Int)≤122)else false)=true then((A.ix xs3 y5).bind fun x13=>(F.fn_upper_j1 (F.fn_upper_l2 a0 f) y5 (xs3.set y5.toNat (A.b8 ((IntKind.u8.wrap ((x11.toNat:Int)-97))+65)))))else(F.fn_upper_j1 (F.fn_upper_l2 a0 f) y5 xs3)))else(some (ByteArray.mk (xs3).toArray))
def F.fn_upper (a0:ByteArray):Option ByteArray:=F.fn_upper_l2 a0 A.FU a0.data.toList 0
theorem fn_upper_ok (a0:ByteArray)(h0_:a0.size≤maxLen)(r:ByteArray)(hF:F.fn_upper a0=some r):
    A.Ct Tryz.prog 124 [.string a0] [] [] (fun v H'=>v=.string r∧H'=[]∧r.size≤maxLen):=by
 refine A.Ct.enter Tryz.func124 rfl Tryz.ntmps124 rfl fun w0 F0=>?_
 rw[F.fn_upper]at hF
 refine A.xl 1 ?_
 refine A.q0 [] [] [.n] [] ?_
 refine A.dl 2 ?_
 refine A.q0 [] [] [.n] [(6,.string a0)] ?_
 refine A.AL.cvb 0 h0_ fun g1 c2=>?_
 refine A.q0 [] [] [.n] [(3,.slice (some ⟨g1,0,none⟩) ((a0.data.toList).length) c2)] ?_
 refine A.dl 3 ?_
 refine A.q0 [] [] [.n,.n,.n] [(8,.slice (some ⟨g1,0,none⟩) ((a0.data.toList).length) c2),(9,.int .i64 ((a0.data.toList).length:Int)),(10,.int .i64 0)] ?_
 refine A.dx 2 ?_
 refine A.lp_ [3,8,9] [] (fun f nl nh=>∃(xs3:List UInt8),∃(y5:Int),nl=[(10,.int .i64 y5)]∧nh=[(0,.ob g1 (A.Bs 5 c2 xs3))]∧(a0.data.toList).length=xs3.length∧IntKind.i64.has y5∧F.fn_upper_l2 a0 f xs3 y5=some r) ⟨a0.data.toList,0,rfl,rfl,rfl,(A.hasl .i64 (0) rfl),hF⟩ ?_
 rintro f7 _ _ ⟨xs3,y5,rfl,rfl,hn4,hy6,hF⟩
 rcases f7 with _|f7
 ·exact A.no0 hF
 rw[F.fn_upper_l2]at hF
 refine A.xl 1 ?_
 refine A.q0 [] [] [.n] [(11,.bool (decide (y5<((a0.data.toList).length:Int))))] ?_
 refine A.dx 2 ?_
 refine A.AX.cnd rfl hF (fun hb hF=>?_) (fun hb hF=>?_)
 ·refine A.xx 2 ?_
  refine A.AX.join [3,8,9,10] [] (fun nl nh=>∃(xs8:List UInt8),nl=[]∧nh=[(0,.ob g1 (A.Bs 5 c2 xs8))]∧(a0.data.toList).length=xs8.length∧F.fn_upper_j1 (F.fn_upper_l2 a0 f7) y5 xs8=some r) ?_ ?_
  ·refine A.xl 2 ?_
   refine A.q0 [] [] [.n] [(12,.int .i64 y5)] ?_
   obtain⟨x11,hv12,hF⟩:=A.bd_some hF
   refine A.AL.ixB 0 5 hv12 hn4 ?_
   refine A.q0 [] [5] [.e 0 0,.n,.n] [(4,.int .i64 y5),(5,.int .u8 (x11.toNat:Int))] ?_
   refine A.dl 2 ?_
   refine A.q0 [] [] [.n,.n,.n,.sy .n,.sy .n,.pk] [(20,.bool (bif decide ((97:Int)≤(x11.toNat:Int))then decide ((x11.toNat:Int)≤122)else false))] ?_
   refine A.dx 1 ?_
   refine A.AX.cnb rfl hF (fun hb hF=>?_) (fun hb hF=>?_)
   ·refine A.xl 0 ?_
    refine A.q0 [] [] [.n,.n,.n,.n,.n] [(21,.slice (some ⟨g1,0,none⟩) ((a0.data.toList).length) c2),(22,.int .i64 y5),(25,.int .u8 (IntKind.u8.wrap ((IntKind.u8.wrap ((x11.toNat:Int)-97))+65)))] ?_
    obtain⟨x13,hv14,hF⟩:=A.bd_some hF
    refine A.AL.ixB 0 6 hv14 hn4 ?_
    refine A.AL.stB 0 6 [5,6] (A.b8 ((IntKind.u8.wrap ((x11.toNat:Int)-97))+65)) hv14 (A.b8_wrap _) ?_
    refine A.de 1 ?_
    exact A.j ⟨(xs3.set y5.toNat (A.b8 ((IntKind.u8.wrap ((x11.toNat:Int)-97))+65))),rfl,rfl,(by rw[List.length_set];exact hn4),hF⟩
   refine A.xe 2 ?_
   exact A.j ⟨xs3,rfl,rfl,hn4,hF⟩
  rintro _ _ ⟨xs8,rfl,rfl,hn9,hF⟩
  rw[F.fn_upper_j1]at hF
  refine A.xl 0 ?_
  obtain⟨hc10,hF⟩:=A.gd_some hF
  refine A.q [] [] [.n,.n] [Z.R64 (y5+1)] [(10,.int .i64 (y5+1))] hc10 ?_
  refine A.AL.done ?_
  exact A.j ⟨_,Nat.lt_succ_self _,⟨xs8,(y5+1),rfl,rfl,hn9,(Z.i64_has hc10),hF⟩⟩
 refine A.xl 3 ?_
 refine A.q0 [] [] [.n] [(28,.slice (some ⟨g1,0,none⟩) ((a0.data.toList).length) c2)] ?_
 refine A.okB 0 fun hl15=>?_
 refine A.AL.cbs 0 hn4 ?_
 refine A.q0 [] [] [.n] [(2,.string (ByteArray.mk (xs3).toArray))] ?_
 refine A.dx 1 ?_
 obtain rfl:=Option.some.inj hF
 exact A.rt1 [] ⟨rfl,rfl,(A.mk_le hl15)⟩
def F.slices_Reverse_rune_rune_l1:Nat→(List Int)→Int→Int→Option (List Int)
 |0,_,_,_=>none
 |f+1,xs4,y6,y8=>if y6<y8 then((A.ix xs4 y8).bind fun x11=>((A.ix xs4 y6).bind fun x16=>((A.ix xs4 y6).bind fun x21=>((A.ix (xs4.set y6.toNat x11) y8).bind fun x26=>(A.gd (Z.R64 (y6+1)∧Z.R64 (y8-1)) ((F.slices_Reverse_rune_rune_l1 f) ((xs4.set y6.toNat x11).set y8.toNat x16) (y6+1) (y8-1)))))))else(some xs4)
def F.slices_Reverse_rune_rune (a0:(List Int)):Option (List Int):=A.gd (Z.R64 (((a0).length:Int)-1)) (F.slices_Reverse_rune_rune_l1 A.FU a0 0 (((a0).length:Int)-1))
theorem slices_Reverse_rune_rune_ok (a0:(List Int))(A0_:Option Addr)(c1_:Nat)(r:(List Int))(hF:F.slices_Reverse_rune_rune a0=some r):
    A.Ct Tryz.prog 125 [.slice A0_ ((a0).length) c1_] [(0,.own (Z.Ty.int .i32) 21 A0_ c1_ a0)] (Z.obl A0_++[]) (fun v H'=>v=.tuple #[]∧H'=[(0,.own (Z.Ty.int .i32) 21 A0_ c1_ r)]∧(r).length=a0.length):=by
 refine A.Ct.enter Tryz.func125 rfl Tryz.ntmps125 rfl fun w0 F0=>?_
 rw[F.slices_Reverse_rune_rune]at hF
 refine A.xl 1 ?_
 obtain⟨hc1,hF⟩:=A.gd_some hF
 refine A.q [] [] [.n,.n,.n,.n,.n] [Z.R64 (((a0).length:Int)-1)] [(2,.int .i64 0),(3,.int .i64 (((a0).length:Int)-1))] hc1 ?_
 refine A.dx 2 ?_
 refine A.lp_ [0] [] (fun f nl nh=>∃(xs4:List Int),∃(y6:Int),∃(y8:Int),nl=[(2,.int .i64 y6),(3,.int .i64 y8)]∧nh=[(0,.own (Z.Ty.int .i32) 21 A0_ c1_ xs4)]∧(a0).length=xs4.length∧IntKind.i64.has y6∧IntKind.i64.has y8∧F.slices_Reverse_rune_rune_l1 f xs4 y6 y8=some r) ⟨a0,0,(((a0).length:Int)-1),rfl,rfl,rfl,(A.hasl .i64 (0) rfl),(Z.i64_has hc1),hF⟩ ?_
 rintro f10 _ _ ⟨xs4,y6,y8,rfl,rfl,hn5,hy7,hy9,hF⟩
 rcases f10 with _|f10
 ·exact A.no0 hF
 rw[F.slices_Reverse_rune_rune_l1]at hF
 refine A.xl 2 ?_
 refine A.q0 [] [] [.n,.n,.n] [(9,.bool (decide (y6<y8)))] ?_
 refine A.dx 1 ?_
 refine A.AX.cnd rfl hF (fun hb hF=>?_) (fun hb hF=>?_)
 ·refine A.xx 4 ?_
  refine A.AX.dr mixed 13 16 (A.mb 16 0) ?_
  refine A.hq A.pb [] [0] [] [] (A.mb 16 819) 10 [(0,.n),(1,.n),(4,.n),(5,.n),(8,.n),(9,.n)] [(14,.slice A0_ ((a0).length) c1_),(15,.int .i64 y6),(18,.slice A0_ ((a0).length) c1_),(19,.int .i64 y8),(22,.slice A0_ ((a0).length) c1_),(23,.int .i64 y6)] ?_
  refine A.AH.qp A.pb [0] (A.mb 16 831) 8 [(2,.n),(3,.n)] [(16,.slice A0_ ((a0).length) c1_),(17,.int .i64 y8)] ?_
  refine A.cst 18 (Z.slice_n (show(a0).length=(xs4).length from hn5)) ?_
  obtain⟨x11,hv12,hF⟩:=A.bd_some hF
  refine A.AH.pko 0 9 hv12 fun ho13=>?_
  intro g15 hA14
  refine A.AH.v A.pb [0] [0,9] 6 (A.mb 16 895) rfl (fun a w hf hh=>A.r_ixo (t:=(Z.Ty.int .i32)) hv12 hA14 hf) ?_
  refine A.hq A.pb [0,9] [0,9] [] [9] (A.mb 16 1023) 6 [(7,.e 0 0)] [(21,.int .i32 x11)] ?_
  refine A.cst 22 (Z.slice_n (show(a0).length=(xs4).length from hn5)) ?_
  obtain⟨x16,hv17,hF⟩:=A.bd_some hF
  refine A.AH.pko 0 10 hv17 fun ho18=>?_
  intro g20 hA19
  refine A.AH.v A.pb [0,9] [0,9,10] 10 (A.mb 16 2047) rfl (fun a w hf hh=>A.r_ixo (t:=(Z.Ty.int .i32)) hv17 hA19 hf) ?_
  refine A.hq A.pb [0,9,10] [0,9,10] [] [10] (A.mb 16 4095) 4 [(11,.e 0 0)] [(25,.int .i32 x16)] ?_
  refine A.cst 14 (Z.slice_n (show(a0).length=(xs4).length from hn5)) ?_
  obtain⟨x21,hv22,hF⟩:=A.bd_some hF
  refine A.AH.pko 0 11 hv22 fun ho23=>?_
  intro g25 hA24
  refine A.AH.v A.pb [0,9,10] [0,9,10,11] 12 (A.mb 16 8191) rfl (fun a w hf hh=>A.r_ixo (t:=(Z.Ty.int .i32)) hv22 hA24 hf) ?_
  refine A.AH.one 13 ?_
  refine A.AL.setel 0 11 [9,10,11] (o:=0) (m:=1) (t:=(Z.Ty.int .i32)) (new:=[.int .i32 x11]) (es:=[.int .i32 x21]) x11 hv22 hA24 ⟨rfl,ho13⟩ ?_
  refine A.AH.nm (A.mb 16 16383) ?_
  refine A.AH.bh 15 ?_
  refine A.cst 16 (Z.slice_n (show(a0).length=(xs4.set y6.toNat x11).length from(by rw[List.length_set];exact hn5))) ?_
  obtain⟨x26,hv27,hF⟩:=A.bd_some hF
  refine A.AH.pko 0 12 hv27 fun ho28=>?_
  intro g30 hA29
  refine A.AH.v A.pb [] [0,12] 14 (A.mb 16 32767) rfl (fun a w hf hh=>A.r_ixo (t:=(Z.Ty.int .i32)) hv27 hA29 hf) ?_
  refine A.AH.one 15 ?_
  refine A.AL.setel 0 12 [12] (o:=0) (m:=1) (t:=(Z.Ty.int .i32)) (new:=[.int .i32 x16]) (es:=[.int .i32 x26]) x16 hv27 hA29 ⟨rfl,ho18⟩ ?_
  refine A.AH.nm (A.mb 16 65535) ?_
  refine A.AH.done ?_
  refine A.el 2 ?_
  obtain⟨hc31,hF⟩:=A.gd_some hF
  refine A.q [] [] [.n,.n,.n,.n,.n,.n] [Z.R64 (y6+1),Z.R64 (y8-1)] [(2,.int .i64 (y6+1)),(3,.int .i64 (y8-1))] hc31 ?_
  refine A.AL.done ?_
  exact A.j ⟨_,Nat.lt_succ_self _,⟨((xs4.set y6.toNat x11).set y8.toNat x16),(y6+1),(y8-1),rfl,rfl,(by rw[List.length_set];exact(by rw[List.length_set];exact hn5)),(Z.i64_has hc31.1),(Z.i64_has hc31.2),hF⟩⟩
 refine A.xe 1 ?_
 obtain rfl:=Option.some.inj hF
 exact A.AE.ret [(0,0)] (.tuple #[]) (fun a w hf hh=>Z.res0 rfl w) (⟨rfl,rfl,(Eq.symm hn5)⟩)
end Go.Proofs.YtbljnlkhebiniaaGreatDoor
end
section
set_option linter.unusedVariables false
set_option linter.unusedSimpArgs false
set_option maxRecDepth 20000
set_option maxHeartbeats 8000000
set_option synthInstance.maxSize 1000000
set_option synthInstance.maxHeartbeats 400000
namespace Go.Proofs.YtbljnlkhebiniaaGreatDoor
open Go.RowKit
def F.fn_Map_j1 (y11:Int)(y13:ByteArray):Option (D43×Int):=some ((y11,y13),0)
def F.fn_Map (a0:D23)(a1:D43):Option (D43×Int):=(F.fn_both 2 (a0.1,a0.2.1,a0.2.2) (a1.1,a1.2)).bind fun r4=>(if r4≠0 then(some ((0,ByteArray.mk #[]),r4))else((F.fn_runes a1.2).bind fun r7=>(if a0.1=2 then((F.fn_upper a1.2).bind fun r15=>(F.fn_Map_j1 a1.1 r15))else(if a0.1=3 then(A.gd (0≤min ((r7).length:Int) a0.2.1∧(min ((r7).length:Int) a0.2.1).toNat≤(r7).length) (A.gd ((runesBytes (List.take ((min ((r7).length:Int) a0.2.1).toNat) r7)).size≤9223372036854775807) (F.fn_Map_j1 a1.1 (runesBytes (List.take ((min ((r7).length:Int) a0.2.1).toNat) r7)))))else(if a0.1=4 then((F.slices_Reverse_rune_rune r7).bind fun r22=>(A.gd ((runesBytes r22).size≤9223372036854775807) (F.fn_Map_j1 a1.1 (runesBytes r22))))else(if a0.1=5 then(A.gd (a1.2.size+a0.2.2.size≤9223372036854775807) ((F.rec_Cut (a1.2++a0.2.2) 64).bind fun r27=>(F.fn_Map_j1 a1.1 r27)))else(if a0.1=6 then((F.fn_rest a1.1 a0.2.1).bind fun r30=>(F.fn_Map_j1 r30 a1.2))else(if a0.1=7 then(F.fn_Map_j1 ((r7).length:Int) a1.2)else(if a0.1=8 then(if(0:Int)<((r7).length:Int)then((A.ix r7 0).bind fun x34=>(A.gd (Z.R64 (x34)) (F.fn_Map_j1 x34 a1.2)))else(F.fn_Map_j1 0 a1.2))else(F.fn_Map_j1 a1.1 a1.2))))))))))
theorem fn_Map_ok (a0:D23)(a1:D43)(h0_:IntKind.i64.has a0.1)(h1_:IntKind.i64.has a0.2.1)(h2_:a0.2.2.size≤maxLen)(h3_:IntKind.i64.has a1.1)(h4_:a1.2.size≤maxLen)(r:D43×Int)(hF:F.fn_Map a0 a1=some r):
    A.Ct Tryz.prog 89 [.agg #[.int .i64 a0.1,.int .i64 a0.2.1,.string a0.2.2],.agg #[.int .i64 a1.1,.string a1.2]] [(0,.el none 1 0 A.tabF),(1,.el none 2 0 A.tabA)] [] (fun v H'=>v=.tuple #[.agg #[.int .i64 r.1.1,.string r.1.2],.int .i64 r.2]∧H'=[]∧IntKind.i64.has r.1.1∧r.1.2.size≤maxLen∧IntKind.i64.has r.2):=by
 refine A.Ct.enter Tryz.func89 rfl Tryz.ntmps89 rfl fun w0 F0=>?_
 rw[F.fn_Map]at hF
 refine A.xl 1 ?_
 refine A.AL.box 2 (cs:=[.int .i64 a0.1,.int .i64 a0.2.1,.string a0.2.2]) fun g1=>?_
 refine A.AL.box 3 (cs:=[.int .i64 a1.1,.string a1.2]) fun g2=>?_
 refine A.AL.alloc 4 (cs:=[.int .i64 0,.string (ByteArray.mk #[])]) Tryz.zeroValue44 fun g3=>?_
 refine A.q0 [] [] [.n] [] ?_
 refine A.dl 3 ?_
 refine A.q0 [2,3] [] [.b 0 0,.b 1 0] [(8,.agg #[.int .i64 a0.1,.int .i64 a0.2.1,.string a0.2.2]),(9,.agg #[.int .i64 a1.1,.string a1.2])] ?_
 obtain⟨r4,hv5,hF⟩:=A.bd_some hF
 refine A.AL.call 5 [] (first:=[]) (cap:=[]) cf102 (fn_both_ok 2 (a0.1,a0.2.1,a0.2.2) (a1.1,a1.2) (A.hasl .i64 (2) rfl) h0_ h1_ h2_ h3_ h4_ r4 hv5) (.s 0 (.s 1 .nil)) ?_
 rintro _ _ ⟨rfl,rfl,hr6⟩
 refine⟨by kernel_rfl,?_⟩
 refine A.q0 [] [] [.n] [(6,.int .i64 r4)] ?_
 refine A.dl 2 ?_
 refine A.q0 [] [] [.n,.n] [(12,.bool (decide (r4≠0)))] ?_
 refine A.dx 1 ?_
 refine A.AX.cnd rfl hF (fun hb hF=>?_) (fun hb hF=>?_)
 ·refine A.xl 1 ?_
  refine A.q0 [] [] [.n,.n] [(13,.agg #[.int .i64 0,.string (ByteArray.mk #[])]),(14,.int .i64 r4)] ?_
  refine A.sw 4 [] [.int .i64 0,.string (ByteArray.mk #[])] ?_
  refine A.q0 [] [] [.n] [(5,.int .i64 r4)] ?_
  refine A.dx 1 ?_
  obtain rfl:=Option.some.inj hF
  exact A.AX.ret [] (.tuple #[.agg #[.int .i64 0,.string (ByteArray.mk #[])],.int .i64 r4]) (fun a w hf hh=>Z.resv2 rfl (Z.rv_n hf rfl Tryz.isAgg44 Tryz.sizeOf44 (A.Hp.blk hh 4) rfl) (Z.rv_t hf rfl)) (⟨rfl,rfl,(A.hasl .i64 (0) rfl),(A.szl (ByteArray.mk #[]) rfl),hr6⟩)
 refine A.xl 3 ?_
 refine A.q0 [3] [] [.n,.b 0 1] [(16,.string a1.2)] ?_
 obtain⟨r7,hv8,hF⟩:=A.bd_some hF
 refine A.AL.call 45 [] (first:=[]) (cap:=[]) cf103 (fn_runes_ok a1.2 h4_ r7 hv8) .nil ?_
 rintro _ _ ⟨A9,c10,rfl,rfl⟩
 refine⟨by kernel_rfl,?_⟩
 refine A.q0 [] [] [.n] [(7,.slice A9 ((r7).length) c10)] ?_
 refine A.dx 1 ?_
 refine A.AX.join [3,4] [0,1,4] (fun nl nh=>∃(y11:Int),∃(y13:ByteArray),nl=[]∧nh=[(3,.blk g2 44 [.int .i64 y11,.string y13])]∧IntKind.i64.has y11∧y13.size≤maxLen∧F.fn_Map_j1 y11 y13=some r) ?_ ?_
 ·refine A.xl 1 ?_
  refine A.q0 [2] [] [.n,.b 0 0] [(19,.int .i64 a0.1)] ?_
  refine A.dl 3 ?_
  refine A.q0 [] [] [.n,.n] [(20,.bool (decide (a0.1=2)))] ?_
  refine A.dx 1 ?_
  refine A.AX.cnd rfl hF (fun hb hF=>?_) (fun hb hF=>?_)
  ·refine A.xl 0 ?_
   refine A.q0 [3] [] [.n,.b 0 1] [(23,.string a1.2)] ?_
   obtain⟨r15,hv16,hF⟩:=A.bd_some hF
   refine A.AL.call 85 [] (first:=[]) (cap:=[]) cf124 (fn_upper_ok a1.2 h4_ r15 hv16) .nil ?_
   rintro _ _ ⟨rfl,rfl,hr17⟩
   refine⟨by kernel_rfl,?_⟩
   refine A.q0 [] [] [.n] [(25,.pointer (some ⟨g2,1,none⟩))] ?_
   refine A.AL.store 3 [] (new:=[.string r15]) (cs':=[.int .i64 a1.1,.string r15]) ?_
   refine A.de 1 ?_
   exact A.j ⟨a1.1,r15,rfl,rfl,h3_,hr17,hF⟩
  refine A.xl 1 ?_
  refine A.q0 [] [] [.n,.n] [(26,.bool (decide (a0.1=3)))] ?_
  refine A.dx 1 ?_
  refine A.AX.cnd rfl hF (fun hb hF=>?_) (fun hb hF=>?_)
  ·refine A.xl 0 ?_
   refine A.q0 [2] [] [.n,.n,.n,.n,.b 0 1,.n] [(28,.slice A9 ((r7).length) c10),(33,.int .i64 (min ((r7).length:Int) a0.2.1))] ?_
   obtain⟨hc18,hF⟩:=A.gd_some hF
   refine A.AL.cuto 45 [] (v:=(min ((r7).length:Int) a0.2.1).toNat) (Int.toNat_of_nonneg hc18.1).symm hc18.2 ?_
   obtain⟨hl21,hF⟩:=A.gd_some hF
   refine A.AL.cvr (A.rowO (k:=45) rfl) rfl ?_
   refine A.q0 [] [] [.n] [(36,.pointer (some ⟨g2,1,none⟩))] ?_
   refine A.AL.store 3 [] (new:=[.string (runesBytes (List.take ((min ((r7).length:Int) a0.2.1).toNat) r7))]) (cs':=[.int .i64 a1.1,.string (runesBytes (List.take ((min ((r7).length:Int) a0.2.1).toNat) r7))]) ?_
   refine A.de 1 ?_
   exact A.j ⟨a1.1,(runesBytes (List.take ((min ((r7).length:Int) a0.2.1).toNat) r7)),rfl,rfl,h3_,(A.le_max hl21),hF⟩
  refine A.xl 1 ?_
  refine A.q0 [] [] [.n,.n] [(37,.bool (decide (a0.1=4)))] ?_
  refine A.dx 1 ?_
  refine A.AX.cnd rfl hF (fun hb hF=>?_) (fun hb hF=>?_)
  ·refine A.xl 1 ?_
   refine A.q0 [] [] [.n] [(39,.slice A9 ((r7).length) c10)] ?_
   obtain⟨r22,hv23,hF⟩:=A.bd_some hF
   refine A.AL.call 126 [] (first:=[]) (cap:=[]) cf125 (slices_Reverse_rune_rune_ok r7 A9 c10 r22 hv23) (.m 45 .nil) ?_
   rintro _ _ ⟨rfl,rfl,hr24⟩
   refine⟨by kernel_rfl,?_⟩
   refine A.mvd 126 45 [] ?_
   refine A.dl 1 ?_
   refine A.q0 [] [] [.n] [(41,.slice A9 ((r7).length) c10)] ?_
   refine A.cst 41 (Z.slice_n (show(r7).length=(r22).length from(Eq.symm hr24))) ?_
   obtain⟨hl25,hF⟩:=A.gd_some hF
   refine A.AL.cvr (A.rowO (k:=45) rfl) rfl ?_
   refine A.q0 [] [] [.n] [(43,.pointer (some ⟨g2,1,none⟩))] ?_
   refine A.AL.store 3 [] (new:=[.string (runesBytes r22)]) (cs':=[.int .i64 a1.1,.string (runesBytes r22)]) ?_
   refine A.de 1 ?_
   exact A.j ⟨a1.1,(runesBytes r22),rfl,rfl,h3_,(A.le_max hl25),hF⟩
  refine A.xl 1 ?_
  refine A.q0 [] [] [.n,.n] [(44,.bool (decide (a0.1=5)))] ?_
  refine A.dx 1 ?_
  refine A.AX.cnd rfl hF (fun hb hF=>?_) (fun hb hF=>?_)
  ·refine A.xl 0 ?_
   obtain⟨hc26,hF⟩:=A.gd_some hF
   refine A.q [3,2] [] [.n,.b 0 1,.n,.b 1 2,.n] [a1.2.size+a0.2.2.size≤9223372036854775807] [(50,.string (a1.2++a0.2.2))] hc26 ?_
   obtain⟨r27,hv28,hF⟩:=A.bd_some hF
   refine A.AL.call 166 [] (first:=[]) (cap:=[]) cf62 (rec_Cut_ok (a1.2++a0.2.2) 64 (A.cat_le hc26) (A.hasl .i64 (64) rfl) r27 hv28) .nil ?_
   rintro _ _ ⟨rfl,rfl,hr29⟩
   refine⟨by kernel_rfl,?_⟩
   refine A.q0 [] [] [.n] [(52,.pointer (some ⟨g2,1,none⟩))] ?_
   refine A.AL.store 3 [] (new:=[.string r27]) (cs':=[.int .i64 a1.1,.string r27]) ?_
   refine A.de 1 ?_
   exact A.j ⟨a1.1,r27,rfl,rfl,h3_,hr29,hF⟩
  refine A.xl 1 ?_
  refine A.q0 [] [] [.n,.n] [(53,.bool (decide (a0.1=6)))] ?_
  refine A.dx 1 ?_
  refine A.AX.cnd rfl hF (fun hb hF=>?_) (fun hb hF=>?_)
  ·refine A.xl 0 ?_
   refine A.q0 [3,2] [] [.n,.b 0 0,.n,.b 1 1] [(56,.int .i64 a1.1),(58,.int .i64 a0.2.1)] ?_
   obtain⟨r30,hv31,hF⟩:=A.bd_some hF
   refine A.AL.call 206 [] (first:=[]) (cap:=[]) cf126 (fn_rest_ok a1.1 a0.2.1 h3_ h1_ r30 hv31) .nil ?_
   rintro _ _ ⟨rfl,rfl,hr32⟩
   refine⟨by kernel_rfl,?_⟩
   refine A.q0 [] [] [.n] [(60,.pointer (some ⟨g2,0,none⟩))] ?_
   refine A.AL.store 3 [] (new:=[.int .i64 r30]) (cs':=[.int .i64 r30,.string a1.2]) ?_
   refine A.de 1 ?_
   exact A.j ⟨r30,a1.2,rfl,rfl,hr32,h4_,hF⟩
  refine A.xl 1 ?_
  refine A.q0 [] [] [.n,.n] [(61,.bool (decide (a0.1=7)))] ?_
  refine A.dx 1 ?_
  refine A.AX.cnd rfl hF (fun hb hF=>?_) (fun hb hF=>?_)
  ·refine A.xl 0 ?_
   refine A.q0 [] [] [.n,.n,.n] [(64,.int .i64 ((r7).length:Int)),(65,.pointer (some ⟨g2,0,none⟩))] ?_
   refine A.AL.store 3 [] (new:=[.int .i64 ((r7).length:Int)]) (cs':=[.int .i64 ((r7).length:Int),.string a1.2]) ?_
   refine A.de 1 ?_
   refine A.oko 45 fun hl33=>?_
   exact A.j ⟨((r7).length:Int),a1.2,rfl,rfl,(A.has_len hl33.1),h4_,hF⟩
  refine A.xl 1 ?_
  refine A.q0 [] [] [.n,.n] [(66,.bool (decide (a0.1=8)))] ?_
  refine A.dx 1 ?_
  refine A.AX.cnd rfl hF (fun hb hF=>?_) (fun hb hF=>?_)
  ·refine A.xl 1 ?_
   refine A.q0 [] [] [.n] [(68,.pointer (some ⟨g2,0,none⟩))] ?_
   refine A.AL.store 3 [] (new:=[.int .i64 0]) (cs':=[.int .i64 0,.string a1.2]) ?_
   refine A.dl 2 ?_
   refine A.q0 [] [] [.n,.n,.n] [(71,.bool (decide ((0:Int)<((r7).length:Int))))] ?_
   refine A.dx 1 ?_
   refine A.AX.cnd rfl hF (fun hb hF=>?_) (fun hb hF=>?_)
   ·refine A.xl 0 ?_
    refine A.q0 [] [] [.n] [(72,.slice A9 ((r7).length) c10)] ?_
    obtain⟨x34,hv35,hF⟩:=A.bd_some hF
    refine A.AL.ixo 45 246 hv35 fun ho36=>?_
    intro g37 hA38
    obtain⟨hc39,hF⟩:=A.gd_some hF
    refine A.q [] [246] [.e 0 0,.n,.n] [Z.R64 (x34)] [(75,.int .i64 x34),(76,.pointer (some ⟨g2,0,none⟩))] hc39 ?_
    refine A.AL.store 3 [] (new:=[.int .i64 x34]) (cs':=[.int .i64 x34,.string a1.2]) ?_
    refine A.de 1 ?_
    exact A.j ⟨x34,a1.2,rfl,rfl,(Z.i64_has hc39),h4_,hF⟩
   refine A.xe 2 ?_
   exact A.j ⟨0,a1.2,rfl,rfl,(A.hasl .i64 (0) rfl),h4_,hF⟩
  refine A.xe 2 ?_
  exact A.j ⟨a1.1,a1.2,rfl,rfl,h3_,h4_,hF⟩
 rintro _ _ ⟨y11,y13,rfl,rfl,hy12,hy14,hF⟩
 rw[F.fn_Map_j1]at hF
 refine A.xl 1 ?_
 refine A.q0 [3] [] [.b 0 0] [(77,.agg #[.int .i64 y11,.string y13])] ?_
 refine A.sw 4 [] [.int .i64 y11,.string y13] ?_
 refine A.q0 [] [] [.n] [(5,.int .i64 0)] ?_
 refine A.dx 1 ?_
 obtain rfl:=Option.some.inj hF
 exact A.AX.ret [] (.tuple #[.agg #[.int .i64 y11,.string y13],.int .i64 0]) (fun a w hf hh=>Z.resv2 rfl (Z.rv_n hf rfl Tryz.isAgg44 Tryz.sizeOf44 (A.Hp.blk hh 4) rfl) (Z.rv_t hf rfl)) (⟨rfl,rfl,hy12,hy14,(A.hasl .i64 (0) rfl)⟩)
def F.fn_Filter (a0:D23)(a1:D43):Option (Bool×Int):=(F.fn_both 3 (a0.1,a0.2.1,a0.2.2) (a1.1,a1.2)).bind fun r3=>(if r3≠0 then(some (false,r3))else(if a0.1=11 then(A.gd (a0.2.1≠0) (some (decide (Int.tmod a1.1 a0.2.1=0),0)))else(if a0.1=12 then((F.strings_Contains a1.2 a0.2.2).bind fun r7=>(some (r7,0)))else((F.fn_runes a1.2).bind fun r9=>(some (decide (a0.2.1≤((r9).length:Int)),0))))))
theorem fn_Filter_ok (a0:D23)(a1:D43)(m5_:Int)(h0_:IntKind.i64.has a0.1)(h1_:IntKind.i64.has a0.2.1)(h2_:a0.2.2.size≤maxLen)(h3_:IntKind.i64.has a1.1)(h4_:a1.2.size≤maxLen)(r:Bool×Int)(hF:F.fn_Filter a0 a1=some r):
    A.Ct Tryz.prog 90 [.agg #[.int .i64 a0.1,.int .i64 a0.2.1,.string a0.2.2],.agg #[.int .i64 a1.1,.string a1.2]] [(0,.el none 1 0 A.tabF),(1,.el none 2 0 A.tabA),(2,.el none 0 0 [.int .i64 m5_])] [] (fun v H'=>v=.tuple #[.bool r.1,.int .i64 r.2]∧H'=[]∧IntKind.i64.has r.2):=by
 refine A.Ct.enter Tryz.func90 rfl Tryz.ntmps90 rfl fun w0 F0=>?_
 rw[F.fn_Filter]at hF
 refine A.xl 1 ?_
 refine A.AL.box 3 (cs:=[.int .i64 a0.1,.int .i64 a0.2.1,.string a0.2.2]) fun g1=>?_
 refine A.AL.box 4 (cs:=[.int .i64 a1.1,.string a1.2]) fun g2=>?_
 refine A.q0 [] [] [.n,.n] [] ?_
 refine A.dl 3 ?_
 refine A.q0 [3,4] [] [.b 0 0,.b 1 0] [(7,.agg #[.int .i64 a0.1,.int .i64 a0.2.1,.string a0.2.2]),(8,.agg #[.int .i64 a1.1,.string a1.2])] ?_
 obtain⟨r3,hv4,hF⟩:=A.bd_some hF
 refine A.AL.call 5 [] (first:=[]) (cap:=[]) cf102 (fn_both_ok 3 (a0.1,a0.2.1,a0.2.2) (a1.1,a1.2) (A.hasl .i64 (3) rfl) h0_ h1_ h2_ h3_ h4_ r3 hv4) (.s 0 (.s 1 .nil)) ?_
 rintro _ _ ⟨rfl,rfl,hr5⟩
 refine⟨by kernel_rfl,?_⟩
 refine A.q0 [] [] [.n] [(6,.int .i64 r3)] ?_
 refine A.dl 2 ?_
 refine A.q0 [] [] [.n,.n] [(11,.bool (decide (r3≠0)))] ?_
 refine A.dx 1 ?_
 refine A.AX.cnd rfl hF (fun hb hF=>?_) (fun hb hF=>?_)
 ·refine A.xl 1 ?_
  refine A.q0 [] [] [.n,.n,.n] [(4,.bool false),(5,.int .i64 r3)] ?_
  refine A.dx 1 ?_
  obtain rfl:=Option.some.inj hF
  exact A.rt2 [] ⟨rfl,rfl,hr5⟩
 refine A.xl 4 ?_
 refine A.q0 [3] [] [.n,.b 0 0] [(14,.int .i64 a0.1)] ?_
 refine A.dl 3 ?_
 refine A.q0 [] [] [.n,.n] [(15,.bool (decide (a0.1=11)))] ?_
 refine A.dx 1 ?_
 refine A.AX.cnd rfl hF (fun hb hF=>?_) (fun hb hF=>?_)
 ·refine A.xl 1 ?_
  obtain⟨hc6,hF⟩:=A.gd_some hF
  refine A.q [4,3] [] [.n,.b 0 0,.n,.b 1 1,.n,.n,.n,.n] [a0.2.1≠0] [(4,.bool (decide (Int.tmod a1.1 a0.2.1=0))),(5,.int .i64 0)] hc6 ?_
  refine A.dx 1 ?_
  obtain rfl:=Option.some.inj hF
  exact A.rt2 [] ⟨rfl,rfl,(A.hasl .i64 (0) rfl)⟩
 refine A.xl 1 ?_
 refine A.q0 [] [] [.n,.n] [(23,.bool (decide (a0.1=12)))] ?_
 refine A.dx 1 ?_
 refine A.AX.cnd rfl hF (fun hb hF=>?_) (fun hb hF=>?_)
 ·refine A.xl 1 ?_
  refine A.q0 [4,3] [] [.n,.b 0 1,.n,.b 1 2] [(26,.string a1.2),(28,.string a0.2.2)] ?_
  obtain⟨r7,hv8,hF⟩:=A.bd_some hF
  refine A.AL.call 45 [] (first:=[]) (cap:=[]) cf127 (strings_Contains_ok a1.2 a0.2.2 m5_ h4_ h2_ r7 hv8) (.s 2 .nil) ?_
  rintro _ _ ⟨rfl,rfl⟩
  refine⟨by kernel_rfl,?_⟩
  refine A.q0 [] [] [.n,.n] [(4,.bool r7),(5,.int .i64 0)] ?_
  refine A.dx 1 ?_
  obtain rfl:=Option.some.inj hF
  exact A.rt2 [] ⟨rfl,rfl,(A.hasl .i64 (0) rfl)⟩
 refine A.xx 4 ?_
 refine A.AX.dr mixed 9 9 (A.mb 9 0) ?_
 refine A.hq A.pb [] [0,1,2,3,4] [4,3] [] (A.mb 9 51) 5 [(0,.n),(4,.n),(1,.b 0 1),(5,.b 1 1)] [(31,.string a1.2),(35,.int .i64 a0.2.1)] ?_
 refine A.AH.one 2 ?_
 obtain⟨r9,hv10,hF⟩:=A.bd_some hF
 refine A.AL.call 85 [] (first:=[]) (cap:=[]) cf103 (fn_runes_ok a1.2 h4_ r9 hv10) .nil ?_
 rintro _ _ ⟨A11,c12,rfl,rfl⟩
 refine⟨by kernel_rfl,?_⟩
 refine A.AH.nx (A.mb 9 55) [0,1,2,3,4] ?_
 refine A.hq A.pb [0,1,2,3,4] [0,1,2,3,4,85] [] [] (A.mb 9 511) 0 [(3,.n),(6,.n),(7,.n),(8,.n)] [(4,.bool (decide (a0.2.1≤((r9).length:Int)))),(5,.int .i64 0)] ?_
 refine A.AH.done ?_
 refine A.ex 1 ?_
 obtain rfl:=Option.some.inj hF
 exact A.rt2 [] ⟨rfl,rfl,(A.hasl .i64 (0) rfl)⟩
def F.fn_words_l1 (a0:ByteArray)(a1:Int):Nat→Nat→(List ByteArray)→(List Int)→Option (List ByteArray)
 |0,_,_,_=>none
 |f+1,p2,xs5,xs8=>if p2<a0.size then(if((Utf8.decode a0 p2).1:Int)≠a1 then(A.gd ((List.length (α:=Int) xs8+List.length (α:=Int) [((Utf8.decode a0 p2).1:Int)])*4≤140737488355328) ((F.fn_words_l1 a0 a1 f) (p2+(Utf8.decode a0 p2).2) xs5 (xs8++[((Utf8.decode a0 p2).1:Int)])))else(A.gd ((runesBytes xs8).size≤9223372036854775807) (A.gd ((List.length (α:=ByteArray) xs5+List.length (α:=ByteArray) [runesBytes xs8])*16≤140737488355328) ((F.fn_words_l1 a0 a1 f) (p2+(Utf8.decode a0 p2).2) (xs5++[runesBytes xs8]) []))))else(A.gd ((runesBytes xs8).size≤9223372036854775807) (A.gd ((List.length (α:=ByteArray) xs5+List.length (α:=ByteArray) [runesBytes xs8])*16≤140737488355328) (some (xs5++[runesBytes xs8]))))
def F.fn_words (a0:ByteArray)(a1:Int):Option (List ByteArray):=F.fn_words_l1 a0 a1 A.FU 0 [] []
theorem fn_words_ok (a0:ByteArray)(a1:Int)(h0_:a0.size≤maxLen)(h1_:IntKind.i32.has a1)(r:(List ByteArray))(hF:F.fn_words a0 a1=some r):
    A.Ct Tryz.prog 128 [.string a0,.int .i32 a1] [] [] (fun v H'=>∃(A0':Option Addr) (c1':Nat),v=.slice A0' ((r).length) c1'∧H'=[(0,.own Z.Ty.str 9 A0' c1' r)]):=by
 refine A.Ct.enter Tryz.func128 rfl Tryz.ntmps128 rfl fun w0 F0=>?_
 rw[F.fn_words]at hF
 refine A.xl 1 ?_
 refine A.q0 [] [] [.n] [] ?_
 refine A.dl 2 ?_
 refine A.q0 [] [] [.n] [(5,.slice none 0 0)] ?_
 refine A.dl 2 ?_
 refine A.q0 [] [] [.n] [(6,.slice none 0 0)] ?_
 refine A.dl 3 ?_
 refine A.q0 [] [] [.n] [(9,.string a0)] ?_
 refine A.AL.rgs 0 fun g1=>?_
 refine A.dx 2 ?_
 refine A.nil 9 Z.Ty.str 9 ?_
 refine A.nil 10 (Z.Ty.int .i32) 21 ?_
 refine A.lp_ [1,10] [] (fun f nl nh=>∃(p2:Nat),∃(xs5:List ByteArray),∃(xs8:List Int),∃(A3:Option Addr),∃(c4:Nat),∃(A6:Option Addr),∃(c7:Nat),nl=[(5,.slice A3 ((xs5).length) c4),(6,.slice A6 ((xs8).length) c7)]∧nh=[(0,.si g1 a0 p2),(9,.own Z.Ty.str 9 A3 c4 xs5),(10,.own (Z.Ty.int .i32) 21 A6 c7 xs8)]∧F.fn_words_l1 a0 a1 f p2 xs5 xs8=some r) ⟨0,[],[],none,0,none,0,rfl,rfl,hF⟩ ?_
 rintro f9 _ _ ⟨p2,xs5,xs8,A3,c4,A6,c7,rfl,rfl,hF⟩
 rcases f9 with _|f9
 ·exact A.no0 hF
 rw[F.fn_words_l1]at hF
 refine A.xl 1 ?_
 refine A.AL.nxs 0 [] hF (fun hb10 hF=>?_) (fun hb hF=>?_)
 ·refine A.q0 [] [] [.n] [(12,.bool true)] ?_
  refine A.dx 2 ?_
  refine A.AX.cnt rfl ?_
  refine A.xl 4 ?_
  refine A.q0 [] [] [.n,.n] [(8,.int .i32 ((Utf8.decode a0 p2).1:Int))] ?_
  refine A.dl 3 ?_
  refine A.q0 [] [] [.n,.n,.n] [(16,.bool (decide (((Utf8.decode a0 p2).1:Int)≠a1)))] ?_
  refine A.dx 1 ?_
  refine A.AX.cnd rfl hF (fun hb hF=>?_) (fun hb hF=>?_)
  ·refine A.xl 1 ?_
   refine A.q0 [] [] [.n,.n] [(17,.slice A6 ((xs8).length) c7),(18,.int .i32 ((Utf8.decode a0 p2).1:Int))] ?_
   refine A.AL.bsl 21 (ty:=(Z.Ty.int .i32)) (cs:=[.int .i32 ((Utf8.decode a0 p2).1:Int)]) [((Utf8.decode a0 p2).1:Int)] ⟨⟨rfl,A.dec_has⟩,rfl⟩ (fun g11=>?_) Tryz.zeroValue21 Tryz.sizeOf21
   obtain⟨hl14,hF⟩:=A.gd_some hF
   refine A.AL.app (k:=10) [] (A.rowO (k:=21) rfl) inf21 hl14 fun A12 c13=>?_
   refine A.q0 [] [] [.n] [(6,.slice A12 ((xs8++[((Utf8.decode a0 p2).1:Int)]).length) c13)] ?_
   refine A.de 2 ?_
   exact A.j ⟨_,Nat.lt_succ_self _,⟨(p2+(Utf8.decode a0 p2).2),xs5,(xs8++[((Utf8.decode a0 p2).1:Int)]),A3,c4,A12,c13,rfl,rfl,hF⟩⟩
  refine A.xl 3 ?_
  refine A.q0 [] [] [.n,.n] [(21,.slice A3 ((xs5).length) c4),(22,.slice A6 ((xs8).length) c7)] ?_
  obtain⟨hl15,hF⟩:=A.gd_some hF
  refine A.AL.cvr (A.rowO (k:=10) rfl) rfl ?_
  refine A.AL.bsl 22 (ty:=Z.Ty.str) (cs:=[.string (runesBytes xs8)]) [runesBytes xs8] ⟨⟨rfl,(A.le_max hl15)⟩,rfl⟩ (fun g16=>?_) Tryz.zeroValue9 Tryz.sizeOf9
  obtain⟨hl19,hF⟩:=A.gd_some hF
  refine A.AL.app (k:=9) [] (A.rowO (k:=22) rfl) inf9 hl19 fun A17 c18=>?_
  refine A.q0 [] [] [.n] [(5,.slice A17 ((xs5++[runesBytes xs8]).length) c18)] ?_
  refine A.dl 1 ?_
  refine A.q0 [] [] [.n] [(6,.slice none 0 0)] ?_
  refine A.de 1 ?_
  refine A.nil 23 (Z.Ty.int .i32) 21 ?_
  refine A.mv 10 24 [] ?_
  refine A.mvd 23 10 [] ?_
  exact A.j ⟨_,Nat.lt_succ_self _,⟨(p2+(Utf8.decode a0 p2).2),(xs5++[runesBytes xs8]),[],A17,c18,none,0,rfl,rfl,hF⟩⟩
 refine A.q0 [] [] [.n] [(12,.bool false)] ?_
 refine A.dx 2 ?_
 refine A.AX.cnf rfl ?_
 refine A.xl 3 ?_
 refine A.q0 [] [] [.n,.n] [(26,.slice A3 ((xs5).length) c4),(27,.slice A6 ((xs8).length) c7)] ?_
 obtain⟨hl20,hF⟩:=A.gd_some hF
 refine A.AL.cvr (A.rowO (k:=10) rfl) rfl ?_
 refine A.AL.bsl 25 (ty:=Z.Ty.str) (cs:=[.string (runesBytes xs8)]) [runesBytes xs8] ⟨⟨rfl,(A.le_max hl20)⟩,rfl⟩ (fun g21=>?_) Tryz.zeroValue9 Tryz.sizeOf9
 obtain⟨hl24,hF⟩:=A.gd_some hF
 refine A.AL.app (k:=9) [] (A.rowO (k:=25) rfl) inf9 hl24 fun A22 c23=>?_
 refine A.q0 [] [] [.n] [(4,.slice A22 ((xs5++[runesBytes xs8]).length) c23)] ?_
 refine A.dx 1 ?_
 obtain rfl:=Option.some.inj hF
 exact A.rt1 [(0,9)] ⟨A22,c23,rfl,rfl⟩
end Go.Proofs.YtbljnlkhebiniaaGreatDoor
end
section
set_option linter.unusedVariables false
set_option linter.unusedSimpArgs false
set_option maxRecDepth 20000
set_option maxHeartbeats 8000000
set_option synthInstance.maxSize 1000000
set_option synthInstance.maxHeartbeats 400000
namespace Go.Proofs.YtbljnlkhebiniaaGreatDoor
open Go.RowKit
def F.fn_Split_j1 (k3:(List D43)→Int→Option ((List D43)×Int))(y12:Int)(xs17:List D43):Option ((List D43)×Int):=A.gd (Z.R64 (y12+1)) (k3 xs17 (y12+1))
def F.fn_Split_l2 (a1:D43)(xs8:List ByteArray):Nat→(List D43)→Int→Option ((List D43)×Int)
 |0,_,_=>none
 |f+1,xs11,y12=>if y12<((xs8).length:Int)then((A.ix xs8 y12).bind fun x19=>(if(bif decide (x19≠(ByteArray.mk #[]))then decide (((xs11).length:Int)<4)else false)=true then(A.gd ((List.length (α:=D43) xs11+List.length (α:=D43) [(a1.1,x19)])*24≤140737488355328) (F.fn_Split_j1 (F.fn_Split_l2 a1 xs8 f) y12 (xs11++[(a1.1,x19)])))else(F.fn_Split_j1 (F.fn_Split_l2 a1 xs8 f) y12 xs11)))else(some (xs11,0))
def F.fn_Split_j3 (a1:D43)(xs8:List ByteArray):Option ((List D43)×Int):=F.fn_Split_l2 a1 xs8 A.FU [] 0
def F.fn_Split_l4 (a1:D43):Nat→(List ByteArray)→Nat→Option ((List D43)×Int)
 |0,_,_=>none
 |f+1,xs44,p45=>if p45<a1.2.size then(A.gd ((runesBytes [((Utf8.decode a1.2 p45).1:Int)]).size≤9223372036854775807) (A.gd ((List.length (α:=ByteArray) xs44+List.length (α:=ByteArray) [runesBytes [((Utf8.decode a1.2 p45).1:Int)]])*16≤140737488355328) ((F.fn_Split_l4 a1 f) (xs44++[runesBytes [((Utf8.decode a1.2 p45).1:Int)]]) (p45+(Utf8.decode a1.2 p45).2))))else(F.fn_Split_j3 a1 xs44)
def F.fn_Split (a0:D23)(a1:D43):Option ((List D43)×Int):=(F.fn_both 4 (a0.1,a0.2.1,a0.2.2) (a1.1,a1.2)).bind fun r3=>(if r3≠0 then(some ([],r3))else(if a0.1=22 then((F.fn_runes a0.2.2).bind fun r28=>((A.ix r28 0).bind fun x32=>((F.fn_words a1.2 x32).bind fun r37=>(F.fn_Split_j3 a1 r37))))else(F.fn_Split_l4 a1 A.FU [] 0)))
theorem fn_Split_ok (a0:D23)(a1:D43)(h0_:IntKind.i64.has a0.1)(h1_:IntKind.i64.has a0.2.1)(h2_:a0.2.2.size≤maxLen)(h3_:IntKind.i64.has a1.1)(h4_:a1.2.size≤maxLen)(r:(List D43)×Int)(hF:F.fn_Split a0 a1=some r):
    A.Ct Tryz.prog 91 [.agg #[.int .i64 a0.1,.int .i64 a0.2.1,.string a0.2.2],.agg #[.int .i64 a1.1,.string a1.2]] [(0,.el none 1 0 A.tabF),(1,.el none 2 0 A.tabA)] [] (fun v H'=>∃(A0':Option Addr) (c1':Nat),v=.tuple #[.slice A0' ((r.1).length) c1',.int .i64 r.2]∧H'=[(0,.own T43 44 A0' c1' r.1)]∧IntKind.i64.has r.2):=by
 refine A.Ct.enter Tryz.func91 rfl Tryz.ntmps91 rfl fun w0 F0=>?_
 rw[F.fn_Split]at hF
 refine A.xl 1 ?_
 refine A.AL.box 2 (cs:=[.int .i64 a0.1,.int .i64 a0.2.1,.string a0.2.2]) fun g1=>?_
 refine A.AL.box 3 (cs:=[.int .i64 a1.1,.string a1.2]) fun g2=>?_
 refine A.q0 [] [] [.n,.n] [] ?_
 refine A.dl 3 ?_
 refine A.q0 [2,3] [] [.b 0 0,.b 1 0] [(13,.agg #[.int .i64 a0.1,.int .i64 a0.2.1,.string a0.2.2]),(14,.agg #[.int .i64 a1.1,.string a1.2])] ?_
 obtain⟨r3,hv4,hF⟩:=A.bd_some hF
 refine A.AL.call 4 [] (first:=[]) (cap:=[]) cf102 (fn_both_ok 4 (a0.1,a0.2.1,a0.2.2) (a1.1,a1.2) (A.hasl .i64 (4) rfl) h0_ h1_ h2_ h3_ h4_ r3 hv4) (.s 0 (.s 1 .nil)) ?_
 rintro _ _ ⟨rfl,rfl,hr5⟩
 refine⟨by kernel_rfl,?_⟩
 refine A.q0 [] [] [.n] [(6,.int .i64 r3)] ?_
 refine A.dl 2 ?_
 refine A.q0 [] [] [.n,.n] [(17,.bool (decide (r3≠0)))] ?_
 refine A.dx 1 ?_
 refine A.AX.cnd rfl hF (fun hb hF=>?_) (fun hb hF=>?_)
 ·refine A.xl 1 ?_
  refine A.q0 [] [] [.n,.n,.n] [(4,.slice none 0 0),(5,.int .i64 r3)] ?_
  refine A.dx 1 ?_
  obtain rfl:=Option.some.inj hF
  refine A.nil 44 T43 44 ?_
  exact A.rt2 [(0,44)] ⟨none,0,rfl,rfl,hr5⟩
 refine A.xl 3 ?_
 refine A.q0 [] [] [.n] [(7,.slice none 0 0)] ?_
 refine A.dx 1 ?_
 refine A.nil 137 Z.Ty.str 9 ?_
 refine A.AX.join [3] [0,1,3] (fun nl nh=>∃(xs8:List ByteArray),∃(A6:Option Addr),∃(c7:Nat),nl=[(7,.slice A6 ((xs8).length) c7)]∧nh=[(226,.own Z.Ty.str 9 A6 c7 xs8)]∧F.fn_Split_j3 a1 xs8=some r) ?_ ?_
 ·refine A.xl 1 ?_
  refine A.q0 [2] [] [.n,.b 0 0,.n] [(21,.bool (decide (a0.1=22)))] ?_
  refine A.dx 1 ?_
  refine A.AX.cnd rfl hF (fun hb hF=>?_) (fun hb hF=>?_)
  ·refine A.AX.dr mixed 9 9 (A.mb 9 0) ?_
   refine A.hq A.pb [] [0,1,2,3,137] [3,2] [] (A.mb 9 15) 5 [(0,.n),(2,.n),(1,.b 0 1),(3,.b 1 2)] [(23,.string a1.2),(25,.string a0.2.2)] ?_
   refine A.AH.one 4 ?_
   obtain⟨r28,hv29,hF⟩:=A.bd_some hF
   refine A.AL.call 138 [] (first:=[]) (cap:=[]) cf103 (fn_runes_ok a0.2.2 h2_ r28 hv29) .nil ?_
   rintro _ _ ⟨A30,c31,rfl,rfl⟩
   refine⟨by kernel_rfl,?_⟩
   refine A.AH.nx (A.mb 9 31) [0,1,2,3,137] ?_
   obtain⟨x32,hv33,hF⟩:=A.bd_some hF
   refine A.AH.pko 138 178 hv33 fun ho34=>?_
   intro g36 hA35
   refine A.AH.v A.pb [0,1,2,3,137] [0,1,2,3,137,138,178] 5 (A.mb 9 63) rfl (fun a w hf hh=>A.r_ixo (t:=(Z.Ty.int .i32)) hv33 hA35 hf) ?_
   refine A.hq A.pb [0,1,2,3,137,138,178] [0,1,2,3,137,138,178] [] [178] (A.mb 9 127) 2 [(6,.e 0 0)] [(28,.int .i32 x32)] ?_
   refine A.AH.one 7 ?_
   obtain⟨r37,hv38,hF⟩:=A.bd_some hF
   refine A.AL.call 179 [] (first:=[]) (cap:=[]) cf128 (fn_words_ok a1.2 x32 h4_ ho34 r37 hv38) .nil ?_
   rintro _ _ ⟨A39,c40,rfl,rfl⟩
   refine⟨by kernel_rfl,?_⟩
   refine A.AH.nx (A.mb 9 255) [0,1,2,3,137,138,178] ?_
   refine A.hq A.pb [0,1,2,3,137,138,178] [0,1,2,3,137,138,178,179] [] [] (A.mb 9 511) 0 [(8,.n)] [(7,.slice A39 ((r37).length) c40)] ?_
   refine A.AH.done ?_
   refine A.mv 179 226 [] ?_
   exact A.j ⟨r37,A39,c40,rfl,rfl,hF⟩
  refine A.xl 1 ?_
  refine A.q0 [3] [] [.n,.b 0 1] [(31,.string a1.2)] ?_
  refine A.AL.rgs 219 fun g41=>?_
  refine A.dx 2 ?_
  refine A.lp_ [3,32] [0,1,3] (fun f nl nh=>∃(xs44:List ByteArray),∃(p45:Nat),∃(A42:Option Addr),∃(c43:Nat),nl=[(7,.slice A42 ((xs44).length) c43)]∧nh=[(137,.own Z.Ty.str 9 A42 c43 xs44),(219,.si g41 a1.2 p45)]∧F.fn_Split_l4 a1 f xs44 p45=some r) ⟨[],0,none,0,rfl,rfl,hF⟩ ?_
  rintro f46 _ _ ⟨xs44,p45,A42,c43,rfl,rfl,hF⟩
  rcases f46 with _|f46
  ·exact A.no0 hF
  rw[F.fn_Split_l4]at hF
  refine A.xl 1 ?_
  refine A.AL.nxs 219 [] hF (fun hb47 hF=>?_) (fun hb hF=>?_)
  ·refine A.q0 [] [] [.n] [(34,.bool true)] ?_
   refine A.dx 2 ?_
   refine A.AX.cnt rfl ?_
   refine A.xl 4 ?_
   refine A.q0 [] [] [.n,.n] [(9,.int .i32 ((Utf8.decode a1.2 p45).1:Int))] ?_
   refine A.dl 1 ?_
   refine A.q0 [] [] [.n,.n] [(36,.slice A42 ((xs44).length) c43),(37,.int .i32 ((Utf8.decode a1.2 p45).1:Int))] ?_
   refine A.AL.bsl 224 (ty:=(Z.Ty.int .i32)) (cs:=[.int .i32 ((Utf8.decode a1.2 p45).1:Int)]) [((Utf8.decode a1.2 p45).1:Int)] ⟨⟨rfl,A.dec_has⟩,rfl⟩ (fun g48=>?_) Tryz.zeroValue21 Tryz.sizeOf21
   obtain⟨hl49,hF⟩:=A.gd_some hF
   refine A.AL.cvr (A.rowO (k:=224) rfl) rfl ?_
   refine A.AL.bsl 225 (ty:=Z.Ty.str) (cs:=[.string (runesBytes [((Utf8.decode a1.2 p45).1:Int)])]) [runesBytes [((Utf8.decode a1.2 p45).1:Int)]] ⟨⟨rfl,(A.le_max hl49)⟩,rfl⟩ (fun g50=>?_) Tryz.zeroValue9 Tryz.sizeOf9
   obtain⟨hl53,hF⟩:=A.gd_some hF
   refine A.AL.app (k:=137) [] (A.rowO (k:=225) rfl) inf9 hl53 fun A51 c52=>?_
   refine A.q0 [] [] [.n] [(7,.slice A51 ((xs44++[runesBytes [((Utf8.decode a1.2 p45).1:Int)]]).length) c52)] ?_
   refine A.de 1 ?_
   exact A.j ⟨_,Nat.lt_succ_self _,⟨(xs44++[runesBytes [((Utf8.decode a1.2 p45).1:Int)]]),(p45+(Utf8.decode a1.2 p45).2),A51,c52,rfl,rfl,hF⟩⟩
  refine A.q0 [] [] [.n] [(34,.bool false)] ?_
  refine A.dx 2 ?_
  refine A.AX.cnf rfl ?_
  refine A.xe 1 ?_
  refine A.mv 137 226 [] ?_
  exact A.j ⟨xs44,A42,c43,rfl,rfl,hF⟩
 rintro _ _ ⟨xs8,A6,c7,rfl,rfl,hF⟩
 rw[F.fn_Split_j3]at hF
 refine A.xl 1 ?_
 refine A.q0 [] [] [.n] [(10,.slice none 0 0)] ?_
 refine A.dl 3 ?_
 refine A.q0 [] [] [.n,.n,.n] [(42,.slice A6 ((xs8).length) c7),(43,.int .i64 ((xs8).length:Int)),(44,.int .i64 0)] ?_
 refine A.dx 2 ?_
 refine A.nil 234 T43 44 ?_
 refine A.lp_ [3,42,43] [0,1,3,226] (fun f nl nh=>∃(xs11:List D43),∃(y12:Int),∃(A9:Option Addr),∃(c10:Nat),nl=[(10,.slice A9 ((xs11).length) c10),(44,.int .i64 y12)]∧nh=[(234,.own T43 44 A9 c10 xs11)]∧IntKind.i64.has y12∧F.fn_Split_l2 a1 xs8 f xs11 y12=some r) ⟨[],0,none,0,rfl,rfl,(A.hasl .i64 (0) rfl),hF⟩ ?_
 rintro f14 _ _ ⟨xs11,y12,A9,c10,rfl,rfl,hy13,hF⟩
 rcases f14 with _|f14
 ·exact A.no0 hF
 rw[F.fn_Split_l2]at hF
 refine A.xl 1 ?_
 refine A.q0 [] [] [.n] [(45,.bool (decide (y12<((xs8).length:Int))))] ?_
 refine A.dx 2 ?_
 refine A.AX.cnd rfl hF (fun hb hF=>?_) (fun hb hF=>?_)
 ·refine A.xx 2 ?_
  refine A.AX.join [3,42,43,44] [0,1,3,226] (fun nl nh=>∃(xs17:List D43),∃(A15:Option Addr),∃(c16:Nat),nl=[(10,.slice A15 ((xs17).length) c16)]∧nh=[(234,.own T43 44 A15 c16 xs17)]∧F.fn_Split_j1 (F.fn_Split_l2 a1 xs8 f14) y12 xs17=some r) ?_ ?_
  ·refine A.xl 2 ?_
   obtain⟨x19,hv20,hF⟩:=A.bd_some hF
   refine A.AL.ixo 226 239 hv20 fun ho21=>?_
   intro g22 hA23
   refine A.q0 [] [239] [.e 0 0,.n] [(12,.string x19)] ?_
   refine A.dl 2 ?_
   refine A.q0 [] [] [.n,.n,.n,.sy .n,.sy .n,.sy .n,.pk] [(54,.bool (bif decide (x19≠(ByteArray.mk #[]))then decide (((xs11).length:Int)<4)else false))] ?_
   refine A.dx 1 ?_
   refine A.AX.cnb rfl hF (fun hb hF=>?_) (fun hb hF=>?_)
   ·refine A.xl 0 ?_
    refine A.q0 [3] [] [.n,.n,.b 0 0,.n,.n] [(55,.slice A9 ((xs11).length) c10),(59,.agg #[.int .i64 a1.1,.string x19])] ?_
    refine A.AL.bsl 240 (ty:=T43) (cs:=[.int .i64 a1.1,.string x19]) [(a1.1,x19)] ⟨⟨⟨rfl,h3_⟩,⟨rfl,ho21⟩⟩,rfl⟩ (fun g24=>?_) Tryz.zeroValue44 Tryz.sizeOf44
    obtain⟨hl27,hF⟩:=A.gd_some hF
    refine A.AL.app (k:=234) [] (A.rowO (k:=240) rfl) inf44 hl27 fun A25 c26=>?_
    refine A.q0 [] [] [.n] [(10,.slice A25 ((xs11++[(a1.1,x19)]).length) c26)] ?_
    refine A.de 1 ?_
    exact A.j ⟨(xs11++[(a1.1,x19)]),A25,c26,rfl,rfl,hF⟩
   refine A.xe 2 ?_
   exact A.j ⟨xs11,A9,c10,rfl,rfl,hF⟩
  rintro _ _ ⟨xs17,A15,c16,rfl,rfl,hF⟩
  rw[F.fn_Split_j1]at hF
  refine A.xl 0 ?_
  obtain⟨hc18,hF⟩:=A.gd_some hF
  refine A.q [] [] [.n,.n] [Z.R64 (y12+1)] [(44,.int .i64 (y12+1))] hc18 ?_
  refine A.AL.done ?_
  exact A.j ⟨_,Nat.lt_succ_self _,⟨xs17,(y12+1),A15,c16,rfl,rfl,(Z.i64_has hc18),hF⟩⟩
 refine A.xl 3 ?_
 refine A.q0 [] [] [.n,.n,.n] [(4,.slice A9 ((xs11).length) c10),(5,.int .i64 0)] ?_
 refine A.dx 1 ?_
 obtain rfl:=Option.some.inj hF
 exact A.rt2 [(0,234)] ⟨A9,c10,rfl,rfl,(A.hasl .i64 (0) rfl)⟩
def F.oper_each_j1:Option (List D43):=some []
def F.oper_each (a0:D25)(a1:D43):Option (List D43):=if a0.2.1=2 then((F.fn_Map (a0.2.2.2.1.1,a0.2.2.2.1.2.1,a0.2.2.2.1.2.2) (a1.1,a1.2)).bind fun r3=>(if r3.2=0 then(some [(r3.1.1,r3.1.2)])else(F.oper_each_j1)))else(if a0.2.1=3 then((F.fn_Filter (a0.2.2.2.1.1,a0.2.2.2.1.2.1,a0.2.2.2.1.2.2) (a1.1,a1.2)).bind fun r10=>(if(bif r10.1 then decide (r10.2=0)else false)=true then(some [(a1.1,a1.2)])else(F.oper_each_j1)))else(if a0.2.1=4 then((F.fn_Split (a0.2.2.2.1.1,a0.2.2.2.1.2.1,a0.2.2.2.1.2.2) (a1.1,a1.2)).bind fun r14=>(if r14.2=0 then(some r14.1)else(F.oper_each_j1)))else(some [(a1.1,a1.2)])))
theorem oper_each_ok (a0:D25)(a1:D43)(A2_:Option Addr)(c3_:Nat)(m12_:Int)(h0_:IntKind.i64.has a0.1)(h1_:IntKind.i64.has a0.2.1)(h4_:IntKind.i64.has a0.2.2.2.1.1)(h5_:IntKind.i64.has a0.2.2.2.1.2.1)(h6_:a0.2.2.2.1.2.2.size≤maxLen)(h7_:a0.2.2.2.2.1.size≤maxLen)(h8_:IntKind.i64.has a0.2.2.2.2.2.1)(h9_:IntKind.i64.has a0.2.2.2.2.2.2)(h10_:IntKind.i64.has a1.1)(h11_:a1.2.size≤maxLen)(r:(List D43))(hF:F.oper_each a0 a1=some r):
    A.Ct Tryz.prog 50 [.agg #[.int .i64 a0.1,.int .i64 a0.2.1,.slice A2_ ((a0.2.2.1).length) c3_,.int .i64 a0.2.2.2.1.1,.int .i64 a0.2.2.2.1.2.1,.string a0.2.2.2.1.2.2,.string a0.2.2.2.2.1,.int .i64 a0.2.2.2.2.2.1,.int .i64 a0.2.2.2.2.2.2],.agg #[.int .i64 a1.1,.string a1.2]] [(0,.sh (.slice (Z.Ty.int .i64)) [.slice A2_ (a0.2.2.1).length c3_] a0.2.2.1),(1,.el none 1 0 A.tabF),(2,.el none 2 0 A.tabA),(3,.el none 0 0 [.int .i64 m12_])] [] (fun v H'=>∃(A0':Option Addr) (c1':Nat),v=.slice A0' ((r).length) c1'∧H'=[(0,.own T43 44 A0' c1' r)]):=by
 refine A.Ct.enter Tryz.func50 rfl Tryz.ntmps50 rfl fun w0 F0=>?_
 rw[F.oper_each]at hF
 refine A.xl 1 ?_
 refine A.AL.box 4 (cs:=[.int .i64 a0.1,.int .i64 a0.2.1,.slice A2_ ((a0.2.2.1).length) c3_,.int .i64 a0.2.2.2.1.1,.int .i64 a0.2.2.2.1.2.1,.string a0.2.2.2.1.2.2,.string a0.2.2.2.2.1,.int .i64 a0.2.2.2.2.2.1,.int .i64 a0.2.2.2.2.2.2]) fun g1=>?_
 refine A.AL.box 5 (cs:=[.int .i64 a1.1,.string a1.2]) fun g2=>?_
 refine A.q0 [] [] [.n] [] ?_
 refine A.dx 1 ?_
 refine A.AX.join [] [] (fun nl nh=>nl=[]∧nh=[]∧F.oper_each_j1=some r) ?_ ?_
 ·refine A.xl 1 ?_
  refine A.q0 [4] [] [.n,.b 0 1] [(12,.int .i64 a0.2.1)] ?_
  refine A.dl 3 ?_
  refine A.q0 [] [] [.n,.n] [(15,.bool (decide (a0.2.1=2)))] ?_
  refine A.dx 1 ?_
  refine A.AX.cnd rfl hF (fun hb hF=>?_) (fun hb hF=>?_)
  ·refine A.xl 1 ?_
   refine A.q0 [4,5] [] [.n,.b 0 3,.b 1 0] [(19,.agg #[.int .i64 a0.2.2.2.1.1,.int .i64 a0.2.2.2.1.2.1,.string a0.2.2.2.1.2.2]),(20,.agg #[.int .i64 a1.1,.string a1.2])] ?_
   obtain⟨r3,hv4,hF⟩:=A.bd_some hF
   refine A.AL.call 6 [] (first:=[]) (cap:=[]) cf89 (fn_Map_ok (a0.2.2.2.1.1,a0.2.2.2.1.2.1,a0.2.2.2.1.2.2) (a1.1,a1.2) h4_ h5_ h6_ h10_ h11_ r3 hv4) (.s 1 (.s 2 .nil)) ?_
   rintro _ _ ⟨rfl,rfl,hr5,hr6,hr7⟩
   refine⟨by kernel_rfl,?_⟩
   refine A.q0 [] [] [.n,.n,.n] [(22,.agg #[.int .i64 r3.1.1,.string r3.1.2]),(23,.int .i64 r3.2)] ?_
   refine A.AL.alloc 46 (cs:=[.int .i64 0,.string (ByteArray.mk #[])]) Tryz.zeroValue44 fun g8=>?_
   refine A.sw 46 [] [.int .i64 r3.1.1,.string r3.1.2] ?_
   refine A.q0 [] [] [.n] [(6,.int .i64 r3.2)] ?_
   refine A.dl 2 ?_
   refine A.q0 [] [] [.n,.n] [(25,.bool (decide (r3.2=0)))] ?_
   refine A.dx 1 ?_
   refine A.AX.cnd rfl hF (fun hb hF=>?_) (fun hb hF=>?_)
   ·refine A.xl 1 ?_
    refine A.q0 [46] [] [.b 0 0] [(26,.agg #[.int .i64 r3.1.1,.string r3.1.2])] ?_
    refine A.AL.bsl 47 (ty:=T43) (cs:=[.int .i64 r3.1.1,.string r3.1.2]) [(r3.1.1,r3.1.2)] ⟨⟨⟨rfl,hr5⟩,⟨rfl,hr6⟩⟩,rfl⟩ (fun g9=>?_) Tryz.zeroValue44 Tryz.sizeOf44
    refine A.q0 [] [] [.n] [(4,.slice (some ⟨g9,0,none⟩) 1 1)] ?_
    refine A.dx 1 ?_
    obtain rfl:=Option.some.inj hF
    exact A.rt1 [(0,47)] ⟨(some ⟨g9,0,none⟩),1,rfl,rfl⟩
   refine A.xe 2 ?_
   exact A.j ⟨rfl,rfl,hF⟩
  refine A.xl 1 ?_
  refine A.q0 [] [] [.n,.n] [(28,.bool (decide (a0.2.1=3)))] ?_
  refine A.dx 1 ?_
  refine A.AX.cnd rfl hF (fun hb hF=>?_) (fun hb hF=>?_)
  ·refine A.xl 1 ?_
   refine A.q0 [4,5] [] [.n,.b 0 3,.b 1 0] [(32,.agg #[.int .i64 a0.2.2.2.1.1,.int .i64 a0.2.2.2.1.2.1,.string a0.2.2.2.1.2.2]),(33,.agg #[.int .i64 a1.1,.string a1.2])] ?_
   obtain⟨r10,hv11,hF⟩:=A.bd_some hF
   refine A.AL.call 48 [] (first:=[]) (cap:=[]) cf90 (fn_Filter_ok (a0.2.2.2.1.1,a0.2.2.2.1.2.1,a0.2.2.2.1.2.2) (a1.1,a1.2) m12_ h4_ h5_ h6_ h10_ h11_ r10 hv11) (.s 1 (.s 2 (.s 3 .nil))) ?_
   rintro _ _ ⟨rfl,rfl,hr12⟩
   refine⟨by kernel_rfl,?_⟩
   refine A.q0 [] [] [.n,.n,.n,.n,.n] [(7,.bool r10.1),(8,.int .i64 r10.2)] ?_
   refine A.dl 2 ?_
   refine A.q0 [] [] [.n,.n,.sy .n,.sy .n,.pk] [(41,.bool (bif r10.1 then decide (r10.2=0)else false))] ?_
   refine A.dx 1 ?_
   refine A.AX.cnb rfl hF (fun hb hF=>?_) (fun hb hF=>?_)
   ·refine A.xl 1 ?_
    refine A.q0 [5] [] [.b 0 0] [(42,.agg #[.int .i64 a1.1,.string a1.2])] ?_
    refine A.AL.bsl 88 (ty:=T43) (cs:=[.int .i64 a1.1,.string a1.2]) [(a1.1,a1.2)] ⟨⟨⟨rfl,h10_⟩,⟨rfl,h11_⟩⟩,rfl⟩ (fun g13=>?_) Tryz.zeroValue44 Tryz.sizeOf44
    refine A.q0 [] [] [.n] [(4,.slice (some ⟨g13,0,none⟩) 1 1)] ?_
    refine A.dx 1 ?_
    obtain rfl:=Option.some.inj hF
    exact A.rt1 [(0,88)] ⟨(some ⟨g13,0,none⟩),1,rfl,rfl⟩
   refine A.xe 2 ?_
   exact A.j ⟨rfl,rfl,hF⟩
  refine A.xl 1 ?_
  refine A.q0 [] [] [.n,.n] [(44,.bool (decide (a0.2.1=4)))] ?_
  refine A.dx 1 ?_
  refine A.AX.cnd rfl hF (fun hb hF=>?_) (fun hb hF=>?_)
  ·refine A.xl 1 ?_
   refine A.q0 [4,5] [] [.n,.b 0 3,.b 1 0] [(48,.agg #[.int .i64 a0.2.2.2.1.1,.int .i64 a0.2.2.2.1.2.1,.string a0.2.2.2.1.2.2]),(49,.agg #[.int .i64 a1.1,.string a1.2])] ?_
   obtain⟨r14,hv15,hF⟩:=A.bd_some hF
   refine A.AL.call 89 [] (first:=[]) (cap:=[]) cf91 (fn_Split_ok (a0.2.2.2.1.1,a0.2.2.2.1.2.1,a0.2.2.2.1.2.2) (a1.1,a1.2) h4_ h5_ h6_ h10_ h11_ r14 hv15) (.s 1 (.s 2 .nil)) ?_
   rintro _ _ ⟨A16,c17,rfl,rfl,hr18⟩
   refine⟨by kernel_rfl,?_⟩
   refine A.q0 [] [] [.n,.n,.n,.n,.n] [(9,.slice A16 ((r14.1).length) c17),(10,.int .i64 r14.2)] ?_
   refine A.dl 2 ?_
   refine A.q0 [] [] [.n,.n] [(54,.bool (decide (r14.2=0)))] ?_
   refine A.dx 1 ?_
   refine A.AX.cnd rfl hF (fun hb hF=>?_) (fun hb hF=>?_)
   ·refine A.xl 1 ?_
    refine A.q0 [] [] [.n,.n] [(4,.slice A16 ((r14.1).length) c17)] ?_
    refine A.dx 1 ?_
    obtain rfl:=Option.some.inj hF
    exact A.rt1 [(0,89)] ⟨A16,c17,rfl,rfl⟩
   refine A.xe 2 ?_
   exact A.j ⟨rfl,rfl,hF⟩
  refine A.xl 1 ?_
  refine A.q0 [5] [] [.b 0 0] [(13,.agg #[.int .i64 a1.1,.string a1.2])] ?_
  refine A.AL.bsl 129 (ty:=T43) (cs:=[.int .i64 a1.1,.string a1.2]) [(a1.1,a1.2)] ⟨⟨⟨rfl,h10_⟩,⟨rfl,h11_⟩⟩,rfl⟩ (fun g19=>?_) Tryz.zeroValue44 Tryz.sizeOf44
  refine A.q0 [] [] [.n] [(4,.slice (some ⟨g19,0,none⟩) 1 1)] ?_
  refine A.dx 1 ?_
  obtain rfl:=Option.some.inj hF
  exact A.rt1 [(0,129)] ⟨(some ⟨g19,0,none⟩),1,rfl,rfl⟩
 rintro _ _ ⟨rfl,rfl,hF⟩
 rw[F.oper_each_j1]at hF
 refine A.xl 1 ?_
 refine A.q0 [] [] [.n] [(4,.slice none 0 0)] ?_
 refine A.dx 1 ?_
 obtain rfl:=Option.some.inj hF
 refine A.nil 130 T43 44 ?_
 exact A.rt1 [(0,130)] ⟨none,0,rfl,rfl⟩
end Go.Proofs.YtbljnlkhebiniaaGreatDoor
end
section
set_option linter.unusedVariables false
set_option linter.unusedSimpArgs false
set_option maxRecDepth 20000
set_option maxHeartbeats 8000000
set_option synthInstance.maxSize 1000000
set_option synthInstance.maxHeartbeats 400000
namespace Go.Proofs.YtbljnlkhebiniaaGreatDoor
open Go.RowKit
def F.oper_Batch_l1 (a0:D25)(a3:(List D43))(r7:D28×Bool×Int):Nat→(List D43)→Int→Option ((List D43)×D28×Int)
 |0,_,_=>none
 |f+1,xs19,y20=>if y20<((a3).length:Int)then((A.ix a3 y20).bind fun x23=>((F.oper_each (a0.1,a0.2.1,a0.2.2.1,(a0.2.2.2.1.1,a0.2.2.2.1.2.1,a0.2.2.2.1.2.2),a0.2.2.2.2.1,a0.2.2.2.2.2.1,a0.2.2.2.2.2.2) (x23.1,x23.2)).bind fun r29=>(A.gd ((List.length (α:=D43) xs19+List.length (α:=D43) r29)*24≤140737488355328) (A.gd (Z.R64 (y20+1)) ((F.oper_Batch_l1 a0 a3 r7 f) (xs19++r29) (y20+1))))))else(some (xs19,(r7.1.1,r7.1.2.1,(r7.1.2.2.1,r7.1.2.2.2.1,r7.1.2.2.2.2.1,r7.1.2.2.2.2.2)),0))
def F.oper_Batch (a0:D25)(a1:Int)(a2:D28)(a3:(List D43)):Option ((List D43)×D28×Int):=(F.oper_check (a0.1,a0.2.1,a0.2.2.1,(a0.2.2.2.1.1,a0.2.2.2.1.2.1,a0.2.2.2.1.2.2),a0.2.2.2.2.1,a0.2.2.2.2.2.1,a0.2.2.2.2.2.2) a1 (a2.1,a2.2.1,(a2.2.2.1,a2.2.2.2.1,a2.2.2.2.2.1,a2.2.2.2.2.2)) a3).bind fun r4=>(if r4≠0 then(some ([],(0,0,(0,0,0,0)),r4))else((F.oper_goes (a0.1,a0.2.1,a0.2.2.1,(a0.2.2.2.1.1,a0.2.2.2.1.2.1,a0.2.2.2.1.2.2),a0.2.2.2.2.1,a0.2.2.2.2.2.1,a0.2.2.2.2.2.2) (a2.1,a2.2.1,(a2.2.2.1,a2.2.2.2.1,a2.2.2.2.2.1,a2.2.2.2.2.2))).bind fun r7=>(if r7.2.2≠0 then(some ([],(0,0,(0,0,0,0)),r7.2.2))else(if(!r7.2.1)=true then(some ([],(r7.1.1,r7.1.2.1,(r7.1.2.2.1,r7.1.2.2.2.1,r7.1.2.2.2.2.1,r7.1.2.2.2.2.2)),0))else(F.oper_Batch_l1 a0 a3 r7 A.FU [] 0)))))
theorem oper_Batch_ok (a0:D25)(a1:Int)(a2:D28)(a3:(List D43))(A2_:Option Addr)(c3_:Nat)(A17_:Option Addr)(c18_:Nat)(m19_:Int)(h0_:IntKind.i64.has a0.1)(h1_:IntKind.i64.has a0.2.1)(h4_:IntKind.i64.has a0.2.2.2.1.1)(h5_:IntKind.i64.has a0.2.2.2.1.2.1)(h6_:a0.2.2.2.1.2.2.size≤maxLen)(h7_:a0.2.2.2.2.1.size≤maxLen)(h8_:IntKind.i64.has a0.2.2.2.2.2.1)(h9_:IntKind.i64.has a0.2.2.2.2.2.2)(h10_:IntKind.i64.has a1)(h11_:IntKind.i64.has a2.1)(h12_:IntKind.i64.has a2.2.1)(h13_:IntKind.i64.has a2.2.2.1)(h14_:IntKind.i64.has a2.2.2.2.1)(h15_:IntKind.i64.has a2.2.2.2.2.1)(h16_:IntKind.i64.has a2.2.2.2.2.2)(r:(List D43)×D28×Int)(hF:F.oper_Batch a0 a1 a2 a3=some r):
    A.Ct Tryz.prog 20 [.agg #[.int .i64 a0.1,.int .i64 a0.2.1,.slice A2_ ((a0.2.2.1).length) c3_,.int .i64 a0.2.2.2.1.1,.int .i64 a0.2.2.2.1.2.1,.string a0.2.2.2.1.2.2,.string a0.2.2.2.2.1,.int .i64 a0.2.2.2.2.2.1,.int .i64 a0.2.2.2.2.2.2],.int .i64 a1,.agg #[.int .i64 a2.1,.int .i64 a2.2.1,.int .i64 a2.2.2.1,.int .i64 a2.2.2.2.1,.int .i64 a2.2.2.2.2.1,.int .i64 a2.2.2.2.2.2],.slice A17_ ((a3).length) c18_] [(0,.sh (.slice (Z.Ty.int .i64)) [.slice A2_ (a0.2.2.1).length c3_] a0.2.2.1),(1,.ln T43 A17_ c18_ a3),(2,.el none 1 0 A.tabF),(3,.el none 2 0 A.tabA),(4,.el none 0 0 [.int .i64 m19_])] [] (fun v H'=>∃(A0':Option Addr) (c1':Nat),v=.tuple #[.slice A0' ((r.1).length) c1',.agg #[.int .i64 r.2.1.1,.int .i64 r.2.1.2.1,.int .i64 r.2.1.2.2.1,.int .i64 r.2.1.2.2.2.1,.int .i64 r.2.1.2.2.2.2.1,.int .i64 r.2.1.2.2.2.2.2],.int .i64 r.2.2]∧H'=[(0,.own T43 44 A0' c1' r.1)]∧IntKind.i64.has r.2.1.1∧IntKind.i64.has r.2.1.2.1∧IntKind.i64.has r.2.1.2.2.1∧IntKind.i64.has r.2.1.2.2.2.1∧IntKind.i64.has r.2.1.2.2.2.2.1∧IntKind.i64.has r.2.1.2.2.2.2.2∧IntKind.i64.has r.2.2):=by
 refine A.Ct.enter Tryz.func20 rfl Tryz.ntmps20 rfl fun w0 F0=>?_
 rw[F.oper_Batch]at hF
 refine A.xl 1 ?_
 refine A.AL.box 5 (cs:=[.int .i64 a0.1,.int .i64 a0.2.1,.slice A2_ ((a0.2.2.1).length) c3_,.int .i64 a0.2.2.2.1.1,.int .i64 a0.2.2.2.1.2.1,.string a0.2.2.2.1.2.2,.string a0.2.2.2.2.1,.int .i64 a0.2.2.2.2.2.1,.int .i64 a0.2.2.2.2.2.2]) fun g1=>?_
 refine A.AL.box 6 (cs:=[.int .i64 a2.1,.int .i64 a2.2.1,.int .i64 a2.2.2.1,.int .i64 a2.2.2.2.1,.int .i64 a2.2.2.2.2.1,.int .i64 a2.2.2.2.2.2]) fun g2=>?_
 refine A.q0 [] [] [.n] [] ?_
 refine A.AL.alloc 7 (cs:=[.int .i64 0,.int .i64 0,.int .i64 0,.int .i64 0,.int .i64 0,.int .i64 0]) Tryz.zeroValue29 fun g3=>?_
 refine A.q0 [] [] [.n] [] ?_
 refine A.dl 3 ?_
 refine A.q0 [5,6] [] [.b 0 0,.n,.b 1 0,.n] [(18,.agg #[.int .i64 a0.1,.int .i64 a0.2.1,.slice A2_ ((a0.2.2.1).length) c3_,.int .i64 a0.2.2.2.1.1,.int .i64 a0.2.2.2.1.2.1,.string a0.2.2.2.1.2.2,.string a0.2.2.2.2.1,.int .i64 a0.2.2.2.2.2.1,.int .i64 a0.2.2.2.2.2.2]),(19,.int .i64 a1),(20,.agg #[.int .i64 a2.1,.int .i64 a2.2.1,.int .i64 a2.2.2.1,.int .i64 a2.2.2.2.1,.int .i64 a2.2.2.2.2.1,.int .i64 a2.2.2.2.2.2]),(21,.slice A17_ ((a3).length) c18_)] ?_
 obtain⟨r4,hv5,hF⟩:=A.bd_some hF
 refine A.AL.call 8 [] (first:=[]) (cap:=[]) cf48 (oper_check_ok (a0.1,a0.2.1,a0.2.2.1,(a0.2.2.2.1.1,a0.2.2.2.1.2.1,a0.2.2.2.1.2.2),a0.2.2.2.2.1,a0.2.2.2.2.2.1,a0.2.2.2.2.2.2) a1 (a2.1,a2.2.1,(a2.2.2.1,a2.2.2.2.1,a2.2.2.2.2.1,a2.2.2.2.2.2)) a3 A2_ c3_ A17_ c18_ h0_ h1_ h4_ h5_ h6_ h7_ h8_ h9_ h10_ h11_ h12_ h13_ h14_ h15_ h16_ r4 hv5) (.s 0 (.s 1 (.s 2 (.s 3 .nil)))) ?_
 rintro _ _ ⟨rfl,rfl,hr6⟩
 refine⟨by kernel_rfl,?_⟩
 refine A.q0 [] [] [.n] [(11,.int .i64 r4)] ?_
 refine A.dl 2 ?_
 refine A.q0 [] [] [.n,.n] [(24,.bool (decide (r4≠0)))] ?_
 refine A.dx 1 ?_
 refine A.AX.cnd rfl hF (fun hb hF=>?_) (fun hb hF=>?_)
 ·refine A.xl 1 ?_
  refine A.q0 [] [] [.n,.n,.n] [(25,.agg #[.int .i64 0,.int .i64 0,.int .i64 0,.int .i64 0,.int .i64 0,.int .i64 0]),(26,.int .i64 r4),(8,.slice none 0 0)] ?_
  refine A.sw 7 [] [.int .i64 0,.int .i64 0,.int .i64 0,.int .i64 0,.int .i64 0,.int .i64 0] ?_
  refine A.q0 [] [] [.n] [(10,.int .i64 r4)] ?_
  refine A.dx 1 ?_
  obtain rfl:=Option.some.inj hF
  refine A.nil 48 T43 44 ?_
  exact A.AX.ret [(0,48)] (.tuple #[.slice none 0 0,.agg #[.int .i64 0,.int .i64 0,.int .i64 0,.int .i64 0,.int .i64 0,.int .i64 0],.int .i64 r4]) (fun a w hf hh=>Z.resv3 rfl (Z.rv_t hf rfl) (Z.rv_n hf rfl Tryz.isAgg29 Tryz.sizeOf29 (A.Hp.blk hh 7) rfl) (Z.rv_t hf rfl)) (⟨none,0,rfl,rfl,(A.hasl .i64 (0) rfl),(A.hasl .i64 (0) rfl),(A.hasl .i64 (0) rfl),(A.hasl .i64 (0) rfl),(A.hasl .i64 (0) rfl),(A.hasl .i64 (0) rfl),hr6⟩)
 refine A.xl 3 ?_
 refine A.q0 [5,6] [] [.b 0 0,.b 1 0] [(28,.agg #[.int .i64 a0.1,.int .i64 a0.2.1,.slice A2_ ((a0.2.2.1).length) c3_,.int .i64 a0.2.2.2.1.1,.int .i64 a0.2.2.2.1.2.1,.string a0.2.2.2.1.2.2,.string a0.2.2.2.2.1,.int .i64 a0.2.2.2.2.2.1,.int .i64 a0.2.2.2.2.2.2]),(29,.agg #[.int .i64 a2.1,.int .i64 a2.2.1,.int .i64 a2.2.2.1,.int .i64 a2.2.2.2.1,.int .i64 a2.2.2.2.2.1,.int .i64 a2.2.2.2.2.2])] ?_
 obtain⟨r7,hv8,hF⟩:=A.bd_some hF
 refine A.AL.call 49 [] (first:=[]) (cap:=[]) cf49 (oper_goes_ok (a0.1,a0.2.1,a0.2.2.1,(a0.2.2.2.1.1,a0.2.2.2.1.2.1,a0.2.2.2.1.2.2),a0.2.2.2.2.1,a0.2.2.2.2.2.1,a0.2.2.2.2.2.2) (a2.1,a2.2.1,(a2.2.2.1,a2.2.2.2.1,a2.2.2.2.2.1,a2.2.2.2.2.2)) A2_ c3_ h0_ h1_ h4_ h5_ h6_ h7_ h8_ h9_ h11_ h12_ h13_ h14_ h15_ h16_ r7 hv8) (.s 0 .nil) ?_
 rintro _ _ ⟨rfl,rfl,hr9,hr10,hr11,hr12,hr13,hr14,hr15⟩
 refine⟨by kernel_rfl,?_⟩
 refine A.q0 [] [] [.n,.n,.n,.n] [(31,.agg #[.int .i64 r7.1.1,.int .i64 r7.1.2.1,.int .i64 r7.1.2.2.1,.int .i64 r7.1.2.2.2.1,.int .i64 r7.1.2.2.2.2.1,.int .i64 r7.1.2.2.2.2.2]),(32,.bool r7.2.1),(33,.int .i64 r7.2.2)] ?_
 refine A.AL.alloc 89 (cs:=[.int .i64 0,.int .i64 0,.int .i64 0,.int .i64 0,.int .i64 0,.int .i64 0]) Tryz.zeroValue29 fun g16=>?_
 refine A.sw 89 [] [.int .i64 r7.1.1,.int .i64 r7.1.2.1,.int .i64 r7.1.2.2.1,.int .i64 r7.1.2.2.2.1,.int .i64 r7.1.2.2.2.2.1,.int .i64 r7.1.2.2.2.2.2] ?_
 refine A.q0 [] [] [.n,.n] [(13,.bool r7.2.1),(14,.int .i64 r7.2.2)] ?_
 refine A.dl 4 ?_
 refine A.q0 [] [] [.n,.n,.n] [(34,.bool (decide (r7.2.2≠0)))] ?_
 refine A.dx 1 ?_
 refine A.AX.cnd rfl hF (fun hb hF=>?_) (fun hb hF=>?_)
 ·refine A.xl 1 ?_
  refine A.q0 [] [] [.n,.n,.n] [(37,.agg #[.int .i64 0,.int .i64 0,.int .i64 0,.int .i64 0,.int .i64 0,.int .i64 0]),(38,.int .i64 r7.2.2),(8,.slice none 0 0)] ?_
  refine A.sw 7 [] [.int .i64 0,.int .i64 0,.int .i64 0,.int .i64 0,.int .i64 0,.int .i64 0] ?_
  refine A.q0 [] [] [.n] [(10,.int .i64 r7.2.2)] ?_
  refine A.dx 1 ?_
  obtain rfl:=Option.some.inj hF
  refine A.nil 90 T43 44 ?_
  exact A.AX.ret [(0,90)] (.tuple #[.slice none 0 0,.agg #[.int .i64 0,.int .i64 0,.int .i64 0,.int .i64 0,.int .i64 0,.int .i64 0],.int .i64 r7.2.2]) (fun a w hf hh=>Z.resv3 rfl (Z.rv_t hf rfl) (Z.rv_n hf rfl Tryz.isAgg29 Tryz.sizeOf29 (A.Hp.blk hh 7) rfl) (Z.rv_t hf rfl)) (⟨none,0,rfl,rfl,(A.hasl .i64 (0) rfl),(A.hasl .i64 (0) rfl),(A.hasl .i64 (0) rfl),(A.hasl .i64 (0) rfl),(A.hasl .i64 (0) rfl),(A.hasl .i64 (0) rfl),hr15⟩)
 refine A.xl 1 ?_
 refine A.q0 [] [] [.n,.n,.n] [(39,.bool (!r7.2.1))] ?_
 refine A.dx 1 ?_
 refine A.AX.cnb rfl hF (fun hb hF=>?_) (fun hb hF=>?_)
 ·refine A.xx 1 ?_
  refine A.AX.dr mixed 4 4 (A.mb 4 0) ?_
  refine A.hq A.pb [] [0,1,2,3,4,5,6,89] [89] [] (A.mb 4 3) 2 [(0,.b 0 0),(1,.n)] [(42,.agg #[.int .i64 r7.1.1,.int .i64 r7.1.2.1,.int .i64 r7.1.2.2.1,.int .i64 r7.1.2.2.2.1,.int .i64 r7.1.2.2.2.2.1,.int .i64 r7.1.2.2.2.2.2]),(8,.slice none 0 0)] ?_
  refine A.AH.one 2 ?_
  refine A.sw 7 [] [.int .i64 r7.1.1,.int .i64 r7.1.2.1,.int .i64 r7.1.2.2.1,.int .i64 r7.1.2.2.2.1,.int .i64 r7.1.2.2.2.2.1,.int .i64 r7.1.2.2.2.2.2] ?_
  refine A.AH.nx (A.mb 4 7) [0,1,2,3,4,5,6,89] ?_
  refine A.hq A.pb [0,1,2,3,4,5,6,89] [0,1,2,3,4,5,6,7,89] [] [] (A.mb 4 15) 0 [(3,.n)] [(10,.int .i64 0)] ?_
  refine A.AH.done ?_
  refine A.ex 1 ?_
  obtain rfl:=Option.some.inj hF
  refine A.nil 91 T43 44 ?_
  exact A.AX.ret [(0,91)] (.tuple #[.slice none 0 0,.agg #[.int .i64 r7.1.1,.int .i64 r7.1.2.1,.int .i64 r7.1.2.2.1,.int .i64 r7.1.2.2.2.1,.int .i64 r7.1.2.2.2.2.1,.int .i64 r7.1.2.2.2.2.2],.int .i64 0]) (fun a w hf hh=>Z.resv3 rfl (Z.rv_t hf rfl) (Z.rv_n hf rfl Tryz.isAgg29 Tryz.sizeOf29 (A.Hp.blk hh 7) rfl) (Z.rv_t hf rfl)) (⟨none,0,rfl,rfl,hr9,hr10,hr11,hr12,hr13,hr14,(A.hasl .i64 (0) rfl)⟩)
 refine A.xl 4 ?_
 refine A.q0 [] [] [.n] [(15,.slice none 0 0)] ?_
 refine A.dl 3 ?_
 refine A.q0 [] [] [.n,.n,.n] [(43,.slice A17_ ((a3).length) c18_),(44,.int .i64 ((a3).length:Int)),(45,.int .i64 0)] ?_
 refine A.dx 2 ?_
 refine A.nil 136 T43 44 ?_
 refine A.lp_ [4,9,12,43,44] [0,1,2,3,4,5,7,89] (fun f nl nh=>∃(xs19:List D43),∃(y20:Int),∃(A17:Option Addr),∃(c18:Nat),nl=[(15,.slice A17 ((xs19).length) c18),(45,.int .i64 y20)]∧nh=[(136,.own T43 44 A17 c18 xs19)]∧IntKind.i64.has y20∧F.oper_Batch_l1 a0 a3 r7 f xs19 y20=some r) ⟨[],0,none,0,rfl,rfl,(A.hasl .i64 (0) rfl),hF⟩ ?_
 rintro f22 _ _ ⟨xs19,y20,A17,c18,rfl,rfl,hy21,hF⟩
 rcases f22 with _|f22
 ·exact A.no0 hF
 rw[F.oper_Batch_l1]at hF
 refine A.xl 1 ?_
 refine A.q0 [] [] [.n] [(46,.bool (decide (y20<((a3).length:Int))))] ?_
 refine A.dx 2 ?_
 refine A.AX.cnd rfl hF (fun hb hF=>?_) (fun hb hF=>?_)
 ·refine A.xl 5 ?_
  obtain⟨x23,hv24,hF⟩:=A.bd_some hF
  refine A.AL.ixl 1 221 hv24 fun ho25=>?_
  intro b26 o27
  refine A.q0 [] [221] [.e 0 0] [(48,.agg #[.int .i64 x23.1,.string x23.2])] ?_
  refine A.AL.alloc 222 (cs:=[.int .i64 0,.string (ByteArray.mk #[])]) Tryz.zeroValue44 fun g28=>?_
  refine A.sw 222 [] [.int .i64 x23.1,.string x23.2] ?_
  refine A.dl 1 ?_
  refine A.q0 [5,222] [] [.n,.b 0 0,.b 1 0] [(49,.slice A17 ((xs19).length) c18),(50,.agg #[.int .i64 a0.1,.int .i64 a0.2.1,.slice A2_ ((a0.2.2.1).length) c3_,.int .i64 a0.2.2.2.1.1,.int .i64 a0.2.2.2.1.2.1,.string a0.2.2.2.1.2.2,.string a0.2.2.2.2.1,.int .i64 a0.2.2.2.2.2.1,.int .i64 a0.2.2.2.2.2.2]),(51,.agg #[.int .i64 x23.1,.string x23.2])] ?_
  obtain⟨r29,hv30,hF⟩:=A.bd_some hF
  refine A.AL.call 223 [] (first:=[]) (cap:=[]) cf50 (oper_each_ok (a0.1,a0.2.1,a0.2.2.1,(a0.2.2.2.1.1,a0.2.2.2.1.2.1,a0.2.2.2.1.2.2),a0.2.2.2.2.1,a0.2.2.2.2.2.1,a0.2.2.2.2.2.2) (x23.1,x23.2) A2_ c3_ m19_ h0_ h1_ h4_ h5_ h6_ h7_ h8_ h9_ ho25.1 ho25.2 r29 hv30) (.s 0 (.s 2 (.s 3 (.s 4 .nil)))) ?_
  rintro _ _ ⟨A31,c32,rfl,rfl⟩
  refine⟨by kernel_rfl,?_⟩
  obtain⟨hl35,hF⟩:=A.gd_some hF
  refine A.AL.app (k:=136) [] (A.rowO (k:=223) rfl) inf44 hl35 fun A33 c34=>?_
  refine A.q0 [] [] [.n] [(15,.slice A33 ((xs19++r29).length) c34)] ?_
  refine A.dl 2 ?_
  obtain⟨hc36,hF⟩:=A.gd_some hF
  refine A.q [] [] [.n,.n] [Z.R64 (y20+1)] [(45,.int .i64 (y20+1))] hc36 ?_
  refine A.AL.done ?_
  exact A.j ⟨_,Nat.lt_succ_self _,⟨(xs19++r29),(y20+1),A33,c34,rfl,rfl,(Z.i64_has hc36),hF⟩⟩
 refine A.xx 3 ?_
 refine A.AX.dr mixed 5 5 (A.mb 5 0) ?_
 refine A.hq A.pb [] [0,1,2,3,4,5,89,136] [89] [] (A.mb 5 7) 2 [(0,.n),(1,.b 0 0),(2,.n)] [(56,.agg #[.int .i64 r7.1.1,.int .i64 r7.1.2.1,.int .i64 r7.1.2.2.1,.int .i64 r7.1.2.2.2.1,.int .i64 r7.1.2.2.2.2.1,.int .i64 r7.1.2.2.2.2.2]),(8,.slice A17 ((xs19).length) c18)] ?_
 refine A.AH.one 3 ?_
 refine A.sw 7 [] [.int .i64 r7.1.1,.int .i64 r7.1.2.1,.int .i64 r7.1.2.2.1,.int .i64 r7.1.2.2.2.1,.int .i64 r7.1.2.2.2.2.1,.int .i64 r7.1.2.2.2.2.2] ?_
 refine A.AH.nx (A.mb 5 15) [0,1,2,3,4,5,89,136] ?_
 refine A.hq A.pb [0,1,2,3,4,5,89,136] [0,1,2,3,4,5,7,89,136] [] [] (A.mb 5 31) 0 [(4,.n)] [(10,.int .i64 0)] ?_
 refine A.AH.done ?_
 refine A.ex 1 ?_
 obtain rfl:=Option.some.inj hF
 exact A.AX.ret [(0,136)] (.tuple #[.slice A17 ((xs19).length) c18,.agg #[.int .i64 r7.1.1,.int .i64 r7.1.2.1,.int .i64 r7.1.2.2.1,.int .i64 r7.1.2.2.2.1,.int .i64 r7.1.2.2.2.2.1,.int .i64 r7.1.2.2.2.2.2],.int .i64 0]) (fun a w hf hh=>Z.resv3 rfl (Z.rv_t hf rfl) (Z.rv_n hf rfl Tryz.isAgg29 Tryz.sizeOf29 (A.Hp.blk hh 7) rfl) (Z.rv_t hf rfl)) (⟨A17,c18,rfl,rfl,hr9,hr10,hr11,hr12,hr13,hr14,(A.hasl .i64 (0) rfl)⟩)
def F.R08_Ins (a0:Int):Option Int:=if(bif decide (a0<1)then true else decide ((16:Int)<a0))=true then(some (-1))else(if a0=1 then(some 0)else(if(bif decide (a0=5)then true else decide (a0=9))=true then(some 2)else(some 1)))
theorem R08_Ins_ok (a0:Int)(h0_:IntKind.i64.has a0)(r:Int)(hF:F.R08_Ins a0=some r):
    A.Ct Tryz.prog 51 [.int .i64 a0] [] [] (fun v H'=>v=.int .i64 r∧H'=[]∧IntKind.i64.has r):=by
 refine A.Ct.enter Tryz.func51 rfl Tryz.ntmps51 rfl fun w0 F0=>?_
 rw[F.R08_Ins]at hF
 refine A.xl 1 ?_
 refine A.q0 [] [] [.n] [] ?_
 refine A.dl 4 ?_
 refine A.q0 [] [] [.n,.n,.n,.sy .n,.sy .n,.pk,.n] [(3,.bool (bif decide (a0<1)then true else decide ((16:Int)<a0)))] ?_
 refine A.dx 1 ?_
 refine A.AX.cnb rfl hF (fun hb hF=>?_) (fun hb hF=>?_)
 ·refine A.xl 1 ?_
  refine A.q0 [] [] [.n] [(2,.int .i64 (-1))] ?_
  refine A.dx 1 ?_
  obtain rfl:=Option.some.inj hF
  exact A.rt1 [] ⟨rfl,rfl,(A.hasl .i64 (-1) rfl)⟩
 refine A.xl 1 ?_
 refine A.q0 [] [] [.n,.n,.n] [(10,.bool (decide (a0=1)))] ?_
 refine A.dx 1 ?_
 refine A.AX.cnd rfl hF (fun hb hF=>?_) (fun hb hF=>?_)
 ·refine A.xl 1 ?_
  refine A.q0 [] [] [.n] [(2,.int .i64 0)] ?_
  refine A.dx 1 ?_
  obtain rfl:=Option.some.inj hF
  exact A.rt1 [] ⟨rfl,rfl,(A.hasl .i64 (0) rfl)⟩
 refine A.xl 1 ?_
 refine A.q0 [] [] [.n,.n,.n,.sy .n,.sy .n,.pk,.n] [(13,.bool (bif decide (a0=5)then true else decide (a0=9)))] ?_
 refine A.dx 1 ?_
 refine A.AX.cnb rfl hF (fun hb hF=>?_) (fun hb hF=>?_)
 ·refine A.xl 1 ?_
  refine A.q0 [] [] [.n] [(2,.int .i64 2)] ?_
  refine A.dx 1 ?_
  obtain rfl:=Option.some.inj hF
  exact A.rt1 [] ⟨rfl,rfl,(A.hasl .i64 (2) rfl)⟩
 refine A.xl 4 ?_
 refine A.q0 [] [] [.n] [(2,.int .i64 1)] ?_
 refine A.dx 1 ?_
 obtain rfl:=Option.some.inj hF
 exact A.rt1 [] ⟨rfl,rfl,(A.hasl .i64 (1) rfl)⟩
def F.R01_Enter (a0:D28):Option (D28×Int):=(F.R01_Check (a0.1,a0.2.1,(a0.2.2.1,a0.2.2.2.1,a0.2.2.2.2.1,a0.2.2.2.2.2))).bind fun r3=>(if r3≠0 then(some ((0,0,(0,0,0,0)),r3))else(if a0.2.1=4 then(some ((0,0,(0,0,0,0)),11))else(A.gd (Z.R64 (a0.2.1+1)) (some ((a0.1,a0.2.1+1,(a0.2.2.1,a0.2.2.2.1,a0.2.2.2.2.1,a0.2.2.2.2.2)),0)))))
theorem R01_Enter_ok (a0:D28)(h0_:IntKind.i64.has a0.1)(h1_:IntKind.i64.has a0.2.1)(h2_:IntKind.i64.has a0.2.2.1)(h3_:IntKind.i64.has a0.2.2.2.1)(h4_:IntKind.i64.has a0.2.2.2.2.1)(h5_:IntKind.i64.has a0.2.2.2.2.2)(r:D28×Int)(hF:F.R01_Enter a0=some r):
    A.Ct Tryz.prog 52 [.agg #[.int .i64 a0.1,.int .i64 a0.2.1,.int .i64 a0.2.2.1,.int .i64 a0.2.2.2.1,.int .i64 a0.2.2.2.2.1,.int .i64 a0.2.2.2.2.2]] [] [] (fun v H'=>v=.tuple #[.agg #[.int .i64 r.1.1,.int .i64 r.1.2.1,.int .i64 r.1.2.2.1,.int .i64 r.1.2.2.2.1,.int .i64 r.1.2.2.2.2.1,.int .i64 r.1.2.2.2.2.2],.int .i64 r.2]∧H'=[]∧IntKind.i64.has r.1.1∧IntKind.i64.has r.1.2.1∧IntKind.i64.has r.1.2.2.1∧IntKind.i64.has r.1.2.2.2.1∧IntKind.i64.has r.1.2.2.2.2.1∧IntKind.i64.has r.1.2.2.2.2.2∧IntKind.i64.has r.2):=by
 refine A.Ct.enter Tryz.func52 rfl Tryz.ntmps52 rfl fun w0 F0=>?_
 rw[F.R01_Enter]at hF
 refine A.xl 1 ?_
 refine A.AL.box 0 (cs:=[.int .i64 a0.1,.int .i64 a0.2.1,.int .i64 a0.2.2.1,.int .i64 a0.2.2.2.1,.int .i64 a0.2.2.2.2.1,.int .i64 a0.2.2.2.2.2]) fun g1=>?_
 refine A.AL.alloc 1 (cs:=[.int .i64 0,.int .i64 0,.int .i64 0,.int .i64 0,.int .i64 0,.int .i64 0]) Tryz.zeroValue29 fun g2=>?_
 refine A.q0 [] [] [.n] [] ?_
 refine A.dl 3 ?_
 refine A.q0 [0] [] [.b 0 0] [(5,.agg #[.int .i64 a0.1,.int .i64 a0.2.1,.int .i64 a0.2.2.1,.int .i64 a0.2.2.2.1,.int .i64 a0.2.2.2.2.1,.int .i64 a0.2.2.2.2.2])] ?_
 obtain⟨r3,hv4,hF⟩:=A.bd_some hF
 refine A.AL.call 2 [] (first:=[]) (cap:=[]) cf39 (R01_Check_ok (a0.1,a0.2.1,(a0.2.2.1,a0.2.2.2.1,a0.2.2.2.2.1,a0.2.2.2.2.2)) h0_ h1_ h2_ h3_ h4_ h5_ r3 hv4) .nil ?_
 rintro _ _ ⟨rfl,rfl,hr5⟩
 refine⟨by kernel_rfl,?_⟩
 refine A.q0 [] [] [.n] [(4,.int .i64 r3)] ?_
 refine A.dl 2 ?_
 refine A.q0 [] [] [.n,.n] [(8,.bool (decide (r3≠0)))] ?_
 refine A.dx 1 ?_
 refine A.AX.cnd rfl hF (fun hb hF=>?_) (fun hb hF=>?_)
 ·refine A.xl 1 ?_
  refine A.q0 [] [] [.n,.n] [(9,.agg #[.int .i64 0,.int .i64 0,.int .i64 0,.int .i64 0,.int .i64 0,.int .i64 0]),(10,.int .i64 r3)] ?_
  refine A.sw 1 [] [.int .i64 0,.int .i64 0,.int .i64 0,.int .i64 0,.int .i64 0,.int .i64 0] ?_
  refine A.q0 [] [] [.n] [(3,.int .i64 r3)] ?_
  refine A.dx 1 ?_
  obtain rfl:=Option.some.inj hF
  exact A.AX.ret [] (.tuple #[.agg #[.int .i64 0,.int .i64 0,.int .i64 0,.int .i64 0,.int .i64 0,.int .i64 0],.int .i64 r3]) (fun a w hf hh=>Z.resv2 rfl (Z.rv_n hf rfl Tryz.isAgg29 Tryz.sizeOf29 (A.Hp.blk hh 1) rfl) (Z.rv_t hf rfl)) (⟨rfl,rfl,(A.hasl .i64 (0) rfl),(A.hasl .i64 (0) rfl),(A.hasl .i64 (0) rfl),(A.hasl .i64 (0) rfl),(A.hasl .i64 (0) rfl),(A.hasl .i64 (0) rfl),hr5⟩)
 refine A.xl 4 ?_
 refine A.q0 [0] [] [.n,.b 0 1,.n] [(13,.bool (decide (a0.2.1=4)))] ?_
 refine A.dx 1 ?_
 refine A.AX.cnd rfl hF (fun hb hF=>?_) (fun hb hF=>?_)
 ·refine A.xl 1 ?_
  refine A.q0 [] [] [.n] [(14,.agg #[.int .i64 0,.int .i64 0,.int .i64 0,.int .i64 0,.int .i64 0,.int .i64 0])] ?_
  refine A.sw 1 [] [.int .i64 0,.int .i64 0,.int .i64 0,.int .i64 0,.int .i64 0,.int .i64 0] ?_
  refine A.q0 [] [] [.n] [(3,.int .i64 11)] ?_
  refine A.dx 1 ?_
  obtain rfl:=Option.some.inj hF
  exact A.AX.ret [] (.tuple #[.agg #[.int .i64 0,.int .i64 0,.int .i64 0,.int .i64 0,.int .i64 0,.int .i64 0],.int .i64 11]) (fun a w hf hh=>Z.resv2 rfl (Z.rv_n hf rfl Tryz.isAgg29 Tryz.sizeOf29 (A.Hp.blk hh 1) rfl) (Z.rv_t hf rfl)) (⟨rfl,rfl,(A.hasl .i64 (0) rfl),(A.hasl .i64 (0) rfl),(A.hasl .i64 (0) rfl),(A.hasl .i64 (0) rfl),(A.hasl .i64 (0) rfl),(A.hasl .i64 (0) rfl),(A.hasl .i64 (11) rfl)⟩)
 refine A.xl 3 ?_
 obtain⟨hc6,hF⟩:=A.gd_some hF
 refine A.q [0] [] [.n,.b 0 1,.n,.n] [Z.R64 (a0.2.1+1)] [(17,.int .i64 (a0.2.1+1)),(18,.pointer (some ⟨g1,1,none⟩))] hc6 ?_
 refine A.AL.store 0 [] (new:=[.int .i64 (a0.2.1+1)]) (cs':=[.int .i64 a0.1,.int .i64 (a0.2.1+1),.int .i64 a0.2.2.1,.int .i64 a0.2.2.2.1,.int .i64 a0.2.2.2.2.1,.int .i64 a0.2.2.2.2.2]) ?_
 refine A.dl 2 ?_
 refine A.q0 [0] [] [.b 0 0] [(19,.agg #[.int .i64 a0.1,.int .i64 (a0.2.1+1),.int .i64 a0.2.2.1,.int .i64 a0.2.2.2.1,.int .i64 a0.2.2.2.2.1,.int .i64 a0.2.2.2.2.2])] ?_
 refine A.sw 1 [] [.int .i64 a0.1,.int .i64 (a0.2.1+1),.int .i64 a0.2.2.1,.int .i64 a0.2.2.2.1,.int .i64 a0.2.2.2.2.1,.int .i64 a0.2.2.2.2.2] ?_
 refine A.q0 [] [] [.n] [(3,.int .i64 0)] ?_
 refine A.dx 1 ?_
 obtain rfl:=Option.some.inj hF
 exact A.AX.ret [] (.tuple #[.agg #[.int .i64 a0.1,.int .i64 (a0.2.1+1),.int .i64 a0.2.2.1,.int .i64 a0.2.2.2.1,.int .i64 a0.2.2.2.2.1,.int .i64 a0.2.2.2.2.2],.int .i64 0]) (fun a w hf hh=>Z.resv2 rfl (Z.rv_n hf rfl Tryz.isAgg29 Tryz.sizeOf29 (A.Hp.blk hh 1) rfl) (Z.rv_t hf rfl)) (⟨rfl,rfl,h0_,(Z.i64_has hc6),h2_,h3_,h4_,h5_,(A.hasl .i64 (0) rfl)⟩)
def F.R01_Leave (a0:D28):Option (D28×Int):=(F.R01_Check (a0.1,a0.2.1,(a0.2.2.1,a0.2.2.2.1,a0.2.2.2.2.1,a0.2.2.2.2.2))).bind fun r3=>(if r3≠0 then(some ((0,0,(0,0,0,0)),r3))else(if a0.2.1=0 then(some ((0,0,(0,0,0,0)),11))else(A.gd (Z.R64 (a0.2.1-1)) ((A.ix [a0.2.2.1,a0.2.2.2.1,a0.2.2.2.2.1,a0.2.2.2.2.2] (a0.2.1-1)).bind fun x7=>(some ((a0.1,a0.2.1-1,((if a0.2.1-1=0 then 0 else a0.2.2.1),(if a0.2.1-1=1 then 0 else a0.2.2.2.1),(if a0.2.1-1=2 then 0 else a0.2.2.2.2.1),(if a0.2.1-1=3 then 0 else a0.2.2.2.2.2))),0))))))
theorem R01_Leave_ok (a0:D28)(h0_:IntKind.i64.has a0.1)(h1_:IntKind.i64.has a0.2.1)(h2_:IntKind.i64.has a0.2.2.1)(h3_:IntKind.i64.has a0.2.2.2.1)(h4_:IntKind.i64.has a0.2.2.2.2.1)(h5_:IntKind.i64.has a0.2.2.2.2.2)(r:D28×Int)(hF:F.R01_Leave a0=some r):
    A.Ct Tryz.prog 53 [.agg #[.int .i64 a0.1,.int .i64 a0.2.1,.int .i64 a0.2.2.1,.int .i64 a0.2.2.2.1,.int .i64 a0.2.2.2.2.1,.int .i64 a0.2.2.2.2.2]] [] [] (fun v H'=>v=.tuple #[.agg #[.int .i64 r.1.1,.int .i64 r.1.2.1,.int .i64 r.1.2.2.1,.int .i64 r.1.2.2.2.1,.int .i64 r.1.2.2.2.2.1,.int .i64 r.1.2.2.2.2.2],.int .i64 r.2]∧H'=[]∧IntKind.i64.has r.1.1∧IntKind.i64.has r.1.2.1∧IntKind.i64.has r.1.2.2.1∧IntKind.i64.has r.1.2.2.2.1∧IntKind.i64.has r.1.2.2.2.2.1∧IntKind.i64.has r.1.2.2.2.2.2∧IntKind.i64.has r.2):=by
 refine A.Ct.enter Tryz.func53 rfl Tryz.ntmps53 rfl fun w0 F0=>?_
 rw[F.R01_Leave]at hF
 refine A.xl 1 ?_
 refine A.AL.box 0 (cs:=[.int .i64 a0.1,.int .i64 a0.2.1,.int .i64 a0.2.2.1,.int .i64 a0.2.2.2.1,.int .i64 a0.2.2.2.2.1,.int .i64 a0.2.2.2.2.2]) fun g1=>?_
 refine A.AL.alloc 1 (cs:=[.int .i64 0,.int .i64 0,.int .i64 0,.int .i64 0,.int .i64 0,.int .i64 0]) Tryz.zeroValue29 fun g2=>?_
 refine A.q0 [] [] [.n] [] ?_
 refine A.dl 3 ?_
 refine A.q0 [0] [] [.b 0 0] [(5,.agg #[.int .i64 a0.1,.int .i64 a0.2.1,.int .i64 a0.2.2.1,.int .i64 a0.2.2.2.1,.int .i64 a0.2.2.2.2.1,.int .i64 a0.2.2.2.2.2])] ?_
 obtain⟨r3,hv4,hF⟩:=A.bd_some hF
 refine A.AL.call 2 [] (first:=[]) (cap:=[]) cf39 (R01_Check_ok (a0.1,a0.2.1,(a0.2.2.1,a0.2.2.2.1,a0.2.2.2.2.1,a0.2.2.2.2.2)) h0_ h1_ h2_ h3_ h4_ h5_ r3 hv4) .nil ?_
 rintro _ _ ⟨rfl,rfl,hr5⟩
 refine⟨by kernel_rfl,?_⟩
 refine A.q0 [] [] [.n] [(4,.int .i64 r3)] ?_
 refine A.dl 2 ?_
 refine A.q0 [] [] [.n,.n] [(8,.bool (decide (r3≠0)))] ?_
 refine A.dx 1 ?_
 refine A.AX.cnd rfl hF (fun hb hF=>?_) (fun hb hF=>?_)
 ·refine A.xl 1 ?_
  refine A.q0 [] [] [.n,.n] [(9,.agg #[.int .i64 0,.int .i64 0,.int .i64 0,.int .i64 0,.int .i64 0,.int .i64 0]),(10,.int .i64 r3)] ?_
  refine A.sw 1 [] [.int .i64 0,.int .i64 0,.int .i64 0,.int .i64 0,.int .i64 0,.int .i64 0] ?_
  refine A.q0 [] [] [.n] [(3,.int .i64 r3)] ?_
  refine A.dx 1 ?_
  obtain rfl:=Option.some.inj hF
  exact A.AX.ret [] (.tuple #[.agg #[.int .i64 0,.int .i64 0,.int .i64 0,.int .i64 0,.int .i64 0,.int .i64 0],.int .i64 r3]) (fun a w hf hh=>Z.resv2 rfl (Z.rv_n hf rfl Tryz.isAgg29 Tryz.sizeOf29 (A.Hp.blk hh 1) rfl) (Z.rv_t hf rfl)) (⟨rfl,rfl,(A.hasl .i64 (0) rfl),(A.hasl .i64 (0) rfl),(A.hasl .i64 (0) rfl),(A.hasl .i64 (0) rfl),(A.hasl .i64 (0) rfl),(A.hasl .i64 (0) rfl),hr5⟩)
 refine A.xl 4 ?_
 refine A.q0 [0] [] [.n,.b 0 1,.n] [(13,.bool (decide (a0.2.1=0)))] ?_
 refine A.dx 1 ?_
 refine A.AX.cnd rfl hF (fun hb hF=>?_) (fun hb hF=>?_)
 ·refine A.xl 1 ?_
  refine A.q0 [] [] [.n] [(14,.agg #[.int .i64 0,.int .i64 0,.int .i64 0,.int .i64 0,.int .i64 0,.int .i64 0])] ?_
  refine A.sw 1 [] [.int .i64 0,.int .i64 0,.int .i64 0,.int .i64 0,.int .i64 0,.int .i64 0] ?_
  refine A.q0 [] [] [.n] [(3,.int .i64 11)] ?_
  refine A.dx 1 ?_
  obtain rfl:=Option.some.inj hF
  exact A.AX.ret [] (.tuple #[.agg #[.int .i64 0,.int .i64 0,.int .i64 0,.int .i64 0,.int .i64 0,.int .i64 0],.int .i64 11]) (fun a w hf hh=>Z.resv2 rfl (Z.rv_n hf rfl Tryz.isAgg29 Tryz.sizeOf29 (A.Hp.blk hh 1) rfl) (Z.rv_t hf rfl)) (⟨rfl,rfl,(A.hasl .i64 (0) rfl),(A.hasl .i64 (0) rfl),(A.hasl .i64 (0) rfl),(A.hasl .i64 (0) rfl),(A.hasl .i64 (0) rfl),(A.hasl .i64 (0) rfl),(A.hasl .i64 (11) rfl)⟩)
 refine A.xl 3 ?_
 obtain⟨hc6,hF⟩:=A.gd_some hF
 refine A.q [0] [] [.n,.b 0 1,.n,.n] [Z.R64 (a0.2.1-1)] [(17,.int .i64 (a0.2.1-1)),(18,.pointer (some ⟨g1,1,none⟩))] hc6 ?_
 refine A.AL.store 0 [] (new:=[.int .i64 (a0.2.1-1)]) (cs':=[.int .i64 a0.1,.int .i64 (a0.2.1-1),.int .i64 a0.2.2.1,.int .i64 a0.2.2.2.1,.int .i64 a0.2.2.2.2.1,.int .i64 a0.2.2.2.2.2]) ?_
 refine A.dl 2 ?_
 refine A.q0 [0] [] [.n,.b 0 1,.n] [(20,.int .i64 (a0.2.1-1)),(21,.pointer (some ⟨g1,2,none⟩))] ?_
 obtain⟨x7,hv8,hF⟩:=A.bd_some hF
 refine A.AL.ixb 0 42 (fun v:Int=>.int .i64 v) [a0.2.2.1,a0.2.2.2.1,a0.2.2.2.2.1,a0.2.2.2.2.2] hv8 ?_
 refine A.AL.stb 0 [42] hv8 (A.arr4 (Q:=fun i=>[.int .i64 a0.1,.int .i64 (a0.2.1-1),.int .i64 (if i=0 then 0 else a0.2.2.1),.int .i64 (if i=1 then 0 else a0.2.2.2.1),.int .i64 (if i=2 then 0 else a0.2.2.2.2.1),.int .i64 (if i=3 then 0 else a0.2.2.2.2.2)]=List.set [.int .i64 a0.1,.int .i64 (a0.2.1-1),.int .i64 a0.2.2.1,.int .i64 a0.2.2.2.1,.int .i64 a0.2.2.2.2.1,.int .i64 a0.2.2.2.2.2] (2+i.toNat*1) (.int .i64 0)) hv8 rfl rfl rfl rfl) ?_
 refine A.dl 2 ?_
 refine A.q0 [0] [] [.b 0 0] [(23,.agg #[.int .i64 a0.1,.int .i64 (a0.2.1-1),.int .i64 (if a0.2.1-1=0 then 0 else a0.2.2.1),.int .i64 (if a0.2.1-1=1 then 0 else a0.2.2.2.1),.int .i64 (if a0.2.1-1=2 then 0 else a0.2.2.2.2.1),.int .i64 (if a0.2.1-1=3 then 0 else a0.2.2.2.2.2)])] ?_
 refine A.sw 1 [] [.int .i64 a0.1,.int .i64 (a0.2.1-1),.int .i64 (if a0.2.1-1=0 then 0 else a0.2.2.1),.int .i64 (if a0.2.1-1=1 then 0 else a0.2.2.2.1),.int .i64 (if a0.2.1-1=2 then 0 else a0.2.2.2.2.1),.int .i64 (if a0.2.1-1=3 then 0 else a0.2.2.2.2.2)] ?_
 refine A.q0 [] [] [.n] [(3,.int .i64 0)] ?_
 refine A.dx 1 ?_
 obtain rfl:=Option.some.inj hF
 exact A.AX.ret [] (.tuple #[.agg #[.int .i64 a0.1,.int .i64 (a0.2.1-1),.int .i64 (if a0.2.1-1=0 then 0 else a0.2.2.1),.int .i64 (if a0.2.1-1=1 then 0 else a0.2.2.2.1),.int .i64 (if a0.2.1-1=2 then 0 else a0.2.2.2.2.1),.int .i64 (if a0.2.1-1=3 then 0 else a0.2.2.2.2.2)],.int .i64 0]) (fun a w hf hh=>Z.resv2 rfl (Z.rv_n hf rfl Tryz.isAgg29 Tryz.sizeOf29 (A.Hp.blk hh 1) rfl) (Z.rv_t hf rfl)) (⟨rfl,rfl,h0_,(Z.i64_has hc6),(A.ite_has (A.hasl .i64 (0) rfl) h2_),(A.ite_has (A.hasl .i64 (0) rfl) h3_),(A.ite_has (A.hasl .i64 (0) rfl) h4_),(A.ite_has (A.hasl .i64 (0) rfl) h5_),(A.hasl .i64 (0) rfl)⟩)
end Go.Proofs.YtbljnlkhebiniaaGreatDoor
end
section
set_option linter.unusedVariables false
set_option linter.unusedSimpArgs false
set_option maxRecDepth 20000
set_option maxHeartbeats 8000000
set_option synthInstance.maxSize 1000000
set_option synthInstance.maxHeartbeats 400000
namespace Go.Proofs.YtbljnlkhebiniaaGreatDoor
open Go.RowKit
def F.R01_Next (a0:D28):Option (D28×Int):=(F.R01_Check (a0.1,a0.2.1,(a0.2.2.1,a0.2.2.2.1,a0.2.2.2.2.1,a0.2.2.2.2.2))).bind fun r3=>(if r3≠0 then(some ((0,0,(0,0,0,0)),r3))else(if a0.2.1=0 then(if a0.1=1073741824 then(some ((0,0,(0,0,0,0)),12))else(A.gd (Z.R64 (a0.1+1)) (some ((a0.1+1,a0.2.1,(a0.2.2.1,a0.2.2.2.1,a0.2.2.2.2.1,a0.2.2.2.2.2)),0))))else(A.gd (Z.R64 (a0.2.1-1)) ((A.ix [a0.2.2.1,a0.2.2.2.1,a0.2.2.2.2.1,a0.2.2.2.2.2] (a0.2.1-1)).bind fun x8=>(if x8=1048576 then(some ((0,0,(0,0,0,0)),12))else(A.gd (Z.R64 (a0.2.1-1)) ((A.ix [a0.2.2.1,a0.2.2.2.1,a0.2.2.2.2.1,a0.2.2.2.2.2] (a0.2.1-1)).bind fun x11=>(A.gd (Z.R64 (x11+1)) ((A.ix [a0.2.2.1,a0.2.2.2.1,a0.2.2.2.2.1,a0.2.2.2.2.2] (a0.2.1-1)).bind fun x14=>(some ((a0.1,a0.2.1,((if a0.2.1-1=0 then x11+1 else a0.2.2.1),(if a0.2.1-1=1 then x11+1 else a0.2.2.2.1),(if a0.2.1-1=2 then x11+1 else a0.2.2.2.2.1),(if a0.2.1-1=3 then x11+1 else a0.2.2.2.2.2))),0)))))))))))
theorem R01_Next_ok (a0:D28)(h0_:IntKind.i64.has a0.1)(h1_:IntKind.i64.has a0.2.1)(h2_:IntKind.i64.has a0.2.2.1)(h3_:IntKind.i64.has a0.2.2.2.1)(h4_:IntKind.i64.has a0.2.2.2.2.1)(h5_:IntKind.i64.has a0.2.2.2.2.2)(r:D28×Int)(hF:F.R01_Next a0=some r):
    A.Ct Tryz.prog 54 [.agg #[.int .i64 a0.1,.int .i64 a0.2.1,.int .i64 a0.2.2.1,.int .i64 a0.2.2.2.1,.int .i64 a0.2.2.2.2.1,.int .i64 a0.2.2.2.2.2]] [] [] (fun v H'=>v=.tuple #[.agg #[.int .i64 r.1.1,.int .i64 r.1.2.1,.int .i64 r.1.2.2.1,.int .i64 r.1.2.2.2.1,.int .i64 r.1.2.2.2.2.1,.int .i64 r.1.2.2.2.2.2],.int .i64 r.2]∧H'=[]∧IntKind.i64.has r.1.1∧IntKind.i64.has r.1.2.1∧IntKind.i64.has r.1.2.2.1∧IntKind.i64.has r.1.2.2.2.1∧IntKind.i64.has r.1.2.2.2.2.1∧IntKind.i64.has r.1.2.2.2.2.2∧IntKind.i64.has r.2):=by
 refine A.Ct.enter Tryz.func54 rfl Tryz.ntmps54 rfl fun w0 F0=>?_
 rw[F.R01_Next]at hF
 refine A.xl 1 ?_
 refine A.AL.box 0 (cs:=[.int .i64 a0.1,.int .i64 a0.2.1,.int .i64 a0.2.2.1,.int .i64 a0.2.2.2.1,.int .i64 a0.2.2.2.2.1,.int .i64 a0.2.2.2.2.2]) fun g1=>?_
 refine A.AL.alloc 1 (cs:=[.int .i64 0,.int .i64 0,.int .i64 0,.int .i64 0,.int .i64 0,.int .i64 0]) Tryz.zeroValue29 fun g2=>?_
 refine A.q0 [] [] [.n] [] ?_
 refine A.dl 3 ?_
 refine A.q0 [0] [] [.b 0 0] [(5,.agg #[.int .i64 a0.1,.int .i64 a0.2.1,.int .i64 a0.2.2.1,.int .i64 a0.2.2.2.1,.int .i64 a0.2.2.2.2.1,.int .i64 a0.2.2.2.2.2])] ?_
 obtain⟨r3,hv4,hF⟩:=A.bd_some hF
 refine A.AL.call 2 [] (first:=[]) (cap:=[]) cf39 (R01_Check_ok (a0.1,a0.2.1,(a0.2.2.1,a0.2.2.2.1,a0.2.2.2.2.1,a0.2.2.2.2.2)) h0_ h1_ h2_ h3_ h4_ h5_ r3 hv4) .nil ?_
 rintro _ _ ⟨rfl,rfl,hr5⟩
 refine⟨by kernel_rfl,?_⟩
 refine A.q0 [] [] [.n] [(4,.int .i64 r3)] ?_
 refine A.dl 2 ?_
 refine A.q0 [] [] [.n,.n] [(8,.bool (decide (r3≠0)))] ?_
 refine A.dx 1 ?_
 refine A.AX.cnd rfl hF (fun hb hF=>?_) (fun hb hF=>?_)
 ·refine A.xl 1 ?_
  refine A.q0 [] [] [.n,.n] [(9,.agg #[.int .i64 0,.int .i64 0,.int .i64 0,.int .i64 0,.int .i64 0,.int .i64 0]),(10,.int .i64 r3)] ?_
  refine A.sw 1 [] [.int .i64 0,.int .i64 0,.int .i64 0,.int .i64 0,.int .i64 0,.int .i64 0] ?_
  refine A.q0 [] [] [.n] [(3,.int .i64 r3)] ?_
  refine A.dx 1 ?_
  obtain rfl:=Option.some.inj hF
  exact A.AX.ret [] (.tuple #[.agg #[.int .i64 0,.int .i64 0,.int .i64 0,.int .i64 0,.int .i64 0,.int .i64 0],.int .i64 r3]) (fun a w hf hh=>Z.resv2 rfl (Z.rv_n hf rfl Tryz.isAgg29 Tryz.sizeOf29 (A.Hp.blk hh 1) rfl) (Z.rv_t hf rfl)) (⟨rfl,rfl,(A.hasl .i64 (0) rfl),(A.hasl .i64 (0) rfl),(A.hasl .i64 (0) rfl),(A.hasl .i64 (0) rfl),(A.hasl .i64 (0) rfl),(A.hasl .i64 (0) rfl),hr5⟩)
 refine A.xl 4 ?_
 refine A.q0 [0] [] [.n,.b 0 1,.n] [(13,.bool (decide (a0.2.1=0)))] ?_
 refine A.dx 1 ?_
 refine A.AX.cnd rfl hF (fun hb hF=>?_) (fun hb hF=>?_)
 ·refine A.xl 2 ?_
  refine A.q0 [0] [] [.n,.b 0 0,.n] [(16,.bool (decide (a0.1=1073741824)))] ?_
  refine A.dx 1 ?_
  refine A.AX.cnd rfl hF (fun hb hF=>?_) (fun hb hF=>?_)
  ·refine A.xl 1 ?_
   refine A.q0 [] [] [.n] [(17,.agg #[.int .i64 0,.int .i64 0,.int .i64 0,.int .i64 0,.int .i64 0,.int .i64 0])] ?_
   refine A.sw 1 [] [.int .i64 0,.int .i64 0,.int .i64 0,.int .i64 0,.int .i64 0,.int .i64 0] ?_
   refine A.q0 [] [] [.n] [(3,.int .i64 12)] ?_
   refine A.dx 1 ?_
   obtain rfl:=Option.some.inj hF
   exact A.AX.ret [] (.tuple #[.agg #[.int .i64 0,.int .i64 0,.int .i64 0,.int .i64 0,.int .i64 0,.int .i64 0],.int .i64 12]) (fun a w hf hh=>Z.resv2 rfl (Z.rv_n hf rfl Tryz.isAgg29 Tryz.sizeOf29 (A.Hp.blk hh 1) rfl) (Z.rv_t hf rfl)) (⟨rfl,rfl,(A.hasl .i64 (0) rfl),(A.hasl .i64 (0) rfl),(A.hasl .i64 (0) rfl),(A.hasl .i64 (0) rfl),(A.hasl .i64 (0) rfl),(A.hasl .i64 (0) rfl),(A.hasl .i64 (12) rfl)⟩)
  refine A.xl 3 ?_
  obtain⟨hc6,hF⟩:=A.gd_some hF
  refine A.q [0] [] [.n,.b 0 0,.n,.n] [Z.R64 (a0.1+1)] [(20,.int .i64 (a0.1+1)),(21,.pointer (some ⟨g1,0,none⟩))] hc6 ?_
  refine A.AL.store 0 [] (new:=[.int .i64 (a0.1+1)]) (cs':=[.int .i64 (a0.1+1),.int .i64 a0.2.1,.int .i64 a0.2.2.1,.int .i64 a0.2.2.2.1,.int .i64 a0.2.2.2.2.1,.int .i64 a0.2.2.2.2.2]) ?_
  refine A.dl 2 ?_
  refine A.q0 [0] [] [.b 0 0] [(22,.agg #[.int .i64 (a0.1+1),.int .i64 a0.2.1,.int .i64 a0.2.2.1,.int .i64 a0.2.2.2.1,.int .i64 a0.2.2.2.2.1,.int .i64 a0.2.2.2.2.2])] ?_
  refine A.sw 1 [] [.int .i64 (a0.1+1),.int .i64 a0.2.1,.int .i64 a0.2.2.1,.int .i64 a0.2.2.2.1,.int .i64 a0.2.2.2.2.1,.int .i64 a0.2.2.2.2.2] ?_
  refine A.q0 [] [] [.n] [(3,.int .i64 0)] ?_
  refine A.dx 1 ?_
  obtain rfl:=Option.some.inj hF
  exact A.AX.ret [] (.tuple #[.agg #[.int .i64 (a0.1+1),.int .i64 a0.2.1,.int .i64 a0.2.2.1,.int .i64 a0.2.2.2.1,.int .i64 a0.2.2.2.2.1,.int .i64 a0.2.2.2.2.2],.int .i64 0]) (fun a w hf hh=>Z.resv2 rfl (Z.rv_n hf rfl Tryz.isAgg29 Tryz.sizeOf29 (A.Hp.blk hh 1) rfl) (Z.rv_t hf rfl)) (⟨rfl,rfl,(Z.i64_has hc6),h1_,h2_,h3_,h4_,h5_,(A.hasl .i64 (0) rfl)⟩)
 refine A.xl 4 ?_
 obtain⟨hc7,hF⟩:=A.gd_some hF
 refine A.q [0] [] [.n,.b 0 1,.n,.n] [Z.R64 (a0.2.1-1)] [(25,.int .i64 (a0.2.1-1)),(26,.pointer (some ⟨g1,2,none⟩))] hc7 ?_
 obtain⟨x8,hv9,hF⟩:=A.bd_some hF
 refine A.AL.ixb 0 42 (fun v:Int=>.int .i64 v) [a0.2.2.1,a0.2.2.2.1,a0.2.2.2.2.1,a0.2.2.2.2.2] hv9 ?_
 refine A.q0 [] [42] [.e 0 0,.n] [(29,.bool (decide (x8=1048576)))] ?_
 refine A.dx 1 ?_
 refine A.AX.cnd rfl hF (fun hb hF=>?_) (fun hb hF=>?_)
 ·refine A.xl 1 ?_
  refine A.q0 [] [] [.n] [(30,.agg #[.int .i64 0,.int .i64 0,.int .i64 0,.int .i64 0,.int .i64 0,.int .i64 0])] ?_
  refine A.sw 1 [] [.int .i64 0,.int .i64 0,.int .i64 0,.int .i64 0,.int .i64 0,.int .i64 0] ?_
  refine A.q0 [] [] [.n] [(3,.int .i64 12)] ?_
  refine A.dx 1 ?_
  obtain rfl:=Option.some.inj hF
  exact A.AX.ret [] (.tuple #[.agg #[.int .i64 0,.int .i64 0,.int .i64 0,.int .i64 0,.int .i64 0,.int .i64 0],.int .i64 12]) (fun a w hf hh=>Z.resv2 rfl (Z.rv_n hf rfl Tryz.isAgg29 Tryz.sizeOf29 (A.Hp.blk hh 1) rfl) (Z.rv_t hf rfl)) (⟨rfl,rfl,(A.hasl .i64 (0) rfl),(A.hasl .i64 (0) rfl),(A.hasl .i64 (0) rfl),(A.hasl .i64 (0) rfl),(A.hasl .i64 (0) rfl),(A.hasl .i64 (0) rfl),(A.hasl .i64 (12) rfl)⟩)
 refine A.xl 3 ?_
 obtain⟨hc10,hF⟩:=A.gd_some hF
 refine A.q [0] [] [.n,.b 0 1,.n,.n] [Z.R64 (a0.2.1-1)] [(33,.int .i64 (a0.2.1-1)),(34,.pointer (some ⟨g1,2,none⟩))] hc10 ?_
 obtain⟨x11,hv12,hF⟩:=A.bd_some hF
 refine A.AL.ixb 0 43 (fun v:Int=>.int .i64 v) [a0.2.2.1,a0.2.2.2.1,a0.2.2.2.2.1,a0.2.2.2.2.2] hv12 ?_
 obtain⟨hc13,hF⟩:=A.gd_some hF
 refine A.q [] [43] [.e 0 0,.n,.n] [Z.R64 (x11+1)] [(37,.int .i64 (x11+1)),(38,.pointer (some ⟨g1,2,none⟩))] hc13 ?_
 obtain⟨x14,hv15,hF⟩:=A.bd_some hF
 refine A.AL.ixb 0 44 (fun v:Int=>.int .i64 v) [a0.2.2.1,a0.2.2.2.1,a0.2.2.2.2.1,a0.2.2.2.2.2] hv15 ?_
 refine A.AL.stb 0 [42,43,44] hv15 (A.arr4 (Q:=fun i=>[.int .i64 a0.1,.int .i64 a0.2.1,.int .i64 (if i=0 then x11+1 else a0.2.2.1),.int .i64 (if i=1 then x11+1 else a0.2.2.2.1),.int .i64 (if i=2 then x11+1 else a0.2.2.2.2.1),.int .i64 (if i=3 then x11+1 else a0.2.2.2.2.2)]=List.set [.int .i64 a0.1,.int .i64 a0.2.1,.int .i64 a0.2.2.1,.int .i64 a0.2.2.2.1,.int .i64 a0.2.2.2.2.1,.int .i64 a0.2.2.2.2.2] (2+i.toNat*1) (.int .i64 (x11+1))) hv15 rfl rfl rfl rfl) ?_
 refine A.dl 2 ?_
 refine A.q0 [0] [] [.b 0 0] [(40,.agg #[.int .i64 a0.1,.int .i64 a0.2.1,.int .i64 (if a0.2.1-1=0 then x11+1 else a0.2.2.1),.int .i64 (if a0.2.1-1=1 then x11+1 else a0.2.2.2.1),.int .i64 (if a0.2.1-1=2 then x11+1 else a0.2.2.2.2.1),.int .i64 (if a0.2.1-1=3 then x11+1 else a0.2.2.2.2.2)])] ?_
 refine A.sw 1 [] [.int .i64 a0.1,.int .i64 a0.2.1,.int .i64 (if a0.2.1-1=0 then x11+1 else a0.2.2.1),.int .i64 (if a0.2.1-1=1 then x11+1 else a0.2.2.2.1),.int .i64 (if a0.2.1-1=2 then x11+1 else a0.2.2.2.2.1),.int .i64 (if a0.2.1-1=3 then x11+1 else a0.2.2.2.2.2)] ?_
 refine A.q0 [] [] [.n] [(3,.int .i64 0)] ?_
 refine A.dx 1 ?_
 obtain rfl:=Option.some.inj hF
 exact A.AX.ret [] (.tuple #[.agg #[.int .i64 a0.1,.int .i64 a0.2.1,.int .i64 (if a0.2.1-1=0 then x11+1 else a0.2.2.1),.int .i64 (if a0.2.1-1=1 then x11+1 else a0.2.2.2.1),.int .i64 (if a0.2.1-1=2 then x11+1 else a0.2.2.2.2.1),.int .i64 (if a0.2.1-1=3 then x11+1 else a0.2.2.2.2.2)],.int .i64 0]) (fun a w hf hh=>Z.resv2 rfl (Z.rv_n hf rfl Tryz.isAgg29 Tryz.sizeOf29 (A.Hp.blk hh 1) rfl) (Z.rv_t hf rfl)) (⟨rfl,rfl,h0_,h1_,(A.ite_has (Z.i64_has hc13) h2_),(A.ite_has (Z.i64_has hc13) h3_),(A.ite_has (Z.i64_has hc13) h4_),(A.ite_has (Z.i64_has hc13) h5_),(A.hasl .i64 (0) rfl)⟩)
def F.R06_upper_j1 (k1:(List UInt8)→Int→Option ByteArray)(y5:Int)(xs8:List UInt8):Option ByteArray:=A.gd (Z.R64 (y5+1)) (k1 xs8 (y5+1))
def F.R06_upper_j2 (k1:(List UInt8)→Int→Option ByteArray)(xs3:List UInt8)(y5:Int)(y11:Bool):Option ByteArray:=if y11=true then((A.ix xs3 y5).bind fun x12=>((A.ix xs3 y5).bind fun x14=>(F.R06_upper_j1 k1 y5 (xs3.set y5.toNat (A.b8 ((x12.toNat:Int)-32))))))else(F.R06_upper_j1 k1 y5 xs3)
def F.R06_upper_l3 (a0:ByteArray):Nat→(List UInt8)→Int→Option ByteArray
 |0,_,_=>none
 |f+1,xs3,y5=>if y5<((a0.data.toList).length:Int)then((A.ix xs3 y5).bind fun x16=>(if(97:Int)≤(x16.toNat:Int)then((A.ix xs3 y5).bind fun x18=>(F.R06_upper_j2 (F.R06_upper_l3 a0 f) xs3 y5 (decide ((x18.toNat:Int)≤122))))else(F.R06_upper_j2 (F.R06_upper_l3 a0 f) xs3 y5 false)))else(some (ByteArray.mk (xs3).toArray))
def F.R06_upper (a0:ByteArray):Option ByteArray:=F.R06_upper_l3 a0 A.FU a0.data.toList 0
theorem R06_upper_ok (a0:ByteArray)(h0_:a0.size≤maxLen)(r:ByteArray)(hF:F.R06_upper a0=some r):
    A.Ct Tryz.prog 130 [.string a0] [] [] (fun v H'=>v=.string r∧H'=[]∧r.size≤maxLen):=by
 refine A.Ct.enter Tryz.func130 rfl Tryz.ntmps130 rfl fun w0 F0=>?_
 rw[F.R06_upper]at hF
 refine A.xl 1 ?_
 refine A.q0 [] [] [.n] [] ?_
 refine A.dl 2 ?_
 refine A.q0 [] [] [.n] [(5,.string a0)] ?_
 refine A.AL.cvb 0 h0_ fun g1 c2=>?_
 refine A.q0 [] [] [.n] [(3,.slice (some ⟨g1,0,none⟩) ((a0.data.toList).length) c2)] ?_
 refine A.dl 3 ?_
 refine A.q0 [] [] [.n] [(4,.int .i64 0)] ?_
 refine A.dx 2 ?_
 refine A.lp_ [3] [] (fun f nl nh=>∃(xs3:List UInt8),∃(y5:Int),nl=[(4,.int .i64 y5)]∧nh=[(0,.ob g1 (A.Bs 5 c2 xs3))]∧(a0.data.toList).length=xs3.length∧IntKind.i64.has y5∧F.R06_upper_l3 a0 f xs3 y5=some r) ⟨a0.data.toList,0,rfl,rfl,rfl,(A.hasl .i64 (0) rfl),hF⟩ ?_
 rintro f7 _ _ ⟨xs3,y5,rfl,rfl,hn4,hy6,hF⟩
 rcases f7 with _|f7
 ·exact A.no0 hF
 rw[F.R06_upper_l3]at hF
 refine A.xl 2 ?_
 refine A.q0 [] [] [.n,.n,.n,.n] [(10,.bool (decide (y5<((a0.data.toList).length:Int))))] ?_
 refine A.dx 1 ?_
 refine A.AX.cnd rfl hF (fun hb hF=>?_) (fun hb hF=>?_)
 ·refine A.xx 2 ?_
  refine A.AX.join [3,4] [] (fun nl nh=>∃(xs8:List UInt8),nl=[]∧nh=[(0,.ob g1 (A.Bs 5 c2 xs8))]∧(a0.data.toList).length=xs8.length∧F.R06_upper_j1 (F.R06_upper_l3 a0 f7) y5 xs8=some r) ?_ ?_
  ·refine A.xx 1 ?_
   refine A.AX.join [3,4] [0] (fun nl nh=>∃(y11:Bool),nl=[(24,.bool y11)]∧nh=[]∧F.R06_upper_j2 (F.R06_upper_l3 a0 f7) xs3 y5 y11=some r) ?_ ?_
   ·refine A.xl 0 ?_
    refine A.q0 [] [] [.n,.n] [(13,.slice (some ⟨g1,0,none⟩) ((a0.data.toList).length) c2),(14,.int .i64 y5)] ?_
    obtain⟨x16,hv17,hF⟩:=A.bd_some hF
    refine A.AL.ixB 0 9 hv17 hn4 ?_
    refine A.q0 [] [9] [.e 0 0,.n,.n] [(18,.bool (decide ((97:Int)≤(x16.toNat:Int))))] ?_
    refine A.AL.cnp (j:=18) rfl hF (fun hb hF=>?_) (fun hb hF=>?_)
    ·refine A.q0 [] [] [.on .n,.on .n] [(19,.slice (some ⟨g1,0,none⟩) ((a0.data.toList).length) c2),(20,.int .i64 y5)] ?_
     refine A.AL.on (dj:=18) rfl rfl ?_
     obtain⟨x18,hv19,hF⟩:=A.bd_some hF
     refine A.AL.ixB 0 10 hv19 hn4 ?_
     refine A.q0 [] [10] [.on (.e 0 0),.on .n,.n] [(24,.bool (decide ((x18.toNat:Int)≤122)))] ?_
     refine A.AL.done ?_
     exact A.j ⟨(decide ((x18.toNat:Int)≤122)),rfl,rfl,hF⟩
    refine A.q0 [] [] [.off,.off,.off,.off,.off,.n] [(24,.bool false)] ?_
    refine A.AL.done ?_
    exact A.j ⟨false,rfl,rfl,hF⟩
   rintro _ _ ⟨y11,rfl,rfl,hF⟩
   rw[F.R06_upper_j2]at hF
   refine A.AX.cnb rfl hF (fun hb hF=>?_) (fun hb hF=>?_)
   ·refine A.xl 0 ?_
    refine A.q0 [] [] [.n,.n] [(25,.slice (some ⟨g1,0,none⟩) ((a0.data.toList).length) c2),(26,.int .i64 y5)] ?_
    obtain⟨x12,hv13,hF⟩:=A.bd_some hF
    refine A.AL.ixB 0 11 hv13 hn4 ?_
    refine A.q0 [] [11] [.e 0 0,.n] [(29,.int .u8 (IntKind.u8.wrap ((x12.toNat:Int)-32)))] ?_
    obtain⟨x14,hv15,hF⟩:=A.bd_some hF
    refine A.AL.ixB 0 12 hv15 hn4 ?_
    refine A.AL.stB 0 12 [11,12] (A.b8 ((x12.toNat:Int)-32)) hv15 (A.b8_wrap _) ?_
    refine A.de 1 ?_
    exact A.j ⟨(xs3.set y5.toNat (A.b8 ((x12.toNat:Int)-32))),rfl,rfl,(by rw[List.length_set];exact hn4),hF⟩
   refine A.xe 2 ?_
   exact A.j ⟨xs3,rfl,rfl,hn4,hF⟩
  rintro _ _ ⟨xs8,rfl,rfl,hn9,hF⟩
  rw[F.R06_upper_j1]at hF
  refine A.xl 0 ?_
  obtain⟨hc10,hF⟩:=A.gd_some hF
  refine A.q [] [] [.n,.n,.n] [Z.R64 (y5+1)] [(4,.int .i64 (y5+1))] hc10 ?_
  refine A.AL.done ?_
  exact A.j ⟨_,Nat.lt_succ_self _,⟨xs8,(y5+1),rfl,rfl,hn9,(Z.i64_has hc10),hF⟩⟩
 refine A.xl 3 ?_
 refine A.q0 [] [] [.n] [(31,.slice (some ⟨g1,0,none⟩) ((a0.data.toList).length) c2)] ?_
 refine A.okB 0 fun hl20=>?_
 refine A.AL.cbs 0 hn4 ?_
 refine A.q0 [] [] [.n] [(2,.string (ByteArray.mk (xs3).toArray))] ?_
 refine A.dx 1 ?_
 obtain rfl:=Option.some.inj hF
 exact A.rt1 [] ⟨rfl,rfl,(A.mk_le hl20)⟩
def F.R06_part_j1 (a0:ByteArray)(y1:Int)(y3:Int):Option ByteArray:=A.gd (0≤y1∧y1≤y3∧y3≤(a0.size:Int)) (some (a0.extract y1.toNat y3.toNat))
def F.R06_part_j2 (a0:ByteArray)(a1:(List D174))(a3:Int)(y1:Int):Option ByteArray:=if a3<((a1).length:Int)then((A.ix a1 a3).bind fun x6=>(F.R06_part_j1 a0 y1 x6.1))else(F.R06_part_j1 a0 y1 (a0.size:Int))
def F.R06_part (a0:ByteArray)(a1:(List D174))(a2:Int)(a3:Int):Option ByteArray:=if a2<((a1).length:Int)then((A.ix a1 a2).bind fun x11=>(F.R06_part_j2 a0 a1 a3 x11.1))else(F.R06_part_j2 a0 a1 a3 (a0.size:Int))
theorem R06_part_ok (a0:ByteArray)(a1:(List D174))(a2:Int)(a3:Int)(A1_:Option Addr)(c2_:Nat)(h0_:a0.size≤maxLen)(h3_:IntKind.i64.has a2)(h4_:IntKind.i64.has a3)(r:ByteArray)(hF:F.R06_part a0 a1 a2 a3=some r):
    A.Ct Tryz.prog 131 [.string a0,.slice A1_ ((a1).length) c2_,.int .i64 a2,.int .i64 a3] [(0,.ln T174 A1_ c2_ a1)] [] (fun v H'=>v=.string r∧H'=[]∧r.size≤maxLen):=by
 refine A.Ct.enter Tryz.func131 rfl Tryz.ntmps131 rfl fun w0 F0=>?_
 rw[F.R06_part]at hF
 refine A.xl 1 ?_
 refine A.q0 [] [] [.n] [] ?_
 refine A.dl 2 ?_
 refine A.q0 [] [] [.n,.n,.n,.n,.n,.n] [(9,.int .i64 (a0.size:Int)),(10,.int .i64 (a0.size:Int))] ?_
 refine A.dx 1 ?_
 refine A.AX.join [0,1,3,10] [0] (fun nl nh=>∃(y1:Int),nl=[(9,.int .i64 y1)]∧nh=[]∧IntKind.i64.has y1∧F.R06_part_j2 a0 a1 a3 y1=some r) ?_ ?_
 ·refine A.xl 1 ?_
  refine A.q0 [] [] [.n,.n,.n,.n] [(18,.bool (decide (a2<((a1).length:Int))))] ?_
  refine A.dx 1 ?_
  refine A.AX.cnd rfl hF (fun hb hF=>?_) (fun hb hF=>?_)
  ·refine A.xl 0 ?_
   refine A.q0 [] [] [.n,.n] [(19,.slice A1_ ((a1).length) c2_),(20,.int .i64 a2)] ?_
   obtain⟨x11,hv12,hF⟩:=A.bd_some hF
   refine A.AL.ixl 0 1 hv12 fun ho13=>?_
   intro b14 o15
   refine A.q0 [] [1] [.n,.e 0 0,.n] [(9,.int .i64 x11.1)] ?_
   refine A.AL.done ?_
   exact A.j ⟨x11.1,rfl,rfl,ho13.1,hF⟩
  refine A.xe 1 ?_
  exact A.j ⟨(a0.size:Int),rfl,rfl,(A.has_nat h0_),hF⟩
 rintro _ _ ⟨y1,rfl,rfl,hy2,hF⟩
 rw[F.R06_part_j2]at hF
 refine A.AX.join [0,9] [] (fun nl nh=>∃(y3:Int),nl=[(10,.int .i64 y3)]∧nh=[]∧IntKind.i64.has y3∧F.R06_part_j1 a0 y1 y3=some r) ?_ ?_
 ·refine A.xl 1 ?_
  refine A.q0 [] [] [.n,.n,.n,.n] [(27,.bool (decide (a3<((a1).length:Int))))] ?_
  refine A.dx 1 ?_
  refine A.AX.cnd rfl hF (fun hb hF=>?_) (fun hb hF=>?_)
  ·refine A.xl 0 ?_
   refine A.q0 [] [] [.n,.n] [(28,.slice A1_ ((a1).length) c2_),(29,.int .i64 a3)] ?_
   obtain⟨x6,hv7,hF⟩:=A.bd_some hF
   refine A.AL.ixl 0 2 hv7 fun ho8=>?_
   intro b9 o10
   refine A.q0 [] [2] [.n,.e 0 0,.n] [(10,.int .i64 x6.1)] ?_
   refine A.AL.done ?_
   exact A.j ⟨x6.1,rfl,rfl,ho8.1,hF⟩
  refine A.xe 1 ?_
  exact A.j ⟨(a0.size:Int),rfl,rfl,(A.has_nat h0_),hF⟩
 rintro _ _ ⟨y3,rfl,rfl,hy4,hF⟩
 rw[F.R06_part_j1]at hF
 refine A.xl 1 ?_
 refine A.q0 [] [] [.n,.n,.n] [(33,.string a0),(34,.int .i64 y1),(35,.int .i64 y3)] ?_
 obtain⟨hc5,hF⟩:=A.gd_some hF
 refine A.AL.slb hc5 ?_
 refine A.q0 [] [] [.n] [(8,.string (a0.extract y1.toNat y3.toNat))] ?_
 refine A.dx 1 ?_
 obtain rfl:=Option.some.inj hF
 exact A.rt1 [] ⟨rfl,rfl,(A.ext_le h0_)⟩
def F.R06_turn_l1 (a0:ByteArray)(r1:(List D174)):Nat→ByteArray→Int→Option ByteArray
 |0,_,_=>none
 |f+1,y5,y7=>if y7<((r1).length:Int)then(A.gd (Z.R64 (y7+1)) ((F.R06_part a0 r1 y7 (y7+1)).bind fun r11=>(A.gd (r11.size+y5.size≤9223372036854775807) (A.gd (Z.R64 (y7+1)) ((F.R06_turn_l1 a0 r1 f) (r11++y5) (y7+1))))))else(some y5)
def F.R06_turn (a0:ByteArray):Option ByteArray:=(F.R05_Runes a0).bind fun r1=>(F.R06_turn_l1 a0 r1 A.FU (ByteArray.mk #[]) 0)
theorem R06_turn_ok (a0:ByteArray)(h0_:a0.size≤maxLen)(r:ByteArray)(hF:F.R06_turn a0=some r):
    A.Ct Tryz.prog 132 [.string a0] [] [] (fun v H'=>v=.string r∧H'=[]∧r.size≤maxLen):=by
 refine A.Ct.enter Tryz.func132 rfl Tryz.ntmps132 rfl fun w0 F0=>?_
 rw[F.R06_turn]at hF
 refine A.xl 1 ?_
 refine A.q0 [] [] [.n] [] ?_
 refine A.dl 2 ?_
 refine A.q0 [] [] [.n] [(6,.string a0)] ?_
 obtain⟨r1,hv2,hF⟩:=A.bd_some hF
 refine A.AL.call 0 [] (first:=[]) (cap:=[]) cf117 (R05_Runes_ok a0 h0_ r1 hv2) .nil ?_
 rintro _ _ ⟨A3,c4,rfl,rfl⟩
 refine⟨by kernel_rfl,?_⟩
 refine A.q0 [] [] [.n] [(3,.slice A3 ((r1).length) c4)] ?_
 refine A.dl 2 ?_
 refine A.q0 [] [] [.n] [(4,.string (ByteArray.mk #[]))] ?_
 refine A.dl 3 ?_
 refine A.q0 [] [] [.n] [(5,.int .i64 0)] ?_
 refine A.dx 2 ?_
 refine A.lp_ [0,3] [0] (fun f nl nh=>∃(y5:ByteArray),∃(y7:Int),nl=[(4,.string y5),(5,.int .i64 y7)]∧nh=[]∧y5.size≤maxLen∧IntKind.i64.has y7∧F.R06_turn_l1 a0 r1 f y5 y7=some r) ⟨(ByteArray.mk #[]),0,rfl,rfl,(A.szl (ByteArray.mk #[]) rfl),(A.hasl .i64 (0) rfl),hF⟩ ?_
 rintro f9 _ _ ⟨y5,y7,rfl,rfl,hy6,hy8,hF⟩
 rcases f9 with _|f9
 ·exact A.no0 hF
 rw[F.R06_turn_l1]at hF
 refine A.xl 2 ?_
 refine A.q0 [] [] [.n,.n,.n,.n] [(11,.bool (decide (y7<((r1).length:Int))))] ?_
 refine A.dx 1 ?_
 refine A.AX.cnd rfl hF (fun hb hF=>?_) (fun hb hF=>?_)
 ·refine A.xl 4 ?_
  obtain⟨hc10,hF⟩:=A.gd_some hF
  refine A.q [] [] [.n,.n,.n,.n,.n] [Z.R64 (y7+1)] [(14,.string a0),(15,.slice A3 ((r1).length) c4),(16,.int .i64 y7),(18,.int .i64 (y7+1))] hc10 ?_
  obtain⟨r11,hv12,hF⟩:=A.bd_some hF
  refine A.AL.call 120 [] (first:=[]) (cap:=[]) cf131 (R06_part_ok a0 r1 y7 (y7+1) A3 c4 h0_ hy8 (Z.i64_has hc10) r11 hv12) (.o 0 .nil) ?_
  rintro _ _ ⟨rfl,rfl,hr13⟩
  refine⟨by kernel_rfl,?_⟩
  obtain⟨hc14,hF⟩:=A.gd_some hF
  refine A.q [] [] [.n,.n,.n] [r11.size+y5.size≤9223372036854775807] [(4,.string (r11++y5))] hc14 ?_
  refine A.dl 2 ?_
  obtain⟨hc15,hF⟩:=A.gd_some hF
  refine A.q [] [] [.n,.n,.n] [Z.R64 (y7+1)] [(5,.int .i64 (y7+1))] hc15 ?_
  refine A.AL.done ?_
  exact A.j ⟨_,Nat.lt_succ_self _,⟨(r11++y5),(y7+1),rfl,rfl,(A.cat_le hc14),(Z.i64_has hc15),hF⟩⟩
 refine A.xl 3 ?_
 refine A.q0 [] [] [.n,.n] [(2,.string y5)] ?_
 refine A.dx 1 ?_
 obtain rfl:=Option.some.inj hF
 exact A.rt1 [] ⟨rfl,rfl,hy6⟩
end Go.Proofs.YtbljnlkhebiniaaGreatDoor
end
section
set_option linter.unusedVariables false
set_option linter.unusedSimpArgs false
set_option maxRecDepth 20000
set_option maxHeartbeats 8000000
set_option synthInstance.maxSize 1000000
set_option synthInstance.maxHeartbeats 400000
namespace Go.Proofs.YtbljnlkhebiniaaGreatDoor
open Go.RowKit
def F.R06_Map_j1 (y11:Int)(y13:ByteArray):Option (D43×Int):=some ((y11,y13),0)
def F.R06_Map (a0:D23)(a1:D43):Option (D43×Int):=(F.R06_may 2 (a0.1,a0.2.1,a0.2.2) (a1.1,a1.2)).bind fun r4=>(if r4≠0 then(some ((0,ByteArray.mk #[]),r4))else((F.R05_Runes a1.2).bind fun r7=>(if a0.1=2 then((F.R06_upper a1.2).bind fun r15=>(F.R06_Map_j1 a1.1 r15))else(if a0.1=3 then((F.R06_part a1.2 r7 0 a0.2.1).bind fun r18=>(F.R06_Map_j1 a1.1 r18))else(if a0.1=4 then((F.R06_turn a1.2).bind fun r21=>(F.R06_Map_j1 a1.1 r21))else(if a0.1=5 then(A.gd (a1.2.size+a0.2.2.size≤9223372036854775807) ((F.R05_Cut (a1.2++a0.2.2) 64).bind fun r25=>(F.R06_Map_j1 a1.1 r25)))else(if a0.1=6 then(A.gd (a0.2.1≠0∧Z.R64 ((Int.tmod a1.1 a0.2.1)+a0.2.1)∧a0.2.1≠0) (F.R06_Map_j1 (Int.tmod ((Int.tmod a1.1 a0.2.1)+a0.2.1) a0.2.1) a1.2))else(if a0.1=7 then(F.R06_Map_j1 ((r7).length:Int) a1.2)else(if a0.1=8 then(if(0:Int)<((r7).length:Int)then((A.ix r7 0).bind fun x30=>(A.gd (Z.R64 (x30.2)) (F.R06_Map_j1 x30.2 a1.2)))else(F.R06_Map_j1 0 a1.2))else(F.R06_Map_j1 a1.1 a1.2))))))))))
theorem R06_Map_ok (a0:D23)(a1:D43)(h0_:IntKind.i64.has a0.1)(h1_:IntKind.i64.has a0.2.1)(h2_:a0.2.2.size≤maxLen)(h3_:IntKind.i64.has a1.1)(h4_:a1.2.size≤maxLen)(r:D43×Int)(hF:F.R06_Map a0 a1=some r):
    A.Ct Tryz.prog 92 [.agg #[.int .i64 a0.1,.int .i64 a0.2.1,.string a0.2.2],.agg #[.int .i64 a1.1,.string a1.2]] [] [] (fun v H'=>v=.tuple #[.agg #[.int .i64 r.1.1,.string r.1.2],.int .i64 r.2]∧H'=[]∧IntKind.i64.has r.1.1∧r.1.2.size≤maxLen∧IntKind.i64.has r.2):=by
 refine A.Ct.enter Tryz.func92 rfl Tryz.ntmps92 rfl fun w0 F0=>?_
 rw[F.R06_Map]at hF
 refine A.xl 1 ?_
 refine A.AL.box 0 (cs:=[.int .i64 a0.1,.int .i64 a0.2.1,.string a0.2.2]) fun g1=>?_
 refine A.AL.box 1 (cs:=[.int .i64 a1.1,.string a1.2]) fun g2=>?_
 refine A.AL.alloc 2 (cs:=[.int .i64 0,.string (ByteArray.mk #[])]) Tryz.zeroValue44 fun g3=>?_
 refine A.q0 [] [] [.n] [] ?_
 refine A.dl 3 ?_
 refine A.q0 [0,1] [] [.b 0 0,.b 1 0] [(8,.agg #[.int .i64 a0.1,.int .i64 a0.2.1,.string a0.2.2]),(9,.agg #[.int .i64 a1.1,.string a1.2])] ?_
 obtain⟨r4,hv5,hF⟩:=A.bd_some hF
 refine A.AL.call 3 [] (first:=[]) (cap:=[]) cf129 (R06_may_ok 2 (a0.1,a0.2.1,a0.2.2) (a1.1,a1.2) (A.hasl .i64 (2) rfl) h0_ h1_ h2_ h3_ h4_ r4 hv5) .nil ?_
 rintro _ _ ⟨rfl,rfl,hr6⟩
 refine⟨by kernel_rfl,?_⟩
 refine A.q0 [] [] [.n] [(6,.int .i64 r4)] ?_
 refine A.dl 2 ?_
 refine A.q0 [] [] [.n,.n] [(12,.bool (decide (r4≠0)))] ?_
 refine A.dx 1 ?_
 refine A.AX.cnd rfl hF (fun hb hF=>?_) (fun hb hF=>?_)
 ·refine A.xl 1 ?_
  refine A.q0 [] [] [.n,.n] [(13,.agg #[.int .i64 0,.string (ByteArray.mk #[])]),(14,.int .i64 r4)] ?_
  refine A.sw 2 [] [.int .i64 0,.string (ByteArray.mk #[])] ?_
  refine A.q0 [] [] [.n] [(5,.int .i64 r4)] ?_
  refine A.dx 1 ?_
  obtain rfl:=Option.some.inj hF
  exact A.AX.ret [] (.tuple #[.agg #[.int .i64 0,.string (ByteArray.mk #[])],.int .i64 r4]) (fun a w hf hh=>Z.resv2 rfl (Z.rv_n hf rfl Tryz.isAgg44 Tryz.sizeOf44 (A.Hp.blk hh 2) rfl) (Z.rv_t hf rfl)) (⟨rfl,rfl,(A.hasl .i64 (0) rfl),(A.szl (ByteArray.mk #[]) rfl),hr6⟩)
 refine A.xl 3 ?_
 refine A.q0 [1] [] [.n,.b 0 1] [(16,.string a1.2)] ?_
 obtain⟨r7,hv8,hF⟩:=A.bd_some hF
 refine A.AL.call 43 [] (first:=[]) (cap:=[]) cf117 (R05_Runes_ok a1.2 h4_ r7 hv8) .nil ?_
 rintro _ _ ⟨A9,c10,rfl,rfl⟩
 refine⟨by kernel_rfl,?_⟩
 refine A.q0 [] [] [.n] [(7,.slice A9 ((r7).length) c10)] ?_
 refine A.dx 1 ?_
 refine A.AX.join [3,4] [2] (fun nl nh=>∃(y11:Int),∃(y13:ByteArray),nl=[]∧nh=[(1,.blk g2 44 [.int .i64 y11,.string y13])]∧IntKind.i64.has y11∧y13.size≤maxLen∧F.R06_Map_j1 y11 y13=some r) ?_ ?_
 ·refine A.xl 1 ?_
  refine A.q0 [0] [] [.n,.b 0 0] [(19,.int .i64 a0.1)] ?_
  refine A.dl 3 ?_
  refine A.q0 [] [] [.n,.n] [(20,.bool (decide (a0.1=2)))] ?_
  refine A.dx 1 ?_
  refine A.AX.cnd rfl hF (fun hb hF=>?_) (fun hb hF=>?_)
  ·refine A.xl 0 ?_
   refine A.q0 [1] [] [.n,.b 0 1] [(23,.string a1.2)] ?_
   obtain⟨r15,hv16,hF⟩:=A.bd_some hF
   refine A.AL.call 83 [] (first:=[]) (cap:=[]) cf130 (R06_upper_ok a1.2 h4_ r15 hv16) .nil ?_
   rintro _ _ ⟨rfl,rfl,hr17⟩
   refine⟨by kernel_rfl,?_⟩
   refine A.q0 [] [] [.n] [(25,.pointer (some ⟨g2,1,none⟩))] ?_
   refine A.AL.store 1 [] (new:=[.string r15]) (cs':=[.int .i64 a1.1,.string r15]) ?_
   refine A.de 1 ?_
   exact A.j ⟨a1.1,r15,rfl,rfl,h3_,hr17,hF⟩
  refine A.xl 1 ?_
  refine A.q0 [] [] [.n,.n] [(26,.bool (decide (a0.1=3)))] ?_
  refine A.dx 1 ?_
  refine A.AX.cnd rfl hF (fun hb hF=>?_) (fun hb hF=>?_)
  ·refine A.xl 0 ?_
   refine A.q0 [1,0] [] [.n,.b 0 1,.n,.n,.b 1 1] [(29,.string a1.2),(30,.slice A9 ((r7).length) c10),(32,.int .i64 a0.2.1)] ?_
   obtain⟨r18,hv19,hF⟩:=A.bd_some hF
   refine A.AL.call 123 [] (first:=[]) (cap:=[]) cf131 (R06_part_ok a1.2 r7 0 a0.2.1 A9 c10 h4_ (A.hasl .i64 (0) rfl) h1_ r18 hv19) (.o 43 .nil) ?_
   rintro _ _ ⟨rfl,rfl,hr20⟩
   refine⟨by kernel_rfl,?_⟩
   refine A.q0 [] [] [.n] [(34,.pointer (some ⟨g2,1,none⟩))] ?_
   refine A.AL.store 1 [] (new:=[.string r18]) (cs':=[.int .i64 a1.1,.string r18]) ?_
   refine A.de 1 ?_
   exact A.j ⟨a1.1,r18,rfl,rfl,h3_,hr20,hF⟩
  refine A.xl 1 ?_
  refine A.q0 [] [] [.n,.n] [(35,.bool (decide (a0.1=4)))] ?_
  refine A.dx 1 ?_
  refine A.AX.cnd rfl hF (fun hb hF=>?_) (fun hb hF=>?_)
  ·refine A.xl 0 ?_
   refine A.q0 [1] [] [.n,.b 0 1] [(38,.string a1.2)] ?_
   obtain⟨r21,hv22,hF⟩:=A.bd_some hF
   refine A.AL.call 163 [] (first:=[]) (cap:=[]) cf132 (R06_turn_ok a1.2 h4_ r21 hv22) .nil ?_
   rintro _ _ ⟨rfl,rfl,hr23⟩
   refine⟨by kernel_rfl,?_⟩
   refine A.q0 [] [] [.n] [(40,.pointer (some ⟨g2,1,none⟩))] ?_
   refine A.AL.store 1 [] (new:=[.string r21]) (cs':=[.int .i64 a1.1,.string r21]) ?_
   refine A.de 1 ?_
   exact A.j ⟨a1.1,r21,rfl,rfl,h3_,hr23,hF⟩
  refine A.xl 1 ?_
  refine A.q0 [] [] [.n,.n] [(41,.bool (decide (a0.1=5)))] ?_
  refine A.dx 1 ?_
  refine A.AX.cnd rfl hF (fun hb hF=>?_) (fun hb hF=>?_)
  ·refine A.xl 0 ?_
   obtain⟨hc24,hF⟩:=A.gd_some hF
   refine A.q [1,0] [] [.n,.b 0 1,.n,.b 1 2,.n] [a1.2.size+a0.2.2.size≤9223372036854775807] [(47,.string (a1.2++a0.2.2))] hc24 ?_
   obtain⟨r25,hv26,hF⟩:=A.bd_some hF
   refine A.AL.call 203 [] (first:=[]) (cap:=[]) cf119 (R05_Cut_ok (a1.2++a0.2.2) 64 (A.cat_le hc24) (A.hasl .i64 (64) rfl) r25 hv26) .nil ?_
   rintro _ _ ⟨rfl,rfl,hr27⟩
   refine⟨by kernel_rfl,?_⟩
   refine A.q0 [] [] [.n] [(49,.pointer (some ⟨g2,1,none⟩))] ?_
   refine A.AL.store 1 [] (new:=[.string r25]) (cs':=[.int .i64 a1.1,.string r25]) ?_
   refine A.de 1 ?_
   exact A.j ⟨a1.1,r25,rfl,rfl,h3_,hr27,hF⟩
  refine A.xl 1 ?_
  refine A.q0 [] [] [.n,.n] [(50,.bool (decide (a0.1=6)))] ?_
  refine A.dx 1 ?_
  refine A.AX.cnd rfl hF (fun hb hF=>?_) (fun hb hF=>?_)
  ·refine A.AX.dr mixed 12 13 (A.mb 13 0) ?_
   obtain⟨hc28,hF⟩:=A.gd_some hF
   refine A.AH.q A.pb [] [0,1,2,43] [1,0] [] (A.mb 13 4095) 1 [(0,.n),(2,.n),(5,.n),(8,.n),(1,.b 0 0),(3,.b 1 1),(6,.b 1 1),(9,.b 1 1),(4,.n),(7,.n),(10,.n),(11,.n)] [62,63] [a0.2.1≠0,Z.R64 ((Int.tmod a1.1 a0.2.1)+a0.2.1),a0.2.1≠0] [(62,.int .i64 (Int.tmod ((Int.tmod a1.1 a0.2.1)+a0.2.1) a0.2.1)),(63,.pointer (some ⟨g2,0,none⟩))] hc28 ?_
   refine A.AH.one 12 ?_
   refine A.AL.store 1 [] (new:=[.int .i64 (Int.tmod ((Int.tmod a1.1 a0.2.1)+a0.2.1) a0.2.1)]) (cs':=[.int .i64 (Int.tmod ((Int.tmod a1.1 a0.2.1)+a0.2.1) a0.2.1),.string a1.2]) ?_
   refine A.AH.nm (A.mb 13 8191) ?_
   refine A.AH.done ?_
   refine A.ee 1 ?_
   exact A.j ⟨(Int.tmod ((Int.tmod a1.1 a0.2.1)+a0.2.1) a0.2.1),a1.2,rfl,rfl,(A.tmod_has (Z.i64_has hc28.2.1)),h4_,hF⟩
  refine A.xl 1 ?_
  refine A.q0 [] [] [.n,.n] [(64,.bool (decide (a0.1=7)))] ?_
  refine A.dx 1 ?_
  refine A.AX.cnd rfl hF (fun hb hF=>?_) (fun hb hF=>?_)
  ·refine A.xl 0 ?_
   refine A.q0 [] [] [.n,.n,.n] [(67,.int .i64 ((r7).length:Int)),(68,.pointer (some ⟨g2,0,none⟩))] ?_
   refine A.AL.store 1 [] (new:=[.int .i64 ((r7).length:Int)]) (cs':=[.int .i64 ((r7).length:Int),.string a1.2]) ?_
   refine A.de 1 ?_
   refine A.oko 43 fun hl29=>?_
   exact A.j ⟨((r7).length:Int),a1.2,rfl,rfl,(A.has_len hl29.1),h4_,hF⟩
  refine A.xl 1 ?_
  refine A.q0 [] [] [.n,.n] [(69,.bool (decide (a0.1=8)))] ?_
  refine A.dx 1 ?_
  refine A.AX.cnd rfl hF (fun hb hF=>?_) (fun hb hF=>?_)
  ·refine A.xl 1 ?_
   refine A.q0 [] [] [.n] [(71,.pointer (some ⟨g2,0,none⟩))] ?_
   refine A.AL.store 1 [] (new:=[.int .i64 0]) (cs':=[.int .i64 0,.string a1.2]) ?_
   refine A.dl 2 ?_
   refine A.q0 [] [] [.n,.n,.n] [(74,.bool (decide ((0:Int)<((r7).length:Int))))] ?_
   refine A.dx 1 ?_
   refine A.AX.cnd rfl hF (fun hb hF=>?_) (fun hb hF=>?_)
   ·refine A.xl 0 ?_
    refine A.q0 [] [] [.n] [(75,.slice A9 ((r7).length) c10)] ?_
    obtain⟨x30,hv31,hF⟩:=A.bd_some hF
    refine A.AL.ixo 43 243 hv31 fun ho32=>?_
    intro g33 hA34
    obtain⟨hc35,hF⟩:=A.gd_some hF
    refine A.q [] [243] [.n,.e 0 1,.n,.n] [Z.R64 (x30.2)] [(79,.int .i64 x30.2),(80,.pointer (some ⟨g2,0,none⟩))] hc35 ?_
    refine A.AL.store 1 [] (new:=[.int .i64 x30.2]) (cs':=[.int .i64 x30.2,.string a1.2]) ?_
    refine A.de 1 ?_
    exact A.j ⟨x30.2,a1.2,rfl,rfl,(Z.i64_has hc35),h4_,hF⟩
   refine A.xe 2 ?_
   exact A.j ⟨0,a1.2,rfl,rfl,(A.hasl .i64 (0) rfl),h4_,hF⟩
  refine A.xe 2 ?_
  exact A.j ⟨a1.1,a1.2,rfl,rfl,h3_,h4_,hF⟩
 rintro _ _ ⟨y11,y13,rfl,rfl,hy12,hy14,hF⟩
 rw[F.R06_Map_j1]at hF
 refine A.xl 1 ?_
 refine A.q0 [1] [] [.b 0 0] [(81,.agg #[.int .i64 y11,.string y13])] ?_
 refine A.sw 2 [] [.int .i64 y11,.string y13] ?_
 refine A.q0 [] [] [.n] [(5,.int .i64 0)] ?_
 refine A.dx 1 ?_
 obtain rfl:=Option.some.inj hF
 exact A.AX.ret [] (.tuple #[.agg #[.int .i64 y11,.string y13],.int .i64 0]) (fun a w hf hh=>Z.resv2 rfl (Z.rv_n hf rfl Tryz.isAgg44 Tryz.sizeOf44 (A.Hp.blk hh 2) rfl) (Z.rv_t hf rfl)) (⟨rfl,rfl,hy12,hy14,(A.hasl .i64 (0) rfl)⟩)
def F.R06_has_l1 (a0:(List D174))(a1:Int):Nat→Int→Option Bool
 |0,_=>none
 |f+1,y1=>if y1<((a0).length:Int)then((A.ix a0 y1).bind fun x4=>(if x4.2=a1 then(some true)else(A.gd (Z.R64 (y1+1)) ((F.R06_has_l1 a0 a1 f) (y1+1)))))else(some false)
def F.R06_has (a0:(List D174))(a1:Int):Option Bool:=F.R06_has_l1 a0 a1 A.FU 0
theorem R06_has_ok (a0:(List D174))(a1:Int)(A0_:Option Addr)(c1_:Nat)(h2_:IntKind.i32.has a1)(r:Bool)(hF:F.R06_has a0 a1=some r):
    A.Ct Tryz.prog 133 [.slice A0_ ((a0).length) c1_,.int .i32 a1] [(0,.ln T174 A0_ c1_ a0)] [] (fun v H'=>v=.bool r∧H'=[]):=by
 refine A.Ct.enter Tryz.func133 rfl Tryz.ntmps133 rfl fun w0 F0=>?_
 rw[F.R06_has]at hF
 refine A.xl 1 ?_
 refine A.q0 [] [] [.n] [] ?_
 refine A.dl 3 ?_
 refine A.q0 [] [] [.n] [(5,.int .i64 0)] ?_
 refine A.dx 2 ?_
 refine A.lp_ [0,1] [0] (fun f nl nh=>∃(y1:Int),nl=[(5,.int .i64 y1)]∧nh=[]∧IntKind.i64.has y1∧F.R06_has_l1 a0 a1 f y1=some r) ⟨0,rfl,rfl,(A.hasl .i64 (0) rfl),hF⟩ ?_
 rintro f3 _ _ ⟨y1,rfl,rfl,hy2,hF⟩
 rcases f3 with _|f3
 ·exact A.no0 hF
 rw[F.R06_has_l1]at hF
 refine A.xl 2 ?_
 refine A.q0 [] [] [.n,.n,.n,.n] [(9,.bool (decide (y1<((a0).length:Int))))] ?_
 refine A.dx 1 ?_
 refine A.AX.cnd rfl hF (fun hb hF=>?_) (fun hb hF=>?_)
 ·refine A.xl 5 ?_
  refine A.q0 [] [] [.n,.n] [(12,.slice A0_ ((a0).length) c1_),(13,.int .i64 y1)] ?_
  obtain⟨x4,hv5,hF⟩:=A.bd_some hF
  refine A.AL.ixl 0 3 hv5 fun ho6=>?_
  intro b7 o8
  refine A.q0 [] [3] [.n,.e 0 1,.n,.n] [(18,.bool (decide (x4.2=a1)))] ?_
  refine A.dx 1 ?_
  refine A.AX.cnd rfl hF (fun hb hF=>?_) (fun hb hF=>?_)
  ·refine A.xl 1 ?_
   refine A.q0 [] [] [.n] [(4,.bool true)] ?_
   refine A.dx 1 ?_
   obtain rfl:=Option.some.inj hF
   exact A.rt1 [] ⟨rfl,rfl⟩
  refine A.xl 3 ?_
  obtain⟨hc9,hF⟩:=A.gd_some hF
  refine A.q [] [] [.n,.n,.n] [Z.R64 (y1+1)] [(5,.int .i64 (y1+1))] hc9 ?_
  refine A.AL.done ?_
  exact A.j ⟨_,Nat.lt_succ_self _,⟨(y1+1),rfl,rfl,(Z.i64_has hc9),hF⟩⟩
 refine A.xl 3 ?_
 refine A.q0 [] [] [.n] [(4,.bool false)] ?_
 refine A.dx 1 ?_
 obtain rfl:=Option.some.inj hF
 exact A.rt1 [] ⟨rfl,rfl⟩
def F.R06_Filter (a0:D23)(a1:D43):Option (Bool×Int):=(F.R06_may 3 (a0.1,a0.2.1,a0.2.2) (a1.1,a1.2)).bind fun r3=>(if r3≠0 then(some (false,r3))else((F.R05_Runes a1.2).bind fun r6=>(if a0.1=11 then(A.gd (a0.2.1≠0) (some (decide (Int.tmod a1.1 a0.2.1=0),0)))else(if a0.1=12 then((F.R05_Runes a0.2.2).bind fun r11=>((A.ix r11 0).bind fun x15=>((F.R06_has r6 x15.2).bind fun r20=>(some (r20,0)))))else(some (decide (a0.2.1≤((r6).length:Int)),0))))))
theorem R06_Filter_ok (a0:D23)(a1:D43)(h0_:IntKind.i64.has a0.1)(h1_:IntKind.i64.has a0.2.1)(h2_:a0.2.2.size≤maxLen)(h3_:IntKind.i64.has a1.1)(h4_:a1.2.size≤maxLen)(r:Bool×Int)(hF:F.R06_Filter a0 a1=some r):
    A.Ct Tryz.prog 93 [.agg #[.int .i64 a0.1,.int .i64 a0.2.1,.string a0.2.2],.agg #[.int .i64 a1.1,.string a1.2]] [] [] (fun v H'=>v=.tuple #[.bool r.1,.int .i64 r.2]∧H'=[]∧IntKind.i64.has r.2):=by
 refine A.Ct.enter Tryz.func93 rfl Tryz.ntmps93 rfl fun w0 F0=>?_
 rw[F.R06_Filter]at hF
 refine A.xl 1 ?_
 refine A.AL.box 0 (cs:=[.int .i64 a0.1,.int .i64 a0.2.1,.string a0.2.2]) fun g1=>?_
 refine A.AL.box 1 (cs:=[.int .i64 a1.1,.string a1.2]) fun g2=>?_
 refine A.q0 [] [] [.n,.n] [] ?_
 refine A.dl 3 ?_
 refine A.q0 [0,1] [] [.b 0 0,.b 1 0] [(8,.agg #[.int .i64 a0.1,.int .i64 a0.2.1,.string a0.2.2]),(9,.agg #[.int .i64 a1.1,.string a1.2])] ?_
 obtain⟨r3,hv4,hF⟩:=A.bd_some hF
 refine A.AL.call 2 [] (first:=[]) (cap:=[]) cf129 (R06_may_ok 3 (a0.1,a0.2.1,a0.2.2) (a1.1,a1.2) (A.hasl .i64 (3) rfl) h0_ h1_ h2_ h3_ h4_ r3 hv4) .nil ?_
 rintro _ _ ⟨rfl,rfl,hr5⟩
 refine⟨by kernel_rfl,?_⟩
 refine A.q0 [] [] [.n] [(6,.int .i64 r3)] ?_
 refine A.dl 2 ?_
 refine A.q0 [] [] [.n,.n] [(12,.bool (decide (r3≠0)))] ?_
 refine A.dx 1 ?_
 refine A.AX.cnd rfl hF (fun hb hF=>?_) (fun hb hF=>?_)
 ·refine A.xl 1 ?_
  refine A.q0 [] [] [.n,.n,.n] [(4,.bool false),(5,.int .i64 r3)] ?_
  refine A.dx 1 ?_
  obtain rfl:=Option.some.inj hF
  exact A.rt2 [] ⟨rfl,rfl,hr5⟩
 refine A.xl 3 ?_
 refine A.q0 [1] [] [.n,.b 0 1] [(15,.string a1.2)] ?_
 obtain⟨r6,hv7,hF⟩:=A.bd_some hF
 refine A.AL.call 42 [] (first:=[]) (cap:=[]) cf117 (R05_Runes_ok a1.2 h4_ r6 hv7) .nil ?_
 rintro _ _ ⟨A8,c9,rfl,rfl⟩
 refine⟨by kernel_rfl,?_⟩
 refine A.q0 [] [] [.n] [(7,.slice A8 ((r6).length) c9)] ?_
 refine A.dl 2 ?_
 refine A.q0 [0] [] [.n,.b 0 0] [(18,.int .i64 a0.1)] ?_
 refine A.dl 3 ?_
 refine A.q0 [] [] [.n,.n] [(24,.bool (decide (a0.1=11)))] ?_
 refine A.dx 1 ?_
 refine A.AX.cnd rfl hF (fun hb hF=>?_) (fun hb hF=>?_)
 ·refine A.xl 1 ?_
  obtain⟨hc10,hF⟩:=A.gd_some hF
  refine A.q [1,0] [] [.n,.b 0 0,.n,.b 1 1,.n,.n,.n,.n] [a0.2.1≠0] [(4,.bool (decide (Int.tmod a1.1 a0.2.1=0))),(5,.int .i64 0)] hc10 ?_
  refine A.dx 1 ?_
  obtain rfl:=Option.some.inj hF
  exact A.rt2 [] ⟨rfl,rfl,(A.hasl .i64 (0) rfl)⟩
 refine A.xl 1 ?_
 refine A.q0 [] [] [.n,.n] [(32,.bool (decide (a0.1=12)))] ?_
 refine A.dx 1 ?_
 refine A.AX.cnd rfl hF (fun hb hF=>?_) (fun hb hF=>?_)
 ·refine A.xl 1 ?_
  refine A.q0 [0] [] [.n,.n,.b 0 2] [(34,.slice A8 ((r6).length) c9),(36,.string a0.2.2)] ?_
  obtain⟨r11,hv12,hF⟩:=A.bd_some hF
  refine A.AL.call 82 [] (first:=[]) (cap:=[]) cf117 (R05_Runes_ok a0.2.2 h2_ r11 hv12) .nil ?_
  rintro _ _ ⟨A13,c14,rfl,rfl⟩
  refine⟨by kernel_rfl,?_⟩
  obtain⟨x15,hv16,hF⟩:=A.bd_some hF
  refine A.AL.ixo 82 122 hv16 fun ho17=>?_
  intro g18 hA19
  refine A.q0 [] [122] [.n,.e 0 1] [(40,.int .i32 x15.2)] ?_
  obtain⟨r20,hv21,hF⟩:=A.bd_some hF
  refine A.AL.call 123 [] (first:=[]) (cap:=[]) cf133 (R06_has_ok r6 x15.2 A8 c9 ho17.2 r20 hv21) (.o 42 .nil) ?_
  rintro _ _ ⟨rfl,rfl⟩
  refine⟨by kernel_rfl,?_⟩
  refine A.q0 [] [] [.n,.n] [(4,.bool r20),(5,.int .i64 0)] ?_
  refine A.dx 1 ?_
  obtain rfl:=Option.some.inj hF
  exact A.rt2 [] ⟨rfl,rfl,(A.hasl .i64 (0) rfl)⟩
 refine A.xl 1 ?_
 refine A.q0 [0] [] [.n,.n,.n,.b 0 1,.n,.n,.n] [(4,.bool (decide (a0.2.1≤((r6).length:Int)))),(5,.int .i64 0)] ?_
 refine A.dx 1 ?_
 obtain rfl:=Option.some.inj hF
 exact A.rt2 [] ⟨rfl,rfl,(A.hasl .i64 (0) rfl)⟩
end Go.Proofs.YtbljnlkhebiniaaGreatDoor
end
section
set_option linter.unusedVariables false
set_option linter.unusedSimpArgs false
set_option maxRecDepth 20000
set_option maxHeartbeats 8000000
set_option synthInstance.maxSize 1000000
set_option synthInstance.maxHeartbeats 400000
namespace Go.Proofs.YtbljnlkhebiniaaGreatDoor
open Go.RowKit
def F.R06_Split_l1 (a1:D43)(r6:(List D174)):Nat→(List D43)→Int→Option ((List D43)×Int)
 |0,_,_=>none
 |f+1,xs12,y13=>if(bif decide (y13<((r6).length:Int))then decide (y13<4)else false)=true then(A.gd (Z.R64 (y13+1)) ((F.R06_part a1.2 r6 y13 (y13+1)).bind fun r17=>(A.gd ((List.length (α:=D43) xs12+List.length (α:=D43) [(a1.1,r17)])*24≤140737488355328) (A.gd (Z.R64 (y13+1)) ((F.R06_Split_l1 a1 r6 f) (xs12++[(a1.1,r17)]) (y13+1))))))else(some (xs12,0))
def F.R06_Split_j2 (k2:(List D43)→Int→Int→Option ((List D43)×Int))(y39:Int)(xs44:List D43)(y45:Int):Option ((List D43)×Int):=A.gd (Z.R64 (y39+1)) (k2 xs44 y45 (y39+1))
def F.R06_Split_j3 (k2:(List D43)→Int→Int→Option ((List D43)×Int))(y39:Int)(xs51:List D43):Option ((List D43)×Int):=A.gd (Z.R64 (y39+1)) (F.R06_Split_j2 k2 y39 xs51 (y39+1))
def F.R06_Split_j4 (k2:(List D43)→Int→Int→Option ((List D43)×Int))(a1:D43)(r6:(List D174))(xs36:List D43)(y37:Int)(y39:Int)(y48:Bool):Option ((List D43)×Int):=if y48=true then(F.R06_Split_j2 k2 y39 xs36 y37)else(if(bif decide (y37<y39)then decide (((xs36).length:Int)<4)else false)=true then((F.R06_part a1.2 r6 y37 y39).bind fun r53=>(A.gd ((List.length (α:=D43) xs36+List.length (α:=D43) [(a1.1,r53)])*24≤140737488355328) (F.R06_Split_j3 k2 y39 (xs36++[(a1.1,r53)]))))else(F.R06_Split_j3 k2 y39 xs36))
def F.R06_Split_l5 (a1:D43)(r6:(List D174))(x29:D174):Nat→(List D43)→Int→Int→Option ((List D43)×Int)
 |0,_,_,_=>none
 |f+1,xs36,y37,y39=>if y39≤((r6).length:Int)then(if y39<((r6).length:Int)then((A.ix r6 y39).bind fun x60=>(F.R06_Split_j4 (F.R06_Split_l5 a1 r6 x29 f) a1 r6 xs36 y37 y39 (decide (x60.2≠x29.2))))else(F.R06_Split_j4 (F.R06_Split_l5 a1 r6 x29 f) a1 r6 xs36 y37 y39 false))else(some (xs36,0))
def F.R06_Split (a0:D23)(a1:D43):Option ((List D43)×Int):=(F.R06_may 4 (a0.1,a0.2.1,a0.2.2) (a1.1,a1.2)).bind fun r3=>(if r3≠0 then(some ([],r3))else((F.R05_Runes a1.2).bind fun r6=>(if a0.1=21 then(F.R06_Split_l1 a1 r6 A.FU [] 0)else((F.R05_Runes a0.2.2).bind fun r25=>((A.ix r25 0).bind fun x29=>(F.R06_Split_l5 a1 r6 x29 A.FU [] 0 0))))))
theorem R06_Split_ok (a0:D23)(a1:D43)(h0_:IntKind.i64.has a0.1)(h1_:IntKind.i64.has a0.2.1)(h2_:a0.2.2.size≤maxLen)(h3_:IntKind.i64.has a1.1)(h4_:a1.2.size≤maxLen)(r:(List D43)×Int)(hF:F.R06_Split a0 a1=some r):
    A.Ct Tryz.prog 94 [.agg #[.int .i64 a0.1,.int .i64 a0.2.1,.string a0.2.2],.agg #[.int .i64 a1.1,.string a1.2]] [] [] (fun v H'=>∃(A0':Option Addr) (c1':Nat),v=.tuple #[.slice A0' ((r.1).length) c1',.int .i64 r.2]∧H'=[(0,.own T43 44 A0' c1' r.1)]∧IntKind.i64.has r.2):=by
 refine A.Ct.enter Tryz.func94 rfl Tryz.ntmps94 rfl fun w0 F0=>?_
 rw[F.R06_Split]at hF
 refine A.xl 1 ?_
 refine A.AL.box 0 (cs:=[.int .i64 a0.1,.int .i64 a0.2.1,.string a0.2.2]) fun g1=>?_
 refine A.AL.box 1 (cs:=[.int .i64 a1.1,.string a1.2]) fun g2=>?_
 refine A.q0 [] [] [.n,.n] [] ?_
 refine A.dl 3 ?_
 refine A.q0 [0,1] [] [.b 0 0,.b 1 0] [(13,.agg #[.int .i64 a0.1,.int .i64 a0.2.1,.string a0.2.2]),(14,.agg #[.int .i64 a1.1,.string a1.2])] ?_
 obtain⟨r3,hv4,hF⟩:=A.bd_some hF
 refine A.AL.call 2 [] (first:=[]) (cap:=[]) cf129 (R06_may_ok 4 (a0.1,a0.2.1,a0.2.2) (a1.1,a1.2) (A.hasl .i64 (4) rfl) h0_ h1_ h2_ h3_ h4_ r3 hv4) .nil ?_
 rintro _ _ ⟨rfl,rfl,hr5⟩
 refine⟨by kernel_rfl,?_⟩
 refine A.q0 [] [] [.n] [(6,.int .i64 r3)] ?_
 refine A.dl 2 ?_
 refine A.q0 [] [] [.n,.n] [(17,.bool (decide (r3≠0)))] ?_
 refine A.dx 1 ?_
 refine A.AX.cnd rfl hF (fun hb hF=>?_) (fun hb hF=>?_)
 ·refine A.xl 1 ?_
  refine A.q0 [] [] [.n,.n,.n] [(4,.slice none 0 0),(5,.int .i64 r3)] ?_
  refine A.dx 1 ?_
  obtain rfl:=Option.some.inj hF
  refine A.nil 42 T43 44 ?_
  exact A.rt2 [(0,42)] ⟨none,0,rfl,rfl,hr5⟩
 refine A.xl 3 ?_
 refine A.q0 [1] [] [.n,.b 0 1] [(20,.string a1.2)] ?_
 obtain⟨r6,hv7,hF⟩:=A.bd_some hF
 refine A.AL.call 43 [] (first:=[]) (cap:=[]) cf117 (R05_Runes_ok a1.2 h4_ r6 hv7) .nil ?_
 rintro _ _ ⟨A8,c9,rfl,rfl⟩
 refine⟨by kernel_rfl,?_⟩
 refine A.q0 [] [] [.n] [(7,.slice A8 ((r6).length) c9)] ?_
 refine A.dl 2 ?_
 refine A.q0 [] [] [.n] [(8,.slice none 0 0)] ?_
 refine A.dl 3 ?_
 refine A.q0 [0] [] [.n,.b 0 0,.n] [(24,.bool (decide (a0.1=21)))] ?_
 refine A.dx 1 ?_
 refine A.AX.cnd rfl hF (fun hb hF=>?_) (fun hb hF=>?_)
 ·refine A.xl 2 ?_
  refine A.q0 [] [] [.n] [(9,.int .i64 0)] ?_
  refine A.dx 2 ?_
  refine A.nil 126 T43 44 ?_
  refine A.lp_ [3,7] [1,43] (fun f nl nh=>∃(xs12:List D43),∃(y13:Int),∃(A10:Option Addr),∃(c11:Nat),nl=[(8,.slice A10 ((xs12).length) c11),(9,.int .i64 y13)]∧nh=[(126,.own T43 44 A10 c11 xs12)]∧IntKind.i64.has y13∧F.R06_Split_l1 a1 r6 f xs12 y13=some r) ⟨[],0,none,0,rfl,rfl,(A.hasl .i64 (0) rfl),hF⟩ ?_
  rintro f15 _ _ ⟨xs12,y13,A10,c11,rfl,rfl,hy14,hF⟩
  rcases f15 with _|f15
  ·exact A.no0 hF
  rw[F.R06_Split_l1]at hF
  refine A.xl 2 ?_
  refine A.q0 [] [] [.n,.n,.n,.n,.n,.sy .n,.sy .n,.pk] [(32,.bool (bif decide (y13<((r6).length:Int))then decide (y13<4)else false))] ?_
  refine A.dx 1 ?_
  refine A.AX.cnb rfl hF (fun hb hF=>?_) (fun hb hF=>?_)
  ·refine A.xx 4 ?_
   refine A.AX.dr mixed 14 14 (A.mb 14 0) ?_
   obtain⟨hc16,hF⟩:=A.gd_some hF
   refine A.AH.q A.pb [] [1,43] [1] [] (A.mb 14 511) 5 [(0,.n),(1,.n),(3,.n),(5,.n),(6,.n),(7,.n),(2,.b 0 0),(4,.b 0 1),(8,.n)] [35,40,41,37,39,43] [Z.R64 (y13+1)] [(35,.slice A10 ((xs12).length) c11),(40,.slice A8 ((r6).length) c9),(41,.int .i64 y13),(37,.int .i64 a1.1),(39,.string a1.2),(43,.int .i64 (y13+1))] hc16 ?_
   refine A.AH.one 9 ?_
   obtain⟨r17,hv18,hF⟩:=A.bd_some hF
   refine A.AL.call 209 [] (first:=[]) (cap:=[]) cf131 (R06_part_ok a1.2 r6 y13 (y13+1) A8 c9 h4_ hy14 (Z.i64_has hc16) r17 hv18) (.o 43 .nil) ?_
   rintro _ _ ⟨rfl,rfl,hr19⟩
   refine⟨by kernel_rfl,?_⟩
   refine A.AH.nx (A.mb 14 1023) [1,43] ?_
   refine A.hq A.pb [1,43] [1,43] [] [] (A.mb 14 2047) 3 [(10,.n)] [(45,.agg #[.int .i64 a1.1,.string r17])] ?_
   refine A.AH.one 11 ?_
   refine A.AL.bsl 249 (ty:=T43) (cs:=[.int .i64 a1.1,.string r17]) [(a1.1,r17)] ⟨⟨⟨rfl,h3_⟩,⟨rfl,hr19⟩⟩,rfl⟩ (fun g20=>?_) Tryz.zeroValue44 Tryz.sizeOf44
   refine A.AH.nx (A.mb 14 4095) [1,43] ?_
   refine A.AH.one 12 ?_
   obtain⟨hl23,hF⟩:=A.gd_some hF
   refine A.AL.app (k:=126) [] (A.rowO (k:=249) rfl) inf44 hl23 fun A21 c22=>?_
   refine A.AH.nx (A.mb 14 8191) [1,43] ?_
   refine A.hq A.pb [1,43] [1,43,126,249] [] [] (A.mb 14 16383) 0 [(13,.n)] [(8,.slice A21 ((xs12++[(a1.1,r17)]).length) c22)] ?_
   refine A.AH.done ?_
   refine A.el 2 ?_
   obtain⟨hc24,hF⟩:=A.gd_some hF
   refine A.q [] [] [.n,.n,.n] [Z.R64 (y13+1)] [(9,.int .i64 (y13+1))] hc24 ?_
   refine A.AL.done ?_
   exact A.j ⟨_,Nat.lt_succ_self _,⟨(xs12++[(a1.1,r17)]),(y13+1),A21,c22,rfl,rfl,(Z.i64_has hc24),hF⟩⟩
  refine A.xl 3 ?_
  refine A.q0 [] [] [.n,.n,.n] [(4,.slice A10 ((xs12).length) c11),(5,.int .i64 0)] ?_
  refine A.dx 1 ?_
  obtain rfl:=Option.some.inj hF
  exact A.rt2 [(0,126)] ⟨A10,c11,rfl,rfl,(A.hasl .i64 (0) rfl)⟩
 refine A.xl 3 ?_
 refine A.q0 [0] [] [.n,.b 0 2] [(50,.string a0.2.2)] ?_
 obtain⟨r25,hv26,hF⟩:=A.bd_some hF
 refine A.AL.call 250 [] (first:=[]) (cap:=[]) cf117 (R05_Runes_ok a0.2.2 h2_ r25 hv26) .nil ?_
 rintro _ _ ⟨A27,c28,rfl,rfl⟩
 refine⟨by kernel_rfl,?_⟩
 obtain⟨x29,hv30,hF⟩:=A.bd_some hF
 refine A.AL.ixo 250 290 hv30 fun ho31=>?_
 intro g32 hA33
 refine A.q0 [] [290] [.n,.e 0 1,.n] [(10,.int .i32 x29.2)] ?_
 refine A.dl 2 ?_
 refine A.q0 [] [] [.n] [(11,.int .i64 0)] ?_
 refine A.dl 3 ?_
 refine A.q0 [] [] [.n] [(12,.int .i64 0)] ?_
 refine A.dx 2 ?_
 refine A.nil 420 T43 44 ?_
 refine A.lp_ [3,7,10] [1,43] (fun f nl nh=>∃(xs36:List D43),∃(y37:Int),∃(y39:Int),∃(A34:Option Addr),∃(c35:Nat),nl=[(8,.slice A34 ((xs36).length) c35),(11,.int .i64 y37),(12,.int .i64 y39)]∧nh=[(420,.own T43 44 A34 c35 xs36)]∧IntKind.i64.has y37∧IntKind.i64.has y39∧F.R06_Split_l5 a1 r6 x29 f xs36 y37 y39=some r) ⟨[],0,0,none,0,rfl,rfl,(A.hasl .i64 (0) rfl),(A.hasl .i64 (0) rfl),hF⟩ ?_
 rintro f41 _ _ ⟨xs36,y37,y39,A34,c35,rfl,rfl,hy38,hy40,hF⟩
 rcases f41 with _|f41
 ·exact A.no0 hF
 rw[F.R06_Split_l5]at hF
 refine A.xl 2 ?_
 refine A.q0 [] [] [.n,.n,.n,.n] [(58,.bool (decide (y39≤((r6).length:Int))))] ?_
 refine A.dx 1 ?_
 refine A.AX.cnd rfl hF (fun hb hF=>?_) (fun hb hF=>?_)
 ·refine A.xx 2 ?_
  refine A.AX.join [3,7,10,12] [1,43] (fun nl nh=>∃(xs44:List D43),∃(y45:Int),∃(A42:Option Addr),∃(c43:Nat),nl=[(8,.slice A42 ((xs44).length) c43),(11,.int .i64 y45)]∧nh=[(420,.own T43 44 A42 c43 xs44)]∧IntKind.i64.has y45∧F.R06_Split_j2 (F.R06_Split_l5 a1 r6 x29 f41) y39 xs44 y45=some r) ?_ ?_
  ·refine A.xx 2 ?_
   refine A.AX.join [3,7,8,10,11,12] [1,43,420] (fun nl nh=>∃(y48:Bool),nl=[(73,.bool y48)]∧nh=[]∧F.R06_Split_j4 (F.R06_Split_l5 a1 r6 x29 f41) a1 r6 xs36 y37 y39 y48=some r) ?_ ?_
   ·refine A.xl 0 ?_
    refine A.q0 [] [] [.n,.n,.n,.n,.n] [(65,.bool (decide (y39<((r6).length:Int))))] ?_
    refine A.AL.cnp (j:=65) rfl hF (fun hb hF=>?_) (fun hb hF=>?_)
    ·refine A.q0 [] [] [.on .n,.on .n] [(66,.slice A8 ((r6).length) c9),(67,.int .i64 y39)] ?_
     refine A.AL.on (dj:=65) rfl rfl ?_
     obtain⟨x60,hv61,hF⟩:=A.bd_some hF
     refine A.AL.ixo 43 505 hv61 fun ho62=>?_
     intro g63 hA64
     refine A.q0 [] [505] [.on .n,.on (.e 0 1),.on .n,.on .n,.n] [(73,.bool (decide (x60.2≠x29.2)))] ?_
     refine A.AL.done ?_
     exact A.j ⟨(decide (x60.2≠x29.2)),rfl,rfl,hF⟩
    refine A.q0 [] [] [.off,.off,.off,.off,.off,.off,.off,.n] [(73,.bool false)] ?_
    refine A.AL.done ?_
    exact A.j ⟨false,rfl,rfl,hF⟩
   rintro _ _ ⟨y48,rfl,rfl,hF⟩
   rw[F.R06_Split_j4]at hF
   refine A.AX.cnb rfl hF (fun hb hF=>?_) (fun hb hF=>?_)
   ·refine A.xe 1 ?_
    exact A.j ⟨xs36,y37,A34,c35,rfl,rfl,hy38,hF⟩
   refine A.xx 2 ?_
   refine A.AX.join [3,7,10,12] [1,43] (fun nl nh=>∃(xs51:List D43),∃(A49:Option Addr),∃(c50:Nat),nl=[(8,.slice A49 ((xs51).length) c50)]∧nh=[(420,.own T43 44 A49 c50 xs51)]∧F.R06_Split_j3 (F.R06_Split_l5 a1 r6 x29 f41) y39 xs51=some r) ?_ ?_
   ·refine A.xl 1 ?_
    refine A.q0 [] [] [.n,.n,.n,.n,.sy .n,.sy .n,.sy .n,.pk] [(81,.bool (bif decide (y37<y39)then decide (((xs36).length:Int)<4)else false))] ?_
    refine A.dx 1 ?_
    refine A.AX.cnb rfl hF (fun hb hF=>?_) (fun hb hF=>?_)
    ·refine A.AX.dr mixed 13 13 (A.mb 13 0) ?_
     refine A.hq A.pb [] [1,43] [1] [] (A.mb 13 255) 5 [(0,.n),(1,.n),(3,.n),(5,.n),(6,.n),(7,.n),(2,.b 0 0),(4,.b 0 1)] [(82,.slice A34 ((xs36).length) c35),(87,.slice A8 ((r6).length) c9),(88,.int .i64 y37),(89,.int .i64 y39),(84,.int .i64 a1.1),(86,.string a1.2)] ?_
     refine A.AH.one 8 ?_
     obtain⟨r53,hv54,hF⟩:=A.bd_some hF
     refine A.AL.call 506 [] (first:=[]) (cap:=[]) cf131 (R06_part_ok a1.2 r6 y37 y39 A8 c9 h4_ hy38 hy40 r53 hv54) (.o 43 .nil) ?_
     rintro _ _ ⟨rfl,rfl,hr55⟩
     refine⟨by kernel_rfl,?_⟩
     refine A.AH.nx (A.mb 13 511) [1,43] ?_
     refine A.hq A.pb [1,43] [1,43] [] [] (A.mb 13 1023) 3 [(9,.n)] [(91,.agg #[.int .i64 a1.1,.string r53])] ?_
     refine A.AH.one 10 ?_
     refine A.AL.bsl 546 (ty:=T43) (cs:=[.int .i64 a1.1,.string r53]) [(a1.1,r53)] ⟨⟨⟨rfl,h3_⟩,⟨rfl,hr55⟩⟩,rfl⟩ (fun g56=>?_) Tryz.zeroValue44 Tryz.sizeOf44
     refine A.AH.nx (A.mb 13 2047) [1,43] ?_
     refine A.AH.one 11 ?_
     obtain⟨hl59,hF⟩:=A.gd_some hF
     refine A.AL.app (k:=420) [] (A.rowO (k:=546) rfl) inf44 hl59 fun A57 c58=>?_
     refine A.AH.nx (A.mb 13 4095) [1,43] ?_
     refine A.hq A.pb [1,43] [1,43,420,546] [] [] (A.mb 13 8191) 0 [(12,.n)] [(8,.slice A57 ((xs36++[(a1.1,r53)]).length) c58)] ?_
     refine A.AH.done ?_
     exact A.j ⟨(xs36++[(a1.1,r53)]),A57,c58,rfl,rfl,hF⟩
    refine A.xe 1 ?_
    exact A.j ⟨xs36,A34,c35,rfl,rfl,hF⟩
   rintro _ _ ⟨xs51,A49,c50,rfl,rfl,hF⟩
   rw[F.R06_Split_j3]at hF
   refine A.xl 0 ?_
   obtain⟨hc52,hF⟩:=A.gd_some hF
   refine A.q [] [] [.n,.n,.n] [Z.R64 (y39+1)] [(11,.int .i64 (y39+1))] hc52 ?_
   refine A.de 1 ?_
   exact A.j ⟨xs51,(y39+1),A49,c50,rfl,rfl,(Z.i64_has hc52),hF⟩
  rintro _ _ ⟨xs44,y45,A42,c43,rfl,rfl,hy46,hF⟩
  rw[F.R06_Split_j2]at hF
  refine A.xl 0 ?_
  obtain⟨hc47,hF⟩:=A.gd_some hF
  refine A.q [] [] [.n,.n,.n] [Z.R64 (y39+1)] [(12,.int .i64 (y39+1))] hc47 ?_
  refine A.AL.done ?_
  exact A.j ⟨_,Nat.lt_succ_self _,⟨xs44,y45,(y39+1),A42,c43,rfl,rfl,hy46,(Z.i64_has hc47),hF⟩⟩
 refine A.xl 3 ?_
 refine A.q0 [] [] [.n,.n,.n] [(4,.slice A34 ((xs36).length) c35),(5,.int .i64 0)] ?_
 refine A.dx 1 ?_
 obtain rfl:=Option.some.inj hF
 exact A.rt2 [(0,420)] ⟨A34,c35,rfl,rfl,(A.hasl .i64 (0) rfl)⟩
def F.R17_one (a0:D25)(a1:D43):Option (List D43):=if a0.2.1=2 then((F.R06_Map (a0.2.2.2.1.1,a0.2.2.2.1.2.1,a0.2.2.2.1.2.2) (a1.1,a1.2)).bind fun r3=>(some [(r3.1.1,r3.1.2)]))else(if a0.2.1=3 then((F.R06_Filter (a0.2.2.2.1.1,a0.2.2.2.1.2.1,a0.2.2.2.1.2.2) (a1.1,a1.2)).bind fun r10=>(if r10.1=true then(some [(a1.1,a1.2)])else(some [])))else(if a0.2.1=4 then((F.R06_Split (a0.2.2.2.1.1,a0.2.2.2.1.2.1,a0.2.2.2.1.2.2) (a1.1,a1.2)).bind fun r14=>(some r14.1))else(some [(a1.1,a1.2)])))
theorem R17_one_ok (a0:D25)(a1:D43)(A2_:Option Addr)(c3_:Nat)(h0_:IntKind.i64.has a0.1)(h1_:IntKind.i64.has a0.2.1)(h4_:IntKind.i64.has a0.2.2.2.1.1)(h5_:IntKind.i64.has a0.2.2.2.1.2.1)(h6_:a0.2.2.2.1.2.2.size≤maxLen)(h7_:a0.2.2.2.2.1.size≤maxLen)(h8_:IntKind.i64.has a0.2.2.2.2.2.1)(h9_:IntKind.i64.has a0.2.2.2.2.2.2)(h10_:IntKind.i64.has a1.1)(h11_:a1.2.size≤maxLen)(r:(List D43))(hF:F.R17_one a0 a1=some r):
    A.Ct Tryz.prog 55 [.agg #[.int .i64 a0.1,.int .i64 a0.2.1,.slice A2_ ((a0.2.2.1).length) c3_,.int .i64 a0.2.2.2.1.1,.int .i64 a0.2.2.2.1.2.1,.string a0.2.2.2.1.2.2,.string a0.2.2.2.2.1,.int .i64 a0.2.2.2.2.2.1,.int .i64 a0.2.2.2.2.2.2],.agg #[.int .i64 a1.1,.string a1.2]] [(0,.sh (.slice (Z.Ty.int .i64)) [.slice A2_ (a0.2.2.1).length c3_] a0.2.2.1)] [] (fun v H'=>∃(A0':Option Addr) (c1':Nat),v=.slice A0' ((r).length) c1'∧H'=[(0,.own T43 44 A0' c1' r)]):=by
 refine A.Ct.enter Tryz.func55 rfl Tryz.ntmps55 rfl fun w0 F0=>?_
 rw[F.R17_one]at hF
 refine A.xl 1 ?_
 refine A.AL.box 1 (cs:=[.int .i64 a0.1,.int .i64 a0.2.1,.slice A2_ ((a0.2.2.1).length) c3_,.int .i64 a0.2.2.2.1.1,.int .i64 a0.2.2.2.1.2.1,.string a0.2.2.2.1.2.2,.string a0.2.2.2.2.1,.int .i64 a0.2.2.2.2.2.1,.int .i64 a0.2.2.2.2.2.2]) fun g1=>?_
 refine A.AL.box 2 (cs:=[.int .i64 a1.1,.string a1.2]) fun g2=>?_
 refine A.q0 [] [] [.n] [] ?_
 refine A.dl 2 ?_
 refine A.q0 [1] [] [.n,.b 0 1] [(12,.int .i64 a0.2.1)] ?_
 refine A.dl 3 ?_
 refine A.q0 [] [] [.n,.n] [(15,.bool (decide (a0.2.1=2)))] ?_
 refine A.dx 1 ?_
 refine A.AX.cnd rfl hF (fun hb hF=>?_) (fun hb hF=>?_)
 ·refine A.xl 1 ?_
  refine A.q0 [1,2] [] [.n,.b 0 3,.b 1 0] [(19,.agg #[.int .i64 a0.2.2.2.1.1,.int .i64 a0.2.2.2.1.2.1,.string a0.2.2.2.1.2.2]),(20,.agg #[.int .i64 a1.1,.string a1.2])] ?_
  obtain⟨r3,hv4,hF⟩:=A.bd_some hF
  refine A.AL.call 3 [] (first:=[]) (cap:=[]) cf92 (R06_Map_ok (a0.2.2.2.1.1,a0.2.2.2.1.2.1,a0.2.2.2.1.2.2) (a1.1,a1.2) h4_ h5_ h6_ h10_ h11_ r3 hv4) .nil ?_
  rintro _ _ ⟨rfl,rfl,hr5,hr6,hr7⟩
  refine⟨by kernel_rfl,?_⟩
  refine A.q0 [] [] [.n,.n,.n] [(22,.agg #[.int .i64 r3.1.1,.string r3.1.2]),(23,.int .i64 r3.2)] ?_
  refine A.AL.alloc 43 (cs:=[.int .i64 0,.string (ByteArray.mk #[])]) Tryz.zeroValue44 fun g8=>?_
  refine A.sw 43 [] [.int .i64 r3.1.1,.string r3.1.2] ?_
  refine A.q0 [] [] [.n] [] ?_
  refine A.dl 2 ?_
  refine A.q0 [43] [] [.b 0 0] [(24,.agg #[.int .i64 r3.1.1,.string r3.1.2])] ?_
  refine A.AL.bsl 44 (ty:=T43) (cs:=[.int .i64 r3.1.1,.string r3.1.2]) [(r3.1.1,r3.1.2)] ⟨⟨⟨rfl,hr5⟩,⟨rfl,hr6⟩⟩,rfl⟩ (fun g9=>?_) Tryz.zeroValue44 Tryz.sizeOf44
  refine A.q0 [] [] [.n] [(4,.slice (some ⟨g9,0,none⟩) 1 1)] ?_
  refine A.dx 1 ?_
  obtain rfl:=Option.some.inj hF
  exact A.rt1 [(0,44)] ⟨(some ⟨g9,0,none⟩),1,rfl,rfl⟩
 refine A.xl 1 ?_
 refine A.q0 [] [] [.n,.n] [(26,.bool (decide (a0.2.1=3)))] ?_
 refine A.dx 1 ?_
 refine A.AX.cnd rfl hF (fun hb hF=>?_) (fun hb hF=>?_)
 ·refine A.xl 2 ?_
  refine A.q0 [1,2] [] [.n,.b 0 3,.b 1 0] [(30,.agg #[.int .i64 a0.2.2.2.1.1,.int .i64 a0.2.2.2.1.2.1,.string a0.2.2.2.1.2.2]),(31,.agg #[.int .i64 a1.1,.string a1.2])] ?_
  obtain⟨r10,hv11,hF⟩:=A.bd_some hF
  refine A.AL.call 45 [] (first:=[]) (cap:=[]) cf93 (R06_Filter_ok (a0.2.2.2.1.1,a0.2.2.2.1.2.1,a0.2.2.2.1.2.2) (a1.1,a1.2) h4_ h5_ h6_ h10_ h11_ r10 hv11) .nil ?_
  rintro _ _ ⟨rfl,rfl,hr12⟩
  refine⟨by kernel_rfl,?_⟩
  refine A.q0 [] [] [.n,.n,.n,.n,.n] [(7,.bool r10.1)] ?_
  refine A.dl 2 ?_
  refine A.q0 [] [] [.n] [(35,.bool r10.1)] ?_
  refine A.dx 1 ?_
  refine A.AX.cnb rfl hF (fun hb hF=>?_) (fun hb hF=>?_)
  ·refine A.xl 1 ?_
   refine A.q0 [2] [] [.b 0 0] [(36,.agg #[.int .i64 a1.1,.string a1.2])] ?_
   refine A.AL.bsl 85 (ty:=T43) (cs:=[.int .i64 a1.1,.string a1.2]) [(a1.1,a1.2)] ⟨⟨⟨rfl,h10_⟩,⟨rfl,h11_⟩⟩,rfl⟩ (fun g13=>?_) Tryz.zeroValue44 Tryz.sizeOf44
   refine A.q0 [] [] [.n] [(4,.slice (some ⟨g13,0,none⟩) 1 1)] ?_
   refine A.dx 1 ?_
   obtain rfl:=Option.some.inj hF
   exact A.rt1 [(0,85)] ⟨(some ⟨g13,0,none⟩),1,rfl,rfl⟩
  refine A.xl 3 ?_
  refine A.q0 [] [] [.n] [(4,.slice none 0 0)] ?_
  refine A.dx 1 ?_
  obtain rfl:=Option.some.inj hF
  refine A.nil 86 T43 44 ?_
  exact A.rt1 [(0,86)] ⟨none,0,rfl,rfl⟩
 refine A.xl 1 ?_
 refine A.q0 [] [] [.n,.n] [(38,.bool (decide (a0.2.1=4)))] ?_
 refine A.dx 1 ?_
 refine A.AX.cnd rfl hF (fun hb hF=>?_) (fun hb hF=>?_)
 ·refine A.xl 1 ?_
  refine A.q0 [1,2] [] [.n,.b 0 3,.b 1 0] [(42,.agg #[.int .i64 a0.2.2.2.1.1,.int .i64 a0.2.2.2.1.2.1,.string a0.2.2.2.1.2.2]),(43,.agg #[.int .i64 a1.1,.string a1.2])] ?_
  obtain⟨r14,hv15,hF⟩:=A.bd_some hF
  refine A.AL.call 87 [] (first:=[]) (cap:=[]) cf94 (R06_Split_ok (a0.2.2.2.1.1,a0.2.2.2.1.2.1,a0.2.2.2.1.2.2) (a1.1,a1.2) h4_ h5_ h6_ h10_ h11_ r14 hv15) .nil ?_
  rintro _ _ ⟨A16,c17,rfl,rfl,hr18⟩
  refine⟨by kernel_rfl,?_⟩
  refine A.q0 [] [] [.n,.n,.n,.n,.n] [(9,.slice A16 ((r14.1).length) c17)] ?_
  refine A.dl 2 ?_
  refine A.q0 [] [] [.n,.n] [(4,.slice A16 ((r14.1).length) c17)] ?_
  refine A.dx 1 ?_
  obtain rfl:=Option.some.inj hF
  exact A.rt1 [(0,87)] ⟨A16,c17,rfl,rfl⟩
 refine A.xl 1 ?_
 refine A.q0 [2] [] [.b 0 0] [(13,.agg #[.int .i64 a1.1,.string a1.2])] ?_
 refine A.AL.bsl 127 (ty:=T43) (cs:=[.int .i64 a1.1,.string a1.2]) [(a1.1,a1.2)] ⟨⟨⟨rfl,h10_⟩,⟨rfl,h11_⟩⟩,rfl⟩ (fun g19=>?_) Tryz.zeroValue44 Tryz.sizeOf44
 refine A.q0 [] [] [.n] [(4,.slice (some ⟨g19,0,none⟩) 1 1)] ?_
 refine A.dx 1 ?_
 obtain rfl:=Option.some.inj hF
 exact A.rt1 [(0,127)] ⟨(some ⟨g19,0,none⟩),1,rfl,rfl⟩
end Go.Proofs.YtbljnlkhebiniaaGreatDoor
end
section
set_option linter.unusedVariables false
set_option linter.unusedSimpArgs false
set_option maxRecDepth 20000
set_option maxHeartbeats 8000000
set_option synthInstance.maxSize 1000000
set_option synthInstance.maxHeartbeats 400000
namespace Go.Proofs.YtbljnlkhebiniaaGreatDoor
open Go.RowKit
def F.R17_Batch_l1 (a0:D25)(a3:(List D43))(y25:Int)(y27:Int)(y29:Int)(y31:Int)(y33:Int)(y35:Int):Nat→(List D43)→Int→Option ((List D43)×D28×Int)
 |0,_,_=>none
 |f+1,xs41,y42=>if y42<((a3).length:Int)then((A.ix a3 y42).bind fun x45=>((F.R17_one (a0.1,a0.2.1,a0.2.2.1,(a0.2.2.2.1.1,a0.2.2.2.1.2.1,a0.2.2.2.1.2.2),a0.2.2.2.2.1,a0.2.2.2.2.2.1,a0.2.2.2.2.2.2) (x45.1,x45.2)).bind fun r51=>(A.gd ((List.length (α:=D43) xs41+List.length (α:=D43) r51)*24≤140737488355328) (A.gd (Z.R64 (y42+1)) ((F.R17_Batch_l1 a0 a3 y25 y27 y29 y31 y33 y35 f) (xs41++r51) (y42+1))))))else(some (xs41,(y25,y27,(y29,y31,y33,y35)),0))
def F.R17_Batch_j2 (a0:D25)(a3:(List D43))(y25:Int)(y27:Int)(y29:Int)(y31:Int)(y33:Int)(y35:Int)(y37:Int):Option ((List D43)×D28×Int):=if y37≠0 then(some ([],(0,0,(0,0,0,0)),y37))else(F.R17_Batch_l1 a0 a3 y25 y27 y29 y31 y33 y35 A.FU [] 0)
def F.R17_Batch_l3 (a0:D25)(a2:D28)(a3:(List D43)):Nat→Int→Option ((List D43)×D28×Int)
 |0,_=>none
 |f+1,y12=>if y12<((a3).length:Int)then((A.ix a3 y12).bind fun x15=>((F.R05_Check (x15.1,x15.2)).bind fun r20=>(if r20≠0 then(some ([],(0,0,(0,0,0,0)),r20))else(A.gd (Z.R64 (y12+1)) ((F.R17_Batch_l3 a0 a2 a3 f) (y12+1))))))else(if a0.2.1=12 then((F.R01_Enter (a2.1,a2.2.1,(a2.2.2.1,a2.2.2.2.1,a2.2.2.2.2.1,a2.2.2.2.2.2))).bind fun r59=>(F.R17_Batch_j2 a0 a3 r59.1.1 r59.1.2.1 r59.1.2.2.1 r59.1.2.2.2.1 r59.1.2.2.2.2.1 r59.1.2.2.2.2.2 r59.2))else(if a0.2.1=13 then((F.R01_Leave (a2.1,a2.2.1,(a2.2.2.1,a2.2.2.2.1,a2.2.2.2.2.1,a2.2.2.2.2.2))).bind fun r68=>(F.R17_Batch_j2 a0 a3 r68.1.1 r68.1.2.1 r68.1.2.2.1 r68.1.2.2.2.1 r68.1.2.2.2.2.1 r68.1.2.2.2.2.2 r68.2))else(if a0.2.1=14 then(if a2.2.1=0 then(some ([],(0,0,(0,0,0,0)),11))else(A.gd (Z.R64 (a2.2.1-1)) ((A.ix [a2.2.2.1,a2.2.2.2.1,a2.2.2.2.2.1,a2.2.2.2.2.2] (a2.2.1-1)).bind fun x78=>(if a0.2.2.2.2.2.1≤x78 then(some ([],(a2.1,a2.2.1,(a2.2.2.1,a2.2.2.2.1,a2.2.2.2.2.1,a2.2.2.2.2.2)),0))else((F.R01_Next (a2.1,a2.2.1,(a2.2.2.1,a2.2.2.2.1,a2.2.2.2.2.1,a2.2.2.2.2.2))).bind fun r80=>(F.R17_Batch_j2 a0 a3 r80.1.1 r80.1.2.1 r80.1.2.2.1 r80.1.2.2.2.1 r80.1.2.2.2.2.1 r80.1.2.2.2.2.2 r80.2))))))else(F.R17_Batch_j2 a0 a3 a2.1 a2.2.1 a2.2.2.1 a2.2.2.2.1 a2.2.2.2.2.1 a2.2.2.2.2.2 0))))
def F.R17_Batch_j4 (a0:D25)(a2:D28)(a3:(List D43))(y5:Bool):Option ((List D43)×D28×Int):=if y5=true then(some ([],(0,0,(0,0,0,0)),1))else((F.R06_Check a0.2.1 (a0.2.2.2.1.1,a0.2.2.2.1.2.1,a0.2.2.2.1.2.2)).bind fun r6=>(if r6≠0 then(some ([],(0,0,(0,0,0,0)),r6))else((F.R01_Check (a2.1,a2.2.1,(a2.2.2.1,a2.2.2.2.1,a2.2.2.2.2.1,a2.2.2.2.2.2))).bind fun r9=>(if r9≠0 then(some ([],(0,0,(0,0,0,0)),r9))else(F.R17_Batch_l3 a0 a2 a3 A.FU 0)))))
def F.R17_Batch_j5 (a0:D25)(a1:Int)(a2:D28)(a3:(List D43))(y4:Bool):Option ((List D43)×D28×Int):=if y4=true then(some ([],(0,0,(0,0,0,0)),170))else(if a1<0 then(F.R17_Batch_j4 a0 a2 a3 true)else((F.R08_Ins a0.2.1).bind fun r89=>(F.R17_Batch_j4 a0 a2 a3 (decide (r89≤a1)))))
def F.R17_Batch (a0:D25)(a1:Int)(a2:D28)(a3:(List D43)):Option ((List D43)×D28×Int):=if a0.2.1=1 then(F.R17_Batch_j5 a0 a1 a2 a3 true)else((F.R17_Holds a0.2.1).bind fun r92=>(if r92=true then(F.R17_Batch_j5 a0 a1 a2 a3 true)else((F.R08_Ins a0.2.1).bind fun r94=>(F.R17_Batch_j5 a0 a1 a2 a3 (decide (r94<0))))))
theorem R17_Batch_ok (a0:D25)(a1:Int)(a2:D28)(a3:(List D43))(A2_:Option Addr)(c3_:Nat)(A17_:Option Addr)(c18_:Nat)(h0_:IntKind.i64.has a0.1)(h1_:IntKind.i64.has a0.2.1)(h4_:IntKind.i64.has a0.2.2.2.1.1)(h5_:IntKind.i64.has a0.2.2.2.1.2.1)(h6_:a0.2.2.2.1.2.2.size≤maxLen)(h7_:a0.2.2.2.2.1.size≤maxLen)(h8_:IntKind.i64.has a0.2.2.2.2.2.1)(h9_:IntKind.i64.has a0.2.2.2.2.2.2)(h10_:IntKind.i64.has a1)(h11_:IntKind.i64.has a2.1)(h12_:IntKind.i64.has a2.2.1)(h13_:IntKind.i64.has a2.2.2.1)(h14_:IntKind.i64.has a2.2.2.2.1)(h15_:IntKind.i64.has a2.2.2.2.2.1)(h16_:IntKind.i64.has a2.2.2.2.2.2)(r:(List D43)×D28×Int)(hF:F.R17_Batch a0 a1 a2 a3=some r):
    A.Ct Tryz.prog 21 [.agg #[.int .i64 a0.1,.int .i64 a0.2.1,.slice A2_ ((a0.2.2.1).length) c3_,.int .i64 a0.2.2.2.1.1,.int .i64 a0.2.2.2.1.2.1,.string a0.2.2.2.1.2.2,.string a0.2.2.2.2.1,.int .i64 a0.2.2.2.2.2.1,.int .i64 a0.2.2.2.2.2.2],.int .i64 a1,.agg #[.int .i64 a2.1,.int .i64 a2.2.1,.int .i64 a2.2.2.1,.int .i64 a2.2.2.2.1,.int .i64 a2.2.2.2.2.1,.int .i64 a2.2.2.2.2.2],.slice A17_ ((a3).length) c18_] [(0,.sh (.slice (Z.Ty.int .i64)) [.slice A2_ (a0.2.2.1).length c3_] a0.2.2.1),(1,.ln T43 A17_ c18_ a3)] [] (fun v H'=>∃(A0':Option Addr) (c1':Nat),v=.tuple #[.slice A0' ((r.1).length) c1',.agg #[.int .i64 r.2.1.1,.int .i64 r.2.1.2.1,.int .i64 r.2.1.2.2.1,.int .i64 r.2.1.2.2.2.1,.int .i64 r.2.1.2.2.2.2.1,.int .i64 r.2.1.2.2.2.2.2],.int .i64 r.2.2]∧H'=[(0,.own T43 44 A0' c1' r.1)]∧IntKind.i64.has r.2.1.1∧IntKind.i64.has r.2.1.2.1∧IntKind.i64.has r.2.1.2.2.1∧IntKind.i64.has r.2.1.2.2.2.1∧IntKind.i64.has r.2.1.2.2.2.2.1∧IntKind.i64.has r.2.1.2.2.2.2.2∧IntKind.i64.has r.2.2):=by
 refine A.Ct.enter Tryz.func21 rfl Tryz.ntmps21 rfl fun w0 F0=>?_
 rw[F.R17_Batch]at hF
 refine A.xl 1 ?_
 refine A.AL.box 2 (cs:=[.int .i64 a0.1,.int .i64 a0.2.1,.slice A2_ ((a0.2.2.1).length) c3_,.int .i64 a0.2.2.2.1.1,.int .i64 a0.2.2.2.1.2.1,.string a0.2.2.2.1.2.2,.string a0.2.2.2.2.1,.int .i64 a0.2.2.2.2.2.1,.int .i64 a0.2.2.2.2.2.2]) fun g1=>?_
 refine A.AL.box 3 (cs:=[.int .i64 a2.1,.int .i64 a2.2.1,.int .i64 a2.2.2.1,.int .i64 a2.2.2.2.1,.int .i64 a2.2.2.2.2.1,.int .i64 a2.2.2.2.2.2]) fun g2=>?_
 refine A.q0 [] [] [.n] [] ?_
 refine A.AL.alloc 4 (cs:=[.int .i64 0,.int .i64 0,.int .i64 0,.int .i64 0,.int .i64 0,.int .i64 0]) Tryz.zeroValue29 fun g3=>?_
 refine A.q0 [] [] [.n] [] ?_
 refine A.dx 2 ?_
 refine A.AX.join [1,3,4,6,9] [0,1,2,3,4] (fun nl nh=>∃(y4:Bool),nl=[(32,.bool y4)]∧nh=[]∧F.R17_Batch_j5 a0 a1 a2 a3 y4=some r) ?_ ?_
 ·refine A.xl 0 ?_
  refine A.q0 [2] [] [.n,.b 0 1,.n,.n] [(22,.bool (decide (a0.2.1=1)))] ?_
  refine A.AL.cnp (j:=22) rfl hF (fun hb hF=>?_) (fun hb hF=>?_)
  ·refine A.q0 [] [] [.off,.off,.off,.n,.n,.off,.off,.off,.off,.n] [(32,.bool true)] ?_
   refine A.AL.done ?_
   exact A.j ⟨true,rfl,rfl,hF⟩
  refine A.q0 [2] [] [.on .n,.on (.b 0 1)] [(24,.int .i64 a0.2.1)] ?_
  refine A.AL.on (dj:=22) rfl rfl ?_
  obtain⟨r92,hv93,hF⟩:=A.bd_some hF
  refine A.AL.call 5 [] (first:=[]) (cap:=[]) cf23 (R17_Holds_ok a0.2.1 h1_ r92 hv93) .nil ?_
  rintro _ _ ⟨rfl,rfl⟩
  refine⟨by kernel_rfl,?_⟩
  refine A.q0 [] [] [.n,.n] [(27,.bool r92)] ?_
  refine A.AL.cnd (j:=27) rfl hF (fun hF=>?_) (fun hF=>?_)
  ·refine A.q0 [] [] [.off,.off,.off,.off,.n] [(32,.bool true)] ?_
   refine A.AL.done ?_
   exact A.j ⟨true,rfl,rfl,hF⟩
  refine A.q0 [2] [] [.on .n,.on (.b 0 1)] [(29,.int .i64 a0.2.1)] ?_
  refine A.AL.on (dj:=27) rfl rfl ?_
  obtain⟨r94,hv95,hF⟩:=A.bd_some hF
  refine A.AL.call 45 [] (first:=[]) (cap:=[]) cf51 (R08_Ins_ok a0.2.1 h1_ r94 hv95) .nil ?_
  rintro _ _ ⟨rfl,rfl,hr96⟩
  refine⟨by kernel_rfl,?_⟩
  refine A.q0 [] [] [.on .n,.n] [(32,.bool (decide (r94<0)))] ?_
  refine A.AL.done ?_
  exact A.j ⟨(decide (r94<0)),rfl,rfl,hF⟩
 rintro _ _ ⟨y4,rfl,rfl,hF⟩
 rw[F.R17_Batch_j5]at hF
 refine A.AX.cnb rfl hF (fun hb hF=>?_) (fun hb hF=>?_)
 ·refine A.xl 1 ?_
  refine A.q0 [] [] [.n,.n] [(33,.agg #[.int .i64 0,.int .i64 0,.int .i64 0,.int .i64 0,.int .i64 0,.int .i64 0]),(8,.slice none 0 0)] ?_
  refine A.sw 4 [] [.int .i64 0,.int .i64 0,.int .i64 0,.int .i64 0,.int .i64 0,.int .i64 0] ?_
  refine A.q0 [] [] [.n] [(10,.int .i64 170)] ?_
  refine A.dx 1 ?_
  obtain rfl:=Option.some.inj hF
  refine A.nil 85 T43 44 ?_
  exact A.AX.ret [(0,85)] (.tuple #[.slice none 0 0,.agg #[.int .i64 0,.int .i64 0,.int .i64 0,.int .i64 0,.int .i64 0,.int .i64 0],.int .i64 170]) (fun a w hf hh=>Z.resv3 rfl (Z.rv_t hf rfl) (Z.rv_n hf rfl Tryz.isAgg29 Tryz.sizeOf29 (A.Hp.blk hh 4) rfl) (Z.rv_t hf rfl)) (⟨none,0,rfl,rfl,(A.hasl .i64 (0) rfl),(A.hasl .i64 (0) rfl),(A.hasl .i64 (0) rfl),(A.hasl .i64 (0) rfl),(A.hasl .i64 (0) rfl),(A.hasl .i64 (0) rfl),(A.hasl .i64 (170) rfl)⟩)
 refine A.xx 3 ?_
 refine A.AX.join [3,4,6,9] [0,1,2,3,4] (fun nl nh=>∃(y5:Bool),nl=[(42,.bool y5)]∧nh=[]∧F.R17_Batch_j4 a0 a2 a3 y5=some r) ?_ ?_
 ·refine A.xl 0 ?_
  refine A.q0 [] [] [.n,.n,.n] [(36,.bool (decide (a1<0)))] ?_
  refine A.AL.cnp (j:=36) rfl hF (fun hb hF=>?_) (fun hb hF=>?_)
  ·refine A.q0 [] [] [.off,.off,.off,.off,.off,.n] [(42,.bool true)] ?_
   refine A.AL.done ?_
   exact A.j ⟨true,rfl,rfl,hF⟩
  refine A.q0 [2] [] [.on .n,.on .n,.on (.b 0 1)] [(37,.int .i64 a1),(39,.int .i64 a0.2.1)] ?_
  refine A.AL.on (dj:=36) rfl rfl ?_
  obtain⟨r89,hv90,hF⟩:=A.bd_some hF
  refine A.AL.call 86 [] (first:=[]) (cap:=[]) cf51 (R08_Ins_ok a0.2.1 h1_ r89 hv90) .nil ?_
  rintro _ _ ⟨rfl,rfl,hr91⟩
  refine⟨by kernel_rfl,?_⟩
  refine A.q0 [] [] [.on .n,.n] [(42,.bool (decide (r89≤a1)))] ?_
  refine A.AL.done ?_
  exact A.j ⟨(decide (r89≤a1)),rfl,rfl,hF⟩
 rintro _ _ ⟨y5,rfl,rfl,hF⟩
 rw[F.R17_Batch_j4]at hF
 refine A.AX.cnb rfl hF (fun hb hF=>?_) (fun hb hF=>?_)
 ·refine A.xl 1 ?_
  refine A.q0 [] [] [.n,.n] [(43,.agg #[.int .i64 0,.int .i64 0,.int .i64 0,.int .i64 0,.int .i64 0,.int .i64 0]),(8,.slice none 0 0)] ?_
  refine A.sw 4 [] [.int .i64 0,.int .i64 0,.int .i64 0,.int .i64 0,.int .i64 0,.int .i64 0] ?_
  refine A.q0 [] [] [.n] [(10,.int .i64 1)] ?_
  refine A.dx 1 ?_
  obtain rfl:=Option.some.inj hF
  refine A.nil 126 T43 44 ?_
  exact A.AX.ret [(0,126)] (.tuple #[.slice none 0 0,.agg #[.int .i64 0,.int .i64 0,.int .i64 0,.int .i64 0,.int .i64 0,.int .i64 0],.int .i64 1]) (fun a w hf hh=>Z.resv3 rfl (Z.rv_t hf rfl) (Z.rv_n hf rfl Tryz.isAgg29 Tryz.sizeOf29 (A.Hp.blk hh 4) rfl) (Z.rv_t hf rfl)) (⟨none,0,rfl,rfl,(A.hasl .i64 (0) rfl),(A.hasl .i64 (0) rfl),(A.hasl .i64 (0) rfl),(A.hasl .i64 (0) rfl),(A.hasl .i64 (0) rfl),(A.hasl .i64 (0) rfl),(A.hasl .i64 (1) rfl)⟩)
 refine A.xl 4 ?_
 refine A.q0 [2] [] [.n,.b 0 1,.n,.b 0 3] [(45,.int .i64 a0.2.1),(47,.agg #[.int .i64 a0.2.2.2.1.1,.int .i64 a0.2.2.2.1.2.1,.string a0.2.2.2.1.2.2])] ?_
 obtain⟨r6,hv7,hF⟩:=A.bd_some hF
 refine A.AL.call 127 [] (first:=[]) (cap:=[]) cf38 (R06_Check_ok a0.2.1 (a0.2.2.2.1.1,a0.2.2.2.1.2.1,a0.2.2.2.1.2.2) h1_ h4_ h5_ h6_ r6 hv7) .nil ?_
 rintro _ _ ⟨rfl,rfl,hr8⟩
 refine⟨by kernel_rfl,?_⟩
 refine A.q0 [] [] [.n] [(11,.int .i64 r6)] ?_
 refine A.dl 2 ?_
 refine A.q0 [] [] [.n,.n] [(50,.bool (decide (r6≠0)))] ?_
 refine A.dx 1 ?_
 refine A.AX.cnd rfl hF (fun hb hF=>?_) (fun hb hF=>?_)
 ·refine A.xl 1 ?_
  refine A.q0 [] [] [.n,.n,.n] [(51,.agg #[.int .i64 0,.int .i64 0,.int .i64 0,.int .i64 0,.int .i64 0,.int .i64 0]),(52,.int .i64 r6),(8,.slice none 0 0)] ?_
  refine A.sw 4 [] [.int .i64 0,.int .i64 0,.int .i64 0,.int .i64 0,.int .i64 0,.int .i64 0] ?_
  refine A.q0 [] [] [.n] [(10,.int .i64 r6)] ?_
  refine A.dx 1 ?_
  obtain rfl:=Option.some.inj hF
  refine A.nil 167 T43 44 ?_
  exact A.AX.ret [(0,167)] (.tuple #[.slice none 0 0,.agg #[.int .i64 0,.int .i64 0,.int .i64 0,.int .i64 0,.int .i64 0,.int .i64 0],.int .i64 r6]) (fun a w hf hh=>Z.resv3 rfl (Z.rv_t hf rfl) (Z.rv_n hf rfl Tryz.isAgg29 Tryz.sizeOf29 (A.Hp.blk hh 4) rfl) (Z.rv_t hf rfl)) (⟨none,0,rfl,rfl,(A.hasl .i64 (0) rfl),(A.hasl .i64 (0) rfl),(A.hasl .i64 (0) rfl),(A.hasl .i64 (0) rfl),(A.hasl .i64 (0) rfl),(A.hasl .i64 (0) rfl),hr8⟩)
 refine A.xl 4 ?_
 refine A.q0 [3] [] [.b 0 0] [(53,.agg #[.int .i64 a2.1,.int .i64 a2.2.1,.int .i64 a2.2.2.1,.int .i64 a2.2.2.2.1,.int .i64 a2.2.2.2.2.1,.int .i64 a2.2.2.2.2.2])] ?_
 obtain⟨r9,hv10,hF⟩:=A.bd_some hF
 refine A.AL.call 168 [] (first:=[]) (cap:=[]) cf39 (R01_Check_ok (a2.1,a2.2.1,(a2.2.2.1,a2.2.2.2.1,a2.2.2.2.2.1,a2.2.2.2.2.2)) h11_ h12_ h13_ h14_ h15_ h16_ r9 hv10) .nil ?_
 rintro _ _ ⟨rfl,rfl,hr11⟩
 refine⟨by kernel_rfl,?_⟩
 refine A.q0 [] [] [.n] [(12,.int .i64 r9)] ?_
 refine A.dl 2 ?_
 refine A.q0 [] [] [.n,.n] [(56,.bool (decide (r9≠0)))] ?_
 refine A.dx 1 ?_
 refine A.AX.cnd rfl hF (fun hb hF=>?_) (fun hb hF=>?_)
 ·refine A.xl 1 ?_
  refine A.q0 [] [] [.n,.n,.n] [(57,.agg #[.int .i64 0,.int .i64 0,.int .i64 0,.int .i64 0,.int .i64 0,.int .i64 0]),(58,.int .i64 r9),(8,.slice none 0 0)] ?_
  refine A.sw 4 [] [.int .i64 0,.int .i64 0,.int .i64 0,.int .i64 0,.int .i64 0,.int .i64 0] ?_
  refine A.q0 [] [] [.n] [(10,.int .i64 r9)] ?_
  refine A.dx 1 ?_
  obtain rfl:=Option.some.inj hF
  refine A.nil 208 T43 44 ?_
  exact A.AX.ret [(0,208)] (.tuple #[.slice none 0 0,.agg #[.int .i64 0,.int .i64 0,.int .i64 0,.int .i64 0,.int .i64 0,.int .i64 0],.int .i64 r9]) (fun a w hf hh=>Z.resv3 rfl (Z.rv_t hf rfl) (Z.rv_n hf rfl Tryz.isAgg29 Tryz.sizeOf29 (A.Hp.blk hh 4) rfl) (Z.rv_t hf rfl)) (⟨none,0,rfl,rfl,(A.hasl .i64 (0) rfl),(A.hasl .i64 (0) rfl),(A.hasl .i64 (0) rfl),(A.hasl .i64 (0) rfl),(A.hasl .i64 (0) rfl),(A.hasl .i64 (0) rfl),hr11⟩)
 refine A.xl 4 ?_
 refine A.q0 [] [] [.n] [(13,.int .i64 0)] ?_
 refine A.dx 2 ?_
 refine A.lp_ [3,4,6,9] [0,1,2,3,4] (fun f nl nh=>∃(y12:Int),nl=[(13,.int .i64 y12)]∧nh=[]∧IntKind.i64.has y12∧F.R17_Batch_l3 a0 a2 a3 f y12=some r) ⟨0,rfl,rfl,(A.hasl .i64 (0) rfl),hF⟩ ?_
 rintro f14 _ _ ⟨y12,rfl,rfl,hy13,hF⟩
 rcases f14 with _|f14
 ·exact A.no0 hF
 rw[F.R17_Batch_l3]at hF
 refine A.xl 2 ?_
 refine A.q0 [] [] [.n,.n,.n,.n] [(62,.bool (decide (y12<((a3).length:Int))))] ?_
 refine A.dx 1 ?_
 refine A.AX.cnd rfl hF (fun hb hF=>?_) (fun hb hF=>?_)
 ·refine A.xl 5 ?_
  refine A.q0 [] [] [.n,.n] [(65,.slice A17_ ((a3).length) c18_),(66,.int .i64 y12)] ?_
  obtain⟨x15,hv16,hF⟩:=A.bd_some hF
  refine A.AL.ixl 1 877 hv16 fun ho17=>?_
  intro b18 o19
  refine A.q0 [] [877] [.e 0 0] [(68,.agg #[.int .i64 x15.1,.string x15.2])] ?_
  obtain⟨r20,hv21,hF⟩:=A.bd_some hF
  refine A.AL.call 878 [] (first:=[]) (cap:=[]) cf27 (R05_Check_ok (x15.1,x15.2) ho17.1 ho17.2 r20 hv21) .nil ?_
  rintro _ _ ⟨rfl,rfl,hr22⟩
  refine⟨by kernel_rfl,?_⟩
  refine A.q0 [] [] [.n] [(14,.int .i64 r20)] ?_
  refine A.dl 2 ?_
  refine A.q0 [] [] [.n,.n] [(71,.bool (decide (r20≠0)))] ?_
  refine A.dx 1 ?_
  refine A.AX.cnd rfl hF (fun hb hF=>?_) (fun hb hF=>?_)
  ·refine A.xl 1 ?_
   refine A.q0 [] [] [.n,.n,.n] [(72,.agg #[.int .i64 0,.int .i64 0,.int .i64 0,.int .i64 0,.int .i64 0,.int .i64 0]),(73,.int .i64 r20),(8,.slice none 0 0)] ?_
   refine A.sw 4 [] [.int .i64 0,.int .i64 0,.int .i64 0,.int .i64 0,.int .i64 0,.int .i64 0] ?_
   refine A.q0 [] [] [.n] [(10,.int .i64 r20)] ?_
   refine A.dx 1 ?_
   obtain rfl:=Option.some.inj hF
   refine A.nil 918 T43 44 ?_
   exact A.AX.ret [(0,918)] (.tuple #[.slice none 0 0,.agg #[.int .i64 0,.int .i64 0,.int .i64 0,.int .i64 0,.int .i64 0,.int .i64 0],.int .i64 r20]) (fun a w hf hh=>Z.resv3 rfl (Z.rv_t hf rfl) (Z.rv_n hf rfl Tryz.isAgg29 Tryz.sizeOf29 (A.Hp.blk hh 4) rfl) (Z.rv_t hf rfl)) (⟨none,0,rfl,rfl,(A.hasl .i64 (0) rfl),(A.hasl .i64 (0) rfl),(A.hasl .i64 (0) rfl),(A.hasl .i64 (0) rfl),(A.hasl .i64 (0) rfl),(A.hasl .i64 (0) rfl),hr22⟩)
  refine A.xl 3 ?_
  obtain⟨hc23,hF⟩:=A.gd_some hF
  refine A.q [] [] [.n,.n,.n] [Z.R64 (y12+1)] [(13,.int .i64 (y12+1))] hc23 ?_
  refine A.AL.done ?_
  exact A.j ⟨_,Nat.lt_succ_self _,⟨(y12+1),rfl,rfl,(Z.i64_has hc23),hF⟩⟩
 refine A.xl 3 ?_
 refine A.q0 [3] [] [.b 0 0] [(74,.agg #[.int .i64 a2.1,.int .i64 a2.2.1,.int .i64 a2.2.2.1,.int .i64 a2.2.2.2.1,.int .i64 a2.2.2.2.2.1,.int .i64 a2.2.2.2.2.2])] ?_
 refine A.AL.alloc 919 (cs:=[.int .i64 0,.int .i64 0,.int .i64 0,.int .i64 0,.int .i64 0,.int .i64 0]) Tryz.zeroValue29 fun g24=>?_
 refine A.sw 919 [] [.int .i64 a2.1,.int .i64 a2.2.1,.int .i64 a2.2.2.1,.int .i64 a2.2.2.2.1,.int .i64 a2.2.2.2.2.1,.int .i64 a2.2.2.2.2.2] ?_
 refine A.dl 2 ?_
 refine A.q0 [] [] [.n] [(16,.int .i64 0)] ?_
 refine A.dx 1 ?_
 refine A.AX.join [3,4,9,15] [0,1,2,4] (fun nl nh=>∃(y25:Int),∃(y27:Int),∃(y29:Int),∃(y31:Int),∃(y33:Int),∃(y35:Int),∃(y37:Int),nl=[(16,.int .i64 y37)]∧nh=[(919,.blk g24 29 [.int .i64 y25,.int .i64 y27,.int .i64 y29,.int .i64 y31,.int .i64 y33,.int .i64 y35])]∧IntKind.i64.has y25∧IntKind.i64.has y27∧IntKind.i64.has y29∧IntKind.i64.has y31∧IntKind.i64.has y33∧IntKind.i64.has y35∧IntKind.i64.has y37∧F.R17_Batch_j2 a0 a3 y25 y27 y29 y31 y33 y35 y37=some r) ?_ ?_
 ·refine A.xl 1 ?_
  refine A.q0 [2] [] [.n,.b 0 1] [(76,.int .i64 a0.2.1)] ?_
  refine A.dl 3 ?_
  refine A.q0 [] [] [.n,.n] [(77,.bool (decide (a0.2.1=12)))] ?_
  refine A.dx 1 ?_
  refine A.AX.cnd rfl hF (fun hb hF=>?_) (fun hb hF=>?_)
  ·refine A.xl 0 ?_
   refine A.q0 [3] [] [.b 0 0] [(80,.agg #[.int .i64 a2.1,.int .i64 a2.2.1,.int .i64 a2.2.2.1,.int .i64 a2.2.2.2.1,.int .i64 a2.2.2.2.2.1,.int .i64 a2.2.2.2.2.2])] ?_
   obtain⟨r59,hv60,hF⟩:=A.bd_some hF
   refine A.AL.call 920 [] (first:=[]) (cap:=[]) cf52 (R01_Enter_ok (a2.1,a2.2.1,(a2.2.2.1,a2.2.2.2.1,a2.2.2.2.2.1,a2.2.2.2.2.2)) h11_ h12_ h13_ h14_ h15_ h16_ r59 hv60) .nil ?_
   rintro _ _ ⟨rfl,rfl,hr61,hr62,hr63,hr64,hr65,hr66,hr67⟩
   refine⟨by kernel_rfl,?_⟩
   refine A.q0 [] [] [.n,.n,.n] [(82,.agg #[.int .i64 r59.1.1,.int .i64 r59.1.2.1,.int .i64 r59.1.2.2.1,.int .i64 r59.1.2.2.2.1,.int .i64 r59.1.2.2.2.2.1,.int .i64 r59.1.2.2.2.2.2]),(83,.int .i64 r59.2)] ?_
   refine A.sw 919 [] [.int .i64 r59.1.1,.int .i64 r59.1.2.1,.int .i64 r59.1.2.2.1,.int .i64 r59.1.2.2.2.1,.int .i64 r59.1.2.2.2.2.1,.int .i64 r59.1.2.2.2.2.2] ?_
   refine A.q0 [] [] [.n] [(16,.int .i64 r59.2)] ?_
   refine A.de 1 ?_
   exact A.j ⟨r59.1.1,r59.1.2.1,r59.1.2.2.1,r59.1.2.2.2.1,r59.1.2.2.2.2.1,r59.1.2.2.2.2.2,r59.2,rfl,rfl,hr61,hr62,hr63,hr64,hr65,hr66,hr67,hF⟩
  refine A.xl 1 ?_
  refine A.q0 [] [] [.n,.n] [(84,.bool (decide (a0.2.1=13)))] ?_
  refine A.dx 1 ?_
  refine A.AX.cnd rfl hF (fun hb hF=>?_) (fun hb hF=>?_)
  ·refine A.xl 0 ?_
   refine A.q0 [3] [] [.b 0 0] [(87,.agg #[.int .i64 a2.1,.int .i64 a2.2.1,.int .i64 a2.2.2.1,.int .i64 a2.2.2.2.1,.int .i64 a2.2.2.2.2.1,.int .i64 a2.2.2.2.2.2])] ?_
   obtain⟨r68,hv69,hF⟩:=A.bd_some hF
   refine A.AL.call 960 [] (first:=[]) (cap:=[]) cf53 (R01_Leave_ok (a2.1,a2.2.1,(a2.2.2.1,a2.2.2.2.1,a2.2.2.2.2.1,a2.2.2.2.2.2)) h11_ h12_ h13_ h14_ h15_ h16_ r68 hv69) .nil ?_
   rintro _ _ ⟨rfl,rfl,hr70,hr71,hr72,hr73,hr74,hr75,hr76⟩
   refine⟨by kernel_rfl,?_⟩
   refine A.q0 [] [] [.n,.n,.n] [(89,.agg #[.int .i64 r68.1.1,.int .i64 r68.1.2.1,.int .i64 r68.1.2.2.1,.int .i64 r68.1.2.2.2.1,.int .i64 r68.1.2.2.2.2.1,.int .i64 r68.1.2.2.2.2.2]),(90,.int .i64 r68.2)] ?_
   refine A.sw 919 [] [.int .i64 r68.1.1,.int .i64 r68.1.2.1,.int .i64 r68.1.2.2.1,.int .i64 r68.1.2.2.2.1,.int .i64 r68.1.2.2.2.2.1,.int .i64 r68.1.2.2.2.2.2] ?_
   refine A.q0 [] [] [.n] [(16,.int .i64 r68.2)] ?_
   refine A.de 1 ?_
   exact A.j ⟨r68.1.1,r68.1.2.1,r68.1.2.2.1,r68.1.2.2.2.1,r68.1.2.2.2.2.1,r68.1.2.2.2.2.2,r68.2,rfl,rfl,hr70,hr71,hr72,hr73,hr74,hr75,hr76,hF⟩
  refine A.xl 1 ?_
  refine A.q0 [] [] [.n,.n] [(91,.bool (decide (a0.2.1=14)))] ?_
  refine A.dx 1 ?_
  refine A.AX.cnd rfl hF (fun hb hF=>?_) (fun hb hF=>?_)
  ·refine A.xl 2 ?_
   refine A.q0 [3] [] [.n,.b 0 1,.n] [(95,.bool (decide (a2.2.1=0)))] ?_
   refine A.dx 1 ?_
   refine A.AX.cnd rfl hF (fun hb hF=>?_) (fun hb hF=>?_)
   ·refine A.xl 1 ?_
    refine A.q0 [] [] [.n,.n] [(96,.agg #[.int .i64 0,.int .i64 0,.int .i64 0,.int .i64 0,.int .i64 0,.int .i64 0]),(8,.slice none 0 0)] ?_
    refine A.sw 4 [] [.int .i64 0,.int .i64 0,.int .i64 0,.int .i64 0,.int .i64 0,.int .i64 0] ?_
    refine A.q0 [] [] [.n] [(10,.int .i64 11)] ?_
    refine A.dx 1 ?_
    obtain rfl:=Option.some.inj hF
    refine A.nil 1000 T43 44 ?_
    exact A.AX.ret [(0,1000)] (.tuple #[.slice none 0 0,.agg #[.int .i64 0,.int .i64 0,.int .i64 0,.int .i64 0,.int .i64 0,.int .i64 0],.int .i64 11]) (fun a w hf hh=>Z.resv3 rfl (Z.rv_t hf rfl) (Z.rv_n hf rfl Tryz.isAgg29 Tryz.sizeOf29 (A.Hp.blk hh 4) rfl) (Z.rv_t hf rfl)) (⟨none,0,rfl,rfl,(A.hasl .i64 (0) rfl),(A.hasl .i64 (0) rfl),(A.hasl .i64 (0) rfl),(A.hasl .i64 (0) rfl),(A.hasl .i64 (0) rfl),(A.hasl .i64 (0) rfl),(A.hasl .i64 (11) rfl)⟩)
   refine A.xx 4 ?_
   refine A.AX.dr mixed 9 9 (A.mb 9 0) ?_
   obtain⟨hc77,hF⟩:=A.gd_some hF
   refine A.AH.q A.pb [] [0,1,2,3,4,919] [3,2] [] (A.mb 9 207) 3 [(0,.n),(3,.n),(6,.n),(1,.b 0 1),(7,.b 1 7),(2,.n)] [100,104,99] [Z.R64 (a2.2.1-1)] [(100,.pointer (some ⟨g2,2,none⟩)),(104,.int .i64 a0.2.2.2.2.2.1),(99,.int .i64 (a2.2.1-1))] hc77 ?_
   obtain⟨x78,hv79,hF⟩:=A.bd_some hF
   refine A.pkb 3 1001 (fun v:Int=>.int .i64 v) [a2.2.2.1,a2.2.2.2.1,a2.2.2.2.2.1,a2.2.2.2.2.2] 2 hv79 ?_
   refine A.AH.v A.pb [0,1,2,3,4,919] [0,1,2,3,4,919,1001] 4 (A.mb 9 223) rfl (fun a w hf hh=>A.r_indexArr Tryz.underlying27 Tryz.sizeOf2 (hf.eval rfl) (hf.eval rfl) (A.ix_ok hv79).1 (A.ix_ok hv79).2) ?_
   refine A.hq A.pb [0,1,2,3,4,919,1001] [0,1,2,3,4,919,1001] [] [1001] (A.mb 9 511) 0 [(5,.e 0 0),(8,.n)] [(105,.bool (decide (a0.2.2.2.2.2.1≤x78)))] ?_
   refine A.AH.done ?_
   refine A.ex 1 ?_
   refine A.AX.cnd rfl hF (fun hb hF=>?_) (fun hb hF=>?_)
   ·refine A.xx 1 ?_
    refine A.AX.dr mixed 4 4 (A.mb 4 0) ?_
    refine A.hq A.pb [] [0,1,2,3,919,1001] [3] [] (A.mb 4 3) 2 [(0,.b 0 0),(1,.n)] [(106,.agg #[.int .i64 a2.1,.int .i64 a2.2.1,.int .i64 a2.2.2.1,.int .i64 a2.2.2.2.1,.int .i64 a2.2.2.2.2.1,.int .i64 a2.2.2.2.2.2]),(8,.slice none 0 0)] ?_
    refine A.AH.one 2 ?_
    refine A.sw 4 [] [.int .i64 a2.1,.int .i64 a2.2.1,.int .i64 a2.2.2.1,.int .i64 a2.2.2.2.1,.int .i64 a2.2.2.2.2.1,.int .i64 a2.2.2.2.2.2] ?_
    refine A.AH.nx (A.mb 4 7) [0,1,2,3,919,1001] ?_
    refine A.hq A.pb [0,1,2,3,919,1001] [0,1,2,3,4,919,1001] [] [] (A.mb 4 15) 0 [(3,.n)] [(10,.int .i64 0)] ?_
    refine A.AH.done ?_
    refine A.ex 1 ?_
    obtain rfl:=Option.some.inj hF
    refine A.nil 1002 T43 44 ?_
    exact A.AX.ret [(0,1002)] (.tuple #[.slice none 0 0,.agg #[.int .i64 a2.1,.int .i64 a2.2.1,.int .i64 a2.2.2.1,.int .i64 a2.2.2.2.1,.int .i64 a2.2.2.2.2.1,.int .i64 a2.2.2.2.2.2],.int .i64 0]) (fun a w hf hh=>Z.resv3 rfl (Z.rv_t hf rfl) (Z.rv_n hf rfl Tryz.isAgg29 Tryz.sizeOf29 (A.Hp.blk hh 4) rfl) (Z.rv_t hf rfl)) (⟨none,0,rfl,rfl,h11_,h12_,h13_,h14_,h15_,h16_,(A.hasl .i64 (0) rfl)⟩)
   refine A.xl 2 ?_
   refine A.q0 [3] [] [.b 0 0] [(108,.agg #[.int .i64 a2.1,.int .i64 a2.2.1,.int .i64 a2.2.2.1,.int .i64 a2.2.2.2.1,.int .i64 a2.2.2.2.2.1,.int .i64 a2.2.2.2.2.2])] ?_
   obtain⟨r80,hv81,hF⟩:=A.bd_some hF
   refine A.AL.call 1003 [] (first:=[]) (cap:=[]) cf54 (R01_Next_ok (a2.1,a2.2.1,(a2.2.2.1,a2.2.2.2.1,a2.2.2.2.2.1,a2.2.2.2.2.2)) h11_ h12_ h13_ h14_ h15_ h16_ r80 hv81) .nil ?_
   rintro _ _ ⟨rfl,rfl,hr82,hr83,hr84,hr85,hr86,hr87,hr88⟩
   refine⟨by kernel_rfl,?_⟩
   refine A.q0 [] [] [.n,.n,.n] [(110,.agg #[.int .i64 r80.1.1,.int .i64 r80.1.2.1,.int .i64 r80.1.2.2.1,.int .i64 r80.1.2.2.2.1,.int .i64 r80.1.2.2.2.2.1,.int .i64 r80.1.2.2.2.2.2]),(111,.int .i64 r80.2)] ?_
   refine A.sw 919 [] [.int .i64 r80.1.1,.int .i64 r80.1.2.1,.int .i64 r80.1.2.2.1,.int .i64 r80.1.2.2.2.1,.int .i64 r80.1.2.2.2.2.1,.int .i64 r80.1.2.2.2.2.2] ?_
   refine A.q0 [] [] [.n] [(16,.int .i64 r80.2)] ?_
   refine A.de 1 ?_
   exact A.j ⟨r80.1.1,r80.1.2.1,r80.1.2.2.1,r80.1.2.2.2.1,r80.1.2.2.2.2.1,r80.1.2.2.2.2.2,r80.2,rfl,rfl,hr82,hr83,hr84,hr85,hr86,hr87,hr88,hF⟩
  refine A.xe 2 ?_
  exact A.j ⟨a2.1,a2.2.1,a2.2.2.1,a2.2.2.2.1,a2.2.2.2.2.1,a2.2.2.2.2.2,0,rfl,rfl,h11_,h12_,h13_,h14_,h15_,h16_,(A.hasl .i64 (0) rfl),hF⟩
 rintro _ _ ⟨y25,y27,y29,y31,y33,y35,y37,rfl,rfl,hy26,hy28,hy30,hy32,hy34,hy36,hy38,hF⟩
 rw[F.R17_Batch_j2]at hF
 refine A.xl 2 ?_
 refine A.q0 [] [] [.n,.n] [(113,.bool (decide (y37≠0)))] ?_
 refine A.dx 1 ?_
 refine A.AX.cnd rfl hF (fun hb hF=>?_) (fun hb hF=>?_)
 ·refine A.xl 1 ?_
  refine A.q0 [] [] [.n,.n,.n] [(114,.agg #[.int .i64 0,.int .i64 0,.int .i64 0,.int .i64 0,.int .i64 0,.int .i64 0]),(115,.int .i64 y37),(8,.slice none 0 0)] ?_
  refine A.sw 4 [] [.int .i64 0,.int .i64 0,.int .i64 0,.int .i64 0,.int .i64 0,.int .i64 0] ?_
  refine A.q0 [] [] [.n] [(10,.int .i64 y37)] ?_
  refine A.dx 1 ?_
  obtain rfl:=Option.some.inj hF
  refine A.nil 1043 T43 44 ?_
  exact A.AX.ret [(0,1043)] (.tuple #[.slice none 0 0,.agg #[.int .i64 0,.int .i64 0,.int .i64 0,.int .i64 0,.int .i64 0,.int .i64 0],.int .i64 y37]) (fun a w hf hh=>Z.resv3 rfl (Z.rv_t hf rfl) (Z.rv_n hf rfl Tryz.isAgg29 Tryz.sizeOf29 (A.Hp.blk hh 4) rfl) (Z.rv_t hf rfl)) (⟨none,0,rfl,rfl,(A.hasl .i64 (0) rfl),(A.hasl .i64 (0) rfl),(A.hasl .i64 (0) rfl),(A.hasl .i64 (0) rfl),(A.hasl .i64 (0) rfl),(A.hasl .i64 (0) rfl),hy38⟩)
 refine A.xl 3 ?_
 refine A.q0 [] [] [.n] [(17,.slice none 0 0)] ?_
 refine A.dl 3 ?_
 refine A.q0 [] [] [.n] [(18,.int .i64 0)] ?_
 refine A.dx 2 ?_
 refine A.nil 1087 T43 44 ?_
 refine A.lp_ [3,4,9,15] [0,1,2,4,919] (fun f nl nh=>∃(xs41:List D43),∃(y42:Int),∃(A39:Option Addr),∃(c40:Nat),nl=[(17,.slice A39 ((xs41).length) c40),(18,.int .i64 y42)]∧nh=[(1087,.own T43 44 A39 c40 xs41)]∧IntKind.i64.has y42∧F.R17_Batch_l1 a0 a3 y25 y27 y29 y31 y33 y35 f xs41 y42=some r) ⟨[],0,none,0,rfl,rfl,(A.hasl .i64 (0) rfl),hF⟩ ?_
 rintro f44 _ _ ⟨xs41,y42,A39,c40,rfl,rfl,hy43,hF⟩
 rcases f44 with _|f44
 ·exact A.no0 hF
 rw[F.R17_Batch_l1]at hF
 refine A.xl 2 ?_
 refine A.q0 [] [] [.n,.n,.n,.n] [(119,.bool (decide (y42<((a3).length:Int))))] ?_
 refine A.dx 1 ?_
 refine A.AX.cnd rfl hF (fun hb hF=>?_) (fun hb hF=>?_)
 ·refine A.xx 4 ?_
  refine A.AX.dr mixed 9 9 (A.mb 9 0) ?_
  refine A.hq A.pb [] [0,1,2,4,919] [2] [] (A.mb 9 15) 5 [(0,.n),(1,.b 0 0),(2,.n),(3,.n)] [(122,.slice A39 ((xs41).length) c40),(123,.agg #[.int .i64 a0.1,.int .i64 a0.2.1,.slice A2_ ((a0.2.2.1).length) c3_,.int .i64 a0.2.2.2.1.1,.int .i64 a0.2.2.2.1.2.1,.string a0.2.2.2.1.2.2,.string a0.2.2.2.2.1,.int .i64 a0.2.2.2.2.2.1,.int .i64 a0.2.2.2.2.2.2]),(124,.slice A17_ ((a3).length) c18_),(125,.int .i64 y42)] ?_
  obtain⟨x45,hv46,hF⟩:=A.bd_some hF
  refine A.AH.pkl 1 1170 hv46 fun ho47=>?_
  intro b49 o50 hA48
  refine A.AH.v A.pb [0,1,2,4,919] [0,1,2,4,919,1170] 4 (A.mb 9 31) rfl (fun a w hf hh=>A.r_ixa (t:=T43) hv46 hA48 hf) ?_
  refine A.hq A.pb [0,1,2,4,919,1170] [0,1,2,4,919,1170] [] [1170] (A.mb 9 63) 3 [(5,.e 0 0)] [(127,.agg #[.int .i64 x45.1,.string x45.2])] ?_
  refine A.AH.one 6 ?_
  obtain⟨r51,hv52,hF⟩:=A.bd_some hF
  refine A.AL.call 1171 [] (first:=[]) (cap:=[]) cf55 (R17_one_ok (a0.1,a0.2.1,a0.2.2.1,(a0.2.2.2.1.1,a0.2.2.2.1.2.1,a0.2.2.2.1.2.2),a0.2.2.2.2.1,a0.2.2.2.2.2.1,a0.2.2.2.2.2.2) (x45.1,x45.2) A2_ c3_ h0_ h1_ h4_ h5_ h6_ h7_ h8_ h9_ ho47.1 ho47.2 r51 hv52) (.s 0 .nil) ?_
  rintro _ _ ⟨A53,c54,rfl,rfl⟩
  refine⟨by kernel_rfl,?_⟩
  refine A.AH.nx (A.mb 9 127) [0,1,2,4,919,1170] ?_
  refine A.AH.one 7 ?_
  obtain⟨hl57,hF⟩:=A.gd_some hF
  refine A.AL.app (k:=1087) [] (A.rowO (k:=1171) rfl) inf44 hl57 fun A55 c56=>?_
  refine A.AH.nx (A.mb 9 255) [0,1,2,4,919,1170] ?_
  refine A.hq A.pb [0,1,2,4,919,1170] [0,1,2,4,919,1087,1170,1171] [] [] (A.mb 9 511) 0 [(8,.n)] [(17,.slice A55 ((xs41++r51).length) c56)] ?_
  refine A.AH.done ?_
  refine A.el 2 ?_
  obtain⟨hc58,hF⟩:=A.gd_some hF
  refine A.q [] [] [.n,.n,.n] [Z.R64 (y42+1)] [(18,.int .i64 (y42+1))] hc58 ?_
  refine A.AL.done ?_
  exact A.j ⟨_,Nat.lt_succ_self _,⟨(xs41++r51),(y42+1),A55,c56,rfl,rfl,(Z.i64_has hc58),hF⟩⟩
 refine A.xx 3 ?_
 refine A.AX.dr mixed 5 5 (A.mb 5 0) ?_
 refine A.hq A.pb [] [0,1,2,919,1087] [919] [] (A.mb 5 7) 2 [(0,.n),(1,.b 0 0),(2,.n)] [(131,.agg #[.int .i64 y25,.int .i64 y27,.int .i64 y29,.int .i64 y31,.int .i64 y33,.int .i64 y35]),(8,.slice A39 ((xs41).length) c40)] ?_
 refine A.AH.one 3 ?_
 refine A.sw 4 [] [.int .i64 y25,.int .i64 y27,.int .i64 y29,.int .i64 y31,.int .i64 y33,.int .i64 y35] ?_
 refine A.AH.nx (A.mb 5 15) [0,1,2,919,1087] ?_
 refine A.hq A.pb [0,1,2,919,1087] [0,1,2,4,919,1087] [] [] (A.mb 5 31) 0 [(4,.n)] [(10,.int .i64 0)] ?_
 refine A.AH.done ?_
 refine A.ex 1 ?_
 obtain rfl:=Option.some.inj hF
 exact A.AX.ret [(0,1087)] (.tuple #[.slice A39 ((xs41).length) c40,.agg #[.int .i64 y25,.int .i64 y27,.int .i64 y29,.int .i64 y31,.int .i64 y33,.int .i64 y35],.int .i64 0]) (fun a w hf hh=>Z.resv3 rfl (Z.rv_t hf rfl) (Z.rv_n hf rfl Tryz.isAgg29 Tryz.sizeOf29 (A.Hp.blk hh 4) rfl) (Z.rv_t hf rfl)) (⟨A39,c40,rfl,rfl,hy26,hy28,hy30,hy32,hy34,hy36,(A.hasl .i64 (0) rfl)⟩)
end Go.Proofs.YtbljnlkhebiniaaGreatDoor
end
section
set_option linter.unusedVariables false
set_option linter.unusedSimpArgs false
set_option maxRecDepth 20000
set_option maxHeartbeats 8000000
set_option synthInstance.maxSize 1000000
set_option synthInstance.maxHeartbeats 400000
namespace Go.Proofs.YtbljnlkhebiniaaGreatDoor
open Go.RowKit
def F.L17_OperBatches_j1 (y31:Bool):Option Bool:=some y31
def F.L17_OperBatches (a0:D25)(a1:Int)(a2:D59):Option Bool:=(F.L17_live).bind fun r3=>(if(!r3)=true then(some false)else((F.L17_few a2.2.2).bind fun r5=>(if(bif !r5 then true else decide ((300:Int)<(a0.2.2.2.1.2.2.size:Int)))=true then(some true)else((F.oper_Batch (a0.1,a0.2.1,a0.2.2.1,(a0.2.2.2.1.1,a0.2.2.2.1.2.1,a0.2.2.2.1.2.2),a0.2.2.2.2.1,a0.2.2.2.2.2.1,a0.2.2.2.2.2.2) a1 (a2.2.1.1,a2.2.1.2.1,(a2.2.1.2.2.1,a2.2.1.2.2.2.1,a2.2.1.2.2.2.2.1,a2.2.1.2.2.2.2.2)) a2.2.2).bind fun r7=>((F.R17_Batch (a0.1,a0.2.1,a0.2.2.1,(a0.2.2.2.1.1,a0.2.2.2.1.2.1,a0.2.2.2.1.2.2),a0.2.2.2.2.1,a0.2.2.2.2.2.1,a0.2.2.2.2.2.2) a1 (a2.2.1.1,a2.2.1.2.1,(a2.2.1.2.2.1,a2.2.1.2.2.2.1,a2.2.1.2.2.2.2.1,a2.2.1.2.2.2.2.2)) a2.2.2).bind fun r19=>((F.slices_Equal_api_Rec_api_Rec r7.1 r19.1).bind fun r32=>(if r32=true then(if(bif decide ((r7.2.1.1,r7.2.1.2.1,(r7.2.1.2.2.1,r7.2.1.2.2.2.1,r7.2.1.2.2.2.2.1,r7.2.1.2.2.2.2.2))=(r19.2.1.1,r19.2.1.2.1,(r19.2.1.2.2.1,r19.2.1.2.2.2.1,r19.2.1.2.2.2.2.1,r19.2.1.2.2.2.2.2)))then decide (r7.2.2=r19.2.2)else false)=true then((F.oper_Holds a0.2.1).bind fun r34=>((F.R17_Holds a0.2.1).bind fun r36=>(if(r34==r36)=true then((F.oper_Keeps a0.2.1).bind fun r38=>((F.R17_Keeps a0.2.1).bind fun r40=>(F.L17_OperBatches_j1 (r38==r40))))else(F.L17_OperBatches_j1 false))))else(F.L17_OperBatches_j1 false))else(F.L17_OperBatches_j1 false))))))))
theorem L17_OperBatches_ok (a0:D25)(a1:Int)(a2:D59)(A2_:Option Addr)(c3_:Nat)(A18_:Option Addr)(c19_:Nat)(m20_:Int)(h0_:IntKind.i64.has a0.1)(h1_:IntKind.i64.has a0.2.1)(h4_:IntKind.i64.has a0.2.2.2.1.1)(h5_:IntKind.i64.has a0.2.2.2.1.2.1)(h6_:a0.2.2.2.1.2.2.size≤maxLen)(h7_:a0.2.2.2.2.1.size≤maxLen)(h8_:IntKind.i64.has a0.2.2.2.2.2.1)(h9_:IntKind.i64.has a0.2.2.2.2.2.2)(h10_:IntKind.i64.has a1)(h11_:IntKind.i64.has a2.1)(h12_:IntKind.i64.has a2.2.1.1)(h13_:IntKind.i64.has a2.2.1.2.1)(h14_:IntKind.i64.has a2.2.1.2.2.1)(h15_:IntKind.i64.has a2.2.1.2.2.2.1)(h16_:IntKind.i64.has a2.2.1.2.2.2.2.1)(h17_:IntKind.i64.has a2.2.1.2.2.2.2.2)(r:Bool)(hF:F.L17_OperBatches a0 a1 a2=some r):
    A.Ct Tryz.prog 4 [.agg #[.int .i64 a0.1,.int .i64 a0.2.1,.slice A2_ ((a0.2.2.1).length) c3_,.int .i64 a0.2.2.2.1.1,.int .i64 a0.2.2.2.1.2.1,.string a0.2.2.2.1.2.2,.string a0.2.2.2.2.1,.int .i64 a0.2.2.2.2.2.1,.int .i64 a0.2.2.2.2.2.2],.int .i64 a1,.agg #[.int .i64 a2.1,.int .i64 a2.2.1.1,.int .i64 a2.2.1.2.1,.int .i64 a2.2.1.2.2.1,.int .i64 a2.2.1.2.2.2.1,.int .i64 a2.2.1.2.2.2.2.1,.int .i64 a2.2.1.2.2.2.2.2,.slice A18_ ((a2.2.2).length) c19_]] [(0,.sh (.slice (Z.Ty.int .i64)) [.slice A2_ (a0.2.2.1).length c3_] a0.2.2.1),(1,.sh (.slice T43) [.slice A18_ (a2.2.2).length c19_] a2.2.2),(2,.el none 1 0 A.tabF),(3,.el none 2 0 A.tabA),(4,.el none 0 0 [.int .i64 m20_])] [] (fun v H'=>v=.bool r∧H'=[]):=by
 refine A.Ct.enter Tryz.func4 rfl Tryz.ntmps4 rfl fun w0 F0=>?_
 rw[F.L17_OperBatches]at hF
 refine A.xl 1 ?_
 refine A.AL.box 5 (cs:=[.int .i64 a0.1,.int .i64 a0.2.1,.slice A2_ ((a0.2.2.1).length) c3_,.int .i64 a0.2.2.2.1.1,.int .i64 a0.2.2.2.1.2.1,.string a0.2.2.2.1.2.2,.string a0.2.2.2.2.1,.int .i64 a0.2.2.2.2.2.1,.int .i64 a0.2.2.2.2.2.2]) fun g1=>?_
 refine A.AL.box 6 (cs:=[.int .i64 a2.1,.int .i64 a2.2.1.1,.int .i64 a2.2.1.2.1,.int .i64 a2.2.1.2.2.1,.int .i64 a2.2.1.2.2.2.1,.int .i64 a2.2.1.2.2.2.2.1,.int .i64 a2.2.1.2.2.2.2.2,.slice A18_ ((a2.2.2).length) c19_]) fun g2=>?_
 refine A.q0 [] [] [.n] [] ?_
 refine A.dl 3 ?_
 obtain⟨r3,hv4,hF⟩:=A.bd_some hF
 refine A.AL.call 7 [] (first:=[]) (cap:=[]) cf7 (L17_live_ok r3 hv4) (.s 2 (.s 3 .nil)) ?_
 rintro _ _ ⟨rfl,rfl⟩
 refine⟨by kernel_rfl,?_⟩
 refine A.q0 [] [] [.n] [(14,.bool (!r3))] ?_
 refine A.dx 1 ?_
 refine A.AX.cnb rfl hF (fun hb hF=>?_) (fun hb hF=>?_)
 ·refine A.xl 1 ?_
  refine A.q0 [] [] [.n] [(6,.bool false)] ?_
  refine A.dx 1 ?_
  obtain rfl:=Option.some.inj hF
  exact A.rt1 [] ⟨rfl,rfl⟩
 refine A.xl 4 ?_
 refine A.q0 [6] [] [.n,.b 0 7] [(16,.slice A18_ ((a2.2.2).length) c19_)] ?_
 obtain⟨r5,hv6,hF⟩:=A.bd_some hF
 refine A.AL.call 47 [] (first:=[]) (cap:=[]) cf19 (L17_few_ok a2.2.2 A18_ c19_ r5 hv6) (.s 1 .nil) ?_
 rintro _ _ ⟨rfl,rfl⟩
 refine⟨by kernel_rfl,?_⟩
 refine A.q0 [5] [] [.n,.n,.sy .n,.sy .n,.sy (.b 0 5),.sy .n,.sy .n,.pk] [(25,.bool (bif !r5 then true else decide ((300:Int)<(a0.2.2.2.1.2.2.size:Int))))] ?_
 refine A.dx 1 ?_
 refine A.AX.cnb rfl hF (fun hb hF=>?_) (fun hb hF=>?_)
 ·refine A.xl 1 ?_
  refine A.q0 [] [] [.n] [(6,.bool true)] ?_
  refine A.dx 1 ?_
  obtain rfl:=Option.some.inj hF
  exact A.rt1 [] ⟨rfl,rfl⟩
 refine A.xl 3 ?_
 refine A.q0 [5,6] [] [.b 0 0,.n,.n,.b 1 1,.n,.b 1 7] [(27,.agg #[.int .i64 a0.1,.int .i64 a0.2.1,.slice A2_ ((a0.2.2.1).length) c3_,.int .i64 a0.2.2.2.1.1,.int .i64 a0.2.2.2.1.2.1,.string a0.2.2.2.1.2.2,.string a0.2.2.2.2.1,.int .i64 a0.2.2.2.2.2.1,.int .i64 a0.2.2.2.2.2.2]),(28,.int .i64 a1),(30,.agg #[.int .i64 a2.2.1.1,.int .i64 a2.2.1.2.1,.int .i64 a2.2.1.2.2.1,.int .i64 a2.2.1.2.2.2.1,.int .i64 a2.2.1.2.2.2.2.1,.int .i64 a2.2.1.2.2.2.2.2]),(32,.slice A18_ ((a2.2.2).length) c19_)] ?_
 obtain⟨r7,hv8,hF⟩:=A.bd_some hF
 refine A.AL.call 87 [] (first:=[]) (cap:=[]) cf20 (oper_Batch_ok (a0.1,a0.2.1,a0.2.2.1,(a0.2.2.2.1.1,a0.2.2.2.1.2.1,a0.2.2.2.1.2.2),a0.2.2.2.2.1,a0.2.2.2.2.2.1,a0.2.2.2.2.2.2) a1 (a2.2.1.1,a2.2.1.2.1,(a2.2.1.2.2.1,a2.2.1.2.2.2.1,a2.2.1.2.2.2.2.1,a2.2.1.2.2.2.2.2)) a2.2.2 A2_ c3_ A18_ c19_ m20_ h0_ h1_ h4_ h5_ h6_ h7_ h8_ h9_ h10_ h12_ h13_ h14_ h15_ h16_ h17_ r7 hv8) (.s 0 (.l 1 (.s 2 (.s 3 (.s 4 .nil))))) ?_
 rintro _ _ ⟨A9,c10,rfl,rfl,hr11,hr12,hr13,hr14,hr15,hr16,hr17⟩
 refine⟨by kernel_rfl,?_⟩
 refine A.q0 [] [] [.n,.n,.n,.n] [(34,.slice A9 ((r7.1).length) c10),(35,.agg #[.int .i64 r7.2.1.1,.int .i64 r7.2.1.2.1,.int .i64 r7.2.1.2.2.1,.int .i64 r7.2.1.2.2.2.1,.int .i64 r7.2.1.2.2.2.2.1,.int .i64 r7.2.1.2.2.2.2.2]),(36,.int .i64 r7.2.2)] ?_
 refine A.AL.alloc 127 (cs:=[.int .i64 0,.int .i64 0,.int .i64 0,.int .i64 0,.int .i64 0,.int .i64 0]) Tryz.zeroValue29 fun g18=>?_
 refine A.q0 [] [] [.n] [(7,.slice A9 ((r7.1).length) c10)] ?_
 refine A.sw 127 [] [.int .i64 r7.2.1.1,.int .i64 r7.2.1.2.1,.int .i64 r7.2.1.2.2.1,.int .i64 r7.2.1.2.2.2.1,.int .i64 r7.2.1.2.2.2.2.1,.int .i64 r7.2.1.2.2.2.2.2] ?_
 refine A.q0 [] [] [.n] [(9,.int .i64 r7.2.2)] ?_
 refine A.dl 2 ?_
 refine A.q0 [5,6] [] [.b 0 0,.n,.n,.b 1 1,.n,.b 1 7] [(38,.agg #[.int .i64 a0.1,.int .i64 a0.2.1,.slice A2_ ((a0.2.2.1).length) c3_,.int .i64 a0.2.2.2.1.1,.int .i64 a0.2.2.2.1.2.1,.string a0.2.2.2.1.2.2,.string a0.2.2.2.2.1,.int .i64 a0.2.2.2.2.2.1,.int .i64 a0.2.2.2.2.2.2]),(39,.int .i64 a1),(41,.agg #[.int .i64 a2.2.1.1,.int .i64 a2.2.1.2.1,.int .i64 a2.2.1.2.2.1,.int .i64 a2.2.1.2.2.2.1,.int .i64 a2.2.1.2.2.2.2.1,.int .i64 a2.2.1.2.2.2.2.2]),(43,.slice A18_ ((a2.2.2).length) c19_)] ?_
 obtain⟨r19,hv20,hF⟩:=A.bd_some hF
 refine A.AL.call 128 [] (first:=[]) (cap:=[]) cf21 (R17_Batch_ok (a0.1,a0.2.1,a0.2.2.1,(a0.2.2.2.1.1,a0.2.2.2.1.2.1,a0.2.2.2.1.2.2),a0.2.2.2.2.1,a0.2.2.2.2.2.1,a0.2.2.2.2.2.2) a1 (a2.2.1.1,a2.2.1.2.1,(a2.2.1.2.2.1,a2.2.1.2.2.2.1,a2.2.1.2.2.2.2.1,a2.2.1.2.2.2.2.2)) a2.2.2 A2_ c3_ A18_ c19_ h0_ h1_ h4_ h5_ h6_ h7_ h8_ h9_ h10_ h12_ h13_ h14_ h15_ h16_ h17_ r19 hv20) (.s 0 (.l 1 .nil)) ?_
 rintro _ _ ⟨A21,c22,rfl,rfl,hr23,hr24,hr25,hr26,hr27,hr28,hr29⟩
 refine⟨by kernel_rfl,?_⟩
 refine A.q0 [] [] [.n,.n,.n,.n] [(45,.slice A21 ((r19.1).length) c22),(46,.agg #[.int .i64 r19.2.1.1,.int .i64 r19.2.1.2.1,.int .i64 r19.2.1.2.2.1,.int .i64 r19.2.1.2.2.2.1,.int .i64 r19.2.1.2.2.2.2.1,.int .i64 r19.2.1.2.2.2.2.2]),(47,.int .i64 r19.2.2)] ?_
 refine A.AL.alloc 168 (cs:=[.int .i64 0,.int .i64 0,.int .i64 0,.int .i64 0,.int .i64 0,.int .i64 0]) Tryz.zeroValue29 fun g30=>?_
 refine A.q0 [] [] [.n] [(10,.slice A21 ((r19.1).length) c22)] ?_
 refine A.sw 168 [] [.int .i64 r19.2.1.1,.int .i64 r19.2.1.2.1,.int .i64 r19.2.1.2.2.1,.int .i64 r19.2.1.2.2.2.1,.int .i64 r19.2.1.2.2.2.2.1,.int .i64 r19.2.1.2.2.2.2.2] ?_
 refine A.q0 [] [] [.n] [(12,.int .i64 r19.2.2)] ?_
 refine A.dx 1 ?_
 refine A.AX.join [] [2,3,4] (fun nl nh=>∃(y31:Bool),nl=[(6,.bool y31)]∧nh=[]∧F.L17_OperBatches_j1 y31=some r) ?_ ?_
 ·refine A.AX.dr mixed 32 32 (A.mb 32 0) ?_
  refine A.hq A.pb [] [0,1,2,3,4,5,6,87,127,128,168] [] [] (A.mb 32 3) 30 [(0,.n),(1,.n)] [(48,.slice A9 ((r7.1).length) c10),(49,.slice A21 ((r19.1).length) c22)] ?_
  refine A.AH.one 2 ?_
  obtain⟨r32,hv33,hF⟩:=A.bd_some hF
  refine A.AL.call 169 [] (first:=[]) (cap:=[]) cf12 (slices_Equal_api_Rec_api_Rec_ok r7.1 r19.1 A9 c10 A21 c22 r32 hv33) (.o 87 (.o 128 .nil)) ?_
  rintro _ _ ⟨rfl,rfl⟩
  refine⟨by kernel_rfl,?_⟩
  refine A.AH.nx (A.mb 32 7) [0,1,2,3,4,5,6,87,127,128,168] ?_
  refine A.hq A.pb [0,1,2,3,4,5,6,87,127,128,168] [0,1,2,3,4,5,6,87,127,128,168] [] [] (A.mb 32 15) 28 [(3,.n)] [(51,.bool r32)] ?_
  refine A.AH.cnd (j:=51) rfl hF (fun hF=>?_) (fun hF=>?_)
  ·refine A.hq A.pb [0,1,2,3,4,5,6,87,127,128,168] [0,1,2,3,4,5,6,87,127,128,168] [127,168] [] (A.mb 32 63) 26 [(4,.on (.b 0 0)),(5,.on (.b 1 0))] [(52,.agg #[.int .i64 r7.2.1.1,.int .i64 r7.2.1.2.1,.int .i64 r7.2.1.2.2.1,.int .i64 r7.2.1.2.2.2.1,.int .i64 r7.2.1.2.2.2.2.1,.int .i64 r7.2.1.2.2.2.2.2]),(53,.agg #[.int .i64 r19.2.1.1,.int .i64 r19.2.1.2.1,.int .i64 r19.2.1.2.2.1,.int .i64 r19.2.1.2.2.2.1,.int .i64 r19.2.1.2.2.2.2.1,.int .i64 r19.2.1.2.2.2.2.2])] ?_
   refine A.AH.vg A.pb [0,1,2,3,4,5,6,87,127,128,168] [0,1,2,3,4,5,6,87,127,128,168] 6 (A.mb 32 127) (dj:=51) rfl (fun a w hf hh=>eqagg_eql29 (x:=(r7.2.1.1,r7.2.1.2.1,(r7.2.1.2.2.1,r7.2.1.2.2.2.1,r7.2.1.2.2.2.2.1,r7.2.1.2.2.2.2.2))) (y:=(r19.2.1.1,r19.2.1.2.1,(r19.2.1.2.2.1,r19.2.1.2.2.2.1,r19.2.1.2.2.2.2.1,r19.2.1.2.2.2.2.2))) (hf.eval rfl) (hf.eval rfl)) ?_
   refine A.hq A.pb [0,1,2,3,4,5,6,87,127,128,168] [0,1,2,3,4,5,6,87,127,128,168] [] [] (A.mb 32 16383) 18 [(7,.n),(8,.n),(9,.sy .n),(10,.sy .n),(11,.sy .n),(12,.pk),(13,.n)] [(61,.bool (bif decide ((r7.2.1.1,r7.2.1.2.1,(r7.2.1.2.2.1,r7.2.1.2.2.2.1,r7.2.1.2.2.2.2.1,r7.2.1.2.2.2.2.2))=(r19.2.1.1,r19.2.1.2.1,(r19.2.1.2.2.1,r19.2.1.2.2.2.1,r19.2.1.2.2.2.2.1,r19.2.1.2.2.2.2.2)))then decide (r7.2.2=r19.2.2)else false))] ?_
   refine A.AH.cnd (j:=61) rfl hF (fun hF=>?_) (fun hF=>?_)
   ·refine A.hq A.pb [0,1,2,3,4,5,6,87,127,128,168] [0,1,2,3,4,5,6,87,127,128,168] [5] [] (A.mb 32 458751) 14 [(14,.on .n),(17,.on .n),(15,.on (.b 0 1)),(18,.on (.b 0 1))] [(63,.int .i64 a0.2.1),(66,.int .i64 a0.2.1)] ?_
    refine A.AH.one 16 ?_
    refine A.AL.on (dj:=61) rfl rfl ?_
    obtain⟨r34,hv35,hF⟩:=A.bd_some hF
    refine A.AL.call 209 [] (first:=[]) (cap:=[]) cf22 (oper_Holds_ok a0.2.1 h1_ r34 hv35) .nil ?_
    rintro _ _ ⟨rfl,rfl⟩
    refine⟨by kernel_rfl,?_⟩
    refine A.AH.nx (A.mb 32 524287) [0,1,2,3,4,5,6,87,127,128,168] ?_
    refine A.AH.one 19 ?_
    refine A.AL.on (dj:=61) rfl rfl ?_
    obtain⟨r36,hv37,hF⟩:=A.bd_some hF
    refine A.AL.call 249 [] (first:=[]) (cap:=[]) cf23 (R17_Holds_ok a0.2.1 h1_ r36 hv37) .nil ?_
    rintro _ _ ⟨rfl,rfl⟩
    refine⟨by kernel_rfl,?_⟩
    refine A.AH.nx (A.mb 32 1048575) [0,1,2,3,4,5,6,87,127,128,168] ?_
    refine A.hq A.pb [0,1,2,3,4,5,6,87,127,128,168] [0,1,2,3,4,5,6,87,127,128,168] [] [] (A.mb 32 8388607) 9 [(20,.on .n),(21,.n),(22,.n)] [(70,.bool (r34==r36))] ?_
    refine A.AH.cnd (j:=70) rfl hF (fun hF=>?_) (fun hF=>?_)
    ·refine A.hq A.pb [0,1,2,3,4,5,6,87,127,128,168] [0,1,2,3,4,5,6,87,127,128,168] [5] [] (A.mb 32 234881023) 5 [(23,.on .n),(26,.on .n),(24,.on (.b 0 1)),(27,.on (.b 0 1))] [(72,.int .i64 a0.2.1),(75,.int .i64 a0.2.1)] ?_
     refine A.AH.one 25 ?_
     refine A.AL.on (dj:=70) rfl rfl ?_
     obtain⟨r38,hv39,hF⟩:=A.bd_some hF
     refine A.AL.call 289 [] (first:=[]) (cap:=[]) cf24 (oper_Keeps_ok a0.2.1 h1_ r38 hv39) .nil ?_
     rintro _ _ ⟨rfl,rfl⟩
     refine⟨by kernel_rfl,?_⟩
     refine A.AH.nx (A.mb 32 268435455) [0,1,2,3,4,5,6,87,127,128,168] ?_
     refine A.AH.one 28 ?_
     refine A.AL.on (dj:=70) rfl rfl ?_
     obtain⟨r40,hv41,hF⟩:=A.bd_some hF
     refine A.AL.call 329 [] (first:=[]) (cap:=[]) cf25 (R17_Keeps_ok a0.2.1 h1_ r40 hv41) .nil ?_
     rintro _ _ ⟨rfl,rfl⟩
     refine⟨by kernel_rfl,?_⟩
     refine A.AH.nx (A.mb 32 536870911) [0,1,2,3,4,5,6,87,127,128,168] ?_
     refine A.hq A.pb [0,1,2,3,4,5,6,87,127,128,168] [0,1,2,3,4,5,6,87,127,128,168] [] [] (A.mb 32 4294967295) 0 [(29,.on .n),(30,.n),(31,.n)] [(6,.bool (r38==r40))] ?_
     refine A.AH.done ?_
     exact A.j ⟨(r38==r40),rfl,rfl,hF⟩
    refine A.hq A.pb [0,1,2,3,4,5,6,87,127,128,168] [0,1,2,3,4,5,6,87,127,128,168] [] [] (A.mb 32 4294967295) 0 [(23,.off),(26,.off),(24,.off),(27,.off),(25,.off),(28,.off),(29,.off),(30,.n),(31,.n)] [(6,.bool false)] ?_
    refine A.AH.done ?_
    exact A.j ⟨false,rfl,rfl,hF⟩
   refine A.hq A.pb [0,1,2,3,4,5,6,87,127,128,168] [0,1,2,3,4,5,6,87,127,128,168] [] [] (A.mb 32 4294967295) 0 [(14,.off),(17,.off),(15,.off),(18,.off),(16,.off),(19,.off),(20,.off),(21,.n),(22,.n),(23,.off),(26,.off),(24,.off),(27,.off),(25,.off),(28,.off),(29,.off),(30,.n),(31,.n)] [(6,.bool false)] ?_
   refine A.AH.done ?_
   exact A.j ⟨false,rfl,rfl,hF⟩
  refine A.hq A.pb [0,1,2,3,4,5,6,87,127,128,168] [0,1,2,3,4,5,6,87,127,128,168] [] [] (A.mb 32 4294967295) 0 [(4,.off),(5,.off),(6,.off),(7,.n),(8,.n),(9,.off),(10,.off),(11,.off),(12,.n),(13,.n),(14,.off),(17,.off),(15,.off),(18,.off),(16,.off),(19,.off),(20,.off),(21,.n),(22,.n),(23,.off),(26,.off),(24,.off),(27,.off),(25,.off),(28,.off),(29,.off),(30,.n),(31,.n)] [(6,.bool false)] ?_
  refine A.AH.done ?_
  exact A.j ⟨false,rfl,rfl,hF⟩
 rintro _ _ ⟨y31,rfl,rfl,hF⟩
 rw[F.L17_OperBatches_j1]at hF
 obtain rfl:=Option.some.inj hF
 exact A.rt1 [] ⟨rfl,rfl⟩
end Go.Proofs.YtbljnlkhebiniaaGreatDoor
end
section
set_option linter.unusedVariables false
set_option linter.unusedSimpArgs false
set_option maxRecDepth 20000
set_option maxHeartbeats 8000000
set_option synthInstance.maxSize 1000000
set_option synthInstance.maxHeartbeats 400000
namespace Go.Proofs.YtbljnlkhebiniaaGreatDoor
open Go.RowKit
end Go.Proofs.YtbljnlkhebiniaaGreatDoor
end
section
set_option linter.unusedVariables false
set_option linter.unusedSimpArgs false
set_option maxRecDepth 20000
set_option maxHeartbeats 8000000
set_option synthInstance.maxSize 1000000
set_option synthInstance.maxHeartbeats 400000
namespace Go.Proofs.YtbljnlkhebiniaaGreatDoor
open Go.RowKit
end Go.Proofs.YtbljnlkhebiniaaGreatDoor
end
section
end
section
namespace Go.Graph
abbrev Fun:=Int×Int×ByteArray
abbrev Nd:=Int×Int×List Int×Fun×ByteArray×Int×Int
abbrev id (x:Nd):Int:=x.1
abbrev kind (x:Nd):Int:=x.2.1
abbrev ins (x:Nd):List Int:=x.2.2.1
abbrev fn (x:Nd):Fun:=x.2.2.2.1
abbrev name (x:Nd):ByteArray:=x.2.2.2.2.1
abbrev cap (x:Nd):Int:=x.2.2.2.2.2.1
def Few (g:List Nd):Prop:=g.length≤40∧∀x,x∈g→x.2.2.1.length≤5000∧x.2.2.2.2.1.size≤5000∧x.2.2.2.1.2.2.size≤5000
theorem Few.in {g:List Nd}{k:Nat}{x:Nd}(h:Few g)(hx:g[k]?=some x):x.2.2.1.length≤5000:=(h.2 x (List.mem_of_getElem? hx)).1
def insK (k:Int):Int:=if k<1∨16<k then-1 else if k=1 then 0 else if k=5∨k=9 then 2 else 1
def letter (c:UInt8):Bool:=decide ((97:Int)≤(c.toNat:Int)∧(c.toNat:Int)≤122∨(65:Int)≤(c.toNat:Int)∧(c.toNat:Int)≤90)
def digit (c:UInt8):Bool:=decide ((48:Int)≤(c.toNat:Int)∧(c.toNat:Int)≤57)
def wordy (l:List UInt8):Bool:=l.all fun c=>letter c||digit c
def named (s:ByteArray):Bool:=decide (s≠ByteArray.mk #[])&&decide ((s.size:Int)≤16)&&letter (Z.bat s 0)&&wordy s.data.toList
theorem drop_bat {s:ByteArray}{i:Nat}(h:i<s.size):s.data.toList.drop i=Z.bat s i::s.data.toList.drop (i+1):=by
 have h':i<s.data.toList.length:=by simpa using h
 rw[List.drop_eq_getElem_cons h']
 have h2:i<s.data.size:=h
 congr 1
 simp[Z.bat,Array.getElem?_eq_getElem h2]
theorem drop_end {s:ByteArray}{i:Nat}(h: ¬i<s.size):s.data.toList.drop i=[]:=
 List.drop_eq_nil_of_le (by have h1:s.data.toList.length=s.size:=rfl;omega)
theorem size_pos {s:ByteArray}(h:s≠ByteArray.mk #[]):0<s.size:=by
 rcases Nat.eq_zero_or_pos s.size with h0|h0
 ·have h1:s.data=#[]:=Array.eq_empty_of_size_eq_zero h0
  exact absurd (by cases s;simp_all) h
 ·exact h0
def idxF (id:Int):Nat→List Nd→Int
 |_,[]=> -1
 |k,x::r=>if x.1=id then(k:Int)else idxF id (k+1) r
def idx (g:List Nd)(id:Int):Int:=idxF id 0 g
def namedF (kd:Int)(s:ByteArray):List Nd→Int×Bool
 | []=>(0,false)
 |x::r=>if kind x=kd∧name x=s then(x.1,true)else namedF kd s r
def z0:Nd:=(0,0,[],(0,0,ByteArray.mk #[]),ByteArray.mk #[],0,0)
def at_ (g:List Nd)(i:Int):Nd:=(g[i.toNat]?).getD z0
def ownT (g:List Nd)(n:Nd):Bool:=if n.2.1≠1∧n.2.1≠15 then decide (n.2.2.2.2.1=ByteArray.mk #[])else named n.2.2.2.2.1&&decide ((namedF n.2.1 n.2.2.2.2.1 g).1=n.1)
def ownC (n:Nd):Prop:=n.2.1=14∧(n.2.2.2.2.2.1<1∨8<n.2.2.2.2.2.1∨n.2.2.2.2.2.2<1∨4<n.2.2.2.2.2.2)∨n.2.1≠14∧(n.2.2.2.2.2.1≠0∨n.2.2.2.2.2.2≠0)
instance (n:Nd):Decidable (ownC n):=by unfold ownC;infer_instance
def own (g:List Nd)(i:Int)(n:Nd):Bool:=
 if n.1<1∨255<n.1∨0<i∧n.1≤(at_ g (i-1)).1∨insK n.2.1<0∨(n.2.2.1.length:Int)≠insK n.2.1 then false else if ownC n then false else ownT g n
def bget (l:List Bool)(i:Int):Bool:=(l[i.toNat]?).getD false
def iget (l:List Int)(i:Int):Int:=(l[i.toNat]?).getD 0
def readyF (g:List Nd)(done:List Bool)(kd:Int):List Int→Bool
 | []=>true
 |k::r=>if kd≠14∧bget done (idx g k)=false then false else readyF g done kd r
def ready (g:List Nd)(done:List Bool)(n:Nd):Bool:=readyF g done n.2.1 n.2.2.1
def d0:List Int→Int
 | []=>0
 |a::_=>a
abbrev inD (g:List Nd) (d:List Int) (l:List Int):List Int:=l.map fun k=>iget d (idx g k)
def InB (d:List Int):Prop:=∀i,0≤iget d i∧iget d i≤4
theorem InB.rep (n:Nat):InB (List.replicate n 0):=fun i=>by
 unfold iget;rw[List.getElem?_replicate];split<;>simp
theorem InB.set {d:List Int}(h:InB d)(p:Nat){v:Int}(h0:0≤v)(h1:v≤4):InB (d.set p v):=fun i=>by
 unfold iget;rw[List.getElem?_set]
 have:=h i
 unfold iget at this
 split
 ·split<;>simp<;>omega
 ·exact this
theorem InB.d0 {d:List Int}(h:InB d)(g:List Nd)(l:List Int): -1≤Graph.d0 (inD g d l)∧Graph.d0 (inD g d l)≤4:=by
 cases l with
 |nil=>simp[Graph.d0]
 |cons k r=>have:=h (idx g k);simp only[inD,List.map_cons,Graph.d0];omega
theorem width_pos (s:ByteArray)(pos:Nat):1≤(Utf8.decode s pos).2:=by
 unfold Utf8.decode;simp only[];repeat' split
 all_goals first|exact Nat.le_refl 1|(simp;done)|omega
def numberF (f:Fun):Bool:=if f.1=3∨f.1=13 then decide (0≤f.2.1∧f.2.1≤64)else if f.1=6∨f.1=11 then decide (1≤f.2.1∧f.2.1≤1048576)else decide (f.2.1=0)
def tail5 (c:UInt8):Bool:=decide (128≤(c.toNat:Int)∧(c.toNat:Int)≤191)
end Go.Graph
end
section
set_option linter.unusedVariables false
set_option linter.unusedSimpArgs false
namespace Go.A
open Go.Z
theorem r64n {n:Nat}(h:n<4611686018427387904):R64 ((n:Int)+1):=⟨by omega,by omega⟩
theorem gd1 {α:Type}{p:Prop}[Decidable p](h:p)(x:Option α):gd p x=x:=if_pos h
theorem ixn {α:Type}{xs:List α}{k:Nat}{x:α}(h:xs[k]?=some x):ix xs (k:Int)=some x:=by rw[ix_nat];exact h
theorem dropx {α:Type}{xs:List α}{k:Nat}{x:α}(h:xs[k]?=some x):xs.drop k=x::xs.drop (k+1):=by
 obtain⟨h1,h2⟩:=List.getElem?_eq_some_iff.1 h
 rw[List.drop_eq_getElem_cons h1,h2]
theorem ba {p q:Prop}[Decidable p][Decidable q]:(bif decide p then decide q else false)=decide (p∧q):=by by_cases h:p<;>simp[h]
theorem bo {p q:Prop}[Decidable p][Decidable q]:(bif decide p then true else decide q)=decide (p∨q):=by by_cases h:p<;>simp[h]
theorem bn {p:Prop}[Decidable p]:(!decide p)=decide (¬p):=by by_cases h:p<;>simp[h]
theorem lp {α σ ρ:Type}(xs:List α)(L:Nat→σ→Int→Option ρ)(G:Nat→List α→σ→Option ρ)(P:Nat→σ→Prop)
  (h0: ∀f s,P xs.length s→L (f+1) s (xs.length:Int)=G xs.length [] s)
  (h1: ∀f s (k:Nat) x,xs[k]?=some x→k<xs.length→P k s→(∀s',P (k+1) s'→L f s' ((k:Int)+1)=G (k+1) (xs.drop (k+1)) s')→L (f+1) s k=G k (x::xs.drop (k+1)) s)
  (hl:xs.length<FU) (s:σ) (hs:P 0 s):L FU s 0=G 0 xs s:=by
 have main: ∀(n k f:Nat) (s:σ),k+n=xs.length→n<f→P k s→L f s (k:Int)=G k (xs.drop k) s:=by
  intro n
  induction n with
  |zero=>
   intro k f s hk hf hp
   obtain⟨f,rfl⟩: ∃f',f=f'+1:=⟨f-1,by omega⟩
   obtain rfl:k=xs.length:=by omega
   rw[List.drop_eq_nil_of_le (Nat.le_refl _)];exact h0 f s hp
  |succ n ih=>
   intro k f s hk hf hp
   obtain⟨f,rfl⟩: ∃f',f=f'+1:=⟨f-1,by omega⟩
   have hx:xs[k]?=some xs[k]:=List.getElem?_eq_getElem (by omega)
   rw[dropx hx]
   exact h1 f s k _ hx (by omega) hp fun s' hp'=>ih (k+1) f s' (by omega) (by omega) hp'
 have:=main xs.length 0 FU s (by omega) hl hs
 simpa using this
theorem lp0 {α ρ:Type}(xs:List α)(L:Nat→Int→Option ρ)(G:Nat→List α→Option ρ)
  (h0: ∀f,L (f+1) (xs.length:Int)=G xs.length [])
  (h1: ∀f (k:Nat) x,xs[k]?=some x→k<xs.length→L f ((k:Int)+1)=G (k+1) (xs.drop (k+1))→L (f+1) k=G k (x::xs.drop (k+1)))
  (hl:xs.length<FU):L FU 0=G 0 xs:=
 lp xs (fun f (_:Unit) y=>L f y) (fun k l _=>G k l) (fun _ _=>True) (fun f s _=>h0 f) (fun f s k x hx hk _ ih=>h1 f k x hx hk (ih () trivial)) hl () trivial
end Go.A
namespace Go.Proofs.YtbljnlkhebiniaaGreatDoor
open Go.RowKit Go.Graph
theorem FU_big:(18446744073709551616:Nat)<A.FU:=by decide
theorem ixb {s:ByteArray}{k:Nat}(h:k<s.size):A.ix s.data.toList (k:Int)=some (Z.bat s k):=by
 refine A.ixn ?_
 have:=drop_bat h
 rw[←List.head?_drop,this];rfl
theorem size_list (s:ByteArray):s.data.toList.length=s.size:=rfl
end Go.Proofs.YtbljnlkhebiniaaGreatDoor
end
section
set_option linter.unusedVariables false
set_option linter.unusedSimpArgs false
namespace Go.Proofs.YtbljnlkhebiniaaGreatDoor
open Go.RowKit Go.Graph
theorem bat_get (s:ByteArray)(i:Nat):(s.get! i)=Z.bat s i:=by
 cases s;simp[ByteArray.get!,Z.bat,getElem!_def,Option.getD]
 rfl
theorem dec_at (s:ByteArray)(i:Nat):Utf8.decode s i=Lib.decodeN (s.size-i) (Z.bat s i).toNat (Z.bat s (i+1)).toNat (Z.bat s (i+2)).toNat (Z.bat s (i+3)).toNat:=by
 rw[Lib.decode_at,bat_get,bat_get,bat_get,bat_get]
end Go.Proofs.YtbljnlkhebiniaaGreatDoor
end
section
set_option maxRecDepth 20000
set_option linter.unusedVariables false
set_option linter.unusedSimpArgs false
namespace Go.Proofs.YtbljnlkhebiniaaGreatDoor
open Go.RowKit Go.Graph
theorem tail_eq (c:UInt8):F.R05_tail c=some (tail5 c):=by
 unfold F.R05_tail tail5
 by_cases h1:(128:Int)≤(c.toNat:Int)<;>by_cases h2:(c.toNat:Int)≤191<;>simp[h1,h2]
theorem ixk (s:ByteArray)(p k:Nat):A.ix s.data.toList ((p:Int)+(k:Int))=if p+k<s.size then some (Z.bat s (p+k))else none:=by
 have e:(p:Int)+(k:Int)=((p+k:Nat):Int):=by omega
 rw[e]
 by_cases h:p+k<s.size
 ·rw[if_pos h];exact ixb h
 ·rw[if_neg h,A.ix_nat];exact List.getElem?_eq_none (by rw[size_list];omega)
def wid (s:ByteArray)(p:Nat):Nat:=if Utf8.decode s p=(65533,1)then 0 else(Utf8.decode s p).2
theorem wid_le {s:ByteArray}{p:Nat}(h:p<s.size):p+wid s p≤s.size:=by
 unfold wid
 split
 ·omega
 ·rw[dec_at]
  unfold Lib.decodeN
  repeat' split
  all_goals simp only[]
  all_goals omega
def widN (n a b c d:Nat):Nat:=
 if a<128 then 1
 else if(194≤a∧a≤223)∧2≤n∧(128≤b∧b≤191)then 2
 else if(224≤a∧a≤239)∧3≤n∧(128≤b∧b≤191)∧(128≤c∧c≤191)∧¬(a=224∧b<160)∧¬(a=237∧159<b)then 3
 else if(240≤a∧a≤244)∧4≤n∧(128≤b∧b≤191)∧(128≤c∧c≤191)∧(128≤d∧d≤191)∧¬(a=240∧b<144)∧¬(a=244∧143<b)then 4
 else 0
theorem pq (c:Prop)[Decidable c](x w:Nat)(hw:w≠1):(if(if c then(x,w)else(65533,1))=(65533,1)then 0 else(if c then(x,w)else(65533,1)).2)=if c then w else 0:=by
 by_cases h:c<;>simp[h,hw]
theorem widN_eq (n a b c d:Nat)(ha:a<256)(hb:b<256)(hc:c<256)(hd:d<256):(if Lib.decodeN n a b c d=(65533,1)then 0 else(Lib.decodeN n a b c d).2)=widN n a b c d:=by
 unfold Lib.decodeN widN
 by_cases h0:a<128
 ·simp only[h0,if_true,Prod.mk.injEq];rw[if_neg (by omega)]
 ·simp only[h0,if_false]
  by_cases h1:a / 32=6∧1<n∧b / 64=2
  ·simp only[if_pos h1]
   rw[pq _ _ _ (by decide)]
   repeat' split
   all_goals omega
  ·simp only[if_neg h1]
   by_cases h3:a / 16=14∧(1<n∧b / 64=2)∧2<n∧c / 64=2
   ·simp only[if_pos h3]
    rw[pq _ _ _ (by decide)]
    repeat' split
    all_goals omega
   ·simp only[if_neg h3]
    by_cases h5:a / 8=30∧(1<n∧b / 64=2)∧(2<n∧c / 64=2)∧3<n∧d / 64=2
    ·simp only[if_pos h5]
     rw[pq _ _ _ (by decide)]
     repeat' split
     all_goals omega
    ·simp only[if_neg h5,if_true]
     repeat' split
     all_goals omega
theorem wid_N (s:ByteArray)(p:Nat):wid s p=widN (s.size-p) (Z.bat s p).toNat (Z.bat s (p+1)).toNat (Z.bat s (p+2)).toNat (Z.bat s (p+3)).toNat:=by
 rw[←widN_eq _ _ _ _ _ (UInt8.toNat_lt _) (UInt8.toNat_lt _) (UInt8.toNat_lt _) (UInt8.toNat_lt _),←dec_at];rfl
theorem cnd {α:Type}{p:Prop}[Decidable p](x y:α):(bif decide p then x else y)=if p then x else y:=by by_cases h:p<;>simp[h]
set_option maxHeartbeats 4000000 in
theorem width_eq (s:ByteArray)(p:Nat)(hp:p<s.size)(hs:s.size≤5000):F.R05_width s p=some (wid s p:Int):=by
 have i1:A.ix s.data.toList ((p:Int)+1)=if p+1<s.size then some (Z.bat s (p+1))else none:=ixk s p 1
 have i2:A.ix s.data.toList ((p:Int)+2)=if p+2<s.size then some (Z.bat s (p+2))else none:=ixk s p 2
 have i3:A.ix s.data.toList ((p:Int)+3)=if p+3<s.size then some (Z.bat s (p+3))else none:=ixk s p 3
 have r1:Z.R64 ((p:Int)+1):=⟨by omega,by omega⟩
 have r2:Z.R64 ((p:Int)+2):=⟨by omega,by omega⟩
 have r3:Z.R64 ((p:Int)+3):=⟨by omega,by omega⟩
 unfold F.R05_width
 rw[A.gd1 ⟨by omega,by omega⟩,ixb hp,Option.bind_some,A.gd1 r1,i1,wid_N]
 generalize Z.bat s p=c0 at*
 generalize Z.bat s (p+1)=c1 at*
 generalize Z.bat s (p+2)=c2 at*
 generalize Z.bat s (p+3)=c3 at*
 have t (c:UInt8):tail5 c=decide (128≤c.toNat∧c.toNat≤191):=by unfold tail5;congr 1;exact propext ⟨fun h=>by omega,fun h=>by omega⟩
 by_cases h1:(1:Int)<(s.size:Int)-(p:Int)
 ·rw[if_pos h1,if_pos (by omega),Option.bind_some]
  simp only[F.R05_width_j4,F.R05_width_j3,F.R05_width_j2,F.R05_width_j1,tail_eq,Option.bind_some,t,A.gd1 r2,A.gd1 r3,i2,i3]
  unfold widN
  generalize hn:s.size-p=n
  have e2:((2:Int)≤(s.size:Int)-(p:Int))=(2≤n):=propext ⟨fun h=>by omega,fun h=>by omega⟩
  have e3:((3:Int)≤(s.size:Int)-(p:Int))=(3≤n):=propext ⟨fun h=>by omega,fun h=>by omega⟩
  have e4:((4:Int)≤(s.size:Int)-(p:Int))=(4≤n):=propext ⟨fun h=>by omega,fun h=>by omega⟩
  have f2:(p+2<s.size)=(3≤n):=propext ⟨fun h=>by omega,fun h=>by omega⟩
  have f3:(p+3<s.size)=(4≤n):=propext ⟨fun h=>by omega,fun h=>by omega⟩
  have hn2:2≤n:=by omega
  simp only[e2,e3,e4,f2,f3,A.ba,decide_eq_true_eq,hn2,and_true,true_and]
  have q0:((c0.toNat:Int)<128)=(c0.toNat<128):=propext ⟨fun h=>by omega,fun h=>by omega⟩
  have q1:((194:Int)≤(c0.toNat:Int)∧(c0.toNat:Int)≤223)=(194≤c0.toNat∧c0.toNat≤223):=propext ⟨fun h=>by omega,fun h=>by omega⟩
  have q2:((224:Int)≤(c0.toNat:Int)∧(c0.toNat:Int)≤239)=(224≤c0.toNat∧c0.toNat≤239):=propext ⟨fun h=>by omega,fun h=>by omega⟩
  have q3:((240:Int)≤(c0.toNat:Int)∧(c0.toNat:Int)≤244)=(240≤c0.toNat∧c0.toNat≤244):=propext ⟨fun h=>by omega,fun h=>by omega⟩
  have q4:((c0.toNat:Int)=224∧(c1.toNat:Int)<160)=(c0.toNat=224∧c1.toNat<160):=propext ⟨fun h=>by omega,fun h=>by omega⟩
  have q5:((c0.toNat:Int)=237∧(159:Int)<(c1.toNat:Int))=(c0.toNat=237∧159<c1.toNat):=propext ⟨fun h=>by omega,fun h=>by omega⟩
  have q6:((c0.toNat:Int)=240∧(c1.toNat:Int)<144)=(c0.toNat=240∧c1.toNat<144):=propext ⟨fun h=>by omega,fun h=>by omega⟩
  have q7:((c0.toNat:Int)=244∧(143:Int)<(c1.toNat:Int))=(c0.toNat=244∧143<c1.toNat):=propext ⟨fun h=>by omega,fun h=>by omega⟩
  simp only[q0,q1,q2,q3,q4,q5,q6,q7]
  have x1:240≤c0.toNat∧c0.toNat≤244→¬(224≤c0.toNat∧c0.toNat≤239):=fun h h2=>by omega
  have x2:240≤c0.toNat∧c0.toNat≤244→¬(194≤c0.toNat∧c0.toNat≤223):=fun h h2=>by omega
  have x3:224≤c0.toNat∧c0.toNat≤239→¬(194≤c0.toNat∧c0.toNat≤223):=fun h h2=>by omega
  by_cases K0:c0.toNat<128
  ·simp[K0]
  by_cases m1:128≤c1.toNat∧c1.toNat≤191
  ·by_cases K1:194≤c0.toNat∧c0.toNat≤223
   ·simp only[if_neg K0,if_pos K1,if_pos m1,K1,m1,and_self,if_true];rfl
   ·by_cases K2:224≤c0.toNat∧c0.toNat≤239
    ·have K3: ¬(240≤c0.toNat∧c0.toNat≤244):=fun h=>x1 h K2
     by_cases k3:3≤n
     ·by_cases m2:128≤c2.toNat∧c2.toNat≤191
      ·by_cases y1:c0.toNat=224∧c1.toNat<160
       ·simp only[if_neg K0,if_neg K1,if_pos (And.intro K2 k3),if_pos m1,if_pos k3,Option.bind_some,if_pos m2,eq_true y1,if_true,false_and,K1,K3,eq_true y1,not_true_eq_false,and_false,if_false];rfl
       ·by_cases y2:c0.toNat=237∧159<c1.toNat
        ·simp only[if_neg K0,if_neg K1,if_pos (And.intro K2 k3),if_pos m1,if_pos k3,Option.bind_some,if_pos m2,if_neg y1,eq_true y2,if_true,false_and,K1,K3,eq_true y2,not_true_eq_false,and_false,if_false];rfl
        ·simp only[if_neg K0,if_neg K1,if_pos (And.intro K2 k3),if_pos m1,if_pos k3,Option.bind_some,if_pos m2,if_neg y1,if_neg y2,false_and,K1,K2,k3,m1,m2,y1,y2,not_false_eq_true,and_self,if_true,if_false];rfl
      ·simp only[if_neg K0,if_neg K1,if_pos (And.intro K2 k3),if_pos m1,if_pos k3,Option.bind_some,if_neg m2,if_neg K3,false_and,K1,K3,m2,and_false,if_false,Bool.false_eq_true];rfl
     ·simp only[if_neg K0,if_neg K1,k3,and_false,if_neg K3,false_and,K1,K3,if_false];rfl
    ·by_cases K3:240≤c0.toNat∧c0.toNat≤244
     ·by_cases k4:4≤n
      ·have k3:3≤n:=by omega
       by_cases m2:128≤c2.toNat∧c2.toNat≤191
       ·by_cases m3:128≤c3.toNat∧c3.toNat≤191
        ·by_cases y1:c0.toNat=240∧c1.toNat<144
         ·simp only[if_neg K0,if_neg K1,if_neg K2,K2,false_and,if_pos (And.intro K3 k4),if_pos m1,if_pos k3,if_pos k4,Option.bind_some,if_pos m2,if_pos m3,eq_true y1,if_true,K1,eq_true y1,not_true_eq_false,and_false,if_false];rfl
         ·by_cases y2:c0.toNat=244∧143<c1.toNat
          ·simp only[if_neg K0,if_neg K1,if_neg K2,K2,false_and,if_pos (And.intro K3 k4),if_pos m1,if_pos k3,if_pos k4,Option.bind_some,if_pos m2,if_pos m3,if_neg y1,eq_true y2,if_true,K1,eq_true y2,not_true_eq_false,and_false,if_false];rfl
          ·simp only[if_neg K0,if_neg K1,if_neg K2,K2,false_and,if_pos (And.intro K3 k4),if_pos m1,if_pos k3,if_pos k4,Option.bind_some,if_pos m2,if_pos m3,if_neg y1,if_neg y2,K1,K3,k4,m1,m2,m3,y1,y2,not_false_eq_true,and_self,if_true,if_false];rfl
        ·simp only[if_neg K0,if_neg K1,if_neg K2,K2,false_and,if_pos (And.intro K3 k4),if_pos m1,if_pos k3,if_pos k4,Option.bind_some,if_pos m2,if_neg m3,K1,m3,and_false,if_false,Bool.false_eq_true];rfl
       ·simp only[if_neg K0,if_neg K1,if_neg K2,K2,false_and,if_pos (And.intro K3 k4),if_pos m1,if_pos k3,Option.bind_some,if_neg m2,K1,m2,and_false,if_false,Bool.false_eq_true];rfl
      ·simp only[if_neg K0,if_neg K1,if_neg K2,K2,false_and,k4,and_false,K1,if_false];rfl
     ·simp only[if_neg K0,if_neg K1,if_neg K2,if_neg K3,K1,K2,K3,false_and,if_false];rfl
  ·simp[K0,m1]
 ·rw[if_neg h1]
  simp only[F.R05_width_j4,F.R05_width_j3,F.R05_width_j2,F.R05_width_j1,A.ba,decide_eq_true_eq]
  unfold widN
  have w0:(c0.toNat:Int)<128↔c0.toNat<128:=⟨fun h=>by omega,fun h=>by omega⟩
  by_cases h2:c0.toNat<128
  ·rw[if_pos (w0.2 h2),if_pos h2];rfl
  ·have a1: ¬((194≤c0.toNat∧c0.toNat≤223)∧2≤s.size-p∧128≤c1.toNat∧c1.toNat≤191):=fun h=>by omega
   have a2: ¬((224≤c0.toNat∧c0.toNat≤239)∧3≤s.size-p∧(128≤c1.toNat∧c1.toNat≤191)∧(128≤c2.toNat∧c2.toNat≤191)∧¬(c0.toNat=224∧c1.toNat<160)∧¬(c0.toNat=237∧159<c1.toNat)):=fun h=>by omega
   have a3: ¬((240≤c0.toNat∧c0.toNat≤244)∧4≤s.size-p∧(128≤c1.toNat∧c1.toNat≤191)∧(128≤c2.toNat∧c2.toNat≤191)∧(128≤c3.toNat∧c3.toNat≤191)∧¬(c0.toNat=240∧c1.toNat<144)∧¬(c0.toNat=244∧143<c1.toNat)):=fun h=>by omega
   rw[if_neg (fun h=>h2 (w0.1 h)),if_neg h2,if_neg a1,if_neg a2,if_neg a3]
   simp only[Bool.false_eq_true,if_false]
   rw[if_neg (fun h=>by omega),if_neg (fun h=>by omega),if_neg (fun h=>by omega)];rfl
def vld (s:ByteArray):Nat→Nat→Bool
 |0,_=>true
 |n+1,p=>if p<s.size then(if wid s p=0 then false else vld s n (p+wid s p))else true
def cnt (s:ByteArray):Nat→Nat→Nat
 |0,_=>0
 |n+1,p=>if p<s.size then 1+cnt s n (p+(Utf8.decode s p).2)else 0
theorem wid_4 (s:ByteArray)(p:Nat):wid s p≤4:=by
 rw[wid_N];unfold widN;repeat' split
 all_goals omega
theorem wid_dec {s:ByteArray}{p:Nat}(h:wid s p≠0):(Utf8.decode s p).2=wid s p:=by
 unfold wid at h ⊢;split at h
 ·exact absurd rfl h
 ·rename_i h2;rw[if_neg h2]
theorem Valid_eq (s:ByteArray)(hs:s.size≤5000):F.R05_Valid s=some (vld s s.size 0):=by
 have loop: ∀(n p f:Nat),s.size-p≤n→n<f→p≤5010→F.R05_Valid_l1 s f (p:Int)=some (vld s n p):=by
  intro n
  induction n with
  |zero=>
   intro p f hp hf _
   obtain⟨f,rfl⟩: ∃f',f=f'+1:=⟨f-1,by omega⟩
   rw[F.R05_Valid_l1,if_neg (by omega)];rfl
  |succ n ih=>
   intro p f hp hf hp5
   obtain⟨f,rfl⟩: ∃f',f=f'+1:=⟨f-1,by omega⟩
   rw[F.R05_Valid_l1,vld]
   by_cases h:p<s.size
   ·rw[if_pos (by omega),if_pos h,width_eq s p h hs,Option.bind_some]
    have:=wid_le h
    by_cases hw:wid s p=0
    ·rw[if_pos (by omega),if_pos hw]
    ·rw[if_neg (by omega),if_neg hw,A.gd1 ⟨by omega,by omega⟩]
     have e:(p:Int)+(wid s p:Int)=((p+wid s p:Nat):Int):=by omega
     rw[e];exact ih _ f (by omega) (by omega) (by omega)
   ·rw[if_neg (by omega),if_neg h]
 exact loop s.size 0 A.FU (by omega) (by have:=FU_big;omega) (by omega)
theorem validD_eq (s:ByteArray):Lib.validD s.data.toList=vld s s.size 0:=by
 have loop: ∀(n p:Nat),Lib.validGoD n (s.data.toList.drop p)=vld s n p:=by
  intro n
  induction n with
  |zero=>intro p;rfl
  |succ n ih=>
   intro p
   rw[Lib.validGoD,vld]
   by_cases h:p<s.size
   ·have hne:s.data.toList.drop p≠[]:=by rw[drop_bat h];simp
    rw[if_neg hne,if_pos h,Lib.decodeL_drop,List.drop_drop]
    by_cases hw:Utf8.decode s p=(65533,1)
    ·rw[if_pos (by rw[hw];exact⟨rfl,rfl⟩),if_pos (by unfold wid;rw[if_pos hw])]
    ·have e:wid s p=(Utf8.decode s p).2:=by unfold wid;rw[if_neg hw]
     rw[if_neg (fun h2=>hw (Prod.ext h2.1 h2.2)),if_neg (by rw[e];have:=width_pos s p;omega),ih,e]
   ·rw[if_pos (drop_end h),if_neg h]
 have:=loop s.size 0
 rw[List.drop_zero]at this
 exact this
theorem Runes_eq (s:ByteArray)(hs:s.size≤5000)(hv:vld s s.size 0=true): ∃l,F.R05_Runes s=some l∧l.length=cnt s s.size 0:=by
 have loop: ∀(n p f:Nat) (xs:List (Int×Int)),s.size-p≤n→n<f→xs.length≤p→p≤5010→vld s n p=true→∃l,F.R05_Runes_l2 s f xs (p:Int)=some l∧l.length=xs.length+cnt s n p:=by
  intro n
  induction n with
  |zero=>
   intro p f xs hp hf _ _ _
   obtain⟨f,rfl⟩: ∃f',f=f'+1:=⟨f-1,by omega⟩
   rw[F.R05_Runes_l2,if_neg (by omega)];exact⟨_,rfl,rfl⟩
  |succ n ih=>
   intro p f xs hp hf hxs hp5 hv
   obtain⟨f,rfl⟩: ∃f',f=f'+1:=⟨f-1,by omega⟩
   rw[F.R05_Runes_l2]
   rw[vld]at hv
   rw[cnt]
   by_cases h:p<s.size
   ·rw[if_pos h]at hv
    have hl:=wid_le h
    have h4:=wid_4 s p
    by_cases hw:wid s p=0
    ·rw[if_pos hw]at hv;cases hv
    rw[if_neg hw]at hv
    have hj: ∀(w c:Int),w=(wid s p:Int)→∃l,F.R05_Runes_j1 (F.R05_Runes_l2 s f) xs (p:Int) w c=some l∧l.length=xs.length+(1+cnt s n (p+(Utf8.decode s p).2)):=fun w c hwc=>by
     subst hwc
     rw[F.R05_Runes_j1,A.gd1 (by simp only[List.length_cons,List.length_nil];omega),A.gd1 ⟨by omega,by omega⟩,wid_dec hw]
     have e:(p:Int)+(wid s p:Int)=((p+wid s p:Nat):Int):=by omega
     rw[e]
     obtain⟨l,h1,h2⟩:=ih (p+wid s p) f (xs++[((p:Int),c)]) (by omega) (by omega) (by simp only[List.length_append,List.length_cons,List.length_nil];omega) (by omega) hv
     exact⟨l,h1,by rw[h2,List.length_append];simp only[List.length_cons,List.length_nil];omega⟩
    have i0:=ixb (s:=s) h
    have i1:A.ix s.data.toList ((p:Int)+1)=if p+1<s.size then some (Z.bat s (p+1))else none:=ixk s p 1
    have i2:A.ix s.data.toList ((p:Int)+2)=if p+2<s.size then some (Z.bat s (p+2))else none:=ixk s p 2
    have i3:A.ix s.data.toList ((p:Int)+3)=if p+3<s.size then some (Z.bat s (p+3))else none:=ixk s p 3
    have r1:Z.R64 ((p:Int)+1):=⟨by omega,by omega⟩
    have r2:Z.R64 ((p:Int)+2):=⟨by omega,by omega⟩
    have r3:Z.R64 ((p:Int)+3):=⟨by omega,by omega⟩
    rw[if_pos (by omega),if_pos h,width_eq s p h hs,Option.bind_some]
    by_cases w1:wid s p=1
    ·rw[if_pos (by omega),i0,Option.bind_some];exact hj _ _ rfl
    rw[if_neg (by omega)]
    by_cases w2:wid s p=2
    ·rw[if_pos (by omega),A.gd1 r1,i0,Option.bind_some,A.gd1 (by decide),i1,if_pos (by omega),Option.bind_some,A.gd1 (by decide)];exact hj _ _ rfl
    rw[if_neg (by omega)]
    by_cases w3:wid s p=3
    ·rw[if_pos (by omega),A.gd1 ⟨r1,r2⟩,i0,Option.bind_some,A.gd1 (by decide),i1,if_pos (by omega),Option.bind_some,A.gd1 (by decide),i2,if_pos (by omega),Option.bind_some,A.gd1 (by decide)];exact hj _ _ rfl
    rw[if_neg (by omega),if_pos (by omega),A.gd1 ⟨r1,r2,r3⟩,i0,Option.bind_some,A.gd1 (by decide),i1,if_pos (by omega),Option.bind_some,A.gd1 (by decide),i2,if_pos (by omega),Option.bind_some,A.gd1 (by decide),i3,if_pos (by omega),Option.bind_some,A.gd1 (by decide)];exact hj _ _ rfl
   ·rw[if_neg (by omega),if_neg h];exact⟨_,rfl,rfl⟩
 obtain⟨l,h1,h2⟩:=loop s.size 0 A.FU [] (by omega) (by have:=FU_big;omega) (by simp) (by omega) hv
 exact⟨l,h1,by simpa using h2⟩
theorem single_eq (s:ByteArray)(hs:s.size≤9223372036854775807):F.fn_single s=some (if cnt s s.size 0=1 then vld s s.size 0 else false):=by
 have loop: ∀(n p f:Nat) (y:Int),s.size-p≤n→n<f→0≤y→y+n≤9223372036854775807→F.fn_single_l2 s f p y=some (if y+(cnt s n p:Int)=1 then vld s s.size 0 else false):=by
  intro n
  induction n with
  |zero=>
   intro p f y hp hf _ _
   obtain⟨f,rfl⟩: ∃f',f=f'+1:=⟨f-1,by omega⟩
   rw[F.fn_single_l2,if_neg (by omega),F.utf8_ValidString,validD_eq,Option.bind_some]
   simp only[F.fn_single_j1]
   have e:y+(cnt s 0 p:Int)=y:=by rw[cnt];omega
   by_cases h:y=1
   ·rw[if_pos h,if_pos (by omega)]
   ·rw[if_neg h,if_neg (by omega)]
  |succ n ih=>
   intro p f y hp hf h0 h2
   obtain⟨f,rfl⟩: ∃f',f=f'+1:=⟨f-1,by omega⟩
   rw[F.fn_single_l2,cnt]
   by_cases h:p<s.size
   ·rw[if_pos h,if_pos h,A.gd1 ⟨by omega,by omega⟩]
    have hw:=width_pos s p
    rw[ih _ f (y+1) (by omega) (by omega) (by omega) (by omega)]
    congr 2
    exact propext ⟨fun h=>by omega,fun h=>by omega⟩
   ·rw[if_neg h,if_neg h,F.utf8_ValidString,validD_eq,Option.bind_some]
    simp only[F.fn_single_j1]
    by_cases h:y=1
    ·rw[if_pos h,if_pos (by omega)]
    ·rw[if_neg h,if_neg (by omega)]
 unfold F.fn_single
 rw[loop s.size 0 A.FU 0 (by omega) (by have:=FU_big;omega) (by omega) (by omega)]
 congr 2
 exact propext ⟨fun h=>by omega,fun h=>by omega⟩
theorem one_small {s:ByteArray}(h1:cnt s s.size 0=1)(h2:vld s s.size 0=true):s.size≤4:=by
 generalize hn:s.size=n at h1 h2
 cases n with
 |zero=>omega
 |succ n=>
  rw[cnt,if_pos (by omega)]at h1
  rw[vld,if_pos (by omega)]at h2
  by_cases hw:wid s 0=0
  ·rw[if_pos hw]at h2;cases h2
  rw[wid_dec hw]at h1
  have:=wid_4 s 0
  cases n with
  |zero=>omega
  |succ n=>
   rw[cnt]at h1
   by_cases h3:0+wid s 0<s.size
   ·rw[if_pos h3]at h1;omega
   ·omega
end Go.Proofs.YtbljnlkhebiniaaGreatDoor
end
section
set_option linter.unusedVariables false
set_option linter.unusedSimpArgs false
namespace Go.Proofs.YtbljnlkhebiniaaGreatDoor
open Go.RowKit Go.Graph
def textP (f:Fun):Bool:=if f.1=5 then decide (f.2.2≠ByteArray.mk #[])&&decide ((f.2.2.size:Int)≤16)&&vld f.2.2 f.2.2.size 0 else if f.1=12∨f.1=22 then decide (cnt f.2.2 f.2.2.size 0=1)&&vld f.2.2 f.2.2.size 0 else decide (f.2.2=ByteArray.mk #[])
theorem number_eq (f:Fun):F.fn_number f=some (numberF f):=by
 unfold F.fn_number F.fn_number_j2 F.fn_number_j1 numberF
 simp only[A.ba,decide_eq_true_eq]
 by_cases h3:f.1=3
 ·simp[h3]
 ·by_cases h13:f.1=13
  ·simp[h13]
  ·by_cases h6:f.1=6
   ·simp[h6]
   ·by_cases h11:f.1=11<;>simp[h3,h13,h6,h11]
theorem R06_number_eq (f:Fun):F.R06_number f=some (numberF f):=number_eq f
theorem text_eq (f:Fun)(hs:f.2.2.size≤9223372036854775807):F.fn_text f=some (textP f):=by
 unfold F.fn_text textP
 simp only[F.fn_text_j1,F.fn_text_j2,A.ba,single_eq _ hs,F.utf8_ValidString,validD_eq,Option.bind_some,decide_eq_true_eq]
 by_cases h5:f.1=5
 ·simp only[h5,if_true]
  by_cases h1:f.2.2=ByteArray.mk #[]<;>by_cases h2:(f.2.2.size:Int)≤16<;>simp[h1,h2]
 ·by_cases h12:f.1=12
  ·simp[h12]
  ·by_cases h22:f.1=22<;>simp[h5,h12,h22]
theorem one_le {s:ByteArray}:(1:Int)≤(s.size:Int)↔s≠ByteArray.mk #[]:=by
 constructor
 ·intro h e;subst e;exact absurd h (by decide)
 ·intro h;have:=size_pos h;omega
theorem R06_text_eq (f:Fun)(hs:f.2.2.size≤5000):F.R06_text f=some (textP f):=by
 have hj: ∀y,F.R06_text_j3 f y=some (if y=true then decide (cnt f.2.2 f.2.2.size 0=1)&&vld f.2.2 f.2.2.size 0 else decide (f.2.2=ByteArray.mk #[])):=by
  intro y
  unfold F.R06_text_j3
  simp only[F.R06_text_j2,Valid_eq _ hs,Option.bind_some]
  cases y with
  |false=>simp
  |true=>
   simp only[if_true]
   by_cases h4:(f.2.2.size:Int)≤4
   ·rw[if_pos h4]
    cases hv:vld f.2.2 f.2.2.size 0 with
    |true=>
     obtain⟨l,h1,h2⟩:=Runes_eq f.2.2 hs hv
     rw[if_pos rfl,h1,Option.bind_some,Bool.and_true]
     congr 2
     rw[h2];exact propext ⟨fun h=>by omega,fun h=>by omega⟩
    |false=>simp
   ·rw[if_neg h4]
    congr 1
    cases hv:vld f.2.2 f.2.2.size 0 with
    |false=>simp
    |true=>
     by_cases h1:cnt f.2.2 f.2.2.size 0=1
     ·have:=one_small h1 hv;omega
     ·simp[h1]
 unfold F.R06_text textP
 simp only[F.R06_text_j1,hj,A.ba,Valid_eq _ hs,Option.bind_some,decide_eq_true_eq,one_le]
 by_cases h5:f.1=5
 ·simp only[h5,if_true]
  by_cases h1:f.2.2=ByteArray.mk #[]<;>by_cases h2:(f.2.2.size:Int)≤16<;>simp[h1,h2]
 ·by_cases h12:f.1=12
  ·simp[h12]
  ·by_cases h22:f.1=22<;>simp[h5,h12,h22]
def anyF (f:Fun)(l:List Int):Int:=if l.any (fun y=>decide (y=f.1)&&(numberF f&&textP f))=true then 0 else 60
def kinds (k:Int):List Int:=if k=2 then [1,2,3,4,5,6,7,8]else if k=3 then [11,12,13]else if k=4 then [21,22]else if k=8 then [31,32,33,34]else if k=11 then [41,42]else []
def chk (k:Int)(f:Fun):Int:=if kinds k=[]then(if f=(0,0,ByteArray.mk #[])then 0 else 60)else anyF f (kinds k)
theorem chk_l (f:Fun)(hs:f.2.2.size≤9223372036854775807): ∀l,F.fn_Check_l2 f l=some (anyF f l)
 | []=>rfl
 |y::l=>by
  have ih:=chk_l f hs l
  unfold F.fn_Check_l2
  simp only[F.fn_Check_j1,number_eq,text_eq _ hs,Option.bind_some,ih,anyF,List.any_cons]
  by_cases h:y=f.1
  ·subst h
   cases hn:numberF f<;>cases ht:textP f<;>simp
  ·simp[h]
theorem fn_Check_eq (k:Int)(f:Fun)(hs:f.2.2.size≤9223372036854775807):F.fn_Check k f=some (chk k f):=by
 have u2:F.fn_Uses_1_it 1 8=some [1,2,3,4,5,6,7,8]:=by kernel_rfl
 have u3:F.fn_Uses_1_it 11 13=some [11,12,13]:=by kernel_rfl
 have u4:F.fn_Uses_1_it 21 22=some [21,22]:=by kernel_rfl
 have u8:F.fn_Uses_1_it 31 34=some [31,32,33,34]:=by kernel_rfl
 have u11:F.fn_Uses_1_it 41 42=some [41,42]:=by kernel_rfl
 unfold F.fn_Check F.fn_Uses F.fn_uses chk kinds
 by_cases h2:k=2
 ·simp[h2,u2,chk_l f hs]
 ·by_cases h3:k=3
  ·simp[h3,u3,chk_l f hs]
  ·by_cases h4:k=4
   ·simp[h4,u4,chk_l f hs]
   ·by_cases h8:k=8
    ·simp[h8,u8,chk_l f hs]
    ·by_cases h11:k=11
     ·simp[h11,u11,chk_l f hs]
     ·simp only[h2,h3,h4,h8,h11,if_false,Option.bind_some]
      rw[if_pos (by decide),if_pos trivial]
      by_cases hz:f=(0,0,ByteArray.mk #[])
      ·rw[if_neg (fun h=>h hz),if_pos hz]
      ·rw[if_pos hz,if_neg hz]
theorem R06_l (f:Fun)(hs:f.2.2.size≤5000)(l:List Int)(hl:l.length≤100):F.R06_Check_l2 f l A.FU 0=some (anyF f l):=
 A.lp0 l (fun n y=>F.R06_Check_l2 f l n y) (fun _ t=>some (anyF f t))
  (fun n=>by rw[F.R06_Check_l2,if_neg (by omega)];rfl)
  (fun n k x hx hk ih=>by
   rw[F.R06_Check_l2,if_pos (by omega),A.ixn hx,Option.bind_some]
   simp only[F.R06_Check_j1,R06_number_eq,R06_text_eq _ hs,Option.bind_some,ih,A.gd1 (A.r64n (n:=k) (by omega)),anyF,List.any_cons]
   by_cases h:x=f.1
   ·subst h
    cases hn:numberF f<;>cases ht:textP f<;>simp
   ·simp[h])
  (by have:=FU_big;omega)
theorem R06_Check_eq (k:Int)(f:Fun)(hs:f.2.2.size≤5000):F.R06_Check k f=some (chk k f):=by
 have u2:F.R06_Uses 2=some [1,2,3,4,5,6,7,8]:=by kernel_rfl
 have u3:F.R06_Uses 3=some [11,12,13]:=by kernel_rfl
 have u4:F.R06_Uses 4=some [21,22]:=by kernel_rfl
 have u8:F.R06_Uses 8=some [31,32,33,34]:=by kernel_rfl
 have u11:F.R06_Uses 11=some [41,42]:=by kernel_rfl
 have u0:F.R06_Uses_j2 1 0=some []:=by kernel_rfl
 unfold F.R06_Check chk kinds
 by_cases h2:k=2
 ·subst h2;rw[u2,Option.bind_some,if_neg (by simp),F.R06_Check_j3,if_neg (by simp),R06_l f hs _ (by simp)];simp
 ·by_cases h3:k=3
  ·subst h3;rw[u3,Option.bind_some,if_neg (by simp),F.R06_Check_j3,if_neg (by simp),R06_l f hs _ (by simp)];simp
  ·by_cases h4:k=4
   ·subst h4;rw[u4,Option.bind_some,if_neg (by simp),F.R06_Check_j3,if_neg (by simp),R06_l f hs _ (by simp)];simp
   ·by_cases h8:k=8
    ·subst h8;rw[u8,Option.bind_some,if_neg (by simp),F.R06_Check_j3,if_neg (by simp),R06_l f hs _ (by simp)];simp
    ·by_cases h11:k=11
     ·subst h11;rw[u11,Option.bind_some,if_neg (by simp),F.R06_Check_j3,if_neg (by simp),R06_l f hs _ (by simp)];simp
     ·have u:F.R06_Uses k=some []:=by unfold F.R06_Uses;simp only[h2,h3,h4,h8,h11,if_false,u0]
      rw[u,Option.bind_some,if_pos (by simp),F.R06_Check_j3,R06_l f hs _ (by simp)]
      simp only[h2,h3,h4,h8,h11,if_false,if_true,decide_eq_true_eq,anyF,List.any_nil,Bool.false_eq_true]
      by_cases hz:f=(0,0,ByteArray.mk #[])
      ·rw[if_pos hz,if_pos hz]
      ·rw[if_neg hz,if_neg hz]
end Go.Proofs.YtbljnlkhebiniaaGreatDoor
end
section
set_option linter.unusedVariables false
set_option linter.unusedSimpArgs false
namespace Go.Utf
open Go.Lib
abbrev Rn:=List UInt8×Int
theorem enc_eq (r:Int):(Utf8.encode r).data.toList=encodeRune r:=by
 unfold Utf8.encode encodeRune
 by_cases h1:0≤r∧r≤127
 ·rw[encodeRuneZ_one h1.1 h1.2]
  have hv:Utf8.valid r=true:=by simp[Utf8.valid];omega
  rw[if_pos hv]
  have hc:r.toNat<128:=by omega
  simp only[hc,if_true]
  simp
 by_cases h2:128≤r∧r≤2047
 ·rw[encodeRuneZ_two h2.1 h2.2]
  have hv:Utf8.valid r=true:=by simp[Utf8.valid];omega
  rw[if_pos hv]
  obtain⟨n,rfl⟩: ∃n:Nat,r=n:=⟨r.toNat,by omega⟩
  have hc: ¬(n<128):=by omega
  have hc2:n<2048:=by omega
  simp only[Int.toNat_natCast,hc,if_false,hc2,if_true,List.map_cons,List.map_nil]
  have e1:(192+(n:Int) / 64).toNat=192+n / 64:=by omega
  have e2:(128+(n:Int)%64).toNat=128+n%64:=by omega
  rw[e1,e2]
 by_cases h3:(2048≤r∧r<55296)∨(57343<r∧r≤65535)
 ·rw[encodeRuneZ_three h3]
  have hv:Utf8.valid r=true:=by simp[Utf8.valid];omega
  rw[if_pos hv]
  obtain⟨n,rfl⟩: ∃n:Nat,r=n:=⟨r.toNat,by omega⟩
  have hc: ¬(n<128):=by omega
  have hc2: ¬n<2048:=by omega
  have hc3:n<65536:=by omega
  simp only[Int.toNat_natCast,hc,if_false,hc2,hc3,if_true,List.map_cons,List.map_nil]
  have e1:(224+(n:Int) / 4096).toNat=224+n / 4096:=by omega
  have e2:(128+(n:Int) / 64%64).toNat=128+n / 64%64:=by omega
  have e3:(128+(n:Int)%64).toNat=128+n%64:=by omega
  rw[e1,e2,e3]
 by_cases h4:65536≤r∧r≤1114111
 ·rw[encodeRuneZ_four h4.1 h4.2]
  have hv:Utf8.valid r=true:=by simp[Utf8.valid];omega
  rw[if_pos hv]
  obtain⟨n,rfl⟩: ∃n:Nat,r=n:=⟨r.toNat,by omega⟩
  have hc: ¬(n<128):=by omega
  have hc2: ¬n<2048:=by omega
  have hc3: ¬n<65536:=by omega
  simp only[Int.toNat_natCast,hc,if_false,hc2,hc3,List.map_cons,List.map_nil]
  have e0:(240+(n:Int) / 262144).toNat=240+n / 262144:=by omega
  have e1:(128+(n:Int) / 4096%64).toNat=128+n / 4096%64:=by omega
  have e2:(128+(n:Int) / 64%64).toNat=128+n / 64%64:=by omega
  have e3:(128+(n:Int)%64).toNat=128+n%64:=by omega
  rw[e0,e1,e2,e3]
 ·rw[encodeRuneZ_bad (by omega)]
  have hv: ¬Utf8.valid r=true:=by simp[Utf8.valid];omega
  rw[if_neg hv]
  rfl
theorem decN_ext {n n' b0 b1 b2 b3 c1 c2 c3:Nat}{r k:Nat}(h:decodeN n b0 b1 b2 b3=(r,k))(hv: ¬(r=65533∧k=1))(hn:k≤n')(h1:1<k→c1=b1)(h2:2<k→c2=b2)(h3:3<k→c3=b3):decodeN n' b0 c1 c2 c3=(r,k):=by
 rcases decodeN_shape n b0 b1 b2 b3 with⟨q,e⟩|⟨q1,q2,q3,qv,e⟩|⟨q1,q2,q3,q4,qv,qs,e⟩|⟨q1,q2,q3,q4,q5,qv,qw,e⟩|e
 ·rw[e]at h;injection h with e1 e2;subst e1;subst e2
  unfold decodeN;rw[if_pos q]
 ·rw[e]at h;injection h with e1 e2;subst e1;subst e2
  obtain rfl:=h1 (by omega)
  unfold decodeN
  rw[if_neg (by omega),if_pos ⟨q1,by omega,q3⟩,if_pos qv]
 ·rw[e]at h;injection h with e1 e2;subst e1;subst e2
  obtain rfl:=h1 (by omega)
  obtain rfl:=h2 (by omega)
  unfold decodeN
  rw[if_neg (by omega),if_neg (by omega),if_pos ⟨q1,⟨by omega,q3⟩,by omega,q4⟩,if_pos ⟨qv,by omega⟩]
 ·rw[e]at h;injection h with e1 e2;subst e1;subst e2
  obtain rfl:=h1 (by omega)
  obtain rfl:=h2 (by omega)
  obtain rfl:=h3 (by omega)
  unfold decodeN
  rw[if_neg (by omega),if_neg (by omega),if_neg (by omega),if_pos ⟨q1,⟨by omega,q3⟩,⟨by omega,q4⟩,by omega,q5⟩,if_pos ⟨qv,.inr ⟨by omega,qw⟩⟩]
 ·rw[e]at h;injection h with e1 e2;subst e1;subst e2
  exact absurd ⟨rfl,rfl⟩ hv
structure Ck (c:Rn):Prop where
 ne:c.1≠[]
 four:c.1.length≤4
 enc:(Utf8.encode c.2).data.toList=c.1
 dec: ∀rest,decodeL (c.1++rest)=(c.2.toNat,c.1.length)
 nn:0≤c.2
 top:c.2≤1114111
 ok: ¬(c.2.toNat=65533∧c.1.length=1)
theorem decodeL_four (l:List UInt8):(decodeL l).2≤4:=by
 rw[decodeL_N]
 rcases decodeN_shape l.length (l.getD 0 0).toNat (l.getD 1 0).toNat (l.getD 2 0).toNat (l.getD 3 0).toNat with⟨c,e⟩|⟨c1,c2,c3,cv,e⟩|⟨c1,c2,c3,c4,cv,cs,e⟩|⟨c1,c2,c3,c4,c5,cv,cw,e⟩|e
 all_goals (rw[e];simp)
theorem Ck.of {l:List UInt8}(hne:l≠[])(hv: ¬((decodeL l).1=65533∧(decodeL l).2=1)):Ck (l.take (decodeL l).2,((decodeL l).1:Int)):=by
 have hw:=decodeL_width l
 have hle:=decodeL_le l hne
 have hlen:(l.take (decodeL l).2).length=(decodeL l).2:=by rw[List.length_take];omega
 refine⟨fun h=>?_,by show(l.take _).length≤4;rw[hlen];exact decodeL_four l,?_,fun rest=>?_,by simp,?_,?_⟩
 ·have:=congrArg List.length h
  simp only[List.length_nil]at this
  rw[hlen]at this;omega
 ·exact(enc_eq _).trans (encode_decode l hne hv)
 ·show decodeL (l.take (decodeL l).2++rest)=((((decodeL l).1:Nat):Int).toNat,(l.take (decodeL l).2).length)
  rw[hlen,Int.toNat_natCast]
  have e:decodeL l=decodeN l.length (l.getD 0 0).toNat (l.getD 1 0).toNat (l.getD 2 0).toNat (l.getD 3 0).toNat:=decodeL_N l
  obtain⟨r,k,hrk⟩: ∃r k,decodeL l=(r,k):=⟨_,_,rfl⟩
  rw[hrk]at hv hw hle hlen ⊢
  rw[hrk]at e
  simp only at hv hw hle hlen ⊢
  have hg: ∀i,i<k→(l.take k++rest).getD i 0=l.getD i 0:=fun i hi=>by
   simp only[List.getD]
   rw[List.getElem?_append_left (by rw[hlen];exact hi),List.getElem?_take_of_lt hi]
  rw[decodeL_N,hg 0 (by omega)]
  refine decN_ext e.symm hv (by rw[List.length_append,hlen];omega) (fun h=>by rw[hg 1 h]) (fun h=>by rw[hg 2 h]) (fun h=>by rw[hg 3 h])
 ·have:=decodeL_rune l
  show((decodeL l).1:Int)≤1114111
  omega
 ·show ¬((((decodeL l).1:Nat):Int).toNat=65533∧(l.take (decodeL l).2).length=1)
  rw[hlen,Int.toNat_natCast];exact hv
theorem Ck.len {c:Rn}(h:Ck c):1≤c.1.length:=by
 cases hc:c.1 with
 |nil=>exact absurd hc h.ne
 |cons a b=>simp
def ckF:Nat→List UInt8→List Rn
 |0,_=>[]
 |n+1,l=>if l=[]then []else(l.take (decodeL l).2,((decodeL l).1:Int))::ckF n (l.drop (decodeL l).2)
def cks (l:List UInt8):List Rn:=ckF l.length l
abbrev flat (cs:List Rn):List UInt8:=cs.flatMap (·.1)
theorem flat_cons (c:Rn)(cs:List Rn):flat (c::cs)=c.1++flat cs:=rfl
theorem flat_ckF: ∀(n:Nat) (l:List UInt8),l.length≤n→flat (ckF n l)=l
 |0,l,h=>by rw[List.eq_nil_of_length_eq_zero (Nat.le_zero.1 h)];rfl
 |n+1,l,h=>by
  unfold ckF
  by_cases hl:l=[]
  ·rw[if_pos hl,hl];rfl
  ·rw[if_neg hl,flat_cons,flat_ckF n _ (by have:=decodeL_width l;rw[List.length_drop];have:=List.length_pos_iff.2 hl;omega)]
   exact List.take_append_drop _ _
theorem valid_ckF: ∀(n:Nat) (l:List UInt8),l.length≤n→validGoD n l=true→∀c,c∈ckF n l→Ck c
 |0,l,h,_,c,hc=>by cases hc
 |n+1,l,h,hv,c,hc=>by
  unfold ckF at hc
  unfold validGoD at hv
  by_cases hl:l=[]
  ·rw[if_pos hl]at hc;cases hc
  ·rw[if_neg hl]at hc hv
   split at hv
   ·cases hv
   ·rename_i hb
    rcases List.mem_cons.1 hc with rfl|hc
    ·exact Ck.of hl hb
    ·exact valid_ckF n _ (by have:=decodeL_width l;rw[List.length_drop];have:=List.length_pos_iff.2 hl;omega) hv c hc
theorem ckF_flat: ∀(cs:List Rn) (n:Nat),(∀c,c∈cs→Ck c)→(flat cs).length≤n→ckF n (flat cs)=cs∧validGoD n (flat cs)=true
 | [],n,_,_=>by cases n with
  |zero=>exact⟨rfl,rfl⟩
  |succ n=>exact⟨by unfold ckF;rw[if_pos (show flat ([]:List Rn)=[]from rfl)],by unfold validGoD;rw[if_pos (show flat ([]:List Rn)=[]from rfl)]⟩
 |c::cs,n,h,hn=>by
  have hc:=h c (List.mem_cons_self ..)
  have h1:=hc.len
  rw[flat_cons]at hn ⊢
  rw[List.length_append]at hn
  obtain⟨n,rfl⟩: ∃m,n=m+1:=⟨n-1,by omega⟩
  have hne:c.1++flat cs≠[]:=fun e=>hc.ne (List.append_eq_nil_iff.1 e).1
  obtain⟨i1,i2⟩:=ckF_flat cs n (fun x hx=>h x (List.mem_cons_of_mem _ hx)) (by omega)
  unfold ckF validGoD
  rw[if_neg hne,if_neg hne,hc.dec]
  simp only[List.take_left,List.drop_left]
  rw[if_neg hc.ok,i1,Int.toNat_of_nonneg hc.nn]
  exact⟨rfl,i2⟩
theorem cks_flat {cs:List Rn}(h: ∀c,c∈cs→Ck c):cks (flat cs)=cs:=(ckF_flat cs _ h (Nat.le_refl _)).1
theorem valid_flat {cs:List Rn}(h: ∀c,c∈cs→Ck c):validD (flat cs)=true:=(ckF_flat cs _ h (Nat.le_refl _)).2
theorem valid_cks {l:List UInt8}(h:validD l=true):flat (cks l)=l∧∀c,c∈cks l→Ck c:=⟨flat_ckF _ _ (Nat.le_refl _),valid_ckF _ _ (Nat.le_refl _) h⟩
theorem foldl_toList (ns:List Int): ∀s:ByteArray,(ns.foldl (fun r n=>r++Utf8.encode n) s).data.toList=s.data.toList++ns.flatMap fun n=>(Utf8.encode n).data.toList:=by
 induction ns with
 |nil=>intro s;simp
 |cons n ns ih=>intro s;rw[List.foldl_cons,ih];simp[ByteArray.data_append]
theorem runes_flat {cs:List Rn}(h: ∀c,c∈cs→Ck c):(runesBytes (cs.map (·.2))).data.toList=flat cs:=by
 unfold runesBytes
 rw[foldl_toList]
 have:ByteArray.empty.data.toList=[]:=rfl
 rw[this,List.nil_append,List.flatMap_map]
 induction cs with
 |nil=>rfl
 |cons c cs ih=>
  rw[List.flatMap_cons,flat_cons,ih fun x hx=>h x (List.mem_cons_of_mem _ hx),(h c (List.mem_cons_self ..)).enc]
theorem ba_eq {s t:ByteArray}(h:s.data.toList=t.data.toList):s=t:=by
 cases s;cases t;congr;exact Array.toList_inj.1 h
def ats:Int→List Rn→List (Int×Int)
 |_,[]=>[]
 |p,c::cs=>(p,c.2)::ats (p+c.1.length) cs
theorem ats_len: ∀(p:Int) (cs:List Rn),(ats p cs).length=cs.length
 |_,[]=>rfl
 |p,c::cs=>by rw[ats,List.length_cons,ats_len _ cs,List.length_cons]
theorem ats_get: ∀(cs:List Rn) (p:Int) (k:Nat),(ats p cs)[k]?=(cs[k]?).map fun c=>(p+((flat (cs.take k)).length:Int),c.2)
 | [],p,k=>by simp[ats]
 |c::cs,p,0=>by simp[ats]
 |c::cs,p,k+1=>by
  rw[ats,List.getElem?_cons_succ,ats_get cs _ k,List.getElem?_cons_succ,List.take_succ_cons,flat_cons,List.length_append]
  congr;funext c';congr 1;omega
def bd (n:Nat):Nat→List Rn→Nat
 |p,[]=>p
 |p,c::cs=>if p+c.1.length≤n then bd n (p+c.1.length) cs else p
theorem flat_take (cs:List Rn)(k:Nat):(flat cs).take (flat (cs.take k)).length=flat (cs.take k):=by
 have:flat cs=flat (cs.take k)++flat (cs.drop k):=by rw[←List.flatMap_append,List.take_append_drop]
 rw[this,List.take_left]
end Go.Utf
end
