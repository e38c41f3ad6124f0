/- Functions on data, and that the code computes them. * Plain law of graphs: what the reference and the program say of graphs, as functions on data (no program in sight). * Plain: rounds by a count of steps are recursion over a list. * Plain: a text's bytes by the model's decoder. * Plain: what a text's bytes are, by the reference and by the model's decoder. * Plain: functions of nodes may be; a node for itself. * Plain: a text as runes, each with its bytes. No program in sight. * Plain: a text's runes by the program and by the reference; texts cut. * Plain: texts of records, by the program and by the reference. * Plain: a row turned round; a text in capitals; parts of a text. * Plain: what a function of records makes of one, by the program and by the reference. * Plain: entries in order, by node, key and text; what they add up to. No program in sight. * Plain: records and entries in order, groups by key, what a node that holds makes of them. No program in sight. * Plain: what a node that holds makes of all of a time: by keys, one time behind the other. No program in sight. * Plain: records and entries held against one another; states, by the program and by the reference. * Plain: two times one behind the other are one time that has both bags. No program in sight. * Plain: bags, their keys, numbers in digits, by the program. -/
import Derived.Test.YtbljnlkhebiniaaGreatDoorN0
import Derived.Test.YtbljnlkhebiniaaGreatDoorN1
import Derived.Test.YtbljnlkhebiniaaGreatDoorN2
import Derived.Test.YtbljnlkhebiniaaGreatDoorN3
import Derived.Lib.TrimUEq
import Derived.Lib.MapLaws
import Derived.Lib.ValidU
import Derived.Laws.Cover4
section
set_option linter.unusedVariables false
set_option linter.unusedSimpArgs false
set_option maxRecDepth 20000
set_option maxHeartbeats 8000000
set_option synthInstance.maxSize 1000000
set_option synthInstance.maxHeartbeats 400000
namespace Go.Proofs.YtbljnlkhebiniaaGreatDoor
open Go.RowKit
def F.oper_goes (a0:D25)(a1:D28):Option (D28×Bool×Int):=if a0.2.1=12 then((F.tstamp_Enter (a1.1,a1.2.1,(a1.2.2.1,a1.2.2.2.1,a1.2.2.2.2.1,a1.2.2.2.2.2))).bind fun r4=>(some ((r4.1.1,r4.1.2.1,(r4.1.2.2.1,r4.1.2.2.2.1,r4.1.2.2.2.2.1,r4.1.2.2.2.2.2)),true,r4.2)))else(if a0.2.1=13 then((F.tstamp_Leave (a1.1,a1.2.1,(a1.2.2.1,a1.2.2.2.1,a1.2.2.2.2.1,a1.2.2.2.2.2))).bind fun r14=>(some ((r14.1.1,r14.1.2.1,(r14.1.2.2.1,r14.1.2.2.2.1,r14.1.2.2.2.2.1,r14.1.2.2.2.2.2)),true,r14.2)))else(if a0.2.1=14 then(if a1.2.1=0 then(some ((0,0,(0,0,0,0)),false,11))else(A.gd (Z.R64 (a1.2.1-1)) ((A.ix [a1.2.2.1,a1.2.2.2.1,a1.2.2.2.2.1,a1.2.2.2.2.2] (a1.2.1-1)).bind fun x25=>(if a0.2.2.2.2.2.1≤x25 then(some ((a1.1,a1.2.1,(a1.2.2.1,a1.2.2.2.1,a1.2.2.2.2.1,a1.2.2.2.2.2)),false,0))else((F.tstamp_Next (a1.1,a1.2.1,(a1.2.2.1,a1.2.2.2.1,a1.2.2.2.2.1,a1.2.2.2.2.2))).bind fun r27=>(some ((r27.1.1,r27.1.2.1,(r27.1.2.2.1,r27.1.2.2.2.1,r27.1.2.2.2.2.1,r27.1.2.2.2.2.2)),true,r27.2)))))))else(some ((a1.1,a1.2.1,(a1.2.2.1,a1.2.2.2.1,a1.2.2.2.2.1,a1.2.2.2.2.2)),true,0))))
theorem oper_goes_ok (a0:D25)(a1:D28)(A2_:Option Addr)(c3_:Nat)(h0_:IntKind.i64.has a0.1)(h1_:IntKind.i64.has a0.2.1)(h4_:IntKind.i64.has a0.2.2.2.1.1)(h5_:IntKind.i64.has a0.2.2.2.1.2.1)(h6_:a0.2.2.2.1.2.2.size≤maxLen)(h7_:a0.2.2.2.2.1.size≤maxLen)(h8_:IntKind.i64.has a0.2.2.2.2.2.1)(h9_:IntKind.i64.has a0.2.2.2.2.2.2)(h10_:IntKind.i64.has a1.1)(h11_:IntKind.i64.has a1.2.1)(h12_:IntKind.i64.has a1.2.2.1)(h13_:IntKind.i64.has a1.2.2.2.1)(h14_:IntKind.i64.has a1.2.2.2.2.1)(h15_:IntKind.i64.has a1.2.2.2.2.2)(r:D28×Bool×Int)(hF:F.oper_goes a0 a1=some r):
    A.Ct Tryz.prog 49 [.agg #[.int .i64 a0.1,.int .i64 a0.2.1,.slice A2_ ((a0.2.2.1).length) c3_,.int .i64 a0.2.2.2.1.1,.int .i64 a0.2.2.2.1.2.1,.string a0.2.2.2.1.2.2,.string a0.2.2.2.2.1,.int .i64 a0.2.2.2.2.2.1,.int .i64 a0.2.2.2.2.2.2],.agg #[.int .i64 a1.1,.int .i64 a1.2.1,.int .i64 a1.2.2.1,.int .i64 a1.2.2.2.1,.int .i64 a1.2.2.2.2.1,.int .i64 a1.2.2.2.2.2]] [(0,.sh (.slice (Z.Ty.int .i64)) [.slice A2_ (a0.2.2.1).length c3_] a0.2.2.1)] [] (fun v H'=>v=.tuple #[.agg #[.int .i64 r.1.1,.int .i64 r.1.2.1,.int .i64 r.1.2.2.1,.int .i64 r.1.2.2.2.1,.int .i64 r.1.2.2.2.2.1,.int .i64 r.1.2.2.2.2.2],.bool r.2.1,.int .i64 r.2.2]∧H'=[]∧IntKind.i64.has r.1.1∧IntKind.i64.has r.1.2.1∧IntKind.i64.has r.1.2.2.1∧IntKind.i64.has r.1.2.2.2.1∧IntKind.i64.has r.1.2.2.2.2.1∧IntKind.i64.has r.1.2.2.2.2.2∧IntKind.i64.has r.2.2):=by
 refine A.Ct.enter Tryz.func49 rfl Tryz.ntmps49 rfl fun w0 F0=>?_
 rw[F.oper_goes]at hF
 refine A.xl 1 ?_
 refine A.AL.box 1 (cs:=[.int .i64 a0.1,.int .i64 a0.2.1,.slice A2_ ((a0.2.2.1).length) c3_,.int .i64 a0.2.2.2.1.1,.int .i64 a0.2.2.2.1.2.1,.string a0.2.2.2.1.2.2,.string a0.2.2.2.2.1,.int .i64 a0.2.2.2.2.2.1,.int .i64 a0.2.2.2.2.2.2]) fun g1=>?_
 refine A.AL.box 2 (cs:=[.int .i64 a1.1,.int .i64 a1.2.1,.int .i64 a1.2.2.1,.int .i64 a1.2.2.2.1,.int .i64 a1.2.2.2.2.1,.int .i64 a1.2.2.2.2.2]) fun g2=>?_
 refine A.AL.alloc 3 (cs:=[.int .i64 0,.int .i64 0,.int .i64 0,.int .i64 0,.int .i64 0,.int .i64 0]) Tryz.zeroValue29 fun g3=>?_
 refine A.q0 [] [] [.n,.n] [] ?_
 refine A.dl 3 ?_
 refine A.q0 [1] [] [.n,.b 0 1] [(14,.int .i64 a0.2.1)] ?_
 refine A.dl 3 ?_
 refine A.q0 [] [] [.n,.n] [(15,.bool (decide (a0.2.1=12)))] ?_
 refine A.dx 1 ?_
 refine A.AX.cnd rfl hF (fun hb hF=>?_) (fun hb hF=>?_)
 ·refine A.xl 1 ?_
  refine A.q0 [2] [] [.b 0 0] [(18,.agg #[.int .i64 a1.1,.int .i64 a1.2.1,.int .i64 a1.2.2.1,.int .i64 a1.2.2.2.1,.int .i64 a1.2.2.2.2.1,.int .i64 a1.2.2.2.2.2])] ?_
  obtain⟨r4,hv5,hF⟩:=A.bd_some hF
  refine A.AL.call 4 [] (first:=[]) (cap:=[]) cf86 (tstamp_Enter_ok (a1.1,a1.2.1,(a1.2.2.1,a1.2.2.2.1,a1.2.2.2.2.1,a1.2.2.2.2.2)) h10_ h11_ h12_ h13_ h14_ h15_ r4 hv5) .nil ?_
  rintro _ _ ⟨rfl,rfl,hr6,hr7,hr8,hr9,hr10,hr11,hr12⟩
  refine⟨by kernel_rfl,?_⟩
  refine A.q0 [] [] [.n,.n,.n] [(20,.agg #[.int .i64 r4.1.1,.int .i64 r4.1.2.1,.int .i64 r4.1.2.2.1,.int .i64 r4.1.2.2.2.1,.int .i64 r4.1.2.2.2.2.1,.int .i64 r4.1.2.2.2.2.2]),(21,.int .i64 r4.2)] ?_
  refine A.AL.alloc 44 (cs:=[.int .i64 0,.int .i64 0,.int .i64 0,.int .i64 0,.int .i64 0,.int .i64 0]) Tryz.zeroValue29 fun g13=>?_
  refine A.sw 44 [] [.int .i64 r4.1.1,.int .i64 r4.1.2.1,.int .i64 r4.1.2.2.1,.int .i64 r4.1.2.2.2.1,.int .i64 r4.1.2.2.2.2.1,.int .i64 r4.1.2.2.2.2.2] ?_
  refine A.q0 [] [] [.n] [(8,.int .i64 r4.2)] ?_
  refine A.dl 2 ?_
  refine A.q0 [44] [] [.b 0 0,.n] [(22,.agg #[.int .i64 r4.1.1,.int .i64 r4.1.2.1,.int .i64 r4.1.2.2.1,.int .i64 r4.1.2.2.2.1,.int .i64 r4.1.2.2.2.2.1,.int .i64 r4.1.2.2.2.2.2]),(23,.int .i64 r4.2)] ?_
  refine A.sw 3 [] [.int .i64 r4.1.1,.int .i64 r4.1.2.1,.int .i64 r4.1.2.2.1,.int .i64 r4.1.2.2.2.1,.int .i64 r4.1.2.2.2.2.1,.int .i64 r4.1.2.2.2.2.2] ?_
  refine A.q0 [] [] [.n,.n] [(5,.bool true),(6,.int .i64 r4.2)] ?_
  refine A.dx 1 ?_
  obtain rfl:=Option.some.inj hF
  exact A.AX.ret [] (.tuple #[.agg #[.int .i64 r4.1.1,.int .i64 r4.1.2.1,.int .i64 r4.1.2.2.1,.int .i64 r4.1.2.2.2.1,.int .i64 r4.1.2.2.2.2.1,.int .i64 r4.1.2.2.2.2.2],.bool true,.int .i64 r4.2]) (fun a w hf hh=>Z.resv3 rfl (Z.rv_n hf rfl Tryz.isAgg29 Tryz.sizeOf29 (A.Hp.blk hh 3) rfl) (Z.rv_t hf rfl) (Z.rv_t hf rfl)) (⟨rfl,rfl,hr6,hr7,hr8,hr9,hr10,hr11,hr12⟩)
 refine A.xl 1 ?_
 refine A.q0 [] [] [.n,.n] [(24,.bool (decide (a0.2.1=13)))] ?_
 refine A.dx 1 ?_
 refine A.AX.cnd rfl hF (fun hb hF=>?_) (fun hb hF=>?_)
 ·refine A.xl 1 ?_
  refine A.q0 [2] [] [.b 0 0] [(27,.agg #[.int .i64 a1.1,.int .i64 a1.2.1,.int .i64 a1.2.2.1,.int .i64 a1.2.2.2.1,.int .i64 a1.2.2.2.2.1,.int .i64 a1.2.2.2.2.2])] ?_
  obtain⟨r14,hv15,hF⟩:=A.bd_some hF
  refine A.AL.call 45 [] (first:=[]) (cap:=[]) cf87 (tstamp_Leave_ok (a1.1,a1.2.1,(a1.2.2.1,a1.2.2.2.1,a1.2.2.2.2.1,a1.2.2.2.2.2)) h10_ h11_ h12_ h13_ h14_ h15_ r14 hv15) .nil ?_
  rintro _ _ ⟨rfl,rfl,hr16,hr17,hr18,hr19,hr20,hr21,hr22⟩
  refine⟨by kernel_rfl,?_⟩
  refine A.q0 [] [] [.n,.n,.n] [(29,.agg #[.int .i64 r14.1.1,.int .i64 r14.1.2.1,.int .i64 r14.1.2.2.1,.int .i64 r14.1.2.2.2.1,.int .i64 r14.1.2.2.2.2.1,.int .i64 r14.1.2.2.2.2.2]),(30,.int .i64 r14.2)] ?_
  refine A.AL.alloc 85 (cs:=[.int .i64 0,.int .i64 0,.int .i64 0,.int .i64 0,.int .i64 0,.int .i64 0]) Tryz.zeroValue29 fun g23=>?_
  refine A.sw 85 [] [.int .i64 r14.1.1,.int .i64 r14.1.2.1,.int .i64 r14.1.2.2.1,.int .i64 r14.1.2.2.2.1,.int .i64 r14.1.2.2.2.2.1,.int .i64 r14.1.2.2.2.2.2] ?_
  refine A.q0 [] [] [.n] [(10,.int .i64 r14.2)] ?_
  refine A.dl 2 ?_
  refine A.q0 [85] [] [.b 0 0,.n] [(31,.agg #[.int .i64 r14.1.1,.int .i64 r14.1.2.1,.int .i64 r14.1.2.2.1,.int .i64 r14.1.2.2.2.1,.int .i64 r14.1.2.2.2.2.1,.int .i64 r14.1.2.2.2.2.2]),(32,.int .i64 r14.2)] ?_
  refine A.sw 3 [] [.int .i64 r14.1.1,.int .i64 r14.1.2.1,.int .i64 r14.1.2.2.1,.int .i64 r14.1.2.2.2.1,.int .i64 r14.1.2.2.2.2.1,.int .i64 r14.1.2.2.2.2.2] ?_
  refine A.q0 [] [] [.n,.n] [(5,.bool true),(6,.int .i64 r14.2)] ?_
  refine A.dx 1 ?_
  obtain rfl:=Option.some.inj hF
  exact A.AX.ret [] (.tuple #[.agg #[.int .i64 r14.1.1,.int .i64 r14.1.2.1,.int .i64 r14.1.2.2.1,.int .i64 r14.1.2.2.2.1,.int .i64 r14.1.2.2.2.2.1,.int .i64 r14.1.2.2.2.2.2],.bool true,.int .i64 r14.2]) (fun a w hf hh=>Z.resv3 rfl (Z.rv_n hf rfl Tryz.isAgg29 Tryz.sizeOf29 (A.Hp.blk hh 3) rfl) (Z.rv_t hf rfl) (Z.rv_t hf rfl)) (⟨rfl,rfl,hr16,hr17,hr18,hr19,hr20,hr21,hr22⟩)
 refine A.xl 1 ?_
 refine A.q0 [] [] [.n,.n] [(33,.bool (decide (a0.2.1=14)))] ?_
 refine A.dx 1 ?_
 refine A.AX.cnd rfl hF (fun hb hF=>?_) (fun hb hF=>?_)
 ·refine A.xl 2 ?_
  refine A.q0 [2] [] [.n,.b 0 1,.n] [(37,.bool (decide (a1.2.1=0)))] ?_
  refine A.dx 1 ?_
  refine A.AX.cnd rfl hF (fun hb hF=>?_) (fun hb hF=>?_)
  ·refine A.xl 1 ?_
   refine A.q0 [] [] [.n] [(38,.agg #[.int .i64 0,.int .i64 0,.int .i64 0,.int .i64 0,.int .i64 0,.int .i64 0])] ?_
   refine A.sw 3 [] [.int .i64 0,.int .i64 0,.int .i64 0,.int .i64 0,.int .i64 0,.int .i64 0] ?_
   refine A.q0 [] [] [.n,.n] [(5,.bool false),(6,.int .i64 11)] ?_
   refine A.dx 1 ?_
   obtain rfl:=Option.some.inj hF
   exact A.AX.ret [] (.tuple #[.agg #[.int .i64 0,.int .i64 0,.int .i64 0,.int .i64 0,.int .i64 0,.int .i64 0],.bool false,.int .i64 11]) (fun a w hf hh=>Z.resv3 rfl (Z.rv_n hf rfl Tryz.isAgg29 Tryz.sizeOf29 (A.Hp.blk hh 3) rfl) (Z.rv_t hf rfl) (Z.rv_t hf rfl)) (⟨rfl,rfl,(A.hasl .i64 (0) rfl),(A.hasl .i64 (0) rfl),(A.hasl .i64 (0) rfl),(A.hasl .i64 (0) rfl),(A.hasl .i64 (0) rfl),(A.hasl .i64 (0) rfl),(A.hasl .i64 (11) rfl)⟩)
  refine A.xx 4 ?_
  refine A.AX.dr mixed 9 9 (A.mb 9 0) ?_
  obtain⟨hc24,hF⟩:=A.gd_some hF
  refine A.AH.q A.pb [] [0,1,2,3] [2,1] [] (A.mb 9 207) 3 [(0,.n),(3,.n),(6,.n),(1,.b 0 1),(7,.b 1 7),(2,.n)] [42,46,41] [Z.R64 (a1.2.1-1)] [(42,.pointer (some ⟨g2,2,none⟩)),(46,.int .i64 a0.2.2.2.2.2.1),(41,.int .i64 (a1.2.1-1))] hc24 ?_
  obtain⟨x25,hv26,hF⟩:=A.bd_some hF
  refine A.pkb 2 86 (fun v:Int=>.int .i64 v) [a1.2.2.1,a1.2.2.2.1,a1.2.2.2.2.1,a1.2.2.2.2.2] 2 hv26 ?_
  refine A.AH.v A.pb [0,1,2,3] [0,1,2,3,86] 4 (A.mb 9 223) rfl (fun a w hf hh=>A.r_indexArr Tryz.underlying27 Tryz.sizeOf2 (hf.eval rfl) (hf.eval rfl) (A.ix_ok hv26).1 (A.ix_ok hv26).2) ?_
  refine A.hq A.pb [0,1,2,3,86] [0,1,2,3,86] [] [86] (A.mb 9 511) 0 [(5,.e 0 0),(8,.n)] [(47,.bool (decide (a0.2.2.2.2.2.1≤x25)))] ?_
  refine A.AH.done ?_
  refine A.ex 1 ?_
  refine A.AX.cnd rfl hF (fun hb hF=>?_) (fun hb hF=>?_)
  ·refine A.xl 1 ?_
   refine A.q0 [2] [] [.b 0 0] [(48,.agg #[.int .i64 a1.1,.int .i64 a1.2.1,.int .i64 a1.2.2.1,.int .i64 a1.2.2.2.1,.int .i64 a1.2.2.2.2.1,.int .i64 a1.2.2.2.2.2])] ?_
   refine A.sw 3 [] [.int .i64 a1.1,.int .i64 a1.2.1,.int .i64 a1.2.2.1,.int .i64 a1.2.2.2.1,.int .i64 a1.2.2.2.2.1,.int .i64 a1.2.2.2.2.2] ?_
   refine A.q0 [] [] [.n,.n] [(5,.bool false),(6,.int .i64 0)] ?_
   refine A.dx 1 ?_
   obtain rfl:=Option.some.inj hF
   exact A.AX.ret [] (.tuple #[.agg #[.int .i64 a1.1,.int .i64 a1.2.1,.int .i64 a1.2.2.1,.int .i64 a1.2.2.2.1,.int .i64 a1.2.2.2.2.1,.int .i64 a1.2.2.2.2.2],.bool false,.int .i64 0]) (fun a w hf hh=>Z.resv3 rfl (Z.rv_n hf rfl Tryz.isAgg29 Tryz.sizeOf29 (A.Hp.blk hh 3) rfl) (Z.rv_t hf rfl) (Z.rv_t hf rfl)) (⟨rfl,rfl,h10_,h11_,h12_,h13_,h14_,h15_,(A.hasl .i64 (0) rfl)⟩)
  refine A.xl 3 ?_
  refine A.q0 [2] [] [.b 0 0] [(50,.agg #[.int .i64 a1.1,.int .i64 a1.2.1,.int .i64 a1.2.2.1,.int .i64 a1.2.2.2.1,.int .i64 a1.2.2.2.2.1,.int .i64 a1.2.2.2.2.2])] ?_
  obtain⟨r27,hv28,hF⟩:=A.bd_some hF
  refine A.AL.call 87 [] (first:=[]) (cap:=[]) cf88 (tstamp_Next_ok (a1.1,a1.2.1,(a1.2.2.1,a1.2.2.2.1,a1.2.2.2.2.1,a1.2.2.2.2.2)) h10_ h11_ h12_ h13_ h14_ h15_ r27 hv28) .nil ?_
  rintro _ _ ⟨rfl,rfl,hr29,hr30,hr31,hr32,hr33,hr34,hr35⟩
  refine⟨by kernel_rfl,?_⟩
  refine A.q0 [] [] [.n,.n,.n] [(52,.agg #[.int .i64 r27.1.1,.int .i64 r27.1.2.1,.int .i64 r27.1.2.2.1,.int .i64 r27.1.2.2.2.1,.int .i64 r27.1.2.2.2.2.1,.int .i64 r27.1.2.2.2.2.2]),(53,.int .i64 r27.2)] ?_
  refine A.AL.alloc 127 (cs:=[.int .i64 0,.int .i64 0,.int .i64 0,.int .i64 0,.int .i64 0,.int .i64 0]) Tryz.zeroValue29 fun g36=>?_
  refine A.sw 127 [] [.int .i64 r27.1.1,.int .i64 r27.1.2.1,.int .i64 r27.1.2.2.1,.int .i64 r27.1.2.2.2.1,.int .i64 r27.1.2.2.2.2.1,.int .i64 r27.1.2.2.2.2.2] ?_
  refine A.q0 [] [] [.n] [(12,.int .i64 r27.2)] ?_
  refine A.dl 2 ?_
  refine A.q0 [127] [] [.b 0 0,.n] [(54,.agg #[.int .i64 r27.1.1,.int .i64 r27.1.2.1,.int .i64 r27.1.2.2.1,.int .i64 r27.1.2.2.2.1,.int .i64 r27.1.2.2.2.2.1,.int .i64 r27.1.2.2.2.2.2]),(55,.int .i64 r27.2)] ?_
  refine A.sw 3 [] [.int .i64 r27.1.1,.int .i64 r27.1.2.1,.int .i64 r27.1.2.2.1,.int .i64 r27.1.2.2.2.1,.int .i64 r27.1.2.2.2.2.1,.int .i64 r27.1.2.2.2.2.2] ?_
  refine A.q0 [] [] [.n,.n] [(5,.bool true),(6,.int .i64 r27.2)] ?_
  refine A.dx 1 ?_
  obtain rfl:=Option.some.inj hF
  exact A.AX.ret [] (.tuple #[.agg #[.int .i64 r27.1.1,.int .i64 r27.1.2.1,.int .i64 r27.1.2.2.1,.int .i64 r27.1.2.2.2.1,.int .i64 r27.1.2.2.2.2.1,.int .i64 r27.1.2.2.2.2.2],.bool true,.int .i64 r27.2]) (fun a w hf hh=>Z.resv3 rfl (Z.rv_n hf rfl Tryz.isAgg29 Tryz.sizeOf29 (A.Hp.blk hh 3) rfl) (Z.rv_t hf rfl) (Z.rv_t hf rfl)) (⟨rfl,rfl,hr29,hr30,hr31,hr32,hr33,hr34,hr35⟩)
 refine A.xl 4 ?_
 refine A.q0 [2] [] [.b 0 0] [(56,.agg #[.int .i64 a1.1,.int .i64 a1.2.1,.int .i64 a1.2.2.1,.int .i64 a1.2.2.2.1,.int .i64 a1.2.2.2.2.1,.int .i64 a1.2.2.2.2.2])] ?_
 refine A.sw 3 [] [.int .i64 a1.1,.int .i64 a1.2.1,.int .i64 a1.2.2.1,.int .i64 a1.2.2.2.1,.int .i64 a1.2.2.2.2.1,.int .i64 a1.2.2.2.2.2] ?_
 refine A.q0 [] [] [.n,.n] [(5,.bool true),(6,.int .i64 0)] ?_
 refine A.dx 1 ?_
 obtain rfl:=Option.some.inj hF
 exact A.AX.ret [] (.tuple #[.agg #[.int .i64 a1.1,.int .i64 a1.2.1,.int .i64 a1.2.2.1,.int .i64 a1.2.2.2.1,.int .i64 a1.2.2.2.2.1,.int .i64 a1.2.2.2.2.2],.bool true,.int .i64 0]) (fun a w hf hh=>Z.resv3 rfl (Z.rv_n hf rfl Tryz.isAgg29 Tryz.sizeOf29 (A.Hp.blk hh 3) rfl) (Z.rv_t hf rfl) (Z.rv_t hf rfl)) (⟨rfl,rfl,h10_,h11_,h12_,h13_,h14_,h15_,(A.hasl .i64 (0) rfl)⟩)
def F.fn_rest_j1 (y2:Int):Option Int:=some y2
def F.fn_rest (a0:Int)(a1:Int):Option Int:=A.gd (a1≠0) (if Int.tmod a0 a1<0 then(A.gd (Z.R64 ((Int.tmod a0 a1)+a1)) (F.fn_rest_j1 ((Int.tmod a0 a1)+a1)))else(F.fn_rest_j1 (Int.tmod a0 a1)))
theorem fn_rest_ok (a0:Int)(a1:Int)(h0_:IntKind.i64.has a0)(h1_:IntKind.i64.has a1)(r:Int)(hF:F.fn_rest a0 a1=some r):
    A.Ct Tryz.prog 126 [.int .i64 a0,.int .i64 a1] [] [] (fun v H'=>v=.int .i64 r∧H'=[]∧IntKind.i64.has r):=by
 refine A.Ct.enter Tryz.func126 rfl Tryz.ntmps126 rfl fun w0 F0=>?_
 rw[F.fn_rest]at hF
 refine A.xl 1 ?_
 refine A.q0 [] [] [.n] [] ?_
 refine A.dl 2 ?_
 obtain⟨hc1,hF⟩:=A.gd_some hF
 refine A.q [] [] [.n,.n,.n,.n] [a1≠0] [(0,.int .i64 (Int.tmod a0 a1))] hc1 ?_
 refine A.dx 1 ?_
 refine A.AX.join [] [] (fun nl nh=>∃(y2:Int),nl=[(0,.int .i64 y2)]∧nh=[]∧IntKind.i64.has y2∧F.fn_rest_j1 y2=some r) ?_ ?_
 ·refine A.xl 1 ?_
  refine A.q0 [] [] [.n,.n] [(9,.bool (decide (Int.tmod a0 a1<0)))] ?_
  refine A.dx 1 ?_
  refine A.AX.cnd rfl hF (fun hb hF=>?_) (fun hb hF=>?_)
  ·refine A.xl 0 ?_
   obtain⟨hc4,hF⟩:=A.gd_some hF
   refine A.q [] [] [.n,.n,.n,.n] [Z.R64 ((Int.tmod a0 a1)+a1)] [(0,.int .i64 ((Int.tmod a0 a1)+a1))] hc4 ?_
   refine A.AL.done ?_
   exact A.j ⟨((Int.tmod a0 a1)+a1),rfl,rfl,(Z.i64_has hc4),hF⟩
  refine A.xe 1 ?_
  exact A.j ⟨(Int.tmod a0 a1),rfl,rfl,(A.tmod_has h0_),hF⟩
 rintro _ _ ⟨y2,rfl,rfl,hy3,hF⟩
 rw[F.fn_rest_j1]at hF
 refine A.xl 1 ?_
 refine A.q0 [] [] [.n,.n] [(4,.int .i64 y2)] ?_
 refine A.dx 1 ?_
 obtain rfl:=Option.some.inj hF
 exact A.rt1 [] ⟨rfl,rfl,hy3⟩
def F.fn_upper_j1 (k1:(List UInt8)→Int→Option ByteArray)(y5:Int)(xs8:List UInt8):Option ByteArray:=A.gd (Z.R64 (y5+1)) (k1 xs8 (y5+1))
def F.fn_upper_l2 (a0:ByteArray):Nat→(List UInt8)→Int→Option ByteArray
 |0,_,_=>none
 |f+1,xs3,y5=>if y5<((a0.data.toList).length:Int)then((A.ix xs3 y5).bind fun x11=>(if(bif decide ((97:Int)≤(x11.toNat:Int))then decide ((x11.toNat:Int)≤122)else false)=true then((A.ix xs3 y5).bind fun x13=>(F.fn_upper_j1 (F.fn_upper_l2 a0 f) y5 (xs3.set y5.toNat (A.b8 ((IntKind.u8.wrap ((x11.toNat:Int)-97))+65)))))else(F.fn_upper_j1 (F.fn_upper_l2 a0 f) y5 xs3)))else(some (ByteArray.mk (xs3).toArray))
def F.fn_upper (a0:ByteArray):Option ByteArray:=F.fn_upper_l2 a0 A.FU a0.data.toList 0
theorem fn_upper_ok (a0:ByteArray)(h0_:a0.size≤maxLen)(r:ByteArray)(hF:F.fn_upper a0=some r):
    A.Ct Tryz.prog 124 [.string a0] [] [] (fun v H'=>v=.string r∧H'=[]∧r.size≤maxLen):=by
 refine A.Ct.enter Tryz.func124 rfl Tryz.ntmps124 rfl fun w0 F0=>?_
 rw[F.fn_upper]at hF
 refine A.xl 1 ?_
 refine A.q0 [] [] [.n] [] ?_
 refine A.dl 2 ?_
 refine A.q0 [] [] [.n] [(6,.string a0)] ?_
 refine A.AL.cvb 0 h0_ fun g1 c2=>?_
 refine A.q0 [] [] [.n] [(3,.slice (some ⟨g1,0,none⟩) ((a0.data.toList).length) c2)] ?_
 refine A.dl 3 ?_
 refine A.q0 [] [] [.n,.n,.n] [(8,.slice (some ⟨g1,0,none⟩) ((a0.data.toList).length) c2),(9,.int .i64 ((a0.data.toList).length:Int)),(10,.int .i64 0)] ?_
 refine A.dx 2 ?_
 refine A.lp_ [3,8,9] [] (fun f nl nh=>∃(xs3:List UInt8),∃(y5:Int),nl=[(10,.int .i64 y5)]∧nh=[(0,.ob g1 (A.Bs 5 c2 xs3))]∧(a0.data.toList).length=xs3.length∧IntKind.i64.has y5∧F.fn_upper_l2 a0 f xs3 y5=some r) ⟨a0.data.toList,0,rfl,rfl,rfl,(A.hasl .i64 (0) rfl),hF⟩ ?_
 rintro f7 _ _ ⟨xs3,y5,rfl,rfl,hn4,hy6,hF⟩
 rcases f7 with _|f7
 ·exact A.no0 hF
 rw[F.fn_upper_l2]at hF
 refine A.xl 1 ?_
 refine A.q0 [] [] [.n] [(11,.bool (decide (y5<((a0.data.toList).length:Int))))] ?_
 refine A.dx 2 ?_
 refine A.AX.cnd rfl hF (fun hb hF=>?_) (fun hb hF=>?_)
 ·refine A.xx 2 ?_
  refine A.AX.join [3,8,9,10] [] (fun nl nh=>∃(xs8:List UInt8),nl=[]∧nh=[(0,.ob g1 (A.Bs 5 c2 xs8))]∧(a0.data.toList).length=xs8.length∧F.fn_upper_j1 (F.fn_upper_l2 a0 f7) y5 xs8=some r) ?_ ?_
  ·refine A.xl 2 ?_
   refine A.q0 [] [] [.n] [(12,.int .i64 y5)] ?_
   obtain⟨x11,hv12,hF⟩:=A.bd_some hF
   refine A.AL.ixB 0 5 hv12 hn4 ?_
   refine A.q0 [] [5] [.e 0 0,.n,.n] [(4,.int .i64 y5),(5,.int .u8 (x11.toNat:Int))] ?_
   refine A.dl 2 ?_
   refine A.q0 [] [] [.n,.n,.n,.sy .n,.sy .n,.pk] [(20,.bool (bif decide ((97:Int)≤(x11.toNat:Int))then decide ((x11.toNat:Int)≤122)else false))] ?_
   refine A.dx 1 ?_
   refine A.AX.cnb rfl hF (fun hb hF=>?_) (fun hb hF=>?_)
   ·refine A.xl 0 ?_
    refine A.q0 [] [] [.n,.n,.n,.n,.n] [(21,.slice (some ⟨g1,0,none⟩) ((a0.data.toList).length) c2),(22,.int .i64 y5),(25,.int .u8 (IntKind.u8.wrap ((IntKind.u8.wrap ((x11.toNat:Int)-97))+65)))] ?_
    obtain⟨x13,hv14,hF⟩:=A.bd_some hF
    refine A.AL.ixB 0 6 hv14 hn4 ?_
    refine A.AL.stB 0 6 [5,6] (A.b8 ((IntKind.u8.wrap ((x11.toNat:Int)-97))+65)) hv14 (A.b8_wrap _) ?_
    refine A.de 1 ?_
    exact A.j ⟨(xs3.set y5.toNat (A.b8 ((IntKind.u8.wrap ((x11.toNat:Int)-97))+65))),rfl,rfl,(by rw[List.length_set];exact hn4),hF⟩
   refine A.xe 2 ?_
   exact A.j ⟨xs3,rfl,rfl,hn4,hF⟩
  rintro _ _ ⟨xs8,rfl,rfl,hn9,hF⟩
  rw[F.fn_upper_j1]at hF
  refine A.xl 0 ?_
  obtain⟨hc10,hF⟩:=A.gd_some hF
  refine A.q [] [] [.n,.n] [Z.R64 (y5+1)] [(10,.int .i64 (y5+1))] hc10 ?_
  refine A.AL.done ?_
  exact A.j ⟨_,Nat.lt_succ_self _,⟨xs8,(y5+1),rfl,rfl,hn9,(Z.i64_has hc10),hF⟩⟩
 refine A.xl 3 ?_
 refine A.q0 [] [] [.n] [(28,.slice (some ⟨g1,0,none⟩) ((a0.data.toList).length) c2)] ?_
 refine A.okB 0 fun hl15=>?_
 refine A.AL.cbs 0 hn4 ?_
 refine A.q0 [] [] [.n] [(2,.string (ByteArray.mk (xs3).toArray))] ?_
 refine A.dx 1 ?_
 obtain rfl:=Option.some.inj hF
 exact A.rt1 [] ⟨rfl,rfl,(A.mk_le hl15)⟩
def F.slices_Reverse_rune_rune_l1:Nat→(List Int)→Int→Int→Option (List Int)
 |0,_,_,_=>none
 |f+1,xs4,y6,y8=>if y6<y8 then((A.ix xs4 y8).bind fun x11=>((A.ix xs4 y6).bind fun x16=>((A.ix xs4 y6).bind fun x21=>((A.ix (xs4.set y6.toNat x11) y8).bind fun x26=>(A.gd (Z.R64 (y6+1)∧Z.R64 (y8-1)) ((F.slices_Reverse_rune_rune_l1 f) ((xs4.set y6.toNat x11).set y8.toNat x16) (y6+1) (y8-1)))))))else(some xs4)
def F.slices_Reverse_rune_rune (a0:(List Int)):Option (List Int):=A.gd (Z.R64 (((a0).length:Int)-1)) (F.slices_Reverse_rune_rune_l1 A.FU a0 0 (((a0).length:Int)-1))
theorem slices_Reverse_rune_rune_ok (a0:(List Int))(A0_:Option Addr)(c1_:Nat)(r:(List Int))(hF:F.slices_Reverse_rune_rune a0=some r):
    A.Ct Tryz.prog 125 [.slice A0_ ((a0).length) c1_] [(0,.own (Z.Ty.int .i32) 21 A0_ c1_ a0)] (Z.obl A0_++[]) (fun v H'=>v=.tuple #[]∧H'=[(0,.own (Z.Ty.int .i32) 21 A0_ c1_ r)]∧(r).length=a0.length):=by
 refine A.Ct.enter Tryz.func125 rfl Tryz.ntmps125 rfl fun w0 F0=>?_
 rw[F.slices_Reverse_rune_rune]at hF
 refine A.xl 1 ?_
 obtain⟨hc1,hF⟩:=A.gd_some hF
 refine A.q [] [] [.n,.n,.n,.n,.n] [Z.R64 (((a0).length:Int)-1)] [(2,.int .i64 0),(3,.int .i64 (((a0).length:Int)-1))] hc1 ?_
 refine A.dx 2 ?_
 refine A.lp_ [0] [] (fun f nl nh=>∃(xs4:List Int),∃(y6:Int),∃(y8:Int),nl=[(2,.int .i64 y6),(3,.int .i64 y8)]∧nh=[(0,.own (Z.Ty.int .i32) 21 A0_ c1_ xs4)]∧(a0).length=xs4.length∧IntKind.i64.has y6∧IntKind.i64.has y8∧F.slices_Reverse_rune_rune_l1 f xs4 y6 y8=some r) ⟨a0,0,(((a0).length:Int)-1),rfl,rfl,rfl,(A.hasl .i64 (0) rfl),(Z.i64_has hc1),hF⟩ ?_
 rintro f10 _ _ ⟨xs4,y6,y8,rfl,rfl,hn5,hy7,hy9,hF⟩
 rcases f10 with _|f10
 ·exact A.no0 hF
 rw[F.slices_Reverse_rune_rune_l1]at hF
 refine A.xl 2 ?_
 refine A.q0 [] [] [.n,.n,.n] [(9,.bool (decide (y6<y8)))] ?_
 refine A.dx 1 ?_
 refine A.AX.cnd rfl hF (fun hb hF=>?_) (fun hb hF=>?_)
 ·refine A.xx 4 ?_
  refine A.AX.dr mixed 13 16 (A.mb 16 0) ?_
  refine A.hq A.pb [] [0] [] [] (A.mb 16 819) 10 [(0,.n),(1,.n),(4,.n),(5,.n),(8,.n),(9,.n)] [(14,.slice A0_ ((a0).length) c1_),(15,.int .i64 y6),(18,.slice A0_ ((a0).length) c1_),(19,.int .i64 y8),(22,.slice A0_ ((a0).length) c1_),(23,.int .i64 y6)] ?_
  refine A.AH.qp A.pb [0] (A.mb 16 831) 8 [(2,.n),(3,.n)] [(16,.slice A0_ ((a0).length) c1_),(17,.int .i64 y8)] ?_
  refine A.cst 18 (Z.slice_n (show(a0).length=(xs4).length from hn5)) ?_
  obtain⟨x11,hv12,hF⟩:=A.bd_some hF
  refine A.AH.pko 0 9 hv12 fun ho13=>?_
  intro g15 hA14
  refine A.AH.v A.pb [0] [0,9] 6 (A.mb 16 895) rfl (fun a w hf hh=>A.r_ixo (t:=(Z.Ty.int .i32)) hv12 hA14 hf) ?_
  refine A.hq A.pb [0,9] [0,9] [] [9] (A.mb 16 1023) 6 [(7,.e 0 0)] [(21,.int .i32 x11)] ?_
  refine A.cst 22 (Z.slice_n (show(a0).length=(xs4).length from hn5)) ?_
  obtain⟨x16,hv17,hF⟩:=A.bd_some hF
  refine A.AH.pko 0 10 hv17 fun ho18=>?_
  intro g20 hA19
  refine A.AH.v A.pb [0,9] [0,9,10] 10 (A.mb 16 2047) rfl (fun a w hf hh=>A.r_ixo (t:=(Z.Ty.int .i32)) hv17 hA19 hf) ?_
  refine A.hq A.pb [0,9,10] [0,9,10] [] [10] (A.mb 16 4095) 4 [(11,.e 0 0)] [(25,.int .i32 x16)] ?_
  refine A.cst 14 (Z.slice_n (show(a0).length=(xs4).length from hn5)) ?_
  obtain⟨x21,hv22,hF⟩:=A.bd_some hF
  refine A.AH.pko 0 11 hv22 fun ho23=>?_
  intro g25 hA24
  refine A.AH.v A.pb [0,9,10] [0,9,10,11] 12 (A.mb 16 8191) rfl (fun a w hf hh=>A.r_ixo (t:=(Z.Ty.int .i32)) hv22 hA24 hf) ?_
  refine A.AH.one 13 ?_
  refine A.AL.setel 0 11 [9,10,11] (o:=0) (m:=1) (t:=(Z.Ty.int .i32)) (new:=[.int .i32 x11]) (es:=[.int .i32 x21]) x11 hv22 hA24 ⟨rfl,ho13⟩ ?_
  refine A.AH.nm (A.mb 16 16383) ?_
  refine A.AH.bh 15 ?_
  refine A.cst 16 (Z.slice_n (show(a0).length=(xs4.set y6.toNat x11).length from(by rw[List.length_set];exact hn5))) ?_
  obtain⟨x26,hv27,hF⟩:=A.bd_some hF
  refine A.AH.pko 0 12 hv27 fun ho28=>?_
  intro g30 hA29
  refine A.AH.v A.pb [] [0,12] 14 (A.mb 16 32767) rfl (fun a w hf hh=>A.r_ixo (t:=(Z.Ty.int .i32)) hv27 hA29 hf) ?_
  refine A.AH.one 15 ?_
  refine A.AL.setel 0 12 [12] (o:=0) (m:=1) (t:=(Z.Ty.int .i32)) (new:=[.int .i32 x16]) (es:=[.int .i32 x26]) x16 hv27 hA29 ⟨rfl,ho18⟩ ?_
  refine A.AH.nm (A.mb 16 65535) ?_
  refine A.AH.done ?_
  refine A.el 2 ?_
  obtain⟨hc31,hF⟩:=A.gd_some hF
  refine A.q [] [] [.n,.n,.n,.n,.n,.n] [Z.R64 (y6+1),Z.R64 (y8-1)] [(2,.int .i64 (y6+1)),(3,.int .i64 (y8-1))] hc31 ?_
  refine A.AL.done ?_
  exact A.j ⟨_,Nat.lt_succ_self _,⟨((xs4.set y6.toNat x11).set y8.toNat x16),(y6+1),(y8-1),rfl,rfl,(by rw[List.length_set];exact(by rw[List.length_set];exact hn5)),(Z.i64_has hc31.1),(Z.i64_has hc31.2),hF⟩⟩
 refine A.xe 1 ?_
 obtain rfl:=Option.some.inj hF
 exact A.AE.ret [(0,0)] (.tuple #[]) (fun a w hf hh=>Z.res0 rfl w) (⟨rfl,rfl,(Eq.symm hn5)⟩)
end Go.Proofs.YtbljnlkhebiniaaGreatDoor
end
section
set_option linter.unusedVariables false
set_option linter.unusedSimpArgs false
set_option maxRecDepth 20000
set_option maxHeartbeats 8000000
set_option synthInstance.maxSize 1000000
set_option synthInstance.maxHeartbeats 400000
namespace Go.Proofs.YtbljnlkhebiniaaGreatDoor
open Go.RowKit
def F.fn_Map_j1 (y11:Int)(y13:ByteArray):Option (D43×Int):=some ((y11,y13),0)
def F.fn_Map (a0:D23)(a1:D43):Option (D43×Int):=(F.fn_both 2 (a0.1,a0.2.1,a0.2.2) (a1.1,a1.2)).bind fun r4=>(if r4≠0 then(some ((0,ByteArray.mk #[]),r4))else((F.fn_runes a1.2).bind fun r7=>(if a0.1=2 then((F.fn_upper a1.2).bind fun r15=>(F.fn_Map_j1 a1.1 r15))else(if a0.1=3 then(A.gd (0≤min ((r7).length:Int) a0.2.1∧(min ((r7).length:Int) a0.2.1).toNat≤(r7).length) (A.gd ((runesBytes (List.take ((min ((r7).length:Int) a0.2.1).toNat) r7)).size≤9223372036854775807) (F.fn_Map_j1 a1.1 (runesBytes (List.take ((min ((r7).length:Int) a0.2.1).toNat) r7)))))else(if a0.1=4 then((F.slices_Reverse_rune_rune r7).bind fun r22=>(A.gd ((runesBytes r22).size≤9223372036854775807) (F.fn_Map_j1 a1.1 (runesBytes r22))))else(if a0.1=5 then(A.gd (a1.2.size+a0.2.2.size≤9223372036854775807) ((F.rec_Cut (a1.2++a0.2.2) 64).bind fun r27=>(F.fn_Map_j1 a1.1 r27)))else(if a0.1=6 then((F.fn_rest a1.1 a0.2.1).bind fun r30=>(F.fn_Map_j1 r30 a1.2))else(if a0.1=7 then(F.fn_Map_j1 ((r7).length:Int) a1.2)else(if a0.1=8 then(if(0:Int)<((r7).length:Int)then((A.ix r7 0).bind fun x34=>(A.gd (Z.R64 (x34)) (F.fn_Map_j1 x34 a1.2)))else(F.fn_Map_j1 0 a1.2))else(F.fn_Map_j1 a1.1 a1.2))))))))))
theorem fn_Map_ok (a0:D23)(a1:D43)(h0_:IntKind.i64.has a0.1)(h1_:IntKind.i64.has a0.2.1)(h2_:a0.2.2.size≤maxLen)(h3_:IntKind.i64.has a1.1)(h4_:a1.2.size≤maxLen)(r:D43×Int)(hF:F.fn_Map a0 a1=some r):
    A.Ct Tryz.prog 89 [.agg #[.int .i64 a0.1,.int .i64 a0.2.1,.string a0.2.2],.agg #[.int .i64 a1.1,.string a1.2]] [(0,.el none 1 0 A.tabF),(1,.el none 2 0 A.tabA)] [] (fun v H'=>v=.tuple #[.agg #[.int .i64 r.1.1,.string r.1.2],.int .i64 r.2]∧H'=[]∧IntKind.i64.has r.1.1∧r.1.2.size≤maxLen∧IntKind.i64.has r.2):=by
 refine A.Ct.enter Tryz.func89 rfl Tryz.ntmps89 rfl fun w0 F0=>?_
 rw[F.fn_Map]at hF
 refine A.xl 1 ?_
 refine A.AL.box 2 (cs:=[.int .i64 a0.1,.int .i64 a0.2.1,.string a0.2.2]) fun g1=>?_
 refine A.AL.box 3 (cs:=[.int .i64 a1.1,.string a1.2]) fun g2=>?_
 refine A.AL.alloc 4 (cs:=[.int .i64 0,.string (ByteArray.mk #[])]) Tryz.zeroValue44 fun g3=>?_
 refine A.q0 [] [] [.n] [] ?_
 refine A.dl 3 ?_
 refine A.q0 [2,3] [] [.b 0 0,.b 1 0] [(8,.agg #[.int .i64 a0.1,.int .i64 a0.2.1,.string a0.2.2]),(9,.agg #[.int .i64 a1.1,.string a1.2])] ?_
 obtain⟨r4,hv5,hF⟩:=A.bd_some hF
 refine A.AL.call 5 [] (first:=[]) (cap:=[]) cf102 (fn_both_ok 2 (a0.1,a0.2.1,a0.2.2) (a1.1,a1.2) (A.hasl .i64 (2) rfl) h0_ h1_ h2_ h3_ h4_ r4 hv5) (.s 0 (.s 1 .nil)) ?_
 rintro _ _ ⟨rfl,rfl,hr6⟩
 refine⟨by kernel_rfl,?_⟩
 refine A.q0 [] [] [.n] [(6,.int .i64 r4)] ?_
 refine A.dl 2 ?_
 refine A.q0 [] [] [.n,.n] [(12,.bool (decide (r4≠0)))] ?_
 refine A.dx 1 ?_
 refine A.AX.cnd rfl hF (fun hb hF=>?_) (fun hb hF=>?_)
 ·refine A.xl 1 ?_
  refine A.q0 [] [] [.n,.n] [(13,.agg #[.int .i64 0,.string (ByteArray.mk #[])]),(14,.int .i64 r4)] ?_
  refine A.sw 4 [] [.int .i64 0,.string (ByteArray.mk #[])] ?_
  refine A.q0 [] [] [.n] [(5,.int .i64 r4)] ?_
  refine A.dx 1 ?_
  obtain rfl:=Option.some.inj hF
  exact A.AX.ret [] (.tuple #[.agg #[.int .i64 0,.string (ByteArray.mk #[])],.int .i64 r4]) (fun a w hf hh=>Z.resv2 rfl (Z.rv_n hf rfl Tryz.isAgg44 Tryz.sizeOf44 (A.Hp.blk hh 4) rfl) (Z.rv_t hf rfl)) (⟨rfl,rfl,(A.hasl .i64 (0) rfl),(A.szl (ByteArray.mk #[]) rfl),hr6⟩)
 refine A.xl 3 ?_
 refine A.q0 [3] [] [.n,.b 0 1] [(16,.string a1.2)] ?_
 obtain⟨r7,hv8,hF⟩:=A.bd_some hF
 refine A.AL.call 45 [] (first:=[]) (cap:=[]) cf103 (fn_runes_ok a1.2 h4_ r7 hv8) .nil ?_
 rintro _ _ ⟨A9,c10,rfl,rfl⟩
 refine⟨by kernel_rfl,?_⟩
 refine A.q0 [] [] [.n] [(7,.slice A9 ((r7).length) c10)] ?_
 refine A.dx 1 ?_
 refine A.AX.join [3,4] [0,1,4] (fun nl nh=>∃(y11:Int),∃(y13:ByteArray),nl=[]∧nh=[(3,.blk g2 44 [.int .i64 y11,.string y13])]∧IntKind.i64.has y11∧y13.size≤maxLen∧F.fn_Map_j1 y11 y13=some r) ?_ ?_
 ·refine A.xl 1 ?_
  refine A.q0 [2] [] [.n,.b 0 0] [(19,.int .i64 a0.1)] ?_
  refine A.dl 3 ?_
  refine A.q0 [] [] [.n,.n] [(20,.bool (decide (a0.1=2)))] ?_
  refine A.dx 1 ?_
  refine A.AX.cnd rfl hF (fun hb hF=>?_) (fun hb hF=>?_)
  ·refine A.xl 0 ?_
   refine A.q0 [3] [] [.n,.b 0 1] [(23,.string a1.2)] ?_
   obtain⟨r15,hv16,hF⟩:=A.bd_some hF
   refine A.AL.call 85 [] (first:=[]) (cap:=[]) cf124 (fn_upper_ok a1.2 h4_ r15 hv16) .nil ?_
   rintro _ _ ⟨rfl,rfl,hr17⟩
   refine⟨by kernel_rfl,?_⟩
   refine A.q0 [] [] [.n] [(25,.pointer (some ⟨g2,1,none⟩))] ?_
   refine A.AL.store 3 [] (new:=[.string r15]) (cs':=[.int .i64 a1.1,.string r15]) ?_
   refine A.de 1 ?_
   exact A.j ⟨a1.1,r15,rfl,rfl,h3_,hr17,hF⟩
  refine A.xl 1 ?_
  refine A.q0 [] [] [.n,.n] [(26,.bool (decide (a0.1=3)))] ?_
  refine A.dx 1 ?_
  refine A.AX.cnd rfl hF (fun hb hF=>?_) (fun hb hF=>?_)
  ·refine A.xl 0 ?_
   refine A.q0 [2] [] [.n,.n,.n,.n,.b 0 1,.n] [(28,.slice A9 ((r7).length) c10),(33,.int .i64 (min ((r7).length:Int) a0.2.1))] ?_
   obtain⟨hc18,hF⟩:=A.gd_some hF
   refine A.AL.cuto 45 [] (v:=(min ((r7).length:Int) a0.2.1).toNat) (Int.toNat_of_nonneg hc18.1).symm hc18.2 ?_
   obtain⟨hl21,hF⟩:=A.gd_some hF
   refine A.AL.cvr (A.rowO (k:=45) rfl) rfl ?_
   refine A.q0 [] [] [.n] [(36,.pointer (some ⟨g2,1,none⟩))] ?_
   refine A.AL.store 3 [] (new:=[.string (runesBytes (List.take ((min ((r7).length:Int) a0.2.1).toNat) r7))]) (cs':=[.int .i64 a1.1,.string (runesBytes (List.take ((min ((r7).length:Int) a0.2.1).toNat) r7))]) ?_
   refine A.de 1 ?_
   exact A.j ⟨a1.1,(runesBytes (List.take ((min ((r7).length:Int) a0.2.1).toNat) r7)),rfl,rfl,h3_,(A.le_max hl21),hF⟩
  refine A.xl 1 ?_
  refine A.q0 [] [] [.n,.n] [(37,.bool (decide (a0.1=4)))] ?_
  refine A.dx 1 ?_
  refine A.AX.cnd rfl hF (fun hb hF=>?_) (fun hb hF=>?_)
  ·refine A.xl 1 ?_
   refine A.q0 [] [] [.n] [(39,.slice A9 ((r7).length) c10)] ?_
   obtain⟨r22,hv23,hF⟩:=A.bd_some hF
   refine A.AL.call 126 [] (first:=[]) (cap:=[]) cf125 (slices_Reverse_rune_rune_ok r7 A9 c10 r22 hv23) (.m 45 .nil) ?_
   rintro _ _ ⟨rfl,rfl,hr24⟩
   refine⟨by kernel_rfl,?_⟩
   refine A.mvd 126 45 [] ?_
   refine A.dl 1 ?_
   refine A.q0 [] [] [.n] [(41,.slice A9 ((r7).length) c10)] ?_
   refine A.cst 41 (Z.slice_n (show(r7).length=(r22).length from(Eq.symm hr24))) ?_
   obtain⟨hl25,hF⟩:=A.gd_some hF
   refine A.AL.cvr (A.rowO (k:=45) rfl) rfl ?_
   refine A.q0 [] [] [.n] [(43,.pointer (some ⟨g2,1,none⟩))] ?_
   refine A.AL.store 3 [] (new:=[.string (runesBytes r22)]) (cs':=[.int .i64 a1.1,.string (runesBytes r22)]) ?_
   refine A.de 1 ?_
   exact A.j ⟨a1.1,(runesBytes r22),rfl,rfl,h3_,(A.le_max hl25),hF⟩
  refine A.xl 1 ?_
  refine A.q0 [] [] [.n,.n] [(44,.bool (decide (a0.1=5)))] ?_
  refine A.dx 1 ?_
  refine A.AX.cnd rfl hF (fun hb hF=>?_) (fun hb hF=>?_)
  ·refine A.xl 0 ?_
   obtain⟨hc26,hF⟩:=A.gd_some hF
   refine A.q [3,2] [] [.n,.b 0 1,.n,.b 1 2,.n] [a1.2.size+a0.2.2.size≤9223372036854775807] [(50,.string (a1.2++a0.2.2))] hc26 ?_
   obtain⟨r27,hv28,hF⟩:=A.bd_some hF
   refine A.AL.call 166 [] (first:=[]) (cap:=[]) cf62 (rec_Cut_ok (a1.2++a0.2.2) 64 (A.cat_le hc26) (A.hasl .i64 (64) rfl) r27 hv28) .nil ?_
   rintro _ _ ⟨rfl,rfl,hr29⟩
   refine⟨by kernel_rfl,?_⟩
   refine A.q0 [] [] [.n] [(52,.pointer (some ⟨g2,1,none⟩))] ?_
   refine A.AL.store 3 [] (new:=[.string r27]) (cs':=[.int .i64 a1.1,.string r27]) ?_
   refine A.de 1 ?_
   exact A.j ⟨a1.1,r27,rfl,rfl,h3_,hr29,hF⟩
  refine A.xl 1 ?_
  refine A.q0 [] [] [.n,.n] [(53,.bool (decide (a0.1=6)))] ?_
  refine A.dx 1 ?_
  refine A.AX.cnd rfl hF (fun hb hF=>?_) (fun hb hF=>?_)
  ·refine A.xl 0 ?_
   refine A.q0 [3,2] [] [.n,.b 0 0,.n,.b 1 1] [(56,.int .i64 a1.1),(58,.int .i64 a0.2.1)] ?_
   obtain⟨r30,hv31,hF⟩:=A.bd_some hF
   refine A.AL.call 206 [] (first:=[]) (cap:=[]) cf126 (fn_rest_ok a1.1 a0.2.1 h3_ h1_ r30 hv31) .nil ?_
   rintro _ _ ⟨rfl,rfl,hr32⟩
   refine⟨by kernel_rfl,?_⟩
   refine A.q0 [] [] [.n] [(60,.pointer (some ⟨g2,0,none⟩))] ?_
   refine A.AL.store 3 [] (new:=[.int .i64 r30]) (cs':=[.int .i64 r30,.string a1.2]) ?_
   refine A.de 1 ?_
   exact A.j ⟨r30,a1.2,rfl,rfl,hr32,h4_,hF⟩
  refine A.xl 1 ?_
  refine A.q0 [] [] [.n,.n] [(61,.bool (decide (a0.1=7)))] ?_
  refine A.dx 1 ?_
  refine A.AX.cnd rfl hF (fun hb hF=>?_) (fun hb hF=>?_)
  ·refine A.xl 0 ?_
   refine A.q0 [] [] [.n,.n,.n] [(64,.int .i64 ((r7).length:Int)),(65,.pointer (some ⟨g2,0,none⟩))] ?_
   refine A.AL.store 3 [] (new:=[.int .i64 ((r7).length:Int)]) (cs':=[.int .i64 ((r7).length:Int),.string a1.2]) ?_
   refine A.de 1 ?_
   refine A.oko 45 fun hl33=>?_
   exact A.j ⟨((r7).length:Int),a1.2,rfl,rfl,(A.has_len hl33.1),h4_,hF⟩
  refine A.xl 1 ?_
  refine A.q0 [] [] [.n,.n] [(66,.bool (decide (a0.1=8)))] ?_
  refine A.dx 1 ?_
  refine A.AX.cnd rfl hF (fun hb hF=>?_) (fun hb hF=>?_)
  ·refine A.xl 1 ?_
   refine A.q0 [] [] [.n] [(68,.pointer (some ⟨g2,0,none⟩))] ?_
   refine A.AL.store 3 [] (new:=[.int .i64 0]) (cs':=[.int .i64 0,.string a1.2]) ?_
   refine A.dl 2 ?_
   refine A.q0 [] [] [.n,.n,.n] [(71,.bool (decide ((0:Int)<((r7).length:Int))))] ?_
   refine A.dx 1 ?_
   refine A.AX.cnd rfl hF (fun hb hF=>?_) (fun hb hF=>?_)
   ·refine A.xl 0 ?_
    refine A.q0 [] [] [.n] [(72,.slice A9 ((r7).length) c10)] ?_
    obtain⟨x34,hv35,hF⟩:=A.bd_some hF
    refine A.AL.ixo 45 246 hv35 fun ho36=>?_
    intro g37 hA38
    obtain⟨hc39,hF⟩:=A.gd_some hF
    refine A.q [] [246] [.e 0 0,.n,.n] [Z.R64 (x34)] [(75,.int .i64 x34),(76,.pointer (some ⟨g2,0,none⟩))] hc39 ?_
    refine A.AL.store 3 [] (new:=[.int .i64 x34]) (cs':=[.int .i64 x34,.string a1.2]) ?_
    refine A.de 1 ?_
    exact A.j ⟨x34,a1.2,rfl,rfl,(Z.i64_has hc39),h4_,hF⟩
   refine A.xe 2 ?_
   exact A.j ⟨0,a1.2,rfl,rfl,(A.hasl .i64 (0) rfl),h4_,hF⟩
  refine A.xe 2 ?_
  exact A.j ⟨a1.1,a1.2,rfl,rfl,h3_,h4_,hF⟩
 rintro _ _ ⟨y11,y13,rfl,rfl,hy12,hy14,hF⟩
 rw[F.fn_Map_j1]at hF
 refine A.xl 1 ?_
 refine A.q0 [3] [] [.b 0 0] [(77,.agg #[.int .i64 y11,.string y13])] ?_
 refine A.sw 4 [] [.int .i64 y11,.string y13] ?_
 refine A.q0 [] [] [.n] [(5,.int .i64 0)] ?_
 refine A.dx 1 ?_
 obtain rfl:=Option.some.inj hF
 exact A.AX.ret [] (.tuple #[.agg #[.int .i64 y11,.string y13],.int .i64 0]) (fun a w hf hh=>Z.resv2 rfl (Z.rv_n hf rfl Tryz.isAgg44 Tryz.sizeOf44 (A.Hp.blk hh 4) rfl) (Z.rv_t hf rfl)) (⟨rfl,rfl,hy12,hy14,(A.hasl .i64 (0) rfl)⟩)
def F.fn_Filter (a0:D23)(a1:D43):Option (Bool×Int):=(F.fn_both 3 (a0.1,a0.2.1,a0.2.2) (a1.1,a1.2)).bind fun r3=>(if r3≠0 then(some (false,r3))else(if a0.1=11 then(A.gd (a0.2.1≠0) (some (decide (Int.tmod a1.1 a0.2.1=0),0)))else(if a0.1=12 then((F.strings_Contains a1.2 a0.2.2).bind fun r7=>(some (r7,0)))else((F.fn_runes a1.2).bind fun r9=>(some (decide (a0.2.1≤((r9).length:Int)),0))))))
theorem fn_Filter_ok (a0:D23)(a1:D43)(m5_:Int)(h0_:IntKind.i64.has a0.1)(h1_:IntKind.i64.has a0.2.1)(h2_:a0.2.2.size≤maxLen)(h3_:IntKind.i64.has a1.1)(h4_:a1.2.size≤maxLen)(r:Bool×Int)(hF:F.fn_Filter a0 a1=some r):
    A.Ct Tryz.prog 90 [.agg #[.int .i64 a0.1,.int .i64 a0.2.1,.string a0.2.2],.agg #[.int .i64 a1.1,.string a1.2]] [(0,.el none 1 0 A.tabF),(1,.el none 2 0 A.tabA),(2,.el none 0 0 [.int .i64 m5_])] [] (fun v H'=>v=.tuple #[.bool r.1,.int .i64 r.2]∧H'=[]∧IntKind.i64.has r.2):=by
 refine A.Ct.enter Tryz.func90 rfl Tryz.ntmps90 rfl fun w0 F0=>?_
 rw[F.fn_Filter]at hF
 refine A.xl 1 ?_
 refine A.AL.box 3 (cs:=[.int .i64 a0.1,.int .i64 a0.2.1,.string a0.2.2]) fun g1=>?_
 refine A.AL.box 4 (cs:=[.int .i64 a1.1,.string a1.2]) fun g2=>?_
 refine A.q0 [] [] [.n,.n] [] ?_
 refine A.dl 3 ?_
 refine A.q0 [3,4] [] [.b 0 0,.b 1 0] [(7,.agg #[.int .i64 a0.1,.int .i64 a0.2.1,.string a0.2.2]),(8,.agg #[.int .i64 a1.1,.string a1.2])] ?_
 obtain⟨r3,hv4,hF⟩:=A.bd_some hF
 refine A.AL.call 5 [] (first:=[]) (cap:=[]) cf102 (fn_both_ok 3 (a0.1,a0.2.1,a0.2.2) (a1.1,a1.2) (A.hasl .i64 (3) rfl) h0_ h1_ h2_ h3_ h4_ r3 hv4) (.s 0 (.s 1 .nil)) ?_
 rintro _ _ ⟨rfl,rfl,hr5⟩
 refine⟨by kernel_rfl,?_⟩
 refine A.q0 [] [] [.n] [(6,.int .i64 r3)] ?_
 refine A.dl 2 ?_
 refine A.q0 [] [] [.n,.n] [(11,.bool (decide (r3≠0)))] ?_
 refine A.dx 1 ?_
 refine A.AX.cnd rfl hF (fun hb hF=>?_) (fun hb hF=>?_)
 ·refine A.xl 1 ?_
  refine A.q0 [] [] [.n,.n,.n] [(4,.bool false),(5,.int .i64 r3)] ?_
  refine A.dx 1 ?_
  obtain rfl:=Option.some.inj hF
  exact A.rt2 [] ⟨rfl,rfl,hr5⟩
 refine A.xl 4 ?_
 refine A.q0 [3] [] [.n,.b 0 0] [(14,.int .i64 a0.1)] ?_
 refine A.dl 3 ?_
 refine A.q0 [] [] [.n,.n] [(15,.bool (decide (a0.1=11)))] ?_
 refine A.dx 1 ?_
 refine A.AX.cnd rfl hF (fun hb hF=>?_) (fun hb hF=>?_)
 ·refine A.xl 1 ?_
  obtain⟨hc6,hF⟩:=A.gd_some hF
  refine A.q [4,3] [] [.n,.b 0 0,.n,.b 1 1,.n,.n,.n,.n] [a0.2.1≠0] [(4,.bool (decide (Int.tmod a1.1 a0.2.1=0))),(5,.int .i64 0)] hc6 ?_
  refine A.dx 1 ?_
  obtain rfl:=Option.some.inj hF
  exact A.rt2 [] ⟨rfl,rfl,(A.hasl .i64 (0) rfl)⟩
 refine A.xl 1 ?_
 refine A.q0 [] [] [.n,.n] [(23,.bool (decide (a0.1=12)))] ?_
 refine A.dx 1 ?_
 refine A.AX.cnd rfl hF (fun hb hF=>?_) (fun hb hF=>?_)
 ·refine A.xl 1 ?_
  refine A.q0 [4,3] [] [.n,.b 0 1,.n,.b 1 2] [(26,.string a1.2),(28,.string a0.2.2)] ?_
  obtain⟨r7,hv8,hF⟩:=A.bd_some hF
  refine A.AL.call 45 [] (first:=[]) (cap:=[]) cf127 (strings_Contains_ok a1.2 a0.2.2 m5_ h4_ h2_ r7 hv8) (.s 2 .nil) ?_
  rintro _ _ ⟨rfl,rfl⟩
  refine⟨by kernel_rfl,?_⟩
  refine A.q0 [] [] [.n,.n] [(4,.bool r7),(5,.int .i64 0)] ?_
  refine A.dx 1 ?_
  obtain rfl:=Option.some.inj hF
  exact A.rt2 [] ⟨rfl,rfl,(A.hasl .i64 (0) rfl)⟩
 refine A.xx 4 ?_
 refine A.AX.dr mixed 9 9 (A.mb 9 0) ?_
 refine A.hq A.pb [] [0,1,2,3,4] [4,3] [] (A.mb 9 51) 5 [(0,.n),(4,.n),(1,.b 0 1),(5,.b 1 1)] [(31,.string a1.2),(35,.int .i64 a0.2.1)] ?_
 refine A.AH.one 2 ?_
 obtain⟨r9,hv10,hF⟩:=A.bd_some hF
 refine A.AL.call 85 [] (first:=[]) (cap:=[]) cf103 (fn_runes_ok a1.2 h4_ r9 hv10) .nil ?_
 rintro _ _ ⟨A11,c12,rfl,rfl⟩
 refine⟨by kernel_rfl,?_⟩
 refine A.AH.nx (A.mb 9 55) [0,1,2,3,4] ?_
 refine A.hq A.pb [0,1,2,3,4] [0,1,2,3,4,85] [] [] (A.mb 9 511) 0 [(3,.n),(6,.n),(7,.n),(8,.n)] [(4,.bool (decide (a0.2.1≤((r9).length:Int)))),(5,.int .i64 0)] ?_
 refine A.AH.done ?_
 refine A.ex 1 ?_
 obtain rfl:=Option.some.inj hF
 exact A.rt2 [] ⟨rfl,rfl,(A.hasl .i64 (0) rfl)⟩
def F.fn_words_l1 (a0:ByteArray)(a1:Int):Nat→Nat→(List ByteArray)→(List Int)→Option (List ByteArray)
 |0,_,_,_=>none
 |f+1,p2,xs5,xs8=>if p2<a0.size then(if((Utf8.decode a0 p2).1:Int)≠a1 then(A.gd ((List.length (α:=Int) xs8+List.length (α:=Int) [((Utf8.decode a0 p2).1:Int)])*4≤140737488355328) ((F.fn_words_l1 a0 a1 f) (p2+(Utf8.decode a0 p2).2) xs5 (xs8++[((Utf8.decode a0 p2).1:Int)])))else(A.gd ((runesBytes xs8).size≤9223372036854775807) (A.gd ((List.length (α:=ByteArray) xs5+List.length (α:=ByteArray) [runesBytes xs8])*16≤140737488355328) ((F.fn_words_l1 a0 a1 f) (p2+(Utf8.decode a0 p2).2) (xs5++[runesBytes xs8]) []))))else(A.gd ((runesBytes xs8).size≤9223372036854775807) (A.gd ((List.length (α:=ByteArray) xs5+List.length (α:=ByteArray) [runesBytes xs8])*16≤140737488355328) (some (xs5++[runesBytes xs8]))))
def F.fn_words (a0:ByteArray)(a1:Int):Option (List ByteArray):=F.fn_words_l1 a0 a1 A.FU 0 [] []
theorem fn_words_ok (a0:ByteArray)(a1:Int)(h0_:a0.size≤maxLen)(h1_:IntKind.i32.has a1)(r:(List ByteArray))(hF:F.fn_words a0 a1=some r):
    A.Ct Tryz.prog 128 [.string a0,.int .i32 a1] [] [] (fun v H'=>∃(A0':Option Addr) (c1':Nat),v=.slice A0' ((r).length) c1'∧H'=[(0,.own Z.Ty.str 9 A0' c1' r)]):=by
 refine A.Ct.enter Tryz.func128 rfl Tryz.ntmps128 rfl fun w0 F0=>?_
 rw[F.fn_words]at hF
 refine A.xl 1 ?_
 refine A.q0 [] [] [.n] [] ?_
 refine A.dl 2 ?_
 refine A.q0 [] [] [.n] [(5,.slice none 0 0)] ?_
 refine A.dl 2 ?_
 refine A.q0 [] [] [.n] [(6,.slice none 0 0)] ?_
 refine A.dl 3 ?_
 refine A.q0 [] [] [.n] [(9,.string a0)] ?_
 refine A.AL.rgs 0 fun g1=>?_
 refine A.dx 2 ?_
 refine A.nil 9 Z.Ty.str 9 ?_
 refine A.nil 10 (Z.Ty.int .i32) 21 ?_
 refine A.lp_ [1,10] [] (fun f nl nh=>∃(p2:Nat),∃(xs5:List ByteArray),∃(xs8:List Int),∃(A3:Option Addr),∃(c4:Nat),∃(A6:Option Addr),∃(c7:Nat),nl=[(5,.slice A3 ((xs5).length) c4),(6,.slice A6 ((xs8).length) c7)]∧nh=[(0,.si g1 a0 p2),(9,.own Z.Ty.str 9 A3 c4 xs5),(10,.own (Z.Ty.int .i32) 21 A6 c7 xs8)]∧F.fn_words_l1 a0 a1 f p2 xs5 xs8=some r) ⟨0,[],[],none,0,none,0,rfl,rfl,hF⟩ ?_
 rintro f9 _ _ ⟨p2,xs5,xs8,A3,c4,A6,c7,rfl,rfl,hF⟩
 rcases f9 with _|f9
 ·exact A.no0 hF
 rw[F.fn_words_l1]at hF
 refine A.xl 1 ?_
 refine A.AL.nxs 0 [] hF (fun hb10 hF=>?_) (fun hb hF=>?_)
 ·refine A.q0 [] [] [.n] [(12,.bool true)] ?_
  refine A.dx 2 ?_
  refine A.AX.cnt rfl ?_
  refine A.xl 4 ?_
  refine A.q0 [] [] [.n,.n] [(8,.int .i32 ((Utf8.decode a0 p2).1:Int))] ?_
  refine A.dl 3 ?_
  refine A.q0 [] [] [.n,.n,.n] [(16,.bool (decide (((Utf8.decode a0 p2).1:Int)≠a1)))] ?_
  refine A.dx 1 ?_
  refine A.AX.cnd rfl hF (fun hb hF=>?_) (fun hb hF=>?_)
  ·refine A.xl 1 ?_
   refine A.q0 [] [] [.n,.n] [(17,.slice A6 ((xs8).length) c7),(18,.int .i32 ((Utf8.decode a0 p2).1:Int))] ?_
   refine A.AL.bsl 21 (ty:=(Z.Ty.int .i32)) (cs:=[.int .i32 ((Utf8.decode a0 p2).1:Int)]) [((Utf8.decode a0 p2).1:Int)] ⟨⟨rfl,A.dec_has⟩,rfl⟩ (fun g11=>?_) Tryz.zeroValue21 Tryz.sizeOf21
   obtain⟨hl14,hF⟩:=A.gd_some hF
   refine A.AL.app (k:=10) [] (A.rowO (k:=21) rfl) inf21 hl14 fun A12 c13=>?_
   refine A.q0 [] [] [.n] [(6,.slice A12 ((xs8++[((Utf8.decode a0 p2).1:Int)]).length) c13)] ?_
   refine A.de 2 ?_
   exact A.j ⟨_,Nat.lt_succ_self _,⟨(p2+(Utf8.decode a0 p2).2),xs5,(xs8++[((Utf8.decode a0 p2).1:Int)]),A3,c4,A12,c13,rfl,rfl,hF⟩⟩
  refine A.xl 3 ?_
  refine A.q0 [] [] [.n,.n] [(21,.slice A3 ((xs5).length) c4),(22,.slice A6 ((xs8).length) c7)] ?_
  obtain⟨hl15,hF⟩:=A.gd_some hF
  refine A.AL.cvr (A.rowO (k:=10) rfl) rfl ?_
  refine A.AL.bsl 22 (ty:=Z.Ty.str) (cs:=[.string (runesBytes xs8)]) [runesBytes xs8] ⟨⟨rfl,(A.le_max hl15)⟩,rfl⟩ (fun g16=>?_) Tryz.zeroValue9 Tryz.sizeOf9
  obtain⟨hl19,hF⟩:=A.gd_some hF
  refine A.AL.app (k:=9) [] (A.rowO (k:=22) rfl) inf9 hl19 fun A17 c18=>?_
  refine A.q0 [] [] [.n] [(5,.slice A17 ((xs5++[runesBytes xs8]).length) c18)] ?_
  refine A.dl 1 ?_
  refine A.q0 [] [] [.n] [(6,.slice none 0 0)] ?_
  refine A.de 1 ?_
  refine A.nil 23 (Z.Ty.int .i32) 21 ?_
  refine A.mv 10 24 [] ?_
  refine A.mvd 23 10 [] ?_
  exact A.j ⟨_,Nat.lt_succ_self _,⟨(p2+(Utf8.decode a0 p2).2),(xs5++[runesBytes xs8]),[],A17,c18,none,0,rfl,rfl,hF⟩⟩
 refine A.q0 [] [] [.n] [(12,.bool false)] ?_
 refine A.dx 2 ?_
 refine A.AX.cnf rfl ?_
 refine A.xl 3 ?_
 refine A.q0 [] [] [.n,.n] [(26,.slice A3 ((xs5).length) c4),(27,.slice A6 ((xs8).length) c7)] ?_
 obtain⟨hl20,hF⟩:=A.gd_some hF
 refine A.AL.cvr (A.rowO (k:=10) rfl) rfl ?_
 refine A.AL.bsl 25 (ty:=Z.Ty.str) (cs:=[.string (runesBytes xs8)]) [runesBytes xs8] ⟨⟨rfl,(A.le_max hl20)⟩,rfl⟩ (fun g21=>?_) Tryz.zeroValue9 Tryz.sizeOf9
 obtain⟨hl24,hF⟩:=A.gd_some hF
 refine A.AL.app (k:=9) [] (A.rowO (k:=25) rfl) inf9 hl24 fun A22 c23=>?_
 refine A.q0 [] [] [.n] [(4,.slice A22 ((xs5++[runesBytes xs8]).length) c23)] ?_
 refine A.dx 1 ?_
 obtain rfl:=Option.some.inj hF
 exact A.rt1 [(0,9)] ⟨A22,c23,rfl,rfl⟩
end Go.Proofs.YtbljnlkhebiniaaGreatDoor
end
section
set_option linter.unusedVariables false
set_option linter.unusedSimpArgs false
set_option maxRecDepth 20000
set_option maxHeartbeats 8000000
set_option synthInstance.maxSize 1000000
set_option synthInstance.maxHeartbeats 400000
namespace Go.Proofs.YtbljnlkhebiniaaGreatDoor
open Go.RowKit
def F.fn_Split_j1 (k3:(List D43)→Int→Option ((List D43)×Int))(y12:Int)(xs17:List D43):Option ((List D43)×Int):=A.gd (Z.R64 (y12+1)) (k3 xs17 (y12+1))
def F.fn_Split_l2 (a1:D43)(xs8:List ByteArray):Nat→(List D43)→Int→Option ((List D43)×Int)
 |0,_,_=>none
 |f+1,xs11,y12=>if y12<((xs8).length:Int)then((A.ix xs8 y12).bind fun x19=>(if(bif decide (x19≠(ByteArray.mk #[]))then decide (((xs11).length:Int)<4)else false)=true then(A.gd ((List.length (α:=D43) xs11+List.length (α:=D43) [(a1.1,x19)])*24≤140737488355328) (F.fn_Split_j1 (F.fn_Split_l2 a1 xs8 f) y12 (xs11++[(a1.1,x19)])))else(F.fn_Split_j1 (F.fn_Split_l2 a1 xs8 f) y12 xs11)))else(some (xs11,0))
def F.fn_Split_j3 (a1:D43)(xs8:List ByteArray):Option ((List D43)×Int):=F.fn_Split_l2 a1 xs8 A.FU [] 0
def F.fn_Split_l4 (a1:D43):Nat→(List ByteArray)→Nat→Option ((List D43)×Int)
 |0,_,_=>none
 |f+1,xs44,p45=>if p45<a1.2.size then(A.gd ((runesBytes [((Utf8.decode a1.2 p45).1:Int)]).size≤9223372036854775807) (A.gd ((List.length (α:=ByteArray) xs44+List.length (α:=ByteArray) [runesBytes [((Utf8.decode a1.2 p45).1:Int)]])*16≤140737488355328) ((F.fn_Split_l4 a1 f) (xs44++[runesBytes [((Utf8.decode a1.2 p45).1:Int)]]) (p45+(Utf8.decode a1.2 p45).2))))else(F.fn_Split_j3 a1 xs44)
def F.fn_Split (a0:D23)(a1:D43):Option ((List D43)×Int):=(F.fn_both 4 (a0.1,a0.2.1,a0.2.2) (a1.1,a1.2)).bind fun r3=>(if r3≠0 then(some ([],r3))else(if a0.1=22 then((F.fn_runes a0.2.2).bind fun r28=>((A.ix r28 0).bind fun x32=>((F.fn_words a1.2 x32).bind fun r37=>(F.fn_Split_j3 a1 r37))))else(F.fn_Split_l4 a1 A.FU [] 0)))
theorem fn_Split_ok (a0:D23)(a1:D43)(h0_:IntKind.i64.has a0.1)(h1_:IntKind.i64.has a0.2.1)(h2_:a0.2.2.size≤maxLen)(h3_:IntKind.i64.has a1.1)(h4_:a1.2.size≤maxLen)(r:(List D43)×Int)(hF:F.fn_Split a0 a1=some r):
    A.Ct Tryz.prog 91 [.agg #[.int .i64 a0.1,.int .i64 a0.2.1,.string a0.2.2],.agg #[.int .i64 a1.1,.string a1.2]] [(0,.el none 1 0 A.tabF),(1,.el none 2 0 A.tabA)] [] (fun v H'=>∃(A0':Option Addr) (c1':Nat),v=.tuple #[.slice A0' ((r.1).length) c1',.int .i64 r.2]∧H'=[(0,.own T43 44 A0' c1' r.1)]∧IntKind.i64.has r.2):=by
 refine A.Ct.enter Tryz.func91 rfl Tryz.ntmps91 rfl fun w0 F0=>?_
 rw[F.fn_Split]at hF
 refine A.xl 1 ?_
 refine A.AL.box 2 (cs:=[.int .i64 a0.1,.int .i64 a0.2.1,.string a0.2.2]) fun g1=>?_
 refine A.AL.box 3 (cs:=[.int .i64 a1.1,.string a1.2]) fun g2=>?_
 refine A.q0 [] [] [.n,.n] [] ?_
 refine A.dl 3 ?_
 refine A.q0 [2,3] [] [.b 0 0,.b 1 0] [(13,.agg #[.int .i64 a0.1,.int .i64 a0.2.1,.string a0.2.2]),(14,.agg #[.int .i64 a1.1,.string a1.2])] ?_
 obtain⟨r3,hv4,hF⟩:=A.bd_some hF
 refine A.AL.call 4 [] (first:=[]) (cap:=[]) cf102 (fn_both_ok 4 (a0.1,a0.2.1,a0.2.2) (a1.1,a1.2) (A.hasl .i64 (4) rfl) h0_ h1_ h2_ h3_ h4_ r3 hv4) (.s 0 (.s 1 .nil)) ?_
 rintro _ _ ⟨rfl,rfl,hr5⟩
 refine⟨by kernel_rfl,?_⟩
 refine A.q0 [] [] [.n] [(6,.int .i64 r3)] ?_
 refine A.dl 2 ?_
 refine A.q0 [] [] [.n,.n] [(17,.bool (decide (r3≠0)))] ?_
 refine A.dx 1 ?_
 refine A.AX.cnd rfl hF (fun hb hF=>?_) (fun hb hF=>?_)
 ·refine A.xl 1 ?_
  refine A.q0 [] [] [.n,.n,.n] [(4,.slice none 0 0),(5,.int .i64 r3)] ?_
  refine A.dx 1 ?_
  obtain rfl:=Option.some.inj hF
  refine A.nil 44 T43 44 ?_
  exact A.rt2 [(0,44)] ⟨none,0,rfl,rfl,hr5⟩
 refine A.xl 3 ?_
 refine A.q0 [] [] [.n] [(7,.slice none 0 0)] ?_
 refine A.dx 1 ?_
 refine A.nil 137 Z.Ty.str 9 ?_
 refine A.AX.join [3] [0,1,3] (fun nl nh=>∃(xs8:List ByteArray),∃(A6:Option Addr),∃(c7:Nat),nl=[(7,.slice A6 ((xs8).length) c7)]∧nh=[(226,.own Z.Ty.str 9 A6 c7 xs8)]∧F.fn_Split_j3 a1 xs8=some r) ?_ ?_
 ·refine A.xl 1 ?_
  refine A.q0 [2] [] [.n,.b 0 0,.n] [(21,.bool (decide (a0.1=22)))] ?_
  refine A.dx 1 ?_
  refine A.AX.cnd rfl hF (fun hb hF=>?_) (fun hb hF=>?_)
  ·refine A.AX.dr mixed 9 9 (A.mb 9 0) ?_
   refine A.hq A.pb [] [0,1,2,3,137] [3,2] [] (A.mb 9 15) 5 [(0,.n),(2,.n),(1,.b 0 1),(3,.b 1 2)] [(23,.string a1.2),(25,.string a0.2.2)] ?_
   refine A.AH.one 4 ?_
   obtain⟨r28,hv29,hF⟩:=A.bd_some hF
   refine A.AL.call 138 [] (first:=[]) (cap:=[]) cf103 (fn_runes_ok a0.2.2 h2_ r28 hv29) .nil ?_
   rintro _ _ ⟨A30,c31,rfl,rfl⟩
   refine⟨by kernel_rfl,?_⟩
   refine A.AH.nx (A.mb 9 31) [0,1,2,3,137] ?_
   obtain⟨x32,hv33,hF⟩:=A.bd_some hF
   refine A.AH.pko 138 178 hv33 fun ho34=>?_
   intro g36 hA35
   refine A.AH.v A.pb [0,1,2,3,137] [0,1,2,3,137,138,178] 5 (A.mb 9 63) rfl (fun a w hf hh=>A.r_ixo (t:=(Z.Ty.int .i32)) hv33 hA35 hf) ?_
   refine A.hq A.pb [0,1,2,3,137,138,178] [0,1,2,3,137,138,178] [] [178] (A.mb 9 127) 2 [(6,.e 0 0)] [(28,.int .i32 x32)] ?_
   refine A.AH.one 7 ?_
   obtain⟨r37,hv38,hF⟩:=A.bd_some hF
   refine A.AL.call 179 [] (first:=[]) (cap:=[]) cf128 (fn_words_ok a1.2 x32 h4_ ho34 r37 hv38) .nil ?_
   rintro _ _ ⟨A39,c40,rfl,rfl⟩
   refine⟨by kernel_rfl,?_⟩
   refine A.AH.nx (A.mb 9 255) [0,1,2,3,137,138,178] ?_
   refine A.hq A.pb [0,1,2,3,137,138,178] [0,1,2,3,137,138,178,179] [] [] (A.mb 9 511) 0 [(8,.n)] [(7,.slice A39 ((r37).length) c40)] ?_
   refine A.AH.done ?_
   refine A.mv 179 226 [] ?_
   exact A.j ⟨r37,A39,c40,rfl,rfl,hF⟩
  refine A.xl 1 ?_
  refine A.q0 [3] [] [.n,.b 0 1] [(31,.string a1.2)] ?_
  refine A.AL.rgs 219 fun g41=>?_
  refine A.dx 2 ?_
  refine A.lp_ [3,32] [0,1,3] (fun f nl nh=>∃(xs44:List ByteArray),∃(p45:Nat),∃(A42:Option Addr),∃(c43:Nat),nl=[(7,.slice A42 ((xs44).length) c43)]∧nh=[(137,.own Z.Ty.str 9 A42 c43 xs44),(219,.si g41 a1.2 p45)]∧F.fn_Split_l4 a1 f xs44 p45=some r) ⟨[],0,none,0,rfl,rfl,hF⟩ ?_
  rintro f46 _ _ ⟨xs44,p45,A42,c43,rfl,rfl,hF⟩
  rcases f46 with _|f46
  ·exact A.no0 hF
  rw[F.fn_Split_l4]at hF
  refine A.xl 1 ?_
  refine A.AL.nxs 219 [] hF (fun hb47 hF=>?_) (fun hb hF=>?_)
  ·refine A.q0 [] [] [.n] [(34,.bool true)] ?_
   refine A.dx 2 ?_
   refine A.AX.cnt rfl ?_
   refine A.xl 4 ?_
   refine A.q0 [] [] [.n,.n] [(9,.int .i32 ((Utf8.decode a1.2 p45).1:Int))] ?_
   refine A.dl 1 ?_
   refine A.q0 [] [] [.n,.n] [(36,.slice A42 ((xs44).length) c43),(37,.int .i32 ((Utf8.decode a1.2 p45).1:Int))] ?_
   refine A.AL.bsl 224 (ty:=(Z.Ty.int .i32)) (cs:=[.int .i32 ((Utf8.decode a1.2 p45).1:Int)]) [((Utf8.decode a1.2 p45).1:Int)] ⟨⟨rfl,A.dec_has⟩,rfl⟩ (fun g48=>?_) Tryz.zeroValue21 Tryz.sizeOf21
   obtain⟨hl49,hF⟩:=A.gd_some hF
   refine A.AL.cvr (A.rowO (k:=224) rfl) rfl ?_
   refine A.AL.bsl 225 (ty:=Z.Ty.str) (cs:=[.string (runesBytes [((Utf8.decode a1.2 p45).1:Int)])]) [runesBytes [((Utf8.decode a1.2 p45).1:Int)]] ⟨⟨rfl,(A.le_max hl49)⟩,rfl⟩ (fun g50=>?_) Tryz.zeroValue9 Tryz.sizeOf9
   obtain⟨hl53,hF⟩:=A.gd_some hF
   refine A.AL.app (k:=137) [] (A.rowO (k:=225) rfl) inf9 hl53 fun A51 c52=>?_
   refine A.q0 [] [] [.n] [(7,.slice A51 ((xs44++[runesBytes [((Utf8.decode a1.2 p45).1:Int)]]).length) c52)] ?_
   refine A.de 1 ?_
   exact A.j ⟨_,Nat.lt_succ_self _,⟨(xs44++[runesBytes [((Utf8.decode a1.2 p45).1:Int)]]),(p45+(Utf8.decode a1.2 p45).2),A51,c52,rfl,rfl,hF⟩⟩
  refine A.q0 [] [] [.n] [(34,.bool false)] ?_
  refine A.dx 2 ?_
  refine A.AX.cnf rfl ?_
  refine A.xe 1 ?_
  refine A.mv 137 226 [] ?_
  exact A.j ⟨xs44,A42,c43,rfl,rfl,hF⟩
 rintro _ _ ⟨xs8,A6,c7,rfl,rfl,hF⟩
 rw[F.fn_Split_j3]at hF
 refine A.xl 1 ?_
 refine A.q0 [] [] [.n] [(10,.slice none 0 0)] ?_
 refine A.dl 3 ?_
 refine A.q0 [] [] [.n,.n,.n] [(42,.slice A6 ((xs8).length) c7),(43,.int .i64 ((xs8).length:Int)),(44,.int .i64 0)] ?_
 refine A.dx 2 ?_
 refine A.nil 234 T43 44 ?_
 refine A.lp_ [3,42,43] [0,1,3,226] (fun f nl nh=>∃(xs11:List D43),∃(y12:Int),∃(A9:Option Addr),∃(c10:Nat),nl=[(10,.slice A9 ((xs11).length) c10),(44,.int .i64 y12)]∧nh=[(234,.own T43 44 A9 c10 xs11)]∧IntKind.i64.has y12∧F.fn_Split_l2 a1 xs8 f xs11 y12=some r) ⟨[],0,none,0,rfl,rfl,(A.hasl .i64 (0) rfl),hF⟩ ?_
 rintro f14 _ _ ⟨xs11,y12,A9,c10,rfl,rfl,hy13,hF⟩
 rcases f14 with _|f14
 ·exact A.no0 hF
 rw[F.fn_Split_l2]at hF
 refine A.xl 1 ?_
 refine A.q0 [] [] [.n] [(45,.bool (decide (y12<((xs8).length:Int))))] ?_
 refine A.dx 2 ?_
 refine A.AX.cnd rfl hF (fun hb hF=>?_) (fun hb hF=>?_)
 ·refine A.xx 2 ?_
  refine A.AX.join [3,42,43,44] [0,1,3,226] (fun nl nh=>∃(xs17:List D43),∃(A15:Option Addr),∃(c16:Nat),nl=[(10,.slice A15 ((xs17).length) c16)]∧nh=[(234,.own T43 44 A15 c16 xs17)]∧F.fn_Split_j1 (F.fn_Split_l2 a1 xs8 f14) y12 xs17=some r) ?_ ?_
  ·refine A.xl 2 ?_
   obtain⟨x19,hv20,hF⟩:=A.bd_some hF
   refine A.AL.ixo 226 239 hv20 fun ho21=>?_
   intro g22 hA23
   refine A.q0 [] [239] [.e 0 0,.n] [(12,.string x19)] ?_
   refine A.dl 2 ?_
   refine A.q0 [] [] [.n,.n,.n,.sy .n,.sy .n,.sy .n,.pk] [(54,.bool (bif decide (x19≠(ByteArray.mk #[]))then decide (((xs11).length:Int)<4)else false))] ?_
   refine A.dx 1 ?_
   refine A.AX.cnb rfl hF (fun hb hF=>?_) (fun hb hF=>?_)
   ·refine A.xl 0 ?_
    refine A.q0 [3] [] [.n,.n,.b 0 0,.n,.n] [(55,.slice A9 ((xs11).length) c10),(59,.agg #[.int .i64 a1.1,.string x19])] ?_
    refine A.AL.bsl 240 (ty:=T43) (cs:=[.int .i64 a1.1,.string x19]) [(a1.1,x19)] ⟨⟨⟨rfl,h3_⟩,⟨rfl,ho21⟩⟩,rfl⟩ (fun g24=>?_) Tryz.zeroValue44 Tryz.sizeOf44
    obtain⟨hl27,hF⟩:=A.gd_some hF
    refine A.AL.app (k:=234) [] (A.rowO (k:=240) rfl) inf44 hl27 fun A25 c26=>?_
    refine A.q0 [] [] [.n] [(10,.slice A25 ((xs11++[(a1.1,x19)]).length) c26)] ?_
    refine A.de 1 ?_
    exact A.j ⟨(xs11++[(a1.1,x19)]),A25,c26,rfl,rfl,hF⟩
   refine A.xe 2 ?_
   exact A.j ⟨xs11,A9,c10,rfl,rfl,hF⟩
  rintro _ _ ⟨xs17,A15,c16,rfl,rfl,hF⟩
  rw[F.fn_Split_j1]at hF
  refine A.xl 0 ?_
  obtain⟨hc18,hF⟩:=A.gd_some hF
  refine A.q [] [] [.n,.n] [Z.R64 (y12+1)] [(44,.int .i64 (y12+1))] hc18 ?_
  refine A.AL.done ?_
  exact A.j ⟨_,Nat.lt_succ_self _,⟨xs17,(y12+1),A15,c16,rfl,rfl,(Z.i64_has hc18),hF⟩⟩
 refine A.xl 3 ?_
 refine A.q0 [] [] [.n,.n,.n] [(4,.slice A9 ((xs11).length) c10),(5,.int .i64 0)] ?_
 refine A.dx 1 ?_
 obtain rfl:=Option.some.inj hF
 exact A.rt2 [(0,234)] ⟨A9,c10,rfl,rfl,(A.hasl .i64 (0) rfl)⟩
def F.oper_each_j1:Option (List D43):=some []
def F.oper_each (a0:D25)(a1:D43):Option (List D43):=if a0.2.1=2 then((F.fn_Map (a0.2.2.2.1.1,a0.2.2.2.1.2.1,a0.2.2.2.1.2.2) (a1.1,a1.2)).bind fun r3=>(if r3.2=0 then(some [(r3.1.1,r3.1.2)])else(F.oper_each_j1)))else(if a0.2.1=3 then((F.fn_Filter (a0.2.2.2.1.1,a0.2.2.2.1.2.1,a0.2.2.2.1.2.2) (a1.1,a1.2)).bind fun r10=>(if(bif r10.1 then decide (r10.2=0)else false)=true then(some [(a1.1,a1.2)])else(F.oper_each_j1)))else(if a0.2.1=4 then((F.fn_Split (a0.2.2.2.1.1,a0.2.2.2.1.2.1,a0.2.2.2.1.2.2) (a1.1,a1.2)).bind fun r14=>(if r14.2=0 then(some r14.1)else(F.oper_each_j1)))else(some [(a1.1,a1.2)])))
theorem oper_each_ok (a0:D25)(a1:D43)(A2_:Option Addr)(c3_:Nat)(m12_:Int)(h0_:IntKind.i64.has a0.1)(h1_:IntKind.i64.has a0.2.1)(h4_:IntKind.i64.has a0.2.2.2.1.1)(h5_:IntKind.i64.has a0.2.2.2.1.2.1)(h6_:a0.2.2.2.1.2.2.size≤maxLen)(h7_:a0.2.2.2.2.1.size≤maxLen)(h8_:IntKind.i64.has a0.2.2.2.2.2.1)(h9_:IntKind.i64.has a0.2.2.2.2.2.2)(h10_:IntKind.i64.has a1.1)(h11_:a1.2.size≤maxLen)(r:(List D43))(hF:F.oper_each a0 a1=some r):
    A.Ct Tryz.prog 50 [.agg #[.int .i64 a0.1,.int .i64 a0.2.1,.slice A2_ ((a0.2.2.1).length) c3_,.int .i64 a0.2.2.2.1.1,.int .i64 a0.2.2.2.1.2.1,.string a0.2.2.2.1.2.2,.string a0.2.2.2.2.1,.int .i64 a0.2.2.2.2.2.1,.int .i64 a0.2.2.2.2.2.2],.agg #[.int .i64 a1.1,.string a1.2]] [(0,.sh (.slice (Z.Ty.int .i64)) [.slice A2_ (a0.2.2.1).length c3_] a0.2.2.1),(1,.el none 1 0 A.tabF),(2,.el none 2 0 A.tabA),(3,.el none 0 0 [.int .i64 m12_])] [] (fun v H'=>∃(A0':Option Addr) (c1':Nat),v=.slice A0' ((r).length) c1'∧H'=[(0,.own T43 44 A0' c1' r)]):=by
 refine A.Ct.enter Tryz.func50 rfl Tryz.ntmps50 rfl fun w0 F0=>?_
 rw[F.oper_each]at hF
 refine A.xl 1 ?_
 refine A.AL.box 4 (cs:=[.int .i64 a0.1,.int .i64 a0.2.1,.slice A2_ ((a0.2.2.1).length) c3_,.int .i64 a0.2.2.2.1.1,.int .i64 a0.2.2.2.1.2.1,.string a0.2.2.2.1.2.2,.string a0.2.2.2.2.1,.int .i64 a0.2.2.2.2.2.1,.int .i64 a0.2.2.2.2.2.2]) fun g1=>?_
 refine A.AL.box 5 (cs:=[.int .i64 a1.1,.string a1.2]) fun g2=>?_
 refine A.q0 [] [] [.n] [] ?_
 refine A.dx 1 ?_
 refine A.AX.join [] [] (fun nl nh=>nl=[]∧nh=[]∧F.oper_each_j1=some r) ?_ ?_
 ·refine A.xl 1 ?_
  refine A.q0 [4] [] [.n,.b 0 1] [(12,.int .i64 a0.2.1)] ?_
  refine A.dl 3 ?_
  refine A.q0 [] [] [.n,.n] [(15,.bool (decide (a0.2.1=2)))] ?_
  refine A.dx 1 ?_
  refine A.AX.cnd rfl hF (fun hb hF=>?_) (fun hb hF=>?_)
  ·refine A.xl 1 ?_
   refine A.q0 [4,5] [] [.n,.b 0 3,.b 1 0] [(19,.agg #[.int .i64 a0.2.2.2.1.1,.int .i64 a0.2.2.2.1.2.1,.string a0.2.2.2.1.2.2]),(20,.agg #[.int .i64 a1.1,.string a1.2])] ?_
   obtain⟨r3,hv4,hF⟩:=A.bd_some hF
   refine A.AL.call 6 [] (first:=[]) (cap:=[]) cf89 (fn_Map_ok (a0.2.2.2.1.1,a0.2.2.2.1.2.1,a0.2.2.2.1.2.2) (a1.1,a1.2) h4_ h5_ h6_ h10_ h11_ r3 hv4) (.s 1 (.s 2 .nil)) ?_
   rintro _ _ ⟨rfl,rfl,hr5,hr6,hr7⟩
   refine⟨by kernel_rfl,?_⟩
   refine A.q0 [] [] [.n,.n,.n] [(22,.agg #[.int .i64 r3.1.1,.string r3.1.2]),(23,.int .i64 r3.2)] ?_
   refine A.AL.alloc 46 (cs:=[.int .i64 0,.string (ByteArray.mk #[])]) Tryz.zeroValue44 fun g8=>?_
   refine A.sw 46 [] [.int .i64 r3.1.1,.string r3.1.2] ?_
   refine A.q0 [] [] [.n] [(6,.int .i64 r3.2)] ?_
   refine A.dl 2 ?_
   refine A.q0 [] [] [.n,.n] [(25,.bool (decide (r3.2=0)))] ?_
   refine A.dx 1 ?_
   refine A.AX.cnd rfl hF (fun hb hF=>?_) (fun hb hF=>?_)
   ·refine A.xl 1 ?_
    refine A.q0 [46] [] [.b 0 0] [(26,.agg #[.int .i64 r3.1.1,.string r3.1.2])] ?_
    refine A.AL.bsl 47 (ty:=T43) (cs:=[.int .i64 r3.1.1,.string r3.1.2]) [(r3.1.1,r3.1.2)] ⟨⟨⟨rfl,hr5⟩,⟨rfl,hr6⟩⟩,rfl⟩ (fun g9=>?_) Tryz.zeroValue44 Tryz.sizeOf44
    refine A.q0 [] [] [.n] [(4,.slice (some ⟨g9,0,none⟩) 1 1)] ?_
    refine A.dx 1 ?_
    obtain rfl:=Option.some.inj hF
    exact A.rt1 [(0,47)] ⟨(some ⟨g9,0,none⟩),1,rfl,rfl⟩
   refine A.xe 2 ?_
   exact A.j ⟨rfl,rfl,hF⟩
  refine A.xl 1 ?_
  refine A.q0 [] [] [.n,.n] [(28,.bool (decide (a0.2.1=3)))] ?_
  refine A.dx 1 ?_
  refine A.AX.cnd rfl hF (fun hb hF=>?_) (fun hb hF=>?_)
  ·refine A.xl 1 ?_
   refine A.q0 [4,5] [] [.n,.b 0 3,.b 1 0] [(32,.agg #[.int .i64 a0.2.2.2.1.1,.int .i64 a0.2.2.2.1.2.1,.string a0.2.2.2.1.2.2]),(33,.agg #[.int .i64 a1.1,.string a1.2])] ?_
   obtain⟨r10,hv11,hF⟩:=A.bd_some hF
   refine A.AL.call 48 [] (first:=[]) (cap:=[]) cf90 (fn_Filter_ok (a0.2.2.2.1.1,a0.2.2.2.1.2.1,a0.2.2.2.1.2.2) (a1.1,a1.2) m12_ h4_ h5_ h6_ h10_ h11_ r10 hv11) (.s 1 (.s 2 (.s 3 .nil))) ?_
   rintro _ _ ⟨rfl,rfl,hr12⟩
   refine⟨by kernel_rfl,?_⟩
   refine A.q0 [] [] [.n,.n,.n,.n,.n] [(7,.bool r10.1),(8,.int .i64 r10.2)] ?_
   refine A.dl 2 ?_
   refine A.q0 [] [] [.n,.n,.sy .n,.sy .n,.pk] [(41,.bool (bif r10.1 then decide (r10.2=0)else false))] ?_
   refine A.dx 1 ?_
   refine A.AX.cnb rfl hF (fun hb hF=>?_) (fun hb hF=>?_)
   ·refine A.xl 1 ?_
    refine A.q0 [5] [] [.b 0 0] [(42,.agg #[.int .i64 a1.1,.string a1.2])] ?_
    refine A.AL.bsl 88 (ty:=T43) (cs:=[.int .i64 a1.1,.string a1.2]) [(a1.1,a1.2)] ⟨⟨⟨rfl,h10_⟩,⟨rfl,h11_⟩⟩,rfl⟩ (fun g13=>?_) Tryz.zeroValue44 Tryz.sizeOf44
    refine A.q0 [] [] [.n] [(4,.slice (some ⟨g13,0,none⟩) 1 1)] ?_
    refine A.dx 1 ?_
    obtain rfl:=Option.some.inj hF
    exact A.rt1 [(0,88)] ⟨(some ⟨g13,0,none⟩),1,rfl,rfl⟩
   refine A.xe 2 ?_
   exact A.j ⟨rfl,rfl,hF⟩
  refine A.xl 1 ?_
  refine A.q0 [] [] [.n,.n] [(44,.bool (decide (a0.2.1=4)))] ?_
  refine A.dx 1 ?_
  refine A.AX.cnd rfl hF (fun hb hF=>?_) (fun hb hF=>?_)
  ·refine A.xl 1 ?_
   refine A.q0 [4,5] [] [.n,.b 0 3,.b 1 0] [(48,.agg #[.int .i64 a0.2.2.2.1.1,.int .i64 a0.2.2.2.1.2.1,.string a0.2.2.2.1.2.2]),(49,.agg #[.int .i64 a1.1,.string a1.2])] ?_
   obtain⟨r14,hv15,hF⟩:=A.bd_some hF
   refine A.AL.call 89 [] (first:=[]) (cap:=[]) cf91 (fn_Split_ok (a0.2.2.2.1.1,a0.2.2.2.1.2.1,a0.2.2.2.1.2.2) (a1.1,a1.2) h4_ h5_ h6_ h10_ h11_ r14 hv15) (.s 1 (.s 2 .nil)) ?_
   rintro _ _ ⟨A16,c17,rfl,rfl,hr18⟩
   refine⟨by kernel_rfl,?_⟩
   refine A.q0 [] [] [.n,.n,.n,.n,.n] [(9,.slice A16 ((r14.1).length) c17),(10,.int .i64 r14.2)] ?_
   refine A.dl 2 ?_
   refine A.q0 [] [] [.n,.n] [(54,.bool (decide (r14.2=0)))] ?_
   refine A.dx 1 ?_
   refine A.AX.cnd rfl hF (fun hb hF=>?_) (fun hb hF=>?_)
   ·refine A.xl 1 ?_
    refine A.q0 [] [] [.n,.n] [(4,.slice A16 ((r14.1).length) c17)] ?_
    refine A.dx 1 ?_
    obtain rfl:=Option.some.inj hF
    exact A.rt1 [(0,89)] ⟨A16,c17,rfl,rfl⟩
   refine A.xe 2 ?_
   exact A.j ⟨rfl,rfl,hF⟩
  refine A.xl 1 ?_
  refine A.q0 [5] [] [.b 0 0] [(13,.agg #[.int .i64 a1.1,.string a1.2])] ?_
  refine A.AL.bsl 129 (ty:=T43) (cs:=[.int .i64 a1.1,.string a1.2]) [(a1.1,a1.2)] ⟨⟨⟨rfl,h10_⟩,⟨rfl,h11_⟩⟩,rfl⟩ (fun g19=>?_) Tryz.zeroValue44 Tryz.sizeOf44
  refine A.q0 [] [] [.n] [(4,.slice (some ⟨g19,0,none⟩) 1 1)] ?_
  refine A.dx 1 ?_
  obtain rfl:=Option.some.inj hF
  exact A.rt1 [(0,129)] ⟨(some ⟨g19,0,none⟩),1,rfl,rfl⟩
 rintro _ _ ⟨rfl,rfl,hF⟩
 rw[F.oper_each_j1]at hF
 refine A.xl 1 ?_
 refine A.q0 [] [] [.n] [(4,.slice none 0 0)] ?_
 refine A.dx 1 ?_
 obtain rfl:=Option.some.inj hF
 refine A.nil 130 T43 44 ?_
 exact A.rt1 [(0,130)] ⟨none,0,rfl,rfl⟩
end Go.Proofs.YtbljnlkhebiniaaGreatDoor
end
section
set_option linter.unusedVariables false
set_option linter.unusedSimpArgs false
set_option maxRecDepth 20000
set_option maxHeartbeats 8000000
set_option synthInstance.maxSize 1000000
set_option synthInstance.maxHeartbeats 400000
namespace Go.Proofs.YtbljnlkhebiniaaGreatDoor
open Go.RowKit
def F.oper_Batch_l1 (a0:D25)(a3:(List D43))(r7:D28×Bool×Int):Nat→(List D43)→Int→Option ((List D43)×D28×Int)
 |0,_,_=>none
 |f+1,xs19,y20=>if y20<((a3).length:Int)then((A.ix a3 y20).bind fun x23=>((F.oper_each (a0.1,a0.2.1,a0.2.2.1,(a0.2.2.2.1.1,a0.2.2.2.1.2.1,a0.2.2.2.1.2.2),a0.2.2.2.2.1,a0.2.2.2.2.2.1,a0.2.2.2.2.2.2) (x23.1,x23.2)).bind fun r29=>(A.gd ((List.length (α:=D43) xs19+List.length (α:=D43) r29)*24≤140737488355328) (A.gd (Z.R64 (y20+1)) ((F.oper_Batch_l1 a0 a3 r7 f) (xs19++r29) (y20+1))))))else(some (xs19,(r7.1.1,r7.1.2.1,(r7.1.2.2.1,r7.1.2.2.2.1,r7.1.2.2.2.2.1,r7.1.2.2.2.2.2)),0))
def F.oper_Batch (a0:D25)(a1:Int)(a2:D28)(a3:(List D43)):Option ((List D43)×D28×Int):=(F.oper_check (a0.1,a0.2.1,a0.2.2.1,(a0.2.2.2.1.1,a0.2.2.2.1.2.1,a0.2.2.2.1.2.2),a0.2.2.2.2.1,a0.2.2.2.2.2.1,a0.2.2.2.2.2.2) a1 (a2.1,a2.2.1,(a2.2.2.1,a2.2.2.2.1,a2.2.2.2.2.1,a2.2.2.2.2.2)) a3).bind fun r4=>(if r4≠0 then(some ([],(0,0,(0,0,0,0)),r4))else((F.oper_goes (a0.1,a0.2.1,a0.2.2.1,(a0.2.2.2.1.1,a0.2.2.2.1.2.1,a0.2.2.2.1.2.2),a0.2.2.2.2.1,a0.2.2.2.2.2.1,a0.2.2.2.2.2.2) (a2.1,a2.2.1,(a2.2.2.1,a2.2.2.2.1,a2.2.2.2.2.1,a2.2.2.2.2.2))).bind fun r7=>(if r7.2.2≠0 then(some ([],(0,0,(0,0,0,0)),r7.2.2))else(if(!r7.2.1)=true then(some ([],(r7.1.1,r7.1.2.1,(r7.1.2.2.1,r7.1.2.2.2.1,r7.1.2.2.2.2.1,r7.1.2.2.2.2.2)),0))else(F.oper_Batch_l1 a0 a3 r7 A.FU [] 0)))))
theorem oper_Batch_ok (a0:D25)(a1:Int)(a2:D28)(a3:(List D43))(A2_:Option Addr)(c3_:Nat)(A17_:Option Addr)(c18_:Nat)(m19_:Int)(h0_:IntKind.i64.has a0.1)(h1_:IntKind.i64.has a0.2.1)(h4_:IntKind.i64.has a0.2.2.2.1.1)(h5_:IntKind.i64.has a0.2.2.2.1.2.1)(h6_:a0.2.2.2.1.2.2.size≤maxLen)(h7_:a0.2.2.2.2.1.size≤maxLen)(h8_:IntKind.i64.has a0.2.2.2.2.2.1)(h9_:IntKind.i64.has a0.2.2.2.2.2.2)(h10_:IntKind.i64.has a1)(h11_:IntKind.i64.has a2.1)(h12_:IntKind.i64.has a2.2.1)(h13_:IntKind.i64.has a2.2.2.1)(h14_:IntKind.i64.has a2.2.2.2.1)(h15_:IntKind.i64.has a2.2.2.2.2.1)(h16_:IntKind.i64.has a2.2.2.2.2.2)(r:(List D43)×D28×Int)(hF:F.oper_Batch a0 a1 a2 a3=some r):
    A.Ct Tryz.prog 20 [.agg #[.int .i64 a0.1,.int .i64 a0.2.1,.slice A2_ ((a0.2.2.1).length) c3_,.int .i64 a0.2.2.2.1.1,.int .i64 a0.2.2.2.1.2.1,.string a0.2.2.2.1.2.2,.string a0.2.2.2.2.1,.int .i64 a0.2.2.2.2.2.1,.int .i64 a0.2.2.2.2.2.2],.int .i64 a1,.agg #[.int .i64 a2.1,.int .i64 a2.2.1,.int .i64 a2.2.2.1,.int .i64 a2.2.2.2.1,.int .i64 a2.2.2.2.2.1,.int .i64 a2.2.2.2.2.2],.slice A17_ ((a3).length) c18_] [(0,.sh (.slice (Z.Ty.int .i64)) [.slice A2_ (a0.2.2.1).length c3_] a0.2.2.1),(1,.ln T43 A17_ c18_ a3),(2,.el none 1 0 A.tabF),(3,.el none 2 0 A.tabA),(4,.el none 0 0 [.int .i64 m19_])] [] (fun v H'=>∃(A0':Option Addr) (c1':Nat),v=.tuple #[.slice A0' ((r.1).length) c1',.agg #[.int .i64 r.2.1.1,.int .i64 r.2.1.2.1,.int .i64 r.2.1.2.2.1,.int .i64 r.2.1.2.2.2.1,.int .i64 r.2.1.2.2.2.2.1,.int .i64 r.2.1.2.2.2.2.2],.int .i64 r.2.2]∧H'=[(0,.own T43 44 A0' c1' r.1)]∧IntKind.i64.has r.2.1.1∧IntKind.i64.has r.2.1.2.1∧IntKind.i64.has r.2.1.2.2.1∧IntKind.i64.has r.2.1.2.2.2.1∧IntKind.i64.has r.2.1.2.2.2.2.1∧IntKind.i64.has r.2.1.2.2.2.2.2∧IntKind.i64.has r.2.2):=by
 refine A.Ct.enter Tryz.func20 rfl Tryz.ntmps20 rfl fun w0 F0=>?_
 rw[F.oper_Batch]at hF
 refine A.xl 1 ?_
 refine A.AL.box 5 (cs:=[.int .i64 a0.1,.int .i64 a0.2.1,.slice A2_ ((a0.2.2.1).length) c3_,.int .i64 a0.2.2.2.1.1,.int .i64 a0.2.2.2.1.2.1,.string a0.2.2.2.1.2.2,.string a0.2.2.2.2.1,.int .i64 a0.2.2.2.2.2.1,.int .i64 a0.2.2.2.2.2.2]) fun g1=>?_
 refine A.AL.box 6 (cs:=[.int .i64 a2.1,.int .i64 a2.2.1,.int .i64 a2.2.2.1,.int .i64 a2.2.2.2.1,.int .i64 a2.2.2.2.2.1,.int .i64 a2.2.2.2.2.2]) fun g2=>?_
 refine A.q0 [] [] [.n] [] ?_
 refine A.AL.alloc 7 (cs:=[.int .i64 0,.int .i64 0,.int .i64 0,.int .i64 0,.int .i64 0,.int .i64 0]) Tryz.zeroValue29 fun g3=>?_
 refine A.q0 [] [] [.n] [] ?_
 refine A.dl 3 ?_
 refine A.q0 [5,6] [] [.b 0 0,.n,.b 1 0,.n] [(18,.agg #[.int .i64 a0.1,.int .i64 a0.2.1,.slice A2_ ((a0.2.2.1).length) c3_,.int .i64 a0.2.2.2.1.1,.int .i64 a0.2.2.2.1.2.1,.string a0.2.2.2.1.2.2,.string a0.2.2.2.2.1,.int .i64 a0.2.2.2.2.2.1,.int .i64 a0.2.2.2.2.2.2]),(19,.int .i64 a1),(20,.agg #[.int .i64 a2.1,.int .i64 a2.2.1,.int .i64 a2.2.2.1,.int .i64 a2.2.2.2.1,.int .i64 a2.2.2.2.2.1,.int .i64 a2.2.2.2.2.2]),(21,.slice A17_ ((a3).length) c18_)] ?_
 obtain⟨r4,hv5,hF⟩:=A.bd_some hF
 refine A.AL.call 8 [] (first:=[]) (cap:=[]) cf48 (oper_check_ok (a0.1,a0.2.1,a0.2.2.1,(a0.2.2.2.1.1,a0.2.2.2.1.2.1,a0.2.2.2.1.2.2),a0.2.2.2.2.1,a0.2.2.2.2.2.1,a0.2.2.2.2.2.2) a1 (a2.1,a2.2.1,(a2.2.2.1,a2.2.2.2.1,a2.2.2.2.2.1,a2.2.2.2.2.2)) a3 A2_ c3_ A17_ c18_ h0_ h1_ h4_ h5_ h6_ h7_ h8_ h9_ h10_ h11_ h12_ h13_ h14_ h15_ h16_ r4 hv5) (.s 0 (.s 1 (.s 2 (.s 3 .nil)))) ?_
 rintro _ _ ⟨rfl,rfl,hr6⟩
 refine⟨by kernel_rfl,?_⟩
 refine A.q0 [] [] [.n] [(11,.int .i64 r4)] ?_
 refine A.dl 2 ?_
 refine A.q0 [] [] [.n,.n] [(24,.bool (decide (r4≠0)))] ?_
 refine A.dx 1 ?_
 refine A.AX.cnd rfl hF (fun hb hF=>?_) (fun hb hF=>?_)
 ·refine A.xl 1 ?_
  refine A.q0 [] [] [.n,.n,.n] [(25,.agg #[.int .i64 0,.int .i64 0,.int .i64 0,.int .i64 0,.int .i64 0,.int .i64 0]),(26,.int .i64 r4),(8,.slice none 0 0)] ?_
  refine A.sw 7 [] [.int .i64 0,.int .i64 0,.int .i64 0,.int .i64 0,.int .i64 0,.int .i64 0] ?_
  refine A.q0 [] [] [.n] [(10,.int .i64 r4)] ?_
  refine A.dx 1 ?_
  obtain rfl:=Option.some.inj hF
  refine A.nil 48 T43 44 ?_
  exact A.AX.ret [(0,48)] (.tuple #[.slice none 0 0,.agg #[.int .i64 0,.int .i64 0,.int .i64 0,.int .i64 0,.int .i64 0,.int .i64 0],.int .i64 r4]) (fun a w hf hh=>Z.resv3 rfl (Z.rv_t hf rfl) (Z.rv_n hf rfl Tryz.isAgg29 Tryz.sizeOf29 (A.Hp.blk hh 7) rfl) (Z.rv_t hf rfl)) (⟨none,0,rfl,rfl,(A.hasl .i64 (0) rfl),(A.hasl .i64 (0) rfl),(A.hasl .i64 (0) rfl),(A.hasl .i64 (0) rfl),(A.hasl .i64 (0) rfl),(A.hasl .i64 (0) rfl),hr6⟩)
 refine A.xl 3 ?_
 refine A.q0 [5,6] [] [.b 0 0,.b 1 0] [(28,.agg #[.int .i64 a0.1,.int .i64 a0.2.1,.slice A2_ ((a0.2.2.1).length) c3_,.int .i64 a0.2.2.2.1.1,.int .i64 a0.2.2.2.1.2.1,.string a0.2.2.2.1.2.2,.string a0.2.2.2.2.1,.int .i64 a0.2.2.2.2.2.1,.int .i64 a0.2.2.2.2.2.2]),(29,.agg #[.int .i64 a2.1,.int .i64 a2.2.1,.int .i64 a2.2.2.1,.int .i64 a2.2.2.2.1,.int .i64 a2.2.2.2.2.1,.int .i64 a2.2.2.2.2.2])] ?_
 obtain⟨r7,hv8,hF⟩:=A.bd_some hF
 refine A.AL.call 49 [] (first:=[]) (cap:=[]) cf49 (oper_goes_ok (a0.1,a0.2.1,a0.2.2.1,(a0.2.2.2.1.1,a0.2.2.2.1.2.1,a0.2.2.2.1.2.2),a0.2.2.2.2.1,a0.2.2.2.2.2.1,a0.2.2.2.2.2.2) (a2.1,a2.2.1,(a2.2.2.1,a2.2.2.2.1,a2.2.2.2.2.1,a2.2.2.2.2.2)) A2_ c3_ h0_ h1_ h4_ h5_ h6_ h7_ h8_ h9_ h11_ h12_ h13_ h14_ h15_ h16_ r7 hv8) (.s 0 .nil) ?_
 rintro _ _ ⟨rfl,rfl,hr9,hr10,hr11,hr12,hr13,hr14,hr15⟩
 refine⟨by kernel_rfl,?_⟩
 refine A.q0 [] [] [.n,.n,.n,.n] [(31,.agg #[.int .i64 r7.1.1,.int .i64 r7.1.2.1,.int .i64 r7.1.2.2.1,.int .i64 r7.1.2.2.2.1,.int .i64 r7.1.2.2.2.2.1,.int .i64 r7.1.2.2.2.2.2]),(32,.bool r7.2.1),(33,.int .i64 r7.2.2)] ?_
 refine A.AL.alloc 89 (cs:=[.int .i64 0,.int .i64 0,.int .i64 0,.int .i64 0,.int .i64 0,.int .i64 0]) Tryz.zeroValue29 fun g16=>?_
 refine A.sw 89 [] [.int .i64 r7.1.1,.int .i64 r7.1.2.1,.int .i64 r7.1.2.2.1,.int .i64 r7.1.2.2.2.1,.int .i64 r7.1.2.2.2.2.1,.int .i64 r7.1.2.2.2.2.2] ?_
 refine A.q0 [] [] [.n,.n] [(13,.bool r7.2.1),(14,.int .i64 r7.2.2)] ?_
 refine A.dl 4 ?_
 refine A.q0 [] [] [.n,.n,.n] [(34,.bool (decide (r7.2.2≠0)))] ?_
 refine A.dx 1 ?_
 refine A.AX.cnd rfl hF (fun hb hF=>?_) (fun hb hF=>?_)
 ·refine A.xl 1 ?_
  refine A.q0 [] [] [.n,.n,.n] [(37,.agg #[.int .i64 0,.int .i64 0,.int .i64 0,.int .i64 0,.int .i64 0,.int .i64 0]),(38,.int .i64 r7.2.2),(8,.slice none 0 0)] ?_
  refine A.sw 7 [] [.int .i64 0,.int .i64 0,.int .i64 0,.int .i64 0,.int .i64 0,.int .i64 0] ?_
  refine A.q0 [] [] [.n] [(10,.int .i64 r7.2.2)] ?_
  refine A.dx 1 ?_
  obtain rfl:=Option.some.inj hF
  refine A.nil 90 T43 44 ?_
  exact A.AX.ret [(0,90)] (.tuple #[.slice none 0 0,.agg #[.int .i64 0,.int .i64 0,.int .i64 0,.int .i64 0,.int .i64 0,.int .i64 0],.int .i64 r7.2.2]) (fun a w hf hh=>Z.resv3 rfl (Z.rv_t hf rfl) (Z.rv_n hf rfl Tryz.isAgg29 Tryz.sizeOf29 (A.Hp.blk hh 7) rfl) (Z.rv_t hf rfl)) (⟨none,0,rfl,rfl,(A.hasl .i64 (0) rfl),(A.hasl .i64 (0) rfl),(A.hasl .i64 (0) rfl),(A.hasl .i64 (0) rfl),(A.hasl .i64 (0) rfl),(A.hasl .i64 (0) rfl),hr15⟩)
 refine A.xl 1 ?_
 refine A.q0 [] [] [.n,.n,.n] [(39,.bool (!r7.2.1))] ?_
 refine A.dx 1 ?_
 refine A.AX.cnb rfl hF (fun hb hF=>?_) (fun hb hF=>?_)
 ·refine A.xx 1 ?_
  refine A.AX.dr mixed 4 4 (A.mb 4 0) ?_
  refine A.hq A.pb [] [0,1,2,3,4,5,6,89] [89] [] (A.mb 4 3) 2 [(0,.b 0 0),(1,.n)] [(42,.agg #[.int .i64 r7.1.1,.int .i64 r7.1.2.1,.int .i64 r7.1.2.2.1,.int .i64 r7.1.2.2.2.1,.int .i64 r7.1.2.2.2.2.1,.int .i64 r7.1.2.2.2.2.2]),(8,.slice none 0 0)] ?_
  refine A.AH.one 2 ?_
  refine A.sw 7 [] [.int .i64 r7.1.1,.int .i64 r7.1.2.1,.int .i64 r7.1.2.2.1,.int .i64 r7.1.2.2.2.1,.int .i64 r7.1.2.2.2.2.1,.int .i64 r7.1.2.2.2.2.2] ?_
  refine A.AH.nx (A.mb 4 7) [0,1,2,3,4,5,6,89] ?_
  refine A.hq A.pb [0,1,2,3,4,5,6,89] [0,1,2,3,4,5,6,7,89] [] [] (A.mb 4 15) 0 [(3,.n)] [(10,.int .i64 0)] ?_
  refine A.AH.done ?_
  refine A.ex 1 ?_
  obtain rfl:=Option.some.inj hF
  refine A.nil 91 T43 44 ?_
  exact A.AX.ret [(0,91)] (.tuple #[.slice none 0 0,.agg #[.int .i64 r7.1.1,.int .i64 r7.1.2.1,.int .i64 r7.1.2.2.1,.int .i64 r7.1.2.2.2.1,.int .i64 r7.1.2.2.2.2.1,.int .i64 r7.1.2.2.2.2.2],.int .i64 0]) (fun a w hf hh=>Z.resv3 rfl (Z.rv_t hf rfl) (Z.rv_n hf rfl Tryz.isAgg29 Tryz.sizeOf29 (A.Hp.blk hh 7) rfl) (Z.rv_t hf rfl)) (⟨none,0,rfl,rfl,hr9,hr10,hr11,hr12,hr13,hr14,(A.hasl .i64 (0) rfl)⟩)
 refine A.xl 4 ?_
 refine A.q0 [] [] [.n] [(15,.slice none 0 0)] ?_
 refine A.dl 3 ?_
 refine A.q0 [] [] [.n,.n,.n] [(43,.slice A17_ ((a3).length) c18_),(44,.int .i64 ((a3).length:Int)),(45,.int .i64 0)] ?_
 refine A.dx 2 ?_
 refine A.nil 136 T43 44 ?_
 refine A.lp_ [4,9,12,43,44] [0,1,2,3,4,5,7,89] (fun f nl nh=>∃(xs19:List D43),∃(y20:Int),∃(A17:Option Addr),∃(c18:Nat),nl=[(15,.slice A17 ((xs19).length) c18),(45,.int .i64 y20)]∧nh=[(136,.own T43 44 A17 c18 xs19)]∧IntKind.i64.has y20∧F.oper_Batch_l1 a0 a3 r7 f xs19 y20=some r) ⟨[],0,none,0,rfl,rfl,(A.hasl .i64 (0) rfl),hF⟩ ?_
 rintro f22 _ _ ⟨xs19,y20,A17,c18,rfl,rfl,hy21,hF⟩
 rcases f22 with _|f22
 ·exact A.no0 hF
 rw[F.oper_Batch_l1]at hF
 refine A.xl 1 ?_
 refine A.q0 [] [] [.n] [(46,.bool (decide (y20<((a3).length:Int))))] ?_
 refine A.dx 2 ?_
 refine A.AX.cnd rfl hF (fun hb hF=>?_) (fun hb hF=>?_)
 ·refine A.xl 5 ?_
  obtain⟨x23,hv24,hF⟩:=A.bd_some hF
  refine A.AL.ixl 1 221 hv24 fun ho25=>?_
  intro b26 o27
  refine A.q0 [] [221] [.e 0 0] [(48,.agg #[.int .i64 x23.1,.string x23.2])] ?_
  refine A.AL.alloc 222 (cs:=[.int .i64 0,.string (ByteArray.mk #[])]) Tryz.zeroValue44 fun g28=>?_
  refine A.sw 222 [] [.int .i64 x23.1,.string x23.2] ?_
  refine A.dl 1 ?_
  refine A.q0 [5,222] [] [.n,.b 0 0,.b 1 0] [(49,.slice A17 ((xs19).length) c18),(50,.agg #[.int .i64 a0.1,.int .i64 a0.2.1,.slice A2_ ((a0.2.2.1).length) c3_,.int .i64 a0.2.2.2.1.1,.int .i64 a0.2.2.2.1.2.1,.string a0.2.2.2.1.2.2,.string a0.2.2.2.2.1,.int .i64 a0.2.2.2.2.2.1,.int .i64 a0.2.2.2.2.2.2]),(51,.agg #[.int .i64 x23.1,.string x23.2])] ?_
  obtain⟨r29,hv30,hF⟩:=A.bd_some hF
  refine A.AL.call 223 [] (first:=[]) (cap:=[]) cf50 (oper_each_ok (a0.1,a0.2.1,a0.2.2.1,(a0.2.2.2.1.1,a0.2.2.2.1.2.1,a0.2.2.2.1.2.2),a0.2.2.2.2.1,a0.2.2.2.2.2.1,a0.2.2.2.2.2.2) (x23.1,x23.2) A2_ c3_ m19_ h0_ h1_ h4_ h5_ h6_ h7_ h8_ h9_ ho25.1 ho25.2 r29 hv30) (.s 0 (.s 2 (.s 3 (.s 4 .nil)))) ?_
  rintro _ _ ⟨A31,c32,rfl,rfl⟩
  refine⟨by kernel_rfl,?_⟩
  obtain⟨hl35,hF⟩:=A.gd_some hF
  refine A.AL.app (k:=136) [] (A.rowO (k:=223) rfl) inf44 hl35 fun A33 c34=>?_
  refine A.q0 [] [] [.n] [(15,.slice A33 ((xs19++r29).length) c34)] ?_
  refine A.dl 2 ?_
  obtain⟨hc36,hF⟩:=A.gd_some hF
  refine A.q [] [] [.n,.n] [Z.R64 (y20+1)] [(45,.int .i64 (y20+1))] hc36 ?_
  refine A.AL.done ?_
  exact A.j ⟨_,Nat.lt_succ_self _,⟨(xs19++r29),(y20+1),A33,c34,rfl,rfl,(Z.i64_has hc36),hF⟩⟩
 refine A.xx 3 ?_
 refine A.AX.dr mixed 5 5 (A.mb 5 0) ?_
 refine A.hq A.pb [] [0,1,2,3,4,5,89,136] [89] [] (A.mb 5 7) 2 [(0,.n),(1,.b 0 0),(2,.n)] [(56,.agg #[.int .i64 r7.1.1,.int .i64 r7.1.2.1,.int .i64 r7.1.2.2.1,.int .i64 r7.1.2.2.2.1,.int .i64 r7.1.2.2.2.2.1,.int .i64 r7.1.2.2.2.2.2]),(8,.slice A17 ((xs19).length) c18)] ?_
 refine A.AH.one 3 ?_
 refine A.sw 7 [] [.int .i64 r7.1.1,.int .i64 r7.1.2.1,.int .i64 r7.1.2.2.1,.int .i64 r7.1.2.2.2.1,.int .i64 r7.1.2.2.2.2.1,.int .i64 r7.1.2.2.2.2.2] ?_
 refine A.AH.nx (A.mb 5 15) [0,1,2,3,4,5,89,136] ?_
 refine A.hq A.pb [0,1,2,3,4,5,89,136] [0,1,2,3,4,5,7,89,136] [] [] (A.mb 5 31) 0 [(4,.n)] [(10,.int .i64 0)] ?_
 refine A.AH.done ?_
 refine A.ex 1 ?_
 obtain rfl:=Option.some.inj hF
 exact A.AX.ret [(0,136)] (.tuple #[.slice A17 ((xs19).length) c18,.agg #[.int .i64 r7.1.1,.int .i64 r7.1.2.1,.int .i64 r7.1.2.2.1,.int .i64 r7.1.2.2.2.1,.int .i64 r7.1.2.2.2.2.1,.int .i64 r7.1.2.2.2.2.2],.int .i64 0]) (fun a w hf hh=>Z.resv3 rfl (Z.rv_t hf rfl) (Z.rv_n hf rfl Tryz.isAgg29 Tryz.sizeOf29 (A.Hp.blk hh 7) rfl) (Z.rv_t hf rfl)) (⟨A17,c18,rfl,rfl,hr9,hr10,hr11,hr12,hr13,hr14,(A.hasl .i64 (0) rfl)⟩)
end Go.Proofs.YtbljnlkhebiniaaGreatDoor
end
section
set_option linter.unusedVariables false
set_option linter.unusedSimpArgs false
set_option maxRecDepth 20000
set_option maxHeartbeats 8000000
set_option synthInstance.maxSize 1000000
set_option synthInstance.maxHeartbeats 400000
namespace Go.Proofs.YtbljnlkhebiniaaGreatDoor
open Go.RowKit
end Go.Proofs.YtbljnlkhebiniaaGreatDoor
end
section
set_option linter.unusedVariables false
set_option linter.unusedSimpArgs false
set_option maxRecDepth 20000
set_option maxHeartbeats 8000000
set_option synthInstance.maxSize 1000000
set_option synthInstance.maxHeartbeats 400000
namespace Go.Proofs.YtbljnlkhebiniaaGreatDoor
open Go.RowKit
end Go.Proofs.YtbljnlkhebiniaaGreatDoor
end
section
set_option linter.unusedVariables false
set_option linter.unusedSimpArgs false
set_option maxRecDepth 20000
set_option maxHeartbeats 8000000
set_option synthInstance.maxSize 1000000
set_option synthInstance.maxHeartbeats 400000
namespace Go.Proofs.YtbljnlkhebiniaaGreatDoor
open Go.RowKit
end Go.Proofs.YtbljnlkhebiniaaGreatDoor
end
section
set_option linter.unusedVariables false
set_option linter.unusedSimpArgs false
set_option maxRecDepth 20000
set_option maxHeartbeats 8000000
set_option synthInstance.maxSize 1000000
set_option synthInstance.maxHeartbeats 400000
namespace Go.Proofs.YtbljnlkhebiniaaGreatDoor
open Go.RowKit
end Go.Proofs.YtbljnlkhebiniaaGreatDoor
end
section
set_option linter.unusedVariables false
set_option linter.unusedSimpArgs false
set_option maxRecDepth 20000
set_option maxHeartbeats 8000000
set_option synthInstance.maxSize 1000000
set_option synthInstance.maxHeartbeats 400000
namespace Go.Proofs.YtbljnlkhebiniaaGreatDoor
open Go.RowKit
def F.slices_Clone_api_Rec_api_Rec (a0:(List D43)):Option (List D43):=A.gd ((List.length (α:=D43) []+List.length (α:=D43) a0)*24≤140737488355328) (some ([]++a0))
theorem slices_Clone_api_Rec_api_Rec_ok (a0:(List D43))(A0_:Option Addr)(c1_:Nat)(r:(List D43))(hF:F.slices_Clone_api_Rec_api_Rec a0=some r):
    A.Ct Tryz.prog 26 [.slice A0_ ((a0).length) c1_] [(0,.ln T43 A0_ c1_ a0)] [] (fun v H'=>∃(A0':Option Addr) (c1':Nat),v=.slice A0' ((r).length) c1'∧H'=[(0,.own T43 44 A0' c1' r)]):=by
 refine A.Ct.enter Tryz.func26 rfl Tryz.ntmps26 rfl fun w0 F0=>?_
 rw[F.slices_Clone_api_Rec_api_Rec]at hF
 refine A.xl 1 ?_
 refine A.q0 [] [] [.n] [] ?_
 refine A.dl 3 ?_
 refine A.q0 [] [] [.n,.n] [(4,.bool A0_.isNone)] ?_
 refine A.dx 1 ?_
 refine A.AX.cnn rfl (fun hb=>?_) (fun hb=>?_)
 ·refine A.nilL 0 hb fun hb=>?_
  subst hb
  replace hF:some []=some r:=by simpa[A.gd,A.ix] using hF
  refine A.xl 1 ?_
  refine A.q0 [] [] [.n] [(2,.slice none 0 0)] ?_
  refine A.dx 1 ?_
  obtain rfl:=Option.some.inj hF
  refine A.nil 2 T43 44 ?_
  exact A.rt1 [(0,2)] ⟨none,0,rfl,rfl⟩
 refine A.xl 3 ?_
 refine A.AL.bs0 1 T43 (fun g1=>?_) Tryz.sizeOf44
 refine A.q0 [] [] [.n] [(6,.slice A0_ ((a0).length) c1_)] ?_
 obtain⟨hl4,hF⟩:=A.gd_some hF
 refine A.AL.app (k:=1) [] (A.rowL (k:=0) rfl) inf44 hl4 fun A2 c3=>?_
 refine A.q0 [] [] [.n] [(2,.slice A2 (([]++a0).length) c3)] ?_
 refine A.dx 1 ?_
 obtain rfl:=Option.some.inj hF
 exact A.rt1 [(0,1)] ⟨A2,c3,rfl,rfl⟩
end Go.Proofs.YtbljnlkhebiniaaGreatDoor
end
section
set_option linter.unusedVariables false
set_option linter.unusedSimpArgs false
set_option maxRecDepth 20000
set_option maxHeartbeats 8000000
set_option synthInstance.maxSize 1000000
set_option synthInstance.maxHeartbeats 400000
namespace Go.Proofs.YtbljnlkhebiniaaGreatDoor
open Go.RowKit
end Go.Proofs.YtbljnlkhebiniaaGreatDoor
end
section
set_option linter.unusedVariables false
set_option linter.unusedSimpArgs false
set_option maxRecDepth 20000
set_option maxHeartbeats 8000000
set_option synthInstance.maxSize 1000000
set_option synthInstance.maxHeartbeats 400000
namespace Go.Proofs.YtbljnlkhebiniaaGreatDoor
open Go.RowKit
def F.L17_OperStays_j1 (y63:Bool):Option Bool:=some y63
def F.L17_OperStays_l2 (a0:D25)(r35:(List D43)×(List D46)×Int)(r43:(List D43)):Nat→Int→Option Bool
 |0,_=>none
 |f+1,y50=>if y50<((r43++r35.1).length:Int)then((A.ix (r43++r35.1) y50).bind fun x53=>((F.R05_Check (x53.1,x53.2)).bind fun r59=>(if r59≠0 then(some false)else(A.gd (Z.R64 (y50+1)) ((F.L17_OperStays_l2 a0 r35 r43 f) (y50+1))))))else(if r35.2.2≠0 then(F.L17_OperStays_j1 true)else((F.R17_CheckState (a0.1,a0.2.1,a0.2.2.1,(a0.2.2.2.1.1,a0.2.2.2.1.2.1,a0.2.2.2.1.2.2),a0.2.2.2.2.1,a0.2.2.2.2.2.1,a0.2.2.2.2.2.2) r35.2.1).bind fun r64=>(F.L17_OperStays_j1 (decide (r64=0)))))
def F.L17_OperStays_j3 (a0:D25)(r23:(List D43)×D28×Int)(r35:(List D43)×(List D46)×Int)(y42:Bool):Option Bool:=if y42=true then(some false)else((F.slices_Clone_api_Rec_api_Rec r23.1).bind fun r43=>(A.gd ((List.length (α:=D43) r43+List.length (α:=D43) r35.1)*24≤140737488355328) (F.L17_OperStays_l2 a0 r35 r43 A.FU 0)))
def F.L17_OperStays_l4 (a0:D25)(a1:D32)(a2:Int):Nat→(List D43)→Int→Option Bool
 |0,_,_=>none
 |f+1,xs8,y9=>if y9<((a1.2.1).length:Int)then((A.ix a1.2.1 y9).bind fun x12=>(A.gd ((List.length (α:=D43) xs8+List.length (α:=D43) [(x12.1.1,x12.1.2)])*24≤140737488355328) (A.gd (Z.R64 (y9+1)) ((F.L17_OperStays_l4 a0 a1 a2 f) (xs8++[(x12.1.1,x12.1.2)]) (y9+1)))))else((F.oper_Batch (a0.1,a0.2.1,a0.2.2.1,(a0.2.2.2.1.1,a0.2.2.2.1.2.1,a0.2.2.2.1.2.2),a0.2.2.2.2.1,a0.2.2.2.2.2.1,a0.2.2.2.2.2.2) a2 (a1.1.1,a1.1.2.1,(a1.1.2.2.1,a1.1.2.2.2.1,a1.1.2.2.2.2.1,a1.1.2.2.2.2.2)) xs8).bind fun r23=>((F.oper_Tell (a0.1,a0.2.1,a0.2.2.1,(a0.2.2.2.1.1,a0.2.2.2.1.2.1,a0.2.2.2.1.2.2),a0.2.2.2.2.1,a0.2.2.2.2.2.1,a0.2.2.2.2.2.2) (a1.1.1,a1.1.2.1,(a1.1.2.2.1,a1.1.2.2.2.1,a1.1.2.2.2.2.1,a1.1.2.2.2.2.2)) a1.2.1 a1.2.2.1 a1.2.2.2).bind fun r35=>(if(bif decide (r23.2.2=0)then decide (r35.2.2=0)else false)=true then(F.L17_OperStays_j3 a0 r23 r35 true)else(if r23.2.2≠0 then(if(0:Int)<((r23.1).length:Int)then(F.L17_OperStays_j3 a0 r23 r35 true)else(if(r23.2.1.1,r23.2.1.2.1,(r23.2.1.2.2.1,r23.2.1.2.2.2.1,r23.2.1.2.2.2.2.1,r23.2.1.2.2.2.2.2))≠(0,0,(0,0,0,0))then(F.L17_OperStays_j3 a0 r23 r35 true)else(if r35.2.2≠0 then(F.L17_OperStays_j3 a0 r23 r35 (bif decide ((0:Int)<((r35.1).length:Int))then true else decide ((0:Int)<((r35.2.1).length:Int))))else(F.L17_OperStays_j3 a0 r23 r35 false))))else(if r35.2.2≠0 then(F.L17_OperStays_j3 a0 r23 r35 (bif decide ((0:Int)<((r35.1).length:Int))then true else decide ((0:Int)<((r35.2.1).length:Int))))else(F.L17_OperStays_j3 a0 r23 r35 false))))))
def F.L17_OperStays_j5 (a0:D25)(a1:D32)(a2:Int)(y5:Bool):Option Bool:=if y5=true then(some true)else(F.L17_OperStays_l4 a0 a1 a2 A.FU [] 0)
def F.L17_OperStays (a0:D25)(a1:D32)(a2:Int):Option Bool:=(F.L17_live).bind fun r3=>(if(!r3)=true then(some false)else((F.L17_rare [a1.2.1,a1.2.2.1]).bind fun r68=>(if(!r68)=true then(F.L17_OperStays_j5 a0 a1 a2 true)else((F.L17_thin a1.2.2.2).bind fun r70=>(F.L17_OperStays_j5 a0 a1 a2 (bif !r70 then true else decide ((300:Int)<(a0.2.2.2.1.2.2.size:Int))))))))
theorem L17_OperStays_ok (a0:D25)(a1:D32)(a2:Int)(A2_:Option Addr)(c3_:Nat)(A16_:Option Addr)(c17_:Nat)(A18_:Option Addr)(c19_:Nat)(A20_:Option Addr)(c21_:Nat)(m23_:Int)(h0_:IntKind.i64.has a0.1)(h1_:IntKind.i64.has a0.2.1)(h4_:IntKind.i64.has a0.2.2.2.1.1)(h5_:IntKind.i64.has a0.2.2.2.1.2.1)(h6_:a0.2.2.2.1.2.2.size≤maxLen)(h7_:a0.2.2.2.2.1.size≤maxLen)(h8_:IntKind.i64.has a0.2.2.2.2.2.1)(h9_:IntKind.i64.has a0.2.2.2.2.2.2)(h10_:IntKind.i64.has a1.1.1)(h11_:IntKind.i64.has a1.1.2.1)(h12_:IntKind.i64.has a1.1.2.2.1)(h13_:IntKind.i64.has a1.1.2.2.2.1)(h14_:IntKind.i64.has a1.1.2.2.2.2.1)(h15_:IntKind.i64.has a1.1.2.2.2.2.2)(h22_:IntKind.i64.has a2)(r:Bool)(hF:F.L17_OperStays a0 a1 a2=some r):
    A.Ct Tryz.prog 6 [.agg #[.int .i64 a0.1,.int .i64 a0.2.1,.slice A2_ ((a0.2.2.1).length) c3_,.int .i64 a0.2.2.2.1.1,.int .i64 a0.2.2.2.1.2.1,.string a0.2.2.2.1.2.2,.string a0.2.2.2.2.1,.int .i64 a0.2.2.2.2.2.1,.int .i64 a0.2.2.2.2.2.2],.agg #[.int .i64 a1.1.1,.int .i64 a1.1.2.1,.int .i64 a1.1.2.2.1,.int .i64 a1.1.2.2.2.1,.int .i64 a1.1.2.2.2.2.1,.int .i64 a1.1.2.2.2.2.2,.slice A16_ ((a1.2.1).length) c17_,.slice A18_ ((a1.2.2.1).length) c19_,.slice A20_ ((a1.2.2.2).length) c21_],.int .i64 a2] [(0,.sh (.slice (Z.Ty.int .i64)) [.slice A2_ (a0.2.2.1).length c3_] a0.2.2.1),(1,.sh (.slice T69) [.slice A16_ (a1.2.1).length c17_] a1.2.1),(2,.sh (.slice T69) [.slice A18_ (a1.2.2.1).length c19_] a1.2.2.1),(3,.sh (.slice T46) [.slice A20_ (a1.2.2.2).length c21_] a1.2.2.2),(4,.el none 1 0 A.tabF),(5,.el none 2 0 A.tabA),(6,.el none 0 0 [.int .i64 m23_])] [] (fun v H'=>v=.bool r∧H'=[]):=by
 refine A.Ct.enter Tryz.func6 rfl Tryz.ntmps6 rfl fun w0 F0=>?_
 rw[F.L17_OperStays]at hF
 refine A.xl 1 ?_
 refine A.AL.box 7 (cs:=[.int .i64 a0.1,.int .i64 a0.2.1,.slice A2_ ((a0.2.2.1).length) c3_,.int .i64 a0.2.2.2.1.1,.int .i64 a0.2.2.2.1.2.1,.string a0.2.2.2.1.2.2,.string a0.2.2.2.2.1,.int .i64 a0.2.2.2.2.2.1,.int .i64 a0.2.2.2.2.2.2]) fun g1=>?_
 refine A.AL.box 8 (cs:=[.int .i64 a1.1.1,.int .i64 a1.1.2.1,.int .i64 a1.1.2.2.1,.int .i64 a1.1.2.2.2.1,.int .i64 a1.1.2.2.2.2.1,.int .i64 a1.1.2.2.2.2.2,.slice A16_ ((a1.2.1).length) c17_,.slice A18_ ((a1.2.2.1).length) c19_,.slice A20_ ((a1.2.2.2).length) c21_]) fun g2=>?_
 refine A.q0 [] [] [.n] [] ?_
 refine A.dl 3 ?_
 obtain⟨r3,hv4,hF⟩:=A.bd_some hF
 refine A.AL.call 9 [] (first:=[]) (cap:=[]) cf7 (L17_live_ok r3 hv4) (.s 4 (.s 5 .nil)) ?_
 rintro _ _ ⟨rfl,rfl⟩
 refine⟨by kernel_rfl,?_⟩
 refine A.q0 [] [] [.n] [(19,.bool (!r3))] ?_
 refine A.dx 1 ?_
 refine A.AX.cnb rfl hF (fun hb hF=>?_) (fun hb hF=>?_)
 ·refine A.xl 1 ?_
  refine A.q0 [] [] [.n] [(6,.bool false)] ?_
  refine A.dx 1 ?_
  obtain rfl:=Option.some.inj hF
  exact A.rt1 [] ⟨rfl,rfl⟩
 refine A.xx 3 ?_
 refine A.AX.join [2,3,4] [0,1,2,3,4,5,6,7,8] (fun nl nh=>∃(y5:Bool),nl=[(39,.bool y5)]∧nh=[]∧F.L17_OperStays_j5 a0 a1 a2 y5=some r) ?_ ?_
 ·refine A.xl 0 ?_
  refine A.q0 [8] [] [.n,.b 0 6,.n,.b 0 7] [(21,.slice A16_ ((a1.2.1).length) c17_),(23,.slice A18_ ((a1.2.2.1).length) c19_)] ?_
  refine A.AL.bsl 49 (ty:=(Z.Ty.slice T69)) (cs:=[.slice A16_ ((a1.2.1).length) c17_,.slice A18_ ((a1.2.2.1).length) c19_]) [a1.2.1,a1.2.2.1] ⟨.inl ⟨1,rfl⟩,⟨.inl ⟨2,rfl⟩,rfl⟩⟩ (fun g67=>?_) Tryz.zeroValue30 Tryz.sizeOf30
  obtain⟨r68,hv69,hF⟩:=A.bd_some hF
  refine A.AL.call 50 [] (first:=[]) (cap:=[]) cf8 (L17_rare_ok [a1.2.1,a1.2.2.1] (some ⟨g67,0,none⟩) 2 r68 hv69) (.o 49 .nil) ?_
  rintro _ _ ⟨rfl,rfl⟩
  refine⟨by kernel_rfl,?_⟩
  refine A.q0 [] [] [.n,.n] [(27,.bool (!r68))] ?_
  refine A.AL.cnd (j:=27) rfl hF (fun hF=>?_) (fun hF=>?_)
  ·refine A.q0 [] [] [.off,.off,.off,.off,.n,.n,.off,.off,.off,.off,.off,.n] [(39,.bool true)] ?_
   refine A.AL.done ?_
   exact A.j ⟨true,rfl,rfl,hF⟩
  refine A.q0 [8] [] [.on .n,.on (.b 0 8)] [(29,.slice A20_ ((a1.2.2.2).length) c21_)] ?_
  refine A.AL.on (dj:=27) rfl rfl ?_
  obtain⟨r70,hv71,hF⟩:=A.bd_some hF
  refine A.AL.call 90 [] (first:=[]) (cap:=[]) cf9 (L17_thin_ok a1.2.2.2 A20_ c21_ r70 hv71) (.s 3 .nil) ?_
  rintro _ _ ⟨rfl,rfl⟩
  refine⟨by kernel_rfl,?_⟩
  refine A.q0 [7] [] [.on .n,.n,.n,.sy .n,.sy .n,.sy (.b 0 5),.sy .n,.sy .n,.pk] [(39,.bool (bif !r70 then true else decide ((300:Int)<(a0.2.2.2.1.2.2.size:Int))))] ?_
  refine A.AL.done ?_
  exact A.j ⟨(bif !r70 then true else decide ((300:Int)<(a0.2.2.2.1.2.2.size:Int))),rfl,rfl,hF⟩
 rintro _ _ ⟨y5,rfl,rfl,hF⟩
 rw[F.L17_OperStays_j5]at hF
 refine A.AX.cnb rfl hF (fun hb hF=>?_) (fun hb hF=>?_)
 ·refine A.xl 1 ?_
  refine A.q0 [] [] [.n] [(6,.bool true)] ?_
  refine A.dx 1 ?_
  obtain rfl:=Option.some.inj hF
  exact A.rt1 [] ⟨rfl,rfl⟩
 refine A.xl 3 ?_
 refine A.q0 [] [] [.n] [(7,.slice none 0 0)] ?_
 refine A.dl 3 ?_
 refine A.q0 [8] [] [.n,.b 0 6,.n,.n] [(41,.slice A16_ ((a1.2.1).length) c17_),(42,.int .i64 ((a1.2.1).length:Int)),(43,.int .i64 0)] ?_
 refine A.dx 2 ?_
 refine A.nil 501 T43 44 ?_
 refine A.lp_ [2,3,4,41,42] [0,1,2,3,4,5,6,7,8] (fun f nl nh=>∃(xs8:List D43),∃(y9:Int),∃(A6:Option Addr),∃(c7:Nat),nl=[(7,.slice A6 ((xs8).length) c7),(43,.int .i64 y9)]∧nh=[(501,.own T43 44 A6 c7 xs8)]∧IntKind.i64.has y9∧F.L17_OperStays_l4 a0 a1 a2 f xs8 y9=some r) ⟨[],0,none,0,rfl,rfl,(A.hasl .i64 (0) rfl),hF⟩ ?_
 rintro f11 _ _ ⟨xs8,y9,A6,c7,rfl,rfl,hy10,hF⟩
 rcases f11 with _|f11
 ·exact A.no0 hF
 rw[F.L17_OperStays_l4]at hF
 refine A.xl 1 ?_
 refine A.q0 [] [] [.n] [(44,.bool (decide (y9<((a1.2.1).length:Int))))] ?_
 refine A.dx 2 ?_
 refine A.AX.cnd rfl hF (fun hb hF=>?_) (fun hb hF=>?_)
 ·refine A.xl 5 ?_
  obtain⟨x12,hv13,hF⟩:=A.bd_some hF
  refine A.AL.ixs 1 1242 hv13 fun ho14=>?_
  intro b15 o16
  refine A.q0 [] [1242] [.e 0 0] [(46,.agg #[.int .i64 x12.1.1,.string x12.1.2,.int .i64 x12.2])] ?_
  refine A.AL.alloc 1243 (cs:=[.int .i64 0,.string (ByteArray.mk #[]),.int .i64 0]) Tryz.zeroValue70 fun g17=>?_
  refine A.sw 1243 [] [.int .i64 x12.1.1,.string x12.1.2,.int .i64 x12.2] ?_
  refine A.dl 1 ?_
  refine A.q0 [1243] [] [.n,.n,.b 0 0] [(47,.slice A6 ((xs8).length) c7),(49,.agg #[.int .i64 x12.1.1,.string x12.1.2])] ?_
  refine A.AL.bsl 1244 (ty:=T43) (cs:=[.int .i64 x12.1.1,.string x12.1.2]) [(x12.1.1,x12.1.2)] ⟨⟨⟨rfl,ho14.1.1⟩,⟨rfl,ho14.1.2⟩⟩,rfl⟩ (fun g18=>?_) Tryz.zeroValue44 Tryz.sizeOf44
  obtain⟨hl21,hF⟩:=A.gd_some hF
  refine A.AL.app (k:=501) [] (A.rowO (k:=1244) rfl) inf44 hl21 fun A19 c20=>?_
  refine A.q0 [] [] [.n] [(7,.slice A19 ((xs8++[(x12.1.1,x12.1.2)]).length) c20)] ?_
  refine A.dl 2 ?_
  obtain⟨hc22,hF⟩:=A.gd_some hF
  refine A.q [] [] [.n,.n] [Z.R64 (y9+1)] [(43,.int .i64 (y9+1))] hc22 ?_
  refine A.AL.done ?_
  exact A.j ⟨_,Nat.lt_succ_self _,⟨(xs8++[(x12.1.1,x12.1.2)]),(y9+1),A19,c20,rfl,rfl,(Z.i64_has hc22),hF⟩⟩
 refine A.xl 3 ?_
 refine A.q0 [7,8] [] [.b 0 0,.n,.n,.b 1 0,.n] [(54,.agg #[.int .i64 a0.1,.int .i64 a0.2.1,.slice A2_ ((a0.2.2.1).length) c3_,.int .i64 a0.2.2.2.1.1,.int .i64 a0.2.2.2.1.2.1,.string a0.2.2.2.1.2.2,.string a0.2.2.2.2.1,.int .i64 a0.2.2.2.2.2.1,.int .i64 a0.2.2.2.2.2.2]),(55,.int .i64 a2),(57,.agg #[.int .i64 a1.1.1,.int .i64 a1.1.2.1,.int .i64 a1.1.2.2.1,.int .i64 a1.1.2.2.2.1,.int .i64 a1.1.2.2.2.2.1,.int .i64 a1.1.2.2.2.2.2]),(58,.slice A6 ((xs8).length) c7)] ?_
 obtain⟨r23,hv24,hF⟩:=A.bd_some hF
 refine A.AL.call 1245 [] (first:=[]) (cap:=[]) cf20 (oper_Batch_ok (a0.1,a0.2.1,a0.2.2.1,(a0.2.2.2.1.1,a0.2.2.2.1.2.1,a0.2.2.2.1.2.2),a0.2.2.2.2.1,a0.2.2.2.2.2.1,a0.2.2.2.2.2.2) a2 (a1.1.1,a1.1.2.1,(a1.1.2.2.1,a1.1.2.2.2.1,a1.1.2.2.2.2.1,a1.1.2.2.2.2.2)) xs8 A2_ c3_ A6 c7 m23_ h0_ h1_ h4_ h5_ h6_ h7_ h8_ h9_ h22_ h10_ h11_ h12_ h13_ h14_ h15_ r23 hv24) (.s 0 (.o 501 (.s 4 (.s 5 (.s 6 .nil))))) ?_
 rintro _ _ ⟨A25,c26,rfl,rfl,hr27,hr28,hr29,hr30,hr31,hr32,hr33⟩
 refine⟨by kernel_rfl,?_⟩
 refine A.q0 [] [] [.n,.n,.n,.n] [(60,.slice A25 ((r23.1).length) c26),(61,.agg #[.int .i64 r23.2.1.1,.int .i64 r23.2.1.2.1,.int .i64 r23.2.1.2.2.1,.int .i64 r23.2.1.2.2.2.1,.int .i64 r23.2.1.2.2.2.2.1,.int .i64 r23.2.1.2.2.2.2.2]),(62,.int .i64 r23.2.2)] ?_
 refine A.AL.alloc 1285 (cs:=[.int .i64 0,.int .i64 0,.int .i64 0,.int .i64 0,.int .i64 0,.int .i64 0]) Tryz.zeroValue29 fun g34=>?_
 refine A.q0 [] [] [.n] [(10,.slice A25 ((r23.1).length) c26)] ?_
 refine A.sw 1285 [] [.int .i64 r23.2.1.1,.int .i64 r23.2.1.2.1,.int .i64 r23.2.1.2.2.1,.int .i64 r23.2.1.2.2.2.1,.int .i64 r23.2.1.2.2.2.2.1,.int .i64 r23.2.1.2.2.2.2.2] ?_
 refine A.q0 [] [] [.n] [(12,.int .i64 r23.2.2)] ?_
 refine A.dl 2 ?_
 refine A.q0 [7,8] [] [.b 0 0,.n,.b 1 0,.n,.b 1 6,.n,.b 1 7,.n,.b 1 8] [(64,.agg #[.int .i64 a0.1,.int .i64 a0.2.1,.slice A2_ ((a0.2.2.1).length) c3_,.int .i64 a0.2.2.2.1.1,.int .i64 a0.2.2.2.1.2.1,.string a0.2.2.2.1.2.2,.string a0.2.2.2.2.1,.int .i64 a0.2.2.2.2.2.1,.int .i64 a0.2.2.2.2.2.2]),(66,.agg #[.int .i64 a1.1.1,.int .i64 a1.1.2.1,.int .i64 a1.1.2.2.1,.int .i64 a1.1.2.2.2.1,.int .i64 a1.1.2.2.2.2.1,.int .i64 a1.1.2.2.2.2.2]),(68,.slice A16_ ((a1.2.1).length) c17_),(70,.slice A18_ ((a1.2.2.1).length) c19_),(72,.slice A20_ ((a1.2.2.2).length) c21_)] ?_
 obtain⟨r35,hv36,hF⟩:=A.bd_some hF
 refine A.AL.call 1286 [] (first:=[]) (cap:=[]) cf10 (oper_Tell_ok (a0.1,a0.2.1,a0.2.2.1,(a0.2.2.2.1.1,a0.2.2.2.1.2.1,a0.2.2.2.1.2.2),a0.2.2.2.2.1,a0.2.2.2.2.2.1,a0.2.2.2.2.2.2) (a1.1.1,a1.1.2.1,(a1.1.2.2.1,a1.1.2.2.2.1,a1.1.2.2.2.2.1,a1.1.2.2.2.2.2)) a1.2.1 a1.2.2.1 a1.2.2.2 A2_ c3_ A16_ c17_ A18_ c19_ A20_ c21_ h0_ h1_ h4_ h5_ h6_ h7_ h8_ h9_ h10_ h11_ h12_ h13_ h14_ h15_ r35 hv36) (.s 0 (.s 1 (.s 2 (.l 3 (.s 4 (.s 5 .nil)))))) ?_
 rintro _ _ ⟨A37,c38,A39,c40,rfl,rfl,hr41⟩
 refine⟨by kernel_rfl,?_⟩
 refine A.q0 [] [] [.n,.n,.n,.n,.n,.n,.n] [(13,.slice A37 ((r35.1).length) c38),(14,.slice A39 ((r35.2.1).length) c40),(15,.int .i64 r35.2.2)] ?_
 refine A.dx 2 ?_
 refine A.AX.join [3,10,13,14,15] [0,4,5,6,7,1245,1286,1287] (fun nl nh=>∃(y42:Bool),nl=[(110,.bool y42)]∧nh=[]∧F.L17_OperStays_j3 a0 r23 r35 y42=some r) ?_ ?_
 ·refine A.xl 0 ?_
  refine A.q0 [] [] [.n,.n,.n,.sy .n,.sy .n,.pk,.n] [(83,.bool (bif decide (r23.2.2=0)then decide (r35.2.2=0)else false))] ?_
  refine A.AL.cnd (j:=83) rfl hF (fun hF=>?_) (fun hF=>?_)
  ·refine A.q0 [] [] [.off,.off,.off,.off,.off,.off,.off,.off,.off,.off,.off,.off,.n,.n,.off,.off,.off,.off,.off,.off,.off,.off,.off,.off,.off,.off,.n] [(110,.bool true)] ?_
   refine A.AL.done ?_
   exact A.j ⟨true,rfl,rfl,hF⟩
  refine A.q0 [] [] [.on .n,.on .n,.on .n] [(86,.bool (decide (r23.2.2≠0)))] ?_
  refine A.AL.cnp (j:=86) rfl hF (fun hb hF=>?_) (fun hb hF=>?_)
  ·refine A.q0 [] [] [.on .n,.on .n,.on .n,.on .n] [(90,.bool (decide ((0:Int)<((r23.1).length:Int))))] ?_
   refine A.AL.cnp (j:=90) rfl hF (fun hb hF=>?_) (fun hb hF=>?_)
   ·refine A.q0 [] [] [.off,.off,.off,.on .n,.on .n,.n,.n,.off,.off,.off,.off,.off,.off,.off,.off,.off,.off,.off,.off,.n] [(110,.bool true)] ?_
    refine A.AL.done ?_
    exact A.j ⟨true,rfl,rfl,hF⟩
   refine A.q0 [1285] [] [.on (.b 0 0),.on .n] [(91,.agg #[.int .i64 r23.2.1.1,.int .i64 r23.2.1.2.1,.int .i64 r23.2.1.2.2.1,.int .i64 r23.2.1.2.2.2.1,.int .i64 r23.2.1.2.2.2.2.1,.int .i64 r23.2.1.2.2.2.2.2]),(92,.agg #[.int .i64 0,.int .i64 0,.int .i64 0,.int .i64 0,.int .i64 0,.int .i64 0])] ?_
   refine A.AL.on (dj:=90) rfl rfl ?_
   refine A.AL.val rfl (fun a w hf hh=>eqagg_neq29 (x:=(r23.2.1.1,r23.2.1.2.1,(r23.2.1.2.2.1,r23.2.1.2.2.2.1,r23.2.1.2.2.2.2.1,r23.2.1.2.2.2.2.2))) (y:=(0,0,(0,0,0,0))) (hf.eval rfl) (hf.eval rfl)) ?_
   refine A.q0 [] [] [.on .n,.on .n,.n,.n] [(97,.bool (decide ((r23.2.1.1,r23.2.1.2.1,(r23.2.1.2.2.1,r23.2.1.2.2.2.1,r23.2.1.2.2.2.2.1,r23.2.1.2.2.2.2.2))≠(0,0,(0,0,0,0)))))] ?_
   refine A.AL.cnp (j:=97) rfl hF (fun hb hF=>?_) (fun hb hF=>?_)
   ·refine A.q0 [] [] [.off,.off,.off,.off,.off,.off,.off,.off,.off,.off,.off,.off,.n] [(110,.bool true)] ?_
    refine A.AL.done ?_
    exact A.j ⟨true,rfl,rfl,hF⟩
   refine A.q0 [] [] [.on .n,.on .n,.on .n] [(100,.bool (decide (r35.2.2≠0)))] ?_
   refine A.AL.cnp (j:=100) rfl hF (fun hb hF=>?_) (fun hb hF=>?_)
   ·refine A.q0 [] [] [.on .n,.on .n,.on .n,.on .n,.sy .n,.sy .n,.sy .n,.on .pk,.on .n,.n] [(110,.bool (bif decide ((0:Int)<((r35.1).length:Int))then true else decide ((0:Int)<((r35.2.1).length:Int))))] ?_
    refine A.AL.done ?_
    exact A.j ⟨(bif decide ((0:Int)<((r35.1).length:Int))then true else decide ((0:Int)<((r35.2.1).length:Int))),rfl,rfl,hF⟩
   refine A.q0 [] [] [.off,.off,.off,.off,.off,.off,.off,.off,.on .n,.n] [(110,.bool false)] ?_
   refine A.AL.done ?_
   exact A.j ⟨false,rfl,rfl,hF⟩
  refine A.q0 [] [] [.off,.off,.off,.off,.off,.off,.off,.off,.on .n,.n,.n,.on .n,.on .n,.on .n] [(97,.bool false),(100,.bool (decide (r35.2.2≠0)))] ?_
  refine A.AL.cnp (j:=100) rfl hF (fun hb hF=>?_) (fun hb hF=>?_)
  ·refine A.q0 [] [] [.on .n,.on .n,.on .n,.on .n,.sy .n,.sy .n,.sy .n,.on .pk,.on .n,.n] [(110,.bool (bif decide ((0:Int)<((r35.1).length:Int))then true else decide ((0:Int)<((r35.2.1).length:Int))))] ?_
   refine A.AL.done ?_
   exact A.j ⟨(bif decide ((0:Int)<((r35.1).length:Int))then true else decide ((0:Int)<((r35.2.1).length:Int))),rfl,rfl,hF⟩
  refine A.q0 [] [] [.off,.off,.off,.off,.off,.off,.off,.off,.on .n,.n] [(110,.bool false)] ?_
  refine A.AL.done ?_
  exact A.j ⟨false,rfl,rfl,hF⟩
 rintro _ _ ⟨y42,rfl,rfl,hF⟩
 rw[F.L17_OperStays_j3]at hF
 refine A.AX.cnb rfl hF (fun hb hF=>?_) (fun hb hF=>?_)
 ·refine A.xl 1 ?_
  refine A.q0 [] [] [.n] [(6,.bool false)] ?_
  refine A.dx 1 ?_
  obtain rfl:=Option.some.inj hF
  exact A.rt1 [] ⟨rfl,rfl⟩
 refine A.xl 4 ?_
 refine A.q0 [] [] [.n] [(111,.slice A25 ((r23.1).length) c26)] ?_
 obtain⟨r43,hv44,hF⟩:=A.bd_some hF
 refine A.AL.call 1326 [] (first:=[]) (cap:=[]) cf26 (slices_Clone_api_Rec_api_Rec_ok r23.1 A25 c26 r43 hv44) (.o 1245 .nil) ?_
 rintro _ _ ⟨A45,c46,rfl,rfl⟩
 refine⟨by kernel_rfl,?_⟩
 refine A.q0 [] [] [.n] [(113,.slice A37 ((r35.1).length) c38)] ?_
 obtain⟨hl49,hF⟩:=A.gd_some hF
 refine A.AL.app (k:=1326) [] (A.rowS (k:=1286) rfl) inf44 hl49 fun A47 c48=>?_
 refine A.q0 [] [] [.n,.n] [(115,.int .i64 ((r43++r35.1).length:Int)),(116,.int .i64 0)] ?_
 refine A.dx 2 ?_
 refine A.lp_ [3,14,15,114,115] [0,4,5,6,7,1287,1326] (fun f nl nh=>∃(y50:Int),nl=[(116,.int .i64 y50)]∧nh=[]∧IntKind.i64.has y50∧F.L17_OperStays_l2 a0 r35 r43 f y50=some r) ⟨0,rfl,rfl,(A.hasl .i64 (0) rfl),hF⟩ ?_
 rintro f52 _ _ ⟨y50,rfl,rfl,hy51,hF⟩
 rcases f52 with _|f52
 ·exact A.no0 hF
 rw[F.L17_OperStays_l2]at hF
 refine A.xl 1 ?_
 refine A.q0 [] [] [.n] [(117,.bool (decide (y50<((r43++r35.1).length:Int))))] ?_
 refine A.dx 2 ?_
 refine A.AX.cnd rfl hF (fun hb hF=>?_) (fun hb hF=>?_)
 ·refine A.xl 5 ?_
  obtain⟨x53,hv54,hF⟩:=A.bd_some hF
  refine A.AL.ixo 1326 1530 hv54 fun ho55=>?_
  intro g56 hA57
  refine A.q0 [] [1530] [.e 0 0] [(119,.agg #[.int .i64 x53.1,.string x53.2])] ?_
  refine A.AL.alloc 1531 (cs:=[.int .i64 0,.string (ByteArray.mk #[])]) Tryz.zeroValue44 fun g58=>?_
  refine A.sw 1531 [] [.int .i64 x53.1,.string x53.2] ?_
  refine A.dl 2 ?_
  refine A.q0 [1531] [] [.b 0 0] [(120,.agg #[.int .i64 x53.1,.string x53.2])] ?_
  obtain⟨r59,hv60,hF⟩:=A.bd_some hF
  refine A.AL.call 1532 [] (first:=[]) (cap:=[]) cf27 (R05_Check_ok (x53.1,x53.2) ho55.1 ho55.2 r59 hv60) .nil ?_
  rintro _ _ ⟨rfl,rfl,hr61⟩
  refine⟨by kernel_rfl,?_⟩
  refine A.q0 [] [] [.n] [(122,.bool (decide (r59≠0)))] ?_
  refine A.dx 1 ?_
  refine A.AX.cnd rfl hF (fun hb hF=>?_) (fun hb hF=>?_)
  ·refine A.xl 1 ?_
   refine A.q0 [] [] [.n] [(6,.bool false)] ?_
   refine A.dx 1 ?_
   obtain rfl:=Option.some.inj hF
   exact A.rt1 [] ⟨rfl,rfl⟩
  refine A.xl 3 ?_
  obtain⟨hc62,hF⟩:=A.gd_some hF
  refine A.q [] [] [.n,.n] [Z.R64 (y50+1)] [(116,.int .i64 (y50+1))] hc62 ?_
  refine A.AL.done ?_
  exact A.j ⟨_,Nat.lt_succ_self _,⟨(y50+1),rfl,rfl,(Z.i64_has hc62),hF⟩⟩
 refine A.xx 2 ?_
 refine A.AX.join [] [4,5,6] (fun nl nh=>∃(y63:Bool),nl=[(6,.bool y63)]∧nh=[]∧F.L17_OperStays_j1 y63=some r) ?_ ?_
 ·refine A.xl 0 ?_
  refine A.q0 [] [] [.n,.n,.n] [(126,.bool (decide (r35.2.2≠0)))] ?_
  refine A.AL.cnp (j:=126) rfl hF (fun hb hF=>?_) (fun hb hF=>?_)
  ·refine A.q0 [] [] [.off,.off,.off,.off,.n,.n] [(6,.bool true)] ?_
   refine A.AL.done ?_
   exact A.j ⟨true,rfl,rfl,hF⟩
  refine A.q0 [7] [] [.on (.b 0 0),.on .n] [(127,.agg #[.int .i64 a0.1,.int .i64 a0.2.1,.slice A2_ ((a0.2.2.1).length) c3_,.int .i64 a0.2.2.2.1.1,.int .i64 a0.2.2.2.1.2.1,.string a0.2.2.2.1.2.2,.string a0.2.2.2.2.1,.int .i64 a0.2.2.2.2.2.1,.int .i64 a0.2.2.2.2.2.2]),(128,.slice A39 ((r35.2.1).length) c40)] ?_
  refine A.AL.on (dj:=126) rfl rfl ?_
  obtain⟨r64,hv65,hF⟩:=A.bd_some hF
  refine A.AL.call 1572 [] (first:=[]) (cap:=[]) cf15 (R17_CheckState_ok (a0.1,a0.2.1,a0.2.2.1,(a0.2.2.2.1.1,a0.2.2.2.1.2.1,a0.2.2.2.1.2.2),a0.2.2.2.2.1,a0.2.2.2.2.2.1,a0.2.2.2.2.2.2) r35.2.1 A2_ c3_ A39 c40 h0_ h1_ h4_ h5_ h6_ h7_ h8_ h9_ r64 hv65) (.s 0 (.l 1287 .nil)) ?_
  rintro _ _ ⟨rfl,rfl,hr66⟩
  refine⟨by kernel_rfl,?_⟩
  refine A.q0 [] [] [.on .n,.n,.n] [(6,.bool (decide (r64=0)))] ?_
  refine A.AL.done ?_
  exact A.j ⟨(decide (r64=0)),rfl,rfl,hF⟩
 rintro _ _ ⟨y63,rfl,rfl,hF⟩
 rw[F.L17_OperStays_j1]at hF
 obtain rfl:=Option.some.inj hF
 exact A.rt1 [] ⟨rfl,rfl⟩
end Go.Proofs.YtbljnlkhebiniaaGreatDoor
end
section
end
section
namespace Go.Graph
abbrev Fun:=Int×Int×ByteArray
abbrev Nd:=Int×Int×List Int×Fun×ByteArray×Int×Int
abbrev id (x:Nd):Int:=x.1
abbrev kind (x:Nd):Int:=x.2.1
abbrev ins (x:Nd):List Int:=x.2.2.1
abbrev fn (x:Nd):Fun:=x.2.2.2.1
abbrev name (x:Nd):ByteArray:=x.2.2.2.2.1
abbrev cap (x:Nd):Int:=x.2.2.2.2.2.1
def Few (g:List Nd):Prop:=g.length≤40∧∀x,x∈g→x.2.2.1.length≤5000∧x.2.2.2.2.1.size≤5000∧x.2.2.2.1.2.2.size≤5000
theorem Few.in {g:List Nd}{k:Nat}{x:Nd}(h:Few g)(hx:g[k]?=some x):x.2.2.1.length≤5000:=(h.2 x (List.mem_of_getElem? hx)).1
def insK (k:Int):Int:=if k<1∨16<k then-1 else if k=1 then 0 else if k=5∨k=9 then 2 else 1
def letter (c:UInt8):Bool:=decide ((97:Int)≤(c.toNat:Int)∧(c.toNat:Int)≤122∨(65:Int)≤(c.toNat:Int)∧(c.toNat:Int)≤90)
def digit (c:UInt8):Bool:=decide ((48:Int)≤(c.toNat:Int)∧(c.toNat:Int)≤57)
def wordy (l:List UInt8):Bool:=l.all fun c=>letter c||digit c
def named (s:ByteArray):Bool:=decide (s≠ByteArray.mk #[])&&decide ((s.size:Int)≤16)&&letter (Z.bat s 0)&&wordy s.data.toList
theorem drop_bat {s:ByteArray}{i:Nat}(h:i<s.size):s.data.toList.drop i=Z.bat s i::s.data.toList.drop (i+1):=by
 have h':i<s.data.toList.length:=by simpa using h
 rw[List.drop_eq_getElem_cons h']
 have h2:i<s.data.size:=h
 congr 1
 simp[Z.bat,Array.getElem?_eq_getElem h2]
theorem drop_end {s:ByteArray}{i:Nat}(h: ¬i<s.size):s.data.toList.drop i=[]:=
 List.drop_eq_nil_of_le (by have h1:s.data.toList.length=s.size:=rfl;omega)
def idxF (id:Int):Nat→List Nd→Int
 |_,[]=> -1
 |k,x::r=>if x.1=id then(k:Int)else idxF id (k+1) r
def idx (g:List Nd)(id:Int):Int:=idxF id 0 g
def namedF (kd:Int)(s:ByteArray):List Nd→Int×Bool
 | []=>(0,false)
 |x::r=>if kind x=kd∧name x=s then(x.1,true)else namedF kd s r
def z0:Nd:=(0,0,[],(0,0,ByteArray.mk #[]),ByteArray.mk #[],0,0)
def at_ (g:List Nd)(i:Int):Nd:=(g[i.toNat]?).getD z0
def ownT (g:List Nd)(n:Nd):Bool:=if n.2.1≠1∧n.2.1≠15 then decide (n.2.2.2.2.1=ByteArray.mk #[])else named n.2.2.2.2.1&&decide ((namedF n.2.1 n.2.2.2.2.1 g).1=n.1)
def ownC (n:Nd):Prop:=n.2.1=14∧(n.2.2.2.2.2.1<1∨8<n.2.2.2.2.2.1∨n.2.2.2.2.2.2<1∨4<n.2.2.2.2.2.2)∨n.2.1≠14∧(n.2.2.2.2.2.1≠0∨n.2.2.2.2.2.2≠0)
instance (n:Nd):Decidable (ownC n):=by unfold ownC;infer_instance
def own (g:List Nd)(i:Int)(n:Nd):Bool:=
 if n.1<1∨255<n.1∨0<i∧n.1≤(at_ g (i-1)).1∨insK n.2.1<0∨(n.2.2.1.length:Int)≠insK n.2.1 then false else if ownC n then false else ownT g n
def bget (l:List Bool)(i:Int):Bool:=(l[i.toNat]?).getD false
def iget (l:List Int)(i:Int):Int:=(l[i.toNat]?).getD 0
def readyF (g:List Nd)(done:List Bool)(kd:Int):List Int→Bool
 | []=>true
 |k::r=>if kd≠14∧bget done (idx g k)=false then false else readyF g done kd r
def ready (g:List Nd)(done:List Bool)(n:Nd):Bool:=readyF g done n.2.1 n.2.2.1
def d0:List Int→Int
 | []=>0
 |a::_=>a
abbrev inD (g:List Nd) (d:List Int) (l:List Int):List Int:=l.map fun k=>iget d (idx g k)
def InB (d:List Int):Prop:=∀i,0≤iget d i∧iget d i≤4
theorem InB.rep (n:Nat):InB (List.replicate n 0):=fun i=>by
 unfold iget;rw[List.getElem?_replicate];split<;>simp
theorem InB.set {d:List Int}(h:InB d)(p:Nat){v:Int}(h0:0≤v)(h1:v≤4):InB (d.set p v):=fun i=>by
 unfold iget;rw[List.getElem?_set]
 have:=h i
 unfold iget at this
 split
 ·split<;>simp<;>omega
 ·exact this
theorem InB.d0 {d:List Int}(h:InB d)(g:List Nd)(l:List Int): -1≤Graph.d0 (inD g d l)∧Graph.d0 (inD g d l)≤4:=by
 cases l with
 |nil=>simp[Graph.d0]
 |cons k r=>have:=h (idx g k);simp only[inD,List.map_cons,Graph.d0];omega
theorem width_pos (s:ByteArray)(pos:Nat):1≤(Utf8.decode s pos).2:=by
 unfold Utf8.decode;simp only[];repeat' split
 all_goals first|exact Nat.le_refl 1|(simp;done)|omega
def numberF (f:Fun):Bool:=if f.1=3∨f.1=13 then decide (0≤f.2.1∧f.2.1≤64)else if f.1=6∨f.1=11 then decide (1≤f.2.1∧f.2.1≤1048576)else decide (f.2.1=0)
def tail5 (c:UInt8):Bool:=decide (128≤(c.toNat:Int)∧(c.toNat:Int)≤191)
def second (s:ByteArray)(i:Nat):UInt8:=if i+1<s.size then Z.bat s (i+1)else 0
end Go.Graph
end
section
set_option linter.unusedVariables false
set_option linter.unusedSimpArgs false
namespace Go.A
open Go.Z
theorem gd1 {α:Type}{p:Prop}[Decidable p](h:p)(x:Option α):gd p x=x:=if_pos h
theorem ixn {α:Type}{xs:List α}{k:Nat}{x:α}(h:xs[k]?=some x):ix xs (k:Int)=some x:=by rw[ix_nat];exact h
theorem dropx {α:Type}{xs:List α}{k:Nat}{x:α}(h:xs[k]?=some x):xs.drop k=x::xs.drop (k+1):=by
 obtain⟨h1,h2⟩:=List.getElem?_eq_some_iff.1 h
 rw[List.drop_eq_getElem_cons h1,h2]
theorem ba {p q:Prop}[Decidable p][Decidable q]:(bif decide p then decide q else false)=decide (p∧q):=by by_cases h:p<;>simp[h]
theorem bo {p q:Prop}[Decidable p][Decidable q]:(bif decide p then true else decide q)=decide (p∨q):=by by_cases h:p<;>simp[h]
theorem bn {p:Prop}[Decidable p]:(!decide p)=decide (¬p):=by by_cases h:p<;>simp[h]
theorem lp {α σ ρ:Type}(xs:List α)(L:Nat→σ→Int→Option ρ)(G:Nat→List α→σ→Option ρ)(P:Nat→σ→Prop)
  (h0: ∀f s,P xs.length s→L (f+1) s (xs.length:Int)=G xs.length [] s)
  (h1: ∀f s (k:Nat) x,xs[k]?=some x→k<xs.length→P k s→(∀s',P (k+1) s'→L f s' ((k:Int)+1)=G (k+1) (xs.drop (k+1)) s')→L (f+1) s k=G k (x::xs.drop (k+1)) s)
  (hl:xs.length<FU) (s:σ) (hs:P 0 s):L FU s 0=G 0 xs s:=by
 have main: ∀(n k f:Nat) (s:σ),k+n=xs.length→n<f→P k s→L f s (k:Int)=G k (xs.drop k) s:=by
  intro n
  induction n with
  |zero=>
   intro k f s hk hf hp
   obtain⟨f,rfl⟩: ∃f',f=f'+1:=⟨f-1,by omega⟩
   obtain rfl:k=xs.length:=by omega
   rw[List.drop_eq_nil_of_le (Nat.le_refl _)];exact h0 f s hp
  |succ n ih=>
   intro k f s hk hf hp
   obtain⟨f,rfl⟩: ∃f',f=f'+1:=⟨f-1,by omega⟩
   have hx:xs[k]?=some xs[k]:=List.getElem?_eq_getElem (by omega)
   rw[dropx hx]
   exact h1 f s k _ hx (by omega) hp fun s' hp'=>ih (k+1) f s' (by omega) (by omega) hp'
 have:=main xs.length 0 FU s (by omega) hl hs
 simpa using this
theorem lp0 {α ρ:Type}(xs:List α)(L:Nat→Int→Option ρ)(G:Nat→List α→Option ρ)
  (h0: ∀f,L (f+1) (xs.length:Int)=G xs.length [])
  (h1: ∀f (k:Nat) x,xs[k]?=some x→k<xs.length→L f ((k:Int)+1)=G (k+1) (xs.drop (k+1))→L (f+1) k=G k (x::xs.drop (k+1)))
  (hl:xs.length<FU):L FU 0=G 0 xs:=
 lp xs (fun f (_:Unit) y=>L f y) (fun k l _=>G k l) (fun _ _=>True) (fun f s _=>h0 f) (fun f s k x hx hk _ ih=>h1 f k x hx hk (ih () trivial)) hl () trivial
end Go.A
namespace Go.Proofs.YtbljnlkhebiniaaGreatDoor
open Go.RowKit Go.Graph
theorem FU_big:(18446744073709551616:Nat)<A.FU:=by decide
theorem ixb {s:ByteArray}{k:Nat}(h:k<s.size):A.ix s.data.toList (k:Int)=some (Z.bat s k):=by
 refine A.ixn ?_
 have:=drop_bat h
 rw[←List.head?_drop,this];rfl
theorem size_list (s:ByteArray):s.data.toList.length=s.size:=rfl
end Go.Proofs.YtbljnlkhebiniaaGreatDoor
end
section
set_option linter.unusedVariables false
set_option linter.unusedSimpArgs false
namespace Go.Proofs.YtbljnlkhebiniaaGreatDoor
open Go.RowKit Go.Graph
theorem bat_get (s:ByteArray)(i:Nat):(s.get! i)=Z.bat s i:=by
 cases s;simp[ByteArray.get!,Z.bat,getElem!_def,Option.getD]
 rfl
theorem dec_at (s:ByteArray)(i:Nat):Utf8.decode s i=Lib.decodeN (s.size-i) (Z.bat s i).toNat (Z.bat s (i+1)).toNat (Z.bat s (i+2)).toNat (Z.bat s (i+3)).toNat:=by
 rw[Lib.decode_at,bat_get,bat_get,bat_get,bat_get]
end Go.Proofs.YtbljnlkhebiniaaGreatDoor
end
section
set_option maxRecDepth 20000
set_option linter.unusedVariables false
set_option linter.unusedSimpArgs false
namespace Go.Proofs.YtbljnlkhebiniaaGreatDoor
open Go.RowKit Go.Graph
theorem tail_eq (c:UInt8):F.R05_tail c=some (tail5 c):=by
 unfold F.R05_tail tail5
 by_cases h1:(128:Int)≤(c.toNat:Int)<;>by_cases h2:(c.toNat:Int)≤191<;>simp[h1,h2]
theorem ixk (s:ByteArray)(p k:Nat):A.ix s.data.toList ((p:Int)+(k:Int))=if p+k<s.size then some (Z.bat s (p+k))else none:=by
 have e:(p:Int)+(k:Int)=((p+k:Nat):Int):=by omega
 rw[e]
 by_cases h:p+k<s.size
 ·rw[if_pos h];exact ixb h
 ·rw[if_neg h,A.ix_nat];exact List.getElem?_eq_none (by rw[size_list];omega)
def wid (s:ByteArray)(p:Nat):Nat:=if Utf8.decode s p=(65533,1)then 0 else(Utf8.decode s p).2
theorem wid_le {s:ByteArray}{p:Nat}(h:p<s.size):p+wid s p≤s.size:=by
 unfold wid
 split
 ·omega
 ·rw[dec_at]
  unfold Lib.decodeN
  repeat' split
  all_goals simp only[]
  all_goals omega
def widN (n a b c d:Nat):Nat:=
 if a<128 then 1
 else if(194≤a∧a≤223)∧2≤n∧(128≤b∧b≤191)then 2
 else if(224≤a∧a≤239)∧3≤n∧(128≤b∧b≤191)∧(128≤c∧c≤191)∧¬(a=224∧b<160)∧¬(a=237∧159<b)then 3
 else if(240≤a∧a≤244)∧4≤n∧(128≤b∧b≤191)∧(128≤c∧c≤191)∧(128≤d∧d≤191)∧¬(a=240∧b<144)∧¬(a=244∧143<b)then 4
 else 0
theorem pq (c:Prop)[Decidable c](x w:Nat)(hw:w≠1):(if(if c then(x,w)else(65533,1))=(65533,1)then 0 else(if c then(x,w)else(65533,1)).2)=if c then w else 0:=by
 by_cases h:c<;>simp[h,hw]
theorem widN_eq (n a b c d:Nat)(ha:a<256)(hb:b<256)(hc:c<256)(hd:d<256):(if Lib.decodeN n a b c d=(65533,1)then 0 else(Lib.decodeN n a b c d).2)=widN n a b c d:=by
 unfold Lib.decodeN widN
 by_cases h0:a<128
 ·simp only[h0,if_true,Prod.mk.injEq];rw[if_neg (by omega)]
 ·simp only[h0,if_false]
  by_cases h1:a / 32=6∧1<n∧b / 64=2
  ·simp only[if_pos h1]
   rw[pq _ _ _ (by decide)]
   repeat' split
   all_goals omega
  ·simp only[if_neg h1]
   by_cases h3:a / 16=14∧(1<n∧b / 64=2)∧2<n∧c / 64=2
   ·simp only[if_pos h3]
    rw[pq _ _ _ (by decide)]
    repeat' split
    all_goals omega
   ·simp only[if_neg h3]
    by_cases h5:a / 8=30∧(1<n∧b / 64=2)∧(2<n∧c / 64=2)∧3<n∧d / 64=2
    ·simp only[if_pos h5]
     rw[pq _ _ _ (by decide)]
     repeat' split
     all_goals omega
    ·simp only[if_neg h5,if_true]
     repeat' split
     all_goals omega
theorem wid_N (s:ByteArray)(p:Nat):wid s p=widN (s.size-p) (Z.bat s p).toNat (Z.bat s (p+1)).toNat (Z.bat s (p+2)).toNat (Z.bat s (p+3)).toNat:=by
 rw[←widN_eq _ _ _ _ _ (UInt8.toNat_lt _) (UInt8.toNat_lt _) (UInt8.toNat_lt _) (UInt8.toNat_lt _),←dec_at];rfl
theorem cnd {α:Type}{p:Prop}[Decidable p](x y:α):(bif decide p then x else y)=if p then x else y:=by by_cases h:p<;>simp[h]
set_option maxHeartbeats 4000000 in
theorem width_eq (s:ByteArray)(p:Nat)(hp:p<s.size)(hs:s.size≤5000):F.R05_width s p=some (wid s p:Int):=by
 have i1:A.ix s.data.toList ((p:Int)+1)=if p+1<s.size then some (Z.bat s (p+1))else none:=ixk s p 1
 have i2:A.ix s.data.toList ((p:Int)+2)=if p+2<s.size then some (Z.bat s (p+2))else none:=ixk s p 2
 have i3:A.ix s.data.toList ((p:Int)+3)=if p+3<s.size then some (Z.bat s (p+3))else none:=ixk s p 3
 have r1:Z.R64 ((p:Int)+1):=⟨by omega,by omega⟩
 have r2:Z.R64 ((p:Int)+2):=⟨by omega,by omega⟩
 have r3:Z.R64 ((p:Int)+3):=⟨by omega,by omega⟩
 unfold F.R05_width
 rw[A.gd1 ⟨by omega,by omega⟩,ixb hp,Option.bind_some,A.gd1 r1,i1,wid_N]
 generalize Z.bat s p=c0 at*
 generalize Z.bat s (p+1)=c1 at*
 generalize Z.bat s (p+2)=c2 at*
 generalize Z.bat s (p+3)=c3 at*
 have t (c:UInt8):tail5 c=decide (128≤c.toNat∧c.toNat≤191):=by unfold tail5;congr 1;exact propext ⟨fun h=>by omega,fun h=>by omega⟩
 by_cases h1:(1:Int)<(s.size:Int)-(p:Int)
 ·rw[if_pos h1,if_pos (by omega),Option.bind_some]
  simp only[F.R05_width_j4,F.R05_width_j3,F.R05_width_j2,F.R05_width_j1,tail_eq,Option.bind_some,t,A.gd1 r2,A.gd1 r3,i2,i3]
  unfold widN
  generalize hn:s.size-p=n
  have e2:((2:Int)≤(s.size:Int)-(p:Int))=(2≤n):=propext ⟨fun h=>by omega,fun h=>by omega⟩
  have e3:((3:Int)≤(s.size:Int)-(p:Int))=(3≤n):=propext ⟨fun h=>by omega,fun h=>by omega⟩
  have e4:((4:Int)≤(s.size:Int)-(p:Int))=(4≤n):=propext ⟨fun h=>by omega,fun h=>by omega⟩
  have f2:(p+2<s.size)=(3≤n):=propext ⟨fun h=>by omega,fun h=>by omega⟩
  have f3:(p+3<s.size)=(4≤n):=propext ⟨fun h=>by omega,fun h=>by omega⟩
  have hn2:2≤n:=by omega
  simp only[e2,e3,e4,f2,f3,A.ba,decide_eq_true_eq,hn2,and_true,true_and]
  have q0:((c0.toNat:Int)<128)=(c0.toNat<128):=propext ⟨fun h=>by omega,fun h=>by omega⟩
  have q1:((194:Int)≤(c0.toNat:Int)∧(c0.toNat:Int)≤223)=(194≤c0.toNat∧c0.toNat≤223):=propext ⟨fun h=>by omega,fun h=>by omega⟩
  have q2:((224:Int)≤(c0.toNat:Int)∧(c0.toNat:Int)≤239)=(224≤c0.toNat∧c0.toNat≤239):=propext ⟨fun h=>by omega,fun h=>by omega⟩
  have q3:((240:Int)≤(c0.toNat:Int)∧(c0.toNat:Int)≤244)=(240≤c0.toNat∧c0.toNat≤244):=propext ⟨fun h=>by omega,fun h=>by omega⟩
  have q4:((c0.toNat:Int)=224∧(c1.toNat:Int)<160)=(c0.toNat=224∧c1.toNat<160):=propext ⟨fun h=>by omega,fun h=>by omega⟩
  have q5:((c0.toNat:Int)=237∧(159:Int)<(c1.toNat:Int))=(c0.toNat=237∧159<c1.toNat):=propext ⟨fun h=>by omega,fun h=>by omega⟩
  have q6:((c0.toNat:Int)=240∧(c1.toNat:Int)<144)=(c0.toNat=240∧c1.toNat<144):=propext ⟨fun h=>by omega,fun h=>by omega⟩
  have q7:((c0.toNat:Int)=244∧(143:Int)<(c1.toNat:Int))=(c0.toNat=244∧143<c1.toNat):=propext ⟨fun h=>by omega,fun h=>by omega⟩
  simp only[q0,q1,q2,q3,q4,q5,q6,q7]
  have x1:240≤c0.toNat∧c0.toNat≤244→¬(224≤c0.toNat∧c0.toNat≤239):=fun h h2=>by omega
  have x2:240≤c0.toNat∧c0.toNat≤244→¬(194≤c0.toNat∧c0.toNat≤223):=fun h h2=>by omega
  have x3:224≤c0.toNat∧c0.toNat≤239→¬(194≤c0.toNat∧c0.toNat≤223):=fun h h2=>by omega
  by_cases K0:c0.toNat<128
  ·simp[K0]
  by_cases m1:128≤c1.toNat∧c1.toNat≤191
  ·by_cases K1:194≤c0.toNat∧c0.toNat≤223
   ·simp only[if_neg K0,if_pos K1,if_pos m1,K1,m1,and_self,if_true];rfl
   ·by_cases K2:224≤c0.toNat∧c0.toNat≤239
    ·have K3: ¬(240≤c0.toNat∧c0.toNat≤244):=fun h=>x1 h K2
     by_cases k3:3≤n
     ·by_cases m2:128≤c2.toNat∧c2.toNat≤191
      ·by_cases y1:c0.toNat=224∧c1.toNat<160
       ·simp only[if_neg K0,if_neg K1,if_pos (And.intro K2 k3),if_pos m1,if_pos k3,Option.bind_some,if_pos m2,eq_true y1,if_true,false_and,K1,K3,eq_true y1,not_true_eq_false,and_false,if_false];rfl
       ·by_cases y2:c0.toNat=237∧159<c1.toNat
        ·simp only[if_neg K0,if_neg K1,if_pos (And.intro K2 k3),if_pos m1,if_pos k3,Option.bind_some,if_pos m2,if_neg y1,eq_true y2,if_true,false_and,K1,K3,eq_true y2,not_true_eq_false,and_false,if_false];rfl
        ·simp only[if_neg K0,if_neg K1,if_pos (And.intro K2 k3),if_pos m1,if_pos k3,Option.bind_some,if_pos m2,if_neg y1,if_neg y2,false_and,K1,K2,k3,m1,m2,y1,y2,not_false_eq_true,and_self,if_true,if_false];rfl
      ·simp only[if_neg K0,if_neg K1,if_pos (And.intro K2 k3),if_pos m1,if_pos k3,Option.bind_some,if_neg m2,if_neg K3,false_and,K1,K3,m2,and_false,if_false,Bool.false_eq_true];rfl
     ·simp only[if_neg K0,if_neg K1,k3,and_false,if_neg K3,false_and,K1,K3,if_false];rfl
    ·by_cases K3:240≤c0.toNat∧c0.toNat≤244
     ·by_cases k4:4≤n
      ·have k3:3≤n:=by omega
       by_cases m2:128≤c2.toNat∧c2.toNat≤191
       ·by_cases m3:128≤c3.toNat∧c3.toNat≤191
        ·by_cases y1:c0.toNat=240∧c1.toNat<144
         ·simp only[if_neg K0,if_neg K1,if_neg K2,K2,false_and,if_pos (And.intro K3 k4),if_pos m1,if_pos k3,if_pos k4,Option.bind_some,if_pos m2,if_pos m3,eq_true y1,if_true,K1,eq_true y1,not_true_eq_false,and_false,if_false];rfl
         ·by_cases y2:c0.toNat=244∧143<c1.toNat
          ·simp only[if_neg K0,if_neg K1,if_neg K2,K2,false_and,if_pos (And.intro K3 k4),if_pos m1,if_pos k3,if_pos k4,Option.bind_some,if_pos m2,if_pos m3,if_neg y1,eq_true y2,if_true,K1,eq_true y2,not_true_eq_false,and_false,if_false];rfl
          ·simp only[if_neg K0,if_neg K1,if_neg K2,K2,false_and,if_pos (And.intro K3 k4),if_pos m1,if_pos k3,if_pos k4,Option.bind_some,if_pos m2,if_pos m3,if_neg y1,if_neg y2,K1,K3,k4,m1,m2,m3,y1,y2,not_false_eq_true,and_self,if_true,if_false];rfl
        ·simp only[if_neg K0,if_neg K1,if_neg K2,K2,false_and,if_pos (And.intro K3 k4),if_pos m1,if_pos k3,if_pos k4,Option.bind_some,if_pos m2,if_neg m3,K1,m3,and_false,if_false,Bool.false_eq_true];rfl
       ·simp only[if_neg K0,if_neg K1,if_neg K2,K2,false_and,if_pos (And.intro K3 k4),if_pos m1,if_pos k3,Option.bind_some,if_neg m2,K1,m2,and_false,if_false,Bool.false_eq_true];rfl
      ·simp only[if_neg K0,if_neg K1,if_neg K2,K2,false_and,k4,and_false,K1,if_false];rfl
     ·simp only[if_neg K0,if_neg K1,if_neg K2,if_neg K3,K1,K2,K3,false_and,if_false];rfl
  ·simp[K0,m1]
 ·rw[if_neg h1]
  simp only[F.R05_width_j4,F.R05_width_j3,F.R05_width_j2,F.R05_width_j1,A.ba,decide_eq_true_eq]
  unfold widN
  have w0:(c0.toNat:Int)<128↔c0.toNat<128:=⟨fun h=>by omega,fun h=>by omega⟩
  by_cases h2:c0.toNat<128
  ·rw[if_pos (w0.2 h2),if_pos h2];rfl
  ·have a1: ¬((194≤c0.toNat∧c0.toNat≤223)∧2≤s.size-p∧128≤c1.toNat∧c1.toNat≤191):=fun h=>by omega
   have a2: ¬((224≤c0.toNat∧c0.toNat≤239)∧3≤s.size-p∧(128≤c1.toNat∧c1.toNat≤191)∧(128≤c2.toNat∧c2.toNat≤191)∧¬(c0.toNat=224∧c1.toNat<160)∧¬(c0.toNat=237∧159<c1.toNat)):=fun h=>by omega
   have a3: ¬((240≤c0.toNat∧c0.toNat≤244)∧4≤s.size-p∧(128≤c1.toNat∧c1.toNat≤191)∧(128≤c2.toNat∧c2.toNat≤191)∧(128≤c3.toNat∧c3.toNat≤191)∧¬(c0.toNat=240∧c1.toNat<144)∧¬(c0.toNat=244∧143<c1.toNat)):=fun h=>by omega
   rw[if_neg (fun h=>h2 (w0.1 h)),if_neg h2,if_neg a1,if_neg a2,if_neg a3]
   simp only[Bool.false_eq_true,if_false]
   rw[if_neg (fun h=>by omega),if_neg (fun h=>by omega),if_neg (fun h=>by omega)];rfl
def vld (s:ByteArray):Nat→Nat→Bool
 |0,_=>true
 |n+1,p=>if p<s.size then(if wid s p=0 then false else vld s n (p+wid s p))else true
def cnt (s:ByteArray):Nat→Nat→Nat
 |0,_=>0
 |n+1,p=>if p<s.size then 1+cnt s n (p+(Utf8.decode s p).2)else 0
theorem wid_4 (s:ByteArray)(p:Nat):wid s p≤4:=by
 rw[wid_N];unfold widN;repeat' split
 all_goals omega
theorem wid_dec {s:ByteArray}{p:Nat}(h:wid s p≠0):(Utf8.decode s p).2=wid s p:=by
 unfold wid at h ⊢;split at h
 ·exact absurd rfl h
 ·rename_i h2;rw[if_neg h2]
theorem Valid_eq (s:ByteArray)(hs:s.size≤5000):F.R05_Valid s=some (vld s s.size 0):=by
 have loop: ∀(n p f:Nat),s.size-p≤n→n<f→p≤5010→F.R05_Valid_l1 s f (p:Int)=some (vld s n p):=by
  intro n
  induction n with
  |zero=>
   intro p f hp hf _
   obtain⟨f,rfl⟩: ∃f',f=f'+1:=⟨f-1,by omega⟩
   rw[F.R05_Valid_l1,if_neg (by omega)];rfl
  |succ n ih=>
   intro p f hp hf hp5
   obtain⟨f,rfl⟩: ∃f',f=f'+1:=⟨f-1,by omega⟩
   rw[F.R05_Valid_l1,vld]
   by_cases h:p<s.size
   ·rw[if_pos (by omega),if_pos h,width_eq s p h hs,Option.bind_some]
    have:=wid_le h
    by_cases hw:wid s p=0
    ·rw[if_pos (by omega),if_pos hw]
    ·rw[if_neg (by omega),if_neg hw,A.gd1 ⟨by omega,by omega⟩]
     have e:(p:Int)+(wid s p:Int)=((p+wid s p:Nat):Int):=by omega
     rw[e];exact ih _ f (by omega) (by omega) (by omega)
   ·rw[if_neg (by omega),if_neg h]
 exact loop s.size 0 A.FU (by omega) (by have:=FU_big;omega) (by omega)
theorem validD_eq (s:ByteArray):Lib.validD s.data.toList=vld s s.size 0:=by
 have loop: ∀(n p:Nat),Lib.validGoD n (s.data.toList.drop p)=vld s n p:=by
  intro n
  induction n with
  |zero=>intro p;rfl
  |succ n ih=>
   intro p
   rw[Lib.validGoD,vld]
   by_cases h:p<s.size
   ·have hne:s.data.toList.drop p≠[]:=by rw[drop_bat h];simp
    rw[if_neg hne,if_pos h,Lib.decodeL_drop,List.drop_drop]
    by_cases hw:Utf8.decode s p=(65533,1)
    ·rw[if_pos (by rw[hw];exact⟨rfl,rfl⟩),if_pos (by unfold wid;rw[if_pos hw])]
    ·have e:wid s p=(Utf8.decode s p).2:=by unfold wid;rw[if_neg hw]
     rw[if_neg (fun h2=>hw (Prod.ext h2.1 h2.2)),if_neg (by rw[e];have:=width_pos s p;omega),ih,e]
   ·rw[if_pos (drop_end h),if_neg h]
 have:=loop s.size 0
 rw[List.drop_zero]at this
 exact this
theorem Runes_eq (s:ByteArray)(hs:s.size≤5000)(hv:vld s s.size 0=true): ∃l,F.R05_Runes s=some l∧l.length=cnt s s.size 0:=by
 have loop: ∀(n p f:Nat) (xs:List (Int×Int)),s.size-p≤n→n<f→xs.length≤p→p≤5010→vld s n p=true→∃l,F.R05_Runes_l2 s f xs (p:Int)=some l∧l.length=xs.length+cnt s n p:=by
  intro n
  induction n with
  |zero=>
   intro p f xs hp hf _ _ _
   obtain⟨f,rfl⟩: ∃f',f=f'+1:=⟨f-1,by omega⟩
   rw[F.R05_Runes_l2,if_neg (by omega)];exact⟨_,rfl,rfl⟩
  |succ n ih=>
   intro p f xs hp hf hxs hp5 hv
   obtain⟨f,rfl⟩: ∃f',f=f'+1:=⟨f-1,by omega⟩
   rw[F.R05_Runes_l2]
   rw[vld]at hv
   rw[cnt]
   by_cases h:p<s.size
   ·rw[if_pos h]at hv
    have hl:=wid_le h
    have h4:=wid_4 s p
    by_cases hw:wid s p=0
    ·rw[if_pos hw]at hv;cases hv
    rw[if_neg hw]at hv
    have hj: ∀(w c:Int),w=(wid s p:Int)→∃l,F.R05_Runes_j1 (F.R05_Runes_l2 s f) xs (p:Int) w c=some l∧l.length=xs.length+(1+cnt s n (p+(Utf8.decode s p).2)):=fun w c hwc=>by
     subst hwc
     rw[F.R05_Runes_j1,A.gd1 (by simp only[List.length_cons,List.length_nil];omega),A.gd1 ⟨by omega,by omega⟩,wid_dec hw]
     have e:(p:Int)+(wid s p:Int)=((p+wid s p:Nat):Int):=by omega
     rw[e]
     obtain⟨l,h1,h2⟩:=ih (p+wid s p) f (xs++[((p:Int),c)]) (by omega) (by omega) (by simp only[List.length_append,List.length_cons,List.length_nil];omega) (by omega) hv
     exact⟨l,h1,by rw[h2,List.length_append];simp only[List.length_cons,List.length_nil];omega⟩
    have i0:=ixb (s:=s) h
    have i1:A.ix s.data.toList ((p:Int)+1)=if p+1<s.size then some (Z.bat s (p+1))else none:=ixk s p 1
    have i2:A.ix s.data.toList ((p:Int)+2)=if p+2<s.size then some (Z.bat s (p+2))else none:=ixk s p 2
    have i3:A.ix s.data.toList ((p:Int)+3)=if p+3<s.size then some (Z.bat s (p+3))else none:=ixk s p 3
    have r1:Z.R64 ((p:Int)+1):=⟨by omega,by omega⟩
    have r2:Z.R64 ((p:Int)+2):=⟨by omega,by omega⟩
    have r3:Z.R64 ((p:Int)+3):=⟨by omega,by omega⟩
    rw[if_pos (by omega),if_pos h,width_eq s p h hs,Option.bind_some]
    by_cases w1:wid s p=1
    ·rw[if_pos (by omega),i0,Option.bind_some];exact hj _ _ rfl
    rw[if_neg (by omega)]
    by_cases w2:wid s p=2
    ·rw[if_pos (by omega),A.gd1 r1,i0,Option.bind_some,A.gd1 (by decide),i1,if_pos (by omega),Option.bind_some,A.gd1 (by decide)];exact hj _ _ rfl
    rw[if_neg (by omega)]
    by_cases w3:wid s p=3
    ·rw[if_pos (by omega),A.gd1 ⟨r1,r2⟩,i0,Option.bind_some,A.gd1 (by decide),i1,if_pos (by omega),Option.bind_some,A.gd1 (by decide),i2,if_pos (by omega),Option.bind_some,A.gd1 (by decide)];exact hj _ _ rfl
    rw[if_neg (by omega),if_pos (by omega),A.gd1 ⟨r1,r2,r3⟩,i0,Option.bind_some,A.gd1 (by decide),i1,if_pos (by omega),Option.bind_some,A.gd1 (by decide),i2,if_pos (by omega),Option.bind_some,A.gd1 (by decide),i3,if_pos (by omega),Option.bind_some,A.gd1 (by decide)];exact hj _ _ rfl
   ·rw[if_neg (by omega),if_neg h];exact⟨_,rfl,rfl⟩
 obtain⟨l,h1,h2⟩:=loop s.size 0 A.FU [] (by omega) (by have:=FU_big;omega) (by simp) (by omega) hv
 exact⟨l,h1,by simpa using h2⟩
theorem single_eq (s:ByteArray)(hs:s.size≤9223372036854775807):F.fn_single s=some (if cnt s s.size 0=1 then vld s s.size 0 else false):=by
 have loop: ∀(n p f:Nat) (y:Int),s.size-p≤n→n<f→0≤y→y+n≤9223372036854775807→F.fn_single_l2 s f p y=some (if y+(cnt s n p:Int)=1 then vld s s.size 0 else false):=by
  intro n
  induction n with
  |zero=>
   intro p f y hp hf _ _
   obtain⟨f,rfl⟩: ∃f',f=f'+1:=⟨f-1,by omega⟩
   rw[F.fn_single_l2,if_neg (by omega),F.utf8_ValidString,validD_eq,Option.bind_some]
   simp only[F.fn_single_j1]
   have e:y+(cnt s 0 p:Int)=y:=by rw[cnt];omega
   by_cases h:y=1
   ·rw[if_pos h,if_pos (by omega)]
   ·rw[if_neg h,if_neg (by omega)]
  |succ n ih=>
   intro p f y hp hf h0 h2
   obtain⟨f,rfl⟩: ∃f',f=f'+1:=⟨f-1,by omega⟩
   rw[F.fn_single_l2,cnt]
   by_cases h:p<s.size
   ·rw[if_pos h,if_pos h,A.gd1 ⟨by omega,by omega⟩]
    have hw:=width_pos s p
    rw[ih _ f (y+1) (by omega) (by omega) (by omega) (by omega)]
    congr 2
    exact propext ⟨fun h=>by omega,fun h=>by omega⟩
   ·rw[if_neg h,if_neg h,F.utf8_ValidString,validD_eq,Option.bind_some]
    simp only[F.fn_single_j1]
    by_cases h:y=1
    ·rw[if_pos h,if_pos (by omega)]
    ·rw[if_neg h,if_neg (by omega)]
 unfold F.fn_single
 rw[loop s.size 0 A.FU 0 (by omega) (by have:=FU_big;omega) (by omega) (by omega)]
 congr 2
 exact propext ⟨fun h=>by omega,fun h=>by omega⟩
end Go.Proofs.YtbljnlkhebiniaaGreatDoor
end
section
set_option linter.unusedVariables false
set_option linter.unusedSimpArgs false
namespace Go.Proofs.YtbljnlkhebiniaaGreatDoor
open Go.RowKit Go.Graph
def textP (f:Fun):Bool:=if f.1=5 then decide (f.2.2≠ByteArray.mk #[])&&decide ((f.2.2.size:Int)≤16)&&vld f.2.2 f.2.2.size 0 else if f.1=12∨f.1=22 then decide (cnt f.2.2 f.2.2.size 0=1)&&vld f.2.2 f.2.2.size 0 else decide (f.2.2=ByteArray.mk #[])
theorem number_eq (f:Fun):F.fn_number f=some (numberF f):=by
 unfold F.fn_number F.fn_number_j2 F.fn_number_j1 numberF
 simp only[A.ba,decide_eq_true_eq]
 by_cases h3:f.1=3
 ·simp[h3]
 ·by_cases h13:f.1=13
  ·simp[h13]
  ·by_cases h6:f.1=6
   ·simp[h6]
   ·by_cases h11:f.1=11<;>simp[h3,h13,h6,h11]
theorem text_eq (f:Fun)(hs:f.2.2.size≤9223372036854775807):F.fn_text f=some (textP f):=by
 unfold F.fn_text textP
 simp only[F.fn_text_j1,F.fn_text_j2,A.ba,single_eq _ hs,F.utf8_ValidString,validD_eq,Option.bind_some,decide_eq_true_eq]
 by_cases h5:f.1=5
 ·simp only[h5,if_true]
  by_cases h1:f.2.2=ByteArray.mk #[]<;>by_cases h2:(f.2.2.size:Int)≤16<;>simp[h1,h2]
 ·by_cases h12:f.1=12
  ·simp[h12]
  ·by_cases h22:f.1=22<;>simp[h5,h12,h22]
def anyF (f:Fun)(l:List Int):Int:=if l.any (fun y=>decide (y=f.1)&&(numberF f&&textP f))=true then 0 else 60
def kinds (k:Int):List Int:=if k=2 then [1,2,3,4,5,6,7,8]else if k=3 then [11,12,13]else if k=4 then [21,22]else if k=8 then [31,32,33,34]else if k=11 then [41,42]else []
def chk (k:Int)(f:Fun):Int:=if kinds k=[]then(if f=(0,0,ByteArray.mk #[])then 0 else 60)else anyF f (kinds k)
theorem chk_l (f:Fun)(hs:f.2.2.size≤9223372036854775807): ∀l,F.fn_Check_l2 f l=some (anyF f l)
 | []=>rfl
 |y::l=>by
  have ih:=chk_l f hs l
  unfold F.fn_Check_l2
  simp only[F.fn_Check_j1,number_eq,text_eq _ hs,Option.bind_some,ih,anyF,List.any_cons]
  by_cases h:y=f.1
  ·subst h
   cases hn:numberF f<;>cases ht:textP f<;>simp
  ·simp[h]
theorem fn_Check_eq (k:Int)(f:Fun)(hs:f.2.2.size≤9223372036854775807):F.fn_Check k f=some (chk k f):=by
 have u2:F.fn_Uses_1_it 1 8=some [1,2,3,4,5,6,7,8]:=by kernel_rfl
 have u3:F.fn_Uses_1_it 11 13=some [11,12,13]:=by kernel_rfl
 have u4:F.fn_Uses_1_it 21 22=some [21,22]:=by kernel_rfl
 have u8:F.fn_Uses_1_it 31 34=some [31,32,33,34]:=by kernel_rfl
 have u11:F.fn_Uses_1_it 41 42=some [41,42]:=by kernel_rfl
 unfold F.fn_Check F.fn_Uses F.fn_uses chk kinds
 by_cases h2:k=2
 ·simp[h2,u2,chk_l f hs]
 ·by_cases h3:k=3
  ·simp[h3,u3,chk_l f hs]
  ·by_cases h4:k=4
   ·simp[h4,u4,chk_l f hs]
   ·by_cases h8:k=8
    ·simp[h8,u8,chk_l f hs]
    ·by_cases h11:k=11
     ·simp[h11,u11,chk_l f hs]
     ·simp only[h2,h3,h4,h8,h11,if_false,Option.bind_some]
      rw[if_pos (by decide),if_pos trivial]
      by_cases hz:f=(0,0,ByteArray.mk #[])
      ·rw[if_neg (fun h=>h hz),if_pos hz]
      ·rw[if_pos hz,if_neg hz]
end Go.Proofs.YtbljnlkhebiniaaGreatDoor
end
section
set_option linter.unusedVariables false
set_option linter.unusedSimpArgs false
namespace Go.Utf
open Go.Lib
abbrev Rn:=List UInt8×Int
theorem enc_eq (r:Int):(Utf8.encode r).data.toList=encodeRune r:=by
 unfold Utf8.encode encodeRune
 by_cases h1:0≤r∧r≤127
 ·rw[encodeRuneZ_one h1.1 h1.2]
  have hv:Utf8.valid r=true:=by simp[Utf8.valid];omega
  rw[if_pos hv]
  have hc:r.toNat<128:=by omega
  simp only[hc,if_true]
  simp
 by_cases h2:128≤r∧r≤2047
 ·rw[encodeRuneZ_two h2.1 h2.2]
  have hv:Utf8.valid r=true:=by simp[Utf8.valid];omega
  rw[if_pos hv]
  obtain⟨n,rfl⟩: ∃n:Nat,r=n:=⟨r.toNat,by omega⟩
  have hc: ¬(n<128):=by omega
  have hc2:n<2048:=by omega
  simp only[Int.toNat_natCast,hc,if_false,hc2,if_true,List.map_cons,List.map_nil]
  have e1:(192+(n:Int) / 64).toNat=192+n / 64:=by omega
  have e2:(128+(n:Int)%64).toNat=128+n%64:=by omega
  rw[e1,e2]
 by_cases h3:(2048≤r∧r<55296)∨(57343<r∧r≤65535)
 ·rw[encodeRuneZ_three h3]
  have hv:Utf8.valid r=true:=by simp[Utf8.valid];omega
  rw[if_pos hv]
  obtain⟨n,rfl⟩: ∃n:Nat,r=n:=⟨r.toNat,by omega⟩
  have hc: ¬(n<128):=by omega
  have hc2: ¬n<2048:=by omega
  have hc3:n<65536:=by omega
  simp only[Int.toNat_natCast,hc,if_false,hc2,hc3,if_true,List.map_cons,List.map_nil]
  have e1:(224+(n:Int) / 4096).toNat=224+n / 4096:=by omega
  have e2:(128+(n:Int) / 64%64).toNat=128+n / 64%64:=by omega
  have e3:(128+(n:Int)%64).toNat=128+n%64:=by omega
  rw[e1,e2,e3]
 by_cases h4:65536≤r∧r≤1114111
 ·rw[encodeRuneZ_four h4.1 h4.2]
  have hv:Utf8.valid r=true:=by simp[Utf8.valid];omega
  rw[if_pos hv]
  obtain⟨n,rfl⟩: ∃n:Nat,r=n:=⟨r.toNat,by omega⟩
  have hc: ¬(n<128):=by omega
  have hc2: ¬n<2048:=by omega
  have hc3: ¬n<65536:=by omega
  simp only[Int.toNat_natCast,hc,if_false,hc2,hc3,List.map_cons,List.map_nil]
  have e0:(240+(n:Int) / 262144).toNat=240+n / 262144:=by omega
  have e1:(128+(n:Int) / 4096%64).toNat=128+n / 4096%64:=by omega
  have e2:(128+(n:Int) / 64%64).toNat=128+n / 64%64:=by omega
  have e3:(128+(n:Int)%64).toNat=128+n%64:=by omega
  rw[e0,e1,e2,e3]
 ·rw[encodeRuneZ_bad (by omega)]
  have hv: ¬Utf8.valid r=true:=by simp[Utf8.valid];omega
  rw[if_neg hv]
  rfl
theorem decN_ext {n n' b0 b1 b2 b3 c1 c2 c3:Nat}{r k:Nat}(h:decodeN n b0 b1 b2 b3=(r,k))(hv: ¬(r=65533∧k=1))(hn:k≤n')(h1:1<k→c1=b1)(h2:2<k→c2=b2)(h3:3<k→c3=b3):decodeN n' b0 c1 c2 c3=(r,k):=by
 rcases decodeN_shape n b0 b1 b2 b3 with⟨q,e⟩|⟨q1,q2,q3,qv,e⟩|⟨q1,q2,q3,q4,qv,qs,e⟩|⟨q1,q2,q3,q4,q5,qv,qw,e⟩|e
 ·rw[e]at h;injection h with e1 e2;subst e1;subst e2
  unfold decodeN;rw[if_pos q]
 ·rw[e]at h;injection h with e1 e2;subst e1;subst e2
  obtain rfl:=h1 (by omega)
  unfold decodeN
  rw[if_neg (by omega),if_pos ⟨q1,by omega,q3⟩,if_pos qv]
 ·rw[e]at h;injection h with e1 e2;subst e1;subst e2
  obtain rfl:=h1 (by omega)
  obtain rfl:=h2 (by omega)
  unfold decodeN
  rw[if_neg (by omega),if_neg (by omega),if_pos ⟨q1,⟨by omega,q3⟩,by omega,q4⟩,if_pos ⟨qv,by omega⟩]
 ·rw[e]at h;injection h with e1 e2;subst e1;subst e2
  obtain rfl:=h1 (by omega)
  obtain rfl:=h2 (by omega)
  obtain rfl:=h3 (by omega)
  unfold decodeN
  rw[if_neg (by omega),if_neg (by omega),if_neg (by omega),if_pos ⟨q1,⟨by omega,q3⟩,⟨by omega,q4⟩,by omega,q5⟩,if_pos ⟨qv,.inr ⟨by omega,qw⟩⟩]
 ·rw[e]at h;injection h with e1 e2;subst e1;subst e2
  exact absurd ⟨rfl,rfl⟩ hv
structure Ck (c:Rn):Prop where
 ne:c.1≠[]
 four:c.1.length≤4
 enc:(Utf8.encode c.2).data.toList=c.1
 dec: ∀rest,decodeL (c.1++rest)=(c.2.toNat,c.1.length)
 nn:0≤c.2
 top:c.2≤1114111
 ok: ¬(c.2.toNat=65533∧c.1.length=1)
theorem decodeL_four (l:List UInt8):(decodeL l).2≤4:=by
 rw[decodeL_N]
 rcases decodeN_shape l.length (l.getD 0 0).toNat (l.getD 1 0).toNat (l.getD 2 0).toNat (l.getD 3 0).toNat with⟨c,e⟩|⟨c1,c2,c3,cv,e⟩|⟨c1,c2,c3,c4,cv,cs,e⟩|⟨c1,c2,c3,c4,c5,cv,cw,e⟩|e
 all_goals (rw[e];simp)
theorem Ck.of {l:List UInt8}(hne:l≠[])(hv: ¬((decodeL l).1=65533∧(decodeL l).2=1)):Ck (l.take (decodeL l).2,((decodeL l).1:Int)):=by
 have hw:=decodeL_width l
 have hle:=decodeL_le l hne
 have hlen:(l.take (decodeL l).2).length=(decodeL l).2:=by rw[List.length_take];omega
 refine⟨fun h=>?_,by show(l.take _).length≤4;rw[hlen];exact decodeL_four l,?_,fun rest=>?_,by simp,?_,?_⟩
 ·have:=congrArg List.length h
  simp only[List.length_nil]at this
  rw[hlen]at this;omega
 ·exact(enc_eq _).trans (encode_decode l hne hv)
 ·show decodeL (l.take (decodeL l).2++rest)=((((decodeL l).1:Nat):Int).toNat,(l.take (decodeL l).2).length)
  rw[hlen,Int.toNat_natCast]
  have e:decodeL l=decodeN l.length (l.getD 0 0).toNat (l.getD 1 0).toNat (l.getD 2 0).toNat (l.getD 3 0).toNat:=decodeL_N l
  obtain⟨r,k,hrk⟩: ∃r k,decodeL l=(r,k):=⟨_,_,rfl⟩
  rw[hrk]at hv hw hle hlen ⊢
  rw[hrk]at e
  simp only at hv hw hle hlen ⊢
  have hg: ∀i,i<k→(l.take k++rest).getD i 0=l.getD i 0:=fun i hi=>by
   simp only[List.getD]
   rw[List.getElem?_append_left (by rw[hlen];exact hi),List.getElem?_take_of_lt hi]
  rw[decodeL_N,hg 0 (by omega)]
  refine decN_ext e.symm hv (by rw[List.length_append,hlen];omega) (fun h=>by rw[hg 1 h]) (fun h=>by rw[hg 2 h]) (fun h=>by rw[hg 3 h])
 ·have:=decodeL_rune l
  show((decodeL l).1:Int)≤1114111
  omega
 ·show ¬((((decodeL l).1:Nat):Int).toNat=65533∧(l.take (decodeL l).2).length=1)
  rw[hlen,Int.toNat_natCast];exact hv
theorem Ck.len {c:Rn}(h:Ck c):1≤c.1.length:=by
 cases hc:c.1 with
 |nil=>exact absurd hc h.ne
 |cons a b=>simp
def ckF:Nat→List UInt8→List Rn
 |0,_=>[]
 |n+1,l=>if l=[]then []else(l.take (decodeL l).2,((decodeL l).1:Int))::ckF n (l.drop (decodeL l).2)
def cks (l:List UInt8):List Rn:=ckF l.length l
abbrev flat (cs:List Rn):List UInt8:=cs.flatMap (·.1)
theorem flat_cons (c:Rn)(cs:List Rn):flat (c::cs)=c.1++flat cs:=rfl
theorem flat_ckF: ∀(n:Nat) (l:List UInt8),l.length≤n→flat (ckF n l)=l
 |0,l,h=>by rw[List.eq_nil_of_length_eq_zero (Nat.le_zero.1 h)];rfl
 |n+1,l,h=>by
  unfold ckF
  by_cases hl:l=[]
  ·rw[if_pos hl,hl];rfl
  ·rw[if_neg hl,flat_cons,flat_ckF n _ (by have:=decodeL_width l;rw[List.length_drop];have:=List.length_pos_iff.2 hl;omega)]
   exact List.take_append_drop _ _
theorem valid_ckF: ∀(n:Nat) (l:List UInt8),l.length≤n→validGoD n l=true→∀c,c∈ckF n l→Ck c
 |0,l,h,_,c,hc=>by cases hc
 |n+1,l,h,hv,c,hc=>by
  unfold ckF at hc
  unfold validGoD at hv
  by_cases hl:l=[]
  ·rw[if_pos hl]at hc;cases hc
  ·rw[if_neg hl]at hc hv
   split at hv
   ·cases hv
   ·rename_i hb
    rcases List.mem_cons.1 hc with rfl|hc
    ·exact Ck.of hl hb
    ·exact valid_ckF n _ (by have:=decodeL_width l;rw[List.length_drop];have:=List.length_pos_iff.2 hl;omega) hv c hc
theorem ckF_flat: ∀(cs:List Rn) (n:Nat),(∀c,c∈cs→Ck c)→(flat cs).length≤n→ckF n (flat cs)=cs∧validGoD n (flat cs)=true
 | [],n,_,_=>by cases n with
  |zero=>exact⟨rfl,rfl⟩
  |succ n=>exact⟨by unfold ckF;rw[if_pos (show flat ([]:List Rn)=[]from rfl)],by unfold validGoD;rw[if_pos (show flat ([]:List Rn)=[]from rfl)]⟩
 |c::cs,n,h,hn=>by
  have hc:=h c (List.mem_cons_self ..)
  have h1:=hc.len
  rw[flat_cons]at hn ⊢
  rw[List.length_append]at hn
  obtain⟨n,rfl⟩: ∃m,n=m+1:=⟨n-1,by omega⟩
  have hne:c.1++flat cs≠[]:=fun e=>hc.ne (List.append_eq_nil_iff.1 e).1
  obtain⟨i1,i2⟩:=ckF_flat cs n (fun x hx=>h x (List.mem_cons_of_mem _ hx)) (by omega)
  unfold ckF validGoD
  rw[if_neg hne,if_neg hne,hc.dec]
  simp only[List.take_left,List.drop_left]
  rw[if_neg hc.ok,i1,Int.toNat_of_nonneg hc.nn]
  exact⟨rfl,i2⟩
theorem cks_flat {cs:List Rn}(h: ∀c,c∈cs→Ck c):cks (flat cs)=cs:=(ckF_flat cs _ h (Nat.le_refl _)).1
theorem valid_flat {cs:List Rn}(h: ∀c,c∈cs→Ck c):validD (flat cs)=true:=(ckF_flat cs _ h (Nat.le_refl _)).2
theorem valid_cks {l:List UInt8}(h:validD l=true):flat (cks l)=l∧∀c,c∈cks l→Ck c:=⟨flat_ckF _ _ (Nat.le_refl _),valid_ckF _ _ (Nat.le_refl _) h⟩
theorem foldl_toList (ns:List Int): ∀s:ByteArray,(ns.foldl (fun r n=>r++Utf8.encode n) s).data.toList=s.data.toList++ns.flatMap fun n=>(Utf8.encode n).data.toList:=by
 induction ns with
 |nil=>intro s;simp
 |cons n ns ih=>intro s;rw[List.foldl_cons,ih];simp[ByteArray.data_append]
theorem runes_flat {cs:List Rn}(h: ∀c,c∈cs→Ck c):(runesBytes (cs.map (·.2))).data.toList=flat cs:=by
 unfold runesBytes
 rw[foldl_toList]
 have:ByteArray.empty.data.toList=[]:=rfl
 rw[this,List.nil_append,List.flatMap_map]
 induction cs with
 |nil=>rfl
 |cons c cs ih=>
  rw[List.flatMap_cons,flat_cons,ih fun x hx=>h x (List.mem_cons_of_mem _ hx),(h c (List.mem_cons_self ..)).enc]
theorem ba_eq {s t:ByteArray}(h:s.data.toList=t.data.toList):s=t:=by
 cases s;cases t;congr;exact Array.toList_inj.1 h
def ats:Int→List Rn→List (Int×Int)
 |_,[]=>[]
 |p,c::cs=>(p,c.2)::ats (p+c.1.length) cs
theorem ats_len: ∀(p:Int) (cs:List Rn),(ats p cs).length=cs.length
 |_,[]=>rfl
 |p,c::cs=>by rw[ats,List.length_cons,ats_len _ cs,List.length_cons]
def bd (n:Nat):Nat→List Rn→Nat
 |p,[]=>p
 |p,c::cs=>if p+c.1.length≤n then bd n (p+c.1.length) cs else p
theorem bd_pre (n:Nat): ∀(cs:List Rn) (p:Nat),p≤n→∃k,bd n p cs=p+(flat (cs.take k)).length∧bd n p cs≤n
 | [],p,h=>⟨0,by simp[bd],by simpa[bd] using h⟩
 |c::cs,p,h=>by
  unfold bd
  split
  ·rename_i hp
   obtain⟨k,h1,h2⟩:=bd_pre n cs _ hp
   exact⟨k+1,by rw[h1,List.take_succ_cons,flat_cons,List.length_append];omega,h2⟩
  ·exact⟨0,by simp,h⟩
theorem flat_take (cs:List Rn)(k:Nat):(flat cs).take (flat (cs.take k)).length=flat (cs.take k):=by
 have:flat cs=flat (cs.take k)++flat (cs.drop k):=by rw[←List.flatMap_append,List.take_append_drop]
 rw[this,List.take_left]
end Go.Utf
end
section
set_option maxRecDepth 20000
set_option linter.unusedVariables false
set_option linter.unusedSimpArgs false
namespace Go.Proofs.YtbljnlkhebiniaaGreatDoor
open Go.RowKit Go.Graph Go.Utf
theorem drop_ne {s:ByteArray}{p:Nat}(h:p<s.size):s.data.toList.drop p≠[]:=fun e=>by
 have:=congrArg List.length e
 rw[List.length_drop,size_list]at this
 simp only[List.length_nil]at this;omega
theorem drop_nil {s:ByteArray}{p:Nat}(h: ¬p<s.size):s.data.toList.drop p=[]:=List.drop_eq_nil_of_le (by rw[size_list];omega)
theorem ck_step {s:ByteArray}{n p:Nat}(h:p<s.size):ckF (n+1) (s.data.toList.drop p)=((s.data.toList.drop p).take (Utf8.decode s p).2,((Utf8.decode s p).1:Int))::ckF n (s.data.toList.drop (p+(Utf8.decode s p).2)):=by
 rw[ckF,if_neg (drop_ne h),Lib.decodeL_drop,List.drop_drop]
theorem ck_end {s:ByteArray}{n p:Nat}(h: ¬p<s.size):ckF n (s.data.toList.drop p)=[]:=by
 rw[drop_nil h]
 cases n with
 |zero=>rfl
 |succ n=>rw[ckF,if_pos rfl]
theorem cks_0 (s:ByteArray):cks s.data.toList=ckF s.size (s.data.toList.drop 0):=rfl
theorem dec_fits {s:ByteArray}{p:Nat}(h:p<s.size):1≤(Utf8.decode s p).2∧p+(Utf8.decode s p).2≤s.size:=by
 rw[←Lib.decodeL_drop]
 have h1:=Lib.decodeL_width (s.data.toList.drop p)
 have h2:=Lib.decodeL_le _ (drop_ne h)
 rw[List.length_drop,size_list]at h2
 omega
theorem runes_F (s:ByteArray)(hs:s.size≤1099511627776):F.fn_runes s=some ((cks s.data.toList).map (·.2)):=by
 have loop: ∀(n p f:Nat) (xs:List Int),s.size-p≤n→n<f→xs.length≤p→F.fn_runes_l1 s f p xs=some (xs++(ckF n (s.data.toList.drop p)).map (·.2)):=by
  intro n
  induction n with
  |zero=>
   intro p f xs hp hf _
   obtain⟨f,rfl⟩: ∃f',f=f'+1:=⟨f-1,by omega⟩
   rw[F.fn_runes_l1,if_neg (by omega),ck_end (by omega)];simp
  |succ n ih=>
   intro p f xs hp hf hx
   obtain⟨f,rfl⟩: ∃f',f=f'+1:=⟨f-1,by omega⟩
   by_cases h:p<s.size
   ·have hd:=dec_fits h
    rw[F.fn_runes_l1,if_pos h,A.gd1 (by simp only[List.length_cons,List.length_nil];omega),ih _ _ _ (by omega) (by omega) (by simp only[List.length_append,List.length_cons,List.length_nil];omega),ck_step h]
    simp
   ·rw[F.fn_runes_l1,if_neg h,ck_end h];simp
 have:=loop s.size 0 A.FU [] (by omega) (by have:=FU_big;omega) (by simp)
 rw[F.fn_runes,this,cks_0];simp
theorem flat_append (a b:List Rn):flat (a++b)=flat a++flat b:=List.flatMap_append
theorem i32_small {x:Int}(h0:0≤x)(h1:x<2147483648):IntKind.i32.wrap x=x:=by
 simp[IntKind.wrap,IntKind.bits,IntKind.signed]
 omega
theorem dec_shape {s:ByteArray}{p:Nat}(hw:wid s p≠0):
  (wid s p=1∧(Utf8.decode s p).1=(Z.bat s p).toNat)∨
  (wid s p=2∧(Utf8.decode s p).1=(Z.bat s p).toNat%32*64+(Z.bat s (p+1)).toNat%64)∨
  (wid s p=3∧(Utf8.decode s p).1=(Z.bat s p).toNat%16*4096+(Z.bat s (p+1)).toNat%64*64+(Z.bat s (p+2)).toNat%64)∨
  (wid s p=4∧(Utf8.decode s p).1=(Z.bat s p).toNat%8*262144+(Z.bat s (p+1)).toNat%64*4096+(Z.bat s (p+2)).toNat%64*64+(Z.bat s (p+3)).toNat%64):=by
 have h2:=wid_dec hw
 have h3:Utf8.decode s p≠(65533,1):=fun e=>hw (by unfold wid;rw[if_pos e])
 rw[←h2]
 rw[dec_at]at h3 ⊢
 rcases Lib.decodeN_shape (s.size-p) (Z.bat s p).toNat (Z.bat s (p+1)).toNat (Z.bat s (p+2)).toNat (Z.bat s (p+3)).toNat with⟨c,e⟩|⟨c1,c2,c3,cv,e⟩|⟨c1,c2,c3,c4,cv,cs,e⟩|⟨c1,c2,c3,c4,c5,cv,cw,e⟩|e
 ·rw[e];exact .inl ⟨rfl,rfl⟩
 ·rw[e];exact .inr (.inl ⟨rfl,rfl⟩)
 ·rw[e];exact .inr (.inr (.inl ⟨rfl,rfl⟩))
 ·rw[e];exact .inr (.inr (.inr ⟨rfl,rfl⟩))
 ·exact absurd e h3
theorem Runes_ats (s:ByteArray)(hs:s.size≤5000)(hv:vld s s.size 0=true):F.R05_Runes s=some (ats 0 (cks s.data.toList)):=by
 have loop: ∀(n p f:Nat) (xs:List (Int×Int)),s.size-p≤n→n<f→xs.length≤p→p≤5010→vld s n p=true→F.R05_Runes_l2 s f xs (p:Int)=some (xs++ats p (ckF n (s.data.toList.drop p))):=by
  intro n
  induction n with
  |zero=>
   intro p f xs hp hf _ _ _
   obtain⟨f,rfl⟩: ∃f',f=f'+1:=⟨f-1,by omega⟩
   rw[F.R05_Runes_l2,if_neg (by omega),ck_end (by omega)];simp[ats]
  |succ n ih=>
   intro p f xs hp hf hxs hp5 hv
   obtain⟨f,rfl⟩: ∃f',f=f'+1:=⟨f-1,by omega⟩
   rw[F.R05_Runes_l2]
   rw[vld]at hv
   by_cases h:p<s.size
   ·rw[if_pos h]at hv
    have hl:=wid_le h
    have h4:=wid_4 s p
    by_cases hw:wid s p=0
    ·rw[if_pos hw]at hv;cases hv
    rw[if_neg hw]at hv
    have hd:=dec_fits h
    have hj: ∀(w c:Int),w=(wid s p:Int)→c=((Utf8.decode s p).1:Int)→F.R05_Runes_j1 (F.R05_Runes_l2 s f) xs (p:Int) w c=some (xs++ats p (ckF (n+1) (s.data.toList.drop p))):=fun w c hwc hc=>by
     subst hwc;subst hc
     rw[F.R05_Runes_j1,A.gd1 (by simp only[List.length_cons,List.length_nil];omega),A.gd1 ⟨by omega,by omega⟩]
     have e:(p:Int)+(wid s p:Int)=((p+wid s p:Nat):Int):=by omega
     have e2:((s.data.toList.drop p).take (Utf8.decode s p).2).length=wid s p:=by
      rw[List.length_take,List.length_drop,size_list,←wid_dec hw];omega
     rw[e,ih (p+wid s p) f (xs++[((p:Int),((Utf8.decode s p).1:Int))]) (by omega) (by omega) (by simp only[List.length_append,List.length_cons,List.length_nil];omega) (by omega) hv,ck_step h,ats,e2,wid_dec hw,←e]
     simp
    have i0:=ixb (s:=s) h
    have i1:A.ix s.data.toList ((p:Int)+1)=if p+1<s.size then some (Z.bat s (p+1))else none:=ixk s p 1
    have i2:A.ix s.data.toList ((p:Int)+2)=if p+2<s.size then some (Z.bat s (p+2))else none:=ixk s p 2
    have i3:A.ix s.data.toList ((p:Int)+3)=if p+3<s.size then some (Z.bat s (p+3))else none:=ixk s p 3
    have r1:Z.R64 ((p:Int)+1):=⟨by omega,by omega⟩
    have r2:Z.R64 ((p:Int)+2):=⟨by omega,by omega⟩
    have r3:Z.R64 ((p:Int)+3):=⟨by omega,by omega⟩
    have k0:=(Z.bat s p).toNat_lt
    have k1:=(Z.bat s (p+1)).toNat_lt
    have k2:=(Z.bat s (p+2)).toNat_lt
    have k3:=(Z.bat s (p+3)).toNat_lt
    rw[if_pos (by omega),width_eq s p h hs,Option.bind_some]
    have tm: ∀(b m:Nat),Int.tmod (b:Int) (m:Int)=((b%m:Nat):Int):=fun b m=>by
     rw[Int.tmod_eq_emod_of_nonneg (by omega)];rfl
    rcases dec_shape hw with⟨w1,e⟩|⟨w2,e⟩|⟨w3,e⟩|⟨w4,e⟩
    ·rw[if_pos (by omega),i0,Option.bind_some]
     exact hj _ _ rfl (by rw[e,i32_small (by omega) (by omega)])
    ·rw[if_neg (by omega),if_pos (by omega),A.gd1 r1,i0,Option.bind_some,A.gd1 (by decide),i1,if_pos (by omega),Option.bind_some,A.gd1 (by decide)]
     refine hj _ _ rfl ?_
     have t1:Int.tmod ((Z.bat s p).toNat:Int) 32=(((Z.bat s p).toNat%32:Nat):Int):=tm _ 32
     have t2:Int.tmod ((Z.bat s (p+1)).toNat:Int) 64=(((Z.bat s (p+1)).toNat%64:Nat):Int):=tm _ 64
     rw[e,t1,t2]
     rw[i32_small (x:=(((Z.bat s p).toNat%32:Nat):Int)) (by omega) (by omega),i32_small (x:=(((Z.bat s p).toNat%32:Nat):Int)*64) (by omega) (by omega),i32_small (x:=(((Z.bat s (p+1)).toNat%64:Nat):Int)) (by omega) (by omega),i32_small (by omega) (by omega)]
     omega
    ·rw[if_neg (by omega),if_neg (by omega),if_pos (by omega),A.gd1 ⟨r1,r2⟩,i0,Option.bind_some,A.gd1 (by decide),i1,if_pos (by omega),Option.bind_some,A.gd1 (by decide),i2,if_pos (by omega),Option.bind_some,A.gd1 (by decide)]
     refine hj _ _ rfl ?_
     have t1:Int.tmod ((Z.bat s p).toNat:Int) 16=(((Z.bat s p).toNat%16:Nat):Int):=tm _ 16
     have t2:Int.tmod ((Z.bat s (p+1)).toNat:Int) 64=(((Z.bat s (p+1)).toNat%64:Nat):Int):=tm _ 64
     have t3:Int.tmod ((Z.bat s (p+2)).toNat:Int) 64=(((Z.bat s (p+2)).toNat%64:Nat):Int):=tm _ 64
     rw[e,t1,t2,t3]
     generalize hu:(Z.bat s p).toNat%16=u
     generalize hx:(Z.bat s (p+1)).toNat%64=x
     generalize hy:(Z.bat s (p+2)).toNat%64=y
     have hu':u<16:=by omega
     have hx':x<64:=by omega
     have hy':y<64:=by omega
     rw[i32_small (x:=(u:Int)) (by omega) (by omega),i32_small (x:=(u:Int)*64) (by omega) (by omega),i32_small (x:=(x:Int)) (by omega) (by omega),i32_small (x:=(u:Int)*64+(x:Int)) (by omega) (by omega),i32_small (x:=((u:Int)*64+(x:Int))*64) (by omega) (by omega),i32_small (x:=(y:Int)) (by omega) (by omega),i32_small (by omega) (by omega)]
     omega
    ·rw[if_neg (by omega),if_neg (by omega),if_neg (by omega),if_pos (by omega),A.gd1 ⟨r1,r2,r3⟩,i0,Option.bind_some,A.gd1 (by decide),i1,if_pos (by omega),Option.bind_some,A.gd1 (by decide),i2,if_pos (by omega),Option.bind_some,A.gd1 (by decide),i3,if_pos (by omega),Option.bind_some,A.gd1 (by decide)]
     refine hj _ _ rfl ?_
     have t1:Int.tmod ((Z.bat s p).toNat:Int) 8=(((Z.bat s p).toNat%8:Nat):Int):=tm _ 8
     have t2:Int.tmod ((Z.bat s (p+1)).toNat:Int) 64=(((Z.bat s (p+1)).toNat%64:Nat):Int):=tm _ 64
     have t3:Int.tmod ((Z.bat s (p+2)).toNat:Int) 64=(((Z.bat s (p+2)).toNat%64:Nat):Int):=tm _ 64
     have t4:Int.tmod ((Z.bat s (p+3)).toNat:Int) 64=(((Z.bat s (p+3)).toNat%64:Nat):Int):=tm _ 64
     rw[e,t1,t2,t3,t4]
     generalize hu:(Z.bat s p).toNat%8=u
     generalize hx:(Z.bat s (p+1)).toNat%64=x
     generalize hy:(Z.bat s (p+2)).toNat%64=y
     generalize hz:(Z.bat s (p+3)).toNat%64=z
     have hu':u<8:=by omega
     have hx':x<64:=by omega
     have hy':y<64:=by omega
     have hz':z<64:=by omega
     rw[i32_small (x:=(u:Int)) (by omega) (by omega),i32_small (x:=(u:Int)*64) (by omega) (by omega),i32_small (x:=(x:Int)) (by omega) (by omega),i32_small (x:=(u:Int)*64+(x:Int)) (by omega) (by omega),i32_small (x:=((u:Int)*64+(x:Int))*64) (by omega) (by omega),i32_small (x:=(y:Int)) (by omega) (by omega),
      i32_small (x:=((u:Int)*64+(x:Int))*64+(y:Int)) (by omega) (by omega),i32_small (x:=(((u:Int)*64+(x:Int))*64+(y:Int))*64) (by omega) (by omega),i32_small (x:=(z:Int)) (by omega) (by omega),i32_small (by omega) (by omega)]
     omega
   ·rw[if_neg (by omega),ck_end h];simp[ats]
 have:=loop s.size 0 A.FU [] (by omega) (by have:=FU_big;omega) (by simp) (by omega) hv
 rw[F.R05_Runes]
 exact this
theorem iter_F (s:ByteArray):F.rec_Runes_1_it s=some (ats 0 (cks s.data.toList))∨9223372036854775807<s.size:=by
 by_cases hs:s.size≤9223372036854775807
 ·left
  have loop: ∀(n p f:Nat),s.size-p≤n→n<f→F.rec_Runes_1_it_l1 s f p=some (ats p (ckF n (s.data.toList.drop p))):=by
   intro n
   induction n with
   |zero=>
    intro p f hp hf
    obtain⟨f,rfl⟩: ∃f',f=f'+1:=⟨f-1,by omega⟩
    rw[F.rec_Runes_1_it_l1,if_neg (by omega),ck_end (by omega)];rfl
   |succ n ih=>
    intro p f hp hf
    obtain⟨f,rfl⟩: ∃f',f=f'+1:=⟨f-1,by omega⟩
    by_cases h:p<s.size
    ·have hd:=dec_fits h
     rw[F.rec_Runes_1_it_l1,if_pos h,ih _ _ (by omega) (by omega),ck_step h,ats]
     have e2:((s.data.toList.drop p).take (Utf8.decode s p).2).length=(Utf8.decode s p).2:=by
      rw[List.length_take,List.length_drop,size_list];omega
     rw[e2]
     simp[A.cns]
    ·rw[F.rec_Runes_1_it_l1,if_neg h,ck_end h];rfl
  exact loop s.size 0 A.FU (by omega) (by have:=FU_big;omega)
 ·right;omega
theorem ext_all (s:ByteArray):s.extract 0 s.size=s:=by
 refine ba_eq ?_
 rw[ByteArray.data_extract,Array.toList_extract]
 simp[List.extract_eq_take_drop]
 exact List.take_of_length_le (Nat.le_of_eq (size_list s))
theorem rcut_l (s:ByteArray)(n:Nat): ∀(cs:List Rn) (p e:Nat),p+(flat cs).length=s.size→e≤s.size→F.rec_Cut_l1 s n (ats p cs) e=some (s.extract 0 (if p≤n then bd n p cs else e))
 | [],p,e,hp,he=>by
  simp only[List.flatMap_nil,List.length_nil,Nat.add_zero]at hp
  subst hp
  rw[ats,F.rec_Cut_l1,bd]
  by_cases h:s.size≤n
  ·rw[if_pos (by omega),if_pos h,ext_all]
  ·rw[if_neg (by omega),if_neg h,A.gd1 ⟨by omega,by omega⟩,Int.toNat_natCast]
 |c::cs,p,e,hp,he=>by
  rw[flat_cons,List.length_append]at hp
  rw[ats,F.rec_Cut_l1,bd]
  by_cases h:p≤n
  ·rw[if_neg (by simp;omega),if_pos h]
   have e1:(p:Int)+(c.1.length:Int)=((p+c.1.length:Nat):Int):=by omega
   show F.rec_Cut_l1 s n (ats ((p:Int)+(c.1.length:Int)) cs) (p:Int)=_
   rw[e1]
   exact rcut_l s n cs (p+c.1.length) p (by omega) (by omega)
  ·rw[if_pos (by simp;omega),if_neg h,A.gd1 ⟨by omega,by omega⟩,Int.toNat_natCast]
theorem rec_Cut_eq (s:ByteArray)(n:Nat)(hs:s.size≤9223372036854775807):F.rec_Cut s n=some (s.extract 0 (bd n 0 (cks s.data.toList))):=by
 rw[F.rec_Cut,F.rec_Runes,Option.bind_some]
 rcases iter_F s with h|h
 ·rw[h,Option.bind_some]
  have hf:(flat (cks s.data.toList)).length=s.size:=by
   have:flat (cks s.data.toList)=s.data.toList:=flat_ckF _ _ (Nat.le_refl _)
   rw[this,size_list]
  have:=rcut_l s n (cks s.data.toList) 0 0 (by omega) (by omega)
  rw[if_pos (Nat.zero_le _)]at this
  exact this
 ·omega
end Go.Proofs.YtbljnlkhebiniaaGreatDoor
end
section
set_option maxRecDepth 20000
set_option linter.unusedVariables false
set_option linter.unusedSimpArgs false
namespace Go.Proofs.YtbljnlkhebiniaaGreatDoor
open Go.RowKit Go.Graph Go.Utf
abbrev Rec:=Int×ByteArray
def okT (s:ByteArray):Bool:=decide (s.size≤64)&&vld s s.size 0
theorem rec_Check_eq (r:Rec):F.rec_Check r=some (if okT r.2=true then 0 else 50):=by
 rw[F.rec_Check]
 unfold okT
 by_cases h:r.2.size≤64
 ·rw[if_neg (by omega),F.utf8_ValidString,validD_eq,Option.bind_some,F.rec_Check_j1,decide_eq_true h,Bool.true_and]
  cases vld r.2 r.2.size 0<;>rfl
 ·rw[if_pos (by omega),F.rec_Check_j1,if_pos rfl,decide_eq_false h];rfl
theorem R05_Check_eq (r:Rec):F.R05_Check r=some (if okT r.2=true then 0 else 50):=by
 rw[F.R05_Check]
 unfold okT
 by_cases h:r.2.size≤64
 ·rw[if_neg (by omega),Valid_eq _ (by omega),Option.bind_some,F.R05_Check_j1,decide_eq_true h,Bool.true_and]
  cases vld r.2 r.2.size 0<;>rfl
 ·rw[if_pos (by omega),F.R05_Check_j1,if_pos rfl,decide_eq_false h];rfl
theorem okT_iff {s:ByteArray}:okT s=true↔s.size≤64∧vld s s.size 0=true:=by unfold okT;simp
theorem vld_cks {s:ByteArray}(h:vld s s.size 0=true):flat (cks s.data.toList)=s.data.toList∧∀c,c∈cks s.data.toList→Ck c:=valid_cks (by rw[validD_eq];exact h)
theorem vld_of {s:ByteArray}{cs:List Rn}(h:s.data.toList=flat cs)(hc: ∀c,c∈cs→Ck c):vld s s.size 0=true:=by
 rw[←validD_eq,h];exact valid_flat hc
theorem cks_of {s:ByteArray}{cs:List Rn}(h:s.data.toList=flat cs)(hc: ∀c,c∈cs→Ck c):cks s.data.toList=cs:=by rw[h];exact cks_flat hc
theorem app_list (s t:ByteArray):(s++t).data.toList=s.data.toList++t.data.toList:=by rw[ByteArray.data_append,Array.toList_append]
theorem vld_app {s t:ByteArray}(hs:vld s s.size 0=true)(ht:vld t t.size 0=true):vld (s++t) (s++t).size 0=true∧cks (s++t).data.toList=cks s.data.toList++cks t.data.toList:=by
 obtain⟨h1,h2⟩:=vld_cks hs
 obtain⟨h3,h4⟩:=vld_cks ht
 have e:(s++t).data.toList=flat (cks s.data.toList++cks t.data.toList):=by rw[flat_append,h1,h3,app_list]
 have hc: ∀c,c∈cks s.data.toList++cks t.data.toList→Ck c:=fun c hc=>(List.mem_append.1 hc).elim (h2 c) (h4 c)
 exact⟨vld_of e hc,cks_of e hc⟩
theorem cks_len (s:ByteArray):(cks s.data.toList).length≤s.size:=by
 have: ∀(n:Nat) (l:List UInt8),(ckF n l).length≤n:=by
  intro n
  induction n with
  |zero=>intro l;simp[ckF]
  |succ n ih=>intro l;unfold ckF;split<;>simp;exact ih _
 exact this _ _
end Go.Proofs.YtbljnlkhebiniaaGreatDoor
end
section
set_option maxRecDepth 20000
set_option linter.unusedVariables false
set_option linter.unusedSimpArgs false
namespace Go.Proofs.YtbljnlkhebiniaaGreatDoor
open Go.RowKit Go.Graph Go.Utf
theorem Reverse_eq (l:List Int)(hl:l.length≤4611686018427387904):F.slices_Reverse_rune_rune l=some l.reverse:=by
 have loop: ∀(m f:Nat) (X0 M B:List Int),M.length≤m→m<f→X0.length+M.length≤4611686018427387904→F.slices_Reverse_rune_rune_l1 f (X0++M++B) (X0.length:Int) ((X0.length:Int)+(M.length:Int)-1)=some (X0++M.reverse++B):=by
  intro m
  induction m with
  |zero=>
   intro f X0 M B hm hf _
   obtain⟨f,rfl⟩: ∃f',f=f'+1:=⟨f-1,by omega⟩
   obtain rfl:M=[]:=List.eq_nil_of_length_eq_zero (by omega)
   rw[F.slices_Reverse_rune_rune_l1,if_neg (by simp only[List.length_nil];omega)];simp
  |succ m ih=>
   intro f X0 M B hm hf hlen
   obtain⟨f,rfl⟩: ∃f',f=f'+1:=⟨f-1,by omega⟩
   by_cases h2:M.length<2
   ·have hr:M.reverse=M:=by
     match M,h2 with
     | [],_=>rfl
     | [x],_=>rfl
    rw[F.slices_Reverse_rune_rune_l1,if_neg (by omega),hr]
   ·obtain⟨x,M1,rfl⟩: ∃x M1,M=x::M1:=by
     cases M with
     |nil=>simp at h2
     |cons x M1=>exact⟨x,M1,rfl⟩
    obtain⟨M2,y,rfl⟩: ∃M2 y,M1=M2++[y]:=by
     have hne:M1≠[]:=fun e=>by subst e;simp at h2
     exact⟨M1.dropLast,M1.getLast hne,(List.dropLast_concat_getLast hne).symm⟩
    simp only[List.length_cons,List.length_append,List.length_nil]at hm hlen h2 ⊢
    have ei:(X0.length:Int)+((M2.length+(0+1)+1:Nat):Int)-1=((X0.length+M2.length+1:Nat):Int):=by omega
    rw[ei]
    have hy:(X0++(x::(M2++[y]))++B)[X0.length+M2.length+1]?=some y:=by
     rw[List.append_assoc,List.getElem?_append_right (by omega),show X0.length+M2.length+1-X0.length=M2.length+1 by omega,List.cons_append,List.getElem?_cons_succ,List.append_assoc,List.getElem?_append_right (Nat.le_refl _)]
     simp
    have hx:(X0++(x::(M2++[y]))++B)[X0.length]?=some x:=by
     rw[List.append_assoc,List.getElem?_append_right (Nat.le_refl _)];simp
    have hs1:(X0++(x::(M2++[y]))++B).set X0.length y=X0++(y::(M2++[y]))++B:=by
     rw[List.append_assoc,List.set_append_right _ _ (Nat.le_refl _)];simp
    have hy2:(X0++(y::(M2++[y]))++B)[X0.length+M2.length+1]?=some y:=by
     rw[List.append_assoc,List.getElem?_append_right (by omega),show X0.length+M2.length+1-X0.length=M2.length+1 by omega,List.cons_append,List.getElem?_cons_succ,List.append_assoc,List.getElem?_append_right (Nat.le_refl _)]
     simp
    have hs2:(X0++(y::(M2++[y]))++B).set (X0.length+M2.length+1) x=(X0++[y])++M2++([x]++B):=by
     rw[List.append_assoc,List.set_append_right _ _ (by omega),show X0.length+M2.length+1-X0.length=M2.length+1 by omega,List.cons_append,List.set_cons_succ,List.append_assoc,List.set_append_right _ _ (Nat.le_refl _)]
     simp
    rw[F.slices_Reverse_rune_rune_l1,if_pos (by omega),A.ixn hy,Option.bind_some,A.ixn hx,Option.bind_some,Option.bind_some,Int.toNat_natCast,hs1,A.ixn hy2,Option.bind_some,A.gd1 ⟨⟨by omega,by omega⟩,by omega,by omega⟩,Int.toNat_natCast,hs2]
    have:=ih f (X0++[y]) M2 ([x]++B) (by omega) (by omega) (by simp only[List.length_append,List.length_cons,List.length_nil];omega)
    simp only[List.length_append,List.length_cons,List.length_nil]at this
    rw[show((X0.length:Nat):Int)+1=((X0.length+(0+1):Nat):Int) by omega,show((X0.length+M2.length+1:Nat):Int)-1=((X0.length+(0+1):Nat):Int)+(M2.length:Int)-1 by omega,this]
    simp
 have:=loop l.length A.FU [] l [] (Nat.le_refl _) (by have:=FU_big;omega) (by simp;omega)
 rw[F.slices_Reverse_rune_rune,A.gd1 ⟨by omega,by omega⟩]
 simpa using this
def upB (b:UInt8):UInt8:=if 97≤b.toNat∧b.toNat≤122 then UInt8.ofNat (b.toNat-32)else b
def upper (s:ByteArray):ByteArray:=⟨(s.data.toList.map upB).toArray⟩
theorem up_set {l:List UInt8}{k:Nat}{x:UInt8}(h:l[k]?=some x):((l.take k).map upB++l.drop k).set k (upB x)=(l.take (k+1)).map upB++l.drop (k+1):=by
 have hlt:=(List.getElem?_eq_some_iff.1 h).1
 have hk:((l.take k).map upB).length=k:=by rw[List.length_map,List.length_take];omega
 rw[List.set_append_right _ _ (by omega),hk,Nat.sub_self,A.dropx h,List.take_add_one,h]
 simp
theorem up_get {l:List UInt8}{k:Nat}{x:UInt8}(h:l[k]?=some x):((l.take k).map upB++l.drop k)[k]?=some x:=by
 have hlt:=(List.getElem?_eq_some_iff.1 h).1
 have hk:((l.take k).map upB).length=k:=by rw[List.length_map,List.length_take];omega
 rw[List.getElem?_append_right (by omega),hk,Nat.sub_self,A.dropx h];rfl
theorem up_same {l:List UInt8}{k:Nat}{x:UInt8}(h:l[k]?=some x)(hx:upB x=x):(l.take k).map upB++l.drop k=(l.take (k+1)).map upB++l.drop (k+1):=by
 rw[←up_set h,hx]
 refine(List.ext_getElem? fun i=>?_)
 rw[List.getElem?_set]
 split
 ·rename_i e;subst e
  rw[up_get h]
  split
  ·rfl
  ·rename_i h2
   have:=up_get h
   rw[List.getElem?_eq_none (by omega)]at this;cases this
 ·rfl
theorem b8_up {x:UInt8}(h:97≤x.toNat∧x.toNat≤122):A.b8 ((x.toNat:Int)-32)=upB x:=by
 unfold A.b8 upB
 rw[if_pos h]
 congr 1;omega
theorem wrap8 {x:Int}(h0:0≤x)(h1:x<256):IntKind.u8.wrap x=x:=by
 simp[IntKind.wrap,IntKind.bits,IntKind.signed];omega
theorem upper_F (s:ByteArray)(hs:s.size≤9223372036854775806):F.fn_upper s=some (upper s):=by
 have:=A.lp s.data.toList (fun f (xs:List UInt8) y=>F.fn_upper_l2 s f xs y) (fun _ _ _=>some (upper s)) (fun k xs=>xs=(s.data.toList.take k).map upB++s.data.toList.drop k)
  (fun f xs hp=>by
   show F.fn_upper_l2 s (f+1) xs _=_
   rw[F.fn_upper_l2,if_neg (by omega),hp,List.take_length,List.drop_length,List.append_nil];rfl)
  (fun f xs k x hx hk hp ih=>by
   subst hp
   have hkz:k<s.size:=by rw[←size_list];exact hk
   show F.fn_upper_l2 s (f+1) _ _=_
   rw[F.fn_upper_l2,if_pos (by omega),A.ixn (up_get hx),Option.bind_some]
   simp only[A.ba]
   by_cases h:97≤x.toNat∧x.toNat≤122
   ·rw[if_pos (by simp;omega),Option.bind_some,F.fn_upper_j1,A.gd1 ⟨by omega,by omega⟩,wrap8 (by omega) (by omega),show(x.toNat:Int)-97+65=(x.toNat:Int)-32 by omega,b8_up h,Int.toNat_natCast,up_set hx]
    exact ih _ rfl
   ·have hx2:upB x=x:=by unfold upB;rw[if_neg h]
    rw[if_neg (by simp;omega),F.fn_upper_j1,A.gd1 ⟨by omega,by omega⟩,up_same hx hx2]
    exact ih _ rfl)
  (by have:=FU_big;rw[size_list];omega) s.data.toList (by simp)
 rw[F.fn_upper];exact this
abbrev pos (cs:List Rn) (k:Nat):Nat:=(flat (cs.take k)).length
theorem pos_le (cs:List Rn){a b:Nat}(h:a≤b):pos cs a≤pos cs b:=by
 have:cs.take b=cs.take a++(cs.take b).drop a:=by
  rw[List.drop_take]
  have:=List.take_append_drop a (cs.take b)
  rw[List.take_take,Nat.min_eq_left h,List.drop_take]at this
  exact this.symm
 show(flat _).length≤(flat _).length
 rw[this,flat_append,List.length_append];omega
theorem ext_flat {s:ByteArray}{cs:List Rn}(hf:flat cs=s.data.toList)(a b:Nat):(s.extract (pos cs a) (pos cs b)).data.toList=flat ((cs.take b).drop a):=by
 rw[ByteArray.data_extract,Array.toList_extract,List.extract_eq_take_drop,←hf]
 by_cases h:a≤b
 ·have e1:cs.take b=cs.take a++(cs.take b).drop a:=by
   have:=List.take_append_drop a (cs.take b)
   rw[List.take_take,Nat.min_eq_left h]at this
   exact this.symm
  have e2:flat (cs.take b)=flat (cs.take a)++flat ((cs.take b).drop a):=by rw[←flat_append,←e1]
  have e3:flat cs=flat (cs.take a)++(flat ((cs.take b).drop a)++flat (cs.drop b)):=by
   rw[←List.append_assoc,←e2,←flat_append,List.take_append_drop]
  have e4:pos cs b-pos cs a=(flat ((cs.take b).drop a)).length:=by
   show(flat (cs.take b)).length -(flat (cs.take a)).length=_
   rw[e2,List.length_append];omega
  rw[e3,show pos cs a=(flat (cs.take a)).length from rfl,List.drop_left]
  rw[show(flat (cs.take b)).length -(flat (cs.take a)).length=(flat ((cs.take b).drop a)).length from e4,List.take_left]
 ·have h1:=pos_le cs (show b≤a by omega)
  have h2:(cs.take b).drop a=[]:=List.drop_eq_nil_of_le (by rw[List.length_take];omega)
  rw[show pos cs b-pos cs a=0 by omega,h2,List.take_zero];rfl
end Go.Proofs.YtbljnlkhebiniaaGreatDoor
end
section
set_option maxRecDepth 20000
set_option linter.unusedVariables false
set_option linter.unusedSimpArgs false
namespace Go.Proofs.YtbljnlkhebiniaaGreatDoor
open Go.RowKit Go.Graph Go.Utf
def mapK (f:Fun)(r:Rec):Rec:=
 if f.1=2 then(r.1,upper r.2)else if f.1=3 then(r.1,⟨(flat ((cks r.2.data.toList).take f.2.1.toNat)).toArray⟩)else if f.1=4 then(r.1,⟨(flat (cks r.2.data.toList).reverse).toArray⟩)
 else if f.1=5 then(r.1,(r.2++f.2.2).extract 0 (bd 64 0 (cks (r.2++f.2.2).data.toList)))else if f.1=6 then(Int.tmod (Int.tmod r.1 f.2.1+f.2.1) f.2.1,r.2)
 else if f.1=7 then(((cks r.2.data.toList).length:Int),r.2)else if f.1=8 then((((cks r.2.data.toList).map (·.2))[0]?).getD 0,r.2)else r
def mapP (f:Fun)(r:Rec):Rec×Int:=if chk 2 f≠0 then((0,ByteArray.mk #[]),chk 2 f)else if okT r.2=true then(mapK f r,0)else((0,ByteArray.mk #[]),50)
theorem chk_map {f:Fun}(h:chk 2 f=0):(1≤f.1∧f.1≤8)∧numberF f=true∧textP f=true:=by
 have hk:chk 2 f=anyF f [1,2,3,4,5,6,7,8]:=rfl
 rw[hk]at h
 unfold anyF at h
 split at h
 ·rename_i h1
  rw[List.any_eq_true]at h1
  obtain⟨y,hy,h2⟩:=h1
  simp only[Bool.and_eq_true,decide_eq_true_eq]at h2
  obtain⟨rfl,h3,h4⟩:=h2
  refine⟨?_,h3,h4⟩
  simp only[List.mem_cons,List.mem_nil_iff,or_false]at hy
  omega
 ·cases h
theorem num_cut {f:Fun}(h:chk 2 f=0)(h3:f.1=3):0≤f.2.1∧f.2.1≤64:=by
 have:=(chk_map h).2.1
 unfold numberF at this
 rw[if_pos (.inl h3)]at this
 simpa using this
theorem num_mod {f:Fun}(h:chk 2 f=0)(h3:f.1=6):1≤f.2.1∧f.2.1≤1048576:=by
 have:=(chk_map h).2.1
 unfold numberF at this
 rw[if_neg (by omega),if_pos (.inl h3)]at this
 simpa using this
theorem txt_behind {f:Fun}(h:chk 2 f=0)(h3:f.1=5):f.2.2.size≤16∧vld f.2.2 f.2.2.size 0=true:=by
 have:=(chk_map h).2.2
 unfold textP at this
 rw[if_pos h3]at this
 simp only[Bool.and_eq_true,decide_eq_true_eq]at this
 exact⟨by omega,this.2⟩
theorem runes_mk {cs:List Rn}(h: ∀c,c∈cs→Ck c):runesBytes (cs.map (·.2))=⟨(flat cs).toArray⟩:=ba_eq (by rw[runes_flat h])
theorem mk_size (l:List UInt8):(ByteArray.mk l.toArray).size=l.length:=by show l.toArray.size=_;simp
theorem flat_sub {cs:List Rn}(k:Nat):(flat (cs.take k)).length≤(flat cs).length:=by
 have:=congrArg List.length (flat_take cs k)
 rw[List.length_take]at this;omega
theorem flat_rev (cs:List Rn):(flat cs.reverse).length=(flat cs).length:=by
 show(cs.reverse.flatMap (·.1)).length=(cs.flatMap (·.1)).length
 simp only[List.length_flatMap]
 rw[List.map_reverse,List.sum_reverse]
theorem rest_eq {n b:Int}(h1:1≤b)(h2:b≤1048576):F.fn_rest n b=some (Int.tmod (Int.tmod n b+b) b):=by
 have t1:Int.tmod n b<b:=Int.tmod_lt_of_pos n (by omega)
 have t2: -b<Int.tmod n b:=by
  have:=Int.tmod_lt_of_pos (-n) (show 0<b by omega)
  rw[Int.neg_tmod]at this;omega
 rw[F.fn_rest,A.gd1 (by omega)]
 by_cases h:Int.tmod n b<0
 ·rw[if_pos h,A.gd1 ⟨by omega,by omega⟩,F.fn_rest_j1,Int.tmod_eq_of_lt (a:=Int.tmod n b+b) (by omega) (by omega)]
 ·rw[if_neg h,F.fn_rest_j1]
  congr 1
  rw[Int.tmod_eq_emod_of_nonneg (a:=Int.tmod n b+b) (by omega),Int.add_emod_right,Int.emod_eq_of_lt (by omega) t1]
theorem rune_fits {cs:List Rn}(h: ∀c,c∈cs→Ck c){x:Int}(hx:(cs.map (·.2))[0]?=some x):0≤x∧x≤1114111:=by
 rw[List.getElem?_map,Option.map_eq_some_iff]at hx
 obtain⟨c,hc,rfl⟩:=hx
 have:=h c (List.mem_of_getElem? hc)
 exact⟨this.nn,this.top⟩
theorem fn_both_eq (f:Fun)(r:Rec)(hs:f.2.2.size≤9223372036854775807):F.fn_both 2 f r=some (if chk 2 f≠0 then chk 2 f else if okT r.2=true then 0 else 50):=by
 rw[F.fn_both]
 show(F.fn_Check 2 f).bind _=_
 rw[fn_Check_eq 2 f hs,Option.bind_some]
 by_cases h:chk 2 f=0
 ·rw[if_neg (fun h2=>h2 h),if_neg (fun h2=>h2 h)]
  show(F.rec_Check r).bind _=_
  rw[rec_Check_eq];rfl
 ·rw[if_pos h,if_pos h]
theorem fn_Map_eq (f:Fun)(r:Rec)(hs:f.2.2.size≤9223372036854775807):F.fn_Map f r=some (mapP f r):=by
 rw[F.fn_Map]
 show(F.fn_both 2 f r).bind _=_
 rw[fn_both_eq f r hs,Option.bind_some]
 unfold mapP
 by_cases h:chk 2 f=0
 case neg=>rw[show(if chk 2 f≠0 then chk 2 f else if okT r.2=true then 0 else 50)=chk 2 f from if_pos h,if_pos h,if_pos h]
 rw[show(if chk 2 f≠0 then chk 2 f else if okT r.2=true then 0 else 50)=if okT r.2=true then 0 else 50 from if_neg (fun h2=>h2 h),if_neg (show ¬(chk 2 f≠0)from fun h2=>h2 h)]
 by_cases ho:okT r.2=true
 case neg=>rw[show(if okT r.2=true then(0:Int)else 50)=50 from if_neg ho,if_neg ho];rfl
 rw[show(if okT r.2=true then(0:Int)else 50)=0 from if_pos ho,if_pos ho,if_neg (show ¬((0:Int)≠0)from fun h2=>h2 rfl)]
 obtain⟨h64,hv⟩:=okT_iff.1 ho
 obtain⟨hf,hc⟩:=vld_cks hv
 have hfl:(flat (cks r.2.data.toList)).length=r.2.size:=by rw[hf,size_list]
 have hcl:=cks_len r.2
 rw[runes_F _ (by omega),Option.bind_some]
 unfold mapK
 by_cases e2:f.1=2
 ·rw[if_pos e2,if_pos e2,upper_F _ (by omega)];rfl
 rw[if_neg e2,if_neg e2]
 by_cases e3:f.1=3
 ·obtain⟨n1,n2⟩:=num_cut h e3
  have e:List.take (min (((cks r.2.data.toList).map (·.2)).length:Int) f.2.1).toNat ((cks r.2.data.toList).map (·.2))=((cks r.2.data.toList).take f.2.1.toNat).map (·.2):=by
   rw[List.map_take,List.length_map]
   by_cases hm:((cks r.2.data.toList).length:Int)≤f.2.1
   ·rw[Int.min_eq_left hm,Int.toNat_natCast,List.take_of_length_le (by rw[List.length_map];omega),List.take_of_length_le (by rw[List.length_map];omega)]
   ·rw[Int.min_eq_right (by omega)]
  have hsub:=flat_sub (cs:=cks r.2.data.toList) f.2.1.toNat
  rw[if_pos e3,if_pos e3,A.gd1 ⟨by omega,by rw[List.length_map];omega⟩,e,runes_mk fun c hcm=>hc c (List.mem_of_mem_take hcm),A.gd1 (by rw[mk_size];omega)]
  rfl
 rw[if_neg e3,if_neg e3]
 by_cases e4:f.1=4
 ·have hr:=flat_rev (cks r.2.data.toList)
  rw[if_pos e4,if_pos e4,Reverse_eq _ (by rw[List.length_map];omega),Option.bind_some,←List.map_reverse,runes_mk fun c hcm=>hc c (List.mem_reverse.1 hcm),A.gd1 (by rw[mk_size];omega)]
  rfl
 rw[if_neg e4,if_neg e4]
 by_cases e5:f.1=5
 ·obtain⟨n1,n2⟩:=txt_behind h e5
  have:=rec_Cut_eq (r.2++f.2.2) 64 (by rw[ByteArray.size_append];omega)
  rw[if_pos e5,if_pos e5,A.gd1 (by omega),show(64:Int)=((64:Nat):Int)from rfl,this]
  rfl
 rw[if_neg e5,if_neg e5]
 by_cases e6:f.1=6
 ·obtain⟨n1,n2⟩:=num_mod h e6
  rw[if_pos e6,if_pos e6,rest_eq n1 n2];rfl
 rw[if_neg e6,if_neg e6]
 by_cases e7:f.1=7
 ·rw[if_pos e7,if_pos e7,List.length_map];rfl
 rw[if_neg e7,if_neg e7]
 by_cases e8:f.1=8
 ·rw[if_pos e8,if_pos e8]
  cases hx:((cks r.2.data.toList).map (·.2))[0]? with
  |none=>
   have:((cks r.2.data.toList).map (·.2)).length=0:=by
    have:=List.getElem?_eq_none_iff.1 hx;omega
   rw[if_neg (by omega)];rfl
  |some x=>
   have hlt:=(List.getElem?_eq_some_iff.1 hx).1
   have hr:=rune_fits hc hx
   rw[if_pos (by omega),show A.ix ((cks r.2.data.toList).map (·.2)) 0=some x from A.ixn (k:=0) hx,Option.bind_some,A.gd1 ⟨by omega,by omega⟩];rfl
 rw[if_neg e8,if_neg e8];rfl
theorem Ck.one {b:UInt8}(h:b.toNat<128):Ck ([b],(b.toNat:Int)):=by
 have hd:Lib.decodeL [b]=(b.toNat,1):=by
  rw[Lib.decodeL_N]
  unfold Lib.decodeN
  rw[if_pos (by simpa using h)];rfl
 have:=Ck.of (l:=[b]) (by simp) (by rw[hd];intro h2;have:=h2.1;simp only at this;omega)
 rw[hd]at this
 exact this
theorem Ck.kinds {c:Rn}(h:Ck c):(∃b:UInt8,b.toNat<128∧c=([b],(b.toNat:Int)))∨∀b,b∈c.1→128≤b.toNat:=by
 have hd:=h.dec []
 rw[List.append_nil]at hd
 have hok:=h.ok
 have hlen:=h.len
 rw[Lib.decodeL_N]at hd
 have k0:=(c.1.getD 0 0).toNat_lt
 rcases Lib.decodeN_shape c.1.length (c.1.getD 0 0).toNat (c.1.getD 1 0).toNat (c.1.getD 2 0).toNat (c.1.getD 3 0).toNat with⟨q,e⟩|⟨c1,c2,c3,cv,e⟩|⟨c1,c2,c3,c4,cv,cs,e⟩|⟨c1,c2,c3,c4,c5,cv,cw,e⟩|e
 ·left
  rw[e]at hd
  injection hd with h1 h2
  have hc1:=Lib.takeA c.1 (by omega)
  rw[List.take_of_length_le (by omega)]at hc1
  refine⟨c.1.getD 0 0,q,?_⟩
  have hnn:=h.nn
  refine Prod.ext hc1 ?_
  show c.2=_
  rw[h1];omega
 ·right
  rw[e]at hd
  injection hd with h1 h2
  have hc1:=Lib.takeB c.1 (by omega)
  rw[List.take_of_length_le (by omega)]at hc1
  intro b hb
  rw[hc1]at hb
  simp only[List.mem_cons,List.mem_nil_iff,or_false]at hb
  rcases hb with rfl|rfl<;>omega
 ·right
  rw[e]at hd
  injection hd with h1 h2
  have hc1:=Lib.takeC c.1 (by omega)
  rw[List.take_of_length_le (by omega)]at hc1
  intro b hb
  rw[hc1]at hb
  simp only[List.mem_cons,List.mem_nil_iff,or_false]at hb
  rcases hb with rfl|rfl|rfl<;>omega
 ·right
  rw[e]at hd
  injection hd with h1 h2
  have hc1:=Lib.takeD c.1 (by omega)
  rw[List.take_of_length_le (by omega)]at hc1
  intro b hb
  rw[hc1]at hb
  simp only[List.mem_cons,List.mem_nil_iff,or_false]at hb
  rcases hb with rfl|rfl|rfl|rfl<;>omega
 ·rw[e]at hd
  injection hd with h1 h2
  exact absurd ⟨h1.symm,h2.symm⟩ hok
theorem upB_lt {b:UInt8}(h:b.toNat<128):(upB b).toNat <128:=by
 unfold upB
 split
 ·rename_i h2
  have e:(UInt8.ofNat (b.toNat-32)).toNat=b.toNat-32:=by
   rw[UInt8.toNat_ofNat'];omega
  rw[e];omega
 ·exact h
theorem upB_ge {b:UInt8}(h:128≤b.toNat):upB b=b:=by unfold upB;rw[if_neg (by omega)]
theorem up_ck {cs:List Rn}(h: ∀c,c∈cs→Ck c): ∃cs',(∀c,c∈cs'→Ck c)∧flat cs'=(flat cs).map upB:=by
 induction cs with
 |nil=>exact⟨[],by simp,rfl⟩
 |cons c cs ih=>
  obtain⟨cs',h1,h2⟩:=ih fun x hx=>h x (List.mem_cons_of_mem _ hx)
  have hc:=h c (List.mem_cons_self ..)
  rcases Ck.kinds hc with⟨b,hb,rfl⟩|hb
  ·exact⟨([upB b],((upB b).toNat:Int))::cs',fun x hx=>(List.mem_cons.1 hx).elim (fun e=>e▸Ck.one (upB_lt hb)) (h1 x),by rw[flat_cons,flat_cons,h2];simp⟩
  ·refine⟨c::cs',fun x hx=>(List.mem_cons.1 hx).elim (fun e=>e▸hc) (h1 x),?_⟩
   rw[flat_cons,flat_cons,h2,List.map_append]
   congr 1
   refine((List.map_congr_left fun b hbm=>upB_ge (hb b hbm)).trans ?_).symm
   simp
theorem mapK_ok {f:Fun}{r:Rec}(h:chk 2 f=0)(ho:okT r.2=true):okT (mapK f r).2=true:=by
 obtain⟨h64,hv⟩:=okT_iff.1 ho
 obtain⟨hf,hc⟩:=vld_cks hv
 have hfl:(flat (cks r.2.data.toList)).length=r.2.size:=by rw[hf,size_list]
 unfold mapK
 by_cases e2:f.1=2
 ·rw[if_pos e2]
  obtain⟨cs',h1,h2⟩:=up_ck hc
  rw[hf]at h2
  refine okT_iff.2 ⟨?_,vld_of (cs:=cs') (by rw[h2];rfl) h1⟩
  show(upper r.2).size≤64
  unfold upper
  rw[mk_size,List.length_map,size_list];exact h64
 rw[if_neg e2]
 by_cases e3:f.1=3
 ·rw[if_pos e3]
  have hsub:=flat_sub (cs:=cks r.2.data.toList) f.2.1.toNat
  exact okT_iff.2 ⟨by show(ByteArray.mk _).size≤64;rw[mk_size];omega,vld_of (cs:=(cks r.2.data.toList).take f.2.1.toNat) rfl fun c hcm=>hc c (List.mem_of_mem_take hcm)⟩
 rw[if_neg e3]
 by_cases e4:f.1=4
 ·rw[if_pos e4]
  have hr:=flat_rev (cks r.2.data.toList)
  exact okT_iff.2 ⟨by show(ByteArray.mk _).size≤64;rw[mk_size];omega,vld_of (cs:=(cks r.2.data.toList).reverse) rfl fun c hcm=>hc c (List.mem_reverse.1 hcm)⟩
 rw[if_neg e4]
 by_cases e5:f.1=5
 ·rw[if_pos e5]
  obtain⟨n1,n2⟩:=txt_behind h e5
  obtain⟨v1,v2⟩:=vld_app hv n2
  obtain⟨g1,g2⟩:=vld_cks v1
  obtain⟨k,b1,b2⟩:=bd_pre 64 (cks (r.2++f.2.2).data.toList) 0 (Nat.zero_le _)
  have e:((r.2++f.2.2).extract 0 (bd 64 0 (cks (r.2++f.2.2).data.toList))).data.toList=flat ((cks (r.2++f.2.2).data.toList).take k):=by
   have:=ext_flat g1 0 k
   rw[List.drop_zero]at this
   rw[b1,Nat.zero_add]
   exact this
  refine okT_iff.2 ⟨?_,vld_of e fun c hcm=>g2 c (List.mem_of_mem_take hcm)⟩
  show((r.2++f.2.2).extract 0 _).size≤64
  rw[ByteArray.size_extract];omega
 rw[if_neg e5]
 by_cases e6:f.1=6
 ·rw[if_pos e6];exact ho
 rw[if_neg e6]
 by_cases e7:f.1=7
 ·rw[if_pos e7];exact ho
 rw[if_neg e7]
 by_cases e8:f.1=8
 ·rw[if_pos e8];exact ho
 rw[if_neg e8];exact ho
end Go.Proofs.YtbljnlkhebiniaaGreatDoor
end
section
set_option linter.unusedVariables false
set_option linter.unusedSimpArgs false
namespace Go.Ent
open Go.Utf
abbrev En:=Int×Int×ByteArray×Int
abbrev Ky:=Int×Int×ByteArray
abbrev key (e:En):Ky:=(e.1,e.2.1,e.2.2.1)
abbrev num (e:En):Int:=e.2.2.2
theorem bL_irr: ∀a:List UInt8,Op.bytesLess a a=false
 | []=>rfl
 |x::a=>by unfold Op.bytesLess;rw[bL_irr a];simp
theorem bL_tr: ∀{a b c:List UInt8},Op.bytesLess a b=true→Op.bytesLess b c=true→Op.bytesLess a c=true
 |_,_,[],_,h=>by cases h':(‹List UInt8›)<;>simp_all [Op.bytesLess]
 |_,[],_::_,h,_=>by simp_all [Op.bytesLess]
 | [],_::_,_::_,_,_=>rfl
 |x::a,y::b,z::c,h1,h2=>by
  unfold Op.bytesLess at h1 h2 ⊢
  simp only[Bool.or_eq_true,Bool.and_eq_true,decide_eq_true_eq,beq_iff_eq]at h1 h2 ⊢
  rcases h1 with h1|⟨rfl,h1⟩
  ·rcases h2 with h2|⟨rfl,h2⟩
   ·exact .inl (UInt8.lt_trans h1 h2)
   ·exact .inl h1
  ·rcases h2 with h2|⟨rfl,h2⟩
   ·exact .inl h2
   ·exact .inr ⟨rfl,bL_tr h1 h2⟩
theorem bL_tri: ∀{a b:List UInt8},Op.bytesLess a b=false→Op.bytesLess b a=false→a=b
 | [],[],_,_=>rfl
 | [],_::_,h,_=>by simp[Op.bytesLess]at h
 |_::_,[],_,h=>by simp[Op.bytesLess]at h
 |x::a,y::b,h1,h2=>by
  unfold Op.bytesLess at h1 h2
  simp only[Bool.or_eq_false_iff,decide_eq_false_iff_not,Bool.and_eq_false_iff]at h1 h2
  have e:x=y:=UInt8.le_antisymm (UInt8.not_lt.1 h2.1) (UInt8.not_lt.1 h1.1)
  subst e
  have h3:Op.bytesLess a b=false:=by rcases h1.2 with h|h;simp at h;exact h
  have h4:Op.bytesLess b a=false:=by rcases h2.2 with h|h;simp at h;exact h
  rw[bL_tri h3 h4]
def bl (s t:ByteArray):Bool:=Op.bytesLess s.toList t.toList
theorem bl_irr (s:ByteArray):bl s s=false:=bL_irr _
theorem bl_tr {s t u:ByteArray}(h1:bl s t=true)(h2:bl t u=true):bl s u=true:=bL_tr h1 h2
theorem bl_tri {s t:ByteArray}(h1:bl s t=false)(h2:bl t s=false):s=t:=by
 have:=bL_tri h1 h2
 rw[Lib.toList_data,Lib.toList_data]at this
 exact ba_eq this
def rl (a b:Int×ByteArray):Bool:=decide (a.1<b.1)||(decide (a.1=b.1)&&bl a.2 b.2)
theorem rl_irr (a:Int×ByteArray):rl a a=false:=by unfold rl;rw[bl_irr];simp
theorem rl_tr {a b c:Int×ByteArray}(h1:rl a b=true)(h2:rl b c=true):rl a c=true:=by
 unfold rl at h1 h2 ⊢
 simp only[Bool.or_eq_true,Bool.and_eq_true,decide_eq_true_eq]at h1 h2 ⊢
 rcases h1 with h1|⟨h1,h1'⟩
 ·rcases h2 with h2|⟨h2,h2'⟩
  ·left;omega
  ·left;omega
 ·rcases h2 with h2|⟨h2,h2'⟩
  ·left;omega
  ·exact .inr ⟨h1.trans h2,bl_tr h1' h2'⟩
theorem rl_tri {a b:Int×ByteArray}(h1:rl a b=false)(h2:rl b a=false):a=b:=by
 unfold rl at h1 h2
 simp only[Bool.or_eq_false_iff,decide_eq_false_iff_not,Bool.and_eq_false_iff]at h1 h2
 have e:a.1=b.1:=by omega
 have h3:bl a.2 b.2=false:=by rcases h1.2 with h|h;exact absurd e h;exact h
 have h4:bl b.2 a.2=false:=by rcases h2.2 with h|h;exact absurd e.symm h;exact h
 exact Prod.ext e (bl_tri h3 h4)
def kl (a b:Ky):Bool:=decide (a.1<b.1)||(decide (a.1=b.1)&&rl a.2 b.2)
theorem kl_irr (a:Ky):kl a a=false:=by unfold kl;rw[rl_irr];simp
theorem kl_ne {a b:Ky}(h:kl a b=true):a≠b:=fun e=>by subst e;rw[kl_irr]at h;cases h
abbrev Srt (l:List En):Prop:=l.Pairwise fun a b=>kl (key a) (key b)=true
def gv:List En→Ky→Int
 | [],_=>0
 |e::l,k=>if key e=k then num e else gv l k
theorem gv_none: ∀{l:List En} {k:Ky},(∀e,e∈l→key e≠k)→gv l k=0
 | [],_,_=>rfl
 |e::l,k,h=>by unfold gv;rw[if_neg (h e (List.mem_cons_self ..))];exact gv_none fun x hx=>h x (List.mem_cons_of_mem _ hx)
theorem gv_at {l:List En}{k:Ky}(h:gv l k≠0): ∃e,e∈l∧key e=k∧num e=gv l k:=by
 induction l with
 |nil=>exact absurd rfl h
 |cons x l ih=>
  unfold gv at h ⊢
  by_cases hx:key x=k
  ·rw[if_pos hx];exact⟨x,List.mem_cons_self ..,hx,rfl⟩
  ·rw[if_neg hx]at h ⊢
   obtain⟨e,h1,h2⟩:=ih h
   exact⟨e,List.mem_cons_of_mem _ h1,h2⟩
structure Nf (l:List En):Prop where
 srt:Srt l
 nz: ∀e,e∈l→num e≠0
def upd (x e:En)(one:Bool):En:=(x.1,x.2.1,x.2.2.1,if one=true then 1 else min (num x+num e) 1099511627776)
abbrev cap (one:Bool):Int:=if one=true then 1 else 1099511627776
structure Bd (one:Bool) (l:List En):Prop where
 srt:Srt l
 b: ∀e,e∈l→1≤num e∧num e≤cap one
theorem Bd.gv {one:Bool}{l:List En}(h:Bd one l)(k:Ky):0≤gv l k∧gv l k≤cap one:=by
 by_cases h0:Ent.gv l k=0
 ·rw[h0];cases one<;>decide
 ·obtain⟨e,h1,_,h2⟩:=gv_at h0
  have:=h.b e h1
  rw[h2]at this
  exact⟨by omega,this.2⟩
def cs (C:Int)(l:List En)(k:Ky):Int:=l.foldl (fun a e=>if key e=k then min C (a+num e)else a) 0
def sm:List En→Ky→Int
 | [],_=>0
 |e::l,k=>(if key e=k then num e else 0)+sm l k
theorem sm_nn {l:List En}(h: ∀e,e∈l→0≤num e)(k:Ky):0≤sm l k:=by
 induction l with
 |nil=>simp[sm]
 |cons x l ih=>
  have h1:=ih fun e he=>h e (List.mem_cons_of_mem _ he)
  have h2:=h x (List.mem_cons_self ..)
  unfold sm
  split<;>omega
theorem cs_sm {C:Int}(hC:0≤C): ∀(l:List En),(∀e,e∈l→0≤num e)→∀k,cs C l k=min C (sm l k):=by
 intro l h k
 have main: ∀(l:List En) (a:Int),(∀e,e∈l→0≤num e)→0≤a→a≤C→l.foldl (fun a e=>if key e=k then min C (a+num e)else a) a=min C (a+sm l k):=by
  intro l
  induction l with
  |nil=>intro a _ h1 h2;simp[sm];omega
  |cons x l ih=>
   intro a h h1 h2
   have hx:=h x (List.mem_cons_self ..)
   have hl:=sm_nn (fun e he=>h e (List.mem_cons_of_mem _ he)) k
   rw[List.foldl_cons,sm]
   split
   ·rw[ih _ (fun e he=>h e (List.mem_cons_of_mem _ he)) (by omega) (by omega)];omega
   ·rw[ih _ (fun e he=>h e (List.mem_cons_of_mem _ he)) h1 h2];omega
 have:=main l 0 h (Int.le_refl _) hC
 rw[Int.zero_add]at this
 exact this
theorem sm_gv: ∀{l:List En},Srt l→∀k,sm l k=gv l k
 | [],_,_=>rfl
 |x::l,h,k=>by
  obtain⟨h1,h2⟩:=List.pairwise_cons.1 h
  unfold sm gv
  by_cases hk:key x=k
  ·rw[if_pos hk,if_pos hk,sm_gv h2,gv_none (fun e he h3=>kl_ne (h1 e he) (hk.trans h3.symm))];omega
  ·rw[if_neg hk,if_neg hk,sm_gv h2];omega
theorem Bd.cs {one:Bool}{l:List En}(h:Bd one l)(k:Ky):cs (cap one) l k=Ent.gv l k:=by
 rw[cs_sm (by cases one<;>decide) l (fun e he=>by have:=(h.b e he).1;omega),sm_gv h.srt]
 have:=h.gv k
 omega
end Go.Ent
end
section
set_option linter.unusedVariables false
set_option linter.unusedSimpArgs false
namespace Go.Opr
open Go.Utf Go.Ent
abbrev Rc:=Int×ByteArray
abbrev Mn:=Rc×Int
abbrev kr (e:En):Rc:=(e.2.1,e.2.2.1)
theorem pw_ext {α:Type}{lt:α→α→Bool}(irr: ∀a,lt a a=false)(tr: ∀{a b c},lt a b=true→lt b c=true→lt a c=true): ∀{l m:List α},l.Pairwise (fun a b=>lt a b=true)→m.Pairwise (fun a b=>lt a b=true)→(∀x,x∈l↔x∈m)→l=m
 | [],[],_,_,_=>rfl
 | [],y::m,_,_,h=>absurd ((h y).2 (List.mem_cons_self ..)) (by simp)
 |x::l,[],_,_,h=>absurd ((h x).1 (List.mem_cons_self ..)) (by simp)
 |x::l,y::m,hl,hm,h=>by
  obtain⟨l1,l2⟩:=List.pairwise_cons.1 hl
  obtain⟨m1,m2⟩:=List.pairwise_cons.1 hm
  have e:x=y:=by
   rcases List.mem_cons.1 ((h x).1 (List.mem_cons_self ..))with e|h1
   ·exact e
   ·rcases List.mem_cons.1 ((h y).2 (List.mem_cons_self ..))with e|h2
    ·exact e.symm
    ·have:=tr (m1 x h1) (l1 y h2)
     rw[irr]at this;cases this
  subst e
  congr 1
  refine pw_ext irr tr l2 m2 fun z=>?_
  have nl:z∈l→z≠x:=fun hz e=>by subst e;have:=l1 z hz;rw[irr]at this;cases this
  have nm:z∈m→z≠x:=fun hz e=>by subst e;have:=m1 z hz;rw[irr]at this;cases this
  exact⟨fun hz=>((List.mem_cons.1 ((h z).1 (List.mem_cons_of_mem _ hz))).resolve_left (nl hz)),fun hz=>((List.mem_cons.1 ((h z).2 (List.mem_cons_of_mem _ hz))).resolve_left (nm hz))⟩
abbrev SK {α:Type} (k:α→Rc) (l:List α):Prop:=l.Pairwise fun a b=>rl (k a) (k b)=true
theorem sk_ext {α:Type}{k:α→Rc}{l m:List α}(hl:SK k l)(hm:SK k m)(h: ∀x,x∈l↔x∈m):l=m:=
 pw_ext (lt:=fun a b=>rl (k a) (k b)) (fun a=>rl_irr _) (fun h1 h2=>rl_tr h1 h2) hl hm h
theorem rl_asy {a b:Rc}(h:rl a b=true):rl b a=false:=by
 cases h2:rl b a with
 |false=>rfl
 |true=>have:=rl_tr h h2;rw[rl_irr]at this;cases this
theorem rl_ne {a b:Rc}(h:rl a b=true):a≠b:=fun e=>by subst e;rw[rl_irr]at h;cases h
theorem sk_inj {α:Type}{k:α→Rc}: ∀{l:List α},SK k l→∀{a b},a∈l→b∈l→k a=k b→a=b
 |x::l,h,a,b,ha,hb,e=>by
  obtain⟨h1,h2⟩:=List.pairwise_cons.1 h
  rcases List.mem_cons.1 ha with ea|ha2<;>rcases List.mem_cons.1 hb with eb|hb2
  ·rw[ea,eb]
  ·rw[ea]at e;exact absurd e (rl_ne (h1 b hb2))
  ·rw[eb]at e;exact absurd e.symm (rl_ne (h1 a ha2))
  ·exact sk_inj h2 ha2 hb2 e
def ins {α:Type}(k:α→Rc)(e:α):List α→List α
 | []=>[e]
 |x::l=>if k x=k e then e::l else if rl (k e) (k x)=true then e::x::l else x::ins k e l
theorem ins_mem {α:Type}{k:α→Rc}{e x:α}: ∀{l:List α},SK k l→(x∈ins k e l↔x=e∨(x∈l∧k x≠k e))
 | [],_=>by simp[ins]
 |y::l,h=>by
  obtain⟨h1,h2⟩:=List.pairwise_cons.1 h
  unfold ins
  by_cases hk:k y=k e
  ·rw[if_pos hk]
   simp only[List.mem_cons]
   constructor
   ·rintro(rfl|hx)
    ·exact .inl rfl
    ·exact .inr ⟨.inr hx,fun e2=>rl_ne (h1 x hx) (hk.trans e2.symm)⟩
   ·rintro(rfl|⟨rfl|hx,hn⟩)
    ·exact .inl rfl
    ·exact absurd hk hn
    ·exact .inr hx
  ·rw[if_neg hk]
   by_cases hlt:rl (k e) (k y)=true
   ·rw[if_pos hlt]
    simp only[List.mem_cons]
    constructor
    ·rintro(rfl|rfl|hx)
     ·exact .inl rfl
     ·exact .inr ⟨.inl rfl,hk⟩
     ·exact .inr ⟨.inr hx,fun e2=>rl_ne (rl_tr hlt (h1 x hx)) e2.symm⟩
    ·rintro(rfl|⟨rfl|hx,hn⟩)
     ·exact .inl rfl
     ·exact .inr (.inl rfl)
     ·exact .inr (.inr hx)
   ·rw[if_neg hlt,List.mem_cons,ins_mem h2,List.mem_cons]
    constructor
    ·rintro(rfl|rfl|⟨hx,hn⟩)
     ·exact .inr ⟨.inl rfl,hk⟩
     ·exact .inl rfl
     ·exact .inr ⟨.inr hx,hn⟩
    ·rintro(rfl|⟨rfl|hx,hn⟩)
     ·exact .inr (.inl rfl)
     ·exact .inl rfl
     ·exact .inr (.inr ⟨hx,hn⟩)
theorem ins_sk {α:Type}{k:α→Rc}{e:α}: ∀{l:List α},SK k l→SK k (ins k e l)
 | [],_=>List.pairwise_singleton ..
 |y::l,h=>by
  obtain⟨h1,h2⟩:=List.pairwise_cons.1 h
  unfold ins
  by_cases hk:k y=k e
  ·rw[if_pos hk]
   exact List.pairwise_cons.2 ⟨fun b hb=>hk▸h1 b hb,h2⟩
  ·rw[if_neg hk]
   by_cases hlt:rl (k e) (k y)=true
   ·rw[if_pos hlt]
    exact List.pairwise_cons.2 ⟨fun b hb=>(List.mem_cons.1 hb).elim (fun e=>e▸hlt) fun hb=>rl_tr hlt (h1 b hb),h⟩
   ·rw[if_neg hlt]
    refine List.pairwise_cons.2 ⟨fun b hb=>?_,ins_sk h2⟩
    rcases(ins_mem h2).1 hb with rfl|⟨hb,_⟩
    ·cases hye:rl (k y) (k b)with
     |true=>rfl
     |false=>exact absurd (rl_tri hye (by simpa using hlt)) hk
    ·exact h1 b hb
def sc (l:List Rc):List Rc:=l.foldl (fun a r=>ins id r a) []
theorem sc_ok (l:List Rc):SK id (sc l)∧∀r,r∈sc l↔r∈l:=by
 have main: ∀(l a:List Rc),SK id a→SK id (l.foldl (fun a r=>ins id r a) a)∧∀r,r∈l.foldl (fun a r=>ins id r a) a↔r∈a∨r∈l:=by
  intro l
  induction l with
  |nil=>intro a h;exact⟨h,fun r=>by simp⟩
  |cons x l ih=>
   intro a h
   obtain⟨i1,i2⟩:=ih (ins id x a) (ins_sk h)
   refine⟨i1,fun r=>(i2 r).trans ?_⟩
   rw[ins_mem h,List.mem_cons]
   constructor
   ·rintro((rfl|⟨h1,_⟩)|h1)
    ·exact .inr (.inl rfl)
    ·exact .inl h1
    ·exact .inr (.inr h1)
   ·rintro(h1|rfl|h1)
    ·by_cases e:r=x
     ·exact .inl (.inl e)
     ·exact .inl (.inr ⟨h1,e⟩)
    ·exact .inl (.inl rfl)
    ·exact .inr h1
 obtain⟨h1,h2⟩:=main l [] List.Pairwise.nil
 exact⟨h1,fun r=>(h2 r).trans (by simp)⟩
def grp:List Mn→List (Int×List Mn)
 | []=>[]
 |m::l=>match grp l with
  | []=>[(m.1.1,[m])]
  |(k,g)::r=>if m.1.1=k then(k,m::g)::r else(m.1.1,[m])::(k,g)::r
theorem grp_cons (m:Mn)(l:List Mn):grp (m::l)=match grp l with
  | []=>[(m.1.1,[m])]
  |(k,g)::r=>if m.1.1=k then(k,m::g)::r else(m.1.1,[m])::(k,g)::r:=rfl
theorem grp_head: ∀(l:List Mn),(l=[]∧grp l=[])∨∃m t g r,l=m::t∧grp l=(m.1.1,m::g)::r
 | []=>.inl ⟨rfl,rfl⟩
 |m::l=>by
  right
  rw[grp_cons]
  rcases grp_head l with⟨rfl,h⟩|⟨m',t,g,r,rfl,h⟩
  ·rw[h];exact⟨m,_,_,_,rfl,rfl⟩
  ·rw[h]
   by_cases e:m.1.1=m'.1.1
   ·simp only[if_pos e];exact⟨m,_,_,_,rfl,by rw[e]⟩
   ·simp only[if_neg e];exact⟨m,_,_,_,rfl,rfl⟩
theorem grp_flat: ∀(l:List Mn),(grp l).flatMap (·.2)=l
 | []=>rfl
 |m::l=>by
  have ih:=grp_flat l
  rw[grp_cons]
  rcases grp_head l with⟨rfl,h⟩|⟨m',t,g,r,rfl,h⟩
  ·rw[h];rfl
  ·rw[h]at ih ⊢
   by_cases e:m.1.1=m'.1.1
   ·simp only[if_pos e]
    rw[List.flatMap_cons]at ih ⊢
    rw[←ih];rfl
   ·simp only[if_neg e]
    rw[List.flatMap_cons,ih];rfl
theorem grp_all: ∀{l:List Mn} {kg:Int×List Mn},kg∈grp l→kg.2≠[]∧∀m,m∈kg.2→m.1.1=kg.1
 | [],_,h=>by cases h
 |m::l,kg,h=>by
  have ih:=fun kg=> @grp_all l kg
  rw[grp_cons]at h
  rcases grp_head l with⟨rfl,hh⟩|⟨m',t,g,r,rfl,hh⟩
  ·rw[hh]at h
   obtain rfl:=List.mem_singleton.1 h
   exact⟨by simp,fun x hx=>by obtain rfl:=List.mem_singleton.1 hx;rfl⟩
  ·rw[hh]at h ih
   by_cases e:m.1.1=m'.1.1
   ·simp only[if_pos e]at h
    rcases List.mem_cons.1 h with rfl|h
    ·exact⟨by simp,fun x hx=>(List.mem_cons.1 hx).elim (fun e2=>e2▸e) fun hx=>(ih _ (List.mem_cons_self ..)).2 x hx⟩
    ·exact ih kg (List.mem_cons_of_mem _ h)
   ·simp only[if_neg e]at h
    rcases List.mem_cons.1 h with rfl|h
    ·exact⟨by simp,fun x hx=>by obtain rfl:=List.mem_singleton.1 hx;rfl⟩
    ·exact ih kg h
theorem grp_sub {l:List Mn}{kg:Int×List Mn}(h:kg∈grp l): ∀m,m∈kg.2→m∈l:=fun m hm=>by
 rw[←grp_flat l];exact List.mem_flatMap.2 ⟨kg,h,hm⟩
abbrev KL (l:List Mn):Prop:=l.Pairwise fun a b=>a.1.1≤b.1.1
theorem rl_le {a b:Rc}(h:rl a b=true):a.1≤b.1:=by
 unfold rl at h
 simp only[Bool.or_eq_true,Bool.and_eq_true,decide_eq_true_eq]at h
 omega
theorem KL.of {l:List Mn}(h:SK (fun m:Mn=>m.1) l):KL l:=h.imp fun h=>rl_le h
theorem grp_asc: ∀{l:List Mn},KL l→(grp l).Pairwise fun a b=>a.1<b.1
 | [],_=>List.Pairwise.nil
 |m::l,h=>by
  obtain⟨h1,h2⟩:=List.pairwise_cons.1 h
  have ih:=grp_asc h2
  rw[grp_cons]
  rcases grp_head l with⟨rfl,hh⟩|⟨m',t,g,r,rfl,hh⟩
  ·rw[hh];exact List.pairwise_singleton ..
  ·rw[hh]at ih ⊢
   by_cases e:m.1.1=m'.1.1
   ·simp only[if_pos e]
    exact List.pairwise_cons.2 ⟨(List.pairwise_cons.1 ih).1,(List.pairwise_cons.1 ih).2⟩
   ·simp only[if_neg e]
    have hm:=h1 m' (List.mem_cons_self ..)
    refine List.pairwise_cons.2 ⟨fun b hb=>?_,ih⟩
    rcases List.mem_cons.1 hb with rfl|hb
    ·show m.1.1<m'.1.1;omega
    ·have:=(List.pairwise_cons.1 ih).1 b hb
     show m.1.1<b.1;have:m'.1.1<b.1:=this;omega
theorem grp_filter (p:Int→Bool): ∀{l:List Mn},KL l→grp (l.filter fun m=>p m.1.1)=(grp l).filter fun kg=>p kg.1
 | [],_=>rfl
 |m::l,h=>by
  obtain⟨h1,h2⟩:=List.pairwise_cons.1 h
  have ih:=grp_filter p h2
  have asc:=grp_asc h2
  rw[grp_cons]
  rcases grp_head l with⟨rfl,hh⟩|⟨m',t,g,r,rfl,hh⟩
  ·rw[hh]
   by_cases hp:p m.1.1=true
   ·rw[List.filter_cons_of_pos (by exact hp)];simp only[];rw[List.filter_cons_of_pos (by exact hp)];rfl
   ·rw[List.filter_cons_of_neg (by exact hp)];simp only[];rw[List.filter_cons_of_neg (by exact hp)];rfl
  ·rw[hh]at ih asc ⊢
   have hm:=h1 m' (List.mem_cons_self ..)
   by_cases e:m.1.1=m'.1.1
   ·simp only[if_pos e]
    by_cases hp:p m.1.1=true
    ·have hp':p m'.1.1=true:=e▸hp
     rw[List.filter_cons_of_pos (by exact hp),grp_cons,ih,List.filter_cons_of_pos (by exact hp'),List.filter_cons_of_pos (by exact hp')]
     simp only[if_pos e]
    ·have hp': ¬p m'.1.1=true:=e▸hp
     rw[List.filter_cons_of_neg (by exact hp),ih,List.filter_cons_of_neg (by exact hp'),List.filter_cons_of_neg (by exact hp')]
   ·simp only[if_neg e]
    by_cases hp:p m.1.1=true
    ·have ep:((m.1.1,[m])::(m'.1.1,m'::g)::r).filter (fun kg=>p kg.1)=(m.1.1,[m])::((m'.1.1,m'::g)::r).filter (fun kg=>p kg.1):=List.filter_cons_of_pos (by exact hp)
     rw[List.filter_cons_of_pos (by exact hp),grp_cons,ih,ep]
     cases hf:(((m'.1.1,m'::g)::r).filter fun kg=>p kg.1)with
     |nil=>rfl
     |cons kg rr=>
      have hin:kg∈(m'.1.1,m'::g)::r:=(List.mem_filter.1 (hf▸List.mem_cons_self ..)).1
      have hlt:m.1.1<kg.1:=by
       rcases List.mem_cons.1 hin with rfl|hin
       ·show m.1.1<m'.1.1;omega
       ·have:m'.1.1<kg.1:=(List.pairwise_cons.1 asc).1 kg hin
        omega
      simp only[if_neg (show ¬m.1.1=kg.1 by omega)]
    ·have ep:((m.1.1,[m])::(m'.1.1,m'::g)::r).filter (fun kg=>p kg.1)=((m'.1.1,m'::g)::r).filter (fun kg=>p kg.1):=List.filter_cons_of_neg (by exact hp)
     rw[List.filter_cons_of_neg (by exact hp),ih,ep]
abbrev oth (b:List Mn) (k:Int):List Mn:=b.filter fun m=>decide (m.1.1=k)
theorem grp_oth: ∀{l:List Mn},KL l→∀{kg},kg∈grp l→kg.2=oth l kg.1:=fun {l} h kg hk=>by
 have:=grp_filter (fun k=>decide (k=kg.1)) h
 have h2:(grp l).filter (fun x=>decide (x.1=kg.1))=[kg]:=by
  have asc:=grp_asc h
  have main: ∀{gs:List (Int×List Mn)},gs.Pairwise (fun a b=>a.1<b.1)→kg∈gs→gs.filter (fun x=>decide (x.1=kg.1))=[kg]:=by
   intro gs
   induction gs with
   |nil=>intro _ h;cases h
   |cons x gs ih=>
    intro hp hm
    obtain⟨p1,p2⟩:=List.pairwise_cons.1 hp
    rcases List.mem_cons.1 hm with rfl|hm
    ·rw[List.filter_cons_of_pos (by simp)]
     congr 1
     rw[List.filter_eq_nil_iff]
     intro y hy
     have:=p1 y hy
     simp only[decide_eq_true_eq];omega
    ·have:=p1 kg hm
     rw[List.filter_cons_of_neg (by simp only[decide_eq_true_eq];omega)]
     exact ih p2 hm
  exact main asc hk
 rw[h2]at this
 have h3:=grp_flat (oth l kg.1)
 rw[this]at h3
 simpa using h3
end Go.Opr
end
section
set_option linter.unusedVariables false
set_option linter.unusedSimpArgs false
namespace Go.Opr
open Go.Utf Go.Ent
abbrev Fn:=Int×Int×ByteArray
def cut (s:ByteArray):ByteArray:=s.extract 0 (bd 64 0 (cks s.data.toList))
def rns (s:ByteArray):Int:=((cks s.data.toList).length:Int)
def dg:Nat→Nat→List UInt8
 |0,_=>[]
 |f+1,n=>if n / 10=0 then [UInt8.ofNat (48+n%10)]else dg f (n / 10)++[UInt8.ofNat (48+n%10)]
def dec (n:Int):ByteArray:=⟨(dg 20 n.toNat).toArray⟩
def cntM (g:List Mn):Int:=g.foldl (fun v m=>v+m.2) 0
def aheadP (kind:Int)(a b:ByteArray):Bool:=if kind=31 then bl a b else if kind=32 then !(bl a b||decide (a=b))else decide (rns b<rns a)||(decide (rns a=rns b)&&bl a b)
def redT (kind:Int)(x:ByteArray)(g:List Mn):ByteArray:=g.foldl (fun x m=>if kind=34 then x++m.1.2 else if aheadP kind m.1.2 x=true then m.1.2 else x) x
def red (kind:Int):List Mn→Rc
 | []=>(0,ByteArray.mk #[])
 |m::l=>(m.1.1,cut (redT kind m.1.2 l))
def joinsG (k:Int)(g h:List Mn):List Rc:=g.flatMap fun p=>h.map fun q=>(k,cut ((p.1.2++ByteArray.mk #[43])++q.1.2))
def outG (kind:Int)(f:Fn)(b:List Mn)(kg:Int×List Mn):List Rc:=if kind=7 then [(kg.1,dec (cntM kg.2))]else if kind=8 then [red f.1 kg.2]else joinsG kg.1 kg.2 (oth b kg.1)
def vE:List En→Rc→Int
 | [],_=>0
 |e::l,r=>if kr e=r then num e else vE l r
def meas (f:Fn)(r:Rc):Int:=if f.1=41 then 1 else rns r.2
def tot (f:Fn)(v:Int)(g:List Mn):Int:=g.foldl (fun v m=>min (v+meas f m.1*m.2) 1099511627776) v
abbrev nil8:ByteArray:=ByteArray.mk #[]
def totS (f:Fn)(id:Int)(s:List Rc×List En)(kg:Int×List Mn):List Rc×List En:=
 (s.1++[(kg.1,dec (tot f (vE s.2 (kg.1,nil8)) kg.2))],ins kr (id,kg.1,nil8,tot f (vE s.2 (kg.1,nil8)) kg.2) s.2)
def frS (id:Int)(s:List Rc×List En)(m:Mn):List Rc×List En:=
 if vE s.2 m.1=0 then(s.1++[m.1],ins kr (id,m.1.1,m.1.2,1) s.2)else s
def raw (kind:Int)(f:Fn)(id:Int)(a b:List Mn)(st:List En):List Rc×List En:=
 if kind=7∨kind=8∨kind=9 then((grp a).flatMap (outG kind f b),st)else if kind=11 then(grp a).foldl (totS f id) ([],st)else a.foldl (frS id) ([],st)
def tellP (kind:Int)(f:Fn)(id:Int)(a b:List Mn)(st:List En):List Rc×List En:=(sc (raw kind f id a b st).1,if kind=10 then []else(raw kind f id a b st).2)
theorem vE_none {l:List En}{r:Rc}(h: ∀e,e∈l→kr e≠r):vE l r=0:=by
 induction l with
 |nil=>rfl
 |cons x l ih=>unfold vE;rw[if_neg (h x (List.mem_cons_self ..)),ih fun e he=>h e (List.mem_cons_of_mem _ he)]
theorem vE_mem: ∀{l:List En} {e:En},SK kr l→e∈l→vE l (kr e)=num e
 |x::l,e,h,he=>by
  obtain⟨h1,h2⟩:=List.pairwise_cons.1 h
  unfold vE
  rcases List.mem_cons.1 he with rfl|he
  ·rw[if_pos rfl]
  ·rw[if_neg (rl_ne (h1 e he)),vE_mem h2 he]
theorem vE_ins {e:En}{r:Rc}: ∀{l:List En},SK kr l→vE (ins kr e l) r=if kr e=r then num e else vE l r
 | [],_=>rfl
 |x::l,h=>by
  obtain⟨h1,h2⟩:=List.pairwise_cons.1 h
  unfold ins
  by_cases hk:kr x=kr e
  ·rw[if_pos hk]
   unfold vE
   by_cases hr:kr e=r
   ·rw[if_pos hr,if_pos hr]
   ·rw[if_neg hr,if_neg hr,if_neg (fun h=>hr (hk▸h))]
  ·rw[if_neg hk]
   by_cases hlt:rl (kr e) (kr x)=true
   ·rw[if_pos hlt];rfl
   ·rw[if_neg hlt]
    unfold vE
    rw[vE_ins h2]
    by_cases hx:kr x=r
    ·rw[if_pos hx,if_pos hx,if_neg (fun h=>hk (hx.trans h.symm))]
    ·rw[if_neg hx,if_neg hx]
end Go.Opr
end
section
set_option maxRecDepth 20000
set_option linter.unusedVariables false
set_option linter.unusedSimpArgs false
namespace Go.Proofs.YtbljnlkhebiniaaGreatDoor
open Go.RowKit Go.Graph Go.Utf Go.Ent
def cI (a b:Int):Int:=if a<b then-1 else if b<a then 1 else 0
theorem cmp64_eq (a b:Int):F.cmp_Compare_int64 a b=some (cI a b):=by
 rw[F.cmp_Compare_int64]
 simp only[F.cmp_isNaN_int64,Option.bind_some,ne_eq,not_true,decide_false,Bool.false_eq_true,if_false]
 unfold cI
 by_cases h1:a<b
 ·rw[if_pos h1,if_pos h1]
 ·rw[if_neg h1,if_neg h1]
  by_cases h2:b<a
  ·rw[if_pos h2,if_pos h2]
  ·rw[if_neg h2,if_neg h2]
def cS (a b:ByteArray):Int:=if bl a b=true then-1 else if a=b then 0 else 1
theorem tl_eq {a b:ByteArray}:(a.toList==b.toList)=decide (a=b):=by
 rw[Lib.toList_data,Lib.toList_data]
 by_cases h:a=b
 ·subst h;simp
 ·rw[decide_eq_false h]
  exact beq_eq_false_iff_ne.2 fun e=>h (ba_eq e)
theorem cB_eq: ∀a b:List UInt8,Lib.compareBytes a b=if Op.bytesLess a b=true then-1 else if a=b then 0 else 1
 | [],[]=>rfl
 | [],_::_=>rfl
 |_::_,[]=>by simp[Lib.compareBytes,Op.bytesLess]
 |x::a,y::b=>by
  unfold Lib.compareBytes Op.bytesLess
  by_cases h1:x<y
  ·simp[h1]
  ·by_cases h2:y<x
   ·have hne:x≠y:=fun e=>by subst e;exact h1 h2
    simp[h1,h2,hne]
   ·have e:x=y:=UInt8.le_antisymm (UInt8.not_lt.1 h2) (UInt8.not_lt.1 h1)
    subst e
    rw[if_neg h1,if_neg h1,cB_eq a b]
    simp[h1]
theorem scmp_eq (a b:ByteArray):F.strings_Compare a b=some (cS a b):=by
 rw[F.strings_Compare,cB_eq]
 unfold cS bl
 rw[Lib.toList_data,Lib.toList_data]
 by_cases h:a=b
 ·subst h;simp
 ·have:a.data.toList≠b.data.toList:=fun e=>h (ba_eq e)
  simp[h,this]
theorem or_eq (l:List Int)(hl:l.length≤100):F.cmp_Or_int l=some ((l.find? fun x=>decide (x≠0)).getD 0):=
 A.lp0 l (fun f y=>F.cmp_Or_int_l1 l f y) (fun _ r=>some ((r.find? fun x=>decide (x≠0)).getD 0))
  (fun f=>by rw[F.cmp_Or_int_l1,if_neg (by omega)];rfl)
  (fun f k x hx hk ih=>by
   rw[F.cmp_Or_int_l1,if_pos (by omega),A.ixn hx,Option.bind_some,List.find?_cons]
   by_cases h:x=0
   ·rw[if_neg (fun h2=>h2 h),A.gd1 ⟨by omega,by omega⟩,ih,decide_eq_false (fun h2=>h2 h)]
   ·rw[if_pos h,decide_eq_true h];rfl)
  (by have:=FU_big;omega)
theorem or2 (a b:Int):F.cmp_Or_int [a,b]=some (if a≠0 then a else b):=by
 rw[or_eq _ (by simp)]
 by_cases h:a=0
 ·subst h
  by_cases h2:b=0
  ·subst h2;rfl
  ·simp[h2]
 ·simp[h]
abbrev rec (e:En):Int×ByteArray:=(e.2.1,e.2.2.1)
theorem cS_cases (a b:ByteArray):(bl a b=true∧cS a b= -1)∨(a=b∧bl a b=false∧cS a b=0)∨(a≠b∧bl a b=false∧bl b a=true∧cS a b=1):=by
 unfold cS
 cases h:bl a b with
 |true=>exact .inl ⟨rfl,by simp⟩
 |false=>
  by_cases h2:a=b
  ·exact .inr (.inl ⟨h2,rfl,by simp[h2]⟩)
  ·refine .inr (.inr ⟨h2,rfl,?_,by simp[h2]⟩)
   cases h3:bl b a with
   |true=>rfl
   |false=>exact absurd (bl_tri h h3) h2
theorem cI_cases (a b:Int):(a<b∧cI a b= -1)∨(a=b∧cI a b=0)∨(b<a∧cI a b=1):=by
 unfold cI
 by_cases h:a<b
 ·exact .inl ⟨h,if_pos h⟩
 ·by_cases h2:b<a
  ·exact .inr (.inr ⟨h2,by rw[if_neg h,if_pos h2]⟩)
  ·exact .inr (.inl ⟨by omega,by rw[if_neg h,if_neg h2]⟩)
def cR (a b:Int×ByteArray):Int:=if cI a.1 b.1≠0 then cI a.1 b.1 else cS a.2 b.2
theorem cR_lt (a b:Int×ByteArray):decide (cR a b<0)=rl a b:=by
 unfold cR rl
 rcases cI_cases a.1 b.1 with⟨h,e⟩|⟨h,e⟩|⟨h,e⟩
 ·rw[e];simp[h]
 ·rw[e,h]
  simp only[ne_eq,not_true,if_false,Int.lt_irrefl,decide_false,Bool.false_or,decide_true,Bool.true_and]
  rcases cS_cases a.2 b.2 with⟨h2,e2⟩|⟨h2,h3,e2⟩|⟨h2,h3,h4,e2⟩
  ·rw[e2,h2];rfl
  ·rw[e2,h3];rfl
  ·rw[e2,h3];rfl
 ·rw[e]
  have h1: ¬a.1<b.1:=by omega
  have h2: ¬a.1=b.1:=by omega
  simp[h1,h2]
theorem ahead_eq (a b:En):F.oper_ahead a b=some (rl (rec a) (rec b)):=by
 rw[F.oper_ahead,cmp64_eq,Option.bind_some,scmp_eq,Option.bind_some,or2,Option.bind_some]
 exact congrArg some (cR_lt (rec a) (rec b))
theorem R05_Compare_eq (a b:Int×ByteArray):F.R05_Compare a b=some (cR a b):=by
 rw[F.R05_Compare]
 unfold cR
 rcases cI_cases a.1 b.1 with⟨h,e⟩|⟨h,e⟩|⟨h,e⟩
 ·rw[if_pos h,e];rfl
 ·rw[if_neg (by omega),if_neg (by omega),e]
  simp only[tl_eq]
  unfold cS bl
  by_cases h1:Op.bytesLess a.2.toList b.2.toList=true
  ·rw[if_pos h1,if_pos h1];rfl
  ·rw[if_neg h1,if_neg h1]
   rw[Bool.not_eq_true]at h1
   rw[h1]
   by_cases h2:a.2=b.2
   ·simp[h2]
   ·simp[h2]
 ·rw[if_neg (by omega),if_pos h,e];rfl
def entOk (n:Nd)(x:En):Bool:=
 if x.1≠n.1 then false else if n.2.1=11 then decide (x.2.2.1=ByteArray.mk #[])&&decide (0≤x.2.2.2)&&decide (x.2.2.2≤1099511627776)else if n.2.1=16 then decide (x.2.2.2=1)&&okT x.2.2.1 else false
def stF (n:Nd):Option En→List En→Bool
 |_,[]=>true
 |none,e::l=>entOk n e&&stF n (some e) l
 |some p,e::l=>entOk n e&&rl (rec p) (rec e)&&stF n (some e) l
def stP (n:Nd)(l:List En):Bool:=stF n none l
theorem entry_eq (n:Nd)(x:En):F.oper_entry n x=some (entOk n x):=by
 rw[F.oper_entry]
 unfold entOk
 by_cases h0:x.1=n.1
 ·have h0': ¬(x.1≠n.1):=fun h=>h h0
  rw[if_neg h0',if_neg h0']
  by_cases h1:n.2.1=11
  ·rw[if_pos h1,if_pos h1]
   congr 1
   by_cases a1:x.2.2.1=ByteArray.mk #[]<;>by_cases a2:(0:Int)≤x.2.2.2<;>by_cases a3:x.2.2.2≤1099511627776<;>simp[a1,a2,a3]
  ·rw[if_neg h1,if_neg h1]
   by_cases h2:n.2.1=16
   ·rw[if_pos h2,if_pos h2]
    by_cases h3:x.2.2.2=1
    ·rw[if_pos h3]
     show(F.rec_Check (rec x)).bind _=_
     rw[rec_Check_eq,Option.bind_some,F.oper_entry_j1,decide_eq_true h3,Bool.true_and]
     show some (decide ((if okT x.2.2.1=true then(0:Int)else 50)=0))=_
     cases okT x.2.2.1<;>rfl
    ·rw[if_neg h3,F.oper_entry_j1,decide_eq_false h3];rfl
   ·rw[if_neg h2,if_neg h2]
 ·rw[if_pos h0,if_pos h0]
abbrev prv (l:List En) (k:Nat):Option En:=if k=0 then none else l[k-1]?
theorem prv_s (l:List En)(k:Nat){x:En}(h:l[k]?=some x):prv l (k+1)=some x:=by unfold prv;rw[if_neg (by omega)];exact h
theorem CheckState_eq (n:Nd)(l:List En)(hl:l.length≤9223372036854775807):F.oper_CheckState n l=some (if stP n l=true then 0 else 171):=
 A.lp0 l (fun f y=>F.oper_CheckState_l2 n l f y) (fun k r=>some (if stF n (prv l k) r=true then 0 else 171))
  (fun f=>by
   rw[F.oper_CheckState_l2,if_neg (by omega)]
   cases prv l l.length<;>rfl)
  (fun f k x hx hk ih=>by
   rw[F.oper_CheckState_l2,if_pos (by omega),A.ixn hx,Option.bind_some]
   show(F.oper_entry n x).bind _=_
   rw[prv_s l k hx]at ih
   have nx: ∀b:Bool,F.oper_CheckState_j1 (F.oper_CheckState_l2 n l f) (k:Int) b=some (if(!b&&stF n (some x) (l.drop (k+1)))=true then 0 else 171):=fun b=>by
    rw[F.oper_CheckState_j1]
    cases b with
    |true=>rw[if_pos rfl];rfl
    |false=>rw[if_neg (by simp),A.gd1 ⟨by omega,by omega⟩,ih];rfl
   rw[entry_eq,Option.bind_some]
   by_cases hk0:k=0
   ·subst hk0
    show _=some (if(entOk n x&&stF n (some x) (l.drop (0+1)))=true then 0 else 171)
    cases he:entOk n x with
    |false=>rw[Bool.not_false,if_pos rfl,nx];rfl
    |true=>rw[Bool.not_true,if_neg (by simp),if_neg (by omega),nx];rfl
   ·have hp:prv l k=l[k-1]?:=by unfold prv;rw[if_neg hk0]
    obtain⟨p,hpp⟩: ∃p,l[k-1]?=some p:=⟨_,List.getElem?_eq_getElem (by omega)⟩
    rw[hp,hpp]
    show _=some (if(entOk n x&&rl (rec p) (rec x)&&stF n (some x) (l.drop (k+1)))=true then 0 else 171)
    cases he:entOk n x with
    |false=>rw[Bool.not_false,if_pos rfl,nx];rfl
    |true=>
     rw[Bool.not_true,if_neg (by simp),if_pos (by omega),A.gd1 ⟨by omega,by omega⟩,show(k:Int)-1=((k-1:Nat):Int) by omega,A.ixn hpp,Option.bind_some]
     show(F.oper_ahead p x).bind _=_
     rw[ahead_eq,Option.bind_some,nx,Bool.not_not,Bool.true_and])
  (by have:=FU_big;omega)
theorem stF_all {n:Nd}: ∀{p:Option En} {l:List En},stF n p l=true→∀e,e∈l→entOk n e=true
 |_,[],_,e,h=>by cases h
 |none,x::l,h,e,he=>by
  unfold stF at h
  rw[Bool.and_eq_true]at h
  exact(List.mem_cons.1 he).elim (fun e=>e▸h.1) (stF_all h.2 e)
 |some p,x::l,h,e,he=>by
  unfold stF at h
  rw[Bool.and_eq_true,Bool.and_eq_true]at h
  exact(List.mem_cons.1 he).elim (fun e=>e▸h.1.1) (stF_all h.2 e)
theorem stF_pw {n:Nd}: ∀{p:En} {l:List En},stF n (some p) l=true→(p::l).Pairwise fun a b=>rl (rec a) (rec b)=true
 |p,[],_=>by simp
 |p,x::l,h=>by
  unfold stF at h
  rw[Bool.and_eq_true,Bool.and_eq_true]at h
  have ih:=stF_pw h.2
  exact List.pairwise_cons.2 ⟨fun y hy=>(List.mem_cons.1 hy).elim (fun e=>e▸h.1.2) fun hy=>rl_tr h.1.2 ((List.pairwise_cons.1 ih).1 y hy),ih⟩
theorem stP_iff {n:Nd}{l:List En}:stP n l=true↔(∀e,e∈l→entOk n e=true)∧l.Pairwise fun a b=>rl (rec a) (rec b)=true:=by
 constructor
 ·intro h
  refine⟨stF_all h,?_⟩
  cases l with
  |nil=>exact List.Pairwise.nil
  |cons x l=>
   unfold stP stF at h
   rw[Bool.and_eq_true]at h
   exact stF_pw h.2
 ·rintro⟨h1,h2⟩
  have main: ∀(l:List En) (p:En),(∀e,e∈l→entOk n e=true)→(p::l).Pairwise (fun a b=>rl (rec a) (rec b)=true)→stF n (some p) l=true:=by
   intro l
   induction l with
   |nil=>intro p _ _;rfl
   |cons x l ih=>
    intro p h1 h2
    unfold stF
    rw[h1 x (List.mem_cons_self ..),(List.pairwise_cons.1 h2).1 x (List.mem_cons_self ..),ih x (fun e he=>h1 e (List.mem_cons_of_mem _ he)) (List.pairwise_cons.1 h2).2];rfl
  cases l with
  |nil=>rfl
  |cons x l=>
   unfold stP stF
   rw[h1 x (List.mem_cons_self ..),main l x (fun e he=>h1 e (List.mem_cons_of_mem _ he)) h2];rfl
end Go.Proofs.YtbljnlkhebiniaaGreatDoor
end
section
set_option linter.unusedVariables false
set_option linter.unusedSimpArgs false
namespace Go.Opr
open Go.Utf Go.Ent
def wS (w:Rc→Int):List Mn→Int
 | []=>0
 |m::l=>w m.1*m.2+wS w l
abbrev SM (l:List Mn):Prop:=SK (fun m:Mn=>m.1) l
def frT (id:Int)(st:List En)(m:Mn):List En:=if vE st m.1=0 then ins kr (id,m.1.1,m.1.2,1) st else st
theorem frS_snd (id:Int): ∀(a:List Mn) (s:List Rc×List En),(a.foldl (frS id) s).2=a.foldl (frT id) s.2
 | [],_=>rfl
 |m::a,s=>by
  rw[List.foldl_cons,List.foldl_cons,frS_snd id a]
  congr 1
  unfold frS frT
  split<;>rfl
abbrev St1 (id:Int) (st:List En):Prop:=∀e,e∈st→e.1=id∧num e=1
theorem vE_zero {id:Int}{st:List En}(hs:SK kr st)(h:St1 id st)(r:Rc):vE st r=0↔r∉st.map kr:=by
 constructor
 ·intro h0 hm
  obtain⟨e,he,rfl⟩:=List.mem_map.1 hm
  rw[vE_mem hs he,(h e he).2]at h0;cases h0
 ·intro hn
  exact vE_none fun e he h=>hn (List.mem_map.2 ⟨e,he,h⟩)
theorem frT_ok (id:Int): ∀(a:List Mn) {st:List En},SK kr st→St1 id st→SK kr (a.foldl (frT id) st)∧St1 id (a.foldl (frT id) st)∧∀r,r∈(a.foldl (frT id) st).map kr↔r∈st.map kr∨r∈a.map (·.1)
 | [],st,h,h1=>⟨h,h1,fun r=>by simp⟩
 |m::a,st,h,h1=>by
  have key:SK kr (frT id st m)∧St1 id (frT id st m)∧∀r,r∈(frT id st m).map kr↔r∈st.map kr∨r=m.1:=by
   unfold frT
   by_cases h0:vE st m.1=0
   ·rw[if_pos h0]
    refine⟨ins_sk h,fun e he=>?_,fun r=>?_⟩
    ·rcases(ins_mem h).1 he with rfl|⟨he,_⟩
     ·exact⟨rfl,rfl⟩
     ·exact h1 e he
    ·rw[List.mem_map]
     constructor
     ·rintro⟨e,he,rfl⟩
      rcases(ins_mem h).1 he with rfl|⟨he,_⟩
      ·exact .inr rfl
      ·exact .inl (List.mem_map_of_mem he)
     ·rintro(hr|rfl)
      ·obtain⟨e,he,rfl⟩:=List.mem_map.1 hr
       by_cases hk:kr e=m.1
       ·exact⟨_,(ins_mem h).2 (.inl rfl),hk.symm⟩
       ·exact⟨e,(ins_mem h).2 (.inr ⟨he,hk⟩),rfl⟩
      ·exact⟨_,(ins_mem h).2 (.inl rfl),rfl⟩
   ·rw[if_neg h0]
    refine⟨h,h1,fun r=>⟨.inl,fun hr=>hr.elim (fun h=>h) fun e=>?_⟩⟩
    subst e
    exact Classical.byContradiction fun hn=>h0 ((vE_zero h h1 _).2 hn)
  obtain⟨i1,i2,i3⟩:=frT_ok id a key.1 key.2.1
  refine⟨i1,i2,fun r=>(i3 r).trans ?_⟩
  rw[key.2.2,List.map_cons,List.mem_cons]
  exact⟨fun h=>h.elim (fun h=>h.elim .inl fun h=>.inr (.inl h)) fun h=>.inr (.inr h),fun h=>h.elim (fun h=>.inl (.inl h)) fun h=>h.elim (fun h=>.inl (.inr h)) .inr⟩
def totT (f:Fn)(id:Int)(st:List En)(kg:Int×List Mn):List En:=ins kr (id,kg.1,nil8,tot f (vE st (kg.1,nil8)) kg.2) st
theorem totS_snd (f:Fn)(id:Int): ∀(gs:List (Int×List Mn)) (s:List Rc×List En),(gs.foldl (totS f id) s).2=gs.foldl (totT f id) s.2
 | [],_=>rfl
 |kg::gs,s=>by rw[List.foldl_cons,List.foldl_cons,totS_snd f id gs];rfl
abbrev St2 (id:Int) (st:List En):Prop:=∀e,e∈st→e.1=id∧e.2.2.1=nil8∧0≤num e∧num e≤1099511627776
theorem rns_nn (s:ByteArray):0≤rns s:=by unfold rns;omega
theorem meas_nn (f:Fn)(r:Rc):0≤meas f r:=by unfold meas;split;omega;exact rns_nn _
theorem wS_nn {w:Rc→Int}(hw: ∀r,0≤w r): ∀{l:List Mn},(∀m,m∈l→1≤m.2)→0≤wS w l
 | [],_=>Int.le_refl _
 |m::l,h=>by
  have h1:=wS_nn hw fun m hm=>h m (List.mem_cons_of_mem _ hm)
  have h2:=Int.mul_nonneg (hw m.1) (show 0≤m.2 by have:=h m (List.mem_cons_self ..);omega)
  unfold wS;omega
theorem tot_sum {f:Fn}: ∀{g:List Mn} {v:Int},(∀m,m∈g→1≤m.2)→0≤v→v≤1099511627776→tot f v g=min 1099511627776 (v+wS (meas f) g)
 | [],v,_,h0,h1=>by show v=min 1099511627776 (v+0);omega
 |m::g,v,h,h0,h1=>by
  have h2:=Int.mul_nonneg (meas_nn f m.1) (show 0≤m.2 by have:=h m (List.mem_cons_self ..);omega)
  have h3:=wS_nn (meas_nn f) fun m hm=>h m (List.mem_cons_of_mem _ hm)
  show tot f (min (v+meas f m.1*m.2) 1099511627776) g=min 1099511627776 (v+(meas f m.1*m.2+wS (meas f) g))
  rw[tot_sum (fun m hm=>h m (List.mem_cons_of_mem _ hm)) (by omega) (by omega)]
  omega
theorem tot_app (f:Fn)(v:Int)(g h:List Mn):tot f v (g++h)=tot f (tot f v g) h:=List.foldl_append ..
theorem tot_rng {f:Fn}{g:List Mn}{v:Int}(h: ∀m,m∈g→1≤m.2)(h0:0≤v)(h1:v≤1099511627776):0≤tot f v g∧tot f v g≤1099511627776:=by
 rw[tot_sum h h0 h1]
 have:=wS_nn (meas_nn f) h
 omega
theorem vE_rng {id:Int}{st:List En}(h:St2 id st)(r:Rc):0≤vE st r∧vE st r≤1099511627776:=by
 induction st with
 |nil=>exact⟨Int.le_refl _,(by decide:(0:Int)≤1099511627776)⟩
 |cons x st ih=>
  unfold vE
  split
  ·exact(h x (List.mem_cons_self ..)).2.2
  ·exact ih fun e he=>h e (List.mem_cons_of_mem _ he)
theorem totT_ok (f:Fn)(id:Int): ∀(gs:List (Int×List Mn)) {st:List En},SK kr st→St2 id st→(∀kg,kg∈gs→∀m,m∈kg.2→1≤m.2)→
  SK kr (gs.foldl (totT f id) st)∧St2 id (gs.foldl (totT f id) st)∧(∀r,r∈(gs.foldl (totT f id) st).map kr↔r∈st.map kr∨∃kg,kg∈gs∧r=(kg.1,nil8))∧∀k,vE (gs.foldl (totT f id) st) (k,nil8)=tot f (vE st (k,nil8)) ((gs.filter fun kg=>decide (kg.1=k)).flatMap (·.2))
 | [],st,h,h1,_=>⟨h,h1,fun r=>by simp,fun k=>rfl⟩
 |kg::gs,st,h,h1,hp=>by
  have hv:=vE_rng h1 (kg.1,nil8)
  have ht:=tot_rng (f:=f) (hp kg (List.mem_cons_self ..)) hv.1 hv.2
  have k1:SK kr (totT f id st kg):=ins_sk h
  have k2:St2 id (totT f id st kg):=fun e he=>by
   rcases(ins_mem h).1 he with rfl|⟨he,_⟩
   ·exact⟨rfl,rfl,ht⟩
   ·exact h1 e he
  obtain⟨i1,i2,i3,i4⟩:=totT_ok f id gs k1 k2 fun kg hk=>hp kg (List.mem_cons_of_mem _ hk)
  refine⟨i1,i2,fun r=>(i3 r).trans ?_,fun k=>(i4 k).trans ?_⟩
  ·constructor
   ·rintro(hr|⟨kg',hk,rfl⟩)
    ·obtain⟨e,he,rfl⟩:=List.mem_map.1 hr
     rcases(ins_mem h).1 he with rfl|⟨he,_⟩
     ·exact .inr ⟨kg,List.mem_cons_self ..,rfl⟩
     ·exact .inl (List.mem_map_of_mem he)
    ·exact .inr ⟨kg',List.mem_cons_of_mem _ hk,rfl⟩
   ·rintro(hr|⟨kg',hk,rfl⟩)
    ·obtain⟨e,he,rfl⟩:=List.mem_map.1 hr
     refine .inl (List.mem_map.2 ?_)
     by_cases hke:kr e=(kg.1,nil8)
     ·exact⟨_,(ins_mem h).2 (.inl rfl),hke.symm⟩
     ·exact⟨e,(ins_mem h).2 (.inr ⟨he,hke⟩),rfl⟩
    ·rcases List.mem_cons.1 hk with rfl|hk
     ·exact .inl (List.mem_map.2 ⟨_,(ins_mem h).2 (.inl rfl),rfl⟩)
     ·exact .inr ⟨kg',hk,rfl⟩
  ·have e:=vE_ins (e:=((id,kg.1,nil8,tot f (vE st (kg.1,nil8)) kg.2):En)) (r:=(k,nil8)) h
   show tot f (vE (ins kr _ st) (k,nil8)) _=_
   rw[e,List.filter_cons]
   by_cases hk:kg.1=k
   ·subst hk
    rw[if_pos (show kr (id,kg.1,nil8,_)=(kg.1,nil8)from rfl),if_pos (decide_eq_true rfl),List.flatMap_cons,tot_app]
   ·rw[if_neg (show ¬kr (id,kg.1,nil8,_)=(k,nil8)from fun h=>hk (congrArg Prod.fst h)),if_neg (by simpa using hk)]
theorem grp_pos {a:List Mn}(h: ∀m,m∈a→1≤m.2): ∀kg,kg∈grp a→∀m,m∈kg.2→1≤m.2:=fun kg hk m hm=>h m (grp_sub hk m hm)
end Go.Opr
end
section
set_option maxRecDepth 20000
set_option linter.unusedVariables false
set_option linter.unusedSimpArgs false
namespace Go.Proofs.YtbljnlkhebiniaaGreatDoor
open Go.RowKit Go.Graph Go.Utf Go.Ent Go.Opr
theorem rec_Compare_eq (a b:Rc):F.rec_Compare a b=some (cR a b):=by
 rw[F.rec_Compare,cmp64_eq,Option.bind_some,scmp_eq,Option.bind_some,or2,Option.bind_some];rfl
theorem cR_ge (a b:Rc):decide ((0:Int)≤cR a b)= !rl a b:=by
 have:=cR_lt a b
 cases h:rl a b with
 |true=>rw[h]at this;have:=of_decide_eq_true this;simp;omega
 |false=>rw[h]at this;have:=of_decide_eq_false this;simp;omega
def bagF:Option Mn→List Mn→Bool
 |_,[]=>true
 |none,m::l=>decide (1≤m.2)&&decide (m.2≤1048576)&&bagF (some m) l
 |some p,m::l=>decide (1≤m.2)&&decide (m.2≤1048576)&&rl p.1 m.1&&bagF (some m) l
def chkB (l:List Mn):Int:=if(l.any fun m=> !okT m.1.2)=true then 50 else if bagF none l=true then 0 else 51
structure Bag (l:List Mn):Prop where
 txt: ∀m,m∈l→okT m.1.2=true
 one: ∀m,m∈l→1≤m.2
 top: ∀m,m∈l→m.2≤1048576
 srt:SM l
theorem bagF_some: ∀{l:List Mn} {p:Mn},bagF (some p) l=true↔(∀m,m∈l→1≤m.2∧m.2≤1048576)∧SM (p::l)
 | [],p=>by simp[bagF]
 |m::l,p=>by
  unfold bagF
  simp only[Bool.and_eq_true,decide_eq_true_eq,bagF_some]
  constructor
  ·rintro⟨⟨⟨h1,h2⟩,h3⟩,h4,h5⟩
   refine⟨fun x hx=>(List.mem_cons.1 hx).elim (fun e=>e▸⟨h1,h2⟩) (h4 x),?_⟩
   exact List.pairwise_cons.2 ⟨fun y hy=>(List.mem_cons.1 hy).elim (fun e=>e▸h3) fun hy=>rl_tr h3 ((List.pairwise_cons.1 h5).1 y hy),h5⟩
  ·rintro⟨h1,h2⟩
   obtain⟨h3,h4⟩:=List.pairwise_cons.1 h2
   have:=h1 m (List.mem_cons_self ..)
   exact⟨⟨⟨this.1,this.2⟩,h3 m (List.mem_cons_self ..)⟩,fun x hx=>h1 x (List.mem_cons_of_mem _ hx),h4⟩
theorem bagF_none {l:List Mn}:bagF none l=true↔(∀m,m∈l→1≤m.2∧m.2≤1048576)∧SM l:=by
 cases l with
 |nil=>simp[bagF]
 |cons m l=>
  unfold bagF
  simp only[Bool.and_eq_true,decide_eq_true_eq,bagF_some]
  constructor
  ·rintro⟨h1,h2,h3⟩
   exact⟨fun x hx=>(List.mem_cons.1 hx).elim (fun e=>e▸h1) (h2 x),h3⟩
  ·rintro⟨h1,h2⟩
   exact⟨h1 m (List.mem_cons_self ..),fun x hx=>h1 x (List.mem_cons_of_mem _ hx),h2⟩
theorem chkB_iff {l:List Mn}:chkB l=0↔Bag l:=by
 unfold chkB
 by_cases h:(l.any fun m=> !okT m.1.2)=true
 ·rw[if_pos h]
  refine⟨fun h=>(by cases h),fun hb=>?_⟩
  obtain⟨m,hm,h2⟩:=List.any_eq_true.1 h
  rw[hb.txt m hm]at h2;cases h2
 ·rw[if_neg h]
  have ht: ∀m,m∈l→okT m.1.2=true:=fun m hm=>by
   cases ho:okT m.1.2 with
   |true=>rfl
   |false=>exact absurd (List.any_eq_true.2 ⟨m,hm,by rw[ho];rfl⟩) h
  by_cases h2:bagF none l=true
  ·rw[if_pos h2]
   obtain⟨h3,h4⟩:=bagF_none.1 h2
   exact⟨fun _=>⟨ht,fun m hm=>(h3 m hm).1,fun m hm=>(h3 m hm).2,h4⟩,fun _=>rfl⟩
  ·rw[if_neg h2]
   exact⟨fun h=>(by cases h),fun hb=>absurd (bagF_none.2 ⟨fun m hm=>⟨hb.one m hm,hb.top m hm⟩,hb.srt⟩) h2⟩
theorem Bag.sub {l m:List Mn}(h:Bag l)(hs:m.Sublist l):Bag m:=
 ⟨fun x hx=>h.txt x (hs.subset hx),fun x hx=>h.one x (hs.subset hx),fun x hx=>h.top x (hs.subset hx),h.srt.sublist hs⟩
theorem Bag.kl {l:List Mn}(h:Bag l):KL l:=KL.of h.srt
abbrev prvM (l:List Mn) (k:Nat):Option Mn:=if k=0 then none else l[k-1]?
theorem prvM_s (l:List Mn)(k:Nat){x:Mn}(h:l[k]?=some x):prvM l (k+1)=some x:=by unfold prvM;rw[if_neg (by omega)];exact h
theorem rec_CheckBag_eq (l:List Mn)(hl:l.length≤maxLen):F.rec_CheckBag l=some (chkB l):=by
 have idx:F.slices_IndexFunc_api_Many_api_Many_rec_CheckBag_1 l=some (if(l.any fun m=> !okT m.1.2)=true then((l.findIdx fun m=> !okT m.1.2:Nat):Int)else-1):=by
  have:=A.lp0 l (fun f y=>F.slices_IndexFunc_api_Many_api_Many_rec_CheckBag_1_l1 l f y) (fun k r=>some (if(r.any fun m=> !okT m.1.2)=true then((k+r.findIdx fun m=> !okT m.1.2:Nat):Int)else-1))
   (fun f=>by rw[F.slices_IndexFunc_api_Many_api_Many_rec_CheckBag_1_l1,if_neg (by omega)];rfl)
   (fun f k x hx hk ih=>by
    rw[F.slices_IndexFunc_api_Many_api_Many_rec_CheckBag_1_l1,if_pos (by omega),A.ixn hx,Option.bind_some,F.rec_CheckBag_1]
    show(Option.bind (Option.bind (F.rec_Check x.1) _) _)=_
    rw[rec_Check_eq,Option.bind_some,Option.bind_some]
    cases ho:okT x.1.2 with
    |true=>
     rw[if_pos rfl,if_neg (by decide),A.gd1 ⟨by omega,by unfold maxLen at hl;omega⟩,ih,List.any_cons,List.findIdx_cons,ho]
     simp only[Bool.not_true,Bool.false_or,cond_false]
     congr 2
     apply congrArg
     omega
    |false=>
     rw[if_pos (by decide),List.any_cons,List.findIdx_cons,ho];simp)
   (by have:=FU_big;unfold maxLen at hl;omega)
  rw[F.slices_IndexFunc_api_Many_api_Many_rec_CheckBag_1]
  rw[this];simp
 rw[F.rec_CheckBag,F.slices_ContainsFunc_api_Many_api_Many_rec_CheckBag_1,idx,Option.bind_some,Option.bind_some]
 unfold chkB
 by_cases h:(l.any fun m=> !okT m.1.2)=true
 ·rw[if_pos h,if_pos h,if_pos (decide_eq_true (by omega))]
 ·rw[if_neg h,if_neg h,if_neg (by simp)]
  exact A.lp0 l (fun f y=>F.rec_CheckBag_l2 l f y) (fun k r=>some (if bagF (prvM l k) r=true then 0 else 51))
   (fun f=>by rw[F.rec_CheckBag_l2,if_neg (by omega)];cases prvM l l.length<;>rfl)
   (fun f k x hx hk ih=>by
    rw[F.rec_CheckBag_l2,if_pos (by omega),A.ixn hx,Option.bind_some]
    rw[prvM_s l k hx]at ih
    have nx: ∀b:Bool,F.rec_CheckBag_j1 (F.rec_CheckBag_l2 l f) (k:Int) b=some (if(!b&&bagF (some x) (l.drop (k+1)))=true then 0 else 51):=fun b=>by
     rw[F.rec_CheckBag_j1]
     cases b with
     |true=>rw[if_pos rfl];rfl
     |false=>rw[if_neg (by simp),A.gd1 ⟨by omega,by unfold maxLen at hl;omega⟩,ih];rfl
    have hb:(bif decide (x.2<1)then true else decide ((1048576:Int)<x.2))= !(decide (1≤x.2)&&decide (x.2≤1048576)):=by
     by_cases h1:x.2<1<;>by_cases h2:(1048576:Int)<x.2<;>simp[h1,h2]<;>omega
    rw[hb]
    by_cases hk0:k=0
    ·subst hk0
     show _=some (if(decide (1≤x.2)&&decide (x.2≤1048576)&&bagF (some x) (l.drop (0+1)))=true then 0 else 51)
     cases he:(decide (1≤x.2)&&decide (x.2≤1048576))with
     |false=>rw[Bool.not_false,if_pos rfl,nx];rfl
     |true=>rw[Bool.not_true,if_neg (by simp),if_neg (by omega),nx];rfl
    ·have hp:prvM l k=l[k-1]?:=by unfold prvM;rw[if_neg hk0]
     obtain⟨p,hpp⟩: ∃p,l[k-1]?=some p:=⟨_,List.getElem?_eq_getElem (by omega)⟩
     rw[hp,hpp]
     show _=some (if(decide (1≤x.2)&&decide (x.2≤1048576)&&rl p.1 x.1&&bagF (some x) (l.drop (k+1)))=true then 0 else 51)
     cases he:(decide (1≤x.2)&&decide (x.2≤1048576))with
     |false=>rw[Bool.not_false,if_pos rfl,nx];rfl
     |true=>
      rw[Bool.not_true,if_neg (by simp),if_pos (by omega),A.gd1 ⟨by omega,by unfold maxLen at hl;omega⟩,show(k:Int)-1=((k-1:Nat):Int) by omega,A.ixn hpp,Option.bind_some]
      show(F.rec_Compare p.1 x.1).bind _=_
      rw[rec_Compare_eq,Option.bind_some,nx,cR_ge,Bool.not_not,Bool.true_and])
   (by have:=FU_big;unfold maxLen at hl;omega)
theorem times_eq (g:List Mn)(hl:g.length≤1000)(h1: ∀m,m∈g→1≤m.2)(h2: ∀m,m∈g→m.2≤1048576):F.oper_times g=some (cntM g)∧0≤cntM g∧cntM g≤g.length*1048576:=by
 have rng: ∀(l:List Mn) (v:Int),(∀m,m∈l→1≤m.2)→(∀m,m∈l→m.2≤1048576)→v≤l.foldl (fun v m=>v+m.2) v∧l.foldl (fun v m=>v+m.2) v≤v+l.length*1048576:=by
  intro l
  induction l with
  |nil=>intro v _ _;simp
  |cons x l ih=>
   intro v h1 h2
   have:=ih (v+x.2) (fun m hm=>h1 m (List.mem_cons_of_mem _ hm)) (fun m hm=>h2 m (List.mem_cons_of_mem _ hm))
   have a1:=h1 x (List.mem_cons_self ..)
   have a2:=h2 x (List.mem_cons_self ..)
   rw[List.foldl_cons,List.length_cons]
   omega
 refine⟨?_,(rng g 0 h1 h2).1,by have:=(rng g 0 h1 h2).2;unfold cntM;omega⟩
 exact A.lp g (fun f s y=>F.oper_times_l1 g f s y) (fun k r s=>some (r.foldl (fun v m=>v+m.2) s)) (fun k s=>0≤s∧s≤k*1048576)
  (fun f s hp=>by show F.oper_times_l1 g (f+1) s _=_;rw[F.oper_times_l1,if_neg (by omega)];rfl)
  (fun f s k x hx hk hp ih=>by
   have a1:=h1 x (List.mem_of_getElem? hx)
   have a2:=h2 x (List.mem_of_getElem? hx)
   show F.oper_times_l1 g (f+1) s _=_
   rw[F.oper_times_l1,if_pos (by omega),A.ixn hx,Option.bind_some,A.gd1 ⟨by omega,by omega⟩,A.gd1 ⟨by omega,by omega⟩]
   exact ih (s+x.2) ⟨by omega,by omega⟩)
  (by have:=FU_big;omega) 0 ⟨by omega,by omega⟩
theorem number_l (f:Nat): ∀(at_ n:Nat) (xs:List UInt8),n<10^at_→1≤at_→at_≤20→at_<f→xs.length=20→n<9223372036854775808→F.oper_number_l1 f xs (n:Int) (at_:Int)=some ⟨(dg at_ n++xs.drop at_).toArray⟩:=by
 induction f with
 |zero=>intro a n xs _ _ _ h;omega
 |succ f ih=>
  intro a n xs hn h1 h20 hf hx hb
  obtain⟨a,rfl⟩: ∃b,a=b+1:=⟨a-1,by omega⟩
  have tm:Int.tmod (n:Int) 10=((n%10:Nat):Int):=by rw[Int.tmod_eq_emod_of_nonneg (by omega)];rfl
  have td:Int.tdiv (n:Int) 10=((n / 10:Nat):Int):=by rw[Int.tdiv_eq_ediv_of_nonneg (by omega)];rfl
  have eb:A.b8 (48+((n%10:Nat):Int))=UInt8.ofNat (48+n%10):=by
   unfold A.b8
   congr 1
   omega
  have e1:((a+1:Nat):Int)-1=(a:Int):=by omega
  rw[F.oper_number_l1,A.gd1 ⟨by omega,by omega⟩,tm,A.gd1 ⟨by decide,by omega,by omega⟩,A.gd1 hx.symm,e1,A.ixn (x:=xs[a]) (List.getElem?_eq_getElem (by omega)),Option.bind_some,td,A.gd1 ⟨by decide,by omega,by omega⟩,eb,Int.toNat_natCast]
  have hd:(xs.set a (UInt8.ofNat (48+n%10))).drop a=UInt8.ofNat (48+n%10)::xs.drop (a+1):=by
   rw[A.dropx (k:=a) (x:=UInt8.ofNat (48+n%10)) (by rw[List.getElem?_set_self (by omega)]),List.drop_set_of_lt (by omega)]
  by_cases h0:n / 10=0
  ·rw[if_pos (by omega),A.gd1 (by rw[List.length_set];exact hx.symm),A.gd1 ⟨by omega,by rw[List.length_set];omega⟩,hd,dg,if_pos h0];rfl
  ·have ha:1≤a:=by
    cases a with
    |zero=>simp at hn;omega
    |succ a=>omega
   have hp:n / 10<10^a:=by rw[Nat.div_lt_iff_lt_mul (by omega)];rw[Nat.pow_succ]at hn;exact hn
   rw[if_neg (by omega),ih a (n / 10) _ hp ha (by omega) (by omega) (by rw[List.length_set];exact hx) (by omega),hd,dg,if_neg h0]
   simp
theorem number_dec (n:Int)(h0:0≤n)(h1:n<9223372036854775808):F.oper_number n=some (dec n):=by
 obtain⟨k,rfl⟩: ∃k:Nat,n=k:=⟨n.toNat,by omega⟩
 have hk:k<10^20:=Nat.lt_of_lt_of_le (show k<9223372036854775808 by omega) (by decide)
 have:=number_l A.FU 20 k (List.replicate 20 (0:UInt8)) hk (by omega) (by omega) (by have:=FU_big;omega) (by simp) (by omega)
 rw[F.oper_number]
 refine this.trans ?_
 unfold dec
 rw[Int.toNat_natCast]
 simp
theorem Keys_ok {l:List Mn}(h:Bag l)(hl:l.length≤1000):F.oper_Keys l=some l:=by
 rw[F.oper_Keys,rec_CheckBag_eq l (by unfold maxLen;omega),Option.bind_some,chkB_iff.2 h,if_neg (by simp),F.oper_Keys_j1,F.slices_Clone_api_Many_api_Many,A.gd1 (by simp;omega),Option.bind_some];rfl
theorem grp_run: ∀(g:List Mn) (m:Mn) (r:List Mn),(∀x,x∈g→x.1.1=m.1.1)→(∀x,r.head?=some x→x.1.1≠m.1.1)→grp (m::g++r)=(m.1.1,m::g)::grp r
 | [],m,r,_,hr=>by
  rw[List.singleton_append,grp_cons]
  rcases grp_head r with⟨rfl,h⟩|⟨m',t,g',r',rfl,h⟩
  ·rw[h]
  ·rw[h]
   simp only[if_neg (fun e:m.1.1=m'.1.1=>hr m' rfl e.symm)]
 |x::g,m,r,hg,hr=>by
  have hx:=hg x (List.mem_cons_self ..)
  rw[List.cons_append,grp_cons,grp_run g x r (fun y hy=>(hg y (List.mem_cons_of_mem _ hy)).trans hx.symm) (fun y hy=>by rw[hx];exact hr y hy)]
  simp only[hx,if_true]
theorem Keys_it (b:List Mn)(hl:b.length≤1000):F.oper_Keys_1_it b=some (grp b):=by
 have hFU:=FU_big
 have main: ∀(n p f:Nat),b.length-p≤n→n<f→F.oper_Keys_1_it_l3 b f (p:Int)=some (grp (b.drop p)):=by
  intro n
  induction n with
  |zero=>
   intro p f hp hf
   obtain⟨f,rfl⟩: ∃f',f=f'+1:=⟨f-1,by omega⟩
   rw[F.oper_Keys_1_it_l3,if_neg (by omega),List.drop_eq_nil_of_le (by omega)];rfl
  |succ n ih=>
   intro p f hp hf
   obtain⟨f,rfl⟩: ∃f',f=f'+1:=⟨f-1,by omega⟩
   rw[F.oper_Keys_1_it_l3]
   by_cases hlt:p<b.length
   ·rw[if_pos (by omega)]
    obtain⟨m,hm⟩: ∃m,b[p]?=some m:=⟨_,List.getElem?_eq_getElem hlt⟩
    have scan: ∀(q t g:Nat),t+q=b.length→p<t→q<g→(∀i,p≤i→i<t→∀y,b[i]?=some y→y.1.1=m.1.1)→F.oper_Keys_1_it_l2 (F.oper_Keys_1_it_l3 b f) b (p:Int) g (t:Int)=some (grp (b.drop p)):=by
     have stop: ∀(t:Nat) (k4:Int→Option (List (Int×List Mn))),p<t→t≤b.length→(∀i,p≤i→i<t→∀y,b[i]?=some y→y.1.1=m.1.1)→(∀x,(b.drop t).head?=some x→x.1.1≠m.1.1)→F.oper_Keys_1_it_j1 (F.oper_Keys_1_it_l3 b f) k4 b (p:Int) (t:Int) false=some (grp (b.drop p)):=by
      intro t k4 hpt htl hall hne
      rw[F.oper_Keys_1_it_j1,if_neg (by simp),A.ixn hm,Option.bind_some,A.gd1 ⟨by omega,by omega,by omega⟩,F.slices_Clone_api_Many_api_Many,Int.toNat_natCast,Int.toNat_natCast,A.gd1 (by simp;omega),Option.bind_some,ih t f (by omega) (by omega)]
      have e1:(b.take t).drop p=m::(b.take t).drop (p+1):=A.dropx (by rw[List.getElem?_take_of_lt hpt];exact hm)
      have e2:b.drop p=(b.take t).drop p++b.drop t:=by
       have h1:=List.take_append_drop t b
       conv=>lhs;rw[←h1]
       rw[List.drop_append_of_le_length (by rw[List.length_take];omega)]
      have:=grp_run ((b.take t).drop (p+1)) m (b.drop t) (fun x hx=>by
       obtain⟨i,hi⟩:=List.getElem?_of_mem hx
       rw[List.getElem?_drop]at hi
       have hi2:p+1+i<(b.take t).length:=(List.getElem?_eq_some_iff.1 hi).1
       rw[List.length_take]at hi2
       rw[List.getElem?_take_of_lt (by omega)]at hi
       exact hall (p+1+i) (by omega) (by omega) x hi) hne
      rw[e2,e1]
      show A.cns _ (some _)=some (grp (m::(b.take t).drop (p+1)++b.drop t))
      rw[this];rfl
     intro q
     induction q with
     |zero=>
      intro t g htq hpt hg hall
      obtain⟨g,rfl⟩: ∃f',g=f'+1:=⟨g-1,by omega⟩
      rw[F.oper_Keys_1_it_l2,if_neg (by omega)]
      exact stop t _ hpt (by omega) hall fun x hx=>by rw[List.drop_eq_nil_of_le (by omega)]at hx;cases hx
     |succ q ihq=>
      intro t g htq hpt hg hall
      obtain⟨g,rfl⟩: ∃f',g=f'+1:=⟨g-1,by omega⟩
      obtain⟨x,hx⟩: ∃m,b[t]?=some m:=⟨_,List.getElem?_eq_getElem (by omega)⟩
      rw[F.oper_Keys_1_it_l2,if_pos (by omega),A.ixn hx,Option.bind_some,A.ixn hm,Option.bind_some]
      by_cases he:x.1.1=m.1.1
      ·rw[decide_eq_true he,F.oper_Keys_1_it_j1,if_pos rfl,A.gd1 ⟨by omega,by omega⟩,show(t:Int)+1=((t+1:Nat):Int) by omega]
       exact ihq (t+1) g (by omega) (by omega) (by omega) fun i h1 h2 y hy=>by
        by_cases hi:i<t
        ·exact hall i h1 hi y hy
        ·obtain rfl:i=t:=by omega
         rw[hx]at hy;rw[←Option.some.inj hy];exact he
      ·rw[decide_eq_false he]
       exact stop t _ hpt (by omega) hall fun y hy=>by
        rw[List.head?_drop,hx]at hy
        rw[←Option.some.inj hy];exact he
    obtain⟨F',hF'⟩: ∃F',A.FU=F'+1:=⟨A.FU-1,by omega⟩
    rw[hF',F.oper_Keys_1_it_l2,if_pos (by omega),A.ixn hm,Option.bind_some,Option.bind_some,decide_eq_true rfl,F.oper_Keys_1_it_j1,if_pos rfl,A.gd1 ⟨by omega,by omega⟩,show(p:Int)+1=((p+1:Nat):Int) by omega]
    exact scan (b.length-(p+1)) (p+1) F' (by omega) (by omega) (by omega) fun i h1 h2 y hy=>by
     obtain rfl:i=p:=by omega
     rw[hm]at hy;rw[←Option.some.inj hy]
   ·rw[if_neg (by omega),List.drop_eq_nil_of_le (by omega)];rfl
 have:=main b.length 0 A.FU (by omega) (by omega)
 rw[F.oper_Keys_1_it]
 exact this
end Go.Proofs.YtbljnlkhebiniaaGreatDoor
end
