/- Functions on data, and that the code computes them. * Functions on data that only the plain law names: what the reference would answer. * A layer over the small logic, continued: where a law's walk begins. No program in sight. * Plain law of graphs: what the reference and the program say of graphs, as functions on data (no program in sight). * Plain: rounds by a count of steps are recursion over a list. * Plain: a text's bytes by the model's decoder. * Plain: what a text's bytes are, by the reference and by the model's decoder. * Plain: functions of nodes may be; a node for itself. * Plain: a text as runes, each with its bytes. No program in sight. * Plain: a text's runes by the program and by the reference; texts cut. * Plain: texts of records, by the program and by the reference. * Plain: entries in order, by node, key and text; what they add up to. No program in sight. * Plain: records and entries in order, groups by key, what a node that holds makes of them. No program in sight. * Plain: what a node that holds makes of all of a time: by keys, one time behind the other. No program in sight. * Plain: records and entries held against one another; states, by the program and by the reference. -/
import Derived.Test.YtbljnlkhebiniaaDoorM0
import Derived.Test.YtbljnlkhebiniaaDoorM1
import Derived.Test.YtbljnlkhebiniaaDoorM2
import Derived.Lib.IndexMore
import Derived.Lib.TrimUEq
import Derived.Lib.MapLaws
import Derived.Lib.ValidU
import Derived.Laws.Cover4
section
set_option linter.unusedVariables false
set_option linter.unusedSimpArgs false
set_option maxRecDepth 20000
set_option maxHeartbeats 8000000
set_option synthInstance.maxSize 1000000
set_option synthInstance.maxHeartbeats 400000
namespace Go.Proofs.YtbljnlkhebiniaaDoor
open Go.RowKit
def F.fn_both (a0:Int)(a1:D23)(a2:D45):Option Int:=(F.fn_Check a0 (a1.1,a1.2.1,a1.2.2)).bind fun r3=>(if r3≠0 then(some r3)else((F.rec_Check (a2.1,a2.2)).bind fun r6=>(some r6)))
theorem fn_both_ok (a0:Int)(a1:D23)(a2:D45)(h0_:IntKind.i64.has a0)(h1_:IntKind.i64.has a1.1)(h2_:IntKind.i64.has a1.2.1)(h3_:a1.2.2.size≤maxLen)(h4_:IntKind.i64.has a2.1)(h5_:a2.2.size≤maxLen)(r:Int)(hF:F.fn_both a0 a1 a2=some r):
    A.Ct Tryd.prog 82 [.int .i64 a0,.agg #[.int .i64 a1.1,.int .i64 a1.2.1,.string a1.2.2],.agg #[.int .i64 a2.1,.string a2.2]] [(0,.el none 1 0 A.tabF),(1,.el none 2 0 A.tabA)] [] (fun v H'=>v=.int .i64 r∧H'=[]∧IntKind.i64.has r):=by
 refine A.Ct.enter Tryd.func82 rfl Tryd.ntmps82 rfl fun w0 F0=>?_
 rw[F.fn_both]at hF
 refine A.xl 1 ?_
 refine A.AL.box 2 (cs:=[.int .i64 a1.1,.int .i64 a1.2.1,.string a1.2.2]) fun g1=>?_
 refine A.AL.box 3 (cs:=[.int .i64 a2.1,.string a2.2]) fun g2=>?_
 refine A.q0 [] [] [.n] [] ?_
 refine A.dl 3 ?_
 refine A.q0 [2] [] [.n,.b 0 0] [(8,.int .i64 a0),(9,.agg #[.int .i64 a1.1,.int .i64 a1.2.1,.string a1.2.2])] ?_
 obtain⟨r3,hv4,hF⟩:=A.bd_some hF
 refine A.AL.call 4 [] (first:=[]) (cap:=[]) cf35 (fn_Check_ok a0 (a1.1,a1.2.1,a1.2.2) h0_ h1_ h2_ h3_ r3 hv4) (.s 0 (.s 1 .nil)) ?_
 rintro _ _ ⟨rfl,rfl,hr5⟩
 refine⟨by kernel_rfl,?_⟩
 refine A.q0 [] [] [.n] [(7,.int .i64 r3)] ?_
 refine A.dl 2 ?_
 refine A.q0 [] [] [.n,.n] [(12,.bool (decide (r3≠0)))] ?_
 refine A.dx 1 ?_
 refine A.AX.cnd rfl hF (fun hb hF=>?_) (fun hb hF=>?_)
 ·refine A.xl 1 ?_
  refine A.q0 [] [] [.n,.n] [(6,.int .i64 r3)] ?_
  refine A.dx 1 ?_
  obtain rfl:=Option.some.inj hF
  exact A.rt1 [] ⟨rfl,rfl,hr5⟩
 refine A.xl 3 ?_
 refine A.q0 [3] [] [.b 0 0] [(14,.agg #[.int .i64 a2.1,.string a2.2])] ?_
 obtain⟨r6,hv7,hF⟩:=A.bd_some hF
 refine A.AL.call 44 [] (first:=[]) (cap:=[]) cf75 (rec_Check_ok (a2.1,a2.2) h4_ h5_ r6 hv7) (.s 0 (.s 1 .nil)) ?_
 rintro _ _ ⟨rfl,rfl,hr8⟩
 refine⟨by kernel_rfl,?_⟩
 refine A.q0 [] [] [.n] [(6,.int .i64 r6)] ?_
 refine A.dx 1 ?_
 obtain rfl:=Option.some.inj hF
 exact A.rt1 [] ⟨rfl,rfl,hr8⟩
def F.fn_Measure (a0:D23)(a1:D45):Option (Int×Int):=(F.fn_both 11 (a0.1,a0.2.1,a0.2.2) (a1.1,a1.2)).bind fun r3=>(if r3≠0 then(some (0,r3))else(if a0.1=41 then(some (1,0))else((F.fn_runes a1.2).bind fun r6=>(some (((r6).length:Int),0)))))
theorem fn_Measure_ok (a0:D23)(a1:D45)(h0_:IntKind.i64.has a0.1)(h1_:IntKind.i64.has a0.2.1)(h2_:a0.2.2.size≤maxLen)(h3_:IntKind.i64.has a1.1)(h4_:a1.2.size≤maxLen)(r:Int×Int)(hF:F.fn_Measure a0 a1=some r):
    A.Ct Tryd.prog 44 [.agg #[.int .i64 a0.1,.int .i64 a0.2.1,.string a0.2.2],.agg #[.int .i64 a1.1,.string a1.2]] [(0,.el none 1 0 A.tabF),(1,.el none 2 0 A.tabA)] [] (fun v H'=>v=.tuple #[.int .i64 r.1,.int .i64 r.2]∧H'=[]∧IntKind.i64.has r.1∧IntKind.i64.has r.2):=by
 refine A.Ct.enter Tryd.func44 rfl Tryd.ntmps44 rfl fun w0 F0=>?_
 rw[F.fn_Measure]at hF
 refine A.xl 1 ?_
 refine A.AL.box 2 (cs:=[.int .i64 a0.1,.int .i64 a0.2.1,.string a0.2.2]) fun g1=>?_
 refine A.AL.box 3 (cs:=[.int .i64 a1.1,.string a1.2]) fun g2=>?_
 refine A.q0 [] [] [.n,.n] [] ?_
 refine A.dl 3 ?_
 refine A.q0 [2,3] [] [.b 0 0,.b 1 0] [(7,.agg #[.int .i64 a0.1,.int .i64 a0.2.1,.string a0.2.2]),(8,.agg #[.int .i64 a1.1,.string a1.2])] ?_
 obtain⟨r3,hv4,hF⟩:=A.bd_some hF
 refine A.AL.call 4 [] (first:=[]) (cap:=[]) cf82 (fn_both_ok 11 (a0.1,a0.2.1,a0.2.2) (a1.1,a1.2) (A.hasl .i64 (11) rfl) h0_ h1_ h2_ h3_ h4_ r3 hv4) (.s 0 (.s 1 .nil)) ?_
 rintro _ _ ⟨rfl,rfl,hr5⟩
 refine⟨by kernel_rfl,?_⟩
 refine A.q0 [] [] [.n] [(6,.int .i64 r3)] ?_
 refine A.dl 2 ?_
 refine A.q0 [] [] [.n,.n] [(11,.bool (decide (r3≠0)))] ?_
 refine A.dx 1 ?_
 refine A.AX.cnd rfl hF (fun hb hF=>?_) (fun hb hF=>?_)
 ·refine A.xl 1 ?_
  refine A.q0 [] [] [.n,.n,.n] [(4,.int .i64 0),(5,.int .i64 r3)] ?_
  refine A.dx 1 ?_
  obtain rfl:=Option.some.inj hF
  exact A.rt2 [] ⟨rfl,rfl,(A.hasl .i64 (0) rfl),hr5⟩
 refine A.xl 4 ?_
 refine A.q0 [2] [] [.n,.b 0 0,.n] [(15,.bool (decide (a0.1=41)))] ?_
 refine A.dx 1 ?_
 refine A.AX.cnd rfl hF (fun hb hF=>?_) (fun hb hF=>?_)
 ·refine A.xl 1 ?_
  refine A.q0 [] [] [.n,.n] [(4,.int .i64 1),(5,.int .i64 0)] ?_
  refine A.dx 1 ?_
  obtain rfl:=Option.some.inj hF
  exact A.rt2 [] ⟨rfl,rfl,(A.hasl .i64 (1) rfl),(A.hasl .i64 (0) rfl)⟩
 refine A.xl 3 ?_
 refine A.q0 [3] [] [.n,.b 0 1] [(17,.string a1.2)] ?_
 obtain⟨r6,hv7,hF⟩:=A.bd_some hF
 refine A.AL.call 44 [] (first:=[]) (cap:=[]) cf83 (fn_runes_ok a1.2 h4_ r6 hv7) .nil ?_
 rintro _ _ ⟨A8,c9,rfl,rfl⟩
 refine⟨by kernel_rfl,?_⟩
 refine A.q0 [] [] [.n,.n,.n] [(4,.int .i64 ((r6).length:Int)),(5,.int .i64 0)] ?_
 refine A.dx 1 ?_
 obtain rfl:=Option.some.inj hF
 refine A.oko 44 fun hl10=>?_
 exact A.rt2 [] ⟨rfl,rfl,(A.has_len hl10.1),(A.hasl .i64 (0) rfl)⟩
def F.oper_teller_totals_j1 (k4:Int→Int→Option (D25×(List D45)×(List (D45×Int))))(y47:Int)(y50:Int):Option (D25×(List D45)×(List (D45×Int))):=A.gd (Z.R64 (y47+1)) (k4 y50 (y47+1))
def F.oper_teller_totals_l2 (k3:(List D45)→(List (D45×Int))→Int→Int→Int→Int→ByteArray→ByteArray→Int→Int→Option (D25×(List D45)×(List (D45×Int))))(xs23:List D45)(m24:List (D45×Int))(y25:Int)(y27:Int)(y29:Int)(y31:Int)(y33:ByteArray)(y35:ByteArray)(y37:Int)(y39:Int)(y16:(Int×(List D57))):Nat→Int→Int→Option (D25×(List D45)×(List (D45×Int)))
 |0,_,_=>none
 |f+1,y45,y47=>if y47<((y16.2).length:Int)then((A.ix y16.2 y47).bind fun x53=>((F.fn_Measure (y29,y31,y33) (x53.1.1,x53.1.2)).bind fun r59=>(if r59.2=0 then(A.gd (Z.R64 (r59.1*x53.2)∧Z.R64 (y45+(r59.1*x53.2))) (F.oper_teller_totals_j1 (F.oper_teller_totals_l2 k3 xs23 m24 y25 y27 y29 y31 y33 y35 y37 y39 y16 f) y47 (min (y45+(r59.1*x53.2)) 1099511627776)))else(F.oper_teller_totals_j1 (F.oper_teller_totals_l2 k3 xs23 m24 y25 y27 y29 y31 y33 y35 y37 y39 y16 f) y47 y45))))else((F.oper_number y45).bind fun r64=>(A.gd ((List.length (α:=D45) xs23+List.length (α:=D45) [(y16.1,r64)])*24≤140737488355328) (k3 (xs23++[(y16.1,r64)]) (Z.mins m24 (y16.1,ByteArray.mk #[]) y45) y25 y27 y29 y31 y33 y35 y37 y39)))
def F.oper_teller_totals_l3 (a0:(D25×(List D45)×(List (D45×Int)))):List (Int×(List D57))→(List D45)→(List (D45×Int))→Int→Int→Int→Int→ByteArray→ByteArray→Int→Int→Option (D25×(List D45)×(List (D45×Int)))
 | [],xs23,m24,y25,y27,y29,y31,y33,y35,y37,y39=>some ((y25,y27,a0.1.2.2.1,(y29,y31,y33),y35,y37,y39),xs23,m24)
 |y16::f,xs23,m24,y25,y27,y29,y31,y33,y35,y37,y39=>A.lt (Z.mget (0:Int) m24 (y16.1,ByteArray.mk #[])) fun x42=>(F.oper_teller_totals_l2 (F.oper_teller_totals_l3 a0 f) xs23 m24 y25 y27 y29 y31 y33 y35 y37 y39 y16 A.FU x42 0)
def F.oper_teller_totals (a0:(D25×(List D45)×(List (D45×Int))))(a1:(List D57)):Option (D25×(List D45)×(List (D45×Int))):=(F.oper_Keys a1).bind fun r2=>((F.oper_Keys_1_it r2).bind fun xs7=>F.oper_teller_totals_l3 a0 xs7 a0.2.1 a0.2.2 a0.1.1 a0.1.2.1 a0.1.2.2.2.1.1 a0.1.2.2.2.1.2.1 a0.1.2.2.2.1.2.2 a0.1.2.2.2.2.1 a0.1.2.2.2.2.2.1 a0.1.2.2.2.2.2.2)
theorem oper_teller_totals_ok (a0:(D25×(List D45)×(List (D45×Int))))(a1:(List D57))(g0_:Nat)(A3_:Option Addr)(c4_:Nat)(A11_:Option Addr)(c12_:Nat)(b13_:Nat)(A14_:Option Addr)(c15_:Nat)(h1_:IntKind.i64.has a0.1.1)(h2_:IntKind.i64.has a0.1.2.1)(h5_:IntKind.i64.has a0.1.2.2.2.1.1)(h6_:IntKind.i64.has a0.1.2.2.2.1.2.1)(h7_:a0.1.2.2.2.1.2.2.size≤maxLen)(h8_:a0.1.2.2.2.2.1.size≤maxLen)(h9_:IntKind.i64.has a0.1.2.2.2.2.2.1)(h10_:IntKind.i64.has a0.1.2.2.2.2.2.2)(r:(D25×(List D45)×(List (D45×Int))))(hF:F.oper_teller_totals a0 a1=some r):
    A.Ct Tryd.prog 23 [.pointer (some ⟨g0_,0,none⟩),.slice A14_ ((a1).length) c15_] [(0,.blk g0_ 65 [.int .i64 a0.1.1,.int .i64 a0.1.2.1,.slice A3_ ((a0.1.2.2.1).length) c4_,.int .i64 a0.1.2.2.2.1.1,.int .i64 a0.1.2.2.2.1.2.1,.string a0.1.2.2.2.1.2.2,.string a0.1.2.2.2.2.1,.int .i64 a0.1.2.2.2.2.2.1,.int .i64 a0.1.2.2.2.2.2.2,.slice A11_ ((a0.2.1).length) c12_,.map (some b13_)]),(1,.sh (.slice (Z.Ty.int .i64)) [.slice A3_ (a0.1.2.2.1).length c4_] a0.1.2.2.1),(2,.own T45 46 A11_ c12_ a0.2.1),(3,.mp D45 (fun x:D45=>.agg #[.int .i64 x.1,.string x.2]) (Z.Ty.int .i64) false b13_ a0.2.2),(4,.sh (.slice T57) [.slice A14_ (a1).length c15_] a1),(5,.el none 1 0 A.tabF),(6,.el none 2 0 A.tabA)] ([g0_]++(Z.obl A11_++([b13_]++[]))) (fun v H'=>∃(A0':Option Addr) (c1':Nat) (A2':Option Addr) (c3':Nat) (b4':Nat),v=.tuple #[]∧H'=[(0,.blk g0_ 65 [.int .i64 r.1.1,.int .i64 r.1.2.1,.slice A0' ((r.1.2.2.1).length) c1',.int .i64 r.1.2.2.2.1.1,.int .i64 r.1.2.2.2.1.2.1,.string r.1.2.2.2.1.2.2,.string r.1.2.2.2.2.1,.int .i64 r.1.2.2.2.2.2.1,.int .i64 r.1.2.2.2.2.2.2,.slice A2' ((r.2.1).length) c3',.map (some b4')]),(1,.sh (.slice (Z.Ty.int .i64)) [.slice A0' (r.1.2.2.1).length c1'] r.1.2.2.1),(2,.own T45 46 A2' c3' r.2.1),(3,.mp D45 (fun x:D45=>.agg #[.int .i64 x.1,.string x.2]) (Z.Ty.int .i64) false b4' r.2.2)]∧IntKind.i64.has r.1.1∧IntKind.i64.has r.1.2.1∧IntKind.i64.has r.1.2.2.2.1.1∧IntKind.i64.has r.1.2.2.2.1.2.1∧r.1.2.2.2.1.2.2.size≤maxLen∧r.1.2.2.2.2.1.size≤maxLen∧IntKind.i64.has r.1.2.2.2.2.2.1∧IntKind.i64.has r.1.2.2.2.2.2.2):=by
 refine A.Ct.enterM Tryd.func23 rfl Tryd.ntmps23 rfl fun w0 F0=>?_
 rw[F.oper_teller_totals]at hF
 refine A.xl 1 ?_
 refine A.AL.box 7 (cs:=[.pointer (some ⟨g0_,0,none⟩)]) fun g1=>?_
 refine A.dl 2 ?_
 refine A.q0 [] [] [.n] [(12,.slice A14_ ((a1).length) c15_)] ?_
 obtain⟨r2,hv3,hF⟩:=A.bd_some hF
 refine A.AL.call 8 [] (first:=[]) (cap:=[]) cf39 (oper_Keys_ok a1 A14_ c15_ r2 hv3) (.s 4 (.s 5 (.s 6 .nil))) ?_
 rintro _ _ ⟨g4,A5,c6,rfl,rfl⟩
 refine⟨by kernel_rfl,?_⟩
 refine A.dx 2 ?_
 obtain⟨xs7,hv8,hF⟩:=A.bd_some hF
 refine A.AX.rgf 48 49 50 [1,5,6,7,8,9] [0,2,3,1,5,6,7,8,9] [49,48,0,2,3,1,5,6,7,8,9] (fun k nh=>∃(xs23:List D45),∃(m24:List (D45×Int)),∃(y25:Int),∃(y27:Int),∃(y29:Int),∃(y31:Int),∃(y33:ByteArray),∃(y35:ByteArray),∃(y37:Int),∃(y39:Int),∃(A21:Option Addr),∃(c22:Nat),nh=[(0,.blk g0_ 65 [.int .i64 y25,.int .i64 y27,.slice A3_ ((a0.1.2.2.1).length) c4_,.int .i64 y29,.int .i64 y31,.string y33,.string y35,.int .i64 y37,.int .i64 y39,.slice A21 ((xs23).length) c22,.map (some b13_)]),(2,.own T45 46 A21 c22 xs23),(3,.mp D45 (fun x:D45=>.agg #[.int .i64 x.1,.string x.2]) (Z.Ty.int .i64) false b13_ m24)]∧IntKind.i64.has y25∧IntKind.i64.has y27∧IntKind.i64.has y29∧IntKind.i64.has y31∧y33.size≤maxLen∧y35.size≤maxLen∧IntKind.i64.has y37∧IntKind.i64.has y39∧F.oper_teller_totals_l3 a0 (List.drop k xs7) xs23 m24 y25 y27 y29 y31 y33 y35 y37 y39=some r) [(0,.blk g0_ 65 [.int .i64 a0.1.1,.int .i64 a0.1.2.1,.slice A3_ ((a0.1.2.2.1).length) c4_,.int .i64 a0.1.2.2.2.1.1,.int .i64 a0.1.2.2.2.1.2.1,.string a0.1.2.2.2.1.2.2,.string a0.1.2.2.2.2.1,.int .i64 a0.1.2.2.2.2.2.1,.int .i64 a0.1.2.2.2.2.2.2,.slice A11_ ((a0.2.1).length) c12_,.map (some b13_)]),(2,.own T45 46 A11_ c12_ a0.2.1),(3,.mp D45 (fun x:D45=>.agg #[.int .i64 x.1,.string x.2]) (Z.Ty.int .i64) false b13_ a0.2.2)] cf79 (oper_Keys_1_it_sq r2 g4 A5 c6 xs7 hv8) (fun _=>rfl) ⟨a0.2.1,a0.2.2,a0.1.1,a0.1.2.1,a0.1.2.2.2.1.1,a0.1.2.2.2.1.2.1,a0.1.2.2.2.1.2.2,a0.1.2.2.2.2.1,a0.1.2.2.2.2.2.1,a0.1.2.2.2.2.2.2,A11_,c12_,rfl,h1_,h2_,h5_,h6_,h7_,h8_,h9_,h10_,hF⟩ ?_ ?_ ?_
 ·rintro k15 _ D9 L10 ⟨xs23,m24,y25,y27,y29,y31,y33,y35,y37,y39,A21,c22,rfl,hy26,hy28,hy30,hy32,hy34,hy36,hy38,hy40,hF⟩
  exact⟨⟨_,(.b 8 (.s 9 .nil))⟩,rfl,fun o=>rfl⟩
 ·rintro k15 _ y16 D9 L10 w14 o11 ⟨xs23,m24,y25,y27,y29,y31,y33,y35,y37,y39,A21,c22,rfl,hy26,hy28,hy30,hy32,hy34,hy36,hy38,hy40,hF⟩ hx19 hxo20 hh13
  intro A17 c18
  rw[A.drop_at hx19,F.oper_teller_totals_l3]at hF
  refine A.xl 1 ?_
  refine A.q0 [] [] [.n] [(4,.int .i64 y16.1)] ?_
  refine A.dl 1 ?_
  refine A.q0 [] [] [.n] [(5,.slice A17 ((y16.2).length) c18)] ?_
  refine A.AL.done ?_
  refine A.AE.flip 48 49 fun o12=>?_
  refine A.xl 2 ?_
  refine A.q0 [] [] [.n,.n] [(17,.agg #[.int .i64 y16.1,.string (ByteArray.mk #[])])] ?_
  refine A.AL.alloc 551 (cs:=[.int .i64 0,.string (ByteArray.mk #[])]) Tryd.zeroValue46 fun g41=>?_
  refine A.sw 551 [] [.int .i64 y16.1,.string (ByteArray.mk #[])] ?_
  refine A.dx 2 ?_
  refine A.AX.dr mixed 7 7 (A.mb 7 0) ?_
  refine A.hq (A.pk_kont A.RQ.pq) [] [0,1,2,3,5,6,7,8,9,48,49,50,551] [7,551,0] [] (A.mb 7 31) 2 [(0,.b 0 0),(4,.b 1 0),(1,.n),(2,.n),(3,.b 2 10)] [(22,.agg #[.int .i64 y16.1,.string (ByteArray.mk #[])]),(21,.map (some b13_))] ?_
  obtain⟨x42,hv43,hF⟩:=A.lt_some hF
  refine A.okm (t:=(Z.Ty.int .i64)) 3 (y16.1,ByteArray.mk #[]) (z:=(0:Int)) (zs:=[.int .i64 0]) ⟨rfl,by decide⟩ hv43 fun ho44=>?_
  refine A.AH.v (A.pk_kont A.RQ.pq) [0,1,2,3,5,6,7,8,9,48,49,50,551] [0,1,2,3,5,6,7,8,9,48,49,50,551] 5 (A.mb 7 63) rfl (fun a w hf hh=>A.r_lkf (t:=(Z.Ty.int .i64)) (ok:=false) (z:=(0:Int)) (zs:=[.int .i64 0]) 3 ky46 (y16.1,ByteArray.mk #[]) Tryd.zeroValue2 ⟨rfl,by decide⟩ hv43 rfl hf hh) ?_
  refine A.hq (A.pk_kont A.RQ.pq) [0,1,2,3,5,6,7,8,9,48,49,50,551] [0,1,2,3,5,6,7,8,9,48,49,50,551] [] [] (A.mb 7 127) 0 [(6,.n)] [(7,.int .i64 x42)] ?_
  refine A.AH.done ?_
  refine A.el 3 ?_
  refine A.q0 [] [] [.n,.n,.n] [(24,.slice A17 ((y16.2).length) c18),(25,.int .i64 ((y16.2).length:Int)),(26,.int .i64 0)] ?_
  refine A.dx 2 ?_
  refine A.lp_ [2,4,6,24,25] [0,1,2,3,5,6,7,8,9,48,49,50,551] (fun f nl nh=>∃(y45:Int),∃(y47:Int),nl=[(7,.int .i64 y45),(26,.int .i64 y47)]∧nh=[]∧IntKind.i64.has y45∧IntKind.i64.has y47∧F.oper_teller_totals_l2 (F.oper_teller_totals_l3 a0 (List.drop (k15+1) xs7)) xs23 m24 y25 y27 y29 y31 y33 y35 y37 y39 y16 f y45 y47=some r) ⟨x42,0,rfl,rfl,ho44,(A.hasl .i64 (0) rfl),hF⟩ ?_
  rintro f49 _ _ ⟨y45,y47,rfl,rfl,hy46,hy48,hF⟩
  rcases f49 with _|f49
  ·exact A.no0 hF
  rw[F.oper_teller_totals_l2]at hF
  refine A.xl 1 ?_
  refine A.q0 [] [] [.n] [(27,.bool (decide (y47<((y16.2).length:Int))))] ?_
  refine A.dx 2 ?_
  refine A.AX.cnd rfl hF (fun hb hF=>?_) (fun hb hF=>?_)
  ·refine A.xx 2 ?_
   refine A.AX.join [2,4,6,24,25,26] [0,1,2,3,5,6,7,8,9,48,49,50,551] (fun nl nh=>∃(y50:Int),nl=[(7,.int .i64 y50)]∧nh=[]∧IntKind.i64.has y50∧F.oper_teller_totals_j1 (F.oper_teller_totals_l2 (F.oper_teller_totals_l3 a0 (List.drop (k15+1) xs7)) xs23 m24 y25 y27 y29 y31 y33 y35 y37 y39 y16 f49) y47 y50=some r) ?_ ?_
   ·refine A.xl 2 ?_
    obtain⟨x53,hv54,hF⟩:=A.bd_some hF
    refine A.AL.ixs 50 718 hv54 fun ho55=>?_
    intro b56 o57
    refine A.q0 [] [718] [.e 0 0] [(29,.agg #[.int .i64 x53.1.1,.string x53.1.2,.int .i64 x53.2])] ?_
    refine A.AL.alloc 719 (cs:=[.int .i64 0,.string (ByteArray.mk #[]),.int .i64 0]) Tryd.zeroValue58 fun g58=>?_
    refine A.sw 719 [] [.int .i64 x53.1.1,.string x53.1.2,.int .i64 x53.2] ?_
    refine A.dx 2 ?_
    refine A.AX.dr mixed 13 13 (A.mb 13 0) ?_
    refine A.hq (A.pk_kont A.RQ.pq) [] [0,1,2,3,5,6,7,8,9,48,49,50,551,718,719] [7,719,0] [] (A.mb 13 127) 6 [(0,.b 0 0),(5,.n),(1,.n),(6,.b 1 0),(2,.n),(3,.n),(4,.b 2 3)] [(37,.agg #[.int .i64 x53.1.1,.string x53.1.2]),(35,.agg #[.int .i64 y29,.int .i64 y31,.string y33])] ?_
    refine A.AH.one 7 ?_
    obtain⟨r59,hv60,hF⟩:=A.bd_some hF
    refine A.AL.call 720 [] (first:=[]) (cap:=[]) cf44 (fn_Measure_ok (y29,y31,y33) (x53.1.1,x53.1.2) hy30 hy32 hy34 ho55.1.1 ho55.1.2 r59 hv60) (.s 5 (.s 6 .nil)) ?_
    rintro _ _ ⟨rfl,rfl,hr61,hr62⟩
    refine⟨by kernel_rfl,?_⟩
    refine A.AH.nx (A.mb 13 255) [0,1,2,3,5,6,7,8,9,48,49,50,551,718,719] ?_
    refine A.hq (A.pk_kont A.RQ.pq) [0,1,2,3,5,6,7,8,9,48,49,50,551,718,719] [0,1,2,3,5,6,7,8,9,48,49,50,551,718,719] [] [] (A.mb 13 8191) 0 [(8,.n),(9,.n),(10,.n),(11,.n),(12,.n)] [(10,.int .i64 r59.1),(11,.int .i64 r59.2)] ?_
    refine A.AH.done ?_
    refine A.el 2 ?_
    refine A.q0 [] [] [.n,.n] [(42,.bool (decide (r59.2=0)))] ?_
    refine A.dx 1 ?_
    refine A.AX.cnd rfl hF (fun hb hF=>?_) (fun hb hF=>?_)
    ·refine A.xl 0 ?_
     obtain⟨hc63,hF⟩:=A.gd_some hF
     refine A.q [719] [] [.n,.n,.n,.b 0 2,.n,.n,.n,.n] [Z.R64 (r59.1*x53.2),Z.R64 (y45+(r59.1*x53.2))] [(7,.int .i64 (min (y45+(r59.1*x53.2)) 1099511627776))] hc63 ?_
     refine A.de 1 ?_
     exact A.j ⟨(min (y45+(r59.1*x53.2)) 1099511627776),rfl,rfl,(A.has_min (Z.i64_has hc63.2) (A.hasl .i64 (1099511627776) rfl)),hF⟩
    refine A.xe 2 ?_
    exact A.j ⟨y45,rfl,rfl,hy46,hF⟩
   rintro _ _ ⟨y50,rfl,rfl,hy51,hF⟩
   rw[F.oper_teller_totals_j1]at hF
   refine A.xl 0 ?_
   obtain⟨hc52,hF⟩:=A.gd_some hF
   refine A.q [] [] [.n,.n] [Z.R64 (y47+1)] [(26,.int .i64 (y47+1))] hc52 ?_
   refine A.AL.done ?_
   exact A.j ⟨_,Nat.lt_succ_self _,⟨y50,(y47+1),rfl,rfl,hy51,(Z.i64_has hc52),hF⟩⟩
  refine A.xx 3 ?_
  refine A.AX.dr mixed 6 7 (A.mb 7 0) ?_
  refine A.hq (A.pk_kont A.RQ.pq) [] [0,1,2,3,5,6,7,8,9,48,49,50,551] [7,551,0] [] (A.mb 7 63) 1 [(0,.b 0 0),(4,.b 1 0),(5,.n),(1,.n),(2,.n),(3,.b 2 10)] [(55,.agg #[.int .i64 y16.1,.string (ByteArray.mk #[])]),(56,.int .i64 y45),(54,.map (some b13_))] ?_
  refine A.AH.one 6 ?_
  refine A.AL.mup (t:=(Z.Ty.int .i64)) 3 [] (cs:=[.int .i64 y45]) (u:=y45) ky46 (y16.1,ByteArray.mk #[]) ⟨rfl,hy46⟩ ?_
  refine A.AH.nm (A.mb 7 127) ?_
  refine A.AH.done ?_
  refine A.ex 1 ?_
  refine A.AX.dr mixed 13 14 (A.mb 14 0) ?_
  refine A.hq (A.pk_kont A.RQ.pq) [] [0,1,3,5,6,7,8,9,48,49,50,551] [7,0] [] (A.mb 14 127) 7 [(0,.b 0 0),(1,.b 0 0),(5,.n),(6,.n),(2,.n),(3,.n),(4,.b 1 9)] [(57,.pointer (some ⟨g0_,0,none⟩)),(62,.int .i64 y16.1),(63,.int .i64 y45),(61,.slice A21 ((xs23).length) c22)] ?_
  refine A.AH.one 7 ?_
  obtain⟨r64,hv65,hF⟩:=A.bd_some hF
  refine A.AL.call 760 [] (first:=[]) (cap:=[]) cf40 (oper_number_ok y45 hy46 r64 hv65) .nil ?_
  rintro _ _ ⟨rfl,rfl,hr66⟩
  refine⟨by kernel_rfl,?_⟩
  refine A.AH.nx (A.mb 14 255) [0,1,3,5,6,7,8,9,48,49,50,551] ?_
  refine A.hq (A.pk_kont A.RQ.pq) [0,1,3,5,6,7,8,9,48,49,50,551] [0,1,3,5,6,7,8,9,48,49,50,551] [] [] (A.mb 14 511) 5 [(8,.n)] [(65,.agg #[.int .i64 y16.1,.string r64])] ?_
  refine A.AH.one 9 ?_
  refine A.AL.bsl 800 (ty:=T45) (cs:=[.int .i64 y16.1,.string r64]) [(y16.1,r64)] ⟨⟨⟨rfl,hxo20.1⟩,⟨rfl,hr66⟩⟩,rfl⟩ (fun g67=>?_) Tryd.zeroValue46 Tryd.sizeOf46
  refine A.AH.nx (A.mb 14 1023) [0,1,3,5,6,7,8,9,48,49,50,551] ?_
  refine A.AH.one 10 ?_
  obtain⟨hl70,hF⟩:=A.gd_some hF
  refine A.AL.app (k:=2) [] (A.rowO (k:=800) rfl) inf46 hl70 fun A68 c69=>?_
  refine A.AH.nx (A.mb 14 2047) [0,1,3,5,6,7,8,9,48,49,50,551] ?_
  refine A.hq (A.pk_kont A.RQ.pq) [0,1,3,5,6,7,8,9,48,49,50,551] [0,1,2,3,5,6,7,8,9,48,49,50,551,800] [] [] (A.mb 14 8191) 1 [(11,.n),(12,.n)] [(69,.pointer (some ⟨g0_,9,none⟩))] ?_
  refine A.AH.one 13 ?_
  refine A.AL.store 0 [] (new:=[.slice A68 ((xs23++[(y16.1,r64)]).length) c69]) (cs':=[.int .i64 y25,.int .i64 y27,.slice A3_ ((a0.1.2.2.1).length) c4_,.int .i64 y29,.int .i64 y31,.string y33,.string y35,.int .i64 y37,.int .i64 y39,.slice A68 ((xs23++[(y16.1,r64)]).length) c69,.map (some b13_)]) ?_
  refine A.AH.nm (A.mb 14 16383) ?_
  refine A.AH.done ?_
  refine A.ee 1 ?_
  exact A.AE.bn hh13 [49,48,0,2,3,1,7,8,9] 100000 [(49,100049),(48,100048),(0,100000),(2,100002),(3,100003),(1,100001),(5,5),(6,6),(7,100007),(8,100008),(9,100009)] [(0,.blk g0_ 65 [.int .i64 y25,.int .i64 y27,.slice A3_ ((a0.1.2.2.1).length) c4_,.int .i64 y29,.int .i64 y31,.string y33,.string y35,.int .i64 y37,.int .i64 y39,.slice A68 ((xs23++[(y16.1,r64)]).length) c69,.map (some b13_)]),(2,.own T45 46 A68 c69 (xs23++[(y16.1,r64)])),(3,.mp D45 (fun x:D45=>.agg #[.int .i64 x.1,.string x.2]) (Z.Ty.int .i64) false b13_ (Z.mins m24 (y16.1,ByteArray.mk #[]) y45))] ⟨(xs23++[(y16.1,r64)]),(Z.mins m24 (y16.1,ByteArray.mk #[]) y45),y25,y27,y29,y31,y33,y35,y37,y39,A68,c69,rfl,hy26,hy28,hy30,hy32,hy34,hy36,hy38,hy40,hF⟩ rfl rfl
 rintro _ D9 L10 ⟨xs23,m24,y25,y27,y29,y31,y33,y35,y37,y39,A21,c22,rfl,hy26,hy28,hy30,hy32,hy34,hy36,hy38,hy40,hF⟩
 rw[List.drop_length,F.oper_teller_totals_l3]at hF
 refine A.ee 1 ?_
 obtain rfl:=Option.some.inj hF
 exact A.AE.rtN (Ds:=[D9]) [48] [(0,0),(1,1),(2,2),(3,3)] (.tuple #[]) (⟨rfl,trivial⟩) (fun a w hf hh=>Z.res0 rfl w) (⟨A3_,c4_,A21,c22,b13_,rfl,rfl,hy26,hy28,hy30,hy32,hy34,hy36,hy38,hy40⟩)
end Go.Proofs.YtbljnlkhebiniaaDoor
end
section
set_option linter.unusedVariables false
set_option linter.unusedSimpArgs false
set_option maxRecDepth 20000
set_option maxHeartbeats 8000000
set_option synthInstance.maxSize 1000000
set_option synthInstance.maxHeartbeats 400000
namespace Go.Proofs.YtbljnlkhebiniaaDoor
open Go.RowKit
def F.oper_teller_fresh_j1 (k1:(List D45)→(List (D45×Int))→Int→Int→Int→Int→ByteArray→ByteArray→Int→Int→Int→Option (D25×(List D45)×(List (D45×Int))))(y5:Int)(y7:Int)(y9:Int)(y11:Int)(y13:ByteArray)(y15:ByteArray)(y17:Int)(y19:Int)(y21:Int)(xs26:List D45)(m28:List (D45×Int)):Option (D25×(List D45)×(List (D45×Int))):=A.gd (Z.R64 (y21+1)) (k1 xs26 m28 y5 y7 y9 y11 y13 y15 y17 y19 (y21+1))
def F.oper_teller_fresh_l2 (a0:(D25×(List D45)×(List (D45×Int))))(a1:(List D57)):Nat→(List D45)→(List (D45×Int))→Int→Int→Int→Int→ByteArray→ByteArray→Int→Int→Int→Option (D25×(List D45)×(List (D45×Int)))
 |0,_,_,_,_,_,_,_,_,_,_,_=>none
 |f+1,xs3,m4,y5,y7,y9,y11,y13,y15,y17,y19,y21=>if y21<((a1).length:Int)then((A.ix a1 y21).bind fun x30=>(A.lt (Z.mget (0:Int) m4 (x30.1.1,x30.1.2)) fun x36=>(if x36=0 then(A.gd ((List.length (α:=D45) xs3+List.length (α:=D45) [(x30.1.1,x30.1.2)])*24≤140737488355328) (F.oper_teller_fresh_j1 (F.oper_teller_fresh_l2 a0 a1 f) y5 y7 y9 y11 y13 y15 y17 y19 y21 (xs3++[(x30.1.1,x30.1.2)]) (Z.mins m4 (x30.1.1,x30.1.2) 1)))else(F.oper_teller_fresh_j1 (F.oper_teller_fresh_l2 a0 a1 f) y5 y7 y9 y11 y13 y15 y17 y19 y21 xs3 m4))))else(some ((y5,y7,a0.1.2.2.1,(y9,y11,y13),y15,y17,y19),xs3,m4))
def F.oper_teller_fresh (a0:(D25×(List D45)×(List (D45×Int))))(a1:(List D57)):Option (D25×(List D45)×(List (D45×Int))):=F.oper_teller_fresh_l2 a0 a1 A.FU a0.2.1 a0.2.2 a0.1.1 a0.1.2.1 a0.1.2.2.2.1.1 a0.1.2.2.2.1.2.1 a0.1.2.2.2.1.2.2 a0.1.2.2.2.2.1 a0.1.2.2.2.2.2.1 a0.1.2.2.2.2.2.2 0
theorem oper_teller_fresh_ok (a0:(D25×(List D45)×(List (D45×Int))))(a1:(List D57))(g0_:Nat)(A3_:Option Addr)(c4_:Nat)(A11_:Option Addr)(c12_:Nat)(b13_:Nat)(A14_:Option Addr)(c15_:Nat)(h1_:IntKind.i64.has a0.1.1)(h2_:IntKind.i64.has a0.1.2.1)(h5_:IntKind.i64.has a0.1.2.2.2.1.1)(h6_:IntKind.i64.has a0.1.2.2.2.1.2.1)(h7_:a0.1.2.2.2.1.2.2.size≤maxLen)(h8_:a0.1.2.2.2.2.1.size≤maxLen)(h9_:IntKind.i64.has a0.1.2.2.2.2.2.1)(h10_:IntKind.i64.has a0.1.2.2.2.2.2.2)(r:(D25×(List D45)×(List (D45×Int))))(hF:F.oper_teller_fresh a0 a1=some r):
    A.Ct Tryd.prog 24 [.pointer (some ⟨g0_,0,none⟩),.slice A14_ ((a1).length) c15_] [(0,.blk g0_ 65 [.int .i64 a0.1.1,.int .i64 a0.1.2.1,.slice A3_ ((a0.1.2.2.1).length) c4_,.int .i64 a0.1.2.2.2.1.1,.int .i64 a0.1.2.2.2.1.2.1,.string a0.1.2.2.2.1.2.2,.string a0.1.2.2.2.2.1,.int .i64 a0.1.2.2.2.2.2.1,.int .i64 a0.1.2.2.2.2.2.2,.slice A11_ ((a0.2.1).length) c12_,.map (some b13_)]),(1,.sh (.slice (Z.Ty.int .i64)) [.slice A3_ (a0.1.2.2.1).length c4_] a0.1.2.2.1),(2,.own T45 46 A11_ c12_ a0.2.1),(3,.mp D45 (fun x:D45=>.agg #[.int .i64 x.1,.string x.2]) (Z.Ty.int .i64) false b13_ a0.2.2),(4,.ln T57 A14_ c15_ a1)] ([g0_]++(Z.obl A11_++([b13_]++[]))) (fun v H'=>∃(A0':Option Addr) (c1':Nat) (A2':Option Addr) (c3':Nat) (b4':Nat),v=.tuple #[]∧H'=[(0,.blk g0_ 65 [.int .i64 r.1.1,.int .i64 r.1.2.1,.slice A0' ((r.1.2.2.1).length) c1',.int .i64 r.1.2.2.2.1.1,.int .i64 r.1.2.2.2.1.2.1,.string r.1.2.2.2.1.2.2,.string r.1.2.2.2.2.1,.int .i64 r.1.2.2.2.2.2.1,.int .i64 r.1.2.2.2.2.2.2,.slice A2' ((r.2.1).length) c3',.map (some b4')]),(1,.sh (.slice (Z.Ty.int .i64)) [.slice A0' (r.1.2.2.1).length c1'] r.1.2.2.1),(2,.own T45 46 A2' c3' r.2.1),(3,.mp D45 (fun x:D45=>.agg #[.int .i64 x.1,.string x.2]) (Z.Ty.int .i64) false b4' r.2.2)]∧IntKind.i64.has r.1.1∧IntKind.i64.has r.1.2.1∧IntKind.i64.has r.1.2.2.2.1.1∧IntKind.i64.has r.1.2.2.2.1.2.1∧r.1.2.2.2.1.2.2.size≤maxLen∧r.1.2.2.2.2.1.size≤maxLen∧IntKind.i64.has r.1.2.2.2.2.2.1∧IntKind.i64.has r.1.2.2.2.2.2.2):=by
 refine A.Ct.enter Tryd.func24 rfl Tryd.ntmps24 rfl fun w0 F0=>?_
 rw[F.oper_teller_fresh]at hF
 refine A.xl 1 ?_
 refine A.q0 [] [] [.n,.n,.n] [(6,.slice A14_ ((a1).length) c15_),(7,.int .i64 ((a1).length:Int)),(8,.int .i64 0)] ?_
 refine A.dx 2 ?_
 refine A.lp_ [0,6,7] [1,4] (fun f nl nh=>∃(xs3:List D45),∃(m4:List (D45×Int)),∃(y5:Int),∃(y7:Int),∃(y9:Int),∃(y11:Int),∃(y13:ByteArray),∃(y15:ByteArray),∃(y17:Int),∃(y19:Int),∃(y21:Int),∃(A1:Option Addr),∃(c2:Nat),nl=[(8,.int .i64 y21)]∧nh=[(0,.blk g0_ 65 [.int .i64 y5,.int .i64 y7,.slice A3_ ((a0.1.2.2.1).length) c4_,.int .i64 y9,.int .i64 y11,.string y13,.string y15,.int .i64 y17,.int .i64 y19,.slice A1 ((xs3).length) c2,.map (some b13_)]),(2,.own T45 46 A1 c2 xs3),(3,.mp D45 (fun x:D45=>.agg #[.int .i64 x.1,.string x.2]) (Z.Ty.int .i64) false b13_ m4)]∧IntKind.i64.has y5∧IntKind.i64.has y7∧IntKind.i64.has y9∧IntKind.i64.has y11∧y13.size≤maxLen∧y15.size≤maxLen∧IntKind.i64.has y17∧IntKind.i64.has y19∧IntKind.i64.has y21∧F.oper_teller_fresh_l2 a0 a1 f xs3 m4 y5 y7 y9 y11 y13 y15 y17 y19 y21=some r) ⟨a0.2.1,a0.2.2,a0.1.1,a0.1.2.1,a0.1.2.2.2.1.1,a0.1.2.2.2.1.2.1,a0.1.2.2.2.1.2.2,a0.1.2.2.2.2.1,a0.1.2.2.2.2.2.1,a0.1.2.2.2.2.2.2,0,A11_,c12_,rfl,rfl,h1_,h2_,h5_,h6_,h7_,h8_,h9_,h10_,(A.hasl .i64 (0) rfl),hF⟩ ?_
 rintro f23 _ _ ⟨xs3,m4,y5,y7,y9,y11,y13,y15,y17,y19,y21,A1,c2,rfl,rfl,hy6,hy8,hy10,hy12,hy14,hy16,hy18,hy20,hy22,hF⟩
 rcases f23 with _|f23
 ·exact A.no0 hF
 rw[F.oper_teller_fresh_l2]at hF
 refine A.xl 1 ?_
 refine A.q0 [] [] [.n] [(9,.bool (decide (y21<((a1).length:Int))))] ?_
 refine A.dx 2 ?_
 refine A.AX.cnd rfl hF (fun hb hF=>?_) (fun hb hF=>?_)
 ·refine A.xx 2 ?_
  refine A.AX.join [0,6,7,8] [1,4] (fun nl nh=>∃(xs26:List D45),∃(m28:List (D45×Int)),∃(A24:Option Addr),∃(c25:Nat),nl=[]∧nh=[(0,.blk g0_ 65 [.int .i64 y5,.int .i64 y7,.slice A3_ ((a0.1.2.2.1).length) c4_,.int .i64 y9,.int .i64 y11,.string y13,.string y15,.int .i64 y17,.int .i64 y19,.slice A24 ((xs26).length) c25,.map (some b13_)]),(2,.own T45 46 A24 c25 xs26),(3,.mp D45 (fun x:D45=>.agg #[.int .i64 x.1,.string x.2]) (Z.Ty.int .i64) false b13_ m28)]∧F.oper_teller_fresh_j1 (F.oper_teller_fresh_l2 a0 a1 f23) y5 y7 y9 y11 y13 y15 y17 y19 y21 xs26 m28=some r) ?_ ?_
  ·refine A.xl 2 ?_
   obtain⟨x30,hv31,hF⟩:=A.bd_some hF
   refine A.AL.ixl 4 11 hv31 fun ho32=>?_
   intro b33 o34
   refine A.q0 [] [11] [.e 0 0] [(11,.agg #[.int .i64 x30.1.1,.string x30.1.2,.int .i64 x30.2])] ?_
   refine A.AL.alloc 12 (cs:=[.int .i64 0,.string (ByteArray.mk #[]),.int .i64 0]) Tryd.zeroValue58 fun g35=>?_
   refine A.sw 12 [] [.int .i64 x30.1.1,.string x30.1.2,.int .i64 x30.2] ?_
   refine A.dx 2 ?_
   refine A.AX.dr mixed 8 8 (A.mb 8 0) ?_
   refine A.hq A.pb [] [0,1,2,3,4,11,12] [12,0] [] (A.mb 8 63) 2 [(0,.n),(4,.n),(1,.n),(5,.b 0 0),(2,.n),(3,.b 1 10)] [(17,.agg #[.int .i64 x30.1.1,.string x30.1.2]),(15,.map (some b13_))] ?_
   obtain⟨x36,hv37,hF⟩:=A.lt_some hF
   refine A.okm (t:=(Z.Ty.int .i64)) 3 (x30.1.1,x30.1.2) (z:=(0:Int)) (zs:=[.int .i64 0]) ⟨rfl,by decide⟩ hv37 fun ho38=>?_
   refine A.AH.v A.pb [0,1,2,3,4,11,12] [0,1,2,3,4,11,12] 6 (A.mb 8 127) rfl (fun a w hf hh=>A.r_lkf (t:=(Z.Ty.int .i64)) (ok:=false) (z:=(0:Int)) (zs:=[.int .i64 0]) 3 ky46 (x30.1.1,x30.1.2) Tryd.zeroValue2 ⟨rfl,by decide⟩ hv37 rfl hf hh) ?_
   refine A.hq A.pb [0,1,2,3,4,11,12] [0,1,2,3,4,11,12] [] [] (A.mb 8 255) 0 [(7,.n)] [(19,.bool (decide (x36=0)))] ?_
   refine A.AH.done ?_
   refine A.ex 1 ?_
   refine A.AX.cnd rfl hF (fun hb hF=>?_) (fun hb hF=>?_)
   ·refine A.xx 1 ?_
    refine A.AX.dr mixed 6 7 (A.mb 7 0) ?_
    refine A.hq A.pb [] [0,1,2,3,4,11,12] [12,0] [] (A.mb 7 63) 1 [(0,.n),(4,.n),(1,.n),(5,.b 0 0),(2,.n),(3,.b 1 10)] [(25,.agg #[.int .i64 x30.1.1,.string x30.1.2]),(23,.map (some b13_))] ?_
    refine A.AH.one 6 ?_
    refine A.AL.mup (t:=(Z.Ty.int .i64)) 3 [] (cs:=[.int .i64 1]) (u:=1) ky46 (x30.1.1,x30.1.2) ⟨rfl,(A.hasl .i64 (1) rfl)⟩ ?_
    refine A.AH.nm (A.mb 7 127) ?_
    refine A.AH.done ?_
    refine A.ex 1 ?_
    refine A.AX.dr mixed 11 12 (A.mb 12 0) ?_
    refine A.hq A.pb [] [0,1,3,4,11,12] [12,0] [] (A.mb 12 127) 5 [(0,.n),(1,.n),(5,.n),(2,.n),(6,.b 0 0),(3,.n),(4,.b 1 9)] [(26,.pointer (some ⟨g0_,0,none⟩)),(32,.agg #[.int .i64 x30.1.1,.string x30.1.2]),(30,.slice A1 ((xs3).length) c2)] ?_
    refine A.AH.one 7 ?_
    refine A.AL.bsl 13 (ty:=T45) (cs:=[.int .i64 x30.1.1,.string x30.1.2]) [(x30.1.1,x30.1.2)] ⟨⟨⟨rfl,ho32.1.1⟩,⟨rfl,ho32.1.2⟩⟩,rfl⟩ (fun g39=>?_) Tryd.zeroValue46 Tryd.sizeOf46
    refine A.AH.nx (A.mb 12 255) [0,1,3,4,11,12] ?_
    refine A.AH.one 8 ?_
    obtain⟨hl42,hF⟩:=A.gd_some hF
    refine A.AL.app (k:=2) [] (A.rowO (k:=13) rfl) inf46 hl42 fun A40 c41=>?_
    refine A.AH.nx (A.mb 12 511) [0,1,3,4,11,12] ?_
    refine A.hq A.pb [0,1,3,4,11,12] [0,1,2,3,4,11,12,13] [] [] (A.mb 12 2047) 1 [(9,.n),(10,.n)] [(36,.pointer (some ⟨g0_,9,none⟩))] ?_
    refine A.AH.one 11 ?_
    refine A.AL.store 0 [] (new:=[.slice A40 ((xs3++[(x30.1.1,x30.1.2)]).length) c41]) (cs':=[.int .i64 y5,.int .i64 y7,.slice A3_ ((a0.1.2.2.1).length) c4_,.int .i64 y9,.int .i64 y11,.string y13,.string y15,.int .i64 y17,.int .i64 y19,.slice A40 ((xs3++[(x30.1.1,x30.1.2)]).length) c41,.map (some b13_)]) ?_
    refine A.AH.nm (A.mb 12 4095) ?_
    refine A.AH.done ?_
    refine A.ee 1 ?_
    exact A.j ⟨(xs3++[(x30.1.1,x30.1.2)]),(Z.mins m4 (x30.1.1,x30.1.2) 1),A40,c41,rfl,rfl,hF⟩
   refine A.xe 2 ?_
   exact A.j ⟨xs3,m4,A1,c2,rfl,rfl,hF⟩
  rintro _ _ ⟨xs26,m28,A24,c25,rfl,rfl,hF⟩
  rw[F.oper_teller_fresh_j1]at hF
  refine A.xl 0 ?_
  obtain⟨hc29,hF⟩:=A.gd_some hF
  refine A.q [] [] [.n,.n] [Z.R64 (y21+1)] [(8,.int .i64 (y21+1))] hc29 ?_
  refine A.AL.done ?_
  exact A.j ⟨_,Nat.lt_succ_self _,⟨xs26,m28,y5,y7,y9,y11,y13,y15,y17,y19,(y21+1),A24,c25,rfl,rfl,hy6,hy8,hy10,hy12,hy14,hy16,hy18,hy20,(Z.i64_has hc29),hF⟩⟩
 refine A.xe 1 ?_
 obtain rfl:=Option.some.inj hF
 exact A.AE.ret [(0,0),(1,1),(2,2),(3,3)] (.tuple #[]) (fun a w hf hh=>Z.res0 rfl w) (⟨A3_,c4_,A1,c2,b13_,rfl,rfl,hy6,hy8,hy10,hy12,hy14,hy16,hy18,hy20⟩)
def F.slices_Compact_api_Rec_api_Rec_j1 (k4:(List D45)→Int→Int→Option (List D45))(y22:Int)(xs27:List D45)(y29:Int):Option (List D45):=A.gd (Z.R64 (y22+1)) (k4 xs27 y29 (y22+1))
def F.slices_Compact_api_Rec_api_Rec_l2 (a0:(List D45))(y1:Int):Nat→(List D45)→Int→Int→Option (List D45)
 |0,_,_,_=>none
 |f+1,xs18,y20,y22=>if y22<(((a0).length -y1.toNat:Nat):Int)then(A.gd (Z.R64 (y22-1)) (A.gd (y1.toNat≤(xs18).length) ((A.ix (List.drop y1.toNat xs18) y22).bind fun x33=>(A.gd (y1.toNat≤(xs18).length) ((A.ix (List.drop y1.toNat xs18) (y22-1)).bind fun x40=>(if(x33.1,x33.2)≠(x40.1,x40.2)then(A.gd (y1.toNat≤(xs18).length) ((A.ix (List.drop y1.toNat xs18) y22).bind fun x47=>((A.ix xs18 y20).bind fun x53=>(A.gd (Z.R64 (y20+1)) (F.slices_Compact_api_Rec_api_Rec_j1 (F.slices_Compact_api_Rec_api_Rec_l2 a0 y1 f) y22 (xs18.set y20.toNat (x47.1,x47.2)) (y20+1))))))else(F.slices_Compact_api_Rec_api_Rec_j1 (F.slices_Compact_api_Rec_api_Rec_l2 a0 y1 f) y22 xs18 y20)))))))else(A.gd (0≤y20∧y20.toNat≤(xs18).length) (A.gd (0≤y20∧y20.toNat≤(List.take y20.toNat xs18++List.replicate ((xs18).length -y20.toNat) ((0,(ByteArray.mk #[])):D45)).length) (some (List.take y20.toNat (List.take y20.toNat xs18++List.replicate ((xs18).length -y20.toNat) ((0,(ByteArray.mk #[])):D45))))))
def F.slices_Compact_api_Rec_api_Rec_l3 (a0:(List D45)):Nat→Int→Option (List D45)
 |0,_=>none
 |f+1,y1=>if y1<((a0).length:Int)then(A.gd (Z.R64 (y1-1)) ((A.ix a0 y1).bind fun x5=>((A.ix a0 (y1-1)).bind fun x10=>(if(x5.1,x5.2)=(x10.1,x10.2)then(A.gd (0≤y1∧y1.toNat≤(a0).length) (F.slices_Compact_api_Rec_api_Rec_l2 a0 y1 A.FU a0 y1 1))else(A.gd (Z.R64 (y1+1)) ((F.slices_Compact_api_Rec_api_Rec_l3 a0 f) (y1+1)))))))else(some a0)
def F.slices_Compact_api_Rec_api_Rec (a0:(List D45)):Option (List D45):=if((a0).length:Int)<2 then(some a0)else(F.slices_Compact_api_Rec_api_Rec_l3 a0 A.FU 1)
theorem slices_Compact_api_Rec_api_Rec_ok (a0:(List D45))(A0_:Option Addr)(c1_:Nat)(r:(List D45))(hF:F.slices_Compact_api_Rec_api_Rec a0=some r):
    A.Ct Tryd.prog 26 [.slice A0_ ((a0).length) c1_] [(0,.own T45 46 A0_ c1_ a0)] (Z.obl A0_++[]) (fun v H'=>∃(A0':Option Addr) (c1':Nat),v=.slice A0' ((r).length) c1'∧H'=[(0,.sh (.slice T45) [.slice A0' (r).length c1'] r)]):=by
 refine A.Ct.enter Tryd.func26 rfl Tryd.ntmps26 rfl fun w0 F0=>?_
 rw[F.slices_Compact_api_Rec_api_Rec]at hF
 refine A.xl 1 ?_
 refine A.q0 [] [] [.n] [] ?_
 refine A.dl 3 ?_
 refine A.q0 [] [] [.n,.n,.n] [(8,.bool (decide (((a0).length:Int)<2)))] ?_
 refine A.dx 1 ?_
 refine A.AX.cnd rfl hF (fun hb hF=>?_) (fun hb hF=>?_)
 ·refine A.xl 1 ?_
  refine A.q0 [] [] [.n,.n] [(2,.slice A0_ ((a0).length) c1_)] ?_
  refine A.dx 1 ?_
  obtain rfl:=Option.some.inj hF
  refine A.frz 0 [] ?_
  exact A.rt1 [(0,0)] ⟨A0_,c1_,rfl,rfl⟩
 refine A.xl 4 ?_
 refine A.q0 [] [] [.n] [(3,.int .i64 1)] ?_
 refine A.dx 2 ?_
 refine A.lp_ [0] [0] (fun f nl nh=>∃(y1:Int),nl=[(3,.int .i64 y1)]∧nh=[]∧IntKind.i64.has y1∧F.slices_Compact_api_Rec_api_Rec_l3 a0 f y1=some r) ⟨1,rfl,rfl,(A.hasl .i64 (1) rfl),hF⟩ ?_
 rintro f3 _ _ ⟨y1,rfl,rfl,hy2,hF⟩
 rcases f3 with _|f3
 ·exact A.no0 hF
 rw[F.slices_Compact_api_Rec_api_Rec_l3]at hF
 refine A.xl 2 ?_
 refine A.q0 [] [] [.n,.n,.n,.n] [(13,.bool (decide (y1<((a0).length:Int))))] ?_
 refine A.dx 1 ?_
 refine A.AX.cnd rfl hF (fun hb hF=>?_) (fun hb hF=>?_)
 ·refine A.xx 5 ?_
  refine A.AX.dr mixed 10 10 (A.mb 10 0) ?_
  obtain⟨hc4,hF⟩:=A.gd_some hF
  refine A.AH.q A.pb [] [0] [] [] (A.mb 10 115) 5 [(0,.n),(1,.n),(4,.n),(5,.n),(6,.n)] [16,17,20,22] [Z.R64 (y1-1)] [(16,.slice A0_ ((a0).length) c1_),(17,.int .i64 y1),(20,.slice A0_ ((a0).length) c1_),(22,.int .i64 (y1-1))] hc4 ?_
  obtain⟨x5,hv6,hF⟩:=A.bd_some hF
  refine A.AH.pko 0 35 hv6 fun ho7=>?_
  intro g9 hA8
  refine A.AH.v A.pb [0] [0,35] 2 (A.mb 10 119) rfl (fun a w hf hh=>A.r_ixo (t:=T45) hv6 hA8 hf) ?_
  refine A.hq A.pb [0,35] [0,35] [] [35] (A.mb 10 127) 3 [(3,.e 0 0)] [(19,.agg #[.int .i64 x5.1,.string x5.2])] ?_
  obtain⟨x10,hv11,hF⟩:=A.bd_some hF
  refine A.AH.pko 0 36 hv11 fun ho12=>?_
  intro g14 hA13
  refine A.AH.v A.pb [0,35] [0,35,36] 7 (A.mb 10 255) rfl (fun a w hf hh=>A.r_ixo (t:=T45) hv11 hA13 hf) ?_
  refine A.hq A.pb [0,35,36] [0,35,36] [] [36] (A.mb 10 511) 1 [(8,.e 0 0)] [(24,.agg #[.int .i64 x10.1,.string x10.2])] ?_
  refine A.AH.v A.pb [0,35,36] [0,35,36] 9 (A.mb 10 1023) rfl (fun a w hf hh=>eqagg_eql46 (x:=(x5.1,x5.2)) (y:=(x10.1,x10.2)) (hf.eval rfl) (hf.eval rfl)) ?_
  refine A.AH.done ?_
  refine A.ex 1 ?_
  refine A.AX.cnd rfl hF (fun hb hF=>?_) (fun hb hF=>?_)
  ·refine A.xl 1 ?_
   refine A.q0 [] [] [.n,.n] [(26,.slice A0_ ((a0).length) c1_),(27,.int .i64 y1)] ?_
   obtain⟨hc15,hF⟩:=A.gd_some hF
   refine A.AL.cutv 0 (u:=y1.toNat) (Int.toNat_of_nonneg hc15.1).symm hc15.2 ?_
   refine A.q0 [] [] [.n] [(4,.slice (Z.cutA A0_ c1_ y1.toNat (T45).size) (((a0).length)-y1.toNat) (c1_-y1.toNat))] ?_
   refine A.dl 3 ?_
   refine A.q0 [] [] [.n] [(5,.int .i64 1)] ?_
   refine A.dx 2 ?_
   refine A.lp_ [0,4] [] (fun f nl nh=>∃(xs18:List D45),∃(y20:Int),∃(y22:Int),nl=[(3,.int .i64 y20),(5,.int .i64 y22)]∧nh=[(0,.own T45 46 A0_ c1_ xs18)]∧(a0).length=xs18.length∧IntKind.i64.has y20∧IntKind.i64.has y22∧F.slices_Compact_api_Rec_api_Rec_l2 a0 y1 f xs18 y20 y22=some r) ⟨a0,y1,1,rfl,rfl,rfl,hy2,(A.hasl .i64 (1) rfl),hF⟩ ?_
   rintro f24 _ _ ⟨xs18,y20,y22,rfl,rfl,hn19,hy21,hy23,hF⟩
   rcases f24 with _|f24
   ·exact A.no0 hF
   rw[F.slices_Compact_api_Rec_api_Rec_l2]at hF
   refine A.xl 2 ?_
   refine A.q0 [] [] [.n,.n,.n,.n] [(32,.bool (decide (y22<(((a0).length -y1.toNat:Nat):Int))))] ?_
   refine A.dx 1 ?_
   refine A.AX.cnd rfl hF (fun hb hF=>?_) (fun hb hF=>?_)
   ·refine A.xx 2 ?_
    refine A.AX.join [0,4,5] [] (fun nl nh=>∃(xs27:List D45),∃(y29:Int),nl=[(3,.int .i64 y29)]∧nh=[(0,.own T45 46 A0_ c1_ xs27)]∧(a0).length=xs27.length∧IntKind.i64.has y29∧F.slices_Compact_api_Rec_api_Rec_j1 (F.slices_Compact_api_Rec_api_Rec_l2 a0 y1 f24) y22 xs27 y29=some r) ?_ ?_
    ·refine A.xx 2 ?_
     refine A.AX.dr mixed 10 10 (A.mb 10 0) ?_
     obtain⟨hc32,hF⟩:=A.gd_some hF
     refine A.AH.q A.pb [] [0] [] [] (A.mb 10 115) 5 [(0,.n),(1,.n),(4,.n),(5,.n),(6,.n)] [35,36,39,41] [Z.R64 (y22-1)] [(35,.slice (Z.cutA A0_ c1_ y1.toNat (T45).size) (((a0).length)-y1.toNat) (c1_-y1.toNat)),(36,.int .i64 y22),(39,.slice (Z.cutA A0_ c1_ y1.toNat (T45).size) (((a0).length)-y1.toNat) (c1_-y1.toNat)),(41,.int .i64 (y22-1))] hc32 ?_
     obtain⟨hu37,hF⟩:=A.gd_some hF
     obtain⟨x33,hv34,hF⟩:=A.bd_some hF
     refine A.pkw 0 47 hv34 hu37 fun ho35=>?_
     intro b38 o39 hA36
     refine A.AH.v A.pb [0] [0,47] 2 (A.mb 10 119) rfl (fun a w hf hh=>A.r_ixa (t:=T45) hv34 hA36 hf (A.vw rfl (congrArg (fun z=>z-y1.toNat) hn19))) ?_
     refine A.hq A.pb [0,47] [0,47] [] [47] (A.mb 10 127) 3 [(3,.e 0 0)] [(38,.agg #[.int .i64 x33.1,.string x33.2])] ?_
     obtain⟨hu44,hF⟩:=A.gd_some hF
     obtain⟨x40,hv41,hF⟩:=A.bd_some hF
     refine A.pkw 0 48 hv41 hu44 fun ho42=>?_
     intro b45 o46 hA43
     refine A.AH.v A.pb [0,47] [0,47,48] 7 (A.mb 10 255) rfl (fun a w hf hh=>A.r_ixa (t:=T45) hv41 hA43 hf (A.vw rfl (congrArg (fun z=>z-y1.toNat) hn19))) ?_
     refine A.hq A.pb [0,47,48] [0,47,48] [] [48] (A.mb 10 511) 1 [(8,.e 0 0)] [(43,.agg #[.int .i64 x40.1,.string x40.2])] ?_
     refine A.AH.v A.pb [0,47,48] [0,47,48] 9 (A.mb 10 1023) rfl (fun a w hf hh=>eqagg_neq46 (x:=(x33.1,x33.2)) (y:=(x40.1,x40.2)) (hf.eval rfl) (hf.eval rfl)) ?_
     refine A.AH.done ?_
     refine A.ex 1 ?_
     refine A.AX.cnd rfl hF (fun hb hF=>?_) (fun hb hF=>?_)
     ·refine A.xl 1 ?_
      refine A.q0 [] [] [.n,.n,.n,.n] [(45,.slice A0_ ((a0).length) c1_),(46,.int .i64 y20),(47,.slice (Z.cutA A0_ c1_ y1.toNat (T45).size) (((a0).length)-y1.toNat) (c1_-y1.toNat)),(48,.int .i64 y22)] ?_
      obtain⟨hu52,hF⟩:=A.gd_some hF
      obtain⟨x47,hv48,hF⟩:=A.bd_some hF
      refine A.AL.ixw 0 49 hv48 hu52 (congrArg (fun z=>z-y1.toNat) hn19) fun ho49=>?_
      intro b50 o51
      refine A.q0 [] [49] [.e 0 0] [(50,.agg #[.int .i64 x47.1,.string x47.2])] ?_
      refine A.cst 45 (Z.slice_n (show(a0).length=(xs18).length from hn19)) ?_
      obtain⟨x53,hv54,hF⟩:=A.bd_some hF
      refine A.AL.ixo 0 50 hv54 fun ho55=>?_
      intro g56 hA57
      refine A.AL.setel 0 50 [47,48,49,50] (o:=0) (m:=2) (t:=T45) (new:=[.int .i64 x47.1,.string x47.2]) (es:=[.int .i64 x53.1,.string x53.2]) (x47.1,x47.2) hv54 hA57 ⟨⟨rfl,ho49.1⟩,⟨rfl,ho49.2⟩⟩ ?_
      refine A.dl 1 ?_
      obtain⟨hc58,hF⟩:=A.gd_some hF
      refine A.q [] [] [.n,.n,.n] [Z.R64 (y20+1)] [(3,.int .i64 (y20+1))] hc58 ?_
      refine A.de 1 ?_
      exact A.j ⟨(xs18.set y20.toNat (x47.1,x47.2)),(y20+1),rfl,rfl,(by rw[List.length_set];exact hn19),(Z.i64_has hc58),hF⟩
     refine A.xe 2 ?_
     exact A.j ⟨xs18,y20,rfl,rfl,hn19,hy21,hF⟩
    rintro _ _ ⟨xs27,y29,rfl,rfl,hn28,hy30,hF⟩
    rw[F.slices_Compact_api_Rec_api_Rec_j1]at hF
    refine A.xl 0 ?_
    obtain⟨hc31,hF⟩:=A.gd_some hF
    refine A.q [] [] [.n,.n,.n] [Z.R64 (y22+1)] [(5,.int .i64 (y22+1))] hc31 ?_
    refine A.AL.done ?_
    exact A.j ⟨_,Nat.lt_succ_self _,⟨xs27,y29,(y22+1),rfl,rfl,hn28,hy30,(Z.i64_has hc31),hF⟩⟩
   refine A.xl 3 ?_
   refine A.q0 [] [] [.n,.n] [(54,.slice A0_ ((a0).length) c1_),(55,.int .i64 y20)] ?_
   refine A.cst 54 (Z.slice_n (show(a0).length=(xs18).length from hn19)) ?_
   obtain⟨hc59,hF⟩:=A.gd_some hF
   refine A.AL.clr 0 [] (t:=T45) (u:=y20.toNat) (zs:=[.int .i64 0,.string (ByteArray.mk #[])]) ((0,(ByteArray.mk #[])):D45) (Int.toNat_of_nonneg hc59.1).symm hc59.2 Tryd.zeroValue46 ⟨⟨rfl,by decide⟩,⟨rfl,by decide⟩⟩ ?_ Tryd.sizeOf46
   refine A.dl 2 ?_
   refine A.q0 [] [] [.n,.n] [(57,.slice A0_ ((a0).length) c1_),(58,.int .i64 y20)] ?_
   refine A.cst 57 (Z.slice_n (show(a0).length=(List.take y20.toNat xs18++List.replicate ((xs18).length -y20.toNat) ((0,(ByteArray.mk #[])):D45)).length from(Eq.trans hn19 (by rw[List.length_append,List.length_take,List.length_replicate];omega)))) ?_
   obtain⟨hc60,hF⟩:=A.gd_some hF
   refine A.AL.cuto 0 [] (v:=y20.toNat) (Int.toNat_of_nonneg hc60.1).symm hc60.2 ?_
   refine A.q0 [] [] [.n] [(2,.slice A0_ ((List.take y20.toNat (List.take y20.toNat xs18++List.replicate ((xs18).length -y20.toNat) ((0,(ByteArray.mk #[])):D45))).length) c1_)] ?_
   refine A.dx 1 ?_
   obtain rfl:=Option.some.inj hF
   refine A.frz 0 [] ?_
   exact A.rt1 [(0,0)] ⟨A0_,c1_,rfl,rfl⟩
  refine A.xl 3 ?_
  obtain⟨hc63,hF⟩:=A.gd_some hF
  refine A.q [] [] [.n,.n,.n] [Z.R64 (y1+1)] [(3,.int .i64 (y1+1))] hc63 ?_
  refine A.AL.done ?_
  exact A.j ⟨_,Nat.lt_succ_self _,⟨(y1+1),rfl,rfl,(Z.i64_has hc63),hF⟩⟩
 refine A.xl 3 ?_
 refine A.q0 [] [] [.n,.n] [(2,.slice A0_ ((a0).length) c1_)] ?_
 refine A.dx 1 ?_
 obtain rfl:=Option.some.inj hF
 refine A.frz 0 [] ?_
 exact A.rt1 [(0,0)] ⟨A0_,c1_,rfl,rfl⟩
def F.oper_teller_entries_1 (a0:D41)(a1:D41):Option Int:=(F.cmp_Compare_int64 a0.2.1 a1.2.1).bind fun r3=>((F.strings_Compare a0.2.2.1 a1.2.2.1).bind fun r6=>((F.cmp_Or_int [r3,r6]).bind fun r10=>(some r10)))
theorem oper_teller_entries_1_ok (a0:D41)(a1:D41)(h0_:IntKind.i64.has a0.1)(h1_:IntKind.i64.has a0.2.1)(h2_:a0.2.2.1.size≤maxLen)(h3_:IntKind.i64.has a0.2.2.2)(h4_:IntKind.i64.has a1.1)(h5_:IntKind.i64.has a1.2.1)(h6_:a1.2.2.1.size≤maxLen)(h7_:IntKind.i64.has a1.2.2.2)(r:Int)(hF:F.oper_teller_entries_1 a0 a1=some r):
    A.Ct Tryd.prog 48 [.agg #[.int .i64 a0.1,.int .i64 a0.2.1,.string a0.2.2.1,.int .i64 a0.2.2.2],.agg #[.int .i64 a1.1,.int .i64 a1.2.1,.string a1.2.2.1,.int .i64 a1.2.2.2]] [] [] (fun v H'=>v=.int .i64 r∧H'=[]∧IntKind.i64.has r):=by
 refine A.Ct.enter Tryd.func48 rfl Tryd.ntmps48 rfl fun w0 F0=>?_
 rw[F.oper_teller_entries_1]at hF
 refine A.xl 1 ?_
 refine A.AL.box 0 (cs:=[.int .i64 a0.1,.int .i64 a0.2.1,.string a0.2.2.1,.int .i64 a0.2.2.2]) fun g1=>?_
 refine A.AL.box 1 (cs:=[.int .i64 a1.1,.int .i64 a1.2.1,.string a1.2.2.1,.int .i64 a1.2.2.2]) fun g2=>?_
 refine A.q0 [] [] [.n] [] ?_
 refine A.dx 2 ?_
 refine A.AX.dr mixed 13 13 (A.mb 13 0) ?_
 refine A.hq A.pb [] [0,1] [0,1] [] (A.mb 13 495) 5 [(0,.n),(2,.n),(5,.n),(7,.n),(1,.b 0 1),(3,.b 1 1),(6,.b 0 2),(8,.b 1 2)] [(6,.int .i64 a0.2.1),(8,.int .i64 a1.2.1),(11,.string a0.2.2.1),(13,.string a1.2.2.1)] ?_
 refine A.AH.one 4 ?_
 obtain⟨r3,hv4,hF⟩:=A.bd_some hF
 refine A.AL.call 2 [] (first:=[]) (cap:=[]) cf46 (cmp_Compare_int64_ok a0.2.1 a1.2.1 h1_ h5_ r3 hv4) .nil ?_
 rintro _ _ ⟨rfl,rfl,hr5⟩
 refine⟨by kernel_rfl,?_⟩
 refine A.AH.nx (A.mb 13 511) [0,1] ?_
 refine A.AH.one 9 ?_
 obtain⟨r6,hv7,hF⟩:=A.bd_some hF
 refine A.AL.call 42 [] (first:=[]) (cap:=[]) cf47 (strings_Compare_ok a0.2.2.1 a1.2.2.1 h2_ h6_ r6 hv7) .nil ?_
 rintro _ _ ⟨rfl,rfl,hr8⟩
 refine⟨by kernel_rfl,?_⟩
 refine A.AH.nx (A.mb 13 1023) [0,1] ?_
 refine A.AH.one 10 ?_
 refine A.AL.bsl 82 (ty:=(Z.Ty.int .i64)) (cs:=[.int .i64 r3,.int .i64 r6]) [r3,r6] ⟨⟨rfl,hr5⟩,⟨⟨rfl,hr8⟩,rfl⟩⟩ (fun g9=>?_) Tryd.zeroValue3 Tryd.sizeOf3
 refine A.AH.nx (A.mb 13 2047) [0,1] ?_
 refine A.AH.one 11 ?_
 obtain⟨r10,hv11,hF⟩:=A.bd_some hF
 refine A.AL.call 83 [] (first:=[]) (cap:=[]) cf45 (cmp_Or_int_ok [r3,r6] (some ⟨g9,0,none⟩) 2 r10 hv11) (.o 82 .nil) ?_
 rintro _ _ ⟨rfl,rfl,hr12⟩
 refine⟨by kernel_rfl,?_⟩
 refine A.AH.nx (A.mb 13 4095) [0,1] ?_
 refine A.hq A.pb [0,1] [0,1,82] [] [] (A.mb 13 8191) 0 [(12,.n)] [(4,.int .i64 r10)] ?_
 refine A.AH.done ?_
 refine A.ex 1 ?_
 obtain rfl:=Option.some.inj hF
 exact A.rt1 [] ⟨rfl,rfl,hr12⟩
end Go.Proofs.YtbljnlkhebiniaaDoor
end
section
set_option linter.unusedVariables false
set_option linter.unusedSimpArgs false
set_option maxRecDepth 20000
set_option maxHeartbeats 8000000
set_option synthInstance.maxSize 1000000
set_option synthInstance.maxHeartbeats 400000
namespace Go.Proofs.YtbljnlkhebiniaaDoor
open Go.RowKit
def F.slices_SortFunc_api_Entry_api_Entry_oper_teller_entries_1 (a0:List D41):Option (List D41):=A.gd (a0.length<4611686018427387904) (A.srtF (fun x y=>F.oper_teller_entries_1 x y) a0)
theorem slices_SortFunc_api_Entry_api_Entry_oper_teller_entries_1_ok (a0:List D41)(A0_:Option Addr)(c1_:Nat)(r:List D41)(hF:F.slices_SortFunc_api_Entry_api_Entry_oper_teller_entries_1 a0=some r):
    A.Ct Tryd.prog 12 [.slice A0_ ((a0).length) c1_,.func (.func 48) #[] #[]] [(0,.own T41 42 A0_ c1_ a0)] (Z.obl A0_++[]) (fun v H'=>v=.tuple #[]∧H'=[(0,.own T41 42 A0_ c1_ r)]∧(r).length=(a0).length):=by
 obtain⟨hc,hF⟩:=A.gd_some hF
 rw[List.append_nil]
 exact A.Ct.sortF (t:=T41) (e:=42) Tryd.laysSortFunc12 rfl rfl Tryd.isAgg42 Tryd.sizeOf42 A0_ c1_ 48 (fun x y=>F.oper_teller_entries_1 x y) cf48 (fun x y r hx hy h=>⟨_,oper_teller_entries_1_ok x y hx.1 hx.2.1 hx.2.2.1 hx.2.2.2 hy.1 hy.2.1 hy.2.2.1 hy.2.2.2 r h,fun v H' h=>h.1⟩) a0 r hc hF
def F.oper_teller_entries_l1 (a0:(D25×(List D45)×(List (D45×Int)))):Nat→(List Nat)→(List D41)→Option (List D41)
 |0,_,_=>none
 |f+1,sn19,xs23=>A.dem a0.2.2 sn19 ((F.slices_SortFunc_api_Entry_api_Entry_oper_teller_entries_1 xs23).bind fun r25=>(some r25)) fun i29 p28=>(A.gd (decide (IntKind.i64.has p28.1.1)=true∧p28.1.2.size≤maxLen) (A.gd ((List.length (α:=D41) xs23+List.length (α:=D41) [(a0.1.1,p28.1.1,p28.1.2,p28.2)])*40≤140737488355328) ((F.oper_teller_entries_l1 a0 f) (i29::sn19) (xs23++[(a0.1.1,p28.1.1,p28.1.2,p28.2)]))))
def F.oper_teller_entries (a0:(D25×(List D45)×(List (D45×Int)))):Option (List D41):=F.oper_teller_entries_l1 a0 A.FU [] []
theorem oper_teller_entries_ok (a0:(D25×(List D45)×(List (D45×Int))))(g0_:Nat)(A3_:Option Addr)(c4_:Nat)(A11_:Option Addr)(n12_:Nat)(c13_:Nat)(b14_:Nat)(h1_:IntKind.i64.has a0.1.1)(h2_:IntKind.i64.has a0.1.2.1)(h5_:IntKind.i64.has a0.1.2.2.2.1.1)(h6_:IntKind.i64.has a0.1.2.2.2.1.2.1)(h7_:a0.1.2.2.2.1.2.2.size≤maxLen)(h8_:a0.1.2.2.2.2.1.size≤maxLen)(h9_:IntKind.i64.has a0.1.2.2.2.2.2.1)(h10_:IntKind.i64.has a0.1.2.2.2.2.2.2)(r:(List D41))(hF:F.oper_teller_entries a0=some r):
    A.Ct Tryd.prog 27 [.pointer (some ⟨g0_,0,none⟩)] [(0,.blk g0_ 65 [.int .i64 a0.1.1,.int .i64 a0.1.2.1,.slice A3_ ((a0.1.2.2.1).length) c4_,.int .i64 a0.1.2.2.2.1.1,.int .i64 a0.1.2.2.2.1.2.1,.string a0.1.2.2.2.1.2.2,.string a0.1.2.2.2.2.1,.int .i64 a0.1.2.2.2.2.2.1,.int .i64 a0.1.2.2.2.2.2.2,.slice A11_ n12_ c13_,.map (some b14_)]),(1,.sh (.slice (Z.Ty.int .i64)) [.slice A3_ (a0.1.2.2.1).length c4_] a0.1.2.2.1),(2,.mp D45 (fun x:D45=>.agg #[.int .i64 x.1,.string x.2]) (Z.Ty.int .i64) false b14_ a0.2.2)] ([g0_]++([b14_]++[])) (fun v H'=>∃(A0':Option Addr) (c1':Nat),v=.slice A0' ((r).length) c1'∧H'=[(0,.own T41 42 A0' c1' r),(1,.blk g0_ 65 [.int .i64 a0.1.1,.int .i64 a0.1.2.1,.slice A3_ ((a0.1.2.2.1).length) c4_,.int .i64 a0.1.2.2.2.1.1,.int .i64 a0.1.2.2.2.1.2.1,.string a0.1.2.2.2.1.2.2,.string a0.1.2.2.2.2.1,.int .i64 a0.1.2.2.2.2.2.1,.int .i64 a0.1.2.2.2.2.2.2,.slice A11_ n12_ c13_,.map (some b14_)]),(2,.sh (.slice (Z.Ty.int .i64)) [.slice A3_ (a0.1.2.2.1).length c4_] a0.1.2.2.1),(3,.mp D45 (fun x:D45=>.agg #[.int .i64 x.1,.string x.2]) (Z.Ty.int .i64) false b14_ a0.2.2)]):=by
 refine A.Ct.enter Tryd.func27 rfl Tryd.ntmps27 rfl fun w0 F0=>?_
 rw[F.oper_teller_entries]at hF
 refine A.xl 1 ?_
 refine A.q0 [] [] [.n] [] ?_
 refine A.dl 2 ?_
 refine A.q0 [] [] [.n] [(3,.slice none 0 0)] ?_
 refine A.dl 3 ?_
 refine A.q0 [0] [] [.n,.n,.n,.b 0 10] [(9,.map (some b14_))] ?_
 refine A.AL.rgm 2 3 fun g1=>?_
 refine A.dx 2 ?_
 refine A.nil 96 T41 42 ?_
 refine A.lp_ [0,10] [0,1,2] (fun f nl nh=>∃(sn19:List Nat),∃(xs23:List D41),∃(la20:Option (Value×Value)),∃(A21:Option Addr),∃(c22:Nat),nl=[(3,.slice A21 ((xs23).length) c22)]∧nh=[(3,.mit 2 g1 b14_ (a0.2.2).length sn19 la20),(96,.own T41 42 A21 c22 xs23)]∧F.oper_teller_entries_l1 a0 f sn19 xs23=some r) ⟨[],[],none,none,0,rfl,rfl,hF⟩ ?_
 rintro f24 _ _ ⟨sn19,xs23,la20,A21,c22,rfl,rfl,hF⟩
 rcases f24 with _|f24
 ·exact A.no0 hF
 rw[F.oper_teller_entries_l1]at hF
 refine A.xl 1 ?_
 obtain⟨hend39,hev40⟩:=A.dem_some hF
 refine A.AL.nxm 2 3 223 (fun hall=>?_) (fun i29 p28 hp30 hs31 ho32=>?_)
 ·replace hF:=hend39 hall
  refine A.q0 [] [] [.n] [(12,.bool false)] ?_
  refine A.dx 2 ?_
  refine A.AX.cnf rfl ?_
  refine A.xl 3 ?_
  refine A.q0 [] [] [.n] [(30,.slice A21 ((xs23).length) c22)] ?_
  obtain⟨r25,hv26,hF⟩:=A.bd_some hF
  refine A.AL.call 183 [] (first:=[]) (cap:=[]) cf12 (slices_SortFunc_api_Entry_api_Entry_oper_teller_entries_1_ok xs23 A21 c22 r25 hv26) (.m 96 .nil) ?_
  rintro _ _ ⟨rfl,rfl,hr27⟩
  refine⟨by kernel_rfl,?_⟩
  refine A.mvd 183 96 [] ?_
  refine A.dl 2 ?_
  refine A.q0 [] [] [.n,.n] [(2,.slice A21 ((xs23).length) c22)] ?_
  refine A.dx 1 ?_
  obtain rfl:=Option.some.inj hF
  refine A.cst 2 (Z.slice_n (show(xs23).length=(r25).length from(Eq.symm hr27))) ?_
  exact A.rt1 [(0,96),(1,0),(2,1),(3,2)] ⟨A21,c22,rfl,rfl⟩
 have hF:=hev40 i29 p28 hp30 hs31
 obtain⟨hkc33,hF⟩:=A.gd_some hF
 refine A.q0 [] [] [.n] [(12,.bool true)] ?_
 refine A.dx 2 ?_
 refine A.AX.cnt rfl ?_
 refine A.xl 4 ?_
 refine A.AL.ent 3 ?_
 refine A.q0 [] [] [.n,.n] [(14,.agg #[.int .i64 p28.1.1,.string p28.1.2]),(15,.int .i64 p28.2)] ?_
 refine A.AL.alloc 224 (cs:=[.int .i64 0,.string (ByteArray.mk #[])]) Tryd.zeroValue46 fun g34=>?_
 refine A.sw 224 [] [.int .i64 p28.1.1,.string p28.1.2] ?_
 refine A.q0 [] [] [.n] [(5,.int .i64 p28.2)] ?_
 refine A.dx 1 ?_
 refine A.AX.dr mixed 15 15 (A.mb 15 0) ?_
 refine A.hq A.pb [] [0,1,2,3,224] [224,0] [] (A.mb 15 4095) 3 [(0,.n),(1,.n),(6,.n),(8,.n),(10,.n),(2,.n),(7,.b 0 0),(9,.b 0 1),(3,.n),(4,.n),(5,.b 1 0),(11,.n)] [(16,.slice A21 ((xs23).length) c22),(27,.agg #[.int .i64 a0.1.1,.int .i64 p28.1.1,.string p28.1.2,.int .i64 p28.2])] ?_
 refine A.AH.one 12 ?_
 refine A.AL.bsl 225 (ty:=T41) (cs:=[.int .i64 a0.1.1,.int .i64 p28.1.1,.string p28.1.2,.int .i64 p28.2]) [(a0.1.1,p28.1.1,p28.1.2,p28.2)] ⟨⟨⟨rfl,h1_⟩,⟨rfl,(of_decide_eq_true hkc33.1)⟩,⟨rfl,hkc33.2⟩,⟨rfl,ho32⟩⟩,rfl⟩ (fun g35=>?_) Tryd.zeroValue42 Tryd.sizeOf42
 refine A.AH.nx (A.mb 15 8191) [0,1,2,3,224] ?_
 refine A.AH.one 13 ?_
 obtain⟨hl38,hF⟩:=A.gd_some hF
 refine A.AL.app (k:=96) [] (A.rowO (k:=225) rfl) inf42 hl38 fun A36 c37=>?_
 refine A.AH.nx (A.mb 15 16383) [0,1,2,3,224] ?_
 refine A.hq A.pb [0,1,2,3,224] [0,1,2,3,96,224,225] [] [] (A.mb 15 32767) 0 [(14,.n)] [(3,.slice A36 ((xs23++[(a0.1.1,p28.1.1,p28.1.2,p28.2)]).length) c37)] ?_
 refine A.AH.done ?_
 refine A.ee 1 ?_
 exact A.j ⟨_,Nat.lt_succ_self _,⟨(i29::sn19),(xs23++[(a0.1.1,p28.1.1,p28.1.2,p28.2)]),(some (.agg #[.int .i64 p28.1.1,.string p28.1.2],.int .i64 p28.2)),A36,c37,rfl,rfl,hF⟩⟩
def F.slices_SortFunc_api_Rec_api_Rec_rec_Compare (a0:List D45):Option (List D45):=A.gd (a0.length<4611686018427387904) (A.srtF (fun x y=>F.rec_Compare x y) a0)
theorem slices_SortFunc_api_Rec_api_Rec_rec_Compare_ok (a0:List D45)(A0_:Option Addr)(c1_:Nat)(r:List D45)(hF:F.slices_SortFunc_api_Rec_api_Rec_rec_Compare a0=some r):
    A.Ct Tryd.prog 10 [.slice A0_ ((a0).length) c1_,.func (.func 25) #[] #[]] [(0,.own T45 46 A0_ c1_ a0)] (Z.obl A0_++[]) (fun v H'=>v=.tuple #[]∧H'=[(0,.own T45 46 A0_ c1_ r)]∧(r).length=(a0).length):=by
 obtain⟨hc,hF⟩:=A.gd_some hF
 rw[List.append_nil]
 exact A.Ct.sortF (t:=T45) (e:=46) Tryd.laysSortFunc10 rfl rfl Tryd.isAgg46 Tryd.sizeOf46 A0_ c1_ 25 (fun x y=>F.rec_Compare x y) cf25 (fun x y r hx hy h=>⟨_,rec_Compare_ok x y hx.1 hx.2 hy.1 hy.2 r h,fun v H' h=>h.1⟩) a0 r hc hF
def F.oper_Tell_j1 (a0:D25)(xs21:List Int)(m23:List (D45×Int))(xs26:List D45)(y27:Int)(y29:Int)(y31:Int)(y33:Int)(y35:ByteArray)(y37:ByteArray)(y39:Int)(y41:Int):Option ((List D45)×(List D41)×Int):=(F.slices_SortFunc_api_Rec_api_Rec_rec_Compare xs26).bind fun r43=>((F.slices_Compact_api_Rec_api_Rec r43).bind fun r46=>(if a0.2.1=10 then(some (r46,[],0))else((F.oper_teller_entries ((y27,y29,xs21,(y31,y33,y35),y37,y39,y41),[],m23)).bind fun r50=>(some (r46,r50,0)))))
def F.oper_Tell_l2 (a0:D25)(a2:(List D57))(a3:(List D57))(a4:(List D41)):Nat→(List (D45×Int))→Int→Option ((List D45)×(List D41)×Int)
 |0,_,_=>none
 |f+1,m8,y9=>if y9<((a4).length:Int)then((A.ix a4 y9).bind fun x12=>(A.gd (Z.R64 (y9+1)) ((F.oper_Tell_l2 a0 a2 a3 a4 f) (Z.mins m8 (x12.2.1,x12.2.2.1) x12.2.2.2) (y9+1))))else(if a0.2.1=7 then((F.oper_teller_counts ((a0.1,a0.2.1,a0.2.2.1,(a0.2.2.2.1.1,a0.2.2.2.1.2.1,a0.2.2.2.1.2.2),a0.2.2.2.2.1,a0.2.2.2.2.2.1,a0.2.2.2.2.2.2),[],m8) a2).bind fun r54=>(F.oper_Tell_j1 a0 r54.1.2.2.1 r54.2.2 r54.2.1 r54.1.1 r54.1.2.1 r54.1.2.2.2.1.1 r54.1.2.2.2.1.2.1 r54.1.2.2.2.1.2.2 r54.1.2.2.2.2.1 r54.1.2.2.2.2.2.1 r54.1.2.2.2.2.2.2))else(if a0.2.1=8 then((F.oper_teller_reduces ((a0.1,a0.2.1,a0.2.2.1,(a0.2.2.2.1.1,a0.2.2.2.1.2.1,a0.2.2.2.1.2.2),a0.2.2.2.2.1,a0.2.2.2.2.2.1,a0.2.2.2.2.2.2),[],m8) a2).bind fun r69=>(F.oper_Tell_j1 a0 r69.1.2.2.1 r69.2.2 r69.2.1 r69.1.1 r69.1.2.1 r69.1.2.2.2.1.1 r69.1.2.2.2.1.2.1 r69.1.2.2.2.1.2.2 r69.1.2.2.2.2.1 r69.1.2.2.2.2.2.1 r69.1.2.2.2.2.2.2))else(if a0.2.1=9 then((F.oper_teller_joins ((a0.1,a0.2.1,a0.2.2.1,(a0.2.2.2.1.1,a0.2.2.2.1.2.1,a0.2.2.2.1.2.2),a0.2.2.2.2.1,a0.2.2.2.2.2.1,a0.2.2.2.2.2.2),[],m8) a2 a3).bind fun r84=>(F.oper_Tell_j1 a0 r84.1.2.2.1 r84.2.2 r84.2.1 r84.1.1 r84.1.2.1 r84.1.2.2.2.1.1 r84.1.2.2.2.1.2.1 r84.1.2.2.2.1.2.2 r84.1.2.2.2.2.1 r84.1.2.2.2.2.2.1 r84.1.2.2.2.2.2.2))else(if a0.2.1=11 then((F.oper_teller_totals ((a0.1,a0.2.1,a0.2.2.1,(a0.2.2.2.1.1,a0.2.2.2.1.2.1,a0.2.2.2.1.2.2),a0.2.2.2.2.1,a0.2.2.2.2.2.1,a0.2.2.2.2.2.2),[],m8) a2).bind fun r99=>(F.oper_Tell_j1 a0 r99.1.2.2.1 r99.2.2 r99.2.1 r99.1.1 r99.1.2.1 r99.1.2.2.2.1.1 r99.1.2.2.2.1.2.1 r99.1.2.2.2.1.2.2 r99.1.2.2.2.2.1 r99.1.2.2.2.2.2.1 r99.1.2.2.2.2.2.2))else((F.oper_teller_fresh ((a0.1,a0.2.1,a0.2.2.1,(a0.2.2.2.1.1,a0.2.2.2.1.2.1,a0.2.2.2.1.2.2),a0.2.2.2.2.1,a0.2.2.2.2.2.1,a0.2.2.2.2.2.2),[],m8) a2).bind fun r114=>(F.oper_Tell_j1 a0 r114.1.2.2.1 r114.2.2 r114.2.1 r114.1.1 r114.1.2.1 r114.1.2.2.2.1.1 r114.1.2.2.2.1.2.1 r114.1.2.2.2.1.2.2 r114.1.2.2.2.2.1 r114.1.2.2.2.2.2.1 r114.1.2.2.2.2.2.2))))))
def F.oper_Tell (a0:D25)(a1:D28)(a2:(List D57))(a3:(List D57))(a4:(List D41)):Option ((List D45)×(List D41)×Int):=(F.oper_may (a0.1,a0.2.1,a0.2.2.1,(a0.2.2.2.1.1,a0.2.2.2.1.2.1,a0.2.2.2.1.2.2),a0.2.2.2.2.1,a0.2.2.2.2.2.1,a0.2.2.2.2.2.2) (a1.1,a1.2.1,(a1.2.2.1,a1.2.2.2.1,a1.2.2.2.2.1,a1.2.2.2.2.2)) a2 a3 a4).bind fun r3=>(if r3≠0 then(some ([],[],r3))else(F.oper_Tell_l2 a0 a2 a3 a4 A.FU [] 0))
theorem oper_Tell_ok (a0:D25)(a1:D28)(a2:(List D57))(a3:(List D57))(a4:(List D41))(A2_:Option Addr)(c3_:Nat)(A16_:Option Addr)(c17_:Nat)(A18_:Option Addr)(c19_:Nat)(A20_:Option Addr)(c21_:Nat)(h0_:IntKind.i64.has a0.1)(h1_:IntKind.i64.has a0.2.1)(h4_:IntKind.i64.has a0.2.2.2.1.1)(h5_:IntKind.i64.has a0.2.2.2.1.2.1)(h6_:a0.2.2.2.1.2.2.size≤maxLen)(h7_:a0.2.2.2.2.1.size≤maxLen)(h8_:IntKind.i64.has a0.2.2.2.2.2.1)(h9_:IntKind.i64.has a0.2.2.2.2.2.2)(h10_:IntKind.i64.has a1.1)(h11_:IntKind.i64.has a1.2.1)(h12_:IntKind.i64.has a1.2.2.1)(h13_:IntKind.i64.has a1.2.2.2.1)(h14_:IntKind.i64.has a1.2.2.2.2.1)(h15_:IntKind.i64.has a1.2.2.2.2.2)(r:(List D45)×(List D41)×Int)(hF:F.oper_Tell a0 a1 a2 a3 a4=some r):
    A.Ct Tryd.prog 8 [.agg #[.int .i64 a0.1,.int .i64 a0.2.1,.slice A2_ ((a0.2.2.1).length) c3_,.int .i64 a0.2.2.2.1.1,.int .i64 a0.2.2.2.1.2.1,.string a0.2.2.2.1.2.2,.string a0.2.2.2.2.1,.int .i64 a0.2.2.2.2.2.1,.int .i64 a0.2.2.2.2.2.2],.agg #[.int .i64 a1.1,.int .i64 a1.2.1,.int .i64 a1.2.2.1,.int .i64 a1.2.2.2.1,.int .i64 a1.2.2.2.2.1,.int .i64 a1.2.2.2.2.2],.slice A16_ ((a2).length) c17_,.slice A18_ ((a3).length) c19_,.slice A20_ ((a4).length) c21_] [(0,.sh (.slice (Z.Ty.int .i64)) [.slice A2_ (a0.2.2.1).length c3_] a0.2.2.1),(1,.sh (.slice T57) [.slice A16_ (a2).length c17_] a2),(2,.sh (.slice T57) [.slice A18_ (a3).length c19_] a3),(3,.ln T41 A20_ c21_ a4),(4,.el none 1 0 A.tabF),(5,.el none 2 0 A.tabA)] [] (fun v H'=>∃(A0':Option Addr) (c1':Nat) (A2':Option Addr) (c3':Nat),v=.tuple #[.slice A0' ((r.1).length) c1',.slice A2' ((r.2.1).length) c3',.int .i64 r.2.2]∧H'=[(0,.sh (.slice T45) [.slice A0' (r.1).length c1'] r.1),(1,.sh (.slice T41) [.slice A2' (r.2.1).length c3'] r.2.1)]∧IntKind.i64.has r.2.2):=by
 refine A.Ct.enter Tryd.func8 rfl Tryd.ntmps8 rfl fun w0 F0=>?_
 rw[F.oper_Tell]at hF
 refine A.xl 1 ?_
 refine A.AL.box 6 (cs:=[.int .i64 a0.1,.int .i64 a0.2.1,.slice A2_ ((a0.2.2.1).length) c3_,.int .i64 a0.2.2.2.1.1,.int .i64 a0.2.2.2.1.2.1,.string a0.2.2.2.1.2.2,.string a0.2.2.2.2.1,.int .i64 a0.2.2.2.2.2.1,.int .i64 a0.2.2.2.2.2.2]) fun g1=>?_
 refine A.AL.box 7 (cs:=[.int .i64 a1.1,.int .i64 a1.2.1,.int .i64 a1.2.2.1,.int .i64 a1.2.2.2.1,.int .i64 a1.2.2.2.2.1,.int .i64 a1.2.2.2.2.2]) fun g2=>?_
 refine A.q0 [] [] [.n,.n,.n] [] ?_
 refine A.dl 3 ?_
 refine A.q0 [6,7] [] [.b 0 0,.b 1 0,.n,.n,.n] [(18,.agg #[.int .i64 a0.1,.int .i64 a0.2.1,.slice A2_ ((a0.2.2.1).length) c3_,.int .i64 a0.2.2.2.1.1,.int .i64 a0.2.2.2.1.2.1,.string a0.2.2.2.1.2.2,.string a0.2.2.2.2.1,.int .i64 a0.2.2.2.2.2.1,.int .i64 a0.2.2.2.2.2.2]),(19,.agg #[.int .i64 a1.1,.int .i64 a1.2.1,.int .i64 a1.2.2.1,.int .i64 a1.2.2.2.1,.int .i64 a1.2.2.2.2.1,.int .i64 a1.2.2.2.2.2]),(20,.slice A16_ ((a2).length) c17_),(21,.slice A18_ ((a3).length) c19_),(22,.slice A20_ ((a4).length) c21_)] ?_
 obtain⟨r3,hv4,hF⟩:=A.bd_some hF
 refine A.AL.call 8 [] (first:=[]) (cap:=[]) cf19 (oper_may_ok (a0.1,a0.2.1,a0.2.2.1,(a0.2.2.2.1.1,a0.2.2.2.1.2.1,a0.2.2.2.1.2.2),a0.2.2.2.2.1,a0.2.2.2.2.2.1,a0.2.2.2.2.2.2) (a1.1,a1.2.1,(a1.2.2.1,a1.2.2.2.1,a1.2.2.2.2.1,a1.2.2.2.2.2)) a2 a3 a4 A2_ c3_ A16_ c17_ A18_ c19_ A20_ c21_ h0_ h1_ h4_ h5_ h6_ h7_ h8_ h9_ h10_ h11_ h12_ h13_ h14_ h15_ r3 hv4) (.s 0 (.l 1 (.l 2 (.s 3 (.s 4 (.s 5 .nil)))))) ?_
 rintro _ _ ⟨rfl,rfl,hr5⟩
 refine⟨by kernel_rfl,?_⟩
 refine A.q0 [] [] [.n] [(13,.int .i64 r3)] ?_
 refine A.dl 2 ?_
 refine A.q0 [] [] [.n,.n] [(25,.bool (decide (r3≠0)))] ?_
 refine A.dx 1 ?_
 refine A.AX.cnd rfl hF (fun hb hF=>?_) (fun hb hF=>?_)
 ·refine A.xl 1 ?_
  refine A.q0 [] [] [.n,.n,.n,.n] [(10,.slice none 0 0),(11,.slice none 0 0),(12,.int .i64 r3)] ?_
  refine A.dx 1 ?_
  obtain rfl:=Option.some.inj hF
  refine A.snil 48 T45 ?_
  refine A.snil 49 T41 ?_
  exact A.AX.ret [(0,48),(1,49)] (.tuple #[.slice none 0 0,.slice none 0 0,.int .i64 r3]) (fun a w hf hh=>Z.resv3 rfl (Z.rv_t hf rfl) (Z.rv_t hf rfl) (Z.rv_t hf rfl)) (⟨none,0,none,0,rfl,rfl,hr5⟩)
 refine A.xl 3 ?_
 refine A.q0 [6] [] [.b 0 0] [(27,.agg #[.int .i64 a0.1,.int .i64 a0.2.1,.slice A2_ ((a0.2.2.1).length) c3_,.int .i64 a0.2.2.2.1.1,.int .i64 a0.2.2.2.1.2.1,.string a0.2.2.2.1.2.2,.string a0.2.2.2.2.1,.int .i64 a0.2.2.2.2.2.1,.int .i64 a0.2.2.2.2.2.2])] ?_
 refine A.AL.mkm 50 D45 (fun x:D45=>.agg #[.int .i64 x.1,.string x.2]) (Z.Ty.int .i64) false fun b6=>?_
 refine A.q0 [] [] [.n] [(29,.agg #[.int .i64 a0.1,.int .i64 a0.2.1,.slice A2_ ((a0.2.2.1).length) c3_,.int .i64 a0.2.2.2.1.1,.int .i64 a0.2.2.2.1.2.1,.string a0.2.2.2.1.2.2,.string a0.2.2.2.2.1,.int .i64 a0.2.2.2.2.2.1,.int .i64 a0.2.2.2.2.2.2,.slice none 0 0,.map (some b6)])] ?_
 refine A.AL.box 51 (cs:=[.int .i64 a0.1,.int .i64 a0.2.1,.slice A2_ ((a0.2.2.1).length) c3_,.int .i64 a0.2.2.2.1.1,.int .i64 a0.2.2.2.1.2.1,.string a0.2.2.2.1.2.2,.string a0.2.2.2.2.1,.int .i64 a0.2.2.2.2.2.1,.int .i64 a0.2.2.2.2.2.2,.slice none 0 0,.map (some b6)]) fun g7=>?_
 refine A.q0 [] [] [.n] [(14,.pointer (some ⟨g7,0,none⟩))] ?_
 refine A.dl 3 ?_
 refine A.q0 [] [] [.n,.n,.n] [(31,.slice A20_ ((a4).length) c21_),(32,.int .i64 ((a4).length:Int)),(33,.int .i64 0)] ?_
 refine A.dx 2 ?_
 refine A.lp_ [2,3,5,14,31,32] [0,1,2,3,4,5,6,51] (fun f nl nh=>∃(m8:List (D45×Int)),∃(y9:Int),nl=[(33,.int .i64 y9)]∧nh=[(50,.mp D45 (fun x:D45=>.agg #[.int .i64 x.1,.string x.2]) (Z.Ty.int .i64) false b6 m8)]∧IntKind.i64.has y9∧F.oper_Tell_l2 a0 a2 a3 a4 f m8 y9=some r) ⟨[],0,rfl,rfl,(A.hasl .i64 (0) rfl),hF⟩ ?_
 rintro f11 _ _ ⟨m8,y9,rfl,rfl,hy10,hF⟩
 rcases f11 with _|f11
 ·exact A.no0 hF
 rw[F.oper_Tell_l2]at hF
 refine A.xl 1 ?_
 refine A.q0 [] [] [.n] [(34,.bool (decide (y9<((a4).length:Int))))] ?_
 refine A.dx 2 ?_
 refine A.AX.cnd rfl hF (fun hb hF=>?_) (fun hb hF=>?_)
 ·refine A.xl 5 ?_
  obtain⟨x12,hv13,hF⟩:=A.bd_some hF
  refine A.AL.ixl 3 1110 hv13 fun ho14=>?_
  intro b15 o16
  refine A.q0 [] [1110] [.e 0 0] [(36,.agg #[.int .i64 x12.1,.int .i64 x12.2.1,.string x12.2.2.1,.int .i64 x12.2.2.2])] ?_
  refine A.AL.alloc 1111 (cs:=[.int .i64 0,.int .i64 0,.string (ByteArray.mk #[]),.int .i64 0]) Tryd.zeroValue42 fun g17=>?_
  refine A.sw 1111 [] [.int .i64 x12.1,.int .i64 x12.2.1,.string x12.2.2.1,.int .i64 x12.2.2.2] ?_
  refine A.dx 1 ?_
  refine A.AX.dr mixed 11 12 (A.mb 12 0) ?_
  refine A.hq A.pb [] [0,1,2,3,4,5,6,50,51,1110,1111] [1111,51] [] (A.mb 12 2047) 1 [(0,.n),(4,.n),(6,.n),(9,.n),(1,.n),(5,.b 0 1),(7,.b 0 2),(10,.b 0 3),(2,.n),(8,.n),(3,.b 1 10)] [(47,.int .i64 x12.2.2.2),(45,.agg #[.int .i64 x12.2.1,.string x12.2.2.1]),(40,.map (some b6))] ?_
  refine A.AH.one 11 ?_
  refine A.AL.mup (t:=(Z.Ty.int .i64)) 50 [] (cs:=[.int .i64 x12.2.2.2]) (u:=x12.2.2.2) ky46 (x12.2.1,x12.2.2.1) ⟨rfl,ho14.2.2.2⟩ ?_
  refine A.AH.nm (A.mb 12 4095) ?_
  refine A.AH.done ?_
  refine A.el 2 ?_
  obtain⟨hc18,hF⟩:=A.gd_some hF
  refine A.q [] [] [.n,.n] [Z.R64 (y9+1)] [(33,.int .i64 (y9+1))] hc18 ?_
  refine A.AL.done ?_
  exact A.j ⟨_,Nat.lt_succ_self _,⟨(Z.mins m8 (x12.2.1,x12.2.2.1) x12.2.2.2),(y9+1),rfl,rfl,(Z.i64_has hc18),hF⟩⟩
 refine A.xx 2 ?_
 refine A.nil 1317 T45 46 ?_
 refine A.AX.join [5,14] [4,5,6] (fun nl nh=>∃(xs21:List Int),∃(m23:List (D45×Int)),∃(xs26:List D45),∃(y27:Int),∃(y29:Int),∃(y31:Int),∃(y33:Int),∃(y35:ByteArray),∃(y37:ByteArray),∃(y39:Int),∃(y41:Int),∃(A19:Option Addr),∃(c20:Nat),∃(b22:Nat),∃(A24:Option Addr),∃(c25:Nat),nl=[]∧nh=[(0,.sh (.slice (Z.Ty.int .i64)) [.slice A19 (xs21).length c20] xs21),(50,.mp D45 (fun x:D45=>.agg #[.int .i64 x.1,.string x.2]) (Z.Ty.int .i64) false b22 m23),(51,.blk g7 65 [.int .i64 y27,.int .i64 y29,.slice A19 ((xs21).length) c20,.int .i64 y31,.int .i64 y33,.string y35,.string y37,.int .i64 y39,.int .i64 y41,.slice A24 ((xs26).length) c25,.map (some b22)]),(1317,.own T45 46 A24 c25 xs26)]∧IntKind.i64.has y27∧IntKind.i64.has y29∧IntKind.i64.has y31∧IntKind.i64.has y33∧y35.size≤maxLen∧y37.size≤maxLen∧IntKind.i64.has y39∧IntKind.i64.has y41∧F.oper_Tell_j1 a0 xs21 m23 xs26 y27 y29 y31 y33 y35 y37 y39 y41=some r) ?_ ?_
 ·refine A.xl 1 ?_
  refine A.q0 [6] [] [.n,.b 0 1] [(50,.int .i64 a0.2.1)] ?_
  refine A.dl 3 ?_
  refine A.q0 [] [] [.n,.n] [(54,.bool (decide (a0.2.1=7)))] ?_
  refine A.dx 1 ?_
  refine A.AX.cnd rfl hF (fun hb hF=>?_) (fun hb hF=>?_)
  ·refine A.xl 0 ?_
   refine A.q0 [] [] [.n,.n] [(56,.pointer (some ⟨g7,0,none⟩)),(57,.slice A16_ ((a2).length) c17_)] ?_
   obtain⟨r54,hv55,hF⟩:=A.bd_some hF
   refine A.AL.call 1318 [] (first:=[]) (cap:=[]) cf20 (oper_teller_counts_ok ((a0.1,a0.2.1,a0.2.2.1,(a0.2.2.2.1.1,a0.2.2.2.1.2.1,a0.2.2.2.1.2.2),a0.2.2.2.2.1,a0.2.2.2.2.2.1,a0.2.2.2.2.2.2),[],m8) a2 g7 A2_ c3_ none 0 b6 A16_ c17_ h0_ h1_ h4_ h5_ h6_ h7_ h8_ h9_ r54 hv55) (.m 51 (.m 0 (.m 1317 (.m 50 (.s 1 (.s 4 (.s 5 .nil))))))) ?_
   rintro _ _ ⟨A58,c59,A66,c67,b68,rfl,rfl,hr56,hr57,hr60,hr61,hr62,hr63,hr64,hr65⟩
   refine⟨by kernel_rfl,?_⟩
   refine A.mvd 1318 51 [] ?_
   refine A.mvd 1319 0 [] ?_
   refine A.mvd 1320 1317 [] ?_
   refine A.mvd 1321 50 [] ?_
   refine A.de 1 ?_
   exact A.j ⟨r54.1.2.2.1,r54.2.2,r54.2.1,r54.1.1,r54.1.2.1,r54.1.2.2.2.1.1,r54.1.2.2.2.1.2.1,r54.1.2.2.2.1.2.2,r54.1.2.2.2.2.1,r54.1.2.2.2.2.2.1,r54.1.2.2.2.2.2.2,A58,c59,b68,A66,c67,rfl,rfl,hr56,hr57,hr60,hr61,hr62,hr63,hr64,hr65,hF⟩
  refine A.xl 1 ?_
  refine A.q0 [] [] [.n,.n] [(59,.bool (decide (a0.2.1=8)))] ?_
  refine A.dx 1 ?_
  refine A.AX.cnd rfl hF (fun hb hF=>?_) (fun hb hF=>?_)
  ·refine A.xl 0 ?_
   refine A.q0 [] [] [.n,.n] [(61,.pointer (some ⟨g7,0,none⟩)),(62,.slice A16_ ((a2).length) c17_)] ?_
   obtain⟨r69,hv70,hF⟩:=A.bd_some hF
   refine A.AL.call 1358 [] (first:=[]) (cap:=[]) cf21 (oper_teller_reduces_ok ((a0.1,a0.2.1,a0.2.2.1,(a0.2.2.2.1.1,a0.2.2.2.1.2.1,a0.2.2.2.1.2.2),a0.2.2.2.2.1,a0.2.2.2.2.2.1,a0.2.2.2.2.2.2),[],m8) a2 g7 A2_ c3_ none 0 b6 A16_ c17_ h0_ h1_ h4_ h5_ h6_ h7_ h8_ h9_ r69 hv70) (.m 51 (.m 0 (.m 1317 (.m 50 (.s 1 (.s 4 (.s 5 .nil))))))) ?_
   rintro _ _ ⟨A73,c74,A81,c82,b83,rfl,rfl,hr71,hr72,hr75,hr76,hr77,hr78,hr79,hr80⟩
   refine⟨by kernel_rfl,?_⟩
   refine A.mvd 1358 51 [] ?_
   refine A.mvd 1359 0 [] ?_
   refine A.mvd 1360 1317 [] ?_
   refine A.mvd 1361 50 [] ?_
   refine A.de 1 ?_
   exact A.j ⟨r69.1.2.2.1,r69.2.2,r69.2.1,r69.1.1,r69.1.2.1,r69.1.2.2.2.1.1,r69.1.2.2.2.1.2.1,r69.1.2.2.2.1.2.2,r69.1.2.2.2.2.1,r69.1.2.2.2.2.2.1,r69.1.2.2.2.2.2.2,A73,c74,b83,A81,c82,rfl,rfl,hr71,hr72,hr75,hr76,hr77,hr78,hr79,hr80,hF⟩
  refine A.xl 1 ?_
  refine A.q0 [] [] [.n,.n] [(64,.bool (decide (a0.2.1=9)))] ?_
  refine A.dx 1 ?_
  refine A.AX.cnd rfl hF (fun hb hF=>?_) (fun hb hF=>?_)
  ·refine A.xl 0 ?_
   refine A.q0 [] [] [.n,.n,.n] [(66,.pointer (some ⟨g7,0,none⟩)),(67,.slice A16_ ((a2).length) c17_),(68,.slice A18_ ((a3).length) c19_)] ?_
   obtain⟨r84,hv85,hF⟩:=A.bd_some hF
   refine A.AL.call 1398 [] (first:=[]) (cap:=[]) cf22 (oper_teller_joins_ok ((a0.1,a0.2.1,a0.2.2.1,(a0.2.2.2.1.1,a0.2.2.2.1.2.1,a0.2.2.2.1.2.2),a0.2.2.2.2.1,a0.2.2.2.2.2.1,a0.2.2.2.2.2.2),[],m8) a2 a3 g7 A2_ c3_ none 0 b6 A16_ c17_ A18_ c19_ h0_ h1_ h4_ h5_ h6_ h7_ h8_ h9_ r84 hv85) (.m 51 (.m 0 (.m 1317 (.m 50 (.s 1 (.s 2 (.s 4 (.s 5 .nil)))))))) ?_
   rintro _ _ ⟨A88,c89,A96,c97,b98,rfl,rfl,hr86,hr87,hr90,hr91,hr92,hr93,hr94,hr95⟩
   refine⟨by kernel_rfl,?_⟩
   refine A.mvd 1398 51 [] ?_
   refine A.mvd 1399 0 [] ?_
   refine A.mvd 1400 1317 [] ?_
   refine A.mvd 1401 50 [] ?_
   refine A.de 1 ?_
   exact A.j ⟨r84.1.2.2.1,r84.2.2,r84.2.1,r84.1.1,r84.1.2.1,r84.1.2.2.2.1.1,r84.1.2.2.2.1.2.1,r84.1.2.2.2.1.2.2,r84.1.2.2.2.2.1,r84.1.2.2.2.2.2.1,r84.1.2.2.2.2.2.2,A88,c89,b98,A96,c97,rfl,rfl,hr86,hr87,hr90,hr91,hr92,hr93,hr94,hr95,hF⟩
  refine A.xl 1 ?_
  refine A.q0 [] [] [.n,.n] [(70,.bool (decide (a0.2.1=11)))] ?_
  refine A.dx 1 ?_
  refine A.AX.cnd rfl hF (fun hb hF=>?_) (fun hb hF=>?_)
  ·refine A.xl 0 ?_
   refine A.q0 [] [] [.n,.n] [(72,.pointer (some ⟨g7,0,none⟩)),(73,.slice A16_ ((a2).length) c17_)] ?_
   obtain⟨r99,hv100,hF⟩:=A.bd_some hF
   refine A.AL.call 1438 [] (first:=[]) (cap:=[]) cf23 (oper_teller_totals_ok ((a0.1,a0.2.1,a0.2.2.1,(a0.2.2.2.1.1,a0.2.2.2.1.2.1,a0.2.2.2.1.2.2),a0.2.2.2.2.1,a0.2.2.2.2.2.1,a0.2.2.2.2.2.2),[],m8) a2 g7 A2_ c3_ none 0 b6 A16_ c17_ h0_ h1_ h4_ h5_ h6_ h7_ h8_ h9_ r99 hv100) (.m 51 (.m 0 (.m 1317 (.m 50 (.s 1 (.s 4 (.s 5 .nil))))))) ?_
   rintro _ _ ⟨A103,c104,A111,c112,b113,rfl,rfl,hr101,hr102,hr105,hr106,hr107,hr108,hr109,hr110⟩
   refine⟨by kernel_rfl,?_⟩
   refine A.mvd 1438 51 [] ?_
   refine A.mvd 1439 0 [] ?_
   refine A.mvd 1440 1317 [] ?_
   refine A.mvd 1441 50 [] ?_
   refine A.de 1 ?_
   exact A.j ⟨r99.1.2.2.1,r99.2.2,r99.2.1,r99.1.1,r99.1.2.1,r99.1.2.2.2.1.1,r99.1.2.2.2.1.2.1,r99.1.2.2.2.1.2.2,r99.1.2.2.2.2.1,r99.1.2.2.2.2.2.1,r99.1.2.2.2.2.2.2,A103,c104,b113,A111,c112,rfl,rfl,hr101,hr102,hr105,hr106,hr107,hr108,hr109,hr110,hF⟩
  refine A.xl 0 ?_
  refine A.q0 [] [] [.n,.n] [(51,.pointer (some ⟨g7,0,none⟩)),(52,.slice A16_ ((a2).length) c17_)] ?_
  obtain⟨r114,hv115,hF⟩:=A.bd_some hF
  refine A.AL.call 1478 [] (first:=[]) (cap:=[]) cf24 (oper_teller_fresh_ok ((a0.1,a0.2.1,a0.2.2.1,(a0.2.2.2.1.1,a0.2.2.2.1.2.1,a0.2.2.2.1.2.2),a0.2.2.2.2.1,a0.2.2.2.2.2.1,a0.2.2.2.2.2.2),[],m8) a2 g7 A2_ c3_ none 0 b6 A16_ c17_ h0_ h1_ h4_ h5_ h6_ h7_ h8_ h9_ r114 hv115) (.m 51 (.m 0 (.m 1317 (.m 50 (.l 1 .nil))))) ?_
  rintro _ _ ⟨A118,c119,A126,c127,b128,rfl,rfl,hr116,hr117,hr120,hr121,hr122,hr123,hr124,hr125⟩
  refine⟨by kernel_rfl,?_⟩
  refine A.mvd 1478 51 [] ?_
  refine A.mvd 1479 0 [] ?_
  refine A.mvd 1480 1317 [] ?_
  refine A.mvd 1481 50 [] ?_
  refine A.de 1 ?_
  exact A.j ⟨r114.1.2.2.1,r114.2.2,r114.2.1,r114.1.1,r114.1.2.1,r114.1.2.2.2.1.1,r114.1.2.2.2.1.2.1,r114.1.2.2.2.1.2.2,r114.1.2.2.2.2.1,r114.1.2.2.2.2.2.1,r114.1.2.2.2.2.2.2,A118,c119,b128,A126,c127,rfl,rfl,hr116,hr117,hr120,hr121,hr122,hr123,hr124,hr125,hF⟩
 rintro _ _ ⟨xs21,m23,xs26,y27,y29,y31,y33,y35,y37,y39,y41,A19,c20,b22,A24,c25,rfl,rfl,hy28,hy30,hy32,hy34,hy36,hy38,hy40,hy42,hF⟩
 rw[F.oper_Tell_j1]at hF
 refine A.xl 1 ?_
 refine A.q0 [51] [] [.n,.n,.n,.b 0 9] [(78,.slice A24 ((xs26).length) c25)] ?_
 obtain⟨r43,hv44,hF⟩:=A.bd_some hF
 refine A.AL.call 1518 [] (first:=[]) (cap:=[]) cf10 (slices_SortFunc_api_Rec_api_Rec_rec_Compare_ok xs26 A24 c25 r43 hv44) (.m 1317 .nil) ?_
 rintro _ _ ⟨rfl,rfl,hr45⟩
 refine⟨by kernel_rfl,?_⟩
 refine A.mvd 1518 1317 [] ?_
 refine A.dl 2 ?_
 refine A.q0 [51] [] [.n,.n,.n,.b 0 9] [(83,.slice A24 ((xs26).length) c25)] ?_
 refine A.cst 83 (Z.slice_n (show(xs26).length=(r43).length from(Eq.symm hr45))) ?_
 obtain⟨r46,hv47,hF⟩:=A.bd_some hF
 refine A.AL.call 1558 [] (first:=[]) (cap:=[]) cf26 (slices_Compact_api_Rec_api_Rec_ok r43 A24 c25 r46 hv47) (.m 1317 .nil) ?_
 rintro _ _ ⟨A48,c49,rfl,rfl⟩
 refine⟨by kernel_rfl,?_⟩
 refine A.q0 [] [] [.n] [(17,.slice A48 ((r46).length) c49)] ?_
 refine A.dl 3 ?_
 refine A.q0 [6] [] [.n,.b 0 1,.n] [(87,.bool (decide (a0.2.1=10)))] ?_
 refine A.dx 1 ?_
 refine A.AX.cnd rfl hF (fun hb hF=>?_) (fun hb hF=>?_)
 ·refine A.xl 1 ?_
  refine A.q0 [] [] [.n,.n,.n,.n] [(10,.slice A48 ((r46).length) c49),(11,.slice none 0 0),(12,.int .i64 0)] ?_
  refine A.dx 1 ?_
  obtain rfl:=Option.some.inj hF
  refine A.snil 1598 T41 ?_
  exact A.AX.ret [(0,1558),(1,1598)] (.tuple #[.slice A48 ((r46).length) c49,.slice none 0 0,.int .i64 0]) (fun a w hf hh=>Z.resv3 rfl (Z.rv_t hf rfl) (Z.rv_t hf rfl) (Z.rv_t hf rfl)) (⟨A48,c49,none,0,rfl,rfl,(A.hasl .i64 (0) rfl)⟩)
 refine A.xl 3 ?_
 refine A.q0 [] [] [.n,.n] [(89,.slice A48 ((r46).length) c49),(90,.pointer (some ⟨g7,0,none⟩))] ?_
 obtain⟨r50,hv51,hF⟩:=A.bd_some hF
 refine A.AL.call 1599 [] (first:=[]) (cap:=[]) cf27 (oper_teller_entries_ok ((y27,y29,xs21,(y31,y33,y35),y37,y39,y41),[],m23) g7 A19 c20 A24 ((xs26).length) c25 b22 hy28 hy30 hy32 hy34 hy36 hy38 hy40 hy42 r50 hv51) (.m 51 (.m 0 (.m 50 .nil))) ?_
 rintro _ _ ⟨A52,c53,rfl,rfl⟩
 refine⟨by kernel_rfl,?_⟩
 refine A.mvd 1600 51 [] ?_
 refine A.mvd 1601 0 [] ?_
 refine A.mvd 1602 50 [] ?_
 refine A.q0 [] [] [.n,.n,.n] [(10,.slice A48 ((r46).length) c49),(11,.slice A52 ((r50).length) c53),(12,.int .i64 0)] ?_
 refine A.dx 1 ?_
 obtain rfl:=Option.some.inj hF
 refine A.frz 1599 [] ?_
 exact A.AX.ret [(0,1558),(1,1599)] (.tuple #[.slice A48 ((r46).length) c49,.slice A52 ((r50).length) c53,.int .i64 0]) (fun a w hf hh=>Z.resv3 rfl (Z.rv_t hf rfl) (Z.rv_t hf rfl) (Z.rv_t hf rfl)) (⟨A48,c49,A52,c53,rfl,rfl,(A.hasl .i64 (0) rfl)⟩)
end Go.Proofs.YtbljnlkhebiniaaDoor
end
section
set_option linter.unusedVariables false
set_option linter.unusedSimpArgs false
set_option maxRecDepth 20000
set_option maxHeartbeats 8000000
set_option synthInstance.maxSize 1000000
set_option synthInstance.maxHeartbeats 400000
namespace Go.Proofs.YtbljnlkhebiniaaDoor
open Go.RowKit
def F.slices_Equal_api_Rec_api_Rec_l1 (a0:(List D45))(a1:(List D45)):Nat→Int→Option Bool
 |0,_=>none
 |f+1,y1=>if y1<((a0).length:Int)then((A.ix a0 y1).bind fun x4=>((A.ix a1 y1).bind fun x10=>(if(x4.1,x4.2)≠(x10.1,x10.2)then(some false)else(A.gd (Z.R64 (y1+1)) ((F.slices_Equal_api_Rec_api_Rec_l1 a0 a1 f) (y1+1))))))else(some true)
def F.slices_Equal_api_Rec_api_Rec (a0:(List D45))(a1:(List D45)):Option Bool:=if((a0).length:Int)≠((a1).length:Int)then(some false)else(F.slices_Equal_api_Rec_api_Rec_l1 a0 a1 A.FU 0)
theorem slices_Equal_api_Rec_api_Rec_ok (a0:(List D45))(a1:(List D45))(A0_:Option Addr)(c1_:Nat)(A2_:Option Addr)(c3_:Nat)(r:Bool)(hF:F.slices_Equal_api_Rec_api_Rec a0 a1=some r):
    A.Ct Tryd.prog 14 [.slice A0_ ((a0).length) c1_,.slice A2_ ((a1).length) c3_] [(0,.ln T45 A0_ c1_ a0),(1,.ln T45 A2_ c3_ a1)] [] (fun v H'=>v=.bool r∧H'=[]):=by
 refine A.Ct.enter Tryd.func14 rfl Tryd.ntmps14 rfl fun w0 F0=>?_
 rw[F.slices_Equal_api_Rec_api_Rec]at hF
 refine A.xl 1 ?_
 refine A.q0 [] [] [.n] [] ?_
 refine A.dl 3 ?_
 refine A.q0 [] [] [.n,.n,.n,.n,.n] [(10,.bool (decide (((a0).length:Int)≠((a1).length:Int))))] ?_
 refine A.dx 1 ?_
 refine A.AX.cnd rfl hF (fun hb hF=>?_) (fun hb hF=>?_)
 ·refine A.xl 1 ?_
  refine A.q0 [] [] [.n] [(4,.bool false)] ?_
  refine A.dx 1 ?_
  obtain rfl:=Option.some.inj hF
  exact A.rt1 [] ⟨rfl,rfl⟩
 refine A.xl 4 ?_
 refine A.q0 [] [] [.n,.n,.n] [(12,.int .i64 ((a0).length:Int)),(13,.int .i64 0)] ?_
 refine A.dx 2 ?_
 refine A.lp_ [0,1,12] [0,1] (fun f nl nh=>∃(y1:Int),nl=[(13,.int .i64 y1)]∧nh=[]∧IntKind.i64.has y1∧F.slices_Equal_api_Rec_api_Rec_l1 a0 a1 f y1=some r) ⟨0,rfl,rfl,(A.hasl .i64 (0) rfl),hF⟩ ?_
 rintro f3 _ _ ⟨y1,rfl,rfl,hy2,hF⟩
 rcases f3 with _|f3
 ·exact A.no0 hF
 rw[F.slices_Equal_api_Rec_api_Rec_l1]at hF
 refine A.xl 1 ?_
 refine A.q0 [] [] [.n] [(14,.bool (decide (y1<((a0).length:Int))))] ?_
 refine A.dx 2 ?_
 refine A.AX.cnd rfl hF (fun hb hF=>?_) (fun hb hF=>?_)
 ·refine A.xl 5 ?_
  refine A.q0 [] [] [.n,.n] [(5,.int .i64 y1)] ?_
  refine A.dx 2 ?_
  refine A.AX.dr mixed 9 9 (A.mb 9 0) ?_
  refine A.hq A.pb [] [0,1] [] [] (A.mb 9 51) 5 [(0,.n),(1,.n),(4,.n),(5,.n)] [(16,.slice A0_ ((a0).length) c1_),(17,.int .i64 y1),(20,.slice A2_ ((a1).length) c3_),(21,.int .i64 y1)] ?_
  obtain⟨x4,hv5,hF⟩:=A.bd_some hF
  refine A.AH.pkl 0 6 hv5 fun ho6=>?_
  intro b8 o9 hA7
  refine A.AH.v A.pb [0,1] [0,1,6] 2 (A.mb 9 55) rfl (fun a w hf hh=>A.r_ixa (t:=T45) hv5 hA7 hf) ?_
  refine A.hq A.pb [0,1,6] [0,1,6] [] [6] (A.mb 9 63) 3 [(3,.e 0 0)] [(19,.agg #[.int .i64 x4.1,.string x4.2])] ?_
  obtain⟨x10,hv11,hF⟩:=A.bd_some hF
  refine A.AH.pkl 1 7 hv11 fun ho12=>?_
  intro b14 o15 hA13
  refine A.AH.v A.pb [0,1,6] [0,1,6,7] 6 (A.mb 9 127) rfl (fun a w hf hh=>A.r_ixa (t:=T45) hv11 hA13 hf) ?_
  refine A.hq A.pb [0,1,6,7] [0,1,6,7] [] [7] (A.mb 9 255) 1 [(7,.e 0 0)] [(23,.agg #[.int .i64 x10.1,.string x10.2])] ?_
  refine A.AH.v A.pb [0,1,6,7] [0,1,6,7] 8 (A.mb 9 511) rfl (fun a w hf hh=>eqagg_neq46 (x:=(x4.1,x4.2)) (y:=(x10.1,x10.2)) (hf.eval rfl) (hf.eval rfl)) ?_
  refine A.AH.done ?_
  refine A.ex 1 ?_
  refine A.AX.cnd rfl hF (fun hb hF=>?_) (fun hb hF=>?_)
  ·refine A.xl 1 ?_
   refine A.q0 [] [] [.n] [(4,.bool false)] ?_
   refine A.dx 1 ?_
   obtain rfl:=Option.some.inj hF
   exact A.rt1 [] ⟨rfl,rfl⟩
  refine A.xl 3 ?_
  obtain⟨hc16,hF⟩:=A.gd_some hF
  refine A.q [] [] [.n,.n] [Z.R64 (y1+1)] [(13,.int .i64 (y1+1))] hc16 ?_
  refine A.AL.done ?_
  exact A.j ⟨_,Nat.lt_succ_self _,⟨(y1+1),rfl,rfl,(Z.i64_has hc16),hF⟩⟩
 refine A.xl 3 ?_
 refine A.q0 [] [] [.n] [(4,.bool true)] ?_
 refine A.dx 1 ?_
 obtain rfl:=Option.some.inj hF
 exact A.rt1 [] ⟨rfl,rfl⟩
def F.slices_Equal_api_Entry_api_Entry_l1 (a0:(List D41))(a1:(List D41)):Nat→Int→Option Bool
 |0,_=>none
 |f+1,y1=>if y1<((a0).length:Int)then((A.ix a0 y1).bind fun x4=>((A.ix a1 y1).bind fun x10=>(if(x4.1,x4.2.1,x4.2.2.1,x4.2.2.2)≠(x10.1,x10.2.1,x10.2.2.1,x10.2.2.2)then(some false)else(A.gd (Z.R64 (y1+1)) ((F.slices_Equal_api_Entry_api_Entry_l1 a0 a1 f) (y1+1))))))else(some true)
def F.slices_Equal_api_Entry_api_Entry (a0:(List D41))(a1:(List D41)):Option Bool:=if((a0).length:Int)≠((a1).length:Int)then(some false)else(F.slices_Equal_api_Entry_api_Entry_l1 a0 a1 A.FU 0)
theorem slices_Equal_api_Entry_api_Entry_ok (a0:(List D41))(a1:(List D41))(A0_:Option Addr)(c1_:Nat)(A2_:Option Addr)(c3_:Nat)(r:Bool)(hF:F.slices_Equal_api_Entry_api_Entry a0 a1=some r):
    A.Ct Tryd.prog 15 [.slice A0_ ((a0).length) c1_,.slice A2_ ((a1).length) c3_] [(0,.ln T41 A0_ c1_ a0),(1,.ln T41 A2_ c3_ a1)] [] (fun v H'=>v=.bool r∧H'=[]):=by
 refine A.Ct.enter Tryd.func15 rfl Tryd.ntmps15 rfl fun w0 F0=>?_
 rw[F.slices_Equal_api_Entry_api_Entry]at hF
 refine A.xl 1 ?_
 refine A.q0 [] [] [.n] [] ?_
 refine A.dl 3 ?_
 refine A.q0 [] [] [.n,.n,.n,.n,.n] [(10,.bool (decide (((a0).length:Int)≠((a1).length:Int))))] ?_
 refine A.dx 1 ?_
 refine A.AX.cnd rfl hF (fun hb hF=>?_) (fun hb hF=>?_)
 ·refine A.xl 1 ?_
  refine A.q0 [] [] [.n] [(4,.bool false)] ?_
  refine A.dx 1 ?_
  obtain rfl:=Option.some.inj hF
  exact A.rt1 [] ⟨rfl,rfl⟩
 refine A.xl 4 ?_
 refine A.q0 [] [] [.n,.n,.n] [(12,.int .i64 ((a0).length:Int)),(13,.int .i64 0)] ?_
 refine A.dx 2 ?_
 refine A.lp_ [0,1,12] [0,1] (fun f nl nh=>∃(y1:Int),nl=[(13,.int .i64 y1)]∧nh=[]∧IntKind.i64.has y1∧F.slices_Equal_api_Entry_api_Entry_l1 a0 a1 f y1=some r) ⟨0,rfl,rfl,(A.hasl .i64 (0) rfl),hF⟩ ?_
 rintro f3 _ _ ⟨y1,rfl,rfl,hy2,hF⟩
 rcases f3 with _|f3
 ·exact A.no0 hF
 rw[F.slices_Equal_api_Entry_api_Entry_l1]at hF
 refine A.xl 1 ?_
 refine A.q0 [] [] [.n] [(14,.bool (decide (y1<((a0).length:Int))))] ?_
 refine A.dx 2 ?_
 refine A.AX.cnd rfl hF (fun hb hF=>?_) (fun hb hF=>?_)
 ·refine A.xl 5 ?_
  refine A.q0 [] [] [.n,.n] [(5,.int .i64 y1)] ?_
  refine A.dx 2 ?_
  refine A.AX.dr mixed 9 9 (A.mb 9 0) ?_
  refine A.hq A.pb [] [0,1] [] [] (A.mb 9 51) 5 [(0,.n),(1,.n),(4,.n),(5,.n)] [(16,.slice A0_ ((a0).length) c1_),(17,.int .i64 y1),(20,.slice A2_ ((a1).length) c3_),(21,.int .i64 y1)] ?_
  obtain⟨x4,hv5,hF⟩:=A.bd_some hF
  refine A.AH.pkl 0 6 hv5 fun ho6=>?_
  intro b8 o9 hA7
  refine A.AH.v A.pb [0,1] [0,1,6] 2 (A.mb 9 55) rfl (fun a w hf hh=>A.r_ixa (t:=T41) hv5 hA7 hf) ?_
  refine A.hq A.pb [0,1,6] [0,1,6] [] [6] (A.mb 9 63) 3 [(3,.e 0 0)] [(19,.agg #[.int .i64 x4.1,.int .i64 x4.2.1,.string x4.2.2.1,.int .i64 x4.2.2.2])] ?_
  obtain⟨x10,hv11,hF⟩:=A.bd_some hF
  refine A.AH.pkl 1 7 hv11 fun ho12=>?_
  intro b14 o15 hA13
  refine A.AH.v A.pb [0,1,6] [0,1,6,7] 6 (A.mb 9 127) rfl (fun a w hf hh=>A.r_ixa (t:=T41) hv11 hA13 hf) ?_
  refine A.hq A.pb [0,1,6,7] [0,1,6,7] [] [7] (A.mb 9 255) 1 [(7,.e 0 0)] [(23,.agg #[.int .i64 x10.1,.int .i64 x10.2.1,.string x10.2.2.1,.int .i64 x10.2.2.2])] ?_
  refine A.AH.v A.pb [0,1,6,7] [0,1,6,7] 8 (A.mb 9 511) rfl (fun a w hf hh=>eqagg_neq42 (x:=(x4.1,x4.2.1,x4.2.2.1,x4.2.2.2)) (y:=(x10.1,x10.2.1,x10.2.2.1,x10.2.2.2)) (hf.eval rfl) (hf.eval rfl)) ?_
  refine A.AH.done ?_
  refine A.ex 1 ?_
  refine A.AX.cnd rfl hF (fun hb hF=>?_) (fun hb hF=>?_)
  ·refine A.xl 1 ?_
   refine A.q0 [] [] [.n] [(4,.bool false)] ?_
   refine A.dx 1 ?_
   obtain rfl:=Option.some.inj hF
   exact A.rt1 [] ⟨rfl,rfl⟩
  refine A.xl 3 ?_
  obtain⟨hc16,hF⟩:=A.gd_some hF
  refine A.q [] [] [.n,.n] [Z.R64 (y1+1)] [(13,.int .i64 (y1+1))] hc16 ?_
  refine A.AL.done ?_
  exact A.j ⟨_,Nat.lt_succ_self _,⟨(y1+1),rfl,rfl,(Z.i64_has hc16),hF⟩⟩
 refine A.xl 3 ?_
 refine A.q0 [] [] [.n] [(4,.bool true)] ?_
 refine A.dx 1 ?_
 obtain rfl:=Option.some.inj hF
 exact A.rt1 [] ⟨rfl,rfl⟩
def F.L17_live_j1 (y20:Bool):Option Bool:=some y20
def F.L17_live:Option Bool:=(F.oper_Tell (4,7,[],(0,0,ByteArray.mk #[]),ByteArray.mk #[],0,0) (0,0,(0,0,0,0)) [((1,ByteArray.mk #[97]),2),((1,ByteArray.mk #[98]),1)] [] []).bind fun r2=>(A.gd (0≤(1:Int)∧(1:Int).toNat≤([((1,ByteArray.mk #[97]),2),((1,ByteArray.mk #[98]),1)]).length) ((F.oper_Tell (4,11,[],(41,0,ByteArray.mk #[]),ByteArray.mk #[],0,0) (0,0,(0,0,0,0)) (List.drop ((1:Int).toNat) [((1,ByteArray.mk #[97]),2),((1,ByteArray.mk #[98]),1)]) [] [(4,1,ByteArray.mk #[],5)]).bind fun r13=>(if(bif decide (r2.2.2=0)then decide (r13.2.2=0)else false)=true then((F.slices_Equal_api_Rec_api_Rec r2.1 [(1,ByteArray.mk #[51])]).bind fun r22=>(if r22=true then((F.slices_Equal_api_Rec_api_Rec r13.1 [(1,ByteArray.mk #[54])]).bind fun r25=>(if r25=true then((F.slices_Equal_api_Entry_api_Entry r13.2.1 [(4,1,ByteArray.mk #[],6)]).bind fun r28=>(F.L17_live_j1 r28))else(F.L17_live_j1 false)))else(F.L17_live_j1 false)))else(F.L17_live_j1 false))))
theorem L17_live_ok (r:Bool)(hF:F.L17_live=some r):
    A.Ct Tryd.prog 5 [] [(0,.el none 1 0 A.tabF),(1,.el none 2 0 A.tabA)] [] (fun v H'=>v=.bool r∧H'=[]):=by
 refine A.Ct.enter Tryd.func5 rfl Tryd.ntmps5 rfl fun w0 F0=>?_
 rw[F.L17_live]at hF
 refine A.xl 1 ?_
 refine A.q0 [] [] [.n] [] ?_
 refine A.dl 2 ?_
 refine A.q0 [] [] [.n,.n,.n,.n] [(9,.agg #[.int .i64 1,.string (ByteArray.mk #[97]),.int .i64 2]),(11,.agg #[.int .i64 1,.string (ByteArray.mk #[98]),.int .i64 1])] ?_
 refine A.AL.bsl 2 (ty:=T57) (cs:=[.int .i64 1,.string (ByteArray.mk #[97]),.int .i64 2,.int .i64 1,.string (ByteArray.mk #[98]),.int .i64 1]) [((1,ByteArray.mk #[97]),2),((1,ByteArray.mk #[98]),1)] ⟨⟨⟨⟨rfl,(A.hasl .i64 (1) rfl)⟩,⟨rfl,(A.szl (ByteArray.mk #[97]) rfl)⟩⟩,⟨rfl,(A.hasl .i64 (2) rfl)⟩⟩,⟨⟨⟨⟨rfl,(A.hasl .i64 (1) rfl)⟩,⟨rfl,(A.szl (ByteArray.mk #[98]) rfl)⟩⟩,⟨rfl,(A.hasl .i64 (1) rfl)⟩⟩,rfl⟩⟩ (fun g1=>?_) Tryd.zeroValue58 Tryd.sizeOf58
 refine A.q0 [] [] [.n] [(1,.slice (some ⟨g1,0,none⟩) 2 2)] ?_
 refine A.dl 2 ?_
 refine A.q0 [] [] [.n,.n,.n] [(14,.agg #[.int .i64 4,.int .i64 7,.slice none 0 0,.int .i64 0,.int .i64 0,.string (ByteArray.mk #[]),.string (ByteArray.mk #[]),.int .i64 0,.int .i64 0]),(15,.agg #[.int .i64 0,.int .i64 0,.int .i64 0,.int .i64 0,.int .i64 0,.int .i64 0]),(16,.slice (some ⟨g1,0,none⟩) 2 2)] ?_
 refine A.frz 2 [] ?_
 obtain⟨r2,hv3,hF⟩:=A.bd_some hF
 refine A.AL.call 3 [] (first:=[]) (cap:=[]) cf8 (oper_Tell_ok (4,7,[],(0,0,ByteArray.mk #[]),ByteArray.mk #[],0,0) (0,0,(0,0,0,0)) [((1,ByteArray.mk #[97]),2),((1,ByteArray.mk #[98]),1)] [] [] none 0 (some ⟨g1,0,none⟩) 2 none 0 none 0 (A.hasl .i64 (4) rfl) (A.hasl .i64 (7) rfl) (A.hasl .i64 (0) rfl) (A.hasl .i64 (0) rfl) (A.szl (ByteArray.mk #[]) rfl) (A.szl (ByteArray.mk #[]) rfl) (A.hasl .i64 (0) rfl) (A.hasl .i64 (0) rfl) (A.hasl .i64 (0) rfl) (A.hasl .i64 (0) rfl) (A.hasl .i64 (0) rfl) (A.hasl .i64 (0) rfl) (A.hasl .i64 (0) rfl) (A.hasl .i64 (0) rfl) r2 hv3) (.ns (.s 2 (.ns (.nl (.s 0 (.s 1 .nil)))))) ?_
 rintro _ _ ⟨A4,c5,A6,c7,rfl,rfl,hr8⟩
 refine⟨by kernel_rfl,?_⟩
 refine A.q0 [] [] [.n,.n,.n,.n,.n,.n,.n] [(2,.slice A4 ((r2.1).length) c5),(4,.int .i64 r2.2.2)] ?_
 refine A.dl 2 ?_
 refine A.q0 [] [] [.n,.n,.n,.n] [(23,.agg #[.int .i64 4,.int .i64 11,.slice none 0 0,.int .i64 41,.int .i64 0,.string (ByteArray.mk #[]),.string (ByteArray.mk #[]),.int .i64 0,.int .i64 0]),(24,.agg #[.int .i64 0,.int .i64 0,.int .i64 0,.int .i64 0,.int .i64 0,.int .i64 0]),(25,.slice (some ⟨g1,0,none⟩) 2 2)] ?_
 obtain⟨hc9,hF⟩:=A.gd_some hF
 refine A.AL.cutl 2 43 (u:=(1:Int).toNat) (Int.toNat_of_nonneg hc9.1).symm hc9.2 fun A10 c11=>?_
 refine A.q0 [] [] [.n] [(27,.agg #[.int .i64 4,.int .i64 1,.string (ByteArray.mk #[]),.int .i64 5])] ?_
 refine A.AL.bsl 44 (ty:=T41) (cs:=[.int .i64 4,.int .i64 1,.string (ByteArray.mk #[]),.int .i64 5]) [(4,1,ByteArray.mk #[],5)] ⟨⟨⟨rfl,(A.hasl .i64 (4) rfl)⟩,⟨rfl,(A.hasl .i64 (1) rfl)⟩,⟨rfl,(A.szl (ByteArray.mk #[]) rfl)⟩,⟨rfl,(A.hasl .i64 (5) rfl)⟩⟩,rfl⟩ (fun g12=>?_) Tryd.zeroValue42 Tryd.sizeOf42
 obtain⟨r13,hv14,hF⟩:=A.bd_some hF
 refine A.AL.call 45 [] (first:=[]) (cap:=[]) cf8 (oper_Tell_ok (4,11,[],(41,0,ByteArray.mk #[]),ByteArray.mk #[],0,0) (0,0,(0,0,0,0)) (List.drop ((1:Int).toNat) [((1,ByteArray.mk #[97]),2),((1,ByteArray.mk #[98]),1)]) [] [(4,1,ByteArray.mk #[],5)] none 0 A10 c11 none 0 (some ⟨g12,0,none⟩) 1 (A.hasl .i64 (4) rfl) (A.hasl .i64 (11) rfl) (A.hasl .i64 (41) rfl) (A.hasl .i64 (0) rfl) (A.szl (ByteArray.mk #[]) rfl) (A.szl (ByteArray.mk #[]) rfl) (A.hasl .i64 (0) rfl) (A.hasl .i64 (0) rfl) (A.hasl .i64 (0) rfl) (A.hasl .i64 (0) rfl) (A.hasl .i64 (0) rfl) (A.hasl .i64 (0) rfl) (A.hasl .i64 (0) rfl) (A.hasl .i64 (0) rfl) r13 hv14) (.ns (.s 43 (.ns (.o 44 (.s 0 (.s 1 .nil)))))) ?_
 rintro _ _ ⟨A15,c16,A17,c18,rfl,rfl,hr19⟩
 refine⟨by kernel_rfl,?_⟩
 refine A.q0 [] [] [.n,.n,.n,.n,.n,.n,.n] [(5,.slice A15 ((r13.1).length) c16),(6,.slice A17 ((r13.2.1).length) c18),(7,.int .i64 r13.2.2)] ?_
 refine A.dx 1 ?_
 refine A.AX.join [] [0,1] (fun nl nh=>∃(y20:Bool),nl=[(0,.bool y20)]∧nh=[]∧F.L17_live_j1 y20=some r) ?_ ?_
 ·refine A.xl 0 ?_
  refine A.q0 [] [] [.n,.n,.n,.sy .n,.sy .n,.pk,.n] [(39,.bool (bif decide (r2.2.2=0)then decide (r13.2.2=0)else false))] ?_
  refine A.AL.cnd (j:=39) rfl hF (fun hF=>?_) (fun hF=>?_)
  ·refine A.q0 [] [] [.on .n,.on .n] [(40,.slice A4 ((r2.1).length) c5),(41,.agg #[.int .i64 1,.string (ByteArray.mk #[51])])] ?_
   refine A.AL.on (dj:=39) rfl rfl ?_
   refine A.AL.bsl 85 (ty:=T45) (cs:=[.int .i64 1,.string (ByteArray.mk #[51])]) [(1,ByteArray.mk #[51])] ⟨⟨⟨rfl,(A.hasl .i64 (1) rfl)⟩,⟨rfl,(A.szl (ByteArray.mk #[51]) rfl)⟩⟩,rfl⟩ (fun g21=>?_) Tryd.zeroValue46 Tryd.sizeOf46
   refine A.AL.on (dj:=39) rfl rfl ?_
   obtain⟨r22,hv23,hF⟩:=A.bd_some hF
   refine A.AL.call 86 [] (first:=[]) (cap:=[]) cf14 (slices_Equal_api_Rec_api_Rec_ok r2.1 [(1,ByteArray.mk #[51])] A4 c5 (some ⟨g21,0,none⟩) 1 r22 hv23) (.l 3 (.o 85 .nil)) ?_
   rintro _ _ ⟨rfl,rfl⟩
   refine⟨by kernel_rfl,?_⟩
   refine A.q0 [] [] [.n,.n] [(45,.bool r22)] ?_
   refine A.AL.cnd (j:=45) rfl hF (fun hF=>?_) (fun hF=>?_)
   ·refine A.q0 [] [] [.on .n,.on .n] [(46,.slice A15 ((r13.1).length) c16),(47,.agg #[.int .i64 1,.string (ByteArray.mk #[54])])] ?_
    refine A.AL.on (dj:=45) rfl rfl ?_
    refine A.AL.bsl 126 (ty:=T45) (cs:=[.int .i64 1,.string (ByteArray.mk #[54])]) [(1,ByteArray.mk #[54])] ⟨⟨⟨rfl,(A.hasl .i64 (1) rfl)⟩,⟨rfl,(A.szl (ByteArray.mk #[54]) rfl)⟩⟩,rfl⟩ (fun g24=>?_) Tryd.zeroValue46 Tryd.sizeOf46
    refine A.AL.on (dj:=45) rfl rfl ?_
    obtain⟨r25,hv26,hF⟩:=A.bd_some hF
    refine A.AL.call 127 [] (first:=[]) (cap:=[]) cf14 (slices_Equal_api_Rec_api_Rec_ok r13.1 [(1,ByteArray.mk #[54])] A15 c16 (some ⟨g24,0,none⟩) 1 r25 hv26) (.l 45 (.o 126 .nil)) ?_
    rintro _ _ ⟨rfl,rfl⟩
    refine⟨by kernel_rfl,?_⟩
    refine A.q0 [] [] [.n,.n] [(51,.bool r25)] ?_
    refine A.AL.cnd (j:=51) rfl hF (fun hF=>?_) (fun hF=>?_)
    ·refine A.q0 [] [] [.on .n,.on .n] [(52,.slice A17 ((r13.2.1).length) c18),(53,.agg #[.int .i64 4,.int .i64 1,.string (ByteArray.mk #[]),.int .i64 6])] ?_
     refine A.AL.on (dj:=51) rfl rfl ?_
     refine A.AL.bsl 167 (ty:=T41) (cs:=[.int .i64 4,.int .i64 1,.string (ByteArray.mk #[]),.int .i64 6]) [(4,1,ByteArray.mk #[],6)] ⟨⟨⟨rfl,(A.hasl .i64 (4) rfl)⟩,⟨rfl,(A.hasl .i64 (1) rfl)⟩,⟨rfl,(A.szl (ByteArray.mk #[]) rfl)⟩,⟨rfl,(A.hasl .i64 (6) rfl)⟩⟩,rfl⟩ (fun g27=>?_) Tryd.zeroValue42 Tryd.sizeOf42
     refine A.AL.on (dj:=51) rfl rfl ?_
     obtain⟨r28,hv29,hF⟩:=A.bd_some hF
     refine A.AL.call 168 [] (first:=[]) (cap:=[]) cf15 (slices_Equal_api_Entry_api_Entry_ok r13.2.1 [(4,1,ByteArray.mk #[],6)] A17 c18 (some ⟨g27,0,none⟩) 1 r28 hv29) (.l 46 (.o 167 .nil)) ?_
     rintro _ _ ⟨rfl,rfl⟩
     refine⟨by kernel_rfl,?_⟩
     refine A.q0 [] [] [.n,.n] [(0,.bool r28)] ?_
     refine A.AL.done ?_
     exact A.j ⟨r28,rfl,rfl,hF⟩
    refine A.q0 [] [] [.off,.off,.off,.off,.n,.n] [(0,.bool false)] ?_
    refine A.AL.done ?_
    exact A.j ⟨false,rfl,rfl,hF⟩
   refine A.q0 [] [] [.off,.off,.off,.off,.n,.n,.off,.off,.off,.off,.n,.n] [(0,.bool false)] ?_
   refine A.AL.done ?_
   exact A.j ⟨false,rfl,rfl,hF⟩
  refine A.q0 [] [] [.off,.off,.off,.off,.n,.n,.off,.off,.off,.off,.n,.n,.off,.off,.off,.off,.n,.n] [(0,.bool false)] ?_
  refine A.AL.done ?_
  exact A.j ⟨false,rfl,rfl,hF⟩
 rintro _ _ ⟨y20,rfl,rfl,hF⟩
 rw[F.L17_live_j1]at hF
 obtain rfl:=Option.some.inj hF
 exact A.rt1 [] ⟨rfl,rfl⟩
def F.L17_few_l1 (a0:(List D45)):Nat→Int→Int→Option Bool
 |0,_,_=>none
 |f+1,y4,y6=>if y6<((List.take ((min ((a0).length:Int) 100).toNat) a0).length:Int)then((A.ix (List.take ((min ((a0).length:Int) 100).toNat) a0) y6).bind fun x9=>(A.gd (Z.R64 (y4+(min (x9.2.size:Int) 1000))) (A.gd (Z.R64 (y6+1)) ((F.L17_few_l1 a0 f) (y4+(min (x9.2.size:Int) 1000)) (y6+1)))))else(some (bif decide (((a0).length:Int)≤100)then decide (y4≤2000)else false))
def F.L17_few (a0:(List D45)):Option Bool:=A.gd (0≤min ((a0).length:Int) 100∧(min ((a0).length:Int) 100).toNat≤(a0).length) (F.L17_few_l1 a0 A.FU 0 0)
theorem L17_few_ok (a0:(List D45))(A0_:Option Addr)(c1_:Nat)(r:Bool)(hF:F.L17_few a0=some r):
    A.Ct Tryd.prog 18 [.slice A0_ ((a0).length) c1_] [(0,.sh (.slice T45) [.slice A0_ (a0).length c1_] a0)] [] (fun v H'=>v=.bool r∧H'=[]):=by
 refine A.Ct.enter Tryd.func18 rfl Tryd.ntmps18 rfl fun w0 F0=>?_
 rw[F.L17_few]at hF
 refine A.xl 1 ?_
 refine A.q0 [] [] [.n] [] ?_
 refine A.dl 2 ?_
 refine A.q0 [] [] [.n] [(3,.int .i64 0)] ?_
 refine A.dl 3 ?_
 refine A.q0 [] [] [.n,.n,.n,.n] [(6,.slice A0_ ((a0).length) c1_),(9,.int .i64 (min ((a0).length:Int) 100))] ?_
 obtain⟨hc1,hF⟩:=A.gd_some hF
 refine A.AL.cuth 0 1 (v:=(min ((a0).length:Int) 100).toNat) (Int.toNat_of_nonneg hc1.1).symm hc1.2 fun c3=>?_
 refine A.q0 [] [] [.n,.n] [(11,.int .i64 ((List.take ((min ((a0).length:Int) 100).toNat) a0).length:Int)),(12,.int .i64 0)] ?_
 refine A.dx 2 ?_
 refine A.lp_ [0,10,11] [0,1] (fun f nl nh=>∃(y4:Int),∃(y6:Int),nl=[(3,.int .i64 y4),(12,.int .i64 y6)]∧nh=[]∧IntKind.i64.has y4∧IntKind.i64.has y6∧F.L17_few_l1 a0 f y4 y6=some r) ⟨0,0,rfl,rfl,(A.hasl .i64 (0) rfl),(A.hasl .i64 (0) rfl),hF⟩ ?_
 rintro f8 _ _ ⟨y4,y6,rfl,rfl,hy5,hy7,hF⟩
 rcases f8 with _|f8
 ·exact A.no0 hF
 rw[F.L17_few_l1]at hF
 refine A.xl 1 ?_
 refine A.q0 [] [] [.n] [(13,.bool (decide (y6<((List.take ((min ((a0).length:Int) 100).toNat) a0).length:Int))))] ?_
 refine A.dx 2 ?_
 refine A.AX.cnd rfl hF (fun hb hF=>?_) (fun hb hF=>?_)
 ·refine A.xl 5 ?_
  obtain⟨x9,hv10,hF⟩:=A.bd_some hF
  refine A.AL.ixs 1 6 hv10 fun ho11=>?_
  intro b12 o13
  refine A.q0 [] [6] [.e 0 0] [(15,.agg #[.int .i64 x9.1,.string x9.2])] ?_
  refine A.AL.alloc 7 (cs:=[.int .i64 0,.string (ByteArray.mk #[])]) Tryd.zeroValue46 fun g14=>?_
  refine A.sw 7 [] [.int .i64 x9.1,.string x9.2] ?_
  refine A.dl 1 ?_
  obtain⟨hc15,hF⟩:=A.gd_some hF
  refine A.q [7] [] [.n,.n,.b 0 1,.n,.n,.n,.n] [Z.R64 (y4+(min (x9.2.size:Int) 1000))] [(3,.int .i64 (y4+(min (x9.2.size:Int) 1000)))] hc15 ?_
  refine A.dl 2 ?_
  obtain⟨hc16,hF⟩:=A.gd_some hF
  refine A.q [] [] [.n,.n] [Z.R64 (y6+1)] [(12,.int .i64 (y6+1))] hc16 ?_
  refine A.AL.done ?_
  exact A.j ⟨_,Nat.lt_succ_self _,⟨(y4+(min (x9.2.size:Int) 1000)),(y6+1),rfl,rfl,(Z.i64_has hc15),(Z.i64_has hc16),hF⟩⟩
 refine A.xl 3 ?_
 refine A.q0 [] [] [.n,.n,.n,.n,.sy .n,.sy .n,.pk,.n] [(2,.bool (bif decide (((a0).length:Int)≤100)then decide (y4≤2000)else false))] ?_
 refine A.dx 1 ?_
 obtain rfl:=Option.some.inj hF
 exact A.rt1 [] ⟨rfl,rfl⟩
def F.L17_rare_j1 (k3:Int→Option Bool)(y1:Int)(y31:Bool):Option Bool:=if y31=true then(some false)else(A.gd (Z.R64 (y1+1)) (k3 (y1+1)))
def F.L17_rare_l2 (k3:Int→Option Bool)(y1:Int)(x4:(List D57)):Nat→(List D45)→Int→Option Bool
 |0,_,_=>none
 |f+1,xs16,y17=>if y17<((List.take ((min ((x4).length:Int) 100).toNat) x4).length:Int)then((A.ix (List.take ((min ((x4).length:Int) 100).toNat) x4) y17).bind fun x20=>(A.gd ((List.length (α:=D45) xs16+List.length (α:=D45) [(x20.1.1,x20.1.2)])*24≤140737488355328) (A.gd (Z.R64 (y17+1)) ((F.L17_rare_l2 k3 y1 x4 f) (xs16++[(x20.1.1,x20.1.2)]) (y17+1)))))else(if(40:Int)<((x4).length:Int)then(F.L17_rare_j1 k3 y1 true)else((F.L17_few xs16).bind fun r33=>(F.L17_rare_j1 k3 y1 (!r33))))
def F.L17_rare_l3 (a0:(List (List D57))):Nat→Int→Option Bool
 |0,_=>none
 |f+1,y1=>if y1<((a0).length:Int)then((A.ix a0 y1).bind fun x4=>(A.gd (0≤min ((x4).length:Int) 100∧(min ((x4).length:Int) 100).toNat≤(x4).length) (F.L17_rare_l2 (F.L17_rare_l3 a0 f) y1 x4 A.FU [] 0)))else(some true)
def F.L17_rare (a0:(List (List D57))):Option Bool:=F.L17_rare_l3 a0 A.FU 0
theorem L17_rare_ok (a0:(List (List D57)))(A0_:Option Addr)(c1_:Nat)(r:Bool)(hF:F.L17_rare a0=some r):
    A.Ct Tryd.prog 6 [.slice A0_ ((a0).length) c1_] [(0,.ln (Z.Ty.slice T57) A0_ c1_ a0)] [] (fun v H'=>v=.bool r∧H'=[]):=by
 refine A.Ct.enter Tryd.func6 rfl Tryd.ntmps6 rfl fun w0 F0=>?_
 rw[F.L17_rare]at hF
 refine A.xl 1 ?_
 refine A.q0 [] [] [.n] [] ?_
 refine A.dl 3 ?_
 refine A.q0 [] [] [.n,.n,.n] [(8,.slice A0_ ((a0).length) c1_),(9,.int .i64 ((a0).length:Int)),(10,.int .i64 0)] ?_
 refine A.dx 2 ?_
 refine A.lp_ [8,9] [0] (fun f nl nh=>∃(y1:Int),nl=[(10,.int .i64 y1)]∧nh=[]∧IntKind.i64.has y1∧F.L17_rare_l3 a0 f y1=some r) ⟨0,rfl,rfl,(A.hasl .i64 (0) rfl),hF⟩ ?_
 rintro f3 _ _ ⟨y1,rfl,rfl,hy2,hF⟩
 rcases f3 with _|f3
 ·exact A.no0 hF
 rw[F.L17_rare_l3]at hF
 refine A.xl 1 ?_
 refine A.q0 [] [] [.n] [(11,.bool (decide (y1<((a0).length:Int))))] ?_
 refine A.dx 2 ?_
 refine A.AX.cnd rfl hF (fun hb hF=>?_) (fun hb hF=>?_)
 ·refine A.xl 5 ?_
  obtain⟨x4,hv5,hF⟩:=A.bd_some hF
  refine A.AL.ixl 0 355 hv5 fun ho6=>?_
  intro A7 c8 b9 o10
  refine A.q0 [] [355] [.e 0 0,.n] [(4,.slice A7 ((x4).length) c8)] ?_
  refine A.dl 2 ?_
  refine A.q0 [] [] [.n] [(5,.slice none 0 0)] ?_
  refine A.dl 3 ?_
  refine A.q0 [] [] [.n,.n,.n,.n] [(14,.slice A7 ((x4).length) c8),(17,.int .i64 (min ((x4).length:Int) 100))] ?_
  obtain⟨hc11,hF⟩:=A.gd_some hF
  refine A.AL.cuth 356 357 (v:=(min ((x4).length:Int) 100).toNat) (Int.toNat_of_nonneg hc11.1).symm hc11.2 fun c13=>?_
  refine A.q0 [] [] [.n,.n] [(19,.int .i64 ((List.take ((min ((x4).length:Int) 100).toNat) x4).length:Int)),(20,.int .i64 0)] ?_
  refine A.dx 2 ?_
  refine A.nil 402 T45 46 ?_
  refine A.lp_ [4,8,9,10,18,19] [0,356,357] (fun f nl nh=>∃(xs16:List D45),∃(y17:Int),∃(A14:Option Addr),∃(c15:Nat),nl=[(5,.slice A14 ((xs16).length) c15),(20,.int .i64 y17)]∧nh=[(402,.own T45 46 A14 c15 xs16)]∧IntKind.i64.has y17∧F.L17_rare_l2 (F.L17_rare_l3 a0 f3) y1 x4 f xs16 y17=some r) ⟨[],0,none,0,rfl,rfl,(A.hasl .i64 (0) rfl),hF⟩ ?_
  rintro f19 _ _ ⟨xs16,y17,A14,c15,rfl,rfl,hy18,hF⟩
  rcases f19 with _|f19
  ·exact A.no0 hF
  rw[F.L17_rare_l2]at hF
  refine A.xl 1 ?_
  refine A.q0 [] [] [.n] [(21,.bool (decide (y17<((List.take ((min ((x4).length:Int) 100).toNat) x4).length:Int))))] ?_
  refine A.dx 2 ?_
  refine A.AX.cnd rfl hF (fun hb hF=>?_) (fun hb hF=>?_)
  ·refine A.xl 5 ?_
   obtain⟨x20,hv21,hF⟩:=A.bd_some hF
   refine A.AL.ixs 357 489 hv21 fun ho22=>?_
   intro b23 o24
   refine A.q0 [] [489] [.e 0 0] [(23,.agg #[.int .i64 x20.1.1,.string x20.1.2,.int .i64 x20.2])] ?_
   refine A.AL.alloc 490 (cs:=[.int .i64 0,.string (ByteArray.mk #[]),.int .i64 0]) Tryd.zeroValue58 fun g25=>?_
   refine A.sw 490 [] [.int .i64 x20.1.1,.string x20.1.2,.int .i64 x20.2] ?_
   refine A.dl 1 ?_
   refine A.q0 [490] [] [.n,.n,.b 0 0] [(24,.slice A14 ((xs16).length) c15),(26,.agg #[.int .i64 x20.1.1,.string x20.1.2])] ?_
   refine A.AL.bsl 491 (ty:=T45) (cs:=[.int .i64 x20.1.1,.string x20.1.2]) [(x20.1.1,x20.1.2)] ⟨⟨⟨rfl,ho22.1.1⟩,⟨rfl,ho22.1.2⟩⟩,rfl⟩ (fun g26=>?_) Tryd.zeroValue46 Tryd.sizeOf46
   obtain⟨hl29,hF⟩:=A.gd_some hF
   refine A.AL.app (k:=402) [] (A.rowO (k:=491) rfl) inf46 hl29 fun A27 c28=>?_
   refine A.q0 [] [] [.n] [(5,.slice A27 ((xs16++[(x20.1.1,x20.1.2)]).length) c28)] ?_
   refine A.dl 2 ?_
   obtain⟨hc30,hF⟩:=A.gd_some hF
   refine A.q [] [] [.n,.n] [Z.R64 (y17+1)] [(20,.int .i64 (y17+1))] hc30 ?_
   refine A.AL.done ?_
   exact A.j ⟨_,Nat.lt_succ_self _,⟨(xs16++[(x20.1.1,x20.1.2)]),(y17+1),A27,c28,rfl,rfl,(Z.i64_has hc30),hF⟩⟩
  refine A.xx 2 ?_
  refine A.AX.join [8,9,10] [0] (fun nl nh=>∃(y31:Bool),nl=[(37,.bool y31)]∧nh=[]∧F.L17_rare_j1 (F.L17_rare_l3 a0 f3) y1 y31=some r) ?_ ?_
  ·refine A.xl 0 ?_
   refine A.q0 [] [] [.n,.n,.n,.n] [(33,.bool (decide ((40:Int)<((x4).length:Int))))] ?_
   refine A.AL.cnp (j:=33) rfl hF (fun hb hF=>?_) (fun hb hF=>?_)
   ·refine A.q0 [] [] [.off,.off,.off,.n] [(37,.bool true)] ?_
    refine A.AL.done ?_
    exact A.j ⟨true,rfl,rfl,hF⟩
   refine A.q0 [] [] [.on .n] [(34,.slice A14 ((xs16).length) c15)] ?_
   refine A.AL.on (dj:=33) rfl rfl ?_
   refine A.frz 402 [] ?_
   obtain⟨r33,hv34,hF⟩:=A.bd_some hF
   refine A.AL.call 492 [] (first:=[]) (cap:=[]) cf18 (L17_few_ok xs16 A14 c15 r33 hv34) (.s 402 .nil) ?_
   rintro _ _ ⟨rfl,rfl⟩
   refine⟨by kernel_rfl,?_⟩
   refine A.q0 [] [] [.on .n,.n] [(37,.bool (!r33))] ?_
   refine A.AL.done ?_
   exact A.j ⟨(!r33),rfl,rfl,hF⟩
  rintro _ _ ⟨y31,rfl,rfl,hF⟩
  rw[F.L17_rare_j1]at hF
  refine A.AX.cnb rfl hF (fun hb hF=>?_) (fun hb hF=>?_)
  ·refine A.xl 1 ?_
   refine A.q0 [] [] [.n] [(2,.bool false)] ?_
   refine A.dx 1 ?_
   obtain rfl:=Option.some.inj hF
   exact A.rt1 [] ⟨rfl,rfl⟩
  refine A.xl 3 ?_
  obtain⟨hc32,hF⟩:=A.gd_some hF
  refine A.q [] [] [.n,.n] [Z.R64 (y1+1)] [(10,.int .i64 (y1+1))] hc32 ?_
  refine A.AL.done ?_
  exact A.j ⟨_,Nat.lt_succ_self _,⟨(y1+1),rfl,rfl,(Z.i64_has hc32),hF⟩⟩
 refine A.xl 3 ?_
 refine A.q0 [] [] [.n] [(2,.bool true)] ?_
 refine A.dx 1 ?_
 obtain rfl:=Option.some.inj hF
 exact A.rt1 [] ⟨rfl,rfl⟩
end Go.Proofs.YtbljnlkhebiniaaDoor
end
section
set_option linter.unusedVariables false
set_option linter.unusedSimpArgs false
set_option maxRecDepth 20000
set_option maxHeartbeats 8000000
set_option synthInstance.maxSize 1000000
set_option synthInstance.maxHeartbeats 400000
namespace Go.Proofs.YtbljnlkhebiniaaDoor
open Go.RowKit
def F.L17_thin_l1 (a0:(List D41)):Nat→Int→Int→Option Bool
 |0,_,_=>none
 |f+1,y4,y6=>if y6<((List.take ((min ((a0).length:Int) 100).toNat) a0).length:Int)then((A.ix (List.take ((min ((a0).length:Int) 100).toNat) a0) y6).bind fun x9=>(A.gd (Z.R64 (y4+(min (x9.2.2.1.size:Int) 1000))) (A.gd (Z.R64 (y6+1)) ((F.L17_thin_l1 a0 f) (y4+(min (x9.2.2.1.size:Int) 1000)) (y6+1)))))else(some (bif decide (((a0).length:Int)≤100)then decide (y4≤2000)else false))
def F.L17_thin (a0:(List D41)):Option Bool:=A.gd (0≤min ((a0).length:Int) 100∧(min ((a0).length:Int) 100).toNat≤(a0).length) (F.L17_thin_l1 a0 A.FU 0 0)
theorem L17_thin_ok (a0:(List D41))(A0_:Option Addr)(c1_:Nat)(r:Bool)(hF:F.L17_thin a0=some r):
    A.Ct Tryd.prog 7 [.slice A0_ ((a0).length) c1_] [(0,.sh (.slice T41) [.slice A0_ (a0).length c1_] a0)] [] (fun v H'=>v=.bool r∧H'=[]):=by
 refine A.Ct.enter Tryd.func7 rfl Tryd.ntmps7 rfl fun w0 F0=>?_
 rw[F.L17_thin]at hF
 refine A.xl 1 ?_
 refine A.q0 [] [] [.n] [] ?_
 refine A.dl 2 ?_
 refine A.q0 [] [] [.n] [(3,.int .i64 0)] ?_
 refine A.dl 3 ?_
 refine A.q0 [] [] [.n,.n,.n,.n] [(6,.slice A0_ ((a0).length) c1_),(9,.int .i64 (min ((a0).length:Int) 100))] ?_
 obtain⟨hc1,hF⟩:=A.gd_some hF
 refine A.AL.cuth 0 1 (v:=(min ((a0).length:Int) 100).toNat) (Int.toNat_of_nonneg hc1.1).symm hc1.2 fun c3=>?_
 refine A.q0 [] [] [.n,.n] [(11,.int .i64 ((List.take ((min ((a0).length:Int) 100).toNat) a0).length:Int)),(12,.int .i64 0)] ?_
 refine A.dx 2 ?_
 refine A.lp_ [0,10,11] [0,1] (fun f nl nh=>∃(y4:Int),∃(y6:Int),nl=[(3,.int .i64 y4),(12,.int .i64 y6)]∧nh=[]∧IntKind.i64.has y4∧IntKind.i64.has y6∧F.L17_thin_l1 a0 f y4 y6=some r) ⟨0,0,rfl,rfl,(A.hasl .i64 (0) rfl),(A.hasl .i64 (0) rfl),hF⟩ ?_
 rintro f8 _ _ ⟨y4,y6,rfl,rfl,hy5,hy7,hF⟩
 rcases f8 with _|f8
 ·exact A.no0 hF
 rw[F.L17_thin_l1]at hF
 refine A.xl 1 ?_
 refine A.q0 [] [] [.n] [(13,.bool (decide (y6<((List.take ((min ((a0).length:Int) 100).toNat) a0).length:Int))))] ?_
 refine A.dx 2 ?_
 refine A.AX.cnd rfl hF (fun hb hF=>?_) (fun hb hF=>?_)
 ·refine A.xl 5 ?_
  obtain⟨x9,hv10,hF⟩:=A.bd_some hF
  refine A.AL.ixs 1 6 hv10 fun ho11=>?_
  intro b12 o13
  refine A.q0 [] [6] [.e 0 0] [(15,.agg #[.int .i64 x9.1,.int .i64 x9.2.1,.string x9.2.2.1,.int .i64 x9.2.2.2])] ?_
  refine A.AL.alloc 7 (cs:=[.int .i64 0,.int .i64 0,.string (ByteArray.mk #[]),.int .i64 0]) Tryd.zeroValue42 fun g14=>?_
  refine A.sw 7 [] [.int .i64 x9.1,.int .i64 x9.2.1,.string x9.2.2.1,.int .i64 x9.2.2.2] ?_
  refine A.dl 1 ?_
  obtain⟨hc15,hF⟩:=A.gd_some hF
  refine A.q [7] [] [.n,.n,.b 0 2,.n,.n,.n,.n] [Z.R64 (y4+(min (x9.2.2.1.size:Int) 1000))] [(3,.int .i64 (y4+(min (x9.2.2.1.size:Int) 1000)))] hc15 ?_
  refine A.dl 2 ?_
  obtain⟨hc16,hF⟩:=A.gd_some hF
  refine A.q [] [] [.n,.n] [Z.R64 (y6+1)] [(12,.int .i64 (y6+1))] hc16 ?_
  refine A.AL.done ?_
  exact A.j ⟨_,Nat.lt_succ_self _,⟨(y4+(min (x9.2.2.1.size:Int) 1000)),(y6+1),rfl,rfl,(Z.i64_has hc15),(Z.i64_has hc16),hF⟩⟩
 refine A.xl 3 ?_
 refine A.q0 [] [] [.n,.n,.n,.n,.sy .n,.sy .n,.pk,.n] [(2,.bool (bif decide (((a0).length:Int)≤100)then decide (y4≤2000)else false))] ?_
 refine A.dx 1 ?_
 obtain rfl:=Option.some.inj hF
 exact A.rt1 [] ⟨rfl,rfl⟩
def F.R05_Compare (a0:D45)(a1:D45):Option Int:=if a0.1<a1.1 then(some (-1))else(if a1.1<a0.1 then(some 1)else(if(Op.bytesLess a0.2.toList a1.2.toList)=true then(some (-1))else(if(!(Op.bytesLess a0.2.toList a1.2.toList||a0.2.toList==a1.2.toList))=true then(some 1)else(some 0))))
theorem R05_Compare_ok (a0:D45)(a1:D45)(h0_:IntKind.i64.has a0.1)(h1_:a0.2.size≤maxLen)(h2_:IntKind.i64.has a1.1)(h3_:a1.2.size≤maxLen)(r:Int)(hF:F.R05_Compare a0 a1=some r):
    A.Ct Tryd.prog 11 [.agg #[.int .i64 a0.1,.string a0.2],.agg #[.int .i64 a1.1,.string a1.2]] [] [] (fun v H'=>v=.int .i64 r∧H'=[]∧IntKind.i64.has r):=by
 refine A.Ct.enter Tryd.func11 rfl Tryd.ntmps11 rfl fun w0 F0=>?_
 rw[F.R05_Compare]at hF
 refine A.xl 1 ?_
 refine A.AL.box 0 (cs:=[.int .i64 a0.1,.string a0.2]) fun g1=>?_
 refine A.AL.box 1 (cs:=[.int .i64 a1.1,.string a1.2]) fun g2=>?_
 refine A.q0 [] [] [.n] [] ?_
 refine A.dl 3 ?_
 refine A.q0 [0,1] [] [.n,.b 0 0,.n,.b 1 0,.n,.n] [(5,.bool (decide (a0.1<a1.1)))] ?_
 refine A.dx 1 ?_
 refine A.AX.cnd rfl hF (fun hb hF=>?_) (fun hb hF=>?_)
 ·refine A.xl 1 ?_
  refine A.q0 [] [] [.n] [(4,.int .i64 (-1))] ?_
  refine A.dx 1 ?_
  obtain rfl:=Option.some.inj hF
  exact A.rt1 [] ⟨rfl,rfl,(A.hasl .i64 (-1) rfl)⟩
 refine A.xl 1 ?_
 refine A.q0 [0,1] [] [.n,.b 0 0,.n,.b 1 0,.n,.n] [(11,.bool (decide (a1.1<a0.1)))] ?_
 refine A.dx 1 ?_
 refine A.AX.cnd rfl hF (fun hb hF=>?_) (fun hb hF=>?_)
 ·refine A.xl 1 ?_
  refine A.q0 [] [] [.n] [(4,.int .i64 1)] ?_
  refine A.dx 1 ?_
  obtain rfl:=Option.some.inj hF
  exact A.rt1 [] ⟨rfl,rfl,(A.hasl .i64 (1) rfl)⟩
 refine A.xl 1 ?_
 refine A.q0 [0,1] [] [.n,.b 0 1,.n,.b 1 1,.n,.n] [(17,.bool (Op.bytesLess a0.2.toList a1.2.toList))] ?_
 refine A.dx 1 ?_
 refine A.AX.cnb rfl hF (fun hb hF=>?_) (fun hb hF=>?_)
 ·refine A.xl 1 ?_
  refine A.q0 [] [] [.n] [(4,.int .i64 (-1))] ?_
  refine A.dx 1 ?_
  obtain rfl:=Option.some.inj hF
  exact A.rt1 [] ⟨rfl,rfl,(A.hasl .i64 (-1) rfl)⟩
 refine A.xl 1 ?_
 refine A.q0 [0,1] [] [.n,.b 0 1,.n,.b 1 1,.n,.n] [(23,.bool (!(Op.bytesLess a0.2.toList a1.2.toList||a0.2.toList==a1.2.toList)))] ?_
 refine A.dx 1 ?_
 refine A.AX.cnb rfl hF (fun hb hF=>?_) (fun hb hF=>?_)
 ·refine A.xl 1 ?_
  refine A.q0 [] [] [.n] [(4,.int .i64 1)] ?_
  refine A.dx 1 ?_
  obtain rfl:=Option.some.inj hF
  exact A.rt1 [] ⟨rfl,rfl,(A.hasl .i64 (1) rfl)⟩
 refine A.xl 1 ?_
 refine A.q0 [] [] [.n] [(4,.int .i64 0)] ?_
 refine A.dx 1 ?_
 obtain rfl:=Option.some.inj hF
 exact A.rt1 [] ⟨rfl,rfl,(A.hasl .i64 (0) rfl)⟩
end Go.Proofs.YtbljnlkhebiniaaDoor
end
section
set_option linter.unusedVariables false
set_option linter.unusedSimpArgs false
set_option maxRecDepth 20000
set_option maxHeartbeats 8000000
set_option synthInstance.maxSize 1000000
set_option synthInstance.maxHeartbeats 400000
namespace Go.Proofs.YtbljnlkhebiniaaDoor
open Go.RowKit
def F.R17_Keeps (a0:Int):Option Bool:=some (bif decide (a0=11)then true else decide (a0=16))
theorem R17_Keeps_ok (a0:Int)(h0_:IntKind.i64.has a0)(r:Bool)(hF:F.R17_Keeps a0=some r):
    A.Ct Tryd.prog 16 [.int .i64 a0] [] [] (fun v H'=>v=.bool r∧H'=[]):=by
 refine A.Ct.enter Tryd.func16 rfl Tryd.ntmps16 rfl fun w0 F0=>?_
 rw[F.R17_Keeps]at hF
 refine A.xl 1 ?_
 refine A.q0 [] [] [.n] [] ?_
 refine A.dl 2 ?_
 refine A.q0 [] [] [.n,.n,.n,.sy .n,.sy .n,.pk,.n] [(2,.bool (bif decide (a0=11)then true else decide (a0=16)))] ?_
 refine A.dx 1 ?_
 obtain rfl:=Option.some.inj hF
 exact A.rt1 [] ⟨rfl,rfl⟩
end Go.Proofs.YtbljnlkhebiniaaDoor
end
section
set_option linter.unusedVariables false
set_option linter.unusedSimpArgs false
set_option maxRecDepth 20000
set_option maxHeartbeats 8000000
set_option synthInstance.maxSize 1000000
set_option synthInstance.maxHeartbeats 400000
namespace Go.Proofs.YtbljnlkhebiniaaDoor
open Go.RowKit
def F.R05_put_j1 (k1:(List D57)→Bool→Int→Option (List D57))(y6:Int)(xs11:List D57)(y12:Bool):Option (List D57):=A.gd (Z.R64 (y6+1)) (k1 xs11 y12 (y6+1))
def F.R05_put_j2 (k1:(List D57)→Bool→Int→Option (List D57))(a0:(List D57))(a1:D45)(a2:Int)(y6:Int)(r20:Int)(xs25:List D57)(y26:Bool):Option (List D57):=if r20=0 then((A.ix a0 y6).bind fun x27=>(A.gd (Z.R64 (x27.2+a2)) (A.gd ((List.length (α:=D57) xs25+List.length (α:=D57) [((a1.1,a1.2),x27.2+a2)])*32≤140737488355328) (F.R05_put_j1 k1 y6 (xs25++[((a1.1,a1.2),x27.2+a2)]) true))))else((A.ix a0 y6).bind fun x38=>(A.gd ((List.length (α:=D57) xs25+List.length (α:=D57) [((x38.1.1,x38.1.2),x38.2)])*32≤140737488355328) (F.R05_put_j1 k1 y6 (xs25++[((x38.1.1,x38.1.2),x38.2)]) y26)))
def F.R05_put_j3 (xs53:List D57):Option (List D57):=some xs53
def F.R05_put_l4 (a0:(List D57))(a1:D45)(a2:Int):Nat→(List D57)→Bool→Int→Option (List D57)
 |0,_,_,_=>none
 |f+1,xs4,y5,y6=>if y6<((a0).length:Int)then((A.ix a0 y6).bind fun x14=>((F.R05_Compare (a1.1,a1.2) (x14.1.1,x14.1.2)).bind fun r20=>(if(bif !y5 then decide (r20<0)else false)=true then(A.gd ((List.length (α:=D57) xs4+List.length (α:=D57) [((a1.1,a1.2),a2)])*32≤140737488355328) (F.R05_put_j2 (F.R05_put_l4 a0 a1 a2 f) a0 a1 a2 y6 r20 (xs4++[((a1.1,a1.2),a2)]) true))else(F.R05_put_j2 (F.R05_put_l4 a0 a1 a2 f) a0 a1 a2 y6 r20 xs4 y5))))else(if(!y5)=true then(A.gd ((List.length (α:=D57) xs4+List.length (α:=D57) [((a1.1,a1.2),a2)])*32≤140737488355328) (F.R05_put_j3 (xs4++[((a1.1,a1.2),a2)])))else(F.R05_put_j3 xs4))
def F.R05_put (a0:(List D57))(a1:D45)(a2:Int):Option (List D57):=F.R05_put_l4 a0 a1 a2 A.FU [] false 0
theorem R05_put_ok (a0:(List D57))(a1:D45)(a2:Int)(A0_:Option Addr)(c1_:Nat)(h2_:IntKind.i64.has a1.1)(h3_:a1.2.size≤maxLen)(h4_:IntKind.i64.has a2)(r:(List D57))(hF:F.R05_put a0 a1 a2=some r):
    A.Ct Tryd.prog 32 [.slice A0_ ((a0).length) c1_,.agg #[.int .i64 a1.1,.string a1.2],.int .i64 a2] [(0,.ln T57 A0_ c1_ a0)] [] (fun v H'=>∃(A0':Option Addr) (c1':Nat),v=.slice A0' ((r).length) c1'∧H'=[(0,.own T57 58 A0' c1' r)]):=by
 refine A.Ct.enter Tryd.func32 rfl Tryd.ntmps32 rfl fun w0 F0=>?_
 rw[F.R05_put]at hF
 refine A.xl 1 ?_
 refine A.AL.box 1 (cs:=[.int .i64 a1.1,.string a1.2]) fun g1=>?_
 refine A.q0 [] [] [.n] [] ?_
 refine A.dl 2 ?_
 refine A.q0 [] [] [.n] [(7,.slice none 0 0)] ?_
 refine A.dl 2 ?_
 refine A.q0 [] [] [.n] [(8,.bool false)] ?_
 refine A.dl 3 ?_
 refine A.q0 [] [] [.n] [(9,.int .i64 0)] ?_
 refine A.dx 2 ?_
 refine A.nil 102 T57 58 ?_
 refine A.lp_ [0,2,4] [0,1] (fun f nl nh=>∃(xs4:List D57),∃(y5:Bool),∃(y6:Int),∃(A2:Option Addr),∃(c3:Nat),nl=[(7,.slice A2 ((xs4).length) c3),(8,.bool y5),(9,.int .i64 y6)]∧nh=[(102,.own T57 58 A2 c3 xs4)]∧IntKind.i64.has y6∧F.R05_put_l4 a0 a1 a2 f xs4 y5 y6=some r) ⟨[],false,0,none,0,rfl,rfl,(A.hasl .i64 (0) rfl),hF⟩ ?_
 rintro f8 _ _ ⟨xs4,y5,y6,A2,c3,rfl,rfl,hy7,hF⟩
 rcases f8 with _|f8
 ·exact A.no0 hF
 rw[F.R05_put_l4]at hF
 refine A.xl 2 ?_
 refine A.q0 [] [] [.n,.n,.n,.n] [(14,.bool (decide (y6<((a0).length:Int))))] ?_
 refine A.dx 1 ?_
 refine A.AX.cnd rfl hF (fun hb hF=>?_) (fun hb hF=>?_)
 ·refine A.xx 2 ?_
  refine A.AX.join [0,2,4,9] [0,1] (fun nl nh=>∃(xs11:List D57),∃(y12:Bool),∃(A9:Option Addr),∃(c10:Nat),nl=[(7,.slice A9 ((xs11).length) c10),(8,.bool y12)]∧nh=[(102,.own T57 58 A9 c10 xs11)]∧F.R05_put_j1 (F.R05_put_l4 a0 a1 a2 f8) y6 xs11 y12=some r) ?_ ?_
  ·refine A.xx 2 ?_
   refine A.AX.dr mixed 8 8 (A.mb 8 0) ?_
   refine A.hq A.pb [] [0,1,102] [1] [] (A.mb 8 7) 5 [(0,.b 0 0),(1,.n),(2,.n)] [(17,.agg #[.int .i64 a1.1,.string a1.2]),(18,.slice A0_ ((a0).length) c1_),(19,.int .i64 y6)] ?_
   obtain⟨x14,hv15,hF⟩:=A.bd_some hF
   refine A.AH.pkl 0 198 hv15 fun ho16=>?_
   intro b18 o19 hA17
   refine A.AH.v A.pb [0,1,102] [0,1,102,198] 3 (A.mb 8 15) rfl (fun a w hf hh=>A.r_ixa (t:=T57) hv15 hA17 hf) ?_
   refine A.hq A.pb [0,1,102,198] [0,1,102,198] [] [198] (A.mb 8 63) 2 [(4,.n),(5,.e 0 0)] [(22,.agg #[.int .i64 x14.1.1,.string x14.1.2])] ?_
   refine A.AH.one 6 ?_
   obtain⟨r20,hv21,hF⟩:=A.bd_some hF
   refine A.AL.call 199 [] (first:=[]) (cap:=[]) cf11 (R05_Compare_ok (a1.1,a1.2) (x14.1.1,x14.1.2) h2_ h3_ ho16.1.1 ho16.1.2 r20 hv21) .nil ?_
   rintro _ _ ⟨rfl,rfl,hr22⟩
   refine⟨by kernel_rfl,?_⟩
   refine A.AH.nx (A.mb 8 127) [0,1,102,198] ?_
   refine A.hq A.pb [0,1,102,198] [0,1,102,198] [] [] (A.mb 8 255) 0 [(7,.n)] [(10,.int .i64 r20)] ?_
   refine A.AH.done ?_
   refine A.ex 1 ?_
   refine A.AX.join [0,2,4,9,10] [0,1] (fun nl nh=>∃(xs25:List D57),∃(y26:Bool),∃(A23:Option Addr),∃(c24:Nat),nl=[(7,.slice A23 ((xs25).length) c24),(8,.bool y26)]∧nh=[(102,.own T57 58 A23 c24 xs25)]∧F.R05_put_j2 (F.R05_put_l4 a0 a1 a2 f8) a0 a1 a2 y6 r20 xs25 y26=some r) ?_ ?_
   ·refine A.xl 1 ?_
    refine A.q0 [] [] [.n,.n,.n,.sy .n,.sy .n,.pk] [(29,.bool (bif !y5 then decide (r20<0)else false))] ?_
    refine A.dx 1 ?_
    refine A.AX.cnb rfl hF (fun hb hF=>?_) (fun hb hF=>?_)
    ·refine A.xl 1 ?_
     refine A.q0 [1] [] [.n,.b 0 0,.n,.n] [(30,.slice A2 ((xs4).length) c3),(33,.agg #[.int .i64 a1.1,.string a1.2,.int .i64 a2])] ?_
     refine A.AL.bsl 239 (ty:=T57) (cs:=[.int .i64 a1.1,.string a1.2,.int .i64 a2]) [((a1.1,a1.2),a2)] ⟨⟨⟨⟨rfl,h2_⟩,⟨rfl,h3_⟩⟩,⟨rfl,h4_⟩⟩,rfl⟩ (fun g47=>?_) Tryd.zeroValue58 Tryd.sizeOf58
     obtain⟨hl50,hF⟩:=A.gd_some hF
     refine A.AL.app (k:=102) [] (A.rowO (k:=239) rfl) inf58 hl50 fun A48 c49=>?_
     refine A.q0 [] [] [.n] [(7,.slice A48 ((xs4++[((a1.1,a1.2),a2)]).length) c49)] ?_
     refine A.dl 1 ?_
     refine A.q0 [] [] [.n] [(8,.bool true)] ?_
     refine A.AL.done ?_
     exact A.j ⟨(xs4++[((a1.1,a1.2),a2)]),true,A48,c49,rfl,rfl,hF⟩
    refine A.xe 1 ?_
    exact A.j ⟨xs4,y5,A2,c3,rfl,rfl,hF⟩
   rintro _ _ ⟨xs25,y26,A23,c24,rfl,rfl,hF⟩
   rw[F.R05_put_j2]at hF
   refine A.xl 1 ?_
   refine A.q0 [] [] [.n,.n] [(37,.bool (decide (r20=0)))] ?_
   refine A.dx 1 ?_
   refine A.AX.cnd rfl hF (fun hb hF=>?_) (fun hb hF=>?_)
   ·refine A.xx 1 ?_
    refine A.AX.dr mixed 13 13 (A.mb 13 0) ?_
    refine A.hq A.pb [] [0,1] [1] [] (A.mb 13 143) 8 [(0,.n),(1,.b 0 0),(2,.n),(3,.n),(7,.n)] [(38,.slice A23 ((xs25).length) c24),(39,.agg #[.int .i64 a1.1,.string a1.2]),(40,.slice A0_ ((a0).length) c1_),(41,.int .i64 y6),(45,.int .i64 a2)] ?_
    obtain⟨x27,hv28,hF⟩:=A.bd_some hF
    refine A.AH.pkl 0 240 hv28 fun ho29=>?_
    intro b31 o32 hA30
    refine A.AH.v A.pb [0,1] [0,1,240] 4 (A.mb 13 159) rfl (fun a w hf hh=>A.r_ixa (t:=T57) hv28 hA30 hf) ?_
    obtain⟨hc33,hF⟩:=A.gd_some hF
    refine A.AH.q A.pb [0,1,240] [0,1,240] [] [240] (A.mb 13 1023) 3 [(5,.n),(6,.e 0 2),(8,.n),(9,.n)] [47] [Z.R64 (x27.2+a2)] [(47,.agg #[.int .i64 a1.1,.string a1.2,.int .i64 (x27.2+a2)])] hc33 ?_
    refine A.AH.one 10 ?_
    refine A.AL.bsl 241 (ty:=T57) (cs:=[.int .i64 a1.1,.string a1.2,.int .i64 (x27.2+a2)]) [((a1.1,a1.2),x27.2+a2)] ⟨⟨⟨⟨rfl,h2_⟩,⟨rfl,h3_⟩⟩,⟨rfl,(Z.i64_has hc33)⟩⟩,rfl⟩ (fun g34=>?_) Tryd.zeroValue58 Tryd.sizeOf58
    refine A.AH.nx (A.mb 13 2047) [0,1,240] ?_
    refine A.AH.one 11 ?_
    obtain⟨hl37,hF⟩:=A.gd_some hF
    refine A.AL.app (k:=102) [] (A.rowO (k:=241) rfl) inf58 hl37 fun A35 c36=>?_
    refine A.AH.nx (A.mb 13 4095) [0,1,240] ?_
    refine A.hq A.pb [0,1,240] [0,1,102,240,241] [] [] (A.mb 13 8191) 0 [(12,.n)] [(7,.slice A35 ((xs25++[((a1.1,a1.2),x27.2+a2)]).length) c36)] ?_
    refine A.AH.done ?_
    refine A.el 1 ?_
    refine A.q0 [] [] [.n] [(8,.bool true)] ?_
    refine A.de 1 ?_
    exact A.j ⟨(xs25++[((a1.1,a1.2),x27.2+a2)]),true,A35,c36,rfl,rfl,hF⟩
   refine A.xl 0 ?_
   refine A.q0 [] [] [.n,.n,.n] [(50,.slice A23 ((xs25).length) c24),(51,.slice A0_ ((a0).length) c1_),(52,.int .i64 y6)] ?_
   obtain⟨x38,hv39,hF⟩:=A.bd_some hF
   refine A.AL.ixl 0 242 hv39 fun ho40=>?_
   intro b41 o42
   refine A.q0 [] [242] [.e 0 0] [(54,.agg #[.int .i64 x38.1.1,.string x38.1.2,.int .i64 x38.2])] ?_
   refine A.AL.bsl 243 (ty:=T57) (cs:=[.int .i64 x38.1.1,.string x38.1.2,.int .i64 x38.2]) [((x38.1.1,x38.1.2),x38.2)] ⟨⟨⟨⟨rfl,ho40.1.1⟩,⟨rfl,ho40.1.2⟩⟩,⟨rfl,ho40.2⟩⟩,rfl⟩ (fun g43=>?_) Tryd.zeroValue58 Tryd.sizeOf58
   obtain⟨hl46,hF⟩:=A.gd_some hF
   refine A.AL.app (k:=102) [] (A.rowO (k:=243) rfl) inf58 hl46 fun A44 c45=>?_
   refine A.q0 [] [] [.n] [(7,.slice A44 ((xs25++[((x38.1.1,x38.1.2),x38.2)]).length) c45)] ?_
   refine A.de 1 ?_
   exact A.j ⟨(xs25++[((x38.1.1,x38.1.2),x38.2)]),y26,A44,c45,rfl,rfl,hF⟩
  rintro _ _ ⟨xs11,y12,A9,c10,rfl,rfl,hF⟩
  rw[F.R05_put_j1]at hF
  refine A.xl 0 ?_
  obtain⟨hc13,hF⟩:=A.gd_some hF
  refine A.q [] [] [.n,.n,.n] [Z.R64 (y6+1)] [(9,.int .i64 (y6+1))] hc13 ?_
  refine A.AL.done ?_
  exact A.j ⟨_,Nat.lt_succ_self _,⟨xs11,y12,(y6+1),A9,c10,rfl,rfl,(Z.i64_has hc13),hF⟩⟩
 refine A.xx 2 ?_
 refine A.AX.join [] [] (fun nl nh=>∃(xs53:List D57),∃(A51:Option Addr),∃(c52:Nat),nl=[(7,.slice A51 ((xs53).length) c52)]∧nh=[(102,.own T57 58 A51 c52 xs53)]∧F.R05_put_j3 xs53=some r) ?_ ?_
 ·refine A.xl 1 ?_
  refine A.q0 [] [] [.n,.n] [(58,.bool (!y5))] ?_
  refine A.dx 1 ?_
  refine A.AX.cnb rfl hF (fun hb hF=>?_) (fun hb hF=>?_)
  ·refine A.xl 0 ?_
   refine A.q0 [1] [] [.n,.b 0 0,.n,.n] [(59,.slice A2 ((xs4).length) c3),(62,.agg #[.int .i64 a1.1,.string a1.2,.int .i64 a2])] ?_
   refine A.AL.bsl 244 (ty:=T57) (cs:=[.int .i64 a1.1,.string a1.2,.int .i64 a2]) [((a1.1,a1.2),a2)] ⟨⟨⟨⟨rfl,h2_⟩,⟨rfl,h3_⟩⟩,⟨rfl,h4_⟩⟩,rfl⟩ (fun g54=>?_) Tryd.zeroValue58 Tryd.sizeOf58
   obtain⟨hl57,hF⟩:=A.gd_some hF
   refine A.AL.app (k:=102) [] (A.rowO (k:=244) rfl) inf58 hl57 fun A55 c56=>?_
   refine A.q0 [] [] [.n] [(7,.slice A55 ((xs4++[((a1.1,a1.2),a2)]).length) c56)] ?_
   refine A.AL.done ?_
   exact A.j ⟨(xs4++[((a1.1,a1.2),a2)]),A55,c56,rfl,rfl,hF⟩
  refine A.xe 1 ?_
  exact A.j ⟨xs4,A2,c3,rfl,rfl,hF⟩
 rintro _ _ ⟨xs53,A51,c52,rfl,rfl,hF⟩
 rw[F.R05_put_j3]at hF
 refine A.xl 1 ?_
 refine A.q0 [] [] [.n,.n] [(6,.slice A51 ((xs53).length) c52)] ?_
 refine A.dx 1 ?_
 obtain rfl:=Option.some.inj hF
 exact A.rt1 [(0,102)] ⟨A51,c52,rfl,rfl⟩
def F.R05_over_l1 (a0:(List D57)):Nat→Int→Option Int
 |0,_=>none
 |f+1,y1=>if y1<((a0).length:Int)then((A.ix a0 y1).bind fun x4=>(if(1048576:Int)<x4.2 then(some 51)else(A.gd (Z.R64 (y1+1)) ((F.R05_over_l1 a0 f) (y1+1)))))else(some 0)
def F.R05_over (a0:(List D57)):Option Int:=F.R05_over_l1 a0 A.FU 0
theorem R05_over_ok (a0:(List D57))(A0_:Option Addr)(c1_:Nat)(r:Int)(hF:F.R05_over a0=some r):
    A.Ct Tryd.prog 33 [.slice A0_ ((a0).length) c1_] [(0,.ln T57 A0_ c1_ a0)] [] (fun v H'=>v=.int .i64 r∧H'=[]∧IntKind.i64.has r):=by
 refine A.Ct.enter Tryd.func33 rfl Tryd.ntmps33 rfl fun w0 F0=>?_
 rw[F.R05_over]at hF
 refine A.xl 1 ?_
 refine A.q0 [] [] [.n] [] ?_
 refine A.dl 3 ?_
 refine A.q0 [] [] [.n] [(3,.int .i64 0)] ?_
 refine A.dx 2 ?_
 refine A.lp_ [0] [0] (fun f nl nh=>∃(y1:Int),nl=[(3,.int .i64 y1)]∧nh=[]∧IntKind.i64.has y1∧F.R05_over_l1 a0 f y1=some r) ⟨0,rfl,rfl,(A.hasl .i64 (0) rfl),hF⟩ ?_
 rintro f3 _ _ ⟨y1,rfl,rfl,hy2,hF⟩
 rcases f3 with _|f3
 ·exact A.no0 hF
 rw[F.R05_over_l1]at hF
 refine A.xl 2 ?_
 refine A.q0 [] [] [.n,.n,.n,.n] [(7,.bool (decide (y1<((a0).length:Int))))] ?_
 refine A.dx 1 ?_
 refine A.AX.cnd rfl hF (fun hb hF=>?_) (fun hb hF=>?_)
 ·refine A.xl 5 ?_
  refine A.q0 [] [] [.n,.n] [(10,.slice A0_ ((a0).length) c1_),(11,.int .i64 y1)] ?_
  obtain⟨x4,hv5,hF⟩:=A.bd_some hF
  refine A.AL.ixl 0 3 hv5 fun ho6=>?_
  intro b7 o8
  refine A.q0 [] [3] [.n,.e 0 2,.n] [(15,.bool (decide ((1048576:Int)<x4.2)))] ?_
  refine A.dx 1 ?_
  refine A.AX.cnd rfl hF (fun hb hF=>?_) (fun hb hF=>?_)
  ·refine A.xl 1 ?_
   refine A.q0 [] [] [.n] [(2,.int .i64 51)] ?_
   refine A.dx 1 ?_
   obtain rfl:=Option.some.inj hF
   exact A.rt1 [] ⟨rfl,rfl,(A.hasl .i64 (51) rfl)⟩
  refine A.xl 3 ?_
  obtain⟨hc9,hF⟩:=A.gd_some hF
  refine A.q [] [] [.n,.n,.n] [Z.R64 (y1+1)] [(3,.int .i64 (y1+1))] hc9 ?_
  refine A.AL.done ?_
  exact A.j ⟨_,Nat.lt_succ_self _,⟨(y1+1),rfl,rfl,(Z.i64_has hc9),hF⟩⟩
 refine A.xl 3 ?_
 refine A.q0 [] [] [.n] [(2,.int .i64 0)] ?_
 refine A.dx 1 ?_
 obtain rfl:=Option.some.inj hF
 exact A.rt1 [] ⟨rfl,rfl,(A.hasl .i64 (0) rfl)⟩
def F.R05_tail (a0:UInt8):Option Bool:=some (bif decide ((128:Int)≤(a0.toNat:Int))then decide ((a0.toNat:Int)≤191)else false)
theorem R05_tail_ok (a0:UInt8)(r:Bool)(hF:F.R05_tail a0=some r):
    A.Ct Tryd.prog 105 [.int .u8 (a0.toNat:Int)] [] [] (fun v H'=>v=.bool r∧H'=[]):=by
 refine A.Ct.enter Tryd.func105 rfl Tryd.ntmps105 rfl fun w0 F0=>?_
 rw[F.R05_tail]at hF
 refine A.xl 1 ?_
 refine A.q0 [] [] [.n] [] ?_
 refine A.dl 2 ?_
 refine A.q0 [] [] [.n,.n,.n,.sy .n,.sy .n,.pk,.n] [(2,.bool (bif decide ((128:Int)≤(a0.toNat:Int))then decide ((a0.toNat:Int)≤191)else false))] ?_
 refine A.dx 1 ?_
 obtain rfl:=Option.some.inj hF
 exact A.rt1 [] ⟨rfl,rfl⟩
def F.R05_width_j1 (x2:UInt8)(y4:UInt8)(y7:Bool):Option Int:=if y7=true then(if(bif decide ((x2.toNat:Int)=240)then decide ((y4.toNat:Int)<144)else false)=true then(some 0)else(if(bif decide ((x2.toNat:Int)=244)then decide ((143:Int)<(y4.toNat:Int))else false)=true then(some 0)else(some 4)))else(some 0)
def F.R05_width_j2 (a0:ByteArray)(a1:Int)(x2:UInt8)(y4:UInt8)(y6:Bool):Option Int:=if y6=true then(if(bif decide ((x2.toNat:Int)=224)then decide ((y4.toNat:Int)<160)else false)=true then(some 0)else(if(bif decide ((x2.toNat:Int)=237)then decide ((159:Int)<(y4.toNat:Int))else false)=true then(some 0)else(some 3)))else(if(bif bif decide ((240:Int)≤(x2.toNat:Int))then decide ((x2.toNat:Int)≤244)else false then decide ((4:Int)≤(a0.size:Int)-a1)else false)=true then((F.R05_tail y4).bind fun r8=>(if r8=true then(A.gd (Z.R64 (a1+2)) ((A.ix a0.data.toList (a1+2)).bind fun x11=>((F.R05_tail x11).bind fun r13=>(if r13=true then(A.gd (Z.R64 (a1+3)) ((A.ix a0.data.toList (a1+3)).bind fun x16=>((F.R05_tail x16).bind fun r18=>(F.R05_width_j1 x2 y4 r18))))else(F.R05_width_j1 x2 y4 false)))))else(F.R05_width_j1 x2 y4 false)))else(F.R05_width_j1 x2 y4 false))
def F.R05_width_j3 (a0:ByteArray)(a1:Int)(x2:UInt8)(y4:UInt8)(y5:Bool):Option Int:=if y5=true then(some 2)else(if(bif bif decide ((224:Int)≤(x2.toNat:Int))then decide ((x2.toNat:Int)≤239)else false then decide ((3:Int)≤(a0.size:Int)-a1)else false)=true then((F.R05_tail y4).bind fun r20=>(if r20=true then(A.gd (Z.R64 (a1+2)) ((A.ix a0.data.toList (a1+2)).bind fun x23=>((F.R05_tail x23).bind fun r25=>(F.R05_width_j2 a0 a1 x2 y4 r25))))else(F.R05_width_j2 a0 a1 x2 y4 false)))else(F.R05_width_j2 a0 a1 x2 y4 false))
def F.R05_width_j4 (a0:ByteArray)(a1:Int)(x2:UInt8)(y4:UInt8):Option Int:=if(x2.toNat:Int)<128 then(some 1)else(if(bif bif decide ((194:Int)≤(x2.toNat:Int))then decide ((x2.toNat:Int)≤223)else false then decide ((2:Int)≤(a0.size:Int)-a1)else false)=true then((F.R05_tail y4).bind fun r27=>(F.R05_width_j3 a0 a1 x2 y4 r27))else(F.R05_width_j3 a0 a1 x2 y4 false))
def F.R05_width (a0:ByteArray)(a1:Int):Option Int:=A.gd (Z.R64 ((a0.size:Int)-a1)) ((A.ix a0.data.toList a1).bind fun x2=>(if(1:Int)<(a0.size:Int)-a1 then(A.gd (Z.R64 (a1+1)) ((A.ix a0.data.toList (a1+1)).bind fun x30=>(F.R05_width_j4 a0 a1 x2 x30)))else(F.R05_width_j4 a0 a1 x2 (0:UInt8))))
theorem R05_width_ok (a0:ByteArray)(a1:Int)(h0_:a0.size≤maxLen)(h1_:IntKind.i64.has a1)(r:Int)(hF:F.R05_width a0 a1=some r):
    A.Ct Tryd.prog 103 [.string a0,.int .i64 a1] [] [] (fun v H'=>v=.int .i64 r∧H'=[]∧IntKind.i64.has r):=by
 refine A.Ct.enter Tryd.func103 rfl Tryd.ntmps103 rfl fun w0 F0=>?_
 rw[F.R05_width]at hF
 refine A.xl 1 ?_
 refine A.q0 [] [] [.n] [] ?_
 refine A.dl 2 ?_
 obtain⟨hc1,hF⟩:=A.gd_some hF
 refine A.q [] [] [.n,.n,.n,.n,.n] [Z.R64 ((a0.size:Int)-a1)] [(5,.int .i64 ((a0.size:Int)-a1))] hc1 ?_
 refine A.dl 2 ?_
 refine A.q0 [] [] [.n,.n] [(12,.string a0),(13,.int .i64 a1)] ?_
 obtain⟨x2,hv3,hF⟩:=A.bd_some hF
 refine A.AL.ixt hv3 ?_
 refine A.q0 [] [] [.n] [(6,.int .u8 (x2.toNat:Int))] ?_
 refine A.dl 2 ?_
 refine A.q0 [] [] [.n] [(7,.int .u8 0)] ?_
 refine A.dx 1 ?_
 refine A.AX.join [0,1,5,6] [] (fun nl nh=>∃(y4:UInt8),nl=[(7,.int .u8 (y4.toNat:Int))]∧nh=[]∧F.R05_width_j4 a0 a1 x2 y4=some r) ?_ ?_
 ·refine A.xl 1 ?_
  refine A.q0 [] [] [.n,.n] [(16,.bool (decide ((1:Int)<(a0.size:Int)-a1)))] ?_
  refine A.dx 1 ?_
  refine A.AX.cnd rfl hF (fun hb hF=>?_) (fun hb hF=>?_)
  ·refine A.xl 0 ?_
   obtain⟨hc29,hF⟩:=A.gd_some hF
   refine A.q [] [] [.n,.n,.n] [Z.R64 (a1+1)] [(17,.string a0),(19,.int .i64 (a1+1))] hc29 ?_
   obtain⟨x30,hv31,hF⟩:=A.bd_some hF
   refine A.AL.ixt hv31 ?_
   refine A.q0 [] [] [.n] [(7,.int .u8 (x30.toNat:Int))] ?_
   refine A.AL.done ?_
   exact A.j ⟨x30,rfl,rfl,hF⟩
  refine A.xe 1 ?_
  exact A.j ⟨(0:UInt8),rfl,rfl,hF⟩
 rintro _ _ ⟨y4,rfl,rfl,hF⟩
 rw[F.R05_width_j4]at hF
 refine A.xl 2 ?_
 refine A.q0 [] [] [.n,.n,.n] [(21,.bool (decide ((x2.toNat:Int)<128)))] ?_
 refine A.dx 1 ?_
 refine A.AX.cnd rfl hF (fun hb hF=>?_) (fun hb hF=>?_)
 ·refine A.xl 1 ?_
  refine A.q0 [] [] [.n] [(4,.int .i64 1)] ?_
  refine A.dx 1 ?_
  obtain rfl:=Option.some.inj hF
  exact A.rt1 [] ⟨rfl,rfl,(A.hasl .i64 (1) rfl)⟩
 refine A.AX.join [0,1,5,6,7] [] (fun nl nh=>∃(y5:Bool),nl=[(24,.bool y5)]∧nh=[]∧F.R05_width_j3 a0 a1 x2 y4 y5=some r) ?_ ?_
 ·refine A.xl 0 ?_
  refine A.q0 [] [] [.n,.n,.n,.sy .n,.sy .n,.pk,.n,.sy .n,.sy .n,.pk,.n] [(35,.bool (bif bif decide ((194:Int)≤(x2.toNat:Int))then decide ((x2.toNat:Int)≤223)else false then decide ((2:Int)≤(a0.size:Int)-a1)else false))] ?_
  refine A.AL.cnd (j:=35) rfl hF (fun hF=>?_) (fun hF=>?_)
  ·refine A.q0 [] [] [.on .n] [(36,.int .u8 (y4.toNat:Int))] ?_
   refine A.AL.on (dj:=35) rfl rfl ?_
   obtain⟨r27,hv28,hF⟩:=A.bd_some hF
   refine A.AL.call 0 [] (first:=[]) (cap:=[]) cf105 (R05_tail_ok y4 r27 hv28) .nil ?_
   rintro _ _ ⟨rfl,rfl⟩
   refine⟨by kernel_rfl,?_⟩
   refine A.q0 [] [] [.n,.n] [(24,.bool r27)] ?_
   refine A.AL.done ?_
   exact A.j ⟨r27,rfl,rfl,hF⟩
  refine A.q0 [] [] [.off,.off,.n,.n] [(24,.bool false)] ?_
  refine A.AL.done ?_
  exact A.j ⟨false,rfl,rfl,hF⟩
 rintro _ _ ⟨y5,rfl,rfl,hF⟩
 rw[F.R05_width_j3]at hF
 refine A.AX.cnb rfl hF (fun hb hF=>?_) (fun hb hF=>?_)
 ·refine A.xl 1 ?_
  refine A.q0 [] [] [.n] [(4,.int .i64 2)] ?_
  refine A.dx 1 ?_
  obtain rfl:=Option.some.inj hF
  exact A.rt1 [] ⟨rfl,rfl,(A.hasl .i64 (2) rfl)⟩
 refine A.AX.join [0,1,5,6,7] [] (fun nl nh=>∃(y6:Bool),nl=[(39,.bool y6)]∧nh=[]∧F.R05_width_j2 a0 a1 x2 y4 y6=some r) ?_ ?_
 ·refine A.xl 0 ?_
  refine A.q0 [] [] [.n,.n,.n,.sy .n,.sy .n,.pk,.n,.sy .n,.sy .n,.pk,.n] [(50,.bool (bif bif decide ((224:Int)≤(x2.toNat:Int))then decide ((x2.toNat:Int)≤239)else false then decide ((3:Int)≤(a0.size:Int)-a1)else false))] ?_
  refine A.AL.cnd (j:=50) rfl hF (fun hF=>?_) (fun hF=>?_)
  ·refine A.q0 [] [] [.on .n] [(51,.int .u8 (y4.toNat:Int))] ?_
   refine A.AL.on (dj:=50) rfl rfl ?_
   obtain⟨r20,hv21,hF⟩:=A.bd_some hF
   refine A.AL.call 40 [] (first:=[]) (cap:=[]) cf105 (R05_tail_ok y4 r20 hv21) .nil ?_
   rintro _ _ ⟨rfl,rfl⟩
   refine⟨by kernel_rfl,?_⟩
   refine A.q0 [] [] [.n,.n] [(54,.bool r20)] ?_
   refine A.AL.cnd (j:=54) rfl hF (fun hF=>?_) (fun hF=>?_)
   ·obtain⟨hc22,hF⟩:=A.gd_some hF
    refine A.q [] [] [.on .n,.on .n,.on .n] [Z.R64 (a1+2)] [(55,.string a0),(57,.int .i64 (a1+2))] hc22 ?_
    refine A.AL.on (dj:=54) rfl rfl ?_
    obtain⟨x23,hv24,hF⟩:=A.bd_some hF
    refine A.AL.ixt hv24 ?_
    refine A.AL.on (dj:=54) rfl rfl ?_
    obtain⟨r25,hv26,hF⟩:=A.bd_some hF
    refine A.AL.call 80 [] (first:=[]) (cap:=[]) cf105 (R05_tail_ok x23 r25 hv26) .nil ?_
    rintro _ _ ⟨rfl,rfl⟩
    refine⟨by kernel_rfl,?_⟩
    refine A.q0 [] [] [.n,.n] [(39,.bool r25)] ?_
    refine A.AL.done ?_
    exact A.j ⟨r25,rfl,rfl,hF⟩
   refine A.q0 [] [] [.off,.off,.off,.off,.off,.n,.n] [(39,.bool false)] ?_
   refine A.AL.done ?_
   exact A.j ⟨false,rfl,rfl,hF⟩
  refine A.q0 [] [] [.off,.off,.n,.n,.off,.off,.off,.off,.off,.n,.n] [(39,.bool false)] ?_
  refine A.AL.done ?_
  exact A.j ⟨false,rfl,rfl,hF⟩
 rintro _ _ ⟨y6,rfl,rfl,hF⟩
 rw[F.R05_width_j2]at hF
 refine A.AX.cnb rfl hF (fun hb hF=>?_) (fun hb hF=>?_)
 ·refine A.xl 2 ?_
  refine A.q0 [] [] [.n,.n,.n,.sy .n,.sy .n,.pk,.n] [(67,.bool (bif decide ((x2.toNat:Int)=224)then decide ((y4.toNat:Int)<160)else false))] ?_
  refine A.AL.cnd (j:=67) rfl hF (fun hF=>?_) (fun hF=>?_)
  ·refine A.q0 [] [] [.off,.off,.off,.off,.off,.off,.n] [(74,.bool true)] ?_
   refine A.dx 1 ?_
   refine A.AX.cnt rfl ?_
   refine A.xl 1 ?_
   refine A.q0 [] [] [.n] [(4,.int .i64 0)] ?_
   refine A.dx 1 ?_
   obtain rfl:=Option.some.inj hF
   exact A.rt1 [] ⟨rfl,rfl,(A.hasl .i64 (0) rfl)⟩
  refine A.q0 [] [] [.on .n,.on .n,.on .n,.sy .n,.sy .n,.on .pk,.n] [(74,.bool (bif decide ((x2.toNat:Int)=237)then decide ((159:Int)<(y4.toNat:Int))else false))] ?_
  refine A.dx 1 ?_
  refine A.AX.cnb rfl hF (fun hb hF=>?_) (fun hb hF=>?_)
  ·refine A.xl 1 ?_
   refine A.q0 [] [] [.n] [(4,.int .i64 0)] ?_
   refine A.dx 1 ?_
   obtain rfl:=Option.some.inj hF
   exact A.rt1 [] ⟨rfl,rfl,(A.hasl .i64 (0) rfl)⟩
  refine A.xl 3 ?_
  refine A.q0 [] [] [.n] [(4,.int .i64 3)] ?_
  refine A.dx 1 ?_
  obtain rfl:=Option.some.inj hF
  exact A.rt1 [] ⟨rfl,rfl,(A.hasl .i64 (3) rfl)⟩
 refine A.AX.join [6,7] [] (fun nl nh=>∃(y7:Bool),nl=[(75,.bool y7)]∧nh=[]∧F.R05_width_j1 x2 y4 y7=some r) ?_ ?_
 ·refine A.xl 0 ?_
  refine A.q0 [] [] [.n,.n,.n,.sy .n,.sy .n,.pk,.n,.sy .n,.sy .n,.pk,.n] [(86,.bool (bif bif decide ((240:Int)≤(x2.toNat:Int))then decide ((x2.toNat:Int)≤244)else false then decide ((4:Int)≤(a0.size:Int)-a1)else false))] ?_
  refine A.AL.cnd (j:=86) rfl hF (fun hF=>?_) (fun hF=>?_)
  ·refine A.q0 [] [] [.on .n] [(87,.int .u8 (y4.toNat:Int))] ?_
   refine A.AL.on (dj:=86) rfl rfl ?_
   obtain⟨r8,hv9,hF⟩:=A.bd_some hF
   refine A.AL.call 120 [] (first:=[]) (cap:=[]) cf105 (R05_tail_ok y4 r8 hv9) .nil ?_
   rintro _ _ ⟨rfl,rfl⟩
   refine⟨by kernel_rfl,?_⟩
   refine A.q0 [] [] [.n,.n] [(90,.bool r8)] ?_
   refine A.AL.cnd (j:=90) rfl hF (fun hF=>?_) (fun hF=>?_)
   ·obtain⟨hc10,hF⟩:=A.gd_some hF
    refine A.q [] [] [.on .n,.on .n,.on .n] [Z.R64 (a1+2)] [(91,.string a0),(93,.int .i64 (a1+2))] hc10 ?_
    refine A.AL.on (dj:=90) rfl rfl ?_
    obtain⟨x11,hv12,hF⟩:=A.bd_some hF
    refine A.AL.ixt hv12 ?_
    refine A.AL.on (dj:=90) rfl rfl ?_
    obtain⟨r13,hv14,hF⟩:=A.bd_some hF
    refine A.AL.call 160 [] (first:=[]) (cap:=[]) cf105 (R05_tail_ok x11 r13 hv14) .nil ?_
    rintro _ _ ⟨rfl,rfl⟩
    refine⟨by kernel_rfl,?_⟩
    refine A.q0 [] [] [.n,.n] [(97,.bool r13)] ?_
    refine A.AL.cnd (j:=97) rfl hF (fun hF=>?_) (fun hF=>?_)
    ·obtain⟨hc15,hF⟩:=A.gd_some hF
     refine A.q [] [] [.on .n,.on .n,.on .n] [Z.R64 (a1+3)] [(98,.string a0),(100,.int .i64 (a1+3))] hc15 ?_
     refine A.AL.on (dj:=97) rfl rfl ?_
     obtain⟨x16,hv17,hF⟩:=A.bd_some hF
     refine A.AL.ixt hv17 ?_
     refine A.AL.on (dj:=97) rfl rfl ?_
     obtain⟨r18,hv19,hF⟩:=A.bd_some hF
     refine A.AL.call 200 [] (first:=[]) (cap:=[]) cf105 (R05_tail_ok x16 r18 hv19) .nil ?_
     rintro _ _ ⟨rfl,rfl⟩
     refine⟨by kernel_rfl,?_⟩
     refine A.q0 [] [] [.n,.n] [(75,.bool r18)] ?_
     refine A.AL.done ?_
     exact A.j ⟨r18,rfl,rfl,hF⟩
    refine A.q0 [] [] [.off,.off,.off,.off,.off,.n,.n] [(75,.bool false)] ?_
    refine A.AL.done ?_
    exact A.j ⟨false,rfl,rfl,hF⟩
   refine A.q0 [] [] [.off,.off,.off,.off,.off,.n,.n,.off,.off,.off,.off,.off,.n,.n] [(75,.bool false)] ?_
   refine A.AL.done ?_
   exact A.j ⟨false,rfl,rfl,hF⟩
  refine A.q0 [] [] [.off,.off,.n,.n,.off,.off,.off,.off,.off,.n,.n,.off,.off,.off,.off,.off,.n,.n] [(75,.bool false)] ?_
  refine A.AL.done ?_
  exact A.j ⟨false,rfl,rfl,hF⟩
 rintro _ _ ⟨y7,rfl,rfl,hF⟩
 rw[F.R05_width_j1]at hF
 refine A.AX.cnb rfl hF (fun hb hF=>?_) (fun hb hF=>?_)
 ·refine A.xl 2 ?_
  refine A.q0 [] [] [.n,.n,.n,.sy .n,.sy .n,.pk,.n] [(110,.bool (bif decide ((x2.toNat:Int)=240)then decide ((y4.toNat:Int)<144)else false))] ?_
  refine A.AL.cnd (j:=110) rfl hF (fun hF=>?_) (fun hF=>?_)
  ·refine A.q0 [] [] [.off,.off,.off,.off,.off,.off,.n] [(117,.bool true)] ?_
   refine A.dx 1 ?_
   refine A.AX.cnt rfl ?_
   refine A.xl 1 ?_
   refine A.q0 [] [] [.n] [(4,.int .i64 0)] ?_
   refine A.dx 1 ?_
   obtain rfl:=Option.some.inj hF
   exact A.rt1 [] ⟨rfl,rfl,(A.hasl .i64 (0) rfl)⟩
  refine A.q0 [] [] [.on .n,.on .n,.on .n,.sy .n,.sy .n,.on .pk,.n] [(117,.bool (bif decide ((x2.toNat:Int)=244)then decide ((143:Int)<(y4.toNat:Int))else false))] ?_
  refine A.dx 1 ?_
  refine A.AX.cnb rfl hF (fun hb hF=>?_) (fun hb hF=>?_)
  ·refine A.xl 1 ?_
   refine A.q0 [] [] [.n] [(4,.int .i64 0)] ?_
   refine A.dx 1 ?_
   obtain rfl:=Option.some.inj hF
   exact A.rt1 [] ⟨rfl,rfl,(A.hasl .i64 (0) rfl)⟩
  refine A.xl 3 ?_
  refine A.q0 [] [] [.n] [(4,.int .i64 4)] ?_
  refine A.dx 1 ?_
  obtain rfl:=Option.some.inj hF
  exact A.rt1 [] ⟨rfl,rfl,(A.hasl .i64 (4) rfl)⟩
 refine A.xl 1 ?_
 refine A.q0 [] [] [.n] [(4,.int .i64 0)] ?_
 refine A.dx 1 ?_
 obtain rfl:=Option.some.inj hF
 exact A.rt1 [] ⟨rfl,rfl,(A.hasl .i64 (0) rfl)⟩
def F.R05_Valid_l1 (a0:ByteArray):Nat→Int→Option Bool
 |0,_=>none
 |f+1,y1=>if y1<(a0.size:Int)then((F.R05_width a0 y1).bind fun r4=>(if r4=0 then(some false)else(A.gd (Z.R64 (y1+r4)) ((F.R05_Valid_l1 a0 f) (y1+r4)))))else(some true)
def F.R05_Valid (a0:ByteArray):Option Bool:=F.R05_Valid_l1 a0 A.FU 0
theorem R05_Valid_ok (a0:ByteArray)(h0_:a0.size≤maxLen)(r:Bool)(hF:F.R05_Valid a0=some r):
    A.Ct Tryd.prog 94 [.string a0] [] [] (fun v H'=>v=.bool r∧H'=[]):=by
 refine A.Ct.enter Tryd.func94 rfl Tryd.ntmps94 rfl fun w0 F0=>?_
 rw[F.R05_Valid]at hF
 refine A.xl 1 ?_
 refine A.q0 [] [] [.n] [] ?_
 refine A.dl 3 ?_
 refine A.q0 [] [] [.n] [(3,.int .i64 0)] ?_
 refine A.dx 2 ?_
 refine A.lp_ [0] [] (fun f nl nh=>∃(y1:Int),nl=[(3,.int .i64 y1)]∧nh=[]∧IntKind.i64.has y1∧F.R05_Valid_l1 a0 f y1=some r) ⟨0,rfl,rfl,(A.hasl .i64 (0) rfl),hF⟩ ?_
 rintro f3 _ _ ⟨y1,rfl,rfl,hy2,hF⟩
 rcases f3 with _|f3
 ·exact A.no0 hF
 rw[F.R05_Valid_l1]at hF
 refine A.xl 2 ?_
 refine A.q0 [] [] [.n,.n,.n,.n] [(8,.bool (decide (y1<(a0.size:Int))))] ?_
 refine A.dx 1 ?_
 refine A.AX.cnd rfl hF (fun hb hF=>?_) (fun hb hF=>?_)
 ·refine A.xl 4 ?_
  refine A.q0 [] [] [.n,.n] [(9,.string a0),(10,.int .i64 y1)] ?_
  obtain⟨r4,hv5,hF⟩:=A.bd_some hF
  refine A.AL.call 80 [] (first:=[]) (cap:=[]) cf103 (R05_width_ok a0 y1 h0_ hy2 r4 hv5) .nil ?_
  rintro _ _ ⟨rfl,rfl,hr6⟩
  refine⟨by kernel_rfl,?_⟩
  refine A.q0 [] [] [.n] [(4,.int .i64 r4)] ?_
  refine A.dl 3 ?_
  refine A.q0 [] [] [.n,.n] [(13,.bool (decide (r4=0)))] ?_
  refine A.dx 1 ?_
  refine A.AX.cnd rfl hF (fun hb hF=>?_) (fun hb hF=>?_)
  ·refine A.xl 1 ?_
   refine A.q0 [] [] [.n] [(2,.bool false)] ?_
   refine A.dx 1 ?_
   obtain rfl:=Option.some.inj hF
   exact A.rt1 [] ⟨rfl,rfl⟩
  refine A.xl 2 ?_
  obtain⟨hc7,hF⟩:=A.gd_some hF
  refine A.q [] [] [.n,.n,.n,.n] [Z.R64 (y1+r4)] [(3,.int .i64 (y1+r4))] hc7 ?_
  refine A.de 1 ?_
  exact A.j ⟨_,Nat.lt_succ_self _,⟨(y1+r4),rfl,rfl,(Z.i64_has hc7),hF⟩⟩
 refine A.xl 3 ?_
 refine A.q0 [] [] [.n] [(2,.bool true)] ?_
 refine A.dx 1 ?_
 obtain rfl:=Option.some.inj hF
 exact A.rt1 [] ⟨rfl,rfl⟩
end Go.Proofs.YtbljnlkhebiniaaDoor
end
section
set_option linter.unusedVariables false
set_option linter.unusedSimpArgs false
set_option maxRecDepth 20000
set_option maxHeartbeats 8000000
set_option synthInstance.maxSize 1000000
set_option synthInstance.maxHeartbeats 400000
namespace Go.Proofs.YtbljnlkhebiniaaDoor
open Go.RowKit
def F.R05_Check_j1 (y2:Bool):Option Int:=if y2=true then(some 50)else(some 0)
def F.R05_Check (a0:D45):Option Int:=if(64:Int)<(a0.2.size:Int)then(F.R05_Check_j1 true)else((F.R05_Valid a0.2).bind fun r3=>(F.R05_Check_j1 (!r3)))
theorem R05_Check_ok (a0:D45)(h0_:IntKind.i64.has a0.1)(h1_:a0.2.size≤maxLen)(r:Int)(hF:F.R05_Check a0=some r):
    A.Ct Tryd.prog 67 [.agg #[.int .i64 a0.1,.string a0.2]] [] [] (fun v H'=>v=.int .i64 r∧H'=[]∧IntKind.i64.has r):=by
 refine A.Ct.enter Tryd.func67 rfl Tryd.ntmps67 rfl fun w0 F0=>?_
 rw[F.R05_Check]at hF
 refine A.xl 1 ?_
 refine A.AL.box 0 (cs:=[.int .i64 a0.1,.string a0.2]) fun g1=>?_
 refine A.q0 [] [] [.n] [] ?_
 refine A.dx 2 ?_
 refine A.AX.join [] [] (fun nl nh=>∃(y2:Bool),nl=[(12,.bool y2)]∧nh=[]∧F.R05_Check_j1 y2=some r) ?_ ?_
 ·refine A.xl 0 ?_
  refine A.q0 [0] [] [.n,.b 0 1,.n,.n,.n] [(7,.bool (decide ((64:Int)<(a0.2.size:Int))))] ?_
  refine A.AL.cnp (j:=7) rfl hF (fun hb hF=>?_) (fun hb hF=>?_)
  ·refine A.q0 [] [] [.off,.off,.off,.off,.n] [(12,.bool true)] ?_
   refine A.AL.done ?_
   exact A.j ⟨true,rfl,rfl,hF⟩
  refine A.q0 [0] [] [.on .n,.on (.b 0 1)] [(9,.string a0.2)] ?_
  refine A.AL.on (dj:=7) rfl rfl ?_
  obtain⟨r3,hv4,hF⟩:=A.bd_some hF
  refine A.AL.call 1 [] (first:=[]) (cap:=[]) cf94 (R05_Valid_ok a0.2 h1_ r3 hv4) .nil ?_
  rintro _ _ ⟨rfl,rfl⟩
  refine⟨by kernel_rfl,?_⟩
  refine A.q0 [] [] [.on .n,.n] [(12,.bool (!r3))] ?_
  refine A.AL.done ?_
  exact A.j ⟨(!r3),rfl,rfl,hF⟩
 rintro _ _ ⟨y2,rfl,rfl,hF⟩
 rw[F.R05_Check_j1]at hF
 refine A.AX.cnb rfl hF (fun hb hF=>?_) (fun hb hF=>?_)
 ·refine A.xl 1 ?_
  refine A.q0 [] [] [.n] [(2,.int .i64 50)] ?_
  refine A.dx 1 ?_
  obtain rfl:=Option.some.inj hF
  exact A.rt1 [] ⟨rfl,rfl,(A.hasl .i64 (50) rfl)⟩
 refine A.xl 3 ?_
 refine A.q0 [] [] [.n] [(2,.int .i64 0)] ?_
 refine A.dx 1 ?_
 obtain rfl:=Option.some.inj hF
 exact A.rt1 [] ⟨rfl,rfl,(A.hasl .i64 (0) rfl)⟩
def F.R05_CheckBag_j1 (k4:Int→Option Int)(y13:Int)(y16:Bool):Option Int:=if y16=true then(some 51)else(A.gd (Z.R64 (y13+1)) (k4 (y13+1)))
def F.R05_CheckBag_l2 (a0:(List D57)):Nat→Int→Option Int
 |0,_=>none
 |f+1,y13=>if y13<((a0).length:Int)then((A.ix a0 y13).bind fun x18=>(if x18.2<1 then(F.R05_CheckBag_j1 (F.R05_CheckBag_l2 a0 f) y13 true)else((A.ix a0 y13).bind fun x24=>(if(1048576:Int)<x24.2 then(F.R05_CheckBag_j1 (F.R05_CheckBag_l2 a0 f) y13 true)else(if(0:Int)<y13 then(A.gd (Z.R64 (y13-1)) ((A.ix a0 (y13-1)).bind fun x31=>((A.ix a0 y13).bind fun x37=>((F.R05_Compare (x31.1.1,x31.1.2) (x37.1.1,x37.1.2)).bind fun r43=>(F.R05_CheckBag_j1 (F.R05_CheckBag_l2 a0 f) y13 (decide ((0:Int)≤r43)))))))else(F.R05_CheckBag_j1 (F.R05_CheckBag_l2 a0 f) y13 false))))))else(some 0)
def F.R05_CheckBag_l3 (a0:(List D57)):Nat→Int→Option Int
 |0,_=>none
 |f+1,y1=>if y1<((a0).length:Int)then((A.ix a0 y1).bind fun x4=>((F.R05_Check (x4.1.1,x4.1.2)).bind fun r9=>(if r9≠0 then(some r9)else(A.gd (Z.R64 (y1+1)) ((F.R05_CheckBag_l3 a0 f) (y1+1))))))else(F.R05_CheckBag_l2 a0 A.FU 0)
def F.R05_CheckBag (a0:(List D57)):Option Int:=F.R05_CheckBag_l3 a0 A.FU 0
theorem R05_CheckBag_ok (a0:(List D57))(A0_:Option Addr)(c1_:Nat)(r:Int)(hF:F.R05_CheckBag a0=some r):
    A.Ct Tryd.prog 31 [.slice A0_ ((a0).length) c1_] [(0,.ln T57 A0_ c1_ a0)] [] (fun v H'=>v=.int .i64 r∧H'=[]∧IntKind.i64.has r):=by
 refine A.Ct.enter Tryd.func31 rfl Tryd.ntmps31 rfl fun w0 F0=>?_
 rw[F.R05_CheckBag]at hF
 refine A.xl 1 ?_
 refine A.q0 [] [] [.n] [] ?_
 refine A.dl 3 ?_
 refine A.q0 [] [] [.n] [(3,.int .i64 0)] ?_
 refine A.dx 2 ?_
 refine A.lp_ [0] [0] (fun f nl nh=>∃(y1:Int),nl=[(3,.int .i64 y1)]∧nh=[]∧IntKind.i64.has y1∧F.R05_CheckBag_l3 a0 f y1=some r) ⟨0,rfl,rfl,(A.hasl .i64 (0) rfl),hF⟩ ?_
 rintro f3 _ _ ⟨y1,rfl,rfl,hy2,hF⟩
 rcases f3 with _|f3
 ·exact A.no0 hF
 rw[F.R05_CheckBag_l3]at hF
 refine A.xl 2 ?_
 refine A.q0 [] [] [.n,.n,.n,.n] [(9,.bool (decide (y1<((a0).length:Int))))] ?_
 refine A.dx 1 ?_
 refine A.AX.cnd rfl hF (fun hb hF=>?_) (fun hb hF=>?_)
 ·refine A.xl 5 ?_
  refine A.q0 [] [] [.n,.n] [(12,.slice A0_ ((a0).length) c1_),(13,.int .i64 y1)] ?_
  obtain⟨x4,hv5,hF⟩:=A.bd_some hF
  refine A.AL.ixl 0 347 hv5 fun ho6=>?_
  intro b7 o8
  refine A.q0 [] [347] [.n,.e 0 0] [(16,.agg #[.int .i64 x4.1.1,.string x4.1.2])] ?_
  obtain⟨r9,hv10,hF⟩:=A.bd_some hF
  refine A.AL.call 348 [] (first:=[]) (cap:=[]) cf67 (R05_Check_ok (x4.1.1,x4.1.2) ho6.1.1 ho6.1.2 r9 hv10) .nil ?_
  rintro _ _ ⟨rfl,rfl,hr11⟩
  refine⟨by kernel_rfl,?_⟩
  refine A.q0 [] [] [.n] [(4,.int .i64 r9)] ?_
  refine A.dl 2 ?_
  refine A.q0 [] [] [.n,.n] [(19,.bool (decide (r9≠0)))] ?_
  refine A.dx 1 ?_
  refine A.AX.cnd rfl hF (fun hb hF=>?_) (fun hb hF=>?_)
  ·refine A.xl 1 ?_
   refine A.q0 [] [] [.n,.n] [(2,.int .i64 r9)] ?_
   refine A.dx 1 ?_
   obtain rfl:=Option.some.inj hF
   exact A.rt1 [] ⟨rfl,rfl,hr11⟩
  refine A.xl 3 ?_
  obtain⟨hc12,hF⟩:=A.gd_some hF
  refine A.q [] [] [.n,.n,.n] [Z.R64 (y1+1)] [(3,.int .i64 (y1+1))] hc12 ?_
  refine A.AL.done ?_
  exact A.j ⟨_,Nat.lt_succ_self _,⟨(y1+1),rfl,rfl,(Z.i64_has hc12),hF⟩⟩
 refine A.xl 4 ?_
 refine A.q0 [] [] [.n] [(5,.int .i64 0)] ?_
 refine A.dx 2 ?_
 refine A.lp_ [0] [0] (fun f nl nh=>∃(y13:Int),nl=[(5,.int .i64 y13)]∧nh=[]∧IntKind.i64.has y13∧F.R05_CheckBag_l2 a0 f y13=some r) ⟨0,rfl,rfl,(A.hasl .i64 (0) rfl),hF⟩ ?_
 rintro f15 _ _ ⟨y13,rfl,rfl,hy14,hF⟩
 rcases f15 with _|f15
 ·exact A.no0 hF
 rw[F.R05_CheckBag_l2]at hF
 refine A.xl 2 ?_
 refine A.q0 [] [] [.n,.n,.n,.n] [(24,.bool (decide (y13<((a0).length:Int))))] ?_
 refine A.dx 1 ?_
 refine A.AX.cnd rfl hF (fun hb hF=>?_) (fun hb hF=>?_)
 ·refine A.xx 4 ?_
  refine A.AX.join [0,5] [0] (fun nl nh=>∃(y16:Bool),nl=[(59,.bool y16)]∧nh=[]∧F.R05_CheckBag_j1 (F.R05_CheckBag_l2 a0 f15) y13 y16=some r) ?_ ?_
  ·refine A.AX.dr mixed 33 33 (A.mb 33 0) ?_
   refine A.hq A.pb [] [0] [] [] (A.mb 33 3) 31 [(0,.n),(1,.n)] [(27,.slice A0_ ((a0).length) c1_),(28,.int .i64 y13)] ?_
   obtain⟨x18,hv19,hF⟩:=A.bd_some hF
   refine A.AH.pkl 0 476 hv19 fun ho20=>?_
   intro b22 o23 hA21
   refine A.AH.v A.pb [0] [0,476] 2 (A.mb 33 7) rfl (fun a w hf hh=>A.r_ixa (t:=T57) hv19 hA21 hf) ?_
   refine A.hq A.pb [0,476] [0,476] [] [476] (A.mb 33 127) 26 [(3,.n),(4,.e 0 2),(5,.n),(6,.n)] [(33,.bool (decide (x18.2<1)))] ?_
   refine A.AH.cnp (j:=33) rfl hF (fun hb hF=>?_) (fun hb hF=>?_)
   ·refine A.hq A.pb [0,476] [0,476] [] [] (A.mb 33 8589934591) 0 [(7,.off),(8,.off),(9,.off),(10,.off),(11,.off),(12,.off),(13,.n),(14,.n),(15,.off),(16,.off),(17,.off),(18,.off),(19,.off),(24,.off),(25,.off),(20,.off),(26,.off),(21,.off),(27,.off),(22,.off),(28,.off),(23,.off),(29,.off),(30,.off),(31,.off),(32,.n)] [(59,.bool true)] ?_
    refine A.AH.done ?_
    exact A.j ⟨true,rfl,rfl,hF⟩
   refine A.hq A.pb [0,476] [0,476] [] [] (A.mb 33 511) 24 [(7,.on .n),(8,.on .n)] [(34,.slice A0_ ((a0).length) c1_),(35,.int .i64 y13)] ?_
   obtain⟨x24,hv25,hF⟩:=A.bd_some hF
   refine A.AH.pkl 0 477 hv25 fun ho26=>?_
   intro b28 o29 hA27
   refine A.AH.vg A.pb [0,476] [0,476,477] 9 (A.mb 33 1023) (dj:=33) rfl (fun a w hf hh=>A.r_ixa (t:=T57) hv25 hA27 hf) ?_
   refine A.hq A.pb [0,476,477] [0,476,477] [] [477] (A.mb 33 32767) 18 [(10,.on .n),(11,.on (.e 0 2)),(12,.on .n),(13,.n),(14,.n)] [(41,.bool (decide ((1048576:Int)<x24.2)))] ?_
   refine A.AH.cnp (j:=41) rfl hF (fun hb hF=>?_) (fun hb hF=>?_)
   ·refine A.hq A.pb [0,476,477] [0,476,477] [] [] (A.mb 33 8589934591) 0 [(15,.off),(16,.off),(17,.off),(18,.off),(19,.off),(24,.off),(25,.off),(20,.off),(26,.off),(21,.off),(27,.off),(22,.off),(28,.off),(23,.off),(29,.off),(30,.off),(31,.off),(32,.n)] [(59,.bool true)] ?_
    refine A.AH.done ?_
    exact A.j ⟨true,rfl,rfl,hF⟩
   refine A.hq A.pb [0,476,477] [0,476,477] [] [] (A.mb 33 262143) 15 [(15,.on .n),(16,.on .n),(17,.on .n)] [(44,.bool (decide ((0:Int)<y13)))] ?_
   refine A.AH.cnp (j:=44) rfl hF (fun hb hF=>?_) (fun hb hF=>?_)
   ·obtain⟨hc30,hF⟩:=A.gd_some hF
    refine A.AH.q A.pb [0,476,477] [0,476,477] [] [] (A.mb 33 52428799) 10 [(18,.on .n),(19,.on .n),(24,.on .n),(25,.on .n),(20,.on .n)] [45,51,52,47] [Z.R64 (y13-1)] [(45,.slice A0_ ((a0).length) c1_),(51,.slice A0_ ((a0).length) c1_),(52,.int .i64 y13),(47,.int .i64 (y13-1))] hc30 ?_
    obtain⟨x31,hv32,hF⟩:=A.bd_some hF
    refine A.AH.pkl 0 478 hv32 fun ho33=>?_
    intro b35 o36 hA34
    refine A.AH.vg A.pb [0,476,477] [0,476,477,478] 21 (A.mb 33 54525951) (dj:=44) rfl (fun a w hf hh=>A.r_ixa (t:=T57) hv32 hA34 hf) ?_
    refine A.hq A.pb [0,476,477,478] [0,476,477,478] [] [478] (A.mb 33 67108863) 7 [(22,.on .n),(23,.on (.e 0 0))] [(50,.agg #[.int .i64 x31.1.1,.string x31.1.2])] ?_
    obtain⟨x37,hv38,hF⟩:=A.bd_some hF
    refine A.AH.pkl 0 479 hv38 fun ho39=>?_
    intro b41 o42 hA40
    refine A.AH.vg A.pb [0,476,477,478] [0,476,477,478,479] 26 (A.mb 33 134217727) (dj:=44) rfl (fun a w hf hh=>A.r_ixa (t:=T57) hv38 hA40 hf) ?_
    refine A.hq A.pb [0,476,477,478,479] [0,476,477,478,479] [] [479] (A.mb 33 536870911) 4 [(27,.on .n),(28,.on (.e 0 0))] [(55,.agg #[.int .i64 x37.1.1,.string x37.1.2])] ?_
    refine A.AH.one 29 ?_
    refine A.AL.on (dj:=44) rfl rfl ?_
    obtain⟨r43,hv44,hF⟩:=A.bd_some hF
    refine A.AL.call 480 [] (first:=[]) (cap:=[]) cf11 (R05_Compare_ok (x31.1.1,x31.1.2) (x37.1.1,x37.1.2) ho33.1.1 ho33.1.2 ho39.1.1 ho39.1.2 r43 hv44) .nil ?_
    rintro _ _ ⟨rfl,rfl,hr45⟩
    refine⟨by kernel_rfl,?_⟩
    refine A.AH.nx (A.mb 33 1073741823) [0,476,477,478,479] ?_
    refine A.hq A.pb [0,476,477,478,479] [0,476,477,478,479] [] [] (A.mb 33 8589934591) 0 [(30,.on .n),(31,.on .n),(32,.n)] [(59,.bool (decide ((0:Int)≤r43)))] ?_
    refine A.AH.done ?_
    exact A.j ⟨(decide ((0:Int)≤r43)),rfl,rfl,hF⟩
   refine A.hq A.pb [0,476,477] [0,476,477] [] [] (A.mb 33 8589934591) 0 [(18,.off),(19,.off),(24,.off),(25,.off),(20,.off),(26,.off),(21,.off),(27,.off),(22,.off),(28,.off),(23,.off),(29,.off),(30,.off),(31,.on .n),(32,.n)] [(59,.bool false)] ?_
   refine A.AH.done ?_
   exact A.j ⟨false,rfl,rfl,hF⟩
  rintro _ _ ⟨y16,rfl,rfl,hF⟩
  rw[F.R05_CheckBag_j1]at hF
  refine A.AX.cnb rfl hF (fun hb hF=>?_) (fun hb hF=>?_)
  ·refine A.xl 1 ?_
   refine A.q0 [] [] [.n] [(2,.int .i64 51)] ?_
   refine A.dx 1 ?_
   obtain rfl:=Option.some.inj hF
   exact A.rt1 [] ⟨rfl,rfl,(A.hasl .i64 (51) rfl)⟩
  refine A.xl 3 ?_
  obtain⟨hc17,hF⟩:=A.gd_some hF
  refine A.q [] [] [.n,.n,.n] [Z.R64 (y13+1)] [(5,.int .i64 (y13+1))] hc17 ?_
  refine A.AL.done ?_
  exact A.j ⟨_,Nat.lt_succ_self _,⟨(y13+1),rfl,rfl,(Z.i64_has hc17),hF⟩⟩
 refine A.xl 3 ?_
 refine A.q0 [] [] [.n] [(2,.int .i64 0)] ?_
 refine A.dx 1 ?_
 obtain rfl:=Option.some.inj hF
 exact A.rt1 [] ⟨rfl,rfl,(A.hasl .i64 (0) rfl)⟩
def F.R05_Sum_l1 (a1:(List D57)):Nat→(List D57)→Int→Option ((List D57)×Int)
 |0,_,_=>none
 |f+1,xs32,y33=>if y33<((a1).length:Int)then((A.ix a1 y33).bind fun x36=>((A.ix a1 y33).bind fun x42=>((F.R05_put xs32 (x36.1.1,x36.1.2) x42.2).bind fun r48=>(A.gd (Z.R64 (y33+1)) ((F.R05_Sum_l1 a1 f) r48 (y33+1))))))else((F.R05_over xs32).bind fun r53=>(if r53≠0 then(some ([],r53))else(some (xs32,0))))
def F.R05_Sum_l2 (a0:(List D57))(a1:(List D57)):Nat→(List D57)→Int→Option ((List D57)×Int)
 |0,_,_=>none
 |f+1,xs9,y10=>if y10<((a0).length:Int)then((A.ix a0 y10).bind fun x13=>((A.ix a0 y10).bind fun x19=>((F.R05_put xs9 (x13.1.1,x13.1.2) x19.2).bind fun r25=>(A.gd (Z.R64 (y10+1)) ((F.R05_Sum_l2 a0 a1 f) r25 (y10+1))))))else(F.R05_Sum_l1 a1 A.FU xs9 0)
def F.R05_Sum (a0:(List D57))(a1:(List D57)):Option ((List D57)×Int):=(F.R05_CheckBag a0).bind fun r1=>(if r1≠0 then(some ([],r1))else((F.R05_CheckBag a1).bind fun r4=>(if r4≠0 then(some ([],r4))else(F.R05_Sum_l2 a0 a1 A.FU [] 0))))
theorem R05_Sum_ok (a0:(List D57))(a1:(List D57))(A0_:Option Addr)(c1_:Nat)(A2_:Option Addr)(c3_:Nat)(r:(List D57)×Int)(hF:F.R05_Sum a0 a1=some r):
    A.Ct Tryd.prog 17 [.slice A0_ ((a0).length) c1_,.slice A2_ ((a1).length) c3_] [(0,.ln T57 A0_ c1_ a0),(1,.ln T57 A2_ c3_ a1)] [] (fun v H'=>∃(A0':Option Addr) (c1':Nat),v=.tuple #[.slice A0' ((r.1).length) c1',.int .i64 r.2]∧H'=[(0,.own T57 58 A0' c1' r.1)]∧IntKind.i64.has r.2):=by
 refine A.Ct.enter Tryd.func17 rfl Tryd.ntmps17 rfl fun w0 F0=>?_
 rw[F.R05_Sum]at hF
 refine A.xl 1 ?_
 refine A.q0 [] [] [.n,.n] [] ?_
 refine A.dl 3 ?_
 refine A.q0 [] [] [.n] [(12,.slice A0_ ((a0).length) c1_)] ?_
 obtain⟨r1,hv2,hF⟩:=A.bd_some hF
 refine A.AL.call 2 [] (first:=[]) (cap:=[]) cf31 (R05_CheckBag_ok a0 A0_ c1_ r1 hv2) (.s 0 .nil) ?_
 rintro _ _ ⟨rfl,rfl,hr3⟩
 refine⟨by kernel_rfl,?_⟩
 refine A.q0 [] [] [.n] [(6,.int .i64 r1)] ?_
 refine A.dl 2 ?_
 refine A.q0 [] [] [.n,.n] [(15,.bool (decide (r1≠0)))] ?_
 refine A.dx 1 ?_
 refine A.AX.cnd rfl hF (fun hb hF=>?_) (fun hb hF=>?_)
 ·refine A.xl 1 ?_
  refine A.q0 [] [] [.n,.n,.n] [(4,.slice none 0 0),(5,.int .i64 r1)] ?_
  refine A.dx 1 ?_
  obtain rfl:=Option.some.inj hF
  refine A.nil 42 T57 58 ?_
  exact A.rt2 [(0,42)] ⟨none,0,rfl,rfl,hr3⟩
 refine A.xl 4 ?_
 refine A.q0 [] [] [.n] [(17,.slice A2_ ((a1).length) c3_)] ?_
 obtain⟨r4,hv5,hF⟩:=A.bd_some hF
 refine A.AL.call 43 [] (first:=[]) (cap:=[]) cf31 (R05_CheckBag_ok a1 A2_ c3_ r4 hv5) (.s 1 .nil) ?_
 rintro _ _ ⟨rfl,rfl,hr6⟩
 refine⟨by kernel_rfl,?_⟩
 refine A.q0 [] [] [.n] [(7,.int .i64 r4)] ?_
 refine A.dl 2 ?_
 refine A.q0 [] [] [.n,.n] [(20,.bool (decide (r4≠0)))] ?_
 refine A.dx 1 ?_
 refine A.AX.cnd rfl hF (fun hb hF=>?_) (fun hb hF=>?_)
 ·refine A.xl 1 ?_
  refine A.q0 [] [] [.n,.n,.n] [(4,.slice none 0 0),(5,.int .i64 r4)] ?_
  refine A.dx 1 ?_
  obtain rfl:=Option.some.inj hF
  refine A.nil 83 T57 58 ?_
  exact A.rt2 [(0,83)] ⟨none,0,rfl,rfl,hr6⟩
 refine A.xl 3 ?_
 refine A.q0 [] [] [.n] [(8,.slice none 0 0)] ?_
 refine A.dl 3 ?_
 refine A.q0 [] [] [.n] [(9,.int .i64 0)] ?_
 refine A.dx 2 ?_
 refine A.nil 463 T57 58 ?_
 refine A.lp_ [0,1] [0,1] (fun f nl nh=>∃(xs9:List D57),∃(y10:Int),∃(A7:Option Addr),∃(c8:Nat),nl=[(8,.slice A7 ((xs9).length) c8),(9,.int .i64 y10)]∧nh=[(463,.own T57 58 A7 c8 xs9)]∧IntKind.i64.has y10∧F.R05_Sum_l2 a0 a1 f xs9 y10=some r) ⟨[],0,none,0,rfl,rfl,(A.hasl .i64 (0) rfl),hF⟩ ?_
 rintro f12 _ _ ⟨xs9,y10,A7,c8,rfl,rfl,hy11,hF⟩
 rcases f12 with _|f12
 ·exact A.no0 hF
 rw[F.R05_Sum_l2]at hF
 refine A.xl 2 ?_
 refine A.q0 [] [] [.n,.n,.n,.n] [(25,.bool (decide (y10<((a0).length:Int))))] ?_
 refine A.dx 1 ?_
 refine A.AX.cnd rfl hF (fun hb hF=>?_) (fun hb hF=>?_)
 ·refine A.xx 4 ?_
  refine A.AX.dr mixed 13 13 (A.mb 13 0) ?_
  refine A.hq A.pb [] [0,1,463] [] [] (A.mb 13 199) 8 [(0,.n),(1,.n),(2,.n),(6,.n),(7,.n)] [(28,.slice A7 ((xs9).length) c8),(29,.slice A0_ ((a0).length) c1_),(30,.int .i64 y10),(34,.slice A0_ ((a0).length) c1_),(35,.int .i64 y10)] ?_
  obtain⟨x13,hv14,hF⟩:=A.bd_some hF
  refine A.AH.pkl 0 1054 hv14 fun ho15=>?_
  intro b17 o18 hA16
  refine A.AH.v A.pb [0,1,463] [0,1,463,1054] 3 (A.mb 13 207) rfl (fun a w hf hh=>A.r_ixa (t:=T57) hv14 hA16 hf) ?_
  refine A.hq A.pb [0,1,463,1054] [0,1,463,1054] [] [1054] (A.mb 13 255) 5 [(4,.n),(5,.e 0 0)] [(33,.agg #[.int .i64 x13.1.1,.string x13.1.2])] ?_
  obtain⟨x19,hv20,hF⟩:=A.bd_some hF
  refine A.AH.pkl 0 1055 hv20 fun ho21=>?_
  intro b23 o24 hA22
  refine A.AH.v A.pb [0,1,463,1054] [0,1,463,1054,1055] 8 (A.mb 13 511) rfl (fun a w hf hh=>A.r_ixa (t:=T57) hv20 hA22 hf) ?_
  refine A.hq A.pb [0,1,463,1054,1055] [0,1,463,1054,1055] [] [1055] (A.mb 13 2047) 2 [(9,.n),(10,.e 0 2)] [(38,.int .i64 x19.2)] ?_
  refine A.AH.one 11 ?_
  obtain⟨r25,hv26,hF⟩:=A.bd_some hF
  refine A.AL.call 1056 [] (first:=[]) (cap:=[]) cf32 (R05_put_ok xs9 (x13.1.1,x13.1.2) x19.2 A7 c8 ho15.1.1 ho15.1.2 ho21.2 r25 hv26) (.o 463 .nil) ?_
  rintro _ _ ⟨A27,c28,rfl,rfl⟩
  refine⟨by kernel_rfl,?_⟩
  refine A.AH.nx (A.mb 13 4095) [0,1,463,1054,1055] ?_
  refine A.hq A.pb [0,1,463,1054,1055] [0,1,463,1054,1055,1056] [] [] (A.mb 13 8191) 0 [(12,.n)] [(8,.slice A27 ((r25).length) c28)] ?_
  refine A.AH.done ?_
  refine A.el 2 ?_
  obtain⟨hc29,hF⟩:=A.gd_some hF
  refine A.q [] [] [.n,.n,.n] [Z.R64 (y10+1)] [(9,.int .i64 (y10+1))] hc29 ?_
  refine A.AL.done ?_
  refine A.mv 463 1096 [] ?_
  refine A.mvd 1056 463 [] ?_
  exact A.j ⟨_,Nat.lt_succ_self _,⟨r25,(y10+1),A27,c28,rfl,rfl,(Z.i64_has hc29),hF⟩⟩
 refine A.xl 4 ?_
 refine A.q0 [] [] [.n] [(10,.int .i64 0)] ?_
 refine A.dx 2 ?_
 refine A.lp_ [1] [1] (fun f nl nh=>∃(xs32:List D57),∃(y33:Int),∃(A30:Option Addr),∃(c31:Nat),nl=[(8,.slice A30 ((xs32).length) c31),(10,.int .i64 y33)]∧nh=[(463,.own T57 58 A30 c31 xs32)]∧IntKind.i64.has y33∧F.R05_Sum_l1 a1 f xs32 y33=some r) ⟨xs9,0,A7,c8,rfl,rfl,(A.hasl .i64 (0) rfl),hF⟩ ?_
 rintro f35 _ _ ⟨xs32,y33,A30,c31,rfl,rfl,hy34,hF⟩
 rcases f35 with _|f35
 ·exact A.no0 hF
 rw[F.R05_Sum_l1]at hF
 refine A.xl 2 ?_
 refine A.q0 [] [] [.n,.n,.n,.n] [(43,.bool (decide (y33<((a1).length:Int))))] ?_
 refine A.dx 1 ?_
 refine A.AX.cnd rfl hF (fun hb hF=>?_) (fun hb hF=>?_)
 ·refine A.xx 4 ?_
  refine A.AX.dr mixed 13 13 (A.mb 13 0) ?_
  refine A.hq A.pb [] [1,463] [] [] (A.mb 13 199) 8 [(0,.n),(1,.n),(2,.n),(6,.n),(7,.n)] [(46,.slice A30 ((xs32).length) c31),(47,.slice A2_ ((a1).length) c3_),(48,.int .i64 y33),(52,.slice A2_ ((a1).length) c3_),(53,.int .i64 y33)] ?_
  obtain⟨x36,hv37,hF⟩:=A.bd_some hF
  refine A.AH.pkl 1 1265 hv37 fun ho38=>?_
  intro b40 o41 hA39
  refine A.AH.v A.pb [1,463] [1,463,1265] 3 (A.mb 13 207) rfl (fun a w hf hh=>A.r_ixa (t:=T57) hv37 hA39 hf) ?_
  refine A.hq A.pb [1,463,1265] [1,463,1265] [] [1265] (A.mb 13 255) 5 [(4,.n),(5,.e 0 0)] [(51,.agg #[.int .i64 x36.1.1,.string x36.1.2])] ?_
  obtain⟨x42,hv43,hF⟩:=A.bd_some hF
  refine A.AH.pkl 1 1266 hv43 fun ho44=>?_
  intro b46 o47 hA45
  refine A.AH.v A.pb [1,463,1265] [1,463,1265,1266] 8 (A.mb 13 511) rfl (fun a w hf hh=>A.r_ixa (t:=T57) hv43 hA45 hf) ?_
  refine A.hq A.pb [1,463,1265,1266] [1,463,1265,1266] [] [1266] (A.mb 13 2047) 2 [(9,.n),(10,.e 0 2)] [(56,.int .i64 x42.2)] ?_
  refine A.AH.one 11 ?_
  obtain⟨r48,hv49,hF⟩:=A.bd_some hF
  refine A.AL.call 1267 [] (first:=[]) (cap:=[]) cf32 (R05_put_ok xs32 (x36.1.1,x36.1.2) x42.2 A30 c31 ho38.1.1 ho38.1.2 ho44.2 r48 hv49) (.o 463 .nil) ?_
  rintro _ _ ⟨A50,c51,rfl,rfl⟩
  refine⟨by kernel_rfl,?_⟩
  refine A.AH.nx (A.mb 13 4095) [1,463,1265,1266] ?_
  refine A.hq A.pb [1,463,1265,1266] [1,463,1265,1266,1267] [] [] (A.mb 13 8191) 0 [(12,.n)] [(8,.slice A50 ((r48).length) c51)] ?_
  refine A.AH.done ?_
  refine A.el 2 ?_
  obtain⟨hc52,hF⟩:=A.gd_some hF
  refine A.q [] [] [.n,.n,.n] [Z.R64 (y33+1)] [(10,.int .i64 (y33+1))] hc52 ?_
  refine A.AL.done ?_
  refine A.mv 463 1307 [] ?_
  refine A.mvd 1267 463 [] ?_
  exact A.j ⟨_,Nat.lt_succ_self _,⟨r48,(y33+1),A50,c51,rfl,rfl,(Z.i64_has hc52),hF⟩⟩
 refine A.xl 4 ?_
 refine A.q0 [] [] [.n] [(58,.slice A30 ((xs32).length) c31)] ?_
 obtain⟨r53,hv54,hF⟩:=A.bd_some hF
 refine A.AL.call 1308 [] (first:=[]) (cap:=[]) cf33 (R05_over_ok xs32 A30 c31 r53 hv54) (.o 463 .nil) ?_
 rintro _ _ ⟨rfl,rfl,hr55⟩
 refine⟨by kernel_rfl,?_⟩
 refine A.q0 [] [] [.n] [(11,.int .i64 r53)] ?_
 refine A.dl 2 ?_
 refine A.q0 [] [] [.n,.n] [(61,.bool (decide (r53≠0)))] ?_
 refine A.dx 1 ?_
 refine A.AX.cnd rfl hF (fun hb hF=>?_) (fun hb hF=>?_)
 ·refine A.xl 1 ?_
  refine A.q0 [] [] [.n,.n,.n] [(4,.slice none 0 0),(5,.int .i64 r53)] ?_
  refine A.dx 1 ?_
  obtain rfl:=Option.some.inj hF
  refine A.nil 1348 T57 58 ?_
  exact A.rt2 [(0,1348)] ⟨none,0,rfl,rfl,hr55⟩
 refine A.xl 3 ?_
 refine A.q0 [] [] [.n,.n,.n] [(4,.slice A30 ((xs32).length) c31),(5,.int .i64 0)] ?_
 refine A.dx 1 ?_
 obtain rfl:=Option.some.inj hF
 exact A.rt2 [(0,463)] ⟨A30,c31,rfl,rfl,(A.hasl .i64 (0) rfl)⟩
end Go.Proofs.YtbljnlkhebiniaaDoor
end
section
set_option linter.unusedVariables false
set_option linter.unusedSimpArgs false
set_option maxRecDepth 20000
set_option maxHeartbeats 8000000
set_option synthInstance.maxSize 1000000
set_option synthInstance.maxHeartbeats 400000
namespace Go.Proofs.YtbljnlkhebiniaaDoor
open Go.RowKit
def F.L17_OperOnward_j1 (y32:Bool):Option Bool:=some y32
def F.L17_OperOnward_j2 (a0:D25)(a1:D32)(a2:(List D57))(y5:Bool):Option Bool:=if y5=true then(some true)else((F.R05_Sum a1.2.1 a2).bind fun r6=>(if r6.2≠0 then(some true)else((F.oper_Tell (a0.1,a0.2.1,a0.2.2.1,(a0.2.2.2.1.1,a0.2.2.2.1.2.1,a0.2.2.2.1.2.2),a0.2.2.2.2.1,a0.2.2.2.2.2.1,a0.2.2.2.2.2.2) (a1.1.1,a1.1.2.1,(a1.1.2.2.1,a1.1.2.2.2.1,a1.1.2.2.2.2.1,a1.1.2.2.2.2.2)) a1.2.1 [] a1.2.2.2).bind fun r11=>(if r11.2.2≠0 then(some true)else((F.oper_Tell (a0.1,a0.2.1,a0.2.2.1,(a0.2.2.2.1.1,a0.2.2.2.1.2.1,a0.2.2.2.1.2.2),a0.2.2.2.2.1,a0.2.2.2.2.2.1,a0.2.2.2.2.2.2) (a1.1.1,a1.1.2.1,(a1.1.2.2.1,a1.1.2.2.2.1,a1.1.2.2.2.2.1,a1.1.2.2.2.2.2)) a2 [] r11.2.1).bind fun r18=>((F.oper_Tell (a0.1,a0.2.1,a0.2.2.1,(a0.2.2.2.1.1,a0.2.2.2.1.2.1,a0.2.2.2.1.2.2),a0.2.2.2.2.1,a0.2.2.2.2.2.1,a0.2.2.2.2.2.2) (a1.1.1,a1.1.2.1,(a1.1.2.2.1,a1.1.2.2.2.1,a1.1.2.2.2.2.1,a1.1.2.2.2.2.2)) r6.1 [] a1.2.2.2).bind fun r25=>(if(bif decide (r18.2.2=0)then decide (r25.2.2=0)else false)=true then((F.slices_Equal_api_Entry_api_Entry r18.2.1 r25.2.1).bind fun r33=>(F.L17_OperOnward_j1 r33))else(F.L17_OperOnward_j1 false))))))))
def F.L17_OperOnward (a0:D25)(a1:D32)(a2:(List D57)):Option Bool:=(F.L17_live).bind fun r3=>(if(!r3)=true then(some false)else((F.L17_rare [a1.2.1,a2]).bind fun r36=>(if(!r36)=true then(F.L17_OperOnward_j2 a0 a1 a2 true)else((F.L17_thin a1.2.2.2).bind fun r38=>(if(!r38)=true then(F.L17_OperOnward_j2 a0 a1 a2 true)else((F.R17_Keeps a0.2.1).bind fun r40=>(F.L17_OperOnward_j2 a0 a1 a2 (bif !r40 then true else decide ((300:Int)<(a0.2.2.2.1.2.2.size:Int))))))))))
theorem L17_OperOnward_ok (a0:D25)(a1:D32)(a2:(List D57))(A2_:Option Addr)(c3_:Nat)(A16_:Option Addr)(c17_:Nat)(A18_:Option Addr)(c19_:Nat)(A20_:Option Addr)(c21_:Nat)(A22_:Option Addr)(c23_:Nat)(h0_:IntKind.i64.has a0.1)(h1_:IntKind.i64.has a0.2.1)(h4_:IntKind.i64.has a0.2.2.2.1.1)(h5_:IntKind.i64.has a0.2.2.2.1.2.1)(h6_:a0.2.2.2.1.2.2.size≤maxLen)(h7_:a0.2.2.2.2.1.size≤maxLen)(h8_:IntKind.i64.has a0.2.2.2.2.2.1)(h9_:IntKind.i64.has a0.2.2.2.2.2.2)(h10_:IntKind.i64.has a1.1.1)(h11_:IntKind.i64.has a1.1.2.1)(h12_:IntKind.i64.has a1.1.2.2.1)(h13_:IntKind.i64.has a1.1.2.2.2.1)(h14_:IntKind.i64.has a1.1.2.2.2.2.1)(h15_:IntKind.i64.has a1.1.2.2.2.2.2)(r:Bool)(hF:F.L17_OperOnward a0 a1 a2=some r):
    A.Ct Tryd.prog 4 [.agg #[.int .i64 a0.1,.int .i64 a0.2.1,.slice A2_ ((a0.2.2.1).length) c3_,.int .i64 a0.2.2.2.1.1,.int .i64 a0.2.2.2.1.2.1,.string a0.2.2.2.1.2.2,.string a0.2.2.2.2.1,.int .i64 a0.2.2.2.2.2.1,.int .i64 a0.2.2.2.2.2.2],.agg #[.int .i64 a1.1.1,.int .i64 a1.1.2.1,.int .i64 a1.1.2.2.1,.int .i64 a1.1.2.2.2.1,.int .i64 a1.1.2.2.2.2.1,.int .i64 a1.1.2.2.2.2.2,.slice A16_ ((a1.2.1).length) c17_,.slice A18_ ((a1.2.2.1).length) c19_,.slice A20_ ((a1.2.2.2).length) c21_],.slice A22_ ((a2).length) c23_] [(0,.sh (.slice (Z.Ty.int .i64)) [.slice A2_ (a0.2.2.1).length c3_] a0.2.2.1),(1,.sh (.slice T57) [.slice A16_ (a1.2.1).length c17_] a1.2.1),(2,.sh (.slice T57) [.slice A18_ (a1.2.2.1).length c19_] a1.2.2.1),(3,.sh (.slice T41) [.slice A20_ (a1.2.2.2).length c21_] a1.2.2.2),(4,.sh (.slice T57) [.slice A22_ (a2).length c23_] a2),(5,.el none 1 0 A.tabF),(6,.el none 2 0 A.tabA)] [] (fun v H'=>v=.bool r∧H'=[]):=by
 refine A.Ct.enter Tryd.func4 rfl Tryd.ntmps4 rfl fun w0 F0=>?_
 rw[F.L17_OperOnward]at hF
 refine A.xl 1 ?_
 refine A.AL.box 7 (cs:=[.int .i64 a0.1,.int .i64 a0.2.1,.slice A2_ ((a0.2.2.1).length) c3_,.int .i64 a0.2.2.2.1.1,.int .i64 a0.2.2.2.1.2.1,.string a0.2.2.2.1.2.2,.string a0.2.2.2.2.1,.int .i64 a0.2.2.2.2.2.1,.int .i64 a0.2.2.2.2.2.2]) fun g1=>?_
 refine A.AL.box 8 (cs:=[.int .i64 a1.1.1,.int .i64 a1.1.2.1,.int .i64 a1.1.2.2.1,.int .i64 a1.1.2.2.2.1,.int .i64 a1.1.2.2.2.2.1,.int .i64 a1.1.2.2.2.2.2,.slice A16_ ((a1.2.1).length) c17_,.slice A18_ ((a1.2.2.1).length) c19_,.slice A20_ ((a1.2.2.2).length) c21_]) fun g2=>?_
 refine A.q0 [] [] [.n] [] ?_
 refine A.dl 3 ?_
 obtain⟨r3,hv4,hF⟩:=A.bd_some hF
 refine A.AL.call 9 [] (first:=[]) (cap:=[]) cf5 (L17_live_ok r3 hv4) (.s 5 (.s 6 .nil)) ?_
 rintro _ _ ⟨rfl,rfl⟩
 refine⟨by kernel_rfl,?_⟩
 refine A.q0 [] [] [.n] [(19,.bool (!r3))] ?_
 refine A.dx 1 ?_
 refine A.AX.cnb rfl hF (fun hb hF=>?_) (fun hb hF=>?_)
 ·refine A.xl 1 ?_
  refine A.q0 [] [] [.n] [(6,.bool false)] ?_
  refine A.dx 1 ?_
  obtain rfl:=Option.some.inj hF
  exact A.rt1 [] ⟨rfl,rfl⟩
 refine A.xx 3 ?_
 refine A.AX.join [2,3,4] [0,1,2,3,4,5,6,7,8] (fun nl nh=>∃(y5:Bool),nl=[(44,.bool y5)]∧nh=[]∧F.L17_OperOnward_j2 a0 a1 a2 y5=some r) ?_ ?_
 ·refine A.xl 0 ?_
  refine A.q0 [8] [] [.n,.b 0 6,.n] [(21,.slice A16_ ((a1.2.1).length) c17_),(22,.slice A22_ ((a2).length) c23_)] ?_
  refine A.AL.bsl 49 (ty:=(Z.Ty.slice T57)) (cs:=[.slice A16_ ((a1.2.1).length) c17_,.slice A22_ ((a2).length) c23_]) [a1.2.1,a2] ⟨.inl ⟨1,rfl⟩,⟨.inl ⟨4,rfl⟩,rfl⟩⟩ (fun g35=>?_) Tryd.zeroValue30 Tryd.sizeOf30
  obtain⟨r36,hv37,hF⟩:=A.bd_some hF
  refine A.AL.call 50 [] (first:=[]) (cap:=[]) cf6 (L17_rare_ok [a1.2.1,a2] (some ⟨g35,0,none⟩) 2 r36 hv37) (.o 49 .nil) ?_
  rintro _ _ ⟨rfl,rfl⟩
  refine⟨by kernel_rfl,?_⟩
  refine A.q0 [] [] [.n,.n] [(26,.bool (!r36))] ?_
  refine A.AL.cnd (j:=26) rfl hF (fun hF=>?_) (fun hF=>?_)
  ·refine A.q0 [] [] [.off,.off,.off,.off,.n,.n,.off,.off,.off,.off,.n,.n,.off,.off,.off,.off,.off,.n] [(44,.bool true)] ?_
   refine A.AL.done ?_
   exact A.j ⟨true,rfl,rfl,hF⟩
  refine A.q0 [8] [] [.on .n,.on (.b 0 8)] [(28,.slice A20_ ((a1.2.2.2).length) c21_)] ?_
  refine A.AL.on (dj:=26) rfl rfl ?_
  obtain⟨r38,hv39,hF⟩:=A.bd_some hF
  refine A.AL.call 90 [] (first:=[]) (cap:=[]) cf7 (L17_thin_ok a1.2.2.2 A20_ c21_ r38 hv39) (.s 3 .nil) ?_
  rintro _ _ ⟨rfl,rfl⟩
  refine⟨by kernel_rfl,?_⟩
  refine A.q0 [] [] [.on .n,.n,.n] [(32,.bool (!r38))] ?_
  refine A.AL.cnd (j:=32) rfl hF (fun hF=>?_) (fun hF=>?_)
  ·refine A.q0 [] [] [.off,.off,.off,.off,.n,.n,.off,.off,.off,.off,.off,.n] [(44,.bool true)] ?_
   refine A.AL.done ?_
   exact A.j ⟨true,rfl,rfl,hF⟩
  refine A.q0 [7] [] [.on .n,.on (.b 0 1)] [(34,.int .i64 a0.2.1)] ?_
  refine A.AL.on (dj:=32) rfl rfl ?_
  obtain⟨r40,hv41,hF⟩:=A.bd_some hF
  refine A.AL.call 130 [] (first:=[]) (cap:=[]) cf16 (R17_Keeps_ok a0.2.1 h1_ r40 hv41) .nil ?_
  rintro _ _ ⟨rfl,rfl⟩
  refine⟨by kernel_rfl,?_⟩
  refine A.q0 [7] [] [.on .n,.n,.n,.sy .n,.sy .n,.sy (.b 0 5),.sy .n,.sy .n,.pk] [(44,.bool (bif !r40 then true else decide ((300:Int)<(a0.2.2.2.1.2.2.size:Int))))] ?_
  refine A.AL.done ?_
  exact A.j ⟨(bif !r40 then true else decide ((300:Int)<(a0.2.2.2.1.2.2.size:Int))),rfl,rfl,hF⟩
 rintro _ _ ⟨y5,rfl,rfl,hF⟩
 rw[F.L17_OperOnward_j2]at hF
 refine A.AX.cnb rfl hF (fun hb hF=>?_) (fun hb hF=>?_)
 ·refine A.xl 1 ?_
  refine A.q0 [] [] [.n] [(6,.bool true)] ?_
  refine A.dx 1 ?_
  obtain rfl:=Option.some.inj hF
  exact A.rt1 [] ⟨rfl,rfl⟩
 refine A.xl 3 ?_
 refine A.q0 [8] [] [.n,.b 0 6,.n] [(47,.slice A16_ ((a1.2.1).length) c17_),(48,.slice A22_ ((a2).length) c23_)] ?_
 obtain⟨r6,hv7,hF⟩:=A.bd_some hF
 refine A.AL.call 170 [] (first:=[]) (cap:=[]) cf17 (R05_Sum_ok a1.2.1 a2 A16_ c17_ A22_ c23_ r6 hv7) (.l 1 (.l 4 .nil)) ?_
 rintro _ _ ⟨A8,c9,rfl,rfl,hr10⟩
 refine⟨by kernel_rfl,?_⟩
 refine A.q0 [] [] [.n,.n,.n,.n,.n] [(7,.slice A8 ((r6.1).length) c9),(8,.int .i64 r6.2)] ?_
 refine A.dl 3 ?_
 refine A.q0 [] [] [.n,.n] [(53,.bool (decide (r6.2≠0)))] ?_
 refine A.dx 1 ?_
 refine A.AX.cnd rfl hF (fun hb hF=>?_) (fun hb hF=>?_)
 ·refine A.xl 1 ?_
  refine A.q0 [] [] [.n] [(6,.bool true)] ?_
  refine A.dx 1 ?_
  obtain rfl:=Option.some.inj hF
  exact A.rt1 [] ⟨rfl,rfl⟩
 refine A.xl 3 ?_
 refine A.q0 [7,8] [] [.b 0 0,.n,.b 1 0,.n,.b 1 6,.n,.b 1 8] [(55,.agg #[.int .i64 a0.1,.int .i64 a0.2.1,.slice A2_ ((a0.2.2.1).length) c3_,.int .i64 a0.2.2.2.1.1,.int .i64 a0.2.2.2.1.2.1,.string a0.2.2.2.1.2.2,.string a0.2.2.2.2.1,.int .i64 a0.2.2.2.2.2.1,.int .i64 a0.2.2.2.2.2.2]),(57,.agg #[.int .i64 a1.1.1,.int .i64 a1.1.2.1,.int .i64 a1.1.2.2.1,.int .i64 a1.1.2.2.2.1,.int .i64 a1.1.2.2.2.2.1,.int .i64 a1.1.2.2.2.2.2]),(59,.slice A16_ ((a1.2.1).length) c17_),(61,.slice A20_ ((a1.2.2.2).length) c21_)] ?_
 obtain⟨r11,hv12,hF⟩:=A.bd_some hF
 refine A.AL.call 210 [] (first:=[]) (cap:=[]) cf8 (oper_Tell_ok (a0.1,a0.2.1,a0.2.2.1,(a0.2.2.2.1.1,a0.2.2.2.1.2.1,a0.2.2.2.1.2.2),a0.2.2.2.2.1,a0.2.2.2.2.2.1,a0.2.2.2.2.2.2) (a1.1.1,a1.1.2.1,(a1.1.2.2.1,a1.1.2.2.2.1,a1.1.2.2.2.2.1,a1.1.2.2.2.2.2)) a1.2.1 [] a1.2.2.2 A2_ c3_ A16_ c17_ none 0 A20_ c21_ h0_ h1_ h4_ h5_ h6_ h7_ h8_ h9_ h10_ h11_ h12_ h13_ h14_ h15_ r11 hv12) (.s 0 (.s 1 (.ns (.l 3 (.s 5 (.s 6 .nil)))))) ?_
 rintro _ _ ⟨A13,c14,A15,c16,rfl,rfl,hr17⟩
 refine⟨by kernel_rfl,?_⟩
 refine A.q0 [] [] [.n,.n,.n,.n,.n,.n,.n] [(10,.slice A15 ((r11.2.1).length) c16),(11,.int .i64 r11.2.2)] ?_
 refine A.dl 3 ?_
 refine A.q0 [] [] [.n,.n] [(67,.bool (decide (r11.2.2≠0)))] ?_
 refine A.dx 1 ?_
 refine A.AX.cnd rfl hF (fun hb hF=>?_) (fun hb hF=>?_)
 ·refine A.xl 1 ?_
  refine A.q0 [] [] [.n] [(6,.bool true)] ?_
  refine A.dx 1 ?_
  obtain rfl:=Option.some.inj hF
  exact A.rt1 [] ⟨rfl,rfl⟩
 refine A.xl 3 ?_
 refine A.q0 [7,8] [] [.b 0 0,.n,.b 1 0,.n,.n] [(69,.agg #[.int .i64 a0.1,.int .i64 a0.2.1,.slice A2_ ((a0.2.2.1).length) c3_,.int .i64 a0.2.2.2.1.1,.int .i64 a0.2.2.2.1.2.1,.string a0.2.2.2.1.2.2,.string a0.2.2.2.2.1,.int .i64 a0.2.2.2.2.2.1,.int .i64 a0.2.2.2.2.2.2]),(71,.agg #[.int .i64 a1.1.1,.int .i64 a1.1.2.1,.int .i64 a1.1.2.2.1,.int .i64 a1.1.2.2.2.1,.int .i64 a1.1.2.2.2.2.1,.int .i64 a1.1.2.2.2.2.2]),(72,.slice A22_ ((a2).length) c23_),(73,.slice A15 ((r11.2.1).length) c16)] ?_
 obtain⟨r18,hv19,hF⟩:=A.bd_some hF
 refine A.AL.call 250 [] (first:=[]) (cap:=[]) cf8 (oper_Tell_ok (a0.1,a0.2.1,a0.2.2.1,(a0.2.2.2.1.1,a0.2.2.2.1.2.1,a0.2.2.2.1.2.2),a0.2.2.2.2.1,a0.2.2.2.2.2.1,a0.2.2.2.2.2.2) (a1.1.1,a1.1.2.1,(a1.1.2.2.1,a1.1.2.2.2.1,a1.1.2.2.2.2.1,a1.1.2.2.2.2.2)) a2 [] r11.2.1 A2_ c3_ A22_ c23_ none 0 A15 c16 h0_ h1_ h4_ h5_ h6_ h7_ h8_ h9_ h10_ h11_ h12_ h13_ h14_ h15_ r18 hv19) (.s 0 (.s 4 (.ns (.l 211 (.s 5 (.s 6 .nil)))))) ?_
 rintro _ _ ⟨A20,c21,A22,c23,rfl,rfl,hr24⟩
 refine⟨by kernel_rfl,?_⟩
 refine A.q0 [] [] [.n,.n,.n,.n,.n,.n,.n] [(13,.slice A22 ((r18.2.1).length) c23),(14,.int .i64 r18.2.2)] ?_
 refine A.dl 2 ?_
 refine A.q0 [7,8] [] [.b 0 0,.n,.b 1 0,.n,.n,.b 1 8] [(79,.agg #[.int .i64 a0.1,.int .i64 a0.2.1,.slice A2_ ((a0.2.2.1).length) c3_,.int .i64 a0.2.2.2.1.1,.int .i64 a0.2.2.2.1.2.1,.string a0.2.2.2.1.2.2,.string a0.2.2.2.2.1,.int .i64 a0.2.2.2.2.2.1,.int .i64 a0.2.2.2.2.2.2]),(81,.agg #[.int .i64 a1.1.1,.int .i64 a1.1.2.1,.int .i64 a1.1.2.2.1,.int .i64 a1.1.2.2.2.1,.int .i64 a1.1.2.2.2.2.1,.int .i64 a1.1.2.2.2.2.2]),(82,.slice A8 ((r6.1).length) c9),(84,.slice A20_ ((a1.2.2.2).length) c21_)] ?_
 refine A.frz 170 [] ?_
 obtain⟨r25,hv26,hF⟩:=A.bd_some hF
 refine A.AL.call 290 [] (first:=[]) (cap:=[]) cf8 (oper_Tell_ok (a0.1,a0.2.1,a0.2.2.1,(a0.2.2.2.1.1,a0.2.2.2.1.2.1,a0.2.2.2.1.2.2),a0.2.2.2.2.1,a0.2.2.2.2.2.1,a0.2.2.2.2.2.2) (a1.1.1,a1.1.2.1,(a1.1.2.2.1,a1.1.2.2.2.1,a1.1.2.2.2.2.1,a1.1.2.2.2.2.2)) r6.1 [] a1.2.2.2 A2_ c3_ A8 c9 none 0 A20_ c21_ h0_ h1_ h4_ h5_ h6_ h7_ h8_ h9_ h10_ h11_ h12_ h13_ h14_ h15_ r25 hv26) (.s 0 (.s 170 (.ns (.l 3 (.s 5 (.s 6 .nil)))))) ?_
 rintro _ _ ⟨A27,c28,A29,c30,rfl,rfl,hr31⟩
 refine⟨by kernel_rfl,?_⟩
 refine A.q0 [] [] [.n,.n,.n,.n,.n,.n,.n] [(16,.slice A29 ((r25.2.1).length) c30),(17,.int .i64 r25.2.2)] ?_
 refine A.dx 1 ?_
 refine A.AX.join [] [5,6] (fun nl nh=>∃(y32:Bool),nl=[(6,.bool y32)]∧nh=[]∧F.L17_OperOnward_j1 y32=some r) ?_ ?_
 ·refine A.xl 0 ?_
  refine A.q0 [] [] [.n,.n,.n,.sy .n,.sy .n,.pk,.n] [(95,.bool (bif decide (r18.2.2=0)then decide (r25.2.2=0)else false))] ?_
  refine A.AL.cnd (j:=95) rfl hF (fun hF=>?_) (fun hF=>?_)
  ·refine A.q0 [] [] [.on .n,.on .n] [(96,.slice A22 ((r18.2.1).length) c23),(97,.slice A29 ((r25.2.1).length) c30)] ?_
   refine A.AL.on (dj:=95) rfl rfl ?_
   obtain⟨r33,hv34,hF⟩:=A.bd_some hF
   refine A.AL.call 330 [] (first:=[]) (cap:=[]) cf15 (slices_Equal_api_Entry_api_Entry_ok r18.2.1 r25.2.1 A22 c23 A29 c30 r33 hv34) (.l 251 (.l 291 .nil)) ?_
   rintro _ _ ⟨rfl,rfl⟩
   refine⟨by kernel_rfl,?_⟩
   refine A.q0 [] [] [.n,.n] [(6,.bool r33)] ?_
   refine A.AL.done ?_
   exact A.j ⟨r33,rfl,rfl,hF⟩
  refine A.q0 [] [] [.off,.off,.off,.n,.n] [(6,.bool false)] ?_
  refine A.AL.done ?_
  exact A.j ⟨false,rfl,rfl,hF⟩
 rintro _ _ ⟨y32,rfl,rfl,hF⟩
 rw[F.L17_OperOnward_j1]at hF
 obtain rfl:=Option.some.inj hF
 exact A.rt1 [] ⟨rfl,rfl⟩
end Go.Proofs.YtbljnlkhebiniaaDoor
end
section
set_option maxRecDepth 20000
set_option maxHeartbeats 8000000
set_option linter.unusedVariables false
set_option synthInstance.maxSize 1000000
set_option synthInstance.maxHeartbeats 400000
namespace Go.Proofs.YtbljnlkhebiniaaDoor
open Go.RowKit
end Go.Proofs.YtbljnlkhebiniaaDoor
end
section
end
section
set_option linter.unusedVariables false
namespace Go.A
open Go.RowKit Go.Z Go.Shelf Go.Proofs Go.Lib
def Hall (W:World):List (Nat×Res)→Prop
 | []=>True
 |p::H=>(p.2.bl=[]∧p.2.ref=none∧p.2.holds W (fun _=>True) (fun _ _=>False))∧Hall W H
theorem Hall.at {W:World}: ∀{H:List (Nat×Res)} {k:Nat} {r:Res},Hall W H→hk H k=some r→r.bl=[]∧r.ref=none∧r.holds W (fun _=>True) (fun _ _=>False)
 | [],_,_,_,h=>by cases h
 |(d,u)::H,k,r,ha,h=>by
  rw[hk_cons]at h
  split at h
  ·injection h with h;subst h;exact ha.1
  ·exact ha.2.at h
theorem Hp.start {W:World}{H:List (Nat×Res)}(h:Hall W H):Hp ⟨0,[],W,[],fun _=>True⟩ H W:=by
 have hb: ∀k b,¬Bk H k b:=fun k b ⟨r,h1,h2⟩=>by rw[(h.at h1).1]at h2;cases h2
 refine⟨Ch.refl W,fun k r hk=>?_,fun k b hB=>(hb k b hB).elim,fun k k' b hB=>(hb k b hB).elim,fun k r j hk hr=>?_⟩
 ·exact Res.to (S:=[]) (h.at hk).2.2 (Ch.refl W) (fun b _ _=>⟨by simp,fun k=>hb k b,.inl trivial⟩) (fun b _ _=>⟨by simp,fun k=>hb k b⟩) (fun i b _ hf=>hf.elim) (by simp)
 ·rw[(h.at hk).2.1]at hr;cases hr
theorem Hall.sh {W:World}{t:Ty}{cs:List Value}{x:t.den}{F:Nat→Prop}(h:t.rep W F cs x):(Res.sh t cs x).bl=[]∧(Res.sh t cs x).ref=none∧(Res.sh t cs x).holds W (fun _=>True) (fun _ _=>False):=
 ⟨rfl,rfl,rep_as h fun _ _ _=>trivial⟩
theorem Hall.ln {W:World}{t:Ty}{A:Option Addr}{c n:Nat}{xs:List t.den}{F:Nat→Prop}(h:(Ty.slice t).rep W F [.slice A xs.length c] xs):(Res.ln t A c xs).bl=[]∧(Res.ln t A c xs).ref=none∧(Res.ln t A c xs).holds W (fun _=>True) (fun _ _=>False):=
 ⟨rfl,rfl,Row.to (S:=[]) (Row.of h) (Ch.refl W) (fun _ _ _=>⟨by simp,trivial⟩) (fun _ _ _=>⟨by simp,fun _ h=>h⟩)⟩
def putCells (cs:List Value):Obj→Obj
 | .cells _ t frozen=>.cells cs.toArray t frozen
 |o=>o
theorem tab_cells {w:World}{g3 g4:Nat}(h:Lib.Utf8Tabs g3 g4 w):Cells w ⟨g3,0,none⟩ tabF∧Cells w ⟨g4,0,none⟩ tabA:=by
 constructor
 ·intro j u hu
  rw[Addr.add_lit,Nat.zero_add]
  have hj:j<256:=by have:=(List.getElem?_eq_some_iff.1 hu).1;simpa[tabF] using this
  have e:tabF[j]?=some (.int .u8 (firstT j)):=by simp[tabF,hj]
  rw[e]at hu;injection hu with hu;subst hu
  exact h.1 j hj
 ·intro j u hu
  rw[Addr.add_lit,Nat.zero_add]
  have hj:j<32:=by have:=(List.getElem?_eq_some_iff.1 hu).1;simpa[tabA] using this
  have e:tabA[j]?=some (.int .u8 (if j%2=0 then accLo (j / 2)else accHi (j / 2))):=by simp[tabA,hj]
  rw[e]at hu;injection hu with hu;subst hu
  have:=h.2 (j / 2) (by omega)
  by_cases he:j%2=0
  ·rw[if_pos he]
   have hj2:j=2*(j / 2):=by omega
   rw[hj2];simpa using this.1
  ·rw[if_neg he]
   have hj2:j=2*(j / 2)+1:=by omega
   have h3:(2*(j / 2)+1) / 2=j / 2:=by omega
   rw[hj2,h3];exact this.2
theorem Hall.tabs {w:World}{g3 g4 i j:Nat}(h:Lib.Utf8Tabs g3 g4 w):Hall w [(i,.el none g3 0 tabF),(j,.el none g4 0 tabA)]:=by
 obtain⟨h1,h2⟩:=tab_cells h
 exact⟨⟨rfl,rfl,h1,World.block_lt_of_cell? w _ (h1 0 (.int .u8 (firstT 0)) (by simp[tabF])),fun _ h=>h⟩,⟨rfl,rfl,h2,World.block_lt_of_cell? w _ (h2 0 (.int .u8 (accLo 0)) (by simp[tabA])),fun _ h=>h⟩,trivial⟩
end Go.A
end
section
namespace Go.Graph
abbrev Fun:=Int×Int×ByteArray
abbrev Nd:=Int×Int×List Int×Fun×ByteArray×Int×Int
abbrev id (x:Nd):Int:=x.1
abbrev kind (x:Nd):Int:=x.2.1
abbrev ins (x:Nd):List Int:=x.2.2.1
abbrev fn (x:Nd):Fun:=x.2.2.2.1
abbrev name (x:Nd):ByteArray:=x.2.2.2.2.1
abbrev cap (x:Nd):Int:=x.2.2.2.2.2.1
def Few (g:List Nd):Prop:=g.length≤40∧∀x,x∈g→x.2.2.1.length≤5000∧x.2.2.2.2.1.size≤5000∧x.2.2.2.1.2.2.size≤5000
theorem Few.in {g:List Nd}{k:Nat}{x:Nd}(h:Few g)(hx:g[k]?=some x):x.2.2.1.length≤5000:=(h.2 x (List.mem_of_getElem? hx)).1
def insK (k:Int):Int:=if k<1∨16<k then-1 else if k=1 then 0 else if k=5∨k=9 then 2 else 1
def letter (c:UInt8):Bool:=decide ((97:Int)≤(c.toNat:Int)∧(c.toNat:Int)≤122∨(65:Int)≤(c.toNat:Int)∧(c.toNat:Int)≤90)
def digit (c:UInt8):Bool:=decide ((48:Int)≤(c.toNat:Int)∧(c.toNat:Int)≤57)
def wordy (l:List UInt8):Bool:=l.all fun c=>letter c||digit c
def named (s:ByteArray):Bool:=decide (s≠ByteArray.mk #[])&&decide ((s.size:Int)≤16)&&letter (Z.bat s 0)&&wordy s.data.toList
theorem drop_bat {s:ByteArray}{i:Nat}(h:i<s.size):s.data.toList.drop i=Z.bat s i::s.data.toList.drop (i+1):=by
 have h':i<s.data.toList.length:=by simpa using h
 rw[List.drop_eq_getElem_cons h']
 have h2:i<s.data.size:=h
 congr 1
 simp[Z.bat,Array.getElem?_eq_getElem h2]
theorem drop_end {s:ByteArray}{i:Nat}(h: ¬i<s.size):s.data.toList.drop i=[]:=
 List.drop_eq_nil_of_le (by have h1:s.data.toList.length=s.size:=rfl;omega)
def idxF (id:Int):Nat→List Nd→Int
 |_,[]=> -1
 |k,x::r=>if x.1=id then(k:Int)else idxF id (k+1) r
def idx (g:List Nd)(id:Int):Int:=idxF id 0 g
def namedF (kd:Int)(s:ByteArray):List Nd→Int×Bool
 | []=>(0,false)
 |x::r=>if kind x=kd∧name x=s then(x.1,true)else namedF kd s r
def z0:Nd:=(0,0,[],(0,0,ByteArray.mk #[]),ByteArray.mk #[],0,0)
def at_ (g:List Nd)(i:Int):Nd:=(g[i.toNat]?).getD z0
def ownT (g:List Nd)(n:Nd):Bool:=if n.2.1≠1∧n.2.1≠15 then decide (n.2.2.2.2.1=ByteArray.mk #[])else named n.2.2.2.2.1&&decide ((namedF n.2.1 n.2.2.2.2.1 g).1=n.1)
def ownC (n:Nd):Prop:=n.2.1=14∧(n.2.2.2.2.2.1<1∨8<n.2.2.2.2.2.1∨n.2.2.2.2.2.2<1∨4<n.2.2.2.2.2.2)∨n.2.1≠14∧(n.2.2.2.2.2.1≠0∨n.2.2.2.2.2.2≠0)
instance (n:Nd):Decidable (ownC n):=by unfold ownC;infer_instance
def own (g:List Nd)(i:Int)(n:Nd):Bool:=
 if n.1<1∨255<n.1∨0<i∧n.1≤(at_ g (i-1)).1∨insK n.2.1<0∨(n.2.2.1.length:Int)≠insK n.2.1 then false else if ownC n then false else ownT g n
def bget (l:List Bool)(i:Int):Bool:=(l[i.toNat]?).getD false
def iget (l:List Int)(i:Int):Int:=(l[i.toNat]?).getD 0
def readyF (g:List Nd)(done:List Bool)(kd:Int):List Int→Bool
 | []=>true
 |k::r=>if kd≠14∧bget done (idx g k)=false then false else readyF g done kd r
def ready (g:List Nd)(done:List Bool)(n:Nd):Bool:=readyF g done n.2.1 n.2.2.1
def d0:List Int→Int
 | []=>0
 |a::_=>a
abbrev inD (g:List Nd) (d:List Int) (l:List Int):List Int:=l.map fun k=>iget d (idx g k)
def InB (d:List Int):Prop:=∀i,0≤iget d i∧iget d i≤4
theorem InB.rep (n:Nat):InB (List.replicate n 0):=fun i=>by
 unfold iget;rw[List.getElem?_replicate];split<;>simp
theorem InB.set {d:List Int}(h:InB d)(p:Nat){v:Int}(h0:0≤v)(h1:v≤4):InB (d.set p v):=fun i=>by
 unfold iget;rw[List.getElem?_set]
 have:=h i
 unfold iget at this
 split
 ·split<;>simp<;>omega
 ·exact this
theorem InB.d0 {d:List Int}(h:InB d)(g:List Nd)(l:List Int): -1≤Graph.d0 (inD g d l)∧Graph.d0 (inD g d l)≤4:=by
 cases l with
 |nil=>simp[Graph.d0]
 |cons k r=>have:=h (idx g k);simp only[inD,List.map_cons,Graph.d0];omega
theorem width_pos (s:ByteArray)(pos:Nat):1≤(Utf8.decode s pos).2:=by
 unfold Utf8.decode;simp only[];repeat' split
 all_goals first|exact Nat.le_refl 1|(simp;done)|omega
def numberF (f:Fun):Bool:=if f.1=3∨f.1=13 then decide (0≤f.2.1∧f.2.1≤64)else if f.1=6∨f.1=11 then decide (1≤f.2.1∧f.2.1≤1048576)else decide (f.2.1=0)
def tail5 (c:UInt8):Bool:=decide (128≤(c.toNat:Int)∧(c.toNat:Int)≤191)
def second (s:ByteArray)(i:Nat):UInt8:=if i+1<s.size then Z.bat s (i+1)else 0
end Go.Graph
end
section
set_option linter.unusedVariables false
set_option linter.unusedSimpArgs false
namespace Go.A
open Go.Z
theorem gd1 {α:Type}{p:Prop}[Decidable p](h:p)(x:Option α):gd p x=x:=if_pos h
theorem ixn {α:Type}{xs:List α}{k:Nat}{x:α}(h:xs[k]?=some x):ix xs (k:Int)=some x:=by rw[ix_nat];exact h
theorem dropx {α:Type}{xs:List α}{k:Nat}{x:α}(h:xs[k]?=some x):xs.drop k=x::xs.drop (k+1):=by
 obtain⟨h1,h2⟩:=List.getElem?_eq_some_iff.1 h
 rw[List.drop_eq_getElem_cons h1,h2]
theorem ba {p q:Prop}[Decidable p][Decidable q]:(bif decide p then decide q else false)=decide (p∧q):=by by_cases h:p<;>simp[h]
theorem bo {p q:Prop}[Decidable p][Decidable q]:(bif decide p then true else decide q)=decide (p∨q):=by by_cases h:p<;>simp[h]
theorem bn {p:Prop}[Decidable p]:(!decide p)=decide (¬p):=by by_cases h:p<;>simp[h]
theorem lp {α σ ρ:Type}(xs:List α)(L:Nat→σ→Int→Option ρ)(G:Nat→List α→σ→Option ρ)(P:Nat→σ→Prop)
  (h0: ∀f s,P xs.length s→L (f+1) s (xs.length:Int)=G xs.length [] s)
  (h1: ∀f s (k:Nat) x,xs[k]?=some x→k<xs.length→P k s→(∀s',P (k+1) s'→L f s' ((k:Int)+1)=G (k+1) (xs.drop (k+1)) s')→L (f+1) s k=G k (x::xs.drop (k+1)) s)
  (hl:xs.length<FU) (s:σ) (hs:P 0 s):L FU s 0=G 0 xs s:=by
 have main: ∀(n k f:Nat) (s:σ),k+n=xs.length→n<f→P k s→L f s (k:Int)=G k (xs.drop k) s:=by
  intro n
  induction n with
  |zero=>
   intro k f s hk hf hp
   obtain⟨f,rfl⟩: ∃f',f=f'+1:=⟨f-1,by omega⟩
   obtain rfl:k=xs.length:=by omega
   rw[List.drop_eq_nil_of_le (Nat.le_refl _)];exact h0 f s hp
  |succ n ih=>
   intro k f s hk hf hp
   obtain⟨f,rfl⟩: ∃f',f=f'+1:=⟨f-1,by omega⟩
   have hx:xs[k]?=some xs[k]:=List.getElem?_eq_getElem (by omega)
   rw[dropx hx]
   exact h1 f s k _ hx (by omega) hp fun s' hp'=>ih (k+1) f s' (by omega) (by omega) hp'
 have:=main xs.length 0 FU s (by omega) hl hs
 simpa using this
theorem lp0 {α ρ:Type}(xs:List α)(L:Nat→Int→Option ρ)(G:Nat→List α→Option ρ)
  (h0: ∀f,L (f+1) (xs.length:Int)=G xs.length [])
  (h1: ∀f (k:Nat) x,xs[k]?=some x→k<xs.length→L f ((k:Int)+1)=G (k+1) (xs.drop (k+1))→L (f+1) k=G k (x::xs.drop (k+1)))
  (hl:xs.length<FU):L FU 0=G 0 xs:=
 lp xs (fun f (_:Unit) y=>L f y) (fun k l _=>G k l) (fun _ _=>True) (fun f s _=>h0 f) (fun f s k x hx hk _ ih=>h1 f k x hx hk (ih () trivial)) hl () trivial
end Go.A
namespace Go.Proofs.YtbljnlkhebiniaaDoor
open Go.RowKit Go.Graph
theorem FU_big:(18446744073709551616:Nat)<A.FU:=by decide
theorem ixb {s:ByteArray}{k:Nat}(h:k<s.size):A.ix s.data.toList (k:Int)=some (Z.bat s k):=by
 refine A.ixn ?_
 have:=drop_bat h
 rw[←List.head?_drop,this];rfl
theorem size_list (s:ByteArray):s.data.toList.length=s.size:=rfl
end Go.Proofs.YtbljnlkhebiniaaDoor
end
section
set_option linter.unusedVariables false
set_option linter.unusedSimpArgs false
namespace Go.Proofs.YtbljnlkhebiniaaDoor
open Go.RowKit Go.Graph
theorem bat_get (s:ByteArray)(i:Nat):(s.get! i)=Z.bat s i:=by
 cases s;simp[ByteArray.get!,Z.bat,getElem!_def,Option.getD]
 rfl
theorem dec_at (s:ByteArray)(i:Nat):Utf8.decode s i=Lib.decodeN (s.size-i) (Z.bat s i).toNat (Z.bat s (i+1)).toNat (Z.bat s (i+2)).toNat (Z.bat s (i+3)).toNat:=by
 rw[Lib.decode_at,bat_get,bat_get,bat_get,bat_get]
end Go.Proofs.YtbljnlkhebiniaaDoor
end
section
set_option maxRecDepth 20000
set_option linter.unusedVariables false
set_option linter.unusedSimpArgs false
namespace Go.Proofs.YtbljnlkhebiniaaDoor
open Go.RowKit Go.Graph
theorem tail_eq (c:UInt8):F.R05_tail c=some (tail5 c):=by
 unfold F.R05_tail tail5
 by_cases h1:(128:Int)≤(c.toNat:Int)<;>by_cases h2:(c.toNat:Int)≤191<;>simp[h1,h2]
theorem ixk (s:ByteArray)(p k:Nat):A.ix s.data.toList ((p:Int)+(k:Int))=if p+k<s.size then some (Z.bat s (p+k))else none:=by
 have e:(p:Int)+(k:Int)=((p+k:Nat):Int):=by omega
 rw[e]
 by_cases h:p+k<s.size
 ·rw[if_pos h];exact ixb h
 ·rw[if_neg h,A.ix_nat];exact List.getElem?_eq_none (by rw[size_list];omega)
def wid (s:ByteArray)(p:Nat):Nat:=if Utf8.decode s p=(65533,1)then 0 else(Utf8.decode s p).2
theorem wid_le {s:ByteArray}{p:Nat}(h:p<s.size):p+wid s p≤s.size:=by
 unfold wid
 split
 ·omega
 ·rw[dec_at]
  unfold Lib.decodeN
  repeat' split
  all_goals simp only[]
  all_goals omega
def widN (n a b c d:Nat):Nat:=
 if a<128 then 1
 else if(194≤a∧a≤223)∧2≤n∧(128≤b∧b≤191)then 2
 else if(224≤a∧a≤239)∧3≤n∧(128≤b∧b≤191)∧(128≤c∧c≤191)∧¬(a=224∧b<160)∧¬(a=237∧159<b)then 3
 else if(240≤a∧a≤244)∧4≤n∧(128≤b∧b≤191)∧(128≤c∧c≤191)∧(128≤d∧d≤191)∧¬(a=240∧b<144)∧¬(a=244∧143<b)then 4
 else 0
theorem pq (c:Prop)[Decidable c](x w:Nat)(hw:w≠1):(if(if c then(x,w)else(65533,1))=(65533,1)then 0 else(if c then(x,w)else(65533,1)).2)=if c then w else 0:=by
 by_cases h:c<;>simp[h,hw]
theorem widN_eq (n a b c d:Nat)(ha:a<256)(hb:b<256)(hc:c<256)(hd:d<256):(if Lib.decodeN n a b c d=(65533,1)then 0 else(Lib.decodeN n a b c d).2)=widN n a b c d:=by
 unfold Lib.decodeN widN
 by_cases h0:a<128
 ·simp only[h0,if_true,Prod.mk.injEq];rw[if_neg (by omega)]
 ·simp only[h0,if_false]
  by_cases h1:a / 32=6∧1<n∧b / 64=2
  ·simp only[if_pos h1]
   rw[pq _ _ _ (by decide)]
   repeat' split
   all_goals omega
  ·simp only[if_neg h1]
   by_cases h3:a / 16=14∧(1<n∧b / 64=2)∧2<n∧c / 64=2
   ·simp only[if_pos h3]
    rw[pq _ _ _ (by decide)]
    repeat' split
    all_goals omega
   ·simp only[if_neg h3]
    by_cases h5:a / 8=30∧(1<n∧b / 64=2)∧(2<n∧c / 64=2)∧3<n∧d / 64=2
    ·simp only[if_pos h5]
     rw[pq _ _ _ (by decide)]
     repeat' split
     all_goals omega
    ·simp only[if_neg h5,if_true]
     repeat' split
     all_goals omega
theorem wid_N (s:ByteArray)(p:Nat):wid s p=widN (s.size-p) (Z.bat s p).toNat (Z.bat s (p+1)).toNat (Z.bat s (p+2)).toNat (Z.bat s (p+3)).toNat:=by
 rw[←widN_eq _ _ _ _ _ (UInt8.toNat_lt _) (UInt8.toNat_lt _) (UInt8.toNat_lt _) (UInt8.toNat_lt _),←dec_at];rfl
theorem cnd {α:Type}{p:Prop}[Decidable p](x y:α):(bif decide p then x else y)=if p then x else y:=by by_cases h:p<;>simp[h]
set_option maxHeartbeats 4000000 in
theorem width_eq (s:ByteArray)(p:Nat)(hp:p<s.size)(hs:s.size≤5000):F.R05_width s p=some (wid s p:Int):=by
 have i1:A.ix s.data.toList ((p:Int)+1)=if p+1<s.size then some (Z.bat s (p+1))else none:=ixk s p 1
 have i2:A.ix s.data.toList ((p:Int)+2)=if p+2<s.size then some (Z.bat s (p+2))else none:=ixk s p 2
 have i3:A.ix s.data.toList ((p:Int)+3)=if p+3<s.size then some (Z.bat s (p+3))else none:=ixk s p 3
 have r1:Z.R64 ((p:Int)+1):=⟨by omega,by omega⟩
 have r2:Z.R64 ((p:Int)+2):=⟨by omega,by omega⟩
 have r3:Z.R64 ((p:Int)+3):=⟨by omega,by omega⟩
 unfold F.R05_width
 rw[A.gd1 ⟨by omega,by omega⟩,ixb hp,Option.bind_some,A.gd1 r1,i1,wid_N]
 generalize Z.bat s p=c0 at*
 generalize Z.bat s (p+1)=c1 at*
 generalize Z.bat s (p+2)=c2 at*
 generalize Z.bat s (p+3)=c3 at*
 have t (c:UInt8):tail5 c=decide (128≤c.toNat∧c.toNat≤191):=by unfold tail5;congr 1;exact propext ⟨fun h=>by omega,fun h=>by omega⟩
 by_cases h1:(1:Int)<(s.size:Int)-(p:Int)
 ·rw[if_pos h1,if_pos (by omega),Option.bind_some]
  simp only[F.R05_width_j4,F.R05_width_j3,F.R05_width_j2,F.R05_width_j1,tail_eq,Option.bind_some,t,A.gd1 r2,A.gd1 r3,i2,i3]
  unfold widN
  generalize hn:s.size-p=n
  have e2:((2:Int)≤(s.size:Int)-(p:Int))=(2≤n):=propext ⟨fun h=>by omega,fun h=>by omega⟩
  have e3:((3:Int)≤(s.size:Int)-(p:Int))=(3≤n):=propext ⟨fun h=>by omega,fun h=>by omega⟩
  have e4:((4:Int)≤(s.size:Int)-(p:Int))=(4≤n):=propext ⟨fun h=>by omega,fun h=>by omega⟩
  have f2:(p+2<s.size)=(3≤n):=propext ⟨fun h=>by omega,fun h=>by omega⟩
  have f3:(p+3<s.size)=(4≤n):=propext ⟨fun h=>by omega,fun h=>by omega⟩
  have hn2:2≤n:=by omega
  simp only[e2,e3,e4,f2,f3,A.ba,decide_eq_true_eq,hn2,and_true,true_and]
  have q0:((c0.toNat:Int)<128)=(c0.toNat<128):=propext ⟨fun h=>by omega,fun h=>by omega⟩
  have q1:((194:Int)≤(c0.toNat:Int)∧(c0.toNat:Int)≤223)=(194≤c0.toNat∧c0.toNat≤223):=propext ⟨fun h=>by omega,fun h=>by omega⟩
  have q2:((224:Int)≤(c0.toNat:Int)∧(c0.toNat:Int)≤239)=(224≤c0.toNat∧c0.toNat≤239):=propext ⟨fun h=>by omega,fun h=>by omega⟩
  have q3:((240:Int)≤(c0.toNat:Int)∧(c0.toNat:Int)≤244)=(240≤c0.toNat∧c0.toNat≤244):=propext ⟨fun h=>by omega,fun h=>by omega⟩
  have q4:((c0.toNat:Int)=224∧(c1.toNat:Int)<160)=(c0.toNat=224∧c1.toNat<160):=propext ⟨fun h=>by omega,fun h=>by omega⟩
  have q5:((c0.toNat:Int)=237∧(159:Int)<(c1.toNat:Int))=(c0.toNat=237∧159<c1.toNat):=propext ⟨fun h=>by omega,fun h=>by omega⟩
  have q6:((c0.toNat:Int)=240∧(c1.toNat:Int)<144)=(c0.toNat=240∧c1.toNat<144):=propext ⟨fun h=>by omega,fun h=>by omega⟩
  have q7:((c0.toNat:Int)=244∧(143:Int)<(c1.toNat:Int))=(c0.toNat=244∧143<c1.toNat):=propext ⟨fun h=>by omega,fun h=>by omega⟩
  simp only[q0,q1,q2,q3,q4,q5,q6,q7]
  have x1:240≤c0.toNat∧c0.toNat≤244→¬(224≤c0.toNat∧c0.toNat≤239):=fun h h2=>by omega
  have x2:240≤c0.toNat∧c0.toNat≤244→¬(194≤c0.toNat∧c0.toNat≤223):=fun h h2=>by omega
  have x3:224≤c0.toNat∧c0.toNat≤239→¬(194≤c0.toNat∧c0.toNat≤223):=fun h h2=>by omega
  by_cases K0:c0.toNat<128
  ·simp[K0]
  by_cases m1:128≤c1.toNat∧c1.toNat≤191
  ·by_cases K1:194≤c0.toNat∧c0.toNat≤223
   ·simp only[if_neg K0,if_pos K1,if_pos m1,K1,m1,and_self,if_true];rfl
   ·by_cases K2:224≤c0.toNat∧c0.toNat≤239
    ·have K3: ¬(240≤c0.toNat∧c0.toNat≤244):=fun h=>x1 h K2
     by_cases k3:3≤n
     ·by_cases m2:128≤c2.toNat∧c2.toNat≤191
      ·by_cases y1:c0.toNat=224∧c1.toNat<160
       ·simp only[if_neg K0,if_neg K1,if_pos (And.intro K2 k3),if_pos m1,if_pos k3,Option.bind_some,if_pos m2,eq_true y1,if_true,false_and,K1,K3,eq_true y1,not_true_eq_false,and_false,if_false];rfl
       ·by_cases y2:c0.toNat=237∧159<c1.toNat
        ·simp only[if_neg K0,if_neg K1,if_pos (And.intro K2 k3),if_pos m1,if_pos k3,Option.bind_some,if_pos m2,if_neg y1,eq_true y2,if_true,false_and,K1,K3,eq_true y2,not_true_eq_false,and_false,if_false];rfl
        ·simp only[if_neg K0,if_neg K1,if_pos (And.intro K2 k3),if_pos m1,if_pos k3,Option.bind_some,if_pos m2,if_neg y1,if_neg y2,false_and,K1,K2,k3,m1,m2,y1,y2,not_false_eq_true,and_self,if_true,if_false];rfl
      ·simp only[if_neg K0,if_neg K1,if_pos (And.intro K2 k3),if_pos m1,if_pos k3,Option.bind_some,if_neg m2,if_neg K3,false_and,K1,K3,m2,and_false,if_false,Bool.false_eq_true];rfl
     ·simp only[if_neg K0,if_neg K1,k3,and_false,if_neg K3,false_and,K1,K3,if_false];rfl
    ·by_cases K3:240≤c0.toNat∧c0.toNat≤244
     ·by_cases k4:4≤n
      ·have k3:3≤n:=by omega
       by_cases m2:128≤c2.toNat∧c2.toNat≤191
       ·by_cases m3:128≤c3.toNat∧c3.toNat≤191
        ·by_cases y1:c0.toNat=240∧c1.toNat<144
         ·simp only[if_neg K0,if_neg K1,if_neg K2,K2,false_and,if_pos (And.intro K3 k4),if_pos m1,if_pos k3,if_pos k4,Option.bind_some,if_pos m2,if_pos m3,eq_true y1,if_true,K1,eq_true y1,not_true_eq_false,and_false,if_false];rfl
         ·by_cases y2:c0.toNat=244∧143<c1.toNat
          ·simp only[if_neg K0,if_neg K1,if_neg K2,K2,false_and,if_pos (And.intro K3 k4),if_pos m1,if_pos k3,if_pos k4,Option.bind_some,if_pos m2,if_pos m3,if_neg y1,eq_true y2,if_true,K1,eq_true y2,not_true_eq_false,and_false,if_false];rfl
          ·simp only[if_neg K0,if_neg K1,if_neg K2,K2,false_and,if_pos (And.intro K3 k4),if_pos m1,if_pos k3,if_pos k4,Option.bind_some,if_pos m2,if_pos m3,if_neg y1,if_neg y2,K1,K3,k4,m1,m2,m3,y1,y2,not_false_eq_true,and_self,if_true,if_false];rfl
        ·simp only[if_neg K0,if_neg K1,if_neg K2,K2,false_and,if_pos (And.intro K3 k4),if_pos m1,if_pos k3,if_pos k4,Option.bind_some,if_pos m2,if_neg m3,K1,m3,and_false,if_false,Bool.false_eq_true];rfl
       ·simp only[if_neg K0,if_neg K1,if_neg K2,K2,false_and,if_pos (And.intro K3 k4),if_pos m1,if_pos k3,Option.bind_some,if_neg m2,K1,m2,and_false,if_false,Bool.false_eq_true];rfl
      ·simp only[if_neg K0,if_neg K1,if_neg K2,K2,false_and,k4,and_false,K1,if_false];rfl
     ·simp only[if_neg K0,if_neg K1,if_neg K2,if_neg K3,K1,K2,K3,false_and,if_false];rfl
  ·simp[K0,m1]
 ·rw[if_neg h1]
  simp only[F.R05_width_j4,F.R05_width_j3,F.R05_width_j2,F.R05_width_j1,A.ba,decide_eq_true_eq]
  unfold widN
  have w0:(c0.toNat:Int)<128↔c0.toNat<128:=⟨fun h=>by omega,fun h=>by omega⟩
  by_cases h2:c0.toNat<128
  ·rw[if_pos (w0.2 h2),if_pos h2];rfl
  ·have a1: ¬((194≤c0.toNat∧c0.toNat≤223)∧2≤s.size-p∧128≤c1.toNat∧c1.toNat≤191):=fun h=>by omega
   have a2: ¬((224≤c0.toNat∧c0.toNat≤239)∧3≤s.size-p∧(128≤c1.toNat∧c1.toNat≤191)∧(128≤c2.toNat∧c2.toNat≤191)∧¬(c0.toNat=224∧c1.toNat<160)∧¬(c0.toNat=237∧159<c1.toNat)):=fun h=>by omega
   have a3: ¬((240≤c0.toNat∧c0.toNat≤244)∧4≤s.size-p∧(128≤c1.toNat∧c1.toNat≤191)∧(128≤c2.toNat∧c2.toNat≤191)∧(128≤c3.toNat∧c3.toNat≤191)∧¬(c0.toNat=240∧c1.toNat<144)∧¬(c0.toNat=244∧143<c1.toNat)):=fun h=>by omega
   rw[if_neg (fun h=>h2 (w0.1 h)),if_neg h2,if_neg a1,if_neg a2,if_neg a3]
   simp only[Bool.false_eq_true,if_false]
   rw[if_neg (fun h=>by omega),if_neg (fun h=>by omega),if_neg (fun h=>by omega)];rfl
def vld (s:ByteArray):Nat→Nat→Bool
 |0,_=>true
 |n+1,p=>if p<s.size then(if wid s p=0 then false else vld s n (p+wid s p))else true
def cnt (s:ByteArray):Nat→Nat→Nat
 |0,_=>0
 |n+1,p=>if p<s.size then 1+cnt s n (p+(Utf8.decode s p).2)else 0
theorem Valid_eq (s:ByteArray)(hs:s.size≤5000):F.R05_Valid s=some (vld s s.size 0):=by
 have loop: ∀(n p f:Nat),s.size-p≤n→n<f→p≤5010→F.R05_Valid_l1 s f (p:Int)=some (vld s n p):=by
  intro n
  induction n with
  |zero=>
   intro p f hp hf _
   obtain⟨f,rfl⟩: ∃f',f=f'+1:=⟨f-1,by omega⟩
   rw[F.R05_Valid_l1,if_neg (by omega)];rfl
  |succ n ih=>
   intro p f hp hf hp5
   obtain⟨f,rfl⟩: ∃f',f=f'+1:=⟨f-1,by omega⟩
   rw[F.R05_Valid_l1,vld]
   by_cases h:p<s.size
   ·rw[if_pos (by omega),if_pos h,width_eq s p h hs,Option.bind_some]
    have:=wid_le h
    by_cases hw:wid s p=0
    ·rw[if_pos (by omega),if_pos hw]
    ·rw[if_neg (by omega),if_neg hw,A.gd1 ⟨by omega,by omega⟩]
     have e:(p:Int)+(wid s p:Int)=((p+wid s p:Nat):Int):=by omega
     rw[e];exact ih _ f (by omega) (by omega) (by omega)
   ·rw[if_neg (by omega),if_neg h]
 exact loop s.size 0 A.FU (by omega) (by have:=FU_big;omega) (by omega)
theorem validD_eq (s:ByteArray):Lib.validD s.data.toList=vld s s.size 0:=by
 have loop: ∀(n p:Nat),Lib.validGoD n (s.data.toList.drop p)=vld s n p:=by
  intro n
  induction n with
  |zero=>intro p;rfl
  |succ n ih=>
   intro p
   rw[Lib.validGoD,vld]
   by_cases h:p<s.size
   ·have hne:s.data.toList.drop p≠[]:=by rw[drop_bat h];simp
    rw[if_neg hne,if_pos h,Lib.decodeL_drop,List.drop_drop]
    by_cases hw:Utf8.decode s p=(65533,1)
    ·rw[if_pos (by rw[hw];exact⟨rfl,rfl⟩),if_pos (by unfold wid;rw[if_pos hw])]
    ·have e:wid s p=(Utf8.decode s p).2:=by unfold wid;rw[if_neg hw]
     rw[if_neg (fun h2=>hw (Prod.ext h2.1 h2.2)),if_neg (by rw[e];have:=width_pos s p;omega),ih,e]
   ·rw[if_pos (drop_end h),if_neg h]
 have:=loop s.size 0
 rw[List.drop_zero]at this
 exact this
theorem single_eq (s:ByteArray)(hs:s.size≤9223372036854775807):F.fn_single s=some (if cnt s s.size 0=1 then vld s s.size 0 else false):=by
 have loop: ∀(n p f:Nat) (y:Int),s.size-p≤n→n<f→0≤y→y+n≤9223372036854775807→F.fn_single_l2 s f p y=some (if y+(cnt s n p:Int)=1 then vld s s.size 0 else false):=by
  intro n
  induction n with
  |zero=>
   intro p f y hp hf _ _
   obtain⟨f,rfl⟩: ∃f',f=f'+1:=⟨f-1,by omega⟩
   rw[F.fn_single_l2,if_neg (by omega),F.utf8_ValidString,validD_eq,Option.bind_some]
   simp only[F.fn_single_j1]
   have e:y+(cnt s 0 p:Int)=y:=by rw[cnt];omega
   by_cases h:y=1
   ·rw[if_pos h,if_pos (by omega)]
   ·rw[if_neg h,if_neg (by omega)]
  |succ n ih=>
   intro p f y hp hf h0 h2
   obtain⟨f,rfl⟩: ∃f',f=f'+1:=⟨f-1,by omega⟩
   rw[F.fn_single_l2,cnt]
   by_cases h:p<s.size
   ·rw[if_pos h,if_pos h,A.gd1 ⟨by omega,by omega⟩]
    have hw:=width_pos s p
    rw[ih _ f (y+1) (by omega) (by omega) (by omega) (by omega)]
    congr 2
    exact propext ⟨fun h=>by omega,fun h=>by omega⟩
   ·rw[if_neg h,if_neg h,F.utf8_ValidString,validD_eq,Option.bind_some]
    simp only[F.fn_single_j1]
    by_cases h:y=1
    ·rw[if_pos h,if_pos (by omega)]
    ·rw[if_neg h,if_neg (by omega)]
 unfold F.fn_single
 rw[loop s.size 0 A.FU 0 (by omega) (by have:=FU_big;omega) (by omega) (by omega)]
 congr 2
 exact propext ⟨fun h=>by omega,fun h=>by omega⟩
end Go.Proofs.YtbljnlkhebiniaaDoor
end
section
set_option linter.unusedVariables false
set_option linter.unusedSimpArgs false
namespace Go.Proofs.YtbljnlkhebiniaaDoor
open Go.RowKit Go.Graph
def textP (f:Fun):Bool:=if f.1=5 then decide (f.2.2≠ByteArray.mk #[])&&decide ((f.2.2.size:Int)≤16)&&vld f.2.2 f.2.2.size 0 else if f.1=12∨f.1=22 then decide (cnt f.2.2 f.2.2.size 0=1)&&vld f.2.2 f.2.2.size 0 else decide (f.2.2=ByteArray.mk #[])
theorem number_eq (f:Fun):F.fn_number f=some (numberF f):=by
 unfold F.fn_number F.fn_number_j2 F.fn_number_j1 numberF
 simp only[A.ba,decide_eq_true_eq]
 by_cases h3:f.1=3
 ·simp[h3]
 ·by_cases h13:f.1=13
  ·simp[h13]
  ·by_cases h6:f.1=6
   ·simp[h6]
   ·by_cases h11:f.1=11<;>simp[h3,h13,h6,h11]
theorem text_eq (f:Fun)(hs:f.2.2.size≤9223372036854775807):F.fn_text f=some (textP f):=by
 unfold F.fn_text textP
 simp only[F.fn_text_j1,F.fn_text_j2,A.ba,single_eq _ hs,F.utf8_ValidString,validD_eq,Option.bind_some,decide_eq_true_eq]
 by_cases h5:f.1=5
 ·simp only[h5,if_true]
  by_cases h1:f.2.2=ByteArray.mk #[]<;>by_cases h2:(f.2.2.size:Int)≤16<;>simp[h1,h2]
 ·by_cases h12:f.1=12
  ·simp[h12]
  ·by_cases h22:f.1=22<;>simp[h5,h12,h22]
def anyF (f:Fun)(l:List Int):Int:=if l.any (fun y=>decide (y=f.1)&&(numberF f&&textP f))=true then 0 else 60
def kinds (k:Int):List Int:=if k=2 then [1,2,3,4,5,6,7,8]else if k=3 then [11,12,13]else if k=4 then [21,22]else if k=8 then [31,32,33,34]else if k=11 then [41,42]else []
def chk (k:Int)(f:Fun):Int:=if kinds k=[]then(if f=(0,0,ByteArray.mk #[])then 0 else 60)else anyF f (kinds k)
theorem chk_l (f:Fun)(hs:f.2.2.size≤9223372036854775807): ∀l,F.fn_Check_l2 f l=some (anyF f l)
 | []=>rfl
 |y::l=>by
  have ih:=chk_l f hs l
  unfold F.fn_Check_l2
  simp only[F.fn_Check_j1,number_eq,text_eq _ hs,Option.bind_some,ih,anyF,List.any_cons]
  by_cases h:y=f.1
  ·subst h
   cases hn:numberF f<;>cases ht:textP f<;>simp
  ·simp[h]
theorem fn_Check_eq (k:Int)(f:Fun)(hs:f.2.2.size≤9223372036854775807):F.fn_Check k f=some (chk k f):=by
 have u2:F.fn_Uses_1_it 1 8=some [1,2,3,4,5,6,7,8]:=by kernel_rfl
 have u3:F.fn_Uses_1_it 11 13=some [11,12,13]:=by kernel_rfl
 have u4:F.fn_Uses_1_it 21 22=some [21,22]:=by kernel_rfl
 have u8:F.fn_Uses_1_it 31 34=some [31,32,33,34]:=by kernel_rfl
 have u11:F.fn_Uses_1_it 41 42=some [41,42]:=by kernel_rfl
 unfold F.fn_Check F.fn_Uses F.fn_uses chk kinds
 by_cases h2:k=2
 ·simp[h2,u2,chk_l f hs]
 ·by_cases h3:k=3
  ·simp[h3,u3,chk_l f hs]
  ·by_cases h4:k=4
   ·simp[h4,u4,chk_l f hs]
   ·by_cases h8:k=8
    ·simp[h8,u8,chk_l f hs]
    ·by_cases h11:k=11
     ·simp[h11,u11,chk_l f hs]
     ·simp only[h2,h3,h4,h8,h11,if_false,Option.bind_some]
      rw[if_pos (by decide),if_pos trivial]
      by_cases hz:f=(0,0,ByteArray.mk #[])
      ·rw[if_neg (fun h=>h hz),if_pos hz]
      ·rw[if_pos hz,if_neg hz]
end Go.Proofs.YtbljnlkhebiniaaDoor
end
section
set_option linter.unusedVariables false
set_option linter.unusedSimpArgs false
namespace Go.Utf
open Go.Lib
abbrev Rn:=List UInt8×Int
theorem enc_eq (r:Int):(Utf8.encode r).data.toList=encodeRune r:=by
 unfold Utf8.encode encodeRune
 by_cases h1:0≤r∧r≤127
 ·rw[encodeRuneZ_one h1.1 h1.2]
  have hv:Utf8.valid r=true:=by simp[Utf8.valid];omega
  rw[if_pos hv]
  have hc:r.toNat<128:=by omega
  simp only[hc,if_true]
  simp
 by_cases h2:128≤r∧r≤2047
 ·rw[encodeRuneZ_two h2.1 h2.2]
  have hv:Utf8.valid r=true:=by simp[Utf8.valid];omega
  rw[if_pos hv]
  obtain⟨n,rfl⟩: ∃n:Nat,r=n:=⟨r.toNat,by omega⟩
  have hc: ¬(n<128):=by omega
  have hc2:n<2048:=by omega
  simp only[Int.toNat_natCast,hc,if_false,hc2,if_true,List.map_cons,List.map_nil]
  have e1:(192+(n:Int) / 64).toNat=192+n / 64:=by omega
  have e2:(128+(n:Int)%64).toNat=128+n%64:=by omega
  rw[e1,e2]
 by_cases h3:(2048≤r∧r<55296)∨(57343<r∧r≤65535)
 ·rw[encodeRuneZ_three h3]
  have hv:Utf8.valid r=true:=by simp[Utf8.valid];omega
  rw[if_pos hv]
  obtain⟨n,rfl⟩: ∃n:Nat,r=n:=⟨r.toNat,by omega⟩
  have hc: ¬(n<128):=by omega
  have hc2: ¬n<2048:=by omega
  have hc3:n<65536:=by omega
  simp only[Int.toNat_natCast,hc,if_false,hc2,hc3,if_true,List.map_cons,List.map_nil]
  have e1:(224+(n:Int) / 4096).toNat=224+n / 4096:=by omega
  have e2:(128+(n:Int) / 64%64).toNat=128+n / 64%64:=by omega
  have e3:(128+(n:Int)%64).toNat=128+n%64:=by omega
  rw[e1,e2,e3]
 by_cases h4:65536≤r∧r≤1114111
 ·rw[encodeRuneZ_four h4.1 h4.2]
  have hv:Utf8.valid r=true:=by simp[Utf8.valid];omega
  rw[if_pos hv]
  obtain⟨n,rfl⟩: ∃n:Nat,r=n:=⟨r.toNat,by omega⟩
  have hc: ¬(n<128):=by omega
  have hc2: ¬n<2048:=by omega
  have hc3: ¬n<65536:=by omega
  simp only[Int.toNat_natCast,hc,if_false,hc2,hc3,List.map_cons,List.map_nil]
  have e0:(240+(n:Int) / 262144).toNat=240+n / 262144:=by omega
  have e1:(128+(n:Int) / 4096%64).toNat=128+n / 4096%64:=by omega
  have e2:(128+(n:Int) / 64%64).toNat=128+n / 64%64:=by omega
  have e3:(128+(n:Int)%64).toNat=128+n%64:=by omega
  rw[e0,e1,e2,e3]
 ·rw[encodeRuneZ_bad (by omega)]
  have hv: ¬Utf8.valid r=true:=by simp[Utf8.valid];omega
  rw[if_neg hv]
  rfl
theorem decN_ext {n n' b0 b1 b2 b3 c1 c2 c3:Nat}{r k:Nat}(h:decodeN n b0 b1 b2 b3=(r,k))(hv: ¬(r=65533∧k=1))(hn:k≤n')(h1:1<k→c1=b1)(h2:2<k→c2=b2)(h3:3<k→c3=b3):decodeN n' b0 c1 c2 c3=(r,k):=by
 rcases decodeN_shape n b0 b1 b2 b3 with⟨q,e⟩|⟨q1,q2,q3,qv,e⟩|⟨q1,q2,q3,q4,qv,qs,e⟩|⟨q1,q2,q3,q4,q5,qv,qw,e⟩|e
 ·rw[e]at h;injection h with e1 e2;subst e1;subst e2
  unfold decodeN;rw[if_pos q]
 ·rw[e]at h;injection h with e1 e2;subst e1;subst e2
  obtain rfl:=h1 (by omega)
  unfold decodeN
  rw[if_neg (by omega),if_pos ⟨q1,by omega,q3⟩,if_pos qv]
 ·rw[e]at h;injection h with e1 e2;subst e1;subst e2
  obtain rfl:=h1 (by omega)
  obtain rfl:=h2 (by omega)
  unfold decodeN
  rw[if_neg (by omega),if_neg (by omega),if_pos ⟨q1,⟨by omega,q3⟩,by omega,q4⟩,if_pos ⟨qv,by omega⟩]
 ·rw[e]at h;injection h with e1 e2;subst e1;subst e2
  obtain rfl:=h1 (by omega)
  obtain rfl:=h2 (by omega)
  obtain rfl:=h3 (by omega)
  unfold decodeN
  rw[if_neg (by omega),if_neg (by omega),if_neg (by omega),if_pos ⟨q1,⟨by omega,q3⟩,⟨by omega,q4⟩,by omega,q5⟩,if_pos ⟨qv,.inr ⟨by omega,qw⟩⟩]
 ·rw[e]at h;injection h with e1 e2;subst e1;subst e2
  exact absurd ⟨rfl,rfl⟩ hv
structure Ck (c:Rn):Prop where
 ne:c.1≠[]
 four:c.1.length≤4
 enc:(Utf8.encode c.2).data.toList=c.1
 dec: ∀rest,decodeL (c.1++rest)=(c.2.toNat,c.1.length)
 nn:0≤c.2
 top:c.2≤1114111
 ok: ¬(c.2.toNat=65533∧c.1.length=1)
theorem decodeL_four (l:List UInt8):(decodeL l).2≤4:=by
 rw[decodeL_N]
 rcases decodeN_shape l.length (l.getD 0 0).toNat (l.getD 1 0).toNat (l.getD 2 0).toNat (l.getD 3 0).toNat with⟨c,e⟩|⟨c1,c2,c3,cv,e⟩|⟨c1,c2,c3,c4,cv,cs,e⟩|⟨c1,c2,c3,c4,c5,cv,cw,e⟩|e
 all_goals (rw[e];simp)
theorem Ck.of {l:List UInt8}(hne:l≠[])(hv: ¬((decodeL l).1=65533∧(decodeL l).2=1)):Ck (l.take (decodeL l).2,((decodeL l).1:Int)):=by
 have hw:=decodeL_width l
 have hle:=decodeL_le l hne
 have hlen:(l.take (decodeL l).2).length=(decodeL l).2:=by rw[List.length_take];omega
 refine⟨fun h=>?_,by show(l.take _).length≤4;rw[hlen];exact decodeL_four l,?_,fun rest=>?_,by simp,?_,?_⟩
 ·have:=congrArg List.length h
  simp only[List.length_nil]at this
  rw[hlen]at this;omega
 ·exact(enc_eq _).trans (encode_decode l hne hv)
 ·show decodeL (l.take (decodeL l).2++rest)=((((decodeL l).1:Nat):Int).toNat,(l.take (decodeL l).2).length)
  rw[hlen,Int.toNat_natCast]
  have e:decodeL l=decodeN l.length (l.getD 0 0).toNat (l.getD 1 0).toNat (l.getD 2 0).toNat (l.getD 3 0).toNat:=decodeL_N l
  obtain⟨r,k,hrk⟩: ∃r k,decodeL l=(r,k):=⟨_,_,rfl⟩
  rw[hrk]at hv hw hle hlen ⊢
  rw[hrk]at e
  simp only at hv hw hle hlen ⊢
  have hg: ∀i,i<k→(l.take k++rest).getD i 0=l.getD i 0:=fun i hi=>by
   simp only[List.getD]
   rw[List.getElem?_append_left (by rw[hlen];exact hi),List.getElem?_take_of_lt hi]
  rw[decodeL_N,hg 0 (by omega)]
  refine decN_ext e.symm hv (by rw[List.length_append,hlen];omega) (fun h=>by rw[hg 1 h]) (fun h=>by rw[hg 2 h]) (fun h=>by rw[hg 3 h])
 ·have:=decodeL_rune l
  show((decodeL l).1:Int)≤1114111
  omega
 ·show ¬((((decodeL l).1:Nat):Int).toNat=65533∧(l.take (decodeL l).2).length=1)
  rw[hlen,Int.toNat_natCast];exact hv
theorem Ck.len {c:Rn}(h:Ck c):1≤c.1.length:=by
 cases hc:c.1 with
 |nil=>exact absurd hc h.ne
 |cons a b=>simp
def ckF:Nat→List UInt8→List Rn
 |0,_=>[]
 |n+1,l=>if l=[]then []else(l.take (decodeL l).2,((decodeL l).1:Int))::ckF n (l.drop (decodeL l).2)
def cks (l:List UInt8):List Rn:=ckF l.length l
abbrev flat (cs:List Rn):List UInt8:=cs.flatMap (·.1)
theorem flat_cons (c:Rn)(cs:List Rn):flat (c::cs)=c.1++flat cs:=rfl
theorem flat_ckF: ∀(n:Nat) (l:List UInt8),l.length≤n→flat (ckF n l)=l
 |0,l,h=>by rw[List.eq_nil_of_length_eq_zero (Nat.le_zero.1 h)];rfl
 |n+1,l,h=>by
  unfold ckF
  by_cases hl:l=[]
  ·rw[if_pos hl,hl];rfl
  ·rw[if_neg hl,flat_cons,flat_ckF n _ (by have:=decodeL_width l;rw[List.length_drop];have:=List.length_pos_iff.2 hl;omega)]
   exact List.take_append_drop _ _
theorem ba_eq {s t:ByteArray}(h:s.data.toList=t.data.toList):s=t:=by
 cases s;cases t;congr;exact Array.toList_inj.1 h
def ats:Int→List Rn→List (Int×Int)
 |_,[]=>[]
 |p,c::cs=>(p,c.2)::ats (p+c.1.length) cs
def bd (n:Nat):Nat→List Rn→Nat
 |p,[]=>p
 |p,c::cs=>if p+c.1.length≤n then bd n (p+c.1.length) cs else p
end Go.Utf
end
section
set_option maxRecDepth 20000
set_option linter.unusedVariables false
set_option linter.unusedSimpArgs false
namespace Go.Proofs.YtbljnlkhebiniaaDoor
open Go.RowKit Go.Graph Go.Utf
theorem drop_ne {s:ByteArray}{p:Nat}(h:p<s.size):s.data.toList.drop p≠[]:=fun e=>by
 have:=congrArg List.length e
 rw[List.length_drop,size_list]at this
 simp only[List.length_nil]at this;omega
theorem drop_nil {s:ByteArray}{p:Nat}(h: ¬p<s.size):s.data.toList.drop p=[]:=List.drop_eq_nil_of_le (by rw[size_list];omega)
theorem ck_step {s:ByteArray}{n p:Nat}(h:p<s.size):ckF (n+1) (s.data.toList.drop p)=((s.data.toList.drop p).take (Utf8.decode s p).2,((Utf8.decode s p).1:Int))::ckF n (s.data.toList.drop (p+(Utf8.decode s p).2)):=by
 rw[ckF,if_neg (drop_ne h),Lib.decodeL_drop,List.drop_drop]
theorem ck_end {s:ByteArray}{n p:Nat}(h: ¬p<s.size):ckF n (s.data.toList.drop p)=[]:=by
 rw[drop_nil h]
 cases n with
 |zero=>rfl
 |succ n=>rw[ckF,if_pos rfl]
theorem cks_0 (s:ByteArray):cks s.data.toList=ckF s.size (s.data.toList.drop 0):=rfl
theorem dec_fits {s:ByteArray}{p:Nat}(h:p<s.size):1≤(Utf8.decode s p).2∧p+(Utf8.decode s p).2≤s.size:=by
 rw[←Lib.decodeL_drop]
 have h1:=Lib.decodeL_width (s.data.toList.drop p)
 have h2:=Lib.decodeL_le _ (drop_ne h)
 rw[List.length_drop,size_list]at h2
 omega
theorem runes_F (s:ByteArray)(hs:s.size≤1099511627776):F.fn_runes s=some ((cks s.data.toList).map (·.2)):=by
 have loop: ∀(n p f:Nat) (xs:List Int),s.size-p≤n→n<f→xs.length≤p→F.fn_runes_l1 s f p xs=some (xs++(ckF n (s.data.toList.drop p)).map (·.2)):=by
  intro n
  induction n with
  |zero=>
   intro p f xs hp hf _
   obtain⟨f,rfl⟩: ∃f',f=f'+1:=⟨f-1,by omega⟩
   rw[F.fn_runes_l1,if_neg (by omega),ck_end (by omega)];simp
  |succ n ih=>
   intro p f xs hp hf hx
   obtain⟨f,rfl⟩: ∃f',f=f'+1:=⟨f-1,by omega⟩
   by_cases h:p<s.size
   ·have hd:=dec_fits h
    rw[F.fn_runes_l1,if_pos h,A.gd1 (by simp only[List.length_cons,List.length_nil];omega),ih _ _ _ (by omega) (by omega) (by simp only[List.length_append,List.length_cons,List.length_nil];omega),ck_step h]
    simp
   ·rw[F.fn_runes_l1,if_neg h,ck_end h];simp
 have:=loop s.size 0 A.FU [] (by omega) (by have:=FU_big;omega) (by simp)
 rw[F.fn_runes,this,cks_0];simp
theorem iter_F (s:ByteArray):F.rec_Runes_1_it s=some (ats 0 (cks s.data.toList))∨9223372036854775807<s.size:=by
 by_cases hs:s.size≤9223372036854775807
 ·left
  have loop: ∀(n p f:Nat),s.size-p≤n→n<f→F.rec_Runes_1_it_l1 s f p=some (ats p (ckF n (s.data.toList.drop p))):=by
   intro n
   induction n with
   |zero=>
    intro p f hp hf
    obtain⟨f,rfl⟩: ∃f',f=f'+1:=⟨f-1,by omega⟩
    rw[F.rec_Runes_1_it_l1,if_neg (by omega),ck_end (by omega)];rfl
   |succ n ih=>
    intro p f hp hf
    obtain⟨f,rfl⟩: ∃f',f=f'+1:=⟨f-1,by omega⟩
    by_cases h:p<s.size
    ·have hd:=dec_fits h
     rw[F.rec_Runes_1_it_l1,if_pos h,ih _ _ (by omega) (by omega),ck_step h,ats]
     have e2:((s.data.toList.drop p).take (Utf8.decode s p).2).length=(Utf8.decode s p).2:=by
      rw[List.length_take,List.length_drop,size_list];omega
     rw[e2]
     simp[A.cns]
    ·rw[F.rec_Runes_1_it_l1,if_neg h,ck_end h];rfl
  exact loop s.size 0 A.FU (by omega) (by have:=FU_big;omega)
 ·right;omega
theorem ext_all (s:ByteArray):s.extract 0 s.size=s:=by
 refine ba_eq ?_
 rw[ByteArray.data_extract,Array.toList_extract]
 simp[List.extract_eq_take_drop]
 exact List.take_of_length_le (Nat.le_of_eq (size_list s))
theorem rcut_l (s:ByteArray)(n:Nat): ∀(cs:List Rn) (p e:Nat),p+(flat cs).length=s.size→e≤s.size→F.rec_Cut_l1 s n (ats p cs) e=some (s.extract 0 (if p≤n then bd n p cs else e))
 | [],p,e,hp,he=>by
  simp only[List.flatMap_nil,List.length_nil,Nat.add_zero]at hp
  subst hp
  rw[ats,F.rec_Cut_l1,bd]
  by_cases h:s.size≤n
  ·rw[if_pos (by omega),if_pos h,ext_all]
  ·rw[if_neg (by omega),if_neg h,A.gd1 ⟨by omega,by omega⟩,Int.toNat_natCast]
 |c::cs,p,e,hp,he=>by
  rw[flat_cons,List.length_append]at hp
  rw[ats,F.rec_Cut_l1,bd]
  by_cases h:p≤n
  ·rw[if_neg (by simp;omega),if_pos h]
   have e1:(p:Int)+(c.1.length:Int)=((p+c.1.length:Nat):Int):=by omega
   show F.rec_Cut_l1 s n (ats ((p:Int)+(c.1.length:Int)) cs) (p:Int)=_
   rw[e1]
   exact rcut_l s n cs (p+c.1.length) p (by omega) (by omega)
  ·rw[if_pos (by simp;omega),if_neg h,A.gd1 ⟨by omega,by omega⟩,Int.toNat_natCast]
theorem rec_Cut_eq (s:ByteArray)(n:Nat)(hs:s.size≤9223372036854775807):F.rec_Cut s n=some (s.extract 0 (bd n 0 (cks s.data.toList))):=by
 rw[F.rec_Cut,F.rec_Runes,Option.bind_some]
 rcases iter_F s with h|h
 ·rw[h,Option.bind_some]
  have hf:(flat (cks s.data.toList)).length=s.size:=by
   have:flat (cks s.data.toList)=s.data.toList:=flat_ckF _ _ (Nat.le_refl _)
   rw[this,size_list]
  have:=rcut_l s n (cks s.data.toList) 0 0 (by omega) (by omega)
  rw[if_pos (Nat.zero_le _)]at this
  exact this
 ·omega
end Go.Proofs.YtbljnlkhebiniaaDoor
end
section
set_option maxRecDepth 20000
set_option linter.unusedVariables false
set_option linter.unusedSimpArgs false
namespace Go.Proofs.YtbljnlkhebiniaaDoor
open Go.RowKit Go.Graph Go.Utf
abbrev Rec:=Int×ByteArray
def okT (s:ByteArray):Bool:=decide (s.size≤64)&&vld s s.size 0
theorem rec_Check_eq (r:Rec):F.rec_Check r=some (if okT r.2=true then 0 else 50):=by
 rw[F.rec_Check]
 unfold okT
 by_cases h:r.2.size≤64
 ·rw[if_neg (by omega),F.utf8_ValidString,validD_eq,Option.bind_some,F.rec_Check_j1,decide_eq_true h,Bool.true_and]
  cases vld r.2 r.2.size 0<;>rfl
 ·rw[if_pos (by omega),F.rec_Check_j1,if_pos rfl,decide_eq_false h];rfl
theorem R05_Check_eq (r:Rec):F.R05_Check r=some (if okT r.2=true then 0 else 50):=by
 rw[F.R05_Check]
 unfold okT
 by_cases h:r.2.size≤64
 ·rw[if_neg (by omega),Valid_eq _ (by omega),Option.bind_some,F.R05_Check_j1,decide_eq_true h,Bool.true_and]
  cases vld r.2 r.2.size 0<;>rfl
 ·rw[if_pos (by omega),F.R05_Check_j1,if_pos rfl,decide_eq_false h];rfl
theorem okT_iff {s:ByteArray}:okT s=true↔s.size≤64∧vld s s.size 0=true:=by unfold okT;simp
theorem cks_len (s:ByteArray):(cks s.data.toList).length≤s.size:=by
 have: ∀(n:Nat) (l:List UInt8),(ckF n l).length≤n:=by
  intro n
  induction n with
  |zero=>intro l;simp[ckF]
  |succ n ih=>intro l;unfold ckF;split<;>simp;exact ih _
 exact this _ _
end Go.Proofs.YtbljnlkhebiniaaDoor
end
section
set_option linter.unusedVariables false
set_option linter.unusedSimpArgs false
namespace Go.Ent
open Go.Utf
abbrev En:=Int×Int×ByteArray×Int
abbrev Ky:=Int×Int×ByteArray
abbrev key (e:En):Ky:=(e.1,e.2.1,e.2.2.1)
abbrev num (e:En):Int:=e.2.2.2
theorem bL_irr: ∀a:List UInt8,Op.bytesLess a a=false
 | []=>rfl
 |x::a=>by unfold Op.bytesLess;rw[bL_irr a];simp
theorem bL_tr: ∀{a b c:List UInt8},Op.bytesLess a b=true→Op.bytesLess b c=true→Op.bytesLess a c=true
 |_,_,[],_,h=>by cases h':(‹List UInt8›)<;>simp_all [Op.bytesLess]
 |_,[],_::_,h,_=>by simp_all [Op.bytesLess]
 | [],_::_,_::_,_,_=>rfl
 |x::a,y::b,z::c,h1,h2=>by
  unfold Op.bytesLess at h1 h2 ⊢
  simp only[Bool.or_eq_true,Bool.and_eq_true,decide_eq_true_eq,beq_iff_eq]at h1 h2 ⊢
  rcases h1 with h1|⟨rfl,h1⟩
  ·rcases h2 with h2|⟨rfl,h2⟩
   ·exact .inl (UInt8.lt_trans h1 h2)
   ·exact .inl h1
  ·rcases h2 with h2|⟨rfl,h2⟩
   ·exact .inl h2
   ·exact .inr ⟨rfl,bL_tr h1 h2⟩
theorem bL_tri: ∀{a b:List UInt8},Op.bytesLess a b=false→Op.bytesLess b a=false→a=b
 | [],[],_,_=>rfl
 | [],_::_,h,_=>by simp[Op.bytesLess]at h
 |_::_,[],_,h=>by simp[Op.bytesLess]at h
 |x::a,y::b,h1,h2=>by
  unfold Op.bytesLess at h1 h2
  simp only[Bool.or_eq_false_iff,decide_eq_false_iff_not,Bool.and_eq_false_iff]at h1 h2
  have e:x=y:=UInt8.le_antisymm (UInt8.not_lt.1 h2.1) (UInt8.not_lt.1 h1.1)
  subst e
  have h3:Op.bytesLess a b=false:=by rcases h1.2 with h|h;simp at h;exact h
  have h4:Op.bytesLess b a=false:=by rcases h2.2 with h|h;simp at h;exact h
  rw[bL_tri h3 h4]
def bl (s t:ByteArray):Bool:=Op.bytesLess s.toList t.toList
theorem bl_irr (s:ByteArray):bl s s=false:=bL_irr _
theorem bl_tr {s t u:ByteArray}(h1:bl s t=true)(h2:bl t u=true):bl s u=true:=bL_tr h1 h2
theorem bl_tri {s t:ByteArray}(h1:bl s t=false)(h2:bl t s=false):s=t:=by
 have:=bL_tri h1 h2
 rw[Lib.toList_data,Lib.toList_data]at this
 exact ba_eq this
def rl (a b:Int×ByteArray):Bool:=decide (a.1<b.1)||(decide (a.1=b.1)&&bl a.2 b.2)
theorem rl_irr (a:Int×ByteArray):rl a a=false:=by unfold rl;rw[bl_irr];simp
theorem rl_tr {a b c:Int×ByteArray}(h1:rl a b=true)(h2:rl b c=true):rl a c=true:=by
 unfold rl at h1 h2 ⊢
 simp only[Bool.or_eq_true,Bool.and_eq_true,decide_eq_true_eq]at h1 h2 ⊢
 rcases h1 with h1|⟨h1,h1'⟩
 ·rcases h2 with h2|⟨h2,h2'⟩
  ·left;omega
  ·left;omega
 ·rcases h2 with h2|⟨h2,h2'⟩
  ·left;omega
  ·exact .inr ⟨h1.trans h2,bl_tr h1' h2'⟩
theorem rl_tri {a b:Int×ByteArray}(h1:rl a b=false)(h2:rl b a=false):a=b:=by
 unfold rl at h1 h2
 simp only[Bool.or_eq_false_iff,decide_eq_false_iff_not,Bool.and_eq_false_iff]at h1 h2
 have e:a.1=b.1:=by omega
 have h3:bl a.2 b.2=false:=by rcases h1.2 with h|h;exact absurd e h;exact h
 have h4:bl b.2 a.2=false:=by rcases h2.2 with h|h;exact absurd e.symm h;exact h
 exact Prod.ext e (bl_tri h3 h4)
def kl (a b:Ky):Bool:=decide (a.1<b.1)||(decide (a.1=b.1)&&rl a.2 b.2)
theorem kl_irr (a:Ky):kl a a=false:=by unfold kl;rw[rl_irr];simp
theorem kl_ne {a b:Ky}(h:kl a b=true):a≠b:=fun e=>by subst e;rw[kl_irr]at h;cases h
abbrev Srt (l:List En):Prop:=l.Pairwise fun a b=>kl (key a) (key b)=true
def gv:List En→Ky→Int
 | [],_=>0
 |e::l,k=>if key e=k then num e else gv l k
theorem gv_none: ∀{l:List En} {k:Ky},(∀e,e∈l→key e≠k)→gv l k=0
 | [],_,_=>rfl
 |e::l,k,h=>by unfold gv;rw[if_neg (h e (List.mem_cons_self ..))];exact gv_none fun x hx=>h x (List.mem_cons_of_mem _ hx)
theorem gv_at {l:List En}{k:Ky}(h:gv l k≠0): ∃e,e∈l∧key e=k∧num e=gv l k:=by
 induction l with
 |nil=>exact absurd rfl h
 |cons x l ih=>
  unfold gv at h ⊢
  by_cases hx:key x=k
  ·rw[if_pos hx];exact⟨x,List.mem_cons_self ..,hx,rfl⟩
  ·rw[if_neg hx]at h ⊢
   obtain⟨e,h1,h2⟩:=ih h
   exact⟨e,List.mem_cons_of_mem _ h1,h2⟩
structure Nf (l:List En):Prop where
 srt:Srt l
 nz: ∀e,e∈l→num e≠0
def upd (x e:En)(one:Bool):En:=(x.1,x.2.1,x.2.2.1,if one=true then 1 else min (num x+num e) 1099511627776)
abbrev cap (one:Bool):Int:=if one=true then 1 else 1099511627776
structure Bd (one:Bool) (l:List En):Prop where
 srt:Srt l
 b: ∀e,e∈l→1≤num e∧num e≤cap one
theorem Bd.gv {one:Bool}{l:List En}(h:Bd one l)(k:Ky):0≤gv l k∧gv l k≤cap one:=by
 by_cases h0:Ent.gv l k=0
 ·rw[h0];cases one<;>decide
 ·obtain⟨e,h1,_,h2⟩:=gv_at h0
  have:=h.b e h1
  rw[h2]at this
  exact⟨by omega,this.2⟩
def cs (C:Int)(l:List En)(k:Ky):Int:=l.foldl (fun a e=>if key e=k then min C (a+num e)else a) 0
def sm:List En→Ky→Int
 | [],_=>0
 |e::l,k=>(if key e=k then num e else 0)+sm l k
theorem sm_nn {l:List En}(h: ∀e,e∈l→0≤num e)(k:Ky):0≤sm l k:=by
 induction l with
 |nil=>simp[sm]
 |cons x l ih=>
  have h1:=ih fun e he=>h e (List.mem_cons_of_mem _ he)
  have h2:=h x (List.mem_cons_self ..)
  unfold sm
  split<;>omega
theorem cs_sm {C:Int}(hC:0≤C): ∀(l:List En),(∀e,e∈l→0≤num e)→∀k,cs C l k=min C (sm l k):=by
 intro l h k
 have main: ∀(l:List En) (a:Int),(∀e,e∈l→0≤num e)→0≤a→a≤C→l.foldl (fun a e=>if key e=k then min C (a+num e)else a) a=min C (a+sm l k):=by
  intro l
  induction l with
  |nil=>intro a _ h1 h2;simp[sm];omega
  |cons x l ih=>
   intro a h h1 h2
   have hx:=h x (List.mem_cons_self ..)
   have hl:=sm_nn (fun e he=>h e (List.mem_cons_of_mem _ he)) k
   rw[List.foldl_cons,sm]
   split
   ·rw[ih _ (fun e he=>h e (List.mem_cons_of_mem _ he)) (by omega) (by omega)];omega
   ·rw[ih _ (fun e he=>h e (List.mem_cons_of_mem _ he)) h1 h2];omega
 have:=main l 0 h (Int.le_refl _) hC
 rw[Int.zero_add]at this
 exact this
theorem sm_gv: ∀{l:List En},Srt l→∀k,sm l k=gv l k
 | [],_,_=>rfl
 |x::l,h,k=>by
  obtain⟨h1,h2⟩:=List.pairwise_cons.1 h
  unfold sm gv
  by_cases hk:key x=k
  ·rw[if_pos hk,if_pos hk,sm_gv h2,gv_none (fun e he h3=>kl_ne (h1 e he) (hk.trans h3.symm))];omega
  ·rw[if_neg hk,if_neg hk,sm_gv h2];omega
theorem Bd.cs {one:Bool}{l:List En}(h:Bd one l)(k:Ky):cs (cap one) l k=Ent.gv l k:=by
 rw[cs_sm (by cases one<;>decide) l (fun e he=>by have:=(h.b e he).1;omega),sm_gv h.srt]
 have:=h.gv k
 omega
end Go.Ent
end
section
set_option linter.unusedVariables false
set_option linter.unusedSimpArgs false
namespace Go.Opr
open Go.Utf Go.Ent
abbrev Rc:=Int×ByteArray
abbrev Mn:=Rc×Int
abbrev kr (e:En):Rc:=(e.2.1,e.2.2.1)
theorem pw_ext {α:Type}{lt:α→α→Bool}(irr: ∀a,lt a a=false)(tr: ∀{a b c},lt a b=true→lt b c=true→lt a c=true): ∀{l m:List α},l.Pairwise (fun a b=>lt a b=true)→m.Pairwise (fun a b=>lt a b=true)→(∀x,x∈l↔x∈m)→l=m
 | [],[],_,_,_=>rfl
 | [],y::m,_,_,h=>absurd ((h y).2 (List.mem_cons_self ..)) (by simp)
 |x::l,[],_,_,h=>absurd ((h x).1 (List.mem_cons_self ..)) (by simp)
 |x::l,y::m,hl,hm,h=>by
  obtain⟨l1,l2⟩:=List.pairwise_cons.1 hl
  obtain⟨m1,m2⟩:=List.pairwise_cons.1 hm
  have e:x=y:=by
   rcases List.mem_cons.1 ((h x).1 (List.mem_cons_self ..))with e|h1
   ·exact e
   ·rcases List.mem_cons.1 ((h y).2 (List.mem_cons_self ..))with e|h2
    ·exact e.symm
    ·have:=tr (m1 x h1) (l1 y h2)
     rw[irr]at this;cases this
  subst e
  congr 1
  refine pw_ext irr tr l2 m2 fun z=>?_
  have nl:z∈l→z≠x:=fun hz e=>by subst e;have:=l1 z hz;rw[irr]at this;cases this
  have nm:z∈m→z≠x:=fun hz e=>by subst e;have:=m1 z hz;rw[irr]at this;cases this
  exact⟨fun hz=>((List.mem_cons.1 ((h z).1 (List.mem_cons_of_mem _ hz))).resolve_left (nl hz)),fun hz=>((List.mem_cons.1 ((h z).2 (List.mem_cons_of_mem _ hz))).resolve_left (nm hz))⟩
abbrev SK {α:Type} (k:α→Rc) (l:List α):Prop:=l.Pairwise fun a b=>rl (k a) (k b)=true
theorem sk_ext {α:Type}{k:α→Rc}{l m:List α}(hl:SK k l)(hm:SK k m)(h: ∀x,x∈l↔x∈m):l=m:=
 pw_ext (lt:=fun a b=>rl (k a) (k b)) (fun a=>rl_irr _) (fun h1 h2=>rl_tr h1 h2) hl hm h
theorem rl_asy {a b:Rc}(h:rl a b=true):rl b a=false:=by
 cases h2:rl b a with
 |false=>rfl
 |true=>have:=rl_tr h h2;rw[rl_irr]at this;cases this
theorem rl_ne {a b:Rc}(h:rl a b=true):a≠b:=fun e=>by subst e;rw[rl_irr]at h;cases h
theorem sk_inj {α:Type}{k:α→Rc}: ∀{l:List α},SK k l→∀{a b},a∈l→b∈l→k a=k b→a=b
 |x::l,h,a,b,ha,hb,e=>by
  obtain⟨h1,h2⟩:=List.pairwise_cons.1 h
  rcases List.mem_cons.1 ha with ea|ha2<;>rcases List.mem_cons.1 hb with eb|hb2
  ·rw[ea,eb]
  ·rw[ea]at e;exact absurd e (rl_ne (h1 b hb2))
  ·rw[eb]at e;exact absurd e.symm (rl_ne (h1 a ha2))
  ·exact sk_inj h2 ha2 hb2 e
def ins {α:Type}(k:α→Rc)(e:α):List α→List α
 | []=>[e]
 |x::l=>if k x=k e then e::l else if rl (k e) (k x)=true then e::x::l else x::ins k e l
theorem ins_mem {α:Type}{k:α→Rc}{e x:α}: ∀{l:List α},SK k l→(x∈ins k e l↔x=e∨(x∈l∧k x≠k e))
 | [],_=>by simp[ins]
 |y::l,h=>by
  obtain⟨h1,h2⟩:=List.pairwise_cons.1 h
  unfold ins
  by_cases hk:k y=k e
  ·rw[if_pos hk]
   simp only[List.mem_cons]
   constructor
   ·rintro(rfl|hx)
    ·exact .inl rfl
    ·exact .inr ⟨.inr hx,fun e2=>rl_ne (h1 x hx) (hk.trans e2.symm)⟩
   ·rintro(rfl|⟨rfl|hx,hn⟩)
    ·exact .inl rfl
    ·exact absurd hk hn
    ·exact .inr hx
  ·rw[if_neg hk]
   by_cases hlt:rl (k e) (k y)=true
   ·rw[if_pos hlt]
    simp only[List.mem_cons]
    constructor
    ·rintro(rfl|rfl|hx)
     ·exact .inl rfl
     ·exact .inr ⟨.inl rfl,hk⟩
     ·exact .inr ⟨.inr hx,fun e2=>rl_ne (rl_tr hlt (h1 x hx)) e2.symm⟩
    ·rintro(rfl|⟨rfl|hx,hn⟩)
     ·exact .inl rfl
     ·exact .inr (.inl rfl)
     ·exact .inr (.inr hx)
   ·rw[if_neg hlt,List.mem_cons,ins_mem h2,List.mem_cons]
    constructor
    ·rintro(rfl|rfl|⟨hx,hn⟩)
     ·exact .inr ⟨.inl rfl,hk⟩
     ·exact .inl rfl
     ·exact .inr ⟨.inr hx,hn⟩
    ·rintro(rfl|⟨rfl|hx,hn⟩)
     ·exact .inr (.inl rfl)
     ·exact .inl rfl
     ·exact .inr (.inr ⟨hx,hn⟩)
theorem ins_sk {α:Type}{k:α→Rc}{e:α}: ∀{l:List α},SK k l→SK k (ins k e l)
 | [],_=>List.pairwise_singleton ..
 |y::l,h=>by
  obtain⟨h1,h2⟩:=List.pairwise_cons.1 h
  unfold ins
  by_cases hk:k y=k e
  ·rw[if_pos hk]
   exact List.pairwise_cons.2 ⟨fun b hb=>hk▸h1 b hb,h2⟩
  ·rw[if_neg hk]
   by_cases hlt:rl (k e) (k y)=true
   ·rw[if_pos hlt]
    exact List.pairwise_cons.2 ⟨fun b hb=>(List.mem_cons.1 hb).elim (fun e=>e▸hlt) fun hb=>rl_tr hlt (h1 b hb),h⟩
   ·rw[if_neg hlt]
    refine List.pairwise_cons.2 ⟨fun b hb=>?_,ins_sk h2⟩
    rcases(ins_mem h2).1 hb with rfl|⟨hb,_⟩
    ·cases hye:rl (k y) (k b)with
     |true=>rfl
     |false=>exact absurd (rl_tri hye (by simpa using hlt)) hk
    ·exact h1 b hb
def sc (l:List Rc):List Rc:=l.foldl (fun a r=>ins id r a) []
theorem sc_ok (l:List Rc):SK id (sc l)∧∀r,r∈sc l↔r∈l:=by
 have main: ∀(l a:List Rc),SK id a→SK id (l.foldl (fun a r=>ins id r a) a)∧∀r,r∈l.foldl (fun a r=>ins id r a) a↔r∈a∨r∈l:=by
  intro l
  induction l with
  |nil=>intro a h;exact⟨h,fun r=>by simp⟩
  |cons x l ih=>
   intro a h
   obtain⟨i1,i2⟩:=ih (ins id x a) (ins_sk h)
   refine⟨i1,fun r=>(i2 r).trans ?_⟩
   rw[ins_mem h,List.mem_cons]
   constructor
   ·rintro((rfl|⟨h1,_⟩)|h1)
    ·exact .inr (.inl rfl)
    ·exact .inl h1
    ·exact .inr (.inr h1)
   ·rintro(h1|rfl|h1)
    ·by_cases e:r=x
     ·exact .inl (.inl e)
     ·exact .inl (.inr ⟨h1,e⟩)
    ·exact .inl (.inl rfl)
    ·exact .inr h1
 obtain⟨h1,h2⟩:=main l [] List.Pairwise.nil
 exact⟨h1,fun r=>(h2 r).trans (by simp)⟩
def grp:List Mn→List (Int×List Mn)
 | []=>[]
 |m::l=>match grp l with
  | []=>[(m.1.1,[m])]
  |(k,g)::r=>if m.1.1=k then(k,m::g)::r else(m.1.1,[m])::(k,g)::r
theorem grp_cons (m:Mn)(l:List Mn):grp (m::l)=match grp l with
  | []=>[(m.1.1,[m])]
  |(k,g)::r=>if m.1.1=k then(k,m::g)::r else(m.1.1,[m])::(k,g)::r:=rfl
theorem grp_head: ∀(l:List Mn),(l=[]∧grp l=[])∨∃m t g r,l=m::t∧grp l=(m.1.1,m::g)::r
 | []=>.inl ⟨rfl,rfl⟩
 |m::l=>by
  right
  rw[grp_cons]
  rcases grp_head l with⟨rfl,h⟩|⟨m',t,g,r,rfl,h⟩
  ·rw[h];exact⟨m,_,_,_,rfl,rfl⟩
  ·rw[h]
   by_cases e:m.1.1=m'.1.1
   ·simp only[if_pos e];exact⟨m,_,_,_,rfl,by rw[e]⟩
   ·simp only[if_neg e];exact⟨m,_,_,_,rfl,rfl⟩
theorem grp_flat: ∀(l:List Mn),(grp l).flatMap (·.2)=l
 | []=>rfl
 |m::l=>by
  have ih:=grp_flat l
  rw[grp_cons]
  rcases grp_head l with⟨rfl,h⟩|⟨m',t,g,r,rfl,h⟩
  ·rw[h];rfl
  ·rw[h]at ih ⊢
   by_cases e:m.1.1=m'.1.1
   ·simp only[if_pos e]
    rw[List.flatMap_cons]at ih ⊢
    rw[←ih];rfl
   ·simp only[if_neg e]
    rw[List.flatMap_cons,ih];rfl
theorem grp_all: ∀{l:List Mn} {kg:Int×List Mn},kg∈grp l→kg.2≠[]∧∀m,m∈kg.2→m.1.1=kg.1
 | [],_,h=>by cases h
 |m::l,kg,h=>by
  have ih:=fun kg=> @grp_all l kg
  rw[grp_cons]at h
  rcases grp_head l with⟨rfl,hh⟩|⟨m',t,g,r,rfl,hh⟩
  ·rw[hh]at h
   obtain rfl:=List.mem_singleton.1 h
   exact⟨by simp,fun x hx=>by obtain rfl:=List.mem_singleton.1 hx;rfl⟩
  ·rw[hh]at h ih
   by_cases e:m.1.1=m'.1.1
   ·simp only[if_pos e]at h
    rcases List.mem_cons.1 h with rfl|h
    ·exact⟨by simp,fun x hx=>(List.mem_cons.1 hx).elim (fun e2=>e2▸e) fun hx=>(ih _ (List.mem_cons_self ..)).2 x hx⟩
    ·exact ih kg (List.mem_cons_of_mem _ h)
   ·simp only[if_neg e]at h
    rcases List.mem_cons.1 h with rfl|h
    ·exact⟨by simp,fun x hx=>by obtain rfl:=List.mem_singleton.1 hx;rfl⟩
    ·exact ih kg h
theorem grp_sub {l:List Mn}{kg:Int×List Mn}(h:kg∈grp l): ∀m,m∈kg.2→m∈l:=fun m hm=>by
 rw[←grp_flat l];exact List.mem_flatMap.2 ⟨kg,h,hm⟩
abbrev KL (l:List Mn):Prop:=l.Pairwise fun a b=>a.1.1≤b.1.1
theorem rl_le {a b:Rc}(h:rl a b=true):a.1≤b.1:=by
 unfold rl at h
 simp only[Bool.or_eq_true,Bool.and_eq_true,decide_eq_true_eq]at h
 omega
theorem KL.of {l:List Mn}(h:SK (fun m:Mn=>m.1) l):KL l:=h.imp fun h=>rl_le h
theorem grp_asc: ∀{l:List Mn},KL l→(grp l).Pairwise fun a b=>a.1<b.1
 | [],_=>List.Pairwise.nil
 |m::l,h=>by
  obtain⟨h1,h2⟩:=List.pairwise_cons.1 h
  have ih:=grp_asc h2
  rw[grp_cons]
  rcases grp_head l with⟨rfl,hh⟩|⟨m',t,g,r,rfl,hh⟩
  ·rw[hh];exact List.pairwise_singleton ..
  ·rw[hh]at ih ⊢
   by_cases e:m.1.1=m'.1.1
   ·simp only[if_pos e]
    exact List.pairwise_cons.2 ⟨(List.pairwise_cons.1 ih).1,(List.pairwise_cons.1 ih).2⟩
   ·simp only[if_neg e]
    have hm:=h1 m' (List.mem_cons_self ..)
    refine List.pairwise_cons.2 ⟨fun b hb=>?_,ih⟩
    rcases List.mem_cons.1 hb with rfl|hb
    ·show m.1.1<m'.1.1;omega
    ·have:=(List.pairwise_cons.1 ih).1 b hb
     show m.1.1<b.1;have:m'.1.1<b.1:=this;omega
theorem grp_filter (p:Int→Bool): ∀{l:List Mn},KL l→grp (l.filter fun m=>p m.1.1)=(grp l).filter fun kg=>p kg.1
 | [],_=>rfl
 |m::l,h=>by
  obtain⟨h1,h2⟩:=List.pairwise_cons.1 h
  have ih:=grp_filter p h2
  have asc:=grp_asc h2
  rw[grp_cons]
  rcases grp_head l with⟨rfl,hh⟩|⟨m',t,g,r,rfl,hh⟩
  ·rw[hh]
   by_cases hp:p m.1.1=true
   ·rw[List.filter_cons_of_pos (by exact hp)];simp only[];rw[List.filter_cons_of_pos (by exact hp)];rfl
   ·rw[List.filter_cons_of_neg (by exact hp)];simp only[];rw[List.filter_cons_of_neg (by exact hp)];rfl
  ·rw[hh]at ih asc ⊢
   have hm:=h1 m' (List.mem_cons_self ..)
   by_cases e:m.1.1=m'.1.1
   ·simp only[if_pos e]
    by_cases hp:p m.1.1=true
    ·have hp':p m'.1.1=true:=e▸hp
     rw[List.filter_cons_of_pos (by exact hp),grp_cons,ih,List.filter_cons_of_pos (by exact hp'),List.filter_cons_of_pos (by exact hp')]
     simp only[if_pos e]
    ·have hp': ¬p m'.1.1=true:=e▸hp
     rw[List.filter_cons_of_neg (by exact hp),ih,List.filter_cons_of_neg (by exact hp'),List.filter_cons_of_neg (by exact hp')]
   ·simp only[if_neg e]
    by_cases hp:p m.1.1=true
    ·have ep:((m.1.1,[m])::(m'.1.1,m'::g)::r).filter (fun kg=>p kg.1)=(m.1.1,[m])::((m'.1.1,m'::g)::r).filter (fun kg=>p kg.1):=List.filter_cons_of_pos (by exact hp)
     rw[List.filter_cons_of_pos (by exact hp),grp_cons,ih,ep]
     cases hf:(((m'.1.1,m'::g)::r).filter fun kg=>p kg.1)with
     |nil=>rfl
     |cons kg rr=>
      have hin:kg∈(m'.1.1,m'::g)::r:=(List.mem_filter.1 (hf▸List.mem_cons_self ..)).1
      have hlt:m.1.1<kg.1:=by
       rcases List.mem_cons.1 hin with rfl|hin
       ·show m.1.1<m'.1.1;omega
       ·have:m'.1.1<kg.1:=(List.pairwise_cons.1 asc).1 kg hin
        omega
      simp only[if_neg (show ¬m.1.1=kg.1 by omega)]
    ·have ep:((m.1.1,[m])::(m'.1.1,m'::g)::r).filter (fun kg=>p kg.1)=((m'.1.1,m'::g)::r).filter (fun kg=>p kg.1):=List.filter_cons_of_neg (by exact hp)
     rw[List.filter_cons_of_neg (by exact hp),ih,ep]
abbrev oth (b:List Mn) (k:Int):List Mn:=b.filter fun m=>decide (m.1.1=k)
theorem grp_oth: ∀{l:List Mn},KL l→∀{kg},kg∈grp l→kg.2=oth l kg.1:=fun {l} h kg hk=>by
 have:=grp_filter (fun k=>decide (k=kg.1)) h
 have h2:(grp l).filter (fun x=>decide (x.1=kg.1))=[kg]:=by
  have asc:=grp_asc h
  have main: ∀{gs:List (Int×List Mn)},gs.Pairwise (fun a b=>a.1<b.1)→kg∈gs→gs.filter (fun x=>decide (x.1=kg.1))=[kg]:=by
   intro gs
   induction gs with
   |nil=>intro _ h;cases h
   |cons x gs ih=>
    intro hp hm
    obtain⟨p1,p2⟩:=List.pairwise_cons.1 hp
    rcases List.mem_cons.1 hm with rfl|hm
    ·rw[List.filter_cons_of_pos (by simp)]
     congr 1
     rw[List.filter_eq_nil_iff]
     intro y hy
     have:=p1 y hy
     simp only[decide_eq_true_eq];omega
    ·have:=p1 kg hm
     rw[List.filter_cons_of_neg (by simp only[decide_eq_true_eq];omega)]
     exact ih p2 hm
  exact main asc hk
 rw[h2]at this
 have h3:=grp_flat (oth l kg.1)
 rw[this]at h3
 simpa using h3
end Go.Opr
end
section
set_option linter.unusedVariables false
set_option linter.unusedSimpArgs false
namespace Go.Opr
open Go.Utf Go.Ent
abbrev Fn:=Int×Int×ByteArray
def cut (s:ByteArray):ByteArray:=s.extract 0 (bd 64 0 (cks s.data.toList))
def rns (s:ByteArray):Int:=((cks s.data.toList).length:Int)
def dg:Nat→Nat→List UInt8
 |0,_=>[]
 |f+1,n=>if n / 10=0 then [UInt8.ofNat (48+n%10)]else dg f (n / 10)++[UInt8.ofNat (48+n%10)]
def dec (n:Int):ByteArray:=⟨(dg 20 n.toNat).toArray⟩
def cntM (g:List Mn):Int:=g.foldl (fun v m=>v+m.2) 0
def aheadP (kind:Int)(a b:ByteArray):Bool:=if kind=31 then bl a b else if kind=32 then !(bl a b||decide (a=b))else decide (rns b<rns a)||(decide (rns a=rns b)&&bl a b)
def redT (kind:Int)(x:ByteArray)(g:List Mn):ByteArray:=g.foldl (fun x m=>if kind=34 then x++m.1.2 else if aheadP kind m.1.2 x=true then m.1.2 else x) x
def red (kind:Int):List Mn→Rc
 | []=>(0,ByteArray.mk #[])
 |m::l=>(m.1.1,cut (redT kind m.1.2 l))
def joinsG (k:Int)(g h:List Mn):List Rc:=g.flatMap fun p=>h.map fun q=>(k,cut ((p.1.2++ByteArray.mk #[43])++q.1.2))
def outG (kind:Int)(f:Fn)(b:List Mn)(kg:Int×List Mn):List Rc:=if kind=7 then [(kg.1,dec (cntM kg.2))]else if kind=8 then [red f.1 kg.2]else joinsG kg.1 kg.2 (oth b kg.1)
def vE:List En→Rc→Int
 | [],_=>0
 |e::l,r=>if kr e=r then num e else vE l r
def meas (f:Fn)(r:Rc):Int:=if f.1=41 then 1 else rns r.2
def tot (f:Fn)(v:Int)(g:List Mn):Int:=g.foldl (fun v m=>min (v+meas f m.1*m.2) 1099511627776) v
abbrev nil8:ByteArray:=ByteArray.mk #[]
def totS (f:Fn)(id:Int)(s:List Rc×List En)(kg:Int×List Mn):List Rc×List En:=
 (s.1++[(kg.1,dec (tot f (vE s.2 (kg.1,nil8)) kg.2))],ins kr (id,kg.1,nil8,tot f (vE s.2 (kg.1,nil8)) kg.2) s.2)
def frS (id:Int)(s:List Rc×List En)(m:Mn):List Rc×List En:=
 if vE s.2 m.1=0 then(s.1++[m.1],ins kr (id,m.1.1,m.1.2,1) s.2)else s
def raw (kind:Int)(f:Fn)(id:Int)(a b:List Mn)(st:List En):List Rc×List En:=
 if kind=7∨kind=8∨kind=9 then((grp a).flatMap (outG kind f b),st)else if kind=11 then(grp a).foldl (totS f id) ([],st)else a.foldl (frS id) ([],st)
def tellP (kind:Int)(f:Fn)(id:Int)(a b:List Mn)(st:List En):List Rc×List En:=(sc (raw kind f id a b st).1,if kind=10 then []else(raw kind f id a b st).2)
theorem vE_none {l:List En}{r:Rc}(h: ∀e,e∈l→kr e≠r):vE l r=0:=by
 induction l with
 |nil=>rfl
 |cons x l ih=>unfold vE;rw[if_neg (h x (List.mem_cons_self ..)),ih fun e he=>h e (List.mem_cons_of_mem _ he)]
theorem vE_mem: ∀{l:List En} {e:En},SK kr l→e∈l→vE l (kr e)=num e
 |x::l,e,h,he=>by
  obtain⟨h1,h2⟩:=List.pairwise_cons.1 h
  unfold vE
  rcases List.mem_cons.1 he with rfl|he
  ·rw[if_pos rfl]
  ·rw[if_neg (rl_ne (h1 e he)),vE_mem h2 he]
theorem vE_ins {e:En}{r:Rc}: ∀{l:List En},SK kr l→vE (ins kr e l) r=if kr e=r then num e else vE l r
 | [],_=>rfl
 |x::l,h=>by
  obtain⟨h1,h2⟩:=List.pairwise_cons.1 h
  unfold ins
  by_cases hk:kr x=kr e
  ·rw[if_pos hk]
   unfold vE
   by_cases hr:kr e=r
   ·rw[if_pos hr,if_pos hr]
   ·rw[if_neg hr,if_neg hr,if_neg (fun h=>hr (hk▸h))]
  ·rw[if_neg hk]
   by_cases hlt:rl (kr e) (kr x)=true
   ·rw[if_pos hlt];rfl
   ·rw[if_neg hlt]
    unfold vE
    rw[vE_ins h2]
    by_cases hx:kr x=r
    ·rw[if_pos hx,if_pos hx,if_neg (fun h=>hk (hx.trans h.symm))]
    ·rw[if_neg hx,if_neg hx]
end Go.Opr
end
section
set_option maxRecDepth 20000
set_option linter.unusedVariables false
set_option linter.unusedSimpArgs false
namespace Go.Proofs.YtbljnlkhebiniaaDoor
open Go.RowKit Go.Graph Go.Utf Go.Ent
def cI (a b:Int):Int:=if a<b then-1 else if b<a then 1 else 0
theorem cmp64_eq (a b:Int):F.cmp_Compare_int64 a b=some (cI a b):=by
 rw[F.cmp_Compare_int64]
 simp only[F.cmp_isNaN_int64,Option.bind_some,ne_eq,not_true,decide_false,Bool.false_eq_true,if_false]
 unfold cI
 by_cases h1:a<b
 ·rw[if_pos h1,if_pos h1]
 ·rw[if_neg h1,if_neg h1]
  by_cases h2:b<a
  ·rw[if_pos h2,if_pos h2]
  ·rw[if_neg h2,if_neg h2]
def cS (a b:ByteArray):Int:=if bl a b=true then-1 else if a=b then 0 else 1
theorem tl_eq {a b:ByteArray}:(a.toList==b.toList)=decide (a=b):=by
 rw[Lib.toList_data,Lib.toList_data]
 by_cases h:a=b
 ·subst h;simp
 ·rw[decide_eq_false h]
  exact beq_eq_false_iff_ne.2 fun e=>h (ba_eq e)
theorem cB_eq: ∀a b:List UInt8,Lib.compareBytes a b=if Op.bytesLess a b=true then-1 else if a=b then 0 else 1
 | [],[]=>rfl
 | [],_::_=>rfl
 |_::_,[]=>by simp[Lib.compareBytes,Op.bytesLess]
 |x::a,y::b=>by
  unfold Lib.compareBytes Op.bytesLess
  by_cases h1:x<y
  ·simp[h1]
  ·by_cases h2:y<x
   ·have hne:x≠y:=fun e=>by subst e;exact h1 h2
    simp[h1,h2,hne]
   ·have e:x=y:=UInt8.le_antisymm (UInt8.not_lt.1 h2) (UInt8.not_lt.1 h1)
    subst e
    rw[if_neg h1,if_neg h1,cB_eq a b]
    simp[h1]
theorem scmp_eq (a b:ByteArray):F.strings_Compare a b=some (cS a b):=by
 rw[F.strings_Compare,cB_eq]
 unfold cS bl
 rw[Lib.toList_data,Lib.toList_data]
 by_cases h:a=b
 ·subst h;simp
 ·have:a.data.toList≠b.data.toList:=fun e=>h (ba_eq e)
  simp[h,this]
theorem or_eq (l:List Int)(hl:l.length≤100):F.cmp_Or_int l=some ((l.find? fun x=>decide (x≠0)).getD 0):=
 A.lp0 l (fun f y=>F.cmp_Or_int_l1 l f y) (fun _ r=>some ((r.find? fun x=>decide (x≠0)).getD 0))
  (fun f=>by rw[F.cmp_Or_int_l1,if_neg (by omega)];rfl)
  (fun f k x hx hk ih=>by
   rw[F.cmp_Or_int_l1,if_pos (by omega),A.ixn hx,Option.bind_some,List.find?_cons]
   by_cases h:x=0
   ·rw[if_neg (fun h2=>h2 h),A.gd1 ⟨by omega,by omega⟩,ih,decide_eq_false (fun h2=>h2 h)]
   ·rw[if_pos h,decide_eq_true h];rfl)
  (by have:=FU_big;omega)
theorem or2 (a b:Int):F.cmp_Or_int [a,b]=some (if a≠0 then a else b):=by
 rw[or_eq _ (by simp)]
 by_cases h:a=0
 ·subst h
  by_cases h2:b=0
  ·subst h2;rfl
  ·simp[h2]
 ·simp[h]
abbrev rec (e:En):Int×ByteArray:=(e.2.1,e.2.2.1)
theorem cS_cases (a b:ByteArray):(bl a b=true∧cS a b= -1)∨(a=b∧bl a b=false∧cS a b=0)∨(a≠b∧bl a b=false∧bl b a=true∧cS a b=1):=by
 unfold cS
 cases h:bl a b with
 |true=>exact .inl ⟨rfl,by simp⟩
 |false=>
  by_cases h2:a=b
  ·exact .inr (.inl ⟨h2,rfl,by simp[h2]⟩)
  ·refine .inr (.inr ⟨h2,rfl,?_,by simp[h2]⟩)
   cases h3:bl b a with
   |true=>rfl
   |false=>exact absurd (bl_tri h h3) h2
theorem cI_cases (a b:Int):(a<b∧cI a b= -1)∨(a=b∧cI a b=0)∨(b<a∧cI a b=1):=by
 unfold cI
 by_cases h:a<b
 ·exact .inl ⟨h,if_pos h⟩
 ·by_cases h2:b<a
  ·exact .inr (.inr ⟨h2,by rw[if_neg h,if_pos h2]⟩)
  ·exact .inr (.inl ⟨by omega,by rw[if_neg h,if_neg h2]⟩)
def cR (a b:Int×ByteArray):Int:=if cI a.1 b.1≠0 then cI a.1 b.1 else cS a.2 b.2
theorem cR_lt (a b:Int×ByteArray):decide (cR a b<0)=rl a b:=by
 unfold cR rl
 rcases cI_cases a.1 b.1 with⟨h,e⟩|⟨h,e⟩|⟨h,e⟩
 ·rw[e];simp[h]
 ·rw[e,h]
  simp only[ne_eq,not_true,if_false,Int.lt_irrefl,decide_false,Bool.false_or,decide_true,Bool.true_and]
  rcases cS_cases a.2 b.2 with⟨h2,e2⟩|⟨h2,h3,e2⟩|⟨h2,h3,h4,e2⟩
  ·rw[e2,h2];rfl
  ·rw[e2,h3];rfl
  ·rw[e2,h3];rfl
 ·rw[e]
  have h1: ¬a.1<b.1:=by omega
  have h2: ¬a.1=b.1:=by omega
  simp[h1,h2]
theorem ahead_eq (a b:En):F.oper_ahead a b=some (rl (rec a) (rec b)):=by
 rw[F.oper_ahead,cmp64_eq,Option.bind_some,scmp_eq,Option.bind_some,or2,Option.bind_some]
 exact congrArg some (cR_lt (rec a) (rec b))
theorem R05_Compare_eq (a b:Int×ByteArray):F.R05_Compare a b=some (cR a b):=by
 rw[F.R05_Compare]
 unfold cR
 rcases cI_cases a.1 b.1 with⟨h,e⟩|⟨h,e⟩|⟨h,e⟩
 ·rw[if_pos h,e];rfl
 ·rw[if_neg (by omega),if_neg (by omega),e]
  simp only[tl_eq]
  unfold cS bl
  by_cases h1:Op.bytesLess a.2.toList b.2.toList=true
  ·rw[if_pos h1,if_pos h1];rfl
  ·rw[if_neg h1,if_neg h1]
   rw[Bool.not_eq_true]at h1
   rw[h1]
   by_cases h2:a.2=b.2
   ·simp[h2]
   ·simp[h2]
 ·rw[if_neg (by omega),if_pos h,e];rfl
def entOk (n:Nd)(x:En):Bool:=
 if x.1≠n.1 then false else if n.2.1=11 then decide (x.2.2.1=ByteArray.mk #[])&&decide (0≤x.2.2.2)&&decide (x.2.2.2≤1099511627776)else if n.2.1=16 then decide (x.2.2.2=1)&&okT x.2.2.1 else false
def stF (n:Nd):Option En→List En→Bool
 |_,[]=>true
 |none,e::l=>entOk n e&&stF n (some e) l
 |some p,e::l=>entOk n e&&rl (rec p) (rec e)&&stF n (some e) l
def stP (n:Nd)(l:List En):Bool:=stF n none l
theorem entry_eq (n:Nd)(x:En):F.oper_entry n x=some (entOk n x):=by
 rw[F.oper_entry]
 unfold entOk
 by_cases h0:x.1=n.1
 ·have h0': ¬(x.1≠n.1):=fun h=>h h0
  rw[if_neg h0',if_neg h0']
  by_cases h1:n.2.1=11
  ·rw[if_pos h1,if_pos h1]
   congr 1
   by_cases a1:x.2.2.1=ByteArray.mk #[]<;>by_cases a2:(0:Int)≤x.2.2.2<;>by_cases a3:x.2.2.2≤1099511627776<;>simp[a1,a2,a3]
  ·rw[if_neg h1,if_neg h1]
   by_cases h2:n.2.1=16
   ·rw[if_pos h2,if_pos h2]
    by_cases h3:x.2.2.2=1
    ·rw[if_pos h3]
     show(F.rec_Check (rec x)).bind _=_
     rw[rec_Check_eq,Option.bind_some,F.oper_entry_j1,decide_eq_true h3,Bool.true_and]
     show some (decide ((if okT x.2.2.1=true then(0:Int)else 50)=0))=_
     cases okT x.2.2.1<;>rfl
    ·rw[if_neg h3,F.oper_entry_j1,decide_eq_false h3];rfl
   ·rw[if_neg h2,if_neg h2]
 ·rw[if_pos h0,if_pos h0]
abbrev prv (l:List En) (k:Nat):Option En:=if k=0 then none else l[k-1]?
theorem prv_s (l:List En)(k:Nat){x:En}(h:l[k]?=some x):prv l (k+1)=some x:=by unfold prv;rw[if_neg (by omega)];exact h
theorem CheckState_eq (n:Nd)(l:List En)(hl:l.length≤9223372036854775807):F.oper_CheckState n l=some (if stP n l=true then 0 else 171):=
 A.lp0 l (fun f y=>F.oper_CheckState_l2 n l f y) (fun k r=>some (if stF n (prv l k) r=true then 0 else 171))
  (fun f=>by
   rw[F.oper_CheckState_l2,if_neg (by omega)]
   cases prv l l.length<;>rfl)
  (fun f k x hx hk ih=>by
   rw[F.oper_CheckState_l2,if_pos (by omega),A.ixn hx,Option.bind_some]
   show(F.oper_entry n x).bind _=_
   rw[prv_s l k hx]at ih
   have nx: ∀b:Bool,F.oper_CheckState_j1 (F.oper_CheckState_l2 n l f) (k:Int) b=some (if(!b&&stF n (some x) (l.drop (k+1)))=true then 0 else 171):=fun b=>by
    rw[F.oper_CheckState_j1]
    cases b with
    |true=>rw[if_pos rfl];rfl
    |false=>rw[if_neg (by simp),A.gd1 ⟨by omega,by omega⟩,ih];rfl
   rw[entry_eq,Option.bind_some]
   by_cases hk0:k=0
   ·subst hk0
    show _=some (if(entOk n x&&stF n (some x) (l.drop (0+1)))=true then 0 else 171)
    cases he:entOk n x with
    |false=>rw[Bool.not_false,if_pos rfl,nx];rfl
    |true=>rw[Bool.not_true,if_neg (by simp),if_neg (by omega),nx];rfl
   ·have hp:prv l k=l[k-1]?:=by unfold prv;rw[if_neg hk0]
    obtain⟨p,hpp⟩: ∃p,l[k-1]?=some p:=⟨_,List.getElem?_eq_getElem (by omega)⟩
    rw[hp,hpp]
    show _=some (if(entOk n x&&rl (rec p) (rec x)&&stF n (some x) (l.drop (k+1)))=true then 0 else 171)
    cases he:entOk n x with
    |false=>rw[Bool.not_false,if_pos rfl,nx];rfl
    |true=>
     rw[Bool.not_true,if_neg (by simp),if_pos (by omega),A.gd1 ⟨by omega,by omega⟩,show(k:Int)-1=((k-1:Nat):Int) by omega,A.ixn hpp,Option.bind_some]
     show(F.oper_ahead p x).bind _=_
     rw[ahead_eq,Option.bind_some,nx,Bool.not_not,Bool.true_and])
  (by have:=FU_big;omega)
theorem stF_all {n:Nd}: ∀{p:Option En} {l:List En},stF n p l=true→∀e,e∈l→entOk n e=true
 |_,[],_,e,h=>by cases h
 |none,x::l,h,e,he=>by
  unfold stF at h
  rw[Bool.and_eq_true]at h
  exact(List.mem_cons.1 he).elim (fun e=>e▸h.1) (stF_all h.2 e)
 |some p,x::l,h,e,he=>by
  unfold stF at h
  rw[Bool.and_eq_true,Bool.and_eq_true]at h
  exact(List.mem_cons.1 he).elim (fun e=>e▸h.1.1) (stF_all h.2 e)
theorem stF_pw {n:Nd}: ∀{p:En} {l:List En},stF n (some p) l=true→(p::l).Pairwise fun a b=>rl (rec a) (rec b)=true
 |p,[],_=>by simp
 |p,x::l,h=>by
  unfold stF at h
  rw[Bool.and_eq_true,Bool.and_eq_true]at h
  have ih:=stF_pw h.2
  exact List.pairwise_cons.2 ⟨fun y hy=>(List.mem_cons.1 hy).elim (fun e=>e▸h.1.2) fun hy=>rl_tr h.1.2 ((List.pairwise_cons.1 ih).1 y hy),ih⟩
theorem stP_iff {n:Nd}{l:List En}:stP n l=true↔(∀e,e∈l→entOk n e=true)∧l.Pairwise fun a b=>rl (rec a) (rec b)=true:=by
 constructor
 ·intro h
  refine⟨stF_all h,?_⟩
  cases l with
  |nil=>exact List.Pairwise.nil
  |cons x l=>
   unfold stP stF at h
   rw[Bool.and_eq_true]at h
   exact stF_pw h.2
 ·rintro⟨h1,h2⟩
  have main: ∀(l:List En) (p:En),(∀e,e∈l→entOk n e=true)→(p::l).Pairwise (fun a b=>rl (rec a) (rec b)=true)→stF n (some p) l=true:=by
   intro l
   induction l with
   |nil=>intro p _ _;rfl
   |cons x l ih=>
    intro p h1 h2
    unfold stF
    rw[h1 x (List.mem_cons_self ..),(List.pairwise_cons.1 h2).1 x (List.mem_cons_self ..),ih x (fun e he=>h1 e (List.mem_cons_of_mem _ he)) (List.pairwise_cons.1 h2).2];rfl
  cases l with
  |nil=>rfl
  |cons x l=>
   unfold stP stF
   rw[h1 x (List.mem_cons_self ..),main l x (fun e he=>h1 e (List.mem_cons_of_mem _ he)) h2];rfl
end Go.Proofs.YtbljnlkhebiniaaDoor
end
