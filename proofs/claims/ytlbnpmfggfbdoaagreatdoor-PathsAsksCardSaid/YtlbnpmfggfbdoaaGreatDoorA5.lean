/- Functions on data, and that the code computes them. * A layer over the small logic, continued: in a long open region what is known is told anew. No program in sight. * A layer over the small logic, continued: where a law's walk begins. No program in sight. * Plain law of graphs: what the reference and the program say of graphs, as functions on data (no program in sight). * Plain: rounds by a count of steps are recursion over a list. * Plain: the reference's summaries: which may be, one behind the other, and what they make of a time. No walk of the program in sight. * Plain: the first thing that passes a test; those that do not, in place. * Plain: the program's summaries and times are the reference's. * Plain: what is asked of tables: program and reference. * Plain: the end of a table (its entries in order), and the closed test. * A small logic over the model's walk, continued: arguments of a row, opened: what a reader treads reads as a datum. No program in sight. -/
import Derived.Test.YtlbnpmfggfbdoaaGreatDoorA0
import Derived.Test.YtlbnpmfggfbdoaaGreatDoorA1
import Derived.Test.YtlbnpmfggfbdoaaGreatDoorA2
import Derived.Test.YtlbnpmfggfbdoaaGreatDoorA3
import Derived.Test.YtlbnpmfggfbdoaaGreatDoorA4
import Derived.OpenShut
import Derived.ShutString
import Derived.ChangeOld
import Derived.ChangeArms
import Derived.DataReads
section
set_option linter.unusedVariables false
set_option linter.unusedSimpArgs false
set_option maxRecDepth 20000
set_option maxHeartbeats 8000000
set_option synthInstance.maxSize 1000000
set_option synthInstance.maxHeartbeats 400000
namespace Go.Proofs.YtlbnpmfggfbdoaaGreatDoor
open Go.RowKit
def F.R02_Apply_j1 (k1:Int→Int→Int→Int→Int→Int→Int→Option (D62×Int))(y12:Int)(y14:Int)(y24:Int)(y27:Int)(y29:Int)(y31:Int)(y33:Int):Option (D62×Int):=A.gd (Z.R64 (y24+1)) (k1 y12 y14 y27 y29 y31 y33 (y24+1))
def F.R02_Apply_l2 (a0:D44)(a1:D62):Nat→Int→Int→Int→Int→Int→Int→Int→Option (D62×Int)
 |0,_,_,_,_,_,_,_=>none
 |f+1,y12,y14,y16,y18,y20,y22,y24=>if y24<4 then(A.gd (Z.R64 (a0.2.1-1)) (if y24<a0.2.1-1 then((A.ix [a1.2.2.1,a1.2.2.2.1,a1.2.2.2.2.1,a1.2.2.2.2.2] y24).bind fun x37=>((A.ix [y16,y18,y20,y22] y24).bind fun x39=>(F.R02_Apply_j1 (F.R02_Apply_l2 a0 a1 f) y12 y14 y24 (if y24=0 then x37 else y16) (if y24=1 then x37 else y18) (if y24=2 then x37 else y20) (if y24=3 then x37 else y22))))else(A.gd (Z.R64 (a0.2.1-1)) (if y24=a0.2.1-1 then((A.ix [a1.2.2.1,a1.2.2.2.1,a1.2.2.2.2.1,a1.2.2.2.2.2] y24).bind fun x42=>(A.gd (Z.R64 (x42+a0.2.2.1)) ((A.ix [y16,y18,y20,y22] y24).bind fun x45=>(F.R02_Apply_j1 (F.R02_Apply_l2 a0 a1 f) y12 y14 y24 (if y24=0 then x42+a0.2.2.1 else y16) (if y24=1 then x42+a0.2.2.1 else y18) (if y24=2 then x42+a0.2.2.1 else y20) (if y24=3 then x42+a0.2.2.1 else y22)))))else(A.gd (Z.R64 (a0.2.1+a0.2.2.2.1)) (if y24<a0.2.1+a0.2.2.2.1 then(A.gd (Z.R64 (y24-a0.2.1)) ((A.ix [a0.2.2.2.2.1,a0.2.2.2.2.2.1,a0.2.2.2.2.2.2.1,a0.2.2.2.2.2.2.2] (y24-a0.2.1)).bind fun x49=>((A.ix [y16,y18,y20,y22] y24).bind fun x51=>(F.R02_Apply_j1 (F.R02_Apply_l2 a0 a1 f) y12 y14 y24 (if y24=0 then x49 else y16) (if y24=1 then x49 else y18) (if y24=2 then x49 else y20) (if y24=3 then x49 else y22)))))else((A.ix [y16,y18,y20,y22] y24).bind fun x53=>(F.R02_Apply_j1 (F.R02_Apply_l2 a0 a1 f) y12 y14 y24 (if y24=0 then 0 else y16) (if y24=1 then 0 else y18) (if y24=2 then 0 else y20) (if y24=3 then 0 else y22)))))))))else((F.R01_Check (y12,y14,(y16,y18,y20,y22))).bind fun r55=>(if r55≠0 then(some ((0,0,(0,0,0,0)),12))else(some ((y12,y14,(y16,y18,y20,y22)),0))))
def F.R02_Apply (a0:D44)(a1:D62):Option (D62×Int):=(F.R02_Check (a0.1,a0.2.1,a0.2.2.1,a0.2.2.2.1,(a0.2.2.2.2.1,a0.2.2.2.2.2.1,a0.2.2.2.2.2.2.1,a0.2.2.2.2.2.2.2))).bind fun r4=>(if r4≠0 then(some ((0,0,(0,0,0,0)),r4))else((F.R01_Check (a1.1,a1.2.1,(a1.2.2.1,a1.2.2.2.1,a1.2.2.2.2.1,a1.2.2.2.2.2))).bind fun r7=>(if r7≠0 then(some ((0,0,(0,0,0,0)),r7))else(if a1.2.1≠a0.1 then(some ((0,0,(0,0,0,0)),11))else(A.gd (Z.R64 (a0.2.1+a0.2.2.2.1)) (F.R02_Apply_l2 a0 a1 A.FU a1.1 (a0.2.1+a0.2.2.2.1) 0 0 0 0 0))))))
theorem R02_Apply_ok (a0:D44)(a1:D62)(h0_:IntKind.i64.has a0.1)(h1_:IntKind.i64.has a0.2.1)(h2_:IntKind.i64.has a0.2.2.1)(h3_:IntKind.i64.has a0.2.2.2.1)(h4_:IntKind.i64.has a0.2.2.2.2.1)(h5_:IntKind.i64.has a0.2.2.2.2.2.1)(h6_:IntKind.i64.has a0.2.2.2.2.2.2.1)(h7_:IntKind.i64.has a0.2.2.2.2.2.2.2)(h8_:IntKind.i64.has a1.1)(h9_:IntKind.i64.has a1.2.1)(h10_:IntKind.i64.has a1.2.2.1)(h11_:IntKind.i64.has a1.2.2.2.1)(h12_:IntKind.i64.has a1.2.2.2.2.1)(h13_:IntKind.i64.has a1.2.2.2.2.2)(r:D62×Int)(hF:F.R02_Apply a0 a1=some r):
    A.Ct Tryz.prog 26 [.agg #[.int .i64 a0.1,.int .i64 a0.2.1,.int .i64 a0.2.2.1,.int .i64 a0.2.2.2.1,.int .i64 a0.2.2.2.2.1,.int .i64 a0.2.2.2.2.2.1,.int .i64 a0.2.2.2.2.2.2.1,.int .i64 a0.2.2.2.2.2.2.2],.agg #[.int .i64 a1.1,.int .i64 a1.2.1,.int .i64 a1.2.2.1,.int .i64 a1.2.2.2.1,.int .i64 a1.2.2.2.2.1,.int .i64 a1.2.2.2.2.2]] [] [] (fun v H'=>v=.tuple #[.agg #[.int .i64 r.1.1,.int .i64 r.1.2.1,.int .i64 r.1.2.2.1,.int .i64 r.1.2.2.2.1,.int .i64 r.1.2.2.2.2.1,.int .i64 r.1.2.2.2.2.2],.int .i64 r.2]∧H'=[]∧IntKind.i64.has r.1.1∧IntKind.i64.has r.1.2.1∧IntKind.i64.has r.1.2.2.1∧IntKind.i64.has r.1.2.2.2.1∧IntKind.i64.has r.1.2.2.2.2.1∧IntKind.i64.has r.1.2.2.2.2.2∧IntKind.i64.has r.2):=by
 refine A.Ct.enter Tryz.func26 rfl Tryz.ntmps26 rfl fun w0 F0=>?_
 rw[F.R02_Apply]at hF
 refine A.xl 1 ?_
 refine A.AL.box 0 (cs:=[.int .i64 a0.1,.int .i64 a0.2.1,.int .i64 a0.2.2.1,.int .i64 a0.2.2.2.1,.int .i64 a0.2.2.2.2.1,.int .i64 a0.2.2.2.2.2.1,.int .i64 a0.2.2.2.2.2.2.1,.int .i64 a0.2.2.2.2.2.2.2]) fun g1=>?_
 refine A.AL.box 1 (cs:=[.int .i64 a1.1,.int .i64 a1.2.1,.int .i64 a1.2.2.1,.int .i64 a1.2.2.2.1,.int .i64 a1.2.2.2.2.1,.int .i64 a1.2.2.2.2.2]) fun g2=>?_
 refine A.AL.alloc 2 (cs:=[.int .i64 0,.int .i64 0,.int .i64 0,.int .i64 0,.int .i64 0,.int .i64 0]) Tryz.zeroValue63 fun g3=>?_
 refine A.q0 [] [] [.n] [] ?_
 refine A.dl 3 ?_
 refine A.q0 [0] [] [.b 0 0] [(10,.agg #[.int .i64 a0.1,.int .i64 a0.2.1,.int .i64 a0.2.2.1,.int .i64 a0.2.2.2.1,.int .i64 a0.2.2.2.2.1,.int .i64 a0.2.2.2.2.2.1,.int .i64 a0.2.2.2.2.2.2.1,.int .i64 a0.2.2.2.2.2.2.2])] ?_
 obtain⟨r4,hv5,hF⟩:=A.bd_some hF
 refine A.AL.call 3 [] (first:=[]) (cap:=[]) cf54 (R02_Check_ok (a0.1,a0.2.1,a0.2.2.1,a0.2.2.2.1,(a0.2.2.2.2.1,a0.2.2.2.2.2.1,a0.2.2.2.2.2.2.1,a0.2.2.2.2.2.2.2)) h0_ h1_ h2_ h3_ h4_ h5_ h6_ h7_ r4 hv5) .nil ?_
 rintro _ _ ⟨rfl,rfl,hr6⟩
 refine⟨by kernel_rfl,?_⟩
 refine A.q0 [] [] [.n] [(6,.int .i64 r4)] ?_
 refine A.dl 2 ?_
 refine A.q0 [] [] [.n,.n] [(13,.bool (decide (r4≠0)))] ?_
 refine A.dx 1 ?_
 refine A.AX.cnd rfl hF (fun hb hF=>?_) (fun hb hF=>?_)
 ·refine A.xl 1 ?_
  refine A.q0 [] [] [.n,.n] [(14,.agg #[.int .i64 0,.int .i64 0,.int .i64 0,.int .i64 0,.int .i64 0,.int .i64 0]),(15,.int .i64 r4)] ?_
  refine A.sw 2 [] [.int .i64 0,.int .i64 0,.int .i64 0,.int .i64 0,.int .i64 0,.int .i64 0] ?_
  refine A.q0 [] [] [.n] [(5,.int .i64 r4)] ?_
  refine A.dx 1 ?_
  obtain rfl:=Option.some.inj hF
  exact A.AX.ret [] (.tuple #[.agg #[.int .i64 0,.int .i64 0,.int .i64 0,.int .i64 0,.int .i64 0,.int .i64 0],.int .i64 r4]) (fun a w hf hh=>Z.resv2 rfl (Z.rv_n hf rfl Tryz.isAgg63 Tryz.sizeOf63 (A.Hp.blk hh 2) rfl) (Z.rv_t hf rfl)) (⟨rfl,rfl,(A.hasl .i64 (0) rfl),(A.hasl .i64 (0) rfl),(A.hasl .i64 (0) rfl),(A.hasl .i64 (0) rfl),(A.hasl .i64 (0) rfl),(A.hasl .i64 (0) rfl),hr6⟩)
 refine A.xl 4 ?_
 refine A.q0 [1] [] [.b 0 0] [(16,.agg #[.int .i64 a1.1,.int .i64 a1.2.1,.int .i64 a1.2.2.1,.int .i64 a1.2.2.2.1,.int .i64 a1.2.2.2.2.1,.int .i64 a1.2.2.2.2.2])] ?_
 obtain⟨r7,hv8,hF⟩:=A.bd_some hF
 refine A.AL.call 43 [] (first:=[]) (cap:=[]) cf63 (R01_Check_ok (a1.1,a1.2.1,(a1.2.2.1,a1.2.2.2.1,a1.2.2.2.2.1,a1.2.2.2.2.2)) h8_ h9_ h10_ h11_ h12_ h13_ r7 hv8) .nil ?_
 rintro _ _ ⟨rfl,rfl,hr9⟩
 refine⟨by kernel_rfl,?_⟩
 refine A.q0 [] [] [.n] [(7,.int .i64 r7)] ?_
 refine A.dl 2 ?_
 refine A.q0 [] [] [.n,.n] [(19,.bool (decide (r7≠0)))] ?_
 refine A.dx 1 ?_
 refine A.AX.cnd rfl hF (fun hb hF=>?_) (fun hb hF=>?_)
 ·refine A.xl 1 ?_
  refine A.q0 [] [] [.n,.n] [(20,.agg #[.int .i64 0,.int .i64 0,.int .i64 0,.int .i64 0,.int .i64 0,.int .i64 0]),(21,.int .i64 r7)] ?_
  refine A.sw 2 [] [.int .i64 0,.int .i64 0,.int .i64 0,.int .i64 0,.int .i64 0,.int .i64 0] ?_
  refine A.q0 [] [] [.n] [(5,.int .i64 r7)] ?_
  refine A.dx 1 ?_
  obtain rfl:=Option.some.inj hF
  exact A.AX.ret [] (.tuple #[.agg #[.int .i64 0,.int .i64 0,.int .i64 0,.int .i64 0,.int .i64 0,.int .i64 0],.int .i64 r7]) (fun a w hf hh=>Z.resv2 rfl (Z.rv_n hf rfl Tryz.isAgg63 Tryz.sizeOf63 (A.Hp.blk hh 2) rfl) (Z.rv_t hf rfl)) (⟨rfl,rfl,(A.hasl .i64 (0) rfl),(A.hasl .i64 (0) rfl),(A.hasl .i64 (0) rfl),(A.hasl .i64 (0) rfl),(A.hasl .i64 (0) rfl),(A.hasl .i64 (0) rfl),hr9⟩)
 refine A.xl 4 ?_
 refine A.q0 [1,0] [] [.n,.b 0 1,.n,.b 1 0,.n] [(26,.bool (decide (a1.2.1≠a0.1)))] ?_
 refine A.dx 1 ?_
 refine A.AX.cnd rfl hF (fun hb hF=>?_) (fun hb hF=>?_)
 ·refine A.xl 1 ?_
  refine A.q0 [] [] [.n] [(27,.agg #[.int .i64 0,.int .i64 0,.int .i64 0,.int .i64 0,.int .i64 0,.int .i64 0])] ?_
  refine A.sw 2 [] [.int .i64 0,.int .i64 0,.int .i64 0,.int .i64 0,.int .i64 0,.int .i64 0] ?_
  refine A.q0 [] [] [.n] [(5,.int .i64 11)] ?_
  refine A.dx 1 ?_
  obtain rfl:=Option.some.inj hF
  exact A.AX.ret [] (.tuple #[.agg #[.int .i64 0,.int .i64 0,.int .i64 0,.int .i64 0,.int .i64 0,.int .i64 0],.int .i64 11]) (fun a w hf hh=>Z.resv2 rfl (Z.rv_n hf rfl Tryz.isAgg63 Tryz.sizeOf63 (A.Hp.blk hh 2) rfl) (Z.rv_t hf rfl)) (⟨rfl,rfl,(A.hasl .i64 (0) rfl),(A.hasl .i64 (0) rfl),(A.hasl .i64 (0) rfl),(A.hasl .i64 (0) rfl),(A.hasl .i64 (0) rfl),(A.hasl .i64 (0) rfl),(A.hasl .i64 (11) rfl)⟩)
 refine A.xl 3 ?_
 obtain⟨hc10,hF⟩:=A.gd_some hF
 refine A.q [1,0] [] [.n,.b 0 0,.n,.b 1 1,.n,.b 1 3,.n,.n] [Z.R64 (a0.2.1+a0.2.2.2.1)] [(35,.agg #[.int .i64 a1.1,.int .i64 (a0.2.1+a0.2.2.2.1),.int .i64 0,.int .i64 0,.int .i64 0,.int .i64 0])] hc10 ?_
 refine A.AL.alloc 83 (cs:=[.int .i64 0,.int .i64 0,.int .i64 0,.int .i64 0,.int .i64 0,.int .i64 0]) Tryz.zeroValue63 fun g11=>?_
 refine A.sw 83 [] [.int .i64 a1.1,.int .i64 (a0.2.1+a0.2.2.2.1),.int .i64 0,.int .i64 0,.int .i64 0,.int .i64 0] ?_
 refine A.dl 3 ?_
 refine A.q0 [] [] [.n] [(9,.int .i64 0)] ?_
 refine A.dx 2 ?_
 refine A.lp_ [2,3,4,8] [0,1,2] (fun f nl nh=>∃(y12:Int),∃(y14:Int),∃(y16:Int),∃(y18:Int),∃(y20:Int),∃(y22:Int),∃(y24:Int),nl=[(9,.int .i64 y24)]∧nh=[(83,.blk g11 63 [.int .i64 y12,.int .i64 y14,.int .i64 y16,.int .i64 y18,.int .i64 y20,.int .i64 y22])]∧IntKind.i64.has y12∧IntKind.i64.has y14∧IntKind.i64.has y16∧IntKind.i64.has y18∧IntKind.i64.has y20∧IntKind.i64.has y22∧IntKind.i64.has y24∧F.R02_Apply_l2 a0 a1 f y12 y14 y16 y18 y20 y22 y24=some r) ⟨a1.1,(a0.2.1+a0.2.2.2.1),0,0,0,0,0,rfl,rfl,h8_,(Z.i64_has hc10),(A.hasl .i64 (0) rfl),(A.hasl .i64 (0) rfl),(A.hasl .i64 (0) rfl),(A.hasl .i64 (0) rfl),(A.hasl .i64 (0) rfl),hF⟩ ?_
 rintro f26 _ _ ⟨y12,y14,y16,y18,y20,y22,y24,rfl,rfl,hy13,hy15,hy17,hy19,hy21,hy23,hy25,hF⟩
 rcases f26 with _|f26
 ·exact A.no0 hF
 rw[F.R02_Apply_l2]at hF
 refine A.xl 2 ?_
 refine A.q0 [] [] [.n,.n] [(37,.bool (decide (y24<4)))] ?_
 refine A.dx 1 ?_
 refine A.AX.cnd rfl hF (fun hb hF=>?_) (fun hb hF=>?_)
 ·refine A.xx 2 ?_
  refine A.AX.join [2,3,4,8,9] [0,1,2] (fun nl nh=>∃(y27:Int),∃(y29:Int),∃(y31:Int),∃(y33:Int),nl=[]∧nh=[(83,.blk g11 63 [.int .i64 y12,.int .i64 y14,.int .i64 y27,.int .i64 y29,.int .i64 y31,.int .i64 y33])]∧IntKind.i64.has y27∧IntKind.i64.has y29∧IntKind.i64.has y31∧IntKind.i64.has y33∧F.R02_Apply_j1 (F.R02_Apply_l2 a0 a1 f26) y12 y14 y24 y27 y29 y31 y33=some r) ?_ ?_
  ·refine A.xl 3 ?_
   obtain⟨hc36,hF⟩:=A.gd_some hF
   refine A.q [0] [] [.n,.n,.b 0 1,.n,.n,.n] [Z.R64 (a0.2.1-1)] [(43,.bool (decide (y24<a0.2.1-1)))] hc36 ?_
   refine A.dx 1 ?_
   refine A.AX.cnd rfl hF (fun hb hF=>?_) (fun hb hF=>?_)
   ·refine A.xl 0 ?_
    refine A.q0 [] [] [.n,.n,.n] [(49,.int .i64 y24),(50,.int .i64 y24),(51,.pointer (some ⟨g2,2,none⟩))] ?_
    obtain⟨x37,hv38,hF⟩:=A.bd_some hF
    refine A.AL.ixb 1 172 (fun v:Int=>.int .i64 v) [a1.2.2.1,a1.2.2.2.1,a1.2.2.2.2.1,a1.2.2.2.2.2] hv38 ?_
    refine A.q0 [] [172] [.e 0 0,.n] [(53,.int .i64 x37),(54,.pointer (some ⟨g11,2,none⟩))] ?_
    obtain⟨x39,hv40,hF⟩:=A.bd_some hF
    refine A.AL.ixb 83 173 (fun v:Int=>.int .i64 v) [y16,y18,y20,y22] hv40 ?_
    refine A.AL.stb 83 [173] hv40 (A.arr4 (Q:=fun i=>[.int .i64 y12,.int .i64 y14,.int .i64 (if i=0 then x37 else y16),.int .i64 (if i=1 then x37 else y18),.int .i64 (if i=2 then x37 else y20),.int .i64 (if i=3 then x37 else y22)]=List.set [.int .i64 y12,.int .i64 y14,.int .i64 y16,.int .i64 y18,.int .i64 y20,.int .i64 y22] (2+i.toNat*1) (.int .i64 x37)) hv40 rfl rfl rfl rfl) ?_
    refine A.de 2 ?_
    exact A.j ⟨(if y24=0 then x37 else y16),(if y24=1 then x37 else y18),(if y24=2 then x37 else y20),(if y24=3 then x37 else y22),rfl,rfl,(A.ite_has (A.has_ix hv38 (List.forall_mem_cons.2 ⟨h10_,(List.forall_mem_cons.2 ⟨h11_,(List.forall_mem_cons.2 ⟨h12_,(List.forall_mem_cons.2 ⟨h13_,(by simp)⟩)⟩)⟩)⟩)) hy17),(A.ite_has (A.has_ix hv38 (List.forall_mem_cons.2 ⟨h10_,(List.forall_mem_cons.2 ⟨h11_,(List.forall_mem_cons.2 ⟨h12_,(List.forall_mem_cons.2 ⟨h13_,(by simp)⟩)⟩)⟩)⟩)) hy19),(A.ite_has (A.has_ix hv38 (List.forall_mem_cons.2 ⟨h10_,(List.forall_mem_cons.2 ⟨h11_,(List.forall_mem_cons.2 ⟨h12_,(List.forall_mem_cons.2 ⟨h13_,(by simp)⟩)⟩)⟩)⟩)) hy21),(A.ite_has (A.has_ix hv38 (List.forall_mem_cons.2 ⟨h10_,(List.forall_mem_cons.2 ⟨h11_,(List.forall_mem_cons.2 ⟨h12_,(List.forall_mem_cons.2 ⟨h13_,(by simp)⟩)⟩)⟩)⟩)) hy23),hF⟩
   refine A.xl 1 ?_
   obtain⟨hc41,hF⟩:=A.gd_some hF
   refine A.q [0] [] [.n,.n,.b 0 1,.n,.n,.n] [Z.R64 (a0.2.1-1)] [(56,.bool (decide (y24=a0.2.1-1)))] hc41 ?_
   refine A.dx 1 ?_
   refine A.AX.cnd rfl hF (fun hb hF=>?_) (fun hb hF=>?_)
   ·refine A.AX.dr mixed 10 11 (A.mb 11 0) ?_
    refine A.hq A.pb [] [0,1,2,83] [0] [] (A.mb 11 359) 5 [(0,.n),(1,.n),(2,.n),(5,.n),(8,.n),(6,.b 0 2)] [(62,.int .i64 y24),(63,.int .i64 y24),(64,.pointer (some ⟨g2,2,none⟩)),(70,.pointer (some ⟨g11,2,none⟩)),(68,.int .i64 a0.2.2.1)] ?_
    obtain⟨x42,hv43,hF⟩:=A.bd_some hF
    refine A.pkb 1 174 (fun v:Int=>.int .i64 v) [a1.2.2.1,a1.2.2.2.1,a1.2.2.2.2.1,a1.2.2.2.2.2] 2 hv43 ?_
    refine A.AH.v A.pb [0,1,2,83] [0,1,2,83,174] 3 (A.mb 11 367) rfl (fun a w hf hh=>A.r_indexArr Tryz.underlying43 Tryz.sizeOf2 (hf.eval rfl) (hf.eval rfl) (A.ix_ok hv43).1 (A.ix_ok hv43).2) ?_
    obtain⟨hc44,hF⟩:=A.gd_some hF
    refine A.AH.q A.pb [0,1,2,83,174] [0,1,2,83,174] [] [174] (A.mb 11 511) 2 [(4,.e 0 0),(7,.n)] [69] [Z.R64 (x42+a0.2.2.1)] [(69,.int .i64 (x42+a0.2.2.1))] hc44 ?_
    obtain⟨x45,hv46,hF⟩:=A.bd_some hF
    refine A.pkb 83 175 (fun v:Int=>.int .i64 v) [y16,y18,y20,y22] 2 hv46 ?_
    refine A.AH.v A.pb [0,1,2,83,174] [0,1,2,83,174,175] 9 (A.mb 11 1023) rfl (fun a w hf hh=>A.r_indexArr Tryz.underlying43 Tryz.sizeOf2 (hf.eval rfl) (hf.eval rfl) (A.ix_ok hv46).1 (A.ix_ok hv46).2) ?_
    refine A.AH.one 10 ?_
    refine A.AL.stb 83 [175] hv46 (A.arr4 (Q:=fun i=>[.int .i64 y12,.int .i64 y14,.int .i64 (if i=0 then x42+a0.2.2.1 else y16),.int .i64 (if i=1 then x42+a0.2.2.1 else y18),.int .i64 (if i=2 then x42+a0.2.2.1 else y20),.int .i64 (if i=3 then x42+a0.2.2.1 else y22)]=List.set [.int .i64 y12,.int .i64 y14,.int .i64 y16,.int .i64 y18,.int .i64 y20,.int .i64 y22] (2+i.toNat*1) (.int .i64 (x42+a0.2.2.1))) hv46 rfl rfl rfl rfl) ?_
    refine A.AH.nm (A.mb 11 2047) ?_
    refine A.AH.done ?_
    refine A.ee 2 ?_
    exact A.j ⟨(if y24=0 then x42+a0.2.2.1 else y16),(if y24=1 then x42+a0.2.2.1 else y18),(if y24=2 then x42+a0.2.2.1 else y20),(if y24=3 then x42+a0.2.2.1 else y22),rfl,rfl,(A.ite_has (Z.i64_has hc44) hy17),(A.ite_has (Z.i64_has hc44) hy19),(A.ite_has (Z.i64_has hc44) hy21),(A.ite_has (Z.i64_has hc44) hy23),hF⟩
   refine A.xl 1 ?_
   obtain⟨hc47,hF⟩:=A.gd_some hF
   refine A.q [0] [] [.n,.n,.b 0 1,.n,.b 0 3,.n,.n,.n] [Z.R64 (a0.2.1+a0.2.2.2.1)] [(72,.bool (decide (y24<a0.2.1+a0.2.2.2.1)))] hc47 ?_
   refine A.dx 1 ?_
   refine A.AX.cnd rfl hF (fun hb hF=>?_) (fun hb hF=>?_)
   ·refine A.xl 0 ?_
    obtain⟨hc48,hF⟩:=A.gd_some hF
    refine A.q [0] [] [.n,.n,.n,.b 0 1,.n,.n] [Z.R64 (y24-a0.2.1)] [(80,.int .i64 y24),(84,.int .i64 (y24-a0.2.1)),(85,.pointer (some ⟨g1,4,none⟩))] hc48 ?_
    obtain⟨x49,hv50,hF⟩:=A.bd_some hF
    refine A.AL.ixb 0 176 (fun v:Int=>.int .i64 v) [a0.2.2.2.2.1,a0.2.2.2.2.2.1,a0.2.2.2.2.2.2.1,a0.2.2.2.2.2.2.2] hv50 ?_
    refine A.q0 [] [176] [.e 0 0,.n] [(87,.int .i64 x49),(88,.pointer (some ⟨g11,2,none⟩))] ?_
    obtain⟨x51,hv52,hF⟩:=A.bd_some hF
    refine A.AL.ixb 83 177 (fun v:Int=>.int .i64 v) [y16,y18,y20,y22] hv52 ?_
    refine A.AL.stb 83 [177] hv52 (A.arr4 (Q:=fun i=>[.int .i64 y12,.int .i64 y14,.int .i64 (if i=0 then x49 else y16),.int .i64 (if i=1 then x49 else y18),.int .i64 (if i=2 then x49 else y20),.int .i64 (if i=3 then x49 else y22)]=List.set [.int .i64 y12,.int .i64 y14,.int .i64 y16,.int .i64 y18,.int .i64 y20,.int .i64 y22] (2+i.toNat*1) (.int .i64 x49)) hv52 rfl rfl rfl rfl) ?_
    refine A.de 2 ?_
    exact A.j ⟨(if y24=0 then x49 else y16),(if y24=1 then x49 else y18),(if y24=2 then x49 else y20),(if y24=3 then x49 else y22),rfl,rfl,(A.ite_has (A.has_ix hv50 (List.forall_mem_cons.2 ⟨h4_,(List.forall_mem_cons.2 ⟨h5_,(List.forall_mem_cons.2 ⟨h6_,(List.forall_mem_cons.2 ⟨h7_,(by simp)⟩)⟩)⟩)⟩)) hy17),(A.ite_has (A.has_ix hv50 (List.forall_mem_cons.2 ⟨h4_,(List.forall_mem_cons.2 ⟨h5_,(List.forall_mem_cons.2 ⟨h6_,(List.forall_mem_cons.2 ⟨h7_,(by simp)⟩)⟩)⟩)⟩)) hy19),(A.ite_has (A.has_ix hv50 (List.forall_mem_cons.2 ⟨h4_,(List.forall_mem_cons.2 ⟨h5_,(List.forall_mem_cons.2 ⟨h6_,(List.forall_mem_cons.2 ⟨h7_,(by simp)⟩)⟩)⟩)⟩)) hy21),(A.ite_has (A.has_ix hv50 (List.forall_mem_cons.2 ⟨h4_,(List.forall_mem_cons.2 ⟨h5_,(List.forall_mem_cons.2 ⟨h6_,(List.forall_mem_cons.2 ⟨h7_,(by simp)⟩)⟩)⟩)⟩)) hy23),hF⟩
   refine A.xl 0 ?_
   refine A.q0 [] [] [.n,.n] [(40,.int .i64 y24),(41,.pointer (some ⟨g11,2,none⟩))] ?_
   obtain⟨x53,hv54,hF⟩:=A.bd_some hF
   refine A.AL.ixb 83 178 (fun v:Int=>.int .i64 v) [y16,y18,y20,y22] hv54 ?_
   refine A.AL.stb 83 [178] hv54 (A.arr4 (Q:=fun i=>[.int .i64 y12,.int .i64 y14,.int .i64 (if i=0 then 0 else y16),.int .i64 (if i=1 then 0 else y18),.int .i64 (if i=2 then 0 else y20),.int .i64 (if i=3 then 0 else y22)]=List.set [.int .i64 y12,.int .i64 y14,.int .i64 y16,.int .i64 y18,.int .i64 y20,.int .i64 y22] (2+i.toNat*1) (.int .i64 0)) hv54 rfl rfl rfl rfl) ?_
   refine A.de 2 ?_
   exact A.j ⟨(if y24=0 then 0 else y16),(if y24=1 then 0 else y18),(if y24=2 then 0 else y20),(if y24=3 then 0 else y22),rfl,rfl,(A.ite_has (A.hasl .i64 (0) rfl) hy17),(A.ite_has (A.hasl .i64 (0) rfl) hy19),(A.ite_has (A.hasl .i64 (0) rfl) hy21),(A.ite_has (A.hasl .i64 (0) rfl) hy23),hF⟩
  rintro _ _ ⟨y27,y29,y31,y33,rfl,rfl,hy28,hy30,hy32,hy34,hF⟩
  rw[F.R02_Apply_j1]at hF
  refine A.xl 0 ?_
  obtain⟨hc35,hF⟩:=A.gd_some hF
  refine A.q [] [] [.n,.n,.n] [Z.R64 (y24+1)] [(9,.int .i64 (y24+1))] hc35 ?_
  refine A.AL.done ?_
  exact A.j ⟨_,Nat.lt_succ_self _,⟨y12,y14,y27,y29,y31,y33,(y24+1),rfl,rfl,hy13,hy15,hy28,hy30,hy32,hy34,(Z.i64_has hc35),hF⟩⟩
 refine A.xl 4 ?_
 refine A.q0 [83] [] [.b 0 0] [(90,.agg #[.int .i64 y12,.int .i64 y14,.int .i64 y16,.int .i64 y18,.int .i64 y20,.int .i64 y22])] ?_
 obtain⟨r55,hv56,hF⟩:=A.bd_some hF
 refine A.AL.call 179 [] (first:=[]) (cap:=[]) cf63 (R01_Check_ok (y12,y14,(y16,y18,y20,y22)) hy13 hy15 hy17 hy19 hy21 hy23 r55 hv56) .nil ?_
 rintro _ _ ⟨rfl,rfl,hr57⟩
 refine⟨by kernel_rfl,?_⟩
 refine A.q0 [] [] [.n] [(92,.bool (decide (r55≠0)))] ?_
 refine A.dx 1 ?_
 refine A.AX.cnd rfl hF (fun hb hF=>?_) (fun hb hF=>?_)
 ·refine A.xl 1 ?_
  refine A.q0 [] [] [.n] [(93,.agg #[.int .i64 0,.int .i64 0,.int .i64 0,.int .i64 0,.int .i64 0,.int .i64 0])] ?_
  refine A.sw 2 [] [.int .i64 0,.int .i64 0,.int .i64 0,.int .i64 0,.int .i64 0,.int .i64 0] ?_
  refine A.q0 [] [] [.n] [(5,.int .i64 12)] ?_
  refine A.dx 1 ?_
  obtain rfl:=Option.some.inj hF
  exact A.AX.ret [] (.tuple #[.agg #[.int .i64 0,.int .i64 0,.int .i64 0,.int .i64 0,.int .i64 0,.int .i64 0],.int .i64 12]) (fun a w hf hh=>Z.resv2 rfl (Z.rv_n hf rfl Tryz.isAgg63 Tryz.sizeOf63 (A.Hp.blk hh 2) rfl) (Z.rv_t hf rfl)) (⟨rfl,rfl,(A.hasl .i64 (0) rfl),(A.hasl .i64 (0) rfl),(A.hasl .i64 (0) rfl),(A.hasl .i64 (0) rfl),(A.hasl .i64 (0) rfl),(A.hasl .i64 (0) rfl),(A.hasl .i64 (12) rfl)⟩)
 refine A.xl 3 ?_
 refine A.q0 [83] [] [.b 0 0] [(94,.agg #[.int .i64 y12,.int .i64 y14,.int .i64 y16,.int .i64 y18,.int .i64 y20,.int .i64 y22])] ?_
 refine A.sw 2 [] [.int .i64 y12,.int .i64 y14,.int .i64 y16,.int .i64 y18,.int .i64 y20,.int .i64 y22] ?_
 refine A.q0 [] [] [.n] [(5,.int .i64 0)] ?_
 refine A.dx 1 ?_
 obtain rfl:=Option.some.inj hF
 exact A.AX.ret [] (.tuple #[.agg #[.int .i64 y12,.int .i64 y14,.int .i64 y16,.int .i64 y18,.int .i64 y20,.int .i64 y22],.int .i64 0]) (fun a w hf hh=>Z.resv2 rfl (Z.rv_n hf rfl Tryz.isAgg63 Tryz.sizeOf63 (A.Hp.blk hh 2) rfl) (Z.rv_t hf rfl)) (⟨rfl,rfl,hy13,hy15,hy17,hy19,hy21,hy23,(A.hasl .i64 (0) rfl)⟩)
def F.R01_Leq_l1 (a0:D62)(a1:D62):Nat→Int→Option Bool
 |0,_=>none
 |f+1,y4=>if y4<4 then((A.ix [a0.2.2.1,a0.2.2.2.1,a0.2.2.2.2.1,a0.2.2.2.2.2] y4).bind fun x7=>((A.ix [a1.2.2.1,a1.2.2.2.1,a1.2.2.2.2.1,a1.2.2.2.2.2] y4).bind fun x9=>(if x9<x7 then(some false)else(A.gd (Z.R64 (y4+1)) ((F.R01_Leq_l1 a0 a1 f) (y4+1))))))else(some true)
def F.R01_Leq_j2 (a0:D62)(a1:D62)(y3:Bool):Option Bool:=if y3=true then(some false)else(F.R01_Leq_l1 a0 a1 A.FU 0)
def F.R01_Leq (a0:D62)(a1:D62):Option Bool:=(F.R01_Check (a0.1,a0.2.1,(a0.2.2.1,a0.2.2.2.1,a0.2.2.2.2.1,a0.2.2.2.2.2))).bind fun r12=>(if r12≠0 then(F.R01_Leq_j2 a0 a1 true)else((F.R01_Check (a1.1,a1.2.1,(a1.2.2.1,a1.2.2.2.1,a1.2.2.2.2.1,a1.2.2.2.2.2))).bind fun r15=>(F.R01_Leq_j2 a0 a1 (bif bif decide (r15≠0)then true else decide (a0.2.1≠a1.2.1)then true else decide (a1.1<a0.1)))))
theorem R01_Leq_ok (a0:D62)(a1:D62)(h0_:IntKind.i64.has a0.1)(h1_:IntKind.i64.has a0.2.1)(h2_:IntKind.i64.has a0.2.2.1)(h3_:IntKind.i64.has a0.2.2.2.1)(h4_:IntKind.i64.has a0.2.2.2.2.1)(h5_:IntKind.i64.has a0.2.2.2.2.2)(h6_:IntKind.i64.has a1.1)(h7_:IntKind.i64.has a1.2.1)(h8_:IntKind.i64.has a1.2.2.1)(h9_:IntKind.i64.has a1.2.2.2.1)(h10_:IntKind.i64.has a1.2.2.2.2.1)(h11_:IntKind.i64.has a1.2.2.2.2.2)(r:Bool)(hF:F.R01_Leq a0 a1=some r):
    A.Ct Tryz.prog 27 [.agg #[.int .i64 a0.1,.int .i64 a0.2.1,.int .i64 a0.2.2.1,.int .i64 a0.2.2.2.1,.int .i64 a0.2.2.2.2.1,.int .i64 a0.2.2.2.2.2],.agg #[.int .i64 a1.1,.int .i64 a1.2.1,.int .i64 a1.2.2.1,.int .i64 a1.2.2.2.1,.int .i64 a1.2.2.2.2.1,.int .i64 a1.2.2.2.2.2]] [] [] (fun v H'=>v=.bool r∧H'=[]):=by
 refine A.Ct.enter Tryz.func27 rfl Tryz.ntmps27 rfl fun w0 F0=>?_
 rw[F.R01_Leq]at hF
 refine A.xl 1 ?_
 refine A.AL.box 0 (cs:=[.int .i64 a0.1,.int .i64 a0.2.1,.int .i64 a0.2.2.1,.int .i64 a0.2.2.2.1,.int .i64 a0.2.2.2.2.1,.int .i64 a0.2.2.2.2.2]) fun g1=>?_
 refine A.AL.box 1 (cs:=[.int .i64 a1.1,.int .i64 a1.2.1,.int .i64 a1.2.2.1,.int .i64 a1.2.2.2.1,.int .i64 a1.2.2.2.2.1,.int .i64 a1.2.2.2.2.2]) fun g2=>?_
 refine A.q0 [] [] [.n] [] ?_
 refine A.dx 2 ?_
 refine A.AX.join [2,3] [0,1] (fun nl nh=>∃(y3:Bool),nl=[(27,.bool y3)]∧nh=[]∧F.R01_Leq_j2 a0 a1 y3=some r) ?_ ?_
 ·refine A.xl 0 ?_
  refine A.q0 [0] [] [.b 0 0] [(6,.agg #[.int .i64 a0.1,.int .i64 a0.2.1,.int .i64 a0.2.2.1,.int .i64 a0.2.2.2.1,.int .i64 a0.2.2.2.2.1,.int .i64 a0.2.2.2.2.2])] ?_
  obtain⟨r12,hv13,hF⟩:=A.bd_some hF
  refine A.AL.call 2 [] (first:=[]) (cap:=[]) cf63 (R01_Check_ok (a0.1,a0.2.1,(a0.2.2.1,a0.2.2.2.1,a0.2.2.2.2.1,a0.2.2.2.2.2)) h0_ h1_ h2_ h3_ h4_ h5_ r12 hv13) .nil ?_
  rintro _ _ ⟨rfl,rfl,hr14⟩
  refine⟨by kernel_rfl,?_⟩
  refine A.q0 [] [] [.n,.n] [(9,.bool (decide (r12≠0)))] ?_
  refine A.AL.cnp (j:=9) rfl hF (fun hb hF=>?_) (fun hb hF=>?_)
  ·refine A.q0 [] [] [.off,.off,.off,.n,.n,.off,.off,.off,.off,.off,.n,.n,.off,.off,.off,.off,.off,.n] [(27,.bool true)] ?_
   refine A.AL.done ?_
   exact A.j ⟨true,rfl,rfl,hF⟩
  refine A.q0 [1] [] [.on (.b 0 0)] [(10,.agg #[.int .i64 a1.1,.int .i64 a1.2.1,.int .i64 a1.2.2.1,.int .i64 a1.2.2.2.1,.int .i64 a1.2.2.2.2.1,.int .i64 a1.2.2.2.2.2])] ?_
  refine A.AL.on (dj:=9) rfl rfl ?_
  obtain⟨r15,hv16,hF⟩:=A.bd_some hF
  refine A.AL.call 42 [] (first:=[]) (cap:=[]) cf63 (R01_Check_ok (a1.1,a1.2.1,(a1.2.2.1,a1.2.2.2.1,a1.2.2.2.2.1,a1.2.2.2.2.2)) h6_ h7_ h8_ h9_ h10_ h11_ r15 hv16) .nil ?_
  rintro _ _ ⟨rfl,rfl,hr17⟩
  refine⟨by kernel_rfl,?_⟩
  refine A.q0 [0,1] [] [.on .n,.n,.n,.sy .n,.sy (.b 0 1),.sy .n,.sy (.b 1 1),.sy .n,.pk,.n,.sy .n,.sy (.b 0 0),.sy .n,.sy (.b 1 0),.sy .n,.pk] [(27,.bool (bif bif decide (r15≠0)then true else decide (a0.2.1≠a1.2.1)then true else decide (a1.1<a0.1)))] ?_
  refine A.AL.done ?_
  exact A.j ⟨(bif bif decide (r15≠0)then true else decide (a0.2.1≠a1.2.1)then true else decide (a1.1<a0.1)),rfl,rfl,hF⟩
 rintro _ _ ⟨y3,rfl,rfl,hF⟩
 rw[F.R01_Leq_j2]at hF
 refine A.AX.cnb rfl hF (fun hb hF=>?_) (fun hb hF=>?_)
 ·refine A.xl 1 ?_
  refine A.q0 [] [] [.n] [(4,.bool false)] ?_
  refine A.dx 1 ?_
  obtain rfl:=Option.some.inj hF
  exact A.rt1 [] ⟨rfl,rfl⟩
 refine A.xl 4 ?_
 refine A.q0 [] [] [.n] [(5,.int .i64 0)] ?_
 refine A.dx 2 ?_
 refine A.lp_ [2,3] [0,1] (fun f nl nh=>∃(y4:Int),nl=[(5,.int .i64 y4)]∧nh=[]∧IntKind.i64.has y4∧F.R01_Leq_l1 a0 a1 f y4=some r) ⟨0,rfl,rfl,(A.hasl .i64 (0) rfl),hF⟩ ?_
 rintro f6 _ _ ⟨y4,rfl,rfl,hy5,hF⟩
 rcases f6 with _|f6
 ·exact A.no0 hF
 rw[F.R01_Leq_l1]at hF
 refine A.xl 2 ?_
 refine A.q0 [] [] [.n,.n] [(29,.bool (decide (y4<4)))] ?_
 refine A.dx 1 ?_
 refine A.AX.cnd rfl hF (fun hb hF=>?_) (fun hb hF=>?_)
 ·refine A.xx 5 ?_
  refine A.AX.dr mixed 9 9 (A.mb 9 0) ?_
  refine A.hq A.pb [] [0,1] [] [] (A.mb 9 51) 5 [(0,.n),(1,.n),(4,.n),(5,.n)] [(32,.int .i64 y4),(33,.pointer (some ⟨g1,2,none⟩)),(36,.int .i64 y4),(37,.pointer (some ⟨g2,2,none⟩))] ?_
  obtain⟨x7,hv8,hF⟩:=A.bd_some hF
  refine A.pkb 0 84 (fun v:Int=>.int .i64 v) [a0.2.2.1,a0.2.2.2.1,a0.2.2.2.2.1,a0.2.2.2.2.2] 2 hv8 ?_
  refine A.AH.v A.pb [0,1] [0,1,84] 2 (A.mb 9 55) rfl (fun a w hf hh=>A.r_indexArr Tryz.underlying43 Tryz.sizeOf2 (hf.eval rfl) (hf.eval rfl) (A.ix_ok hv8).1 (A.ix_ok hv8).2) ?_
  refine A.hq A.pb [0,1,84] [0,1,84] [] [84] (A.mb 9 63) 3 [(3,.e 0 0)] [(35,.int .i64 x7)] ?_
  obtain⟨x9,hv10,hF⟩:=A.bd_some hF
  refine A.pkb 1 85 (fun v:Int=>.int .i64 v) [a1.2.2.1,a1.2.2.2.1,a1.2.2.2.2.1,a1.2.2.2.2.2] 2 hv10 ?_
  refine A.AH.v A.pb [0,1,84] [0,1,84,85] 6 (A.mb 9 127) rfl (fun a w hf hh=>A.r_indexArr Tryz.underlying43 Tryz.sizeOf2 (hf.eval rfl) (hf.eval rfl) (A.ix_ok hv10).1 (A.ix_ok hv10).2) ?_
  refine A.hq A.pb [0,1,84,85] [0,1,84,85] [] [85] (A.mb 9 511) 0 [(7,.e 0 0),(8,.n)] [(40,.bool (decide (x9<x7)))] ?_
  refine A.AH.done ?_
  refine A.ex 1 ?_
  refine A.AX.cnd rfl hF (fun hb hF=>?_) (fun hb hF=>?_)
  ·refine A.xl 1 ?_
   refine A.q0 [] [] [.n] [(4,.bool false)] ?_
   refine A.dx 1 ?_
   obtain rfl:=Option.some.inj hF
   exact A.rt1 [] ⟨rfl,rfl⟩
  refine A.xl 3 ?_
  obtain⟨hc11,hF⟩:=A.gd_some hF
  refine A.q [] [] [.n,.n,.n] [Z.R64 (y4+1)] [(5,.int .i64 (y4+1))] hc11 ?_
  refine A.AL.done ?_
  exact A.j ⟨_,Nat.lt_succ_self _,⟨(y4+1),rfl,rfl,(Z.i64_has hc11),hF⟩⟩
 refine A.xl 3 ?_
 refine A.q0 [] [] [.n] [(4,.bool true)] ?_
 refine A.dx 1 ?_
 obtain rfl:=Option.some.inj hF
 exact A.rt1 [] ⟨rfl,rfl⟩
end Go.Proofs.YtlbnpmfggfbdoaaGreatDoor
end
section
set_option linter.unusedVariables false
set_option linter.unusedSimpArgs false
set_option maxRecDepth 20000
set_option maxHeartbeats 8000000
set_option synthInstance.maxSize 1000000
set_option synthInstance.maxHeartbeats 400000
namespace Go.Proofs.YtlbnpmfggfbdoaaGreatDoor
open Go.RowKit
end Go.Proofs.YtlbnpmfggfbdoaaGreatDoor
end
section
set_option linter.unusedVariables false
set_option linter.unusedSimpArgs false
set_option maxRecDepth 20000
set_option maxHeartbeats 8000000
set_option synthInstance.maxSize 1000000
set_option synthInstance.maxHeartbeats 400000
namespace Go.Proofs.YtlbnpmfggfbdoaaGreatDoor
open Go.RowKit
def F.slices_Equal_api_Place_api_Place_l1 (a0:(List D39))(a1:(List D39)):Nat→Int→Option Bool
 |0,_=>none
 |f+1,y1=>if y1<((a0).length:Int)then((A.ix a0 y1).bind fun x4=>((A.ix a1 y1).bind fun x10=>(if(x4.1,x4.2)≠(x10.1,x10.2)then(some false)else(A.gd (Z.R64 (y1+1)) ((F.slices_Equal_api_Place_api_Place_l1 a0 a1 f) (y1+1))))))else(some true)
def F.slices_Equal_api_Place_api_Place (a0:(List D39))(a1:(List D39)):Option Bool:=if((a0).length:Int)≠((a1).length:Int)then(some false)else(F.slices_Equal_api_Place_api_Place_l1 a0 a1 A.FU 0)
theorem slices_Equal_api_Place_api_Place_ok (a0:(List D39))(a1:(List D39))(A0_:Option Addr)(c1_:Nat)(A2_:Option Addr)(c3_:Nat)(r:Bool)(hF:F.slices_Equal_api_Place_api_Place a0 a1=some r):
    A.Ct Tryz.prog 32 [.slice A0_ ((a0).length) c1_,.slice A2_ ((a1).length) c3_] [(0,.ln T39 A0_ c1_ a0),(1,.ln T39 A2_ c3_ a1)] [] (fun v H'=>v=.bool r∧H'=[]):=by
 refine A.Ct.enter Tryz.func32 rfl Tryz.ntmps32 rfl fun w0 F0=>?_
 rw[F.slices_Equal_api_Place_api_Place]at hF
 refine A.xl 1 ?_
 refine A.q0 [] [] [.n] [] ?_
 refine A.dl 3 ?_
 refine A.q0 [] [] [.n,.n,.n,.n,.n] [(10,.bool (decide (((a0).length:Int)≠((a1).length:Int))))] ?_
 refine A.dx 1 ?_
 refine A.AX.cnd rfl hF (fun hb hF=>?_) (fun hb hF=>?_)
 ·refine A.xl 1 ?_
  refine A.q0 [] [] [.n] [(4,.bool false)] ?_
  refine A.dx 1 ?_
  obtain rfl:=Option.some.inj hF
  exact A.rt1 [] ⟨rfl,rfl⟩
 refine A.xl 4 ?_
 refine A.q0 [] [] [.n,.n,.n] [(12,.int .i64 ((a0).length:Int)),(13,.int .i64 0)] ?_
 refine A.dx 2 ?_
 refine A.lp_ [0,1,12] [0,1] (fun f nl nh=>∃(y1:Int),nl=[(13,.int .i64 y1)]∧nh=[]∧IntKind.i64.has y1∧F.slices_Equal_api_Place_api_Place_l1 a0 a1 f y1=some r) ⟨0,rfl,rfl,(A.hasl .i64 (0) rfl),hF⟩ ?_
 rintro f3 _ _ ⟨y1,rfl,rfl,hy2,hF⟩
 rcases f3 with _|f3
 ·exact A.no0 hF
 rw[F.slices_Equal_api_Place_api_Place_l1]at hF
 refine A.xl 1 ?_
 refine A.q0 [] [] [.n] [(14,.bool (decide (y1<((a0).length:Int))))] ?_
 refine A.dx 2 ?_
 refine A.AX.cnd rfl hF (fun hb hF=>?_) (fun hb hF=>?_)
 ·refine A.xl 5 ?_
  refine A.q0 [] [] [.n,.n] [(5,.int .i64 y1)] ?_
  refine A.dx 2 ?_
  refine A.AX.dr mixed 9 9 (A.mb 9 0) ?_
  refine A.hq A.pb [] [0,1] [] [] (A.mb 9 51) 5 [(0,.n),(1,.n),(4,.n),(5,.n)] [(16,.slice A0_ ((a0).length) c1_),(17,.int .i64 y1),(20,.slice A2_ ((a1).length) c3_),(21,.int .i64 y1)] ?_
  obtain⟨x4,hv5,hF⟩:=A.bd_some hF
  refine A.AH.pkl 0 6 hv5 fun ho6=>?_
  intro b8 o9 hA7
  refine A.AH.v A.pb [0,1] [0,1,6] 2 (A.mb 9 55) rfl (fun a w hf hh=>A.r_ixa (t:=T39) hv5 hA7 hf) ?_
  refine A.hq A.pb [0,1,6] [0,1,6] [] [6] (A.mb 9 63) 3 [(3,.e 0 0)] [(19,.agg #[.int .i64 x4.1,.int .i64 x4.2])] ?_
  obtain⟨x10,hv11,hF⟩:=A.bd_some hF
  refine A.AH.pkl 1 7 hv11 fun ho12=>?_
  intro b14 o15 hA13
  refine A.AH.v A.pb [0,1,6] [0,1,6,7] 6 (A.mb 9 127) rfl (fun a w hf hh=>A.r_ixa (t:=T39) hv11 hA13 hf) ?_
  refine A.hq A.pb [0,1,6,7] [0,1,6,7] [] [7] (A.mb 9 255) 1 [(7,.e 0 0)] [(23,.agg #[.int .i64 x10.1,.int .i64 x10.2])] ?_
  refine A.AH.v A.pb [0,1,6,7] [0,1,6,7] 8 (A.mb 9 511) rfl (fun a w hf hh=>eqagg_neq40 (x:=(x4.1,x4.2)) (y:=(x10.1,x10.2)) (hf.eval rfl) (hf.eval rfl)) ?_
  refine A.AH.done ?_
  refine A.ex 1 ?_
  refine A.AX.cnd rfl hF (fun hb hF=>?_) (fun hb hF=>?_)
  ·refine A.xl 1 ?_
   refine A.q0 [] [] [.n] [(4,.bool false)] ?_
   refine A.dx 1 ?_
   obtain rfl:=Option.some.inj hF
   exact A.rt1 [] ⟨rfl,rfl⟩
  refine A.xl 3 ?_
  obtain⟨hc16,hF⟩:=A.gd_some hF
  refine A.q [] [] [.n,.n] [Z.R64 (y1+1)] [(13,.int .i64 (y1+1))] hc16 ?_
  refine A.AL.done ?_
  exact A.j ⟨_,Nat.lt_succ_self _,⟨(y1+1),rfl,rfl,(Z.i64_has hc16),hF⟩⟩
 refine A.xl 3 ?_
 refine A.q0 [] [] [.n] [(4,.bool true)] ?_
 refine A.dx 1 ?_
 obtain rfl:=Option.some.inj hF
 exact A.rt1 [] ⟨rfl,rfl⟩
def F.slices_Values_api_Path_api_Path (a0:(List D57)):Option ((List D57)):=some a0
theorem slices_Values_api_Path_api_Path_ok (a0:(List D57))(A0_:Option Addr)(c1_:Nat)(r:((List D57)))(hF:F.slices_Values_api_Path_api_Path a0=some r):
    A.Ct Tryz.prog 64 [.slice A0_ ((a0).length) c1_] [(0,.sh (.slice T57) [.slice A0_ (a0).length c1_] a0)] [] (fun v H'=>∃(g0':Nat) (A1':Option Addr) (c2':Nat),v=.func (.func 93) #[] #[.pointer (some ⟨g0',0,none⟩)]∧H'=[(0,.blk g0' 27 [.slice A1' ((r).length) c2']),(1,.sh (.slice T57) [.slice A1' (r).length c2'] r)]):=by
 refine A.Ct.enter Tryz.func64 rfl Tryz.ntmps64 rfl fun w0 F0=>?_
 rw[F.slices_Values_api_Path_api_Path]at hF
 refine A.xl 1 ?_
 refine A.AL.box 1 (cs:=[.slice A0_ ((a0).length) c1_]) fun g1=>?_
 refine A.q0 [] [] [.n] [] ?_
 refine A.dl 2 ?_
 refine A.q0 [] [] [.n,.n] [(2,.func (.func 93) #[] #[.pointer (some ⟨g1,0,none⟩)])] ?_
 refine A.dx 1 ?_
 obtain rfl:=Option.some.inj hF
 exact A.rt1 [(0,1),(1,0)] ⟨g1,A0_,c1_,rfl,rfl⟩
def F.slices_Values_api_Place_api_Place (a0:(List D39)):Option ((List D39)):=some a0
theorem slices_Values_api_Place_api_Place_ok (a0:(List D39))(A0_:Option Addr)(c1_:Nat)(r:((List D39)))(hF:F.slices_Values_api_Place_api_Place a0=some r):
    A.Ct Tryz.prog 65 [.slice A0_ ((a0).length) c1_] [(0,.sh (.slice T39) [.slice A0_ (a0).length c1_] a0)] [] (fun v H'=>∃(g0':Nat) (A1':Option Addr) (c2':Nat),v=.func (.func 94) #[] #[.pointer (some ⟨g0',0,none⟩)]∧H'=[(0,.blk g0' 72 [.slice A1' ((r).length) c2']),(1,.sh (.slice T39) [.slice A1' (r).length c2'] r)]):=by
 refine A.Ct.enter Tryz.func65 rfl Tryz.ntmps65 rfl fun w0 F0=>?_
 rw[F.slices_Values_api_Place_api_Place]at hF
 refine A.xl 1 ?_
 refine A.AL.box 1 (cs:=[.slice A0_ ((a0).length) c1_]) fun g1=>?_
 refine A.q0 [] [] [.n] [] ?_
 refine A.dl 2 ?_
 refine A.q0 [] [] [.n,.n] [(2,.func (.func 94) #[] #[.pointer (some ⟨g1,0,none⟩)])] ?_
 refine A.dx 1 ?_
 obtain rfl:=Option.some.inj hF
 exact A.rt1 [(0,1),(1,0)] ⟨g1,A0_,c1_,rfl,rfl⟩
def F.slices_Values_api_Path_api_Path_1_it_l1 (b0:(List D57)):Nat→Int→Option (List D57)
 |0,_=>none
 |f+1,y1=>if y1<((b0).length:Int)then((A.ix b0 y1).bind fun x9=>(A.cns ((x9.1.1,x9.1.2),(x9.2.1.1,x9.2.1.2),x9.2.2) (A.gd (Z.R64 (y1+1)) ((F.slices_Values_api_Path_api_Path_1_it_l1 b0 f) (y1+1)))))else(some [])
def F.slices_Values_api_Path_api_Path_1_it (b0:(List D57)):Option (List D57):=F.slices_Values_api_Path_api_Path_1_it_l1 b0 A.FU 0
theorem slices_Values_api_Path_api_Path_1_it_sq (b0:(List D57))(g0_:Nat)(A1_:Option Addr)(c2_:Nat)(xs:List D57)(hF:F.slices_Values_api_Path_api_Path_1_it b0=some xs):
    A.Sq Tryz.prog 93 [.pointer (some ⟨g0_,0,none⟩)] [(0,.el none g0_ 0 [.slice A1_ ((b0).length) c2_]),(1,.sh (.slice T57) [.slice A1_ (b0).length c2_] b0)] T57 (fun cs=>[Z.vof true cs]) xs:=by
 refine A.Sq.enter Tryz.func93 rfl Tryz.ntmps93 rfl fun lid w0 J Jx Φ hY hJ0=>?_
 obtain⟨rs0,hrs⟩: ∃rs0,rs0=xs:=⟨_,rfl⟩
 have hR0:A.Rem xs 0 rs0:=hrs▸A.Rem.zero xs
 rw[F.slices_Values_api_Path_api_Path_1_it,←hrs]at hF
 clear hrs
 refine A.xl 1 ?_
 refine A.q0 [] [0] [.e 0 0,.n,.n] [(5,.slice A1_ ((b0).length) c2_),(6,.int .i64 ((b0).length:Int)),(7,.int .i64 0)] ?_
 refine A.dx 2 ?_
 refine A.AX.loopC (A.CY 16 Φ) (0,w0) [0,5,6] [1] [1] (fun f i nl nh=>∃(y1:Int),∃(rs:List D57),nl=[(7,.int .i64 y1)]∧nh=[]∧IntKind.i64.has y1∧J i.1 i.2∧A.Rem xs i.1 rs∧F.slices_Values_api_Path_api_Path_1_it_l1 b0 f y1=some rs) A.FU [(7,.int .i64 0)] [] ⟨0,_,rfl,rfl,(A.hasl .i64 (0) rfl),hJ0,hR0,hF⟩ ?_
 rintro f3 ⟨k4,w5⟩ _ _ ⟨y1,rs8,rfl,rfl,hy2,hJ6,hR7,hF⟩
 rcases f3 with _|f3
 ·exact A.no0 hF
 rw[F.slices_Values_api_Path_api_Path_1_it_l1]at hF
 refine A.xl 1 ?_
 refine A.q0 [] [] [.n] [(8,.bool (decide (y1<((b0).length:Int))))] ?_
 refine A.dx 2 ?_
 refine A.AX.cnd rfl hF (fun hb hF=>?_) (fun hb hF=>?_)
 ·refine A.xl 5 ?_
  obtain⟨x9,hv10,hF⟩:=A.bd_some hF
  refine A.AL.ixs 1 8 hv10 fun ho11=>?_
  intro A12 c13 b14 o15
  refine A.q0 [] [8] [.e 0 0] [(10,.agg #[.int .i64 x9.1.1,.int .i64 x9.1.2,.int .i64 x9.2.1.1,.int .i64 x9.2.1.2,.slice A12 ((x9.2.2).length) c13])] ?_
  refine A.AL.alloc 10 (cs:=[.int .i64 0,.int .i64 0,.int .i64 0,.int .i64 0,.slice none 0 0]) Tryz.zeroValue58 fun g16=>?_
  refine A.sw 10 [] [.int .i64 x9.1.1,.int .i64 x9.1.2,.int .i64 x9.2.1.1,.int .i64 x9.2.1.2,.slice A12 ((x9.2.2).length) c13] ?_
  refine A.dl 2 ?_
  refine A.q0 [10] [] [.n,.b 0 0] [(11,.func (.yield lid) #[] #[]),(12,.agg #[.int .i64 x9.1.1,.int .i64 x9.1.2,.int .i64 x9.2.1.1,.int .i64 x9.2.1.2,.slice A12 ((x9.2.2).length) c13])] ?_
  obtain⟨rs17,hqrs17,hF⟩:=A.cns_some hF
  refine A.AL.yield hY hJ6 (hqrs17▸hR7) [.int .i64 x9.1.1,.int .i64 x9.1.2,.int .i64 x9.2.1.1,.int .i64 x9.2.1.2,.slice A12 ((x9.2.2).length) c13] ⟨⟨⟨rfl,ho11.1.1⟩,⟨rfl,ho11.1.2⟩⟩,⟨⟨rfl,ho11.2.1.1⟩,⟨rfl,ho11.2.1.2⟩⟩,.inl ⟨9,rfl⟩⟩ (fun w18 hJ19 hR20=>?_) (fun w18 hX21=>?_)
  ·refine A.q0 [] [] [.n] [(14,.bool false)] ?_
   refine A.dx 1 ?_
   refine A.AX.cnf rfl ?_
   refine A.xl 3 ?_
   obtain⟨hc22,hF⟩:=A.gd_some hF
   refine A.q [] [] [.n,.n] [Z.R64 (y1+1)] [(7,.int .i64 (y1+1))] hc22 ?_
   refine A.AL.done ?_
   exact A.AE.jC (k4+1,w18) [1] [(7,.int .i64 (y1+1))] [] ⟨_,Nat.lt_succ_self _,⟨(y1+1),_,rfl,rfl,(Z.i64_has hc22),hJ19,hR20,hF⟩⟩
  refine A.q0 [] [] [.n] [(14,.bool true)] ?_
  refine A.dx 1 ?_
  refine A.AX.cnt rfl ?_
  exact A.AX.rtX hY hX21
 refine A.xe 1 ?_
 obtain rfl:=Option.some.inj hF
 exact A.AE.rtY hY hJ6 hR7
def F.paths_Reached_l1 (a1:D39):List D57→(List D39)→Option ((List D39))
 | [],xs38=>(F.slices_Values_api_Place_api_Place xs38).bind fun r44=>(some r44)
 |y31::f,xs38=>if(y31.1.1,y31.1.2)=(a1.1,a1.2)then(A.gd ((List.length (α:=D39) xs38+List.length (α:=D39) [(y31.2.1.1,y31.2.1.2)])*16≤140737488355328) ((F.paths_Reached_l1 a1 f) (xs38++[(y31.2.1.1,y31.2.1.2)])))else((F.paths_Reached_l1 a1 f) xs38)
def F.paths_Reached (a0:(List D57))(a1:D39):Option ((List D39)):=(F.slices_Values_api_Path_api_Path a0).bind fun r3=>((F.slices_Values_api_Path_api_Path_1_it r3).bind fun xs22=>F.paths_Reached_l1 a1 xs22 [])
theorem paths_Reached_ok (a0:(List D57))(a1:D39)(A0_:Option Addr)(c1_:Nat)(h2_:IntKind.i64.has a1.1)(h3_:IntKind.i64.has a1.2)(r:((List D39)))(hF:F.paths_Reached a0 a1=some r):
    A.Ct Tryz.prog 34 [.slice A0_ ((a0).length) c1_,.agg #[.int .i64 a1.1,.int .i64 a1.2]] [(0,.sh (.slice T57) [.slice A0_ (a0).length c1_] a0)] [] (fun v H'=>∃(g0':Nat) (A1':Option Addr) (c2':Nat),v=.func (.func 94) #[] #[.pointer (some ⟨g0',0,none⟩)]∧H'=[(0,.blk g0' 72 [.slice A1' ((r).length) c2']),(1,.sh (.slice T39) [.slice A1' (r).length c2'] r)]):=by
 refine A.Ct.enterM Tryz.func34 rfl Tryz.ntmps34 rfl fun w0 F0=>?_
 rw[F.paths_Reached]at hF
 refine A.xl 1 ?_
 refine A.AL.box 1 (cs:=[.int .i64 a1.1,.int .i64 a1.2]) fun g1=>?_
 refine A.q0 [] [] [.n] [] ?_
 refine A.dl 2 ?_
 refine A.AL.alloc 2 (cs:=[.slice none 0 0]) Tryz.zeroValue72 fun g2=>?_
 refine A.dl 3 ?_
 refine A.q0 [] [] [.n] [(7,.slice A0_ ((a0).length) c1_)] ?_
 obtain⟨r3,hv4,hF⟩:=A.bd_some hF
 refine A.AL.call 3 [] (first:=[]) (cap:=[]) cf64 (slices_Values_api_Path_api_Path_ok a0 A0_ c1_ r3 hv4) (.s 0 .nil) ?_
 rintro _ _ ⟨g5,A6,c7,rfl,rfl⟩
 refine⟨by kernel_rfl,?_⟩
 refine A.dx 2 ?_
 refine A.nil 49 T39 40 ?_
 obtain⟨xs22,hv23,hF⟩:=A.bd_some hF
 refine A.AX.rgf 50 51 52 [1,3,4] [2,49,1,3,4] [51,50,2,49,1,3,4] (fun k nh=>∃(xs38:List D39),∃(A36:Option Addr),∃(c37:Nat),nh=[(2,.blk g2 72 [.slice A36 ((xs38).length) c37]),(49,.own T39 40 A36 c37 xs38)]∧F.paths_Reached_l1 a1 (List.drop k xs22) xs38=some r) [(2,.blk g2 72 [.slice none 0 0]),(49,.own T39 40 none 0 [])] cf93 (slices_Values_api_Path_api_Path_1_it_sq r3 g5 A6 c7 xs22 hv23) (fun _=>rfl) ⟨[],none,0,rfl,hF⟩ ?_ ?_ ?_
 ·rintro k30 _ D24 L25 ⟨xs38,A36,c37,rfl,hF⟩
  exact⟨⟨_,(.b 3 (.s 4 .nil))⟩,rfl,fun o=>rfl⟩
 ·rintro k30 _ y31 D24 L25 w29 o26 ⟨xs38,A36,c37,rfl,hF⟩ hx34 hxo35 hh28
  intro A32 c33
  rw[A.drop_at hx34,F.paths_Reached_l1]at hF
  refine A.xl 0 ?_
  refine A.AL.alloc 57 (cs:=[.int .i64 0,.int .i64 0,.int .i64 0,.int .i64 0,.slice none 0 0]) Tryz.zeroValue58 fun g39=>?_
  refine A.sw 57 [] [.int .i64 y31.1.1,.int .i64 y31.1.2,.int .i64 y31.2.1.1,.int .i64 y31.2.1.2,.slice A32 ((y31.2.2).length) c33] ?_
  refine A.AL.done ?_
  refine A.AE.flip 50 51 fun o27=>?_
  refine A.xl 2 ?_
  refine A.q0 [57,1] [] [.n,.b 0 0,.b 1 0] [(11,.agg #[.int .i64 y31.1.1,.int .i64 y31.1.2]),(12,.agg #[.int .i64 a1.1,.int .i64 a1.2])] ?_
  refine A.AL.val rfl (fun a w hf hh=>eqagg_eql40 (x:=(y31.1.1,y31.1.2)) (y:=(a1.1,a1.2)) (hf.eval rfl) (hf.eval rfl)) ?_
  refine A.dx 1 ?_
  refine A.AX.cnd rfl hF (fun hb hF=>?_) (fun hb hF=>?_)
  ·refine A.xl 0 ?_
   refine A.q0 [2,57] [] [.b 0 0,.n,.b 1 2] [(14,.slice A36 ((xs38).length) c37),(16,.agg #[.int .i64 y31.2.1.1,.int .i64 y31.2.1.2])] ?_
   refine A.AL.bsl 58 (ty:=T39) (cs:=[.int .i64 y31.2.1.1,.int .i64 y31.2.1.2]) [(y31.2.1.1,y31.2.1.2)] ⟨⟨⟨rfl,hxo35.2.1.1⟩,⟨rfl,hxo35.2.1.2⟩⟩,rfl⟩ (fun g40=>?_) Tryz.zeroValue40 Tryz.sizeOf40
   obtain⟨hl43,hF⟩:=A.gd_some hF
   refine A.AL.app (k:=49) [] (A.rowO (k:=58) rfl) inf40 hl43 fun A41 c42=>?_
   refine A.sw 2 [] [.slice A41 ((xs38++[(y31.2.1.1,y31.2.1.2)]).length) c42] ?_
   refine A.de 1 ?_
   exact A.AE.bn hh28 [51,50,2,49,1,3,4] 100000 [(51,100051),(50,100050),(2,100002),(49,100049),(1,100001),(3,100003),(4,100004)] [(2,.blk g2 72 [.slice A41 ((xs38++[(y31.2.1.1,y31.2.1.2)]).length) c42]),(49,.own T39 40 A41 c42 (xs38++[(y31.2.1.1,y31.2.1.2)]))] ⟨(xs38++[(y31.2.1.1,y31.2.1.2)]),A41,c42,rfl,hF⟩ rfl rfl
  refine A.xe 2 ?_
  exact A.AE.bn hh28 [51,50,2,49,1,3,4] 100000 [(51,100051),(50,100050),(2,100002),(49,100049),(1,100001),(3,100003),(4,100004)] [(2,.blk g2 72 [.slice A36 ((xs38).length) c37]),(49,.own T39 40 A36 c37 xs38)] ⟨xs38,A36,c37,rfl,hF⟩ rfl rfl
 rintro _ D24 L25 ⟨xs38,A36,c37,rfl,hF⟩
 rw[List.drop_length,F.paths_Reached_l1]at hF
 refine A.el 3 ?_
 refine A.q0 [2] [] [.b 0 0] [(19,.slice A36 ((xs38).length) c37)] ?_
 refine A.frz 49 [] ?_
 obtain⟨r44,hv45,hF⟩:=A.bd_some hF
 refine A.AL.call 59 [] (first:=[]) (cap:=[]) cf65 (slices_Values_api_Place_api_Place_ok xs38 A36 c37 r44 hv45) (.s 49 .nil) ?_
 rintro _ _ ⟨g46,A47,c48,rfl,rfl⟩
 refine⟨by kernel_rfl,?_⟩
 refine A.q0 [] [] [.n] [(4,.func (.func 94) #[] #[.pointer (some ⟨g46,0,none⟩)])] ?_
 refine A.dx 1 ?_
 obtain rfl:=Option.some.inj hF
 exact A.AX.rtM (Ds:=[D24]) [50] [(0,59),(1,60)] (.func (.func 94) #[] #[.pointer (some ⟨g46,0,none⟩)]) (⟨rfl,trivial⟩) (fun a w hf hh=>Z.resv1 rfl (Z.rv_t hf rfl)) (⟨g46,A47,c48,rfl,rfl⟩)
def F.R10_Sums_j1 (k1:Int→Option (List D44))(a0:(List D57))(y3:Int)(y6:Bool):Option (List D44):=if y6=true then((A.ix a0 y3).bind fun x7=>(A.gd ((List.length (α:=D44) []+List.length (α:=D44) x7.2.2)*64≤140737488355328) (some ([]++x7.2.2))))else(A.gd (Z.R64 (y3+1)) (k1 (y3+1)))
def F.R10_Sums_l2 (a0:(List D57))(a1:D39)(a2:D39):Nat→Int→Option (List D44)
 |0,_=>none
 |f+1,y3=>if y3<((a0).length:Int)then((A.ix a0 y3).bind fun x18=>(if(x18.1.1,x18.1.2)=(a1.1,a1.2)then((A.ix a0 y3).bind fun x26=>(F.R10_Sums_j1 (F.R10_Sums_l2 a0 a1 a2 f) a0 y3 (decide ((x26.2.1.1,x26.2.1.2)=(a2.1,a2.2)))))else(F.R10_Sums_j1 (F.R10_Sums_l2 a0 a1 a2 f) a0 y3 false)))else(some [])
def F.R10_Sums (a0:(List D57))(a1:D39)(a2:D39):Option (List D44):=F.R10_Sums_l2 a0 a1 a2 A.FU 0
theorem R10_Sums_ok (a0:(List D57))(a1:D39)(a2:D39)(A0_:Option Addr)(c1_:Nat)(h2_:IntKind.i64.has a1.1)(h3_:IntKind.i64.has a1.2)(h4_:IntKind.i64.has a2.1)(h5_:IntKind.i64.has a2.2)(r:(List D44))(hF:F.R10_Sums a0 a1 a2=some r):
    A.Ct Tryz.prog 30 [.slice A0_ ((a0).length) c1_,.agg #[.int .i64 a1.1,.int .i64 a1.2],.agg #[.int .i64 a2.1,.int .i64 a2.2]] [(0,.ln T57 A0_ c1_ a0)] [] (fun v H'=>∃(A0':Option Addr) (c1':Nat),v=.slice A0' ((r).length) c1'∧H'=[(0,.own T44 45 A0' c1' r)]):=by
 refine A.Ct.enter Tryz.func30 rfl Tryz.ntmps30 rfl fun w0 F0=>?_
 rw[F.R10_Sums]at hF
 refine A.xl 1 ?_
 refine A.AL.box 1 (cs:=[.int .i64 a1.1,.int .i64 a1.2]) fun g1=>?_
 refine A.AL.box 2 (cs:=[.int .i64 a2.1,.int .i64 a2.2]) fun g2=>?_
 refine A.q0 [] [] [.n] [] ?_
 refine A.dl 3 ?_
 refine A.q0 [] [] [.n] [(7,.int .i64 0)] ?_
 refine A.dx 2 ?_
 refine A.lp_ [0,4,5] [0,1,2] (fun f nl nh=>∃(y3:Int),nl=[(7,.int .i64 y3)]∧nh=[]∧IntKind.i64.has y3∧F.R10_Sums_l2 a0 a1 a2 f y3=some r) ⟨0,rfl,rfl,(A.hasl .i64 (0) rfl),hF⟩ ?_
 rintro f5 _ _ ⟨y3,rfl,rfl,hy4,hF⟩
 rcases f5 with _|f5
 ·exact A.no0 hF
 rw[F.R10_Sums_l2]at hF
 refine A.xl 2 ?_
 refine A.q0 [] [] [.n,.n,.n,.n] [(11,.bool (decide (y3<((a0).length:Int))))] ?_
 refine A.dx 1 ?_
 refine A.AX.cnd rfl hF (fun hb hF=>?_) (fun hb hF=>?_)
 ·refine A.xx 4 ?_
  refine A.AX.join [0,4,5,7] [0,1,2] (fun nl nh=>∃(y6:Bool),nl=[(29,.bool y6)]∧nh=[]∧F.R10_Sums_j1 (F.R10_Sums_l2 a0 a1 a2 f5) a0 y3 y6=some r) ?_ ?_
  ·refine A.AX.dr mixed 16 16 (A.mb 16 0) ?_
   refine A.hq A.pb [] [0,1,2] [1] [] (A.mb 16 35) 13 [(0,.n),(1,.n),(5,.b 0 0)] [(14,.slice A0_ ((a0).length) c1_),(15,.int .i64 y3),(19,.agg #[.int .i64 a1.1,.int .i64 a1.2])] ?_
   obtain⟨x18,hv19,hF⟩:=A.bd_some hF
   refine A.AH.pkl 0 19 hv19 fun ho20=>?_
   intro A22 c23 b24 o25 hA21
   refine A.AH.v A.pb [0,1,2] [0,1,2,19,20] 2 (A.mb 16 39) rfl (fun a w hf hh=>A.r_ixa (t:=T57) hv19 hA21 hf) ?_
   refine A.hq A.pb [0,1,2,19,20] [0,1,2,19,20] [] [19] (A.mb 16 63) 10 [(3,.n),(4,.e 0 0)] [(18,.agg #[.int .i64 x18.1.1,.int .i64 x18.1.2])] ?_
   refine A.AH.v A.pb [0,1,2,19,20] [0,1,2,19,20] 6 (A.mb 16 127) rfl (fun a w hf hh=>eqagg_eql40 (x:=(x18.1.1,x18.1.2)) (y:=(a1.1,a1.2)) (hf.eval rfl) (hf.eval rfl)) ?_
   refine A.hq A.pb [0,1,2,19,20] [0,1,2,19,20] [] [] (A.mb 16 255) 8 [(7,.n)] [(21,.bool (decide ((x18.1.1,x18.1.2)=(a1.1,a1.2))))] ?_
   refine A.AH.cnp (j:=21) rfl hF (fun hb hF=>?_) (fun hb hF=>?_)
   ·refine A.hq A.pb [0,1,2,19,20] [0,1,2,19,20] [2] [] (A.mb 16 9215) 5 [(8,.on .n),(9,.on .n),(13,.on (.b 0 0))] [(22,.slice A0_ ((a0).length) c1_),(23,.int .i64 y3),(27,.agg #[.int .i64 a2.1,.int .i64 a2.2])] ?_
    obtain⟨x26,hv27,hF⟩:=A.bd_some hF
    refine A.AH.pkl 0 21 hv27 fun ho28=>?_
    intro A30 c31 b32 o33 hA29
    refine A.AH.vg A.pb [0,1,2,19,20] [0,1,2,19,20,21,22] 10 (A.mb 16 10239) (dj:=21) rfl (fun a w hf hh=>A.r_ixa (t:=T57) hv27 hA29 hf) ?_
    refine A.hq A.pb [0,1,2,19,20,21,22] [0,1,2,19,20,21,22] [] [21] (A.mb 16 16383) 2 [(11,.on .n),(12,.on (.e 0 2))] [(26,.agg #[.int .i64 x26.2.1.1,.int .i64 x26.2.1.2])] ?_
    refine A.AH.vg A.pb [0,1,2,19,20,21,22] [0,1,2,19,20,21,22] 14 (A.mb 16 32767) (dj:=21) rfl (fun a w hf hh=>eqagg_eql40 (x:=(x26.2.1.1,x26.2.1.2)) (y:=(a2.1,a2.2)) (hf.eval rfl) (hf.eval rfl)) ?_
    refine A.hq A.pb [0,1,2,19,20,21,22] [0,1,2,19,20,21,22] [] [] (A.mb 16 65535) 0 [(15,.n)] [(29,.bool (decide ((x26.2.1.1,x26.2.1.2)=(a2.1,a2.2))))] ?_
    refine A.AH.done ?_
    exact A.j ⟨(decide ((x26.2.1.1,x26.2.1.2)=(a2.1,a2.2))),rfl,rfl,hF⟩
   refine A.hq A.pb [0,1,2,19,20] [0,1,2,19,20] [] [] (A.mb 16 65535) 0 [(8,.off),(9,.off),(13,.off),(10,.off),(11,.off),(12,.off),(14,.off),(15,.n)] [(29,.bool false)] ?_
   refine A.AH.done ?_
   exact A.j ⟨false,rfl,rfl,hF⟩
  rintro _ _ ⟨y6,rfl,rfl,hF⟩
  rw[F.R10_Sums_j1]at hF
  refine A.AX.cnb rfl hF (fun hb hF=>?_) (fun hb hF=>?_)
  ·refine A.xl 1 ?_
   refine A.q0 [] [] [.n,.n] [(30,.slice A0_ ((a0).length) c1_),(31,.int .i64 y3)] ?_
   obtain⟨x7,hv8,hF⟩:=A.bd_some hF
   refine A.AL.ixl 0 23 hv8 fun ho9=>?_
   intro A10 c11 b12 o13
   refine A.q0 [] [23] [.n,.e 0 4] [(34,.slice A10 ((x7.2.2).length) c11)] ?_
   refine A.nil 25 T44 45 ?_
   obtain⟨hl16,hF⟩:=A.gd_some hF
   refine A.AL.app (k:=25) [] (A.rowS (k:=24) rfl) inf45 hl16 fun A14 c15=>?_
   refine A.q0 [] [] [.n] [(6,.slice A14 (([]++x7.2.2).length) c15)] ?_
   refine A.dx 1 ?_
   obtain rfl:=Option.some.inj hF
   exact A.rt1 [(0,25)] ⟨A14,c15,rfl,rfl⟩
  refine A.xl 3 ?_
  obtain⟨hc17,hF⟩:=A.gd_some hF
  refine A.q [] [] [.n,.n,.n] [Z.R64 (y3+1)] [(7,.int .i64 (y3+1))] hc17 ?_
  refine A.AL.done ?_
  exact A.j ⟨_,Nat.lt_succ_self _,⟨(y3+1),rfl,rfl,(Z.i64_has hc17),hF⟩⟩
 refine A.xl 3 ?_
 refine A.q0 [] [] [.n] [(6,.slice none 0 0)] ?_
 refine A.dx 1 ?_
 obtain rfl:=Option.some.inj hF
 refine A.nil 26 T44 45 ?_
 exact A.rt1 [(0,26)] ⟨none,0,rfl,rfl⟩
end Go.Proofs.YtlbnpmfggfbdoaaGreatDoor
end
section
set_option linter.unusedVariables false
set_option linter.unusedSimpArgs false
set_option maxRecDepth 20000
set_option maxHeartbeats 8000000
set_option synthInstance.maxSize 1000000
set_option synthInstance.maxHeartbeats 400000
namespace Go.Proofs.YtlbnpmfggfbdoaaGreatDoor
open Go.RowKit
def F.R10_Could_j1 (k1:Int→Option Bool)(y9:Int)(y27:Bool):Option Bool:=if y27=true then(some true)else(A.gd (Z.R64 (y9+1)) (k1 (y9+1)))
def F.R10_Could_j2 (k1:Int→Option Bool)(a4:D62)(y9:Int)(y12:Int)(y14:Int)(y16:Int)(y18:Int)(y20:Int)(y22:Int)(y25:Int):Option Bool:=if y25=0 then((F.R01_Leq (y12,y14,(y16,y18,y20,y22)) (a4.1,a4.2.1,(a4.2.2.1,a4.2.2.2.1,a4.2.2.2.2.1,a4.2.2.2.2.2))).bind fun r29=>(F.R10_Could_j1 k1 y9 r29))else(F.R10_Could_j1 k1 y9 false)
def F.R10_Could_l3 (a2:D62)(a4:D62)(r5:(List D44)):Nat→Int→Option Bool
 |0,_=>none
 |f+1,y9=>if y9<((r5).length:Int)then((A.ix r5 y9).bind fun x31=>((F.R02_Apply (x31.1,x31.2.1,x31.2.2.1,x31.2.2.2.1,(x31.2.2.2.2.1,x31.2.2.2.2.2.1,x31.2.2.2.2.2.2.1,x31.2.2.2.2.2.2.2)) (a2.1,a2.2.1,(a2.2.2.1,a2.2.2.2.1,a2.2.2.2.2.1,a2.2.2.2.2.2))).bind fun r336=>(F.R10_Could_j2 (F.R10_Could_l3 a2 a4 r5 f) a4 y9 r336.1.1 r336.1.2.1 r336.1.2.2.1 r336.1.2.2.2.1 r336.1.2.2.2.2.1 r336.1.2.2.2.2.2 r336.2)))else(some false)
def F.R10_Could (a0:(List D57))(a1:D39)(a2:D62)(a3:D39)(a4:D62):Option Bool:=(F.R10_Sums a0 (a1.1,a1.2) (a3.1,a3.2)).bind fun r5=>(F.R10_Could_l3 a2 a4 r5 A.FU 0)
theorem R10_Could_ok (a0:(List D57))(a1:D39)(a2:D62)(a3:D39)(a4:D62)(A0_:Option Addr)(c1_:Nat)(h2_:IntKind.i64.has a1.1)(h3_:IntKind.i64.has a1.2)(h4_:IntKind.i64.has a2.1)(h5_:IntKind.i64.has a2.2.1)(h6_:IntKind.i64.has a2.2.2.1)(h7_:IntKind.i64.has a2.2.2.2.1)(h8_:IntKind.i64.has a2.2.2.2.2.1)(h9_:IntKind.i64.has a2.2.2.2.2.2)(h10_:IntKind.i64.has a3.1)(h11_:IntKind.i64.has a3.2)(h12_:IntKind.i64.has a4.1)(h13_:IntKind.i64.has a4.2.1)(h14_:IntKind.i64.has a4.2.2.1)(h15_:IntKind.i64.has a4.2.2.2.1)(h16_:IntKind.i64.has a4.2.2.2.2.1)(h17_:IntKind.i64.has a4.2.2.2.2.2)(r:Bool)(hF:F.R10_Could a0 a1 a2 a3 a4=some r):
    A.Ct Tryz.prog 35 [.slice A0_ ((a0).length) c1_,.agg #[.int .i64 a1.1,.int .i64 a1.2],.agg #[.int .i64 a2.1,.int .i64 a2.2.1,.int .i64 a2.2.2.1,.int .i64 a2.2.2.2.1,.int .i64 a2.2.2.2.2.1,.int .i64 a2.2.2.2.2.2],.agg #[.int .i64 a3.1,.int .i64 a3.2],.agg #[.int .i64 a4.1,.int .i64 a4.2.1,.int .i64 a4.2.2.1,.int .i64 a4.2.2.2.1,.int .i64 a4.2.2.2.2.1,.int .i64 a4.2.2.2.2.2]] [(0,.ln T57 A0_ c1_ a0)] [] (fun v H'=>v=.bool r∧H'=[]):=by
 refine A.Ct.enter Tryz.func35 rfl Tryz.ntmps35 rfl fun w0 F0=>?_
 rw[F.R10_Could]at hF
 refine A.xl 1 ?_
 refine A.AL.box 1 (cs:=[.int .i64 a1.1,.int .i64 a1.2]) fun g1=>?_
 refine A.AL.box 2 (cs:=[.int .i64 a2.1,.int .i64 a2.2.1,.int .i64 a2.2.2.1,.int .i64 a2.2.2.2.1,.int .i64 a2.2.2.2.2.1,.int .i64 a2.2.2.2.2.2]) fun g2=>?_
 refine A.AL.box 3 (cs:=[.int .i64 a3.1,.int .i64 a3.2]) fun g3=>?_
 refine A.AL.box 4 (cs:=[.int .i64 a4.1,.int .i64 a4.2.1,.int .i64 a4.2.2.1,.int .i64 a4.2.2.2.1,.int .i64 a4.2.2.2.2.1,.int .i64 a4.2.2.2.2.2]) fun g4=>?_
 refine A.q0 [] [] [.n] [] ?_
 refine A.dl 2 ?_
 refine A.q0 [1,3] [] [.n,.b 0 0,.b 1 0] [(15,.slice A0_ ((a0).length) c1_),(16,.agg #[.int .i64 a1.1,.int .i64 a1.2]),(17,.agg #[.int .i64 a3.1,.int .i64 a3.2])] ?_
 obtain⟨r5,hv6,hF⟩:=A.bd_some hF
 refine A.AL.call 5 [] (first:=[]) (cap:=[]) cf30 (R10_Sums_ok a0 (a1.1,a1.2) (a3.1,a3.2) A0_ c1_ h2_ h3_ h10_ h11_ r5 hv6) (.s 0 .nil) ?_
 rintro _ _ ⟨A7,c8,rfl,rfl⟩
 refine⟨by kernel_rfl,?_⟩
 refine A.q0 [] [] [.n] [(11,.slice A7 ((r5).length) c8)] ?_
 refine A.dl 3 ?_
 refine A.q0 [] [] [.n] [(12,.int .i64 0)] ?_
 refine A.dx 2 ?_
 refine A.lp_ [7,9,11] [2,4,5] (fun f nl nh=>∃(y9:Int),nl=[(12,.int .i64 y9)]∧nh=[]∧IntKind.i64.has y9∧F.R10_Could_l3 a2 a4 r5 f y9=some r) ⟨0,rfl,rfl,(A.hasl .i64 (0) rfl),hF⟩ ?_
 rintro f11 _ _ ⟨y9,rfl,rfl,hy10,hF⟩
 rcases f11 with _|f11
 ·exact A.no0 hF
 rw[F.R10_Could_l3]at hF
 refine A.xl 2 ?_
 refine A.q0 [] [] [.n,.n,.n,.n] [(22,.bool (decide (y9<((r5).length:Int))))] ?_
 refine A.dx 1 ?_
 refine A.AX.cnd rfl hF (fun hb hF=>?_) (fun hb hF=>?_)
 ·refine A.xx 4 ?_
  refine A.AX.join [7,9,11,12] [2,4,5] (fun nl nh=>∃(y12:Int),∃(y14:Int),∃(y16:Int),∃(y18:Int),∃(y20:Int),∃(y22:Int),∃(y25:Int),∃(g24:Nat),nl=[(13,.pointer (some ⟨g24,0,none⟩)),(14,.int .i64 y25)]∧nh=[(1118,.blk g24 63 [.int .i64 y12,.int .i64 y14,.int .i64 y16,.int .i64 y18,.int .i64 y20,.int .i64 y22])]∧IntKind.i64.has y12∧IntKind.i64.has y14∧IntKind.i64.has y16∧IntKind.i64.has y18∧IntKind.i64.has y20∧IntKind.i64.has y22∧IntKind.i64.has y25∧F.R10_Could_j2 (F.R10_Could_l3 a2 a4 r5 f11) a4 y9 y12 y14 y16 y18 y20 y22 y25=some r) ?_ ?_
  ·refine A.AX.dr mixed 12 12 (A.mb 12 0) ?_
   refine A.hq A.pb [] [2,4,5] [2] [] (A.mb 12 19) 9 [(0,.n),(1,.n),(4,.b 0 0)] [(26,.slice A7 ((r5).length) c8),(27,.int .i64 y9),(30,.agg #[.int .i64 a2.1,.int .i64 a2.2.1,.int .i64 a2.2.2.1,.int .i64 a2.2.2.2.1,.int .i64 a2.2.2.2.2.1,.int .i64 a2.2.2.2.2.2])] ?_
   obtain⟨x31,hv32,hF⟩:=A.bd_some hF
   refine A.AH.pko 5 847 hv32 fun ho33=>?_
   intro g35 hA34
   refine A.AH.v A.pb [2,4,5] [2,4,5,847] 2 (A.mb 12 23) rfl (fun a w hf hh=>A.r_ixo (t:=T44) hv32 hA34 hf) ?_
   refine A.hq A.pb [2,4,5,847] [2,4,5,847] [] [847] (A.mb 12 31) 7 [(3,.e 0 0)] [(29,.agg #[.int .i64 x31.1,.int .i64 x31.2.1,.int .i64 x31.2.2.1,.int .i64 x31.2.2.2.1,.int .i64 x31.2.2.2.2.1,.int .i64 x31.2.2.2.2.2.1,.int .i64 x31.2.2.2.2.2.2.1,.int .i64 x31.2.2.2.2.2.2.2])] ?_
   refine A.AH.two 5 9 ?_ ?_
   ·obtain⟨r336,hv337,hF⟩:=A.bd_some hF
    refine A.AL.call 998 [] (first:=[]) (cap:=[]) cf26 (R02_Apply_ok (x31.1,x31.2.1,x31.2.2.1,x31.2.2.2.1,(x31.2.2.2.2.1,x31.2.2.2.2.2.1,x31.2.2.2.2.2.2.1,x31.2.2.2.2.2.2.2)) (a2.1,a2.2.1,(a2.2.2.1,a2.2.2.2.1,a2.2.2.2.2.1,a2.2.2.2.2.2)) ho33.1 ho33.2.1 ho33.2.2.1 ho33.2.2.2.1 ho33.2.2.2.2.1 ho33.2.2.2.2.2.1 ho33.2.2.2.2.2.2.1 ho33.2.2.2.2.2.2.2 h4_ h5_ h6_ h7_ h8_ h9_ r336 hv337) .nil ?_
    rintro _ _ ⟨rfl,rfl,hr338,hr339,hr340,hr341,hr342,hr343,hr344⟩
    refine⟨by kernel_rfl,?_⟩
    refine A.AH.nx (A.mb 12 63) [2,4,5,847] ?_
    refine A.hq A.pb [2,4,5,847] [2,4,5,847] [] [] (A.mb 12 511) 3 [(6,.n),(7,.n),(8,.n)] [(32,.agg #[.int .i64 r336.1.1,.int .i64 r336.1.2.1,.int .i64 r336.1.2.2.1,.int .i64 r336.1.2.2.2.1,.int .i64 r336.1.2.2.2.2.1,.int .i64 r336.1.2.2.2.2.2]),(33,.int .i64 r336.2)] ?_
    refine A.AH.one 9 ?_
    refine A.AL.alloc 1118 (cs:=[.int .i64 0,.int .i64 0,.int .i64 0,.int .i64 0,.int .i64 0,.int .i64 0]) Tryz.zeroValue63 fun g576=>?_
    refine A.AH.nx (A.mb 12 1023) [2,4,5,847] ?_
    refine A.AH.one 10 ?_
    refine A.sw 1118 [] [.int .i64 r336.1.1,.int .i64 r336.1.2.1,.int .i64 r336.1.2.2.1,.int .i64 r336.1.2.2.2.1,.int .i64 r336.1.2.2.2.2.1,.int .i64 r336.1.2.2.2.2.2] ?_
    refine A.AH.nx (A.mb 12 2047) [2,4,5,847] ?_
    refine A.hq A.pb [2,4,5,847] [2,4,5,847,1118] [] [] (A.mb 12 4095) 0 [(11,.n)] [(14,.int .i64 r336.2)] ?_
    refine A.AH.done ?_
    exact A.j ⟨r336.1.1,r336.1.2.1,r336.1.2.2.1,r336.1.2.2.2.1,r336.1.2.2.2.2.1,r336.1.2.2.2.2.2,r336.2,g576,rfl,rfl,hr338,hr339,hr340,hr341,hr342,hr343,hr344,hF⟩
   refine A.AL.alloc 1118 (cs:=[.int .i64 0,.int .i64 0,.int .i64 0,.int .i64 0,.int .i64 0,.int .i64 0]) Tryz.zeroValue63 fun g576=>?_
   refine A.AH.nx (A.mb 12 543) [2,4,5,847] ?_
   refine A.AH.one 5 ?_
   obtain⟨r336,hv337,hF⟩:=A.bd_some hF
   refine A.AL.call 998 [] (first:=[]) (cap:=[]) cf26 (R02_Apply_ok (x31.1,x31.2.1,x31.2.2.1,x31.2.2.2.1,(x31.2.2.2.2.1,x31.2.2.2.2.2.1,x31.2.2.2.2.2.2.1,x31.2.2.2.2.2.2.2)) (a2.1,a2.2.1,(a2.2.2.1,a2.2.2.2.1,a2.2.2.2.2.1,a2.2.2.2.2.2)) ho33.1 ho33.2.1 ho33.2.2.1 ho33.2.2.2.1 ho33.2.2.2.2.1 ho33.2.2.2.2.2.1 ho33.2.2.2.2.2.2.1 ho33.2.2.2.2.2.2.2 h4_ h5_ h6_ h7_ h8_ h9_ r336 hv337) .nil ?_
   rintro _ _ ⟨rfl,rfl,hr338,hr339,hr340,hr341,hr342,hr343,hr344⟩
   refine⟨by kernel_rfl,?_⟩
   refine A.AH.nx (A.mb 12 575) [2,4,5,847] ?_
   refine A.hq A.pb [2,4,5,847] [2,4,5,847] [] [] (A.mb 12 1023) 2 [(6,.n),(7,.n),(8,.n)] [(32,.agg #[.int .i64 r336.1.1,.int .i64 r336.1.2.1,.int .i64 r336.1.2.2.1,.int .i64 r336.1.2.2.2.1,.int .i64 r336.1.2.2.2.2.1,.int .i64 r336.1.2.2.2.2.2]),(33,.int .i64 r336.2)] ?_
   refine A.AH.one 10 ?_
   refine A.sw 1118 [] [.int .i64 r336.1.1,.int .i64 r336.1.2.1,.int .i64 r336.1.2.2.1,.int .i64 r336.1.2.2.2.1,.int .i64 r336.1.2.2.2.2.1,.int .i64 r336.1.2.2.2.2.2] ?_
   refine A.AH.nx (A.mb 12 2047) [2,4,5,847] ?_
   refine A.hq A.pb [2,4,5,847] [2,4,5,847,1118] [] [] (A.mb 12 4095) 0 [(11,.n)] [(14,.int .i64 r336.2)] ?_
   refine A.AH.done ?_
   exact A.j ⟨r336.1.1,r336.1.2.1,r336.1.2.2.1,r336.1.2.2.2.1,r336.1.2.2.2.2.1,r336.1.2.2.2.2.2,r336.2,g576,rfl,rfl,hr338,hr339,hr340,hr341,hr342,hr343,hr344,hF⟩
  rintro _ _ ⟨y12,y14,y16,y18,y20,y22,y25,g24,rfl,rfl,hy13,hy15,hy17,hy19,hy21,hy23,hy26,hF⟩
  rw[F.R10_Could_j2]at hF
  refine A.AX.join [7,9,11,12] [2,4,5] (fun nl nh=>∃(y27:Bool),nl=[(40,.bool y27)]∧nh=[]∧F.R10_Could_j1 (F.R10_Could_l3 a2 a4 r5 f11) y9 y27=some r) ?_ ?_
  ·refine A.xl 0 ?_
   refine A.q0 [] [] [.n,.n,.n] [(36,.bool (decide (y25=0)))] ?_
   refine A.AL.cnp (j:=36) rfl hF (fun hb hF=>?_) (fun hb hF=>?_)
   ·refine A.q0 [1118,4] [] [.on (.b 0 0),.on (.b 1 0)] [(37,.agg #[.int .i64 y12,.int .i64 y14,.int .i64 y16,.int .i64 y18,.int .i64 y20,.int .i64 y22]),(38,.agg #[.int .i64 a4.1,.int .i64 a4.2.1,.int .i64 a4.2.2.1,.int .i64 a4.2.2.2.1,.int .i64 a4.2.2.2.2.1,.int .i64 a4.2.2.2.2.2])] ?_
    refine A.AL.on (dj:=36) rfl rfl ?_
    obtain⟨r29,hv30,hF⟩:=A.bd_some hF
    refine A.AL.call 1208 [] (first:=[]) (cap:=[]) cf27 (R01_Leq_ok (y12,y14,(y16,y18,y20,y22)) (a4.1,a4.2.1,(a4.2.2.1,a4.2.2.2.1,a4.2.2.2.2.1,a4.2.2.2.2.2)) hy13 hy15 hy17 hy19 hy21 hy23 h12_ h13_ h14_ h15_ h16_ h17_ r29 hv30) .nil ?_
    rintro _ _ ⟨rfl,rfl⟩
    refine⟨by kernel_rfl,?_⟩
    refine A.q0 [] [] [.n] [(40,.bool r29)] ?_
    refine A.AL.done ?_
    exact A.j ⟨r29,rfl,rfl,hF⟩
   refine A.q0 [] [] [.off,.off,.off,.n] [(40,.bool false)] ?_
   refine A.AL.done ?_
   exact A.j ⟨false,rfl,rfl,hF⟩
  rintro _ _ ⟨y27,rfl,rfl,hF⟩
  rw[F.R10_Could_j1]at hF
  refine A.AX.cnb rfl hF (fun hb hF=>?_) (fun hb hF=>?_)
  ·refine A.xl 1 ?_
   refine A.q0 [] [] [.n] [(10,.bool true)] ?_
   refine A.dx 1 ?_
   obtain rfl:=Option.some.inj hF
   exact A.rt1 [] ⟨rfl,rfl⟩
  refine A.xl 3 ?_
  obtain⟨hc28,hF⟩:=A.gd_some hF
  refine A.q [] [] [.n,.n,.n] [Z.R64 (y9+1)] [(12,.int .i64 (y9+1))] hc28 ?_
  refine A.AL.done ?_
  exact A.j ⟨_,Nat.lt_succ_self _,⟨(y9+1),rfl,rfl,(Z.i64_has hc28),hF⟩⟩
 refine A.xl 3 ?_
 refine A.q0 [] [] [.n] [(10,.bool false)] ?_
 refine A.dx 1 ?_
 obtain rfl:=Option.some.inj hF
 exact A.rt1 [] ⟨rfl,rfl⟩
def F.paths_same_j1 (y3:Bool):Option Bool:=some y3
def F.paths_same (a0:D57)(a1:D57):Option Bool:=if(a0.1.1,a0.1.2)=(a1.1.1,a1.1.2)then(if(a0.2.1.1,a0.2.1.2)=(a1.2.1.1,a1.2.1.2)then((F.slices_Equal_api_Sum_api_Sum a0.2.2 a1.2.2).bind fun r4=>(F.paths_same_j1 r4))else(F.paths_same_j1 false))else(F.paths_same_j1 false)
theorem paths_same_ok (a0:D57)(a1:D57)(A4_:Option Addr)(c5_:Nat)(A10_:Option Addr)(c11_:Nat)(h0_:IntKind.i64.has a0.1.1)(h1_:IntKind.i64.has a0.1.2)(h2_:IntKind.i64.has a0.2.1.1)(h3_:IntKind.i64.has a0.2.1.2)(h6_:IntKind.i64.has a1.1.1)(h7_:IntKind.i64.has a1.1.2)(h8_:IntKind.i64.has a1.2.1.1)(h9_:IntKind.i64.has a1.2.1.2)(r:Bool)(hF:F.paths_same a0 a1=some r):
    A.Ct Tryz.prog 67 [.agg #[.int .i64 a0.1.1,.int .i64 a0.1.2,.int .i64 a0.2.1.1,.int .i64 a0.2.1.2,.slice A4_ ((a0.2.2).length) c5_],.agg #[.int .i64 a1.1.1,.int .i64 a1.1.2,.int .i64 a1.2.1.1,.int .i64 a1.2.1.2,.slice A10_ ((a1.2.2).length) c11_]] [(0,.sh (.slice T44) [.slice A4_ (a0.2.2).length c5_] a0.2.2),(1,.sh (.slice T44) [.slice A10_ (a1.2.2).length c11_] a1.2.2)] [] (fun v H'=>v=.bool r∧H'=[]):=by
 refine A.Ct.enter Tryz.func67 rfl Tryz.ntmps67 rfl fun w0 F0=>?_
 rw[F.paths_same]at hF
 refine A.xl 1 ?_
 refine A.AL.box 2 (cs:=[.int .i64 a0.1.1,.int .i64 a0.1.2,.int .i64 a0.2.1.1,.int .i64 a0.2.1.2,.slice A4_ ((a0.2.2).length) c5_]) fun g1=>?_
 refine A.AL.box 3 (cs:=[.int .i64 a1.1.1,.int .i64 a1.1.2,.int .i64 a1.2.1.1,.int .i64 a1.2.1.2,.slice A10_ ((a1.2.2).length) c11_]) fun g2=>?_
 refine A.q0 [] [] [.n] [] ?_
 refine A.dx 1 ?_
 refine A.AX.join [] [] (fun nl nh=>∃(y3:Bool),nl=[(4,.bool y3)]∧nh=[]∧F.paths_same_j1 y3=some r) ?_ ?_
 ·refine A.xl 0 ?_
  refine A.q0 [2,3] [] [.n,.b 0 0,.n,.b 1 0] [(6,.agg #[.int .i64 a0.1.1,.int .i64 a0.1.2]),(8,.agg #[.int .i64 a1.1.1,.int .i64 a1.1.2])] ?_
  refine A.AL.val rfl (fun a w hf hh=>eqagg_eql40 (x:=(a0.1.1,a0.1.2)) (y:=(a1.1.1,a1.1.2)) (hf.eval rfl) (hf.eval rfl)) ?_
  refine A.q0 [] [] [.n] [(10,.bool (decide ((a0.1.1,a0.1.2)=(a1.1.1,a1.1.2))))] ?_
  refine A.AL.cnp (j:=10) rfl hF (fun hb hF=>?_) (fun hb hF=>?_)
  ·refine A.q0 [2,3] [] [.on .n,.on (.b 0 2),.on .n,.on (.b 1 2)] [(12,.agg #[.int .i64 a0.2.1.1,.int .i64 a0.2.1.2]),(14,.agg #[.int .i64 a1.2.1.1,.int .i64 a1.2.1.2])] ?_
   refine A.AL.on (dj:=10) rfl rfl ?_
   refine A.AL.val rfl (fun a w hf hh=>eqagg_eql40 (x:=(a0.2.1.1,a0.2.1.2)) (y:=(a1.2.1.1,a1.2.1.2)) (hf.eval rfl) (hf.eval rfl)) ?_
   refine A.q0 [] [] [.n,.n] [(17,.bool (decide ((a0.2.1.1,a0.2.1.2)=(a1.2.1.1,a1.2.1.2))))] ?_
   refine A.AL.cnp (j:=17) rfl hF (fun hb hF=>?_) (fun hb hF=>?_)
   ·refine A.q0 [2,3] [] [.on .n,.on (.b 0 4),.on .n,.on (.b 1 4)] [(19,.slice A4_ ((a0.2.2).length) c5_),(21,.slice A10_ ((a1.2.2).length) c11_)] ?_
    refine A.AL.on (dj:=17) rfl rfl ?_
    obtain⟨r4,hv5,hF⟩:=A.bd_some hF
    refine A.AL.call 4 [] (first:=[]) (cap:=[]) cf76 (slices_Equal_api_Sum_api_Sum_ok a0.2.2 a1.2.2 A4_ c5_ A10_ c11_ r4 hv5) (.l 0 (.l 1 .nil)) ?_
    rintro _ _ ⟨rfl,rfl⟩
    refine⟨by kernel_rfl,?_⟩
    refine A.q0 [] [] [.n,.n] [(4,.bool r4)] ?_
    refine A.AL.done ?_
    exact A.j ⟨r4,rfl,rfl,hF⟩
   refine A.q0 [] [] [.off,.off,.off,.off,.off,.n,.n] [(4,.bool false)] ?_
   refine A.AL.done ?_
   exact A.j ⟨false,rfl,rfl,hF⟩
  refine A.q0 [] [] [.off,.off,.off,.off,.off,.n,.n,.off,.off,.off,.off,.off,.n,.n] [(4,.bool false)] ?_
  refine A.AL.done ?_
  exact A.j ⟨false,rfl,rfl,hF⟩
 rintro _ _ ⟨y3,rfl,rfl,hF⟩
 rw[F.paths_same_j1]at hF
 obtain rfl:=Option.some.inj hF
 exact A.rt1 [] ⟨rfl,rfl⟩
def F.slices_EqualFunc_api_Path_api_Path_api_Path_api_Path_paths_same_l1 (a0:(List D57))(a1:(List D57)):Nat→Int→Option Bool
 |0,_=>none
 |f+1,y1=>if y1<((a0).length:Int)then((A.ix a0 y1).bind fun x4=>((A.ix a1 y1).bind fun x12=>((F.paths_same ((x4.1.1,x4.1.2),(x4.2.1.1,x4.2.1.2),x4.2.2) ((x12.1.1,x12.1.2),(x12.2.1.1,x12.2.1.2),x12.2.2)).bind fun r20=>(if(!r20)=true then(some false)else(A.gd (Z.R64 (y1+1)) ((F.slices_EqualFunc_api_Path_api_Path_api_Path_api_Path_paths_same_l1 a0 a1 f) (y1+1)))))))else(some true)
def F.slices_EqualFunc_api_Path_api_Path_api_Path_api_Path_paths_same (a0:(List D57))(a1:(List D57)):Option Bool:=if((a0).length:Int)≠((a1).length:Int)then(some false)else(F.slices_EqualFunc_api_Path_api_Path_api_Path_api_Path_paths_same_l1 a0 a1 A.FU 0)
theorem slices_EqualFunc_api_Path_api_Path_api_Path_api_Path_paths_same_ok (a0:(List D57))(a1:(List D57))(A0_:Option Addr)(c1_:Nat)(A2_:Option Addr)(c3_:Nat)(r:Bool)(hF:F.slices_EqualFunc_api_Path_api_Path_api_Path_api_Path_paths_same a0 a1=some r):
    A.Ct Tryz.prog 66 [.slice A0_ ((a0).length) c1_,.slice A2_ ((a1).length) c3_,.func (.func 67) #[] #[]] [(0,.ln T57 A0_ c1_ a0),(1,.ln T57 A2_ c3_ a1)] [] (fun v H'=>v=.bool r∧H'=[]):=by
 refine A.Ct.enter Tryz.func66 rfl Tryz.ntmps66 rfl fun w0 F0=>?_
 rw[F.slices_EqualFunc_api_Path_api_Path_api_Path_api_Path_paths_same]at hF
 refine A.xl 1 ?_
 refine A.q0 [] [] [.n] [] ?_
 refine A.dl 3 ?_
 refine A.q0 [] [] [.n,.n,.n,.n,.n] [(14,.bool (decide (((a0).length:Int)≠((a1).length:Int))))] ?_
 refine A.dx 1 ?_
 refine A.AX.cnd rfl hF (fun hb hF=>?_) (fun hb hF=>?_)
 ·refine A.xl 1 ?_
  refine A.q0 [] [] [.n] [(6,.bool false)] ?_
  refine A.dx 1 ?_
  obtain rfl:=Option.some.inj hF
  exact A.rt1 [] ⟨rfl,rfl⟩
 refine A.xl 4 ?_
 refine A.q0 [] [] [.n,.n,.n] [(15,.slice A0_ ((a0).length) c1_),(16,.int .i64 ((a0).length:Int)),(17,.int .i64 0)] ?_
 refine A.dx 2 ?_
 refine A.lp_ [1,2,15,16] [0,1] (fun f nl nh=>∃(y1:Int),nl=[(17,.int .i64 y1)]∧nh=[]∧IntKind.i64.has y1∧F.slices_EqualFunc_api_Path_api_Path_api_Path_api_Path_paths_same_l1 a0 a1 f y1=some r) ⟨0,rfl,rfl,(A.hasl .i64 (0) rfl),hF⟩ ?_
 rintro f3 _ _ ⟨y1,rfl,rfl,hy2,hF⟩
 rcases f3 with _|f3
 ·exact A.no0 hF
 rw[F.slices_EqualFunc_api_Path_api_Path_api_Path_api_Path_paths_same_l1]at hF
 refine A.xl 1 ?_
 refine A.q0 [] [] [.n] [(18,.bool (decide (y1<((a0).length:Int))))] ?_
 refine A.dx 2 ?_
 refine A.AX.cnd rfl hF (fun hb hF=>?_) (fun hb hF=>?_)
 ·refine A.xl 5 ?_
  refine A.q0 [] [] [.n] [(19,.int .i64 y1)] ?_
  obtain⟨x4,hv5,hF⟩:=A.bd_some hF
  refine A.AL.ixl 0 94 hv5 fun ho6=>?_
  intro A7 c8 b9 o10
  refine A.q0 [] [94] [.e 0 0] [(21,.agg #[.int .i64 x4.1.1,.int .i64 x4.1.2,.int .i64 x4.2.1.1,.int .i64 x4.2.1.2,.slice A7 ((x4.2.2).length) c8])] ?_
  refine A.AL.alloc 96 (cs:=[.int .i64 0,.int .i64 0,.int .i64 0,.int .i64 0,.slice none 0 0]) Tryz.zeroValue58 fun g11=>?_
  refine A.q0 [] [] [.n] [(7,.int .i64 y1)] ?_
  refine A.sw 96 [] [.int .i64 x4.1.1,.int .i64 x4.1.2,.int .i64 x4.2.1.1,.int .i64 x4.2.1.2,.slice A7 ((x4.2.2).length) c8] ?_
  refine A.dl 2 ?_
  refine A.q0 [] [] [.n,.n] [(22,.slice A2_ ((a1).length) c3_),(23,.int .i64 y1)] ?_
  obtain⟨x12,hv13,hF⟩:=A.bd_some hF
  refine A.AL.ixl 1 97 hv13 fun ho14=>?_
  intro A15 c16 b17 o18
  refine A.q0 [] [97] [.e 0 0] [(25,.agg #[.int .i64 x12.1.1,.int .i64 x12.1.2,.int .i64 x12.2.1.1,.int .i64 x12.2.1.2,.slice A15 ((x12.2.2).length) c16])] ?_
  refine A.AL.alloc 99 (cs:=[.int .i64 0,.int .i64 0,.int .i64 0,.int .i64 0,.slice none 0 0]) Tryz.zeroValue58 fun g19=>?_
  refine A.sw 99 [] [.int .i64 x12.1.1,.int .i64 x12.1.2,.int .i64 x12.2.1.1,.int .i64 x12.2.1.2,.slice A15 ((x12.2.2).length) c16] ?_
  refine A.dl 2 ?_
  refine A.q0 [96,99] [] [.n,.b 0 0,.b 1 0] [(26,.func (.func 67) #[] #[]),(27,.agg #[.int .i64 x4.1.1,.int .i64 x4.1.2,.int .i64 x4.2.1.1,.int .i64 x4.2.1.2,.slice A7 ((x4.2.2).length) c8]),(28,.agg #[.int .i64 x12.1.1,.int .i64 x12.1.2,.int .i64 x12.2.1.1,.int .i64 x12.2.1.2,.slice A15 ((x12.2.2).length) c16])] ?_
  obtain⟨r20,hv21,hF⟩:=A.bd_some hF
  refine A.AL.call 100 [] (first:=[]) (cap:=[]) cf67 (paths_same_ok ((x4.1.1,x4.1.2),(x4.2.1.1,x4.2.1.2),x4.2.2) ((x12.1.1,x12.1.2),(x12.2.1.1,x12.2.1.2),x12.2.2) A7 c8 A15 c16 ho6.1.1 ho6.1.2 ho6.2.1.1 ho6.2.1.2 ho14.1.1 ho14.1.2 ho14.2.1.1 ho14.2.1.2 r20 hv21) (.s 95 (.s 98 .nil)) ?_
  rintro _ _ ⟨rfl,rfl⟩
  refine⟨by kernel_rfl,?_⟩
  refine A.q0 [] [] [.n] [(30,.bool (!r20))] ?_
  refine A.dx 1 ?_
  refine A.AX.cnb rfl hF (fun hb hF=>?_) (fun hb hF=>?_)
  ·refine A.xl 1 ?_
   refine A.q0 [] [] [.n] [(6,.bool false)] ?_
   refine A.dx 1 ?_
   obtain rfl:=Option.some.inj hF
   exact A.rt1 [] ⟨rfl,rfl⟩
  refine A.xl 3 ?_
  obtain⟨hc22,hF⟩:=A.gd_some hF
  refine A.q [] [] [.n,.n] [Z.R64 (y1+1)] [(17,.int .i64 (y1+1))] hc22 ?_
  refine A.AL.done ?_
  exact A.j ⟨_,Nat.lt_succ_self _,⟨(y1+1),rfl,rfl,(Z.i64_has hc22),hF⟩⟩
 refine A.xl 3 ?_
 refine A.q0 [] [] [.n] [(6,.bool true)] ?_
 refine A.dx 1 ?_
 obtain rfl:=Option.some.inj hF
 exact A.rt1 [] ⟨rfl,rfl⟩
def F.paths_Same (a0:(List D57))(a1:(List D57)):Option Bool:=(F.slices_EqualFunc_api_Path_api_Path_api_Path_api_Path_paths_same a0 a1).bind fun r1=>(some r1)
theorem paths_Same_ok (a0:(List D57))(a1:(List D57))(A0_:Option Addr)(c1_:Nat)(A2_:Option Addr)(c3_:Nat)(r:Bool)(hF:F.paths_Same a0 a1=some r):
    A.Ct Tryz.prog 36 [.slice A0_ ((a0).length) c1_,.slice A2_ ((a1).length) c3_] [(0,.ln T57 A0_ c1_ a0),(1,.ln T57 A2_ c3_ a1)] [] (fun v H'=>v=.bool r∧H'=[]):=by
 refine A.Ct.enter Tryz.func36 rfl Tryz.ntmps36 rfl fun w0 F0=>?_
 rw[F.paths_Same]at hF
 refine A.xl 1 ?_
 refine A.q0 [] [] [.n] [] ?_
 refine A.dl 2 ?_
 refine A.q0 [] [] [.n,.n] [(5,.slice A0_ ((a0).length) c1_),(6,.slice A2_ ((a1).length) c3_)] ?_
 obtain⟨r1,hv2,hF⟩:=A.bd_some hF
 refine A.AL.call 2 [] (first:=[]) (cap:=[]) cf66 (slices_EqualFunc_api_Path_api_Path_api_Path_api_Path_paths_same_ok a0 a1 A0_ c1_ A2_ c3_ r1 hv2) (.s 0 (.s 1 .nil)) ?_
 rintro _ _ ⟨rfl,rfl⟩
 refine⟨by kernel_rfl,?_⟩
 refine A.q0 [] [] [.n] [(4,.bool r1)] ?_
 refine A.dx 1 ?_
 obtain rfl:=Option.some.inj hF
 exact A.rt1 [] ⟨rfl,rfl⟩
def F.L10_small_l1 (a0:(List D57)):Nat→Int→Int→Option Bool
 |0,_,_=>none
 |f+1,y4,y6=>if y6<((List.take ((min ((a0).length:Int) 3000).toNat) a0).length:Int)then((A.ix (List.take ((min ((a0).length:Int) 3000).toNat) a0) y6).bind fun x9=>(A.gd (Z.R64 (y4+(min ((x9.2.2).length:Int) 1048576))) (A.gd (Z.R64 (y6+1)) ((F.L10_small_l1 a0 f) (min (y4+(min ((x9.2.2).length:Int) 1048576)) 1048576) (y6+1)))))else(some (bif decide (((a0).length:Int)≤2500)then decide (y4≤9000)else false))
def F.L10_small (a0:(List D57)):Option Bool:=A.gd (0≤min ((a0).length:Int) 3000∧(min ((a0).length:Int) 3000).toNat≤(a0).length) (F.L10_small_l1 a0 A.FU 0 0)
theorem L10_small_ok (a0:(List D57))(A0_:Option Addr)(c1_:Nat)(r:Bool)(hF:F.L10_small a0=some r):
    A.Ct Tryz.prog 28 [.slice A0_ ((a0).length) c1_] [(0,.sh (.slice T57) [.slice A0_ (a0).length c1_] a0)] [] (fun v H'=>v=.bool r∧H'=[]):=by
 refine A.Ct.enter Tryz.func28 rfl Tryz.ntmps28 rfl fun w0 F0=>?_
 rw[F.L10_small]at hF
 refine A.xl 1 ?_
 refine A.q0 [] [] [.n] [] ?_
 refine A.dl 2 ?_
 refine A.q0 [] [] [.n] [(3,.int .i64 0)] ?_
 refine A.dl 3 ?_
 refine A.q0 [] [] [.n,.n,.n,.n] [(6,.slice A0_ ((a0).length) c1_),(9,.int .i64 (min ((a0).length:Int) 3000))] ?_
 obtain⟨hc1,hF⟩:=A.gd_some hF
 refine A.AL.cuth 0 1 (v:=(min ((a0).length:Int) 3000).toNat) (Int.toNat_of_nonneg hc1.1).symm hc1.2 fun c3=>?_
 refine A.q0 [] [] [.n,.n] [(11,.int .i64 ((List.take ((min ((a0).length:Int) 3000).toNat) a0).length:Int)),(12,.int .i64 0)] ?_
 refine A.dx 2 ?_
 refine A.lp_ [0,10,11] [0,1] (fun f nl nh=>∃(y4:Int),∃(y6:Int),nl=[(3,.int .i64 y4),(12,.int .i64 y6)]∧nh=[]∧IntKind.i64.has y4∧IntKind.i64.has y6∧F.L10_small_l1 a0 f y4 y6=some r) ⟨0,0,rfl,rfl,(A.hasl .i64 (0) rfl),(A.hasl .i64 (0) rfl),hF⟩ ?_
 rintro f8 _ _ ⟨y4,y6,rfl,rfl,hy5,hy7,hF⟩
 rcases f8 with _|f8
 ·exact A.no0 hF
 rw[F.L10_small_l1]at hF
 refine A.xl 1 ?_
 refine A.q0 [] [] [.n] [(13,.bool (decide (y6<((List.take ((min ((a0).length:Int) 3000).toNat) a0).length:Int))))] ?_
 refine A.dx 2 ?_
 refine A.AX.cnd rfl hF (fun hb hF=>?_) (fun hb hF=>?_)
 ·refine A.xl 5 ?_
  obtain⟨x9,hv10,hF⟩:=A.bd_some hF
  refine A.AL.ixs 1 8 hv10 fun ho11=>?_
  intro A12 c13 b14 o15
  refine A.q0 [] [8] [.e 0 0] [(15,.agg #[.int .i64 x9.1.1,.int .i64 x9.1.2,.int .i64 x9.2.1.1,.int .i64 x9.2.1.2,.slice A12 ((x9.2.2).length) c13])] ?_
  refine A.AL.alloc 10 (cs:=[.int .i64 0,.int .i64 0,.int .i64 0,.int .i64 0,.slice none 0 0]) Tryz.zeroValue58 fun g16=>?_
  refine A.sw 10 [] [.int .i64 x9.1.1,.int .i64 x9.1.2,.int .i64 x9.2.1.1,.int .i64 x9.2.1.2,.slice A12 ((x9.2.2).length) c13] ?_
  refine A.dl 1 ?_
  obtain⟨hc17,hF⟩:=A.gd_some hF
  refine A.q [10] [] [.n,.n,.b 0 4,.n,.n,.n,.n,.n] [Z.R64 (y4+(min ((x9.2.2).length:Int) 1048576))] [(3,.int .i64 (min (y4+(min ((x9.2.2).length:Int) 1048576)) 1048576))] hc17 ?_
  refine A.dl 2 ?_
  obtain⟨hc18,hF⟩:=A.gd_some hF
  refine A.q [] [] [.n,.n] [Z.R64 (y6+1)] [(12,.int .i64 (y6+1))] hc18 ?_
  refine A.AL.done ?_
  exact A.j ⟨_,Nat.lt_succ_self _,⟨(min (y4+(min ((x9.2.2).length:Int) 1048576)) 1048576),(y6+1),rfl,rfl,(A.has_min (Z.i64_has hc17) (A.hasl .i64 (1048576) rfl)),(Z.i64_has hc18),hF⟩⟩
 refine A.xl 3 ?_
 refine A.q0 [] [] [.n,.n,.n,.n,.sy .n,.sy .n,.pk,.n] [(2,.bool (bif decide (((a0).length:Int)≤2500)then decide (y4≤9000)else false))] ?_
 refine A.dx 1 ?_
 obtain rfl:=Option.some.inj hF
 exact A.rt1 [] ⟨rfl,rfl⟩
def F.R10_Reached_j1 (k1:(List D39)→Int→Option (List D39))(y5:Int)(xs10:List D39):Option (List D39):=A.gd (Z.R64 (y5+1)) (k1 xs10 (y5+1))
def F.R10_Reached_l2 (a0:(List D57))(a1:D39):Nat→(List D39)→Int→Option (List D39)
 |0,_,_=>none
 |f+1,xs4,y5=>if y5<((a0).length:Int)then((A.ix a0 y5).bind fun x12=>(if(x12.1.1,x12.1.2)=(a1.1,a1.2)then((A.ix a0 y5).bind fun x20=>(A.gd ((List.length (α:=D39) xs4+List.length (α:=D39) [(x20.2.1.1,x20.2.1.2)])*16≤140737488355328) (F.R10_Reached_j1 (F.R10_Reached_l2 a0 a1 f) y5 (xs4++[(x20.2.1.1,x20.2.1.2)]))))else(F.R10_Reached_j1 (F.R10_Reached_l2 a0 a1 f) y5 xs4)))else(some xs4)
def F.R10_Reached (a0:(List D57))(a1:D39):Option (List D39):=F.R10_Reached_l2 a0 a1 A.FU [] 0
theorem R10_Reached_ok (a0:(List D57))(a1:D39)(A0_:Option Addr)(c1_:Nat)(h2_:IntKind.i64.has a1.1)(h3_:IntKind.i64.has a1.2)(r:(List D39))(hF:F.R10_Reached a0 a1=some r):
    A.Ct Tryz.prog 29 [.slice A0_ ((a0).length) c1_,.agg #[.int .i64 a1.1,.int .i64 a1.2]] [(0,.ln T57 A0_ c1_ a0)] [] (fun v H'=>∃(A0':Option Addr) (c1':Nat),v=.slice A0' ((r).length) c1'∧H'=[(0,.own T39 40 A0' c1' r)]):=by
 refine A.Ct.enter Tryz.func29 rfl Tryz.ntmps29 rfl fun w0 F0=>?_
 rw[F.R10_Reached]at hF
 refine A.xl 1 ?_
 refine A.AL.box 1 (cs:=[.int .i64 a1.1,.int .i64 a1.2]) fun g1=>?_
 refine A.q0 [] [] [.n] [] ?_
 refine A.dl 2 ?_
 refine A.q0 [] [] [.n] [(5,.slice none 0 0)] ?_
 refine A.dl 3 ?_
 refine A.q0 [] [] [.n] [(6,.int .i64 0)] ?_
 refine A.dx 2 ?_
 refine A.nil 15 T39 40 ?_
 refine A.lp_ [0,3] [0,1] (fun f nl nh=>∃(xs4:List D39),∃(y5:Int),∃(A2:Option Addr),∃(c3:Nat),nl=[(5,.slice A2 ((xs4).length) c3),(6,.int .i64 y5)]∧nh=[(15,.own T39 40 A2 c3 xs4)]∧IntKind.i64.has y5∧F.R10_Reached_l2 a0 a1 f xs4 y5=some r) ⟨[],0,none,0,rfl,rfl,(A.hasl .i64 (0) rfl),hF⟩ ?_
 rintro f7 _ _ ⟨xs4,y5,A2,c3,rfl,rfl,hy6,hF⟩
 rcases f7 with _|f7
 ·exact A.no0 hF
 rw[F.R10_Reached_l2]at hF
 refine A.xl 2 ?_
 refine A.q0 [] [] [.n,.n,.n,.n] [(10,.bool (decide (y5<((a0).length:Int))))] ?_
 refine A.dx 1 ?_
 refine A.AX.cnd rfl hF (fun hb hF=>?_) (fun hb hF=>?_)
 ·refine A.xx 2 ?_
  refine A.AX.join [0,3,6] [0,1] (fun nl nh=>∃(xs10:List D39),∃(A8:Option Addr),∃(c9:Nat),nl=[(5,.slice A8 ((xs10).length) c9)]∧nh=[(15,.own T39 40 A8 c9 xs10)]∧F.R10_Reached_j1 (F.R10_Reached_l2 a0 a1 f7) y5 xs10=some r) ?_ ?_
  ·refine A.xx 2 ?_
   refine A.AX.dr mixed 7 7 (A.mb 7 0) ?_
   refine A.hq A.pb [] [0,1,15] [1] [] (A.mb 7 35) 4 [(0,.n),(1,.n),(5,.b 0 0)] [(13,.slice A0_ ((a0).length) c1_),(14,.int .i64 y5),(18,.agg #[.int .i64 a1.1,.int .i64 a1.2])] ?_
   obtain⟨x12,hv13,hF⟩:=A.bd_some hF
   refine A.AH.pkl 0 26 hv13 fun ho14=>?_
   intro A16 c17 b18 o19 hA15
   refine A.AH.v A.pb [0,1,15] [0,1,15,26,27] 2 (A.mb 7 39) rfl (fun a w hf hh=>A.r_ixa (t:=T57) hv13 hA15 hf) ?_
   refine A.hq A.pb [0,1,15,26,27] [0,1,15,26,27] [] [26] (A.mb 7 63) 1 [(3,.n),(4,.e 0 0)] [(17,.agg #[.int .i64 x12.1.1,.int .i64 x12.1.2])] ?_
   refine A.AH.v A.pb [0,1,15,26,27] [0,1,15,26,27] 6 (A.mb 7 127) rfl (fun a w hf hh=>eqagg_eql40 (x:=(x12.1.1,x12.1.2)) (y:=(a1.1,a1.2)) (hf.eval rfl) (hf.eval rfl)) ?_
   refine A.AH.done ?_
   refine A.ex 1 ?_
   refine A.AX.cnd rfl hF (fun hb hF=>?_) (fun hb hF=>?_)
   ·refine A.xl 0 ?_
    refine A.q0 [] [] [.n,.n,.n] [(20,.slice A2 ((xs4).length) c3),(21,.slice A0_ ((a0).length) c1_),(22,.int .i64 y5)] ?_
    obtain⟨x20,hv21,hF⟩:=A.bd_some hF
    refine A.AL.ixl 0 28 hv21 fun ho22=>?_
    intro A23 c24 b25 o26
    refine A.q0 [] [28] [.n,.e 0 2] [(25,.agg #[.int .i64 x20.2.1.1,.int .i64 x20.2.1.2])] ?_
    refine A.AL.bsl 30 (ty:=T39) (cs:=[.int .i64 x20.2.1.1,.int .i64 x20.2.1.2]) [(x20.2.1.1,x20.2.1.2)] ⟨⟨⟨rfl,ho22.2.1.1⟩,⟨rfl,ho22.2.1.2⟩⟩,rfl⟩ (fun g27=>?_) Tryz.zeroValue40 Tryz.sizeOf40
    obtain⟨hl30,hF⟩:=A.gd_some hF
    refine A.AL.app (k:=15) [] (A.rowO (k:=30) rfl) inf40 hl30 fun A28 c29=>?_
    refine A.q0 [] [] [.n] [(5,.slice A28 ((xs4++[(x20.2.1.1,x20.2.1.2)]).length) c29)] ?_
    refine A.de 1 ?_
    exact A.j ⟨(xs4++[(x20.2.1.1,x20.2.1.2)]),A28,c29,rfl,rfl,hF⟩
   refine A.xe 2 ?_
   exact A.j ⟨xs4,A2,c3,rfl,rfl,hF⟩
  rintro _ _ ⟨xs10,A8,c9,rfl,rfl,hF⟩
  rw[F.R10_Reached_j1]at hF
  refine A.xl 0 ?_
  obtain⟨hc11,hF⟩:=A.gd_some hF
  refine A.q [] [] [.n,.n,.n] [Z.R64 (y5+1)] [(6,.int .i64 (y5+1))] hc11 ?_
  refine A.AL.done ?_
  exact A.j ⟨_,Nat.lt_succ_self _,⟨xs10,(y5+1),A8,c9,rfl,rfl,(Z.i64_has hc11),hF⟩⟩
 refine A.xl 3 ?_
 refine A.q0 [] [] [.n,.n] [(4,.slice A2 ((xs4).length) c3)] ?_
 refine A.dx 1 ?_
 obtain rfl:=Option.some.inj hF
 exact A.rt1 [(0,15)] ⟨A2,c3,rfl,rfl⟩
end Go.Proofs.YtlbnpmfggfbdoaaGreatDoor
end
section
set_option linter.unusedVariables false
set_option linter.unusedSimpArgs false
set_option maxRecDepth 20000
set_option maxHeartbeats 8000000
set_option synthInstance.maxSize 1000000
set_option synthInstance.maxHeartbeats 400000
namespace Go.Proofs.YtlbnpmfggfbdoaaGreatDoor
open Go.RowKit
def F.R10_Rounds_j1 (k1:(List D44)→Int→Option (List D44))(y9:Int)(xs14:List D44):Option (List D44):=A.gd (Z.R64 (y9+1)) (k1 xs14 (y9+1))
def F.R10_Rounds_j2 (k1:(List D44)→Int→Option (List D44))(r2:(List D44))(xs8:List D44)(y9:Int)(y16:Bool):Option (List D44):=if y16=true then((A.ix r2 y9).bind fun x17=>(A.gd ((List.length (α:=D44) xs8+List.length (α:=D44) [(x17.1,x17.2.1,x17.2.2.1,x17.2.2.2.1,(x17.2.2.2.2.1,x17.2.2.2.2.2.1,x17.2.2.2.2.2.2.1,x17.2.2.2.2.2.2.2))])*64≤140737488355328) (F.R10_Rounds_j1 k1 y9 (xs8++[(x17.1,x17.2.1,x17.2.2.1,x17.2.2.2.1,(x17.2.2.2.2.1,x17.2.2.2.2.2.1,x17.2.2.2.2.2.2.1,x17.2.2.2.2.2.2.2))]))))else(F.R10_Rounds_j1 k1 y9 xs8)
def F.R10_Rounds_l3 (r2:(List D44)):Nat→(List D44)→Int→Option (List D44)
 |0,_,_=>none
 |f+1,xs8,y9=>if y9<((r2).length:Int)then((A.ix r2 y9).bind fun x26=>((A.ix r2 y9).bind fun x31=>(if x26.2.1≠x31.1 then(F.R10_Rounds_j2 (F.R10_Rounds_l3 r2 f) r2 xs8 y9 true)else((A.ix r2 y9).bind fun x36=>(if x36.2.2.1≠0 then(F.R10_Rounds_j2 (F.R10_Rounds_l3 r2 f) r2 xs8 y9 true)else((A.ix r2 y9).bind fun x41=>(F.R10_Rounds_j2 (F.R10_Rounds_l3 r2 f) r2 xs8 y9 (decide (x41.2.2.2.1≠0)))))))))else(some xs8)
def F.R10_Rounds (a0:(List D57))(a1:D39):Option (List D44):=(F.R10_Sums a0 (a1.1,a1.2) (a1.1,a1.2)).bind fun r2=>(F.R10_Rounds_l3 r2 A.FU [] 0)
theorem R10_Rounds_ok (a0:(List D57))(a1:D39)(A0_:Option Addr)(c1_:Nat)(h2_:IntKind.i64.has a1.1)(h3_:IntKind.i64.has a1.2)(r:(List D44))(hF:F.R10_Rounds a0 a1=some r):
    A.Ct Tryz.prog 31 [.slice A0_ ((a0).length) c1_,.agg #[.int .i64 a1.1,.int .i64 a1.2]] [(0,.ln T57 A0_ c1_ a0)] [] (fun v H'=>∃(A0':Option Addr) (c1':Nat),v=.slice A0' ((r).length) c1'∧H'=[(0,.own T44 45 A0' c1' r)]):=by
 refine A.Ct.enter Tryz.func31 rfl Tryz.ntmps31 rfl fun w0 F0=>?_
 rw[F.R10_Rounds]at hF
 refine A.xl 1 ?_
 refine A.AL.box 1 (cs:=[.int .i64 a1.1,.int .i64 a1.2]) fun g1=>?_
 refine A.q0 [] [] [.n] [] ?_
 refine A.dl 2 ?_
 refine A.q0 [] [] [.n] [(5,.slice none 0 0)] ?_
 refine A.dl 2 ?_
 refine A.q0 [1] [] [.n,.b 0 0,.b 0 0] [(8,.slice A0_ ((a0).length) c1_),(9,.agg #[.int .i64 a1.1,.int .i64 a1.2]),(10,.agg #[.int .i64 a1.1,.int .i64 a1.2])] ?_
 obtain⟨r2,hv3,hF⟩:=A.bd_some hF
 refine A.AL.call 2 [] (first:=[]) (cap:=[]) cf30 (R10_Sums_ok a0 (a1.1,a1.2) (a1.1,a1.2) A0_ c1_ h2_ h3_ h2_ h3_ r2 hv3) (.s 0 .nil) ?_
 rintro _ _ ⟨A4,c5,rfl,rfl⟩
 refine⟨by kernel_rfl,?_⟩
 refine A.q0 [] [] [.n] [(6,.slice A4 ((r2).length) c5)] ?_
 refine A.dl 3 ?_
 refine A.q0 [] [] [.n] [(7,.int .i64 0)] ?_
 refine A.dx 2 ?_
 refine A.nil 57 T44 45 ?_
 refine A.lp_ [6] [2] (fun f nl nh=>∃(xs8:List D44),∃(y9:Int),∃(A6:Option Addr),∃(c7:Nat),nl=[(5,.slice A6 ((xs8).length) c7),(7,.int .i64 y9)]∧nh=[(57,.own T44 45 A6 c7 xs8)]∧IntKind.i64.has y9∧F.R10_Rounds_l3 r2 f xs8 y9=some r) ⟨[],0,none,0,rfl,rfl,(A.hasl .i64 (0) rfl),hF⟩ ?_
 rintro f11 _ _ ⟨xs8,y9,A6,c7,rfl,rfl,hy10,hF⟩
 rcases f11 with _|f11
 ·exact A.no0 hF
 rw[F.R10_Rounds_l3]at hF
 refine A.xl 2 ?_
 refine A.q0 [] [] [.n,.n,.n,.n] [(15,.bool (decide (y9<((r2).length:Int))))] ?_
 refine A.dx 1 ?_
 refine A.AX.cnd rfl hF (fun hb hF=>?_) (fun hb hF=>?_)
 ·refine A.xx 2 ?_
  refine A.AX.join [6,7] [2] (fun nl nh=>∃(xs14:List D44),∃(A12:Option Addr),∃(c13:Nat),nl=[(5,.slice A12 ((xs14).length) c13)]∧nh=[(57,.own T44 45 A12 c13 xs14)]∧F.R10_Rounds_j1 (F.R10_Rounds_l3 r2 f11) y9 xs14=some r) ?_ ?_
  ·refine A.xx 1 ?_
   refine A.AX.join [5,6,7] [2,57] (fun nl nh=>∃(y16:Bool),nl=[(44,.bool y16)]∧nh=[]∧F.R10_Rounds_j2 (F.R10_Rounds_l3 r2 f11) r2 xs8 y9 y16=some r) ?_ ?_
   ·refine A.AX.dr mixed 27 27 (A.mb 27 0) ?_
    refine A.hq A.pb [] [2,57] [] [] (A.mb 27 99) 23 [(0,.n),(1,.n),(5,.n),(6,.n)] [(18,.slice A4 ((r2).length) c5),(19,.int .i64 y9),(23,.slice A4 ((r2).length) c5),(24,.int .i64 y9)] ?_
    obtain⟨x26,hv27,hF⟩:=A.bd_some hF
    refine A.AH.pko 2 70 hv27 fun ho28=>?_
    intro g30 hA29
    refine A.AH.v A.pb [2,57] [2,57,70] 2 (A.mb 27 103) rfl (fun a w hf hh=>A.r_ixo (t:=T44) hv27 hA29 hf) ?_
    refine A.hq A.pb [2,57,70] [2,57,70] [] [70] (A.mb 27 127) 20 [(3,.n),(4,.e 0 1)] [(22,.int .i64 x26.2.1)] ?_
    obtain⟨x31,hv32,hF⟩:=A.bd_some hF
    refine A.AH.pko 2 71 hv32 fun ho33=>?_
    intro g35 hA34
    refine A.AH.v A.pb [2,57,70] [2,57,70,71] 7 (A.mb 27 255) rfl (fun a w hf hh=>A.r_ixo (t:=T44) hv32 hA34 hf) ?_
    refine A.hq A.pb [2,57,70,71] [2,57,70,71] [] [71] (A.mb 27 4095) 15 [(8,.n),(9,.e 0 0),(10,.n),(11,.n)] [(29,.bool (decide (x26.2.1≠x31.1)))] ?_
    refine A.AH.cnp (j:=29) rfl hF (fun hb hF=>?_) (fun hb hF=>?_)
    ·refine A.hq A.pb [2,57,70,71] [2,57,70,71] [] [] (A.mb 27 134217727) 0 [(12,.off),(13,.off),(14,.off),(15,.off),(16,.off),(17,.off),(18,.n),(19,.n),(20,.off),(21,.off),(22,.off),(23,.off),(24,.off),(25,.off),(26,.n)] [(44,.bool true)] ?_
     refine A.AH.done ?_
     exact A.j ⟨true,rfl,rfl,hF⟩
    refine A.hq A.pb [2,57,70,71] [2,57,70,71] [] [] (A.mb 27 16383) 13 [(12,.on .n),(13,.on .n)] [(30,.slice A4 ((r2).length) c5),(31,.int .i64 y9)] ?_
    obtain⟨x36,hv37,hF⟩:=A.bd_some hF
    refine A.AH.pko 2 72 hv37 fun ho38=>?_
    intro g40 hA39
    refine A.AH.vg A.pb [2,57,70,71] [2,57,70,71,72] 14 (A.mb 27 32767) (dj:=29) rfl (fun a w hf hh=>A.r_ixo (t:=T44) hv37 hA39 hf) ?_
    refine A.hq A.pb [2,57,70,71,72] [2,57,70,71,72] [] [72] (A.mb 27 1048575) 7 [(15,.on .n),(16,.on (.e 0 2)),(17,.on .n),(18,.n),(19,.n)] [(37,.bool (decide (x36.2.2.1≠0)))] ?_
    refine A.AH.cnp (j:=37) rfl hF (fun hb hF=>?_) (fun hb hF=>?_)
    ·refine A.hq A.pb [2,57,70,71,72] [2,57,70,71,72] [] [] (A.mb 27 134217727) 0 [(20,.off),(21,.off),(22,.off),(23,.off),(24,.off),(25,.off),(26,.n)] [(44,.bool true)] ?_
     refine A.AH.done ?_
     exact A.j ⟨true,rfl,rfl,hF⟩
    refine A.hq A.pb [2,57,70,71,72] [2,57,70,71,72] [] [] (A.mb 27 4194303) 5 [(20,.on .n),(21,.on .n)] [(38,.slice A4 ((r2).length) c5),(39,.int .i64 y9)] ?_
    obtain⟨x41,hv42,hF⟩:=A.bd_some hF
    refine A.AH.pko 2 73 hv42 fun ho43=>?_
    intro g45 hA44
    refine A.AH.vg A.pb [2,57,70,71,72] [2,57,70,71,72,73] 22 (A.mb 27 8388607) (dj:=37) rfl (fun a w hf hh=>A.r_ixo (t:=T44) hv42 hA44 hf) ?_
    refine A.hq A.pb [2,57,70,71,72,73] [2,57,70,71,72,73] [] [73] (A.mb 27 134217727) 0 [(23,.on .n),(24,.on (.e 0 3)),(25,.on .n),(26,.n)] [(44,.bool (decide (x41.2.2.2.1≠0)))] ?_
    refine A.AH.done ?_
    exact A.j ⟨(decide (x41.2.2.2.1≠0)),rfl,rfl,hF⟩
   rintro _ _ ⟨y16,rfl,rfl,hF⟩
   rw[F.R10_Rounds_j2]at hF
   refine A.AX.cnb rfl hF (fun hb hF=>?_) (fun hb hF=>?_)
   ·refine A.xl 0 ?_
    refine A.q0 [] [] [.n,.n,.n] [(45,.slice A6 ((xs8).length) c7),(46,.slice A4 ((r2).length) c5),(47,.int .i64 y9)] ?_
    obtain⟨x17,hv18,hF⟩:=A.bd_some hF
    refine A.AL.ixo 2 74 hv18 fun ho19=>?_
    intro g20 hA21
    refine A.q0 [] [74] [.e 0 0] [(49,.agg #[.int .i64 x17.1,.int .i64 x17.2.1,.int .i64 x17.2.2.1,.int .i64 x17.2.2.2.1,.int .i64 x17.2.2.2.2.1,.int .i64 x17.2.2.2.2.2.1,.int .i64 x17.2.2.2.2.2.2.1,.int .i64 x17.2.2.2.2.2.2.2])] ?_
    refine A.AL.bsl 75 (ty:=T44) (cs:=[.int .i64 x17.1,.int .i64 x17.2.1,.int .i64 x17.2.2.1,.int .i64 x17.2.2.2.1,.int .i64 x17.2.2.2.2.1,.int .i64 x17.2.2.2.2.2.1,.int .i64 x17.2.2.2.2.2.2.1,.int .i64 x17.2.2.2.2.2.2.2]) [(x17.1,x17.2.1,x17.2.2.1,x17.2.2.2.1,(x17.2.2.2.2.1,x17.2.2.2.2.2.1,x17.2.2.2.2.2.2.1,x17.2.2.2.2.2.2.2))] ⟨⟨⟨rfl,ho19.1⟩,⟨rfl,ho19.2.1⟩,⟨rfl,ho19.2.2.1⟩,⟨rfl,ho19.2.2.2.1⟩,⟨⟨rfl,ho19.2.2.2.2.1⟩,⟨rfl,ho19.2.2.2.2.2.1⟩,⟨rfl,ho19.2.2.2.2.2.2.1⟩,⟨rfl,ho19.2.2.2.2.2.2.2⟩⟩⟩,rfl⟩ (fun g22=>?_) Tryz.zeroValue45 Tryz.sizeOf45
    obtain⟨hl25,hF⟩:=A.gd_some hF
    refine A.AL.app (k:=57) [] (A.rowO (k:=75) rfl) inf45 hl25 fun A23 c24=>?_
    refine A.q0 [] [] [.n] [(5,.slice A23 ((xs8++[(x17.1,x17.2.1,x17.2.2.1,x17.2.2.2.1,(x17.2.2.2.2.1,x17.2.2.2.2.2.1,x17.2.2.2.2.2.2.1,x17.2.2.2.2.2.2.2))]).length) c24)] ?_
    refine A.de 1 ?_
    exact A.j ⟨(xs8++[(x17.1,x17.2.1,x17.2.2.1,x17.2.2.2.1,(x17.2.2.2.2.1,x17.2.2.2.2.2.1,x17.2.2.2.2.2.2.1,x17.2.2.2.2.2.2.2))]),A23,c24,rfl,rfl,hF⟩
   refine A.xe 2 ?_
   exact A.j ⟨xs8,A6,c7,rfl,rfl,hF⟩
  rintro _ _ ⟨xs14,A12,c13,rfl,rfl,hF⟩
  rw[F.R10_Rounds_j1]at hF
  refine A.xl 0 ?_
  obtain⟨hc15,hF⟩:=A.gd_some hF
  refine A.q [] [] [.n,.n,.n] [Z.R64 (y9+1)] [(7,.int .i64 (y9+1))] hc15 ?_
  refine A.AL.done ?_
  exact A.j ⟨_,Nat.lt_succ_self _,⟨xs14,(y9+1),A12,c13,rfl,rfl,(Z.i64_has hc15),hF⟩⟩
 refine A.xl 3 ?_
 refine A.q0 [] [] [.n,.n] [(4,.slice A6 ((xs8).length) c7)] ?_
 refine A.dx 1 ?_
 obtain rfl:=Option.some.inj hF
 exact A.rt1 [(0,57)] ⟨A6,c7,rfl,rfl⟩
end Go.Proofs.YtlbnpmfggfbdoaaGreatDoor
end
section
set_option linter.unusedVariables false
namespace Go.A
open Go.RowKit Go.Z
section
variable {r:Option Nat}{P:Program}{ops:Array Oper}{Q:Exit→Act→World→Prop}{C:Cx}{l:List (Nat×Value)}{H Hq:List (Nat×Res)}{m f:Nat}{li:List Bool}
theorem AH.cov (ks:List Nat)(H':List (Nat×Res))(h:AH r P ops Q Hq m f li C l H')(e:kpH H ks ks=H':=by kernel_rfl):AH r P ops Q Hq m f li C l H:=fun a w hf hh=>h a w hf (hh.cov ks e)
theorem AH.cvl (l':List (Nat×Value))(h:AH r P ops Q Hq m f li C l' H)(e:Z.kp l (l'.map (·.1))=l':=by kernel_rfl):AH r P ops Q Hq m f li C l H:=fun a w hf hh=>h a w (Fr.cov hf e) hh
end
end Go.A
end
section
set_option linter.unusedVariables false
set_option linter.unusedSimpArgs false
set_option maxRecDepth 20000
set_option maxHeartbeats 8000000
set_option synthInstance.maxSize 1000000
set_option synthInstance.maxHeartbeats 400000
namespace Go.Proofs.YtlbnpmfggfbdoaaGreatDoor
open Go.RowKit
def F.slices_Values_api_Place_api_Place_1_it_l1 (b0:(List D39)):Nat→Int→Option (List D39)
 |0,_=>none
 |f+1,y1=>if y1<((b0).length:Int)then((A.ix b0 y1).bind fun x9=>(A.cns (x9.1,x9.2) (A.gd (Z.R64 (y1+1)) ((F.slices_Values_api_Place_api_Place_1_it_l1 b0 f) (y1+1)))))else(some [])
def F.slices_Values_api_Place_api_Place_1_it (b0:(List D39)):Option (List D39):=F.slices_Values_api_Place_api_Place_1_it_l1 b0 A.FU 0
theorem slices_Values_api_Place_api_Place_1_it_sq (b0:(List D39))(g0_:Nat)(A1_:Option Addr)(c2_:Nat)(xs:List D39)(hF:F.slices_Values_api_Place_api_Place_1_it b0=some xs):
    A.Sq Tryz.prog 94 [.pointer (some ⟨g0_,0,none⟩)] [(0,.el none g0_ 0 [.slice A1_ ((b0).length) c2_]),(1,.sh (.slice T39) [.slice A1_ (b0).length c2_] b0)] T39 (fun cs=>[Z.vof true cs]) xs:=by
 refine A.Sq.enter Tryz.func94 rfl Tryz.ntmps94 rfl fun lid w0 J Jx Φ hY hJ0=>?_
 obtain⟨rs0,hrs⟩: ∃rs0,rs0=xs:=⟨_,rfl⟩
 have hR0:A.Rem xs 0 rs0:=hrs▸A.Rem.zero xs
 rw[F.slices_Values_api_Place_api_Place_1_it,←hrs]at hF
 clear hrs
 refine A.xl 1 ?_
 refine A.q0 [] [0] [.e 0 0,.n,.n] [(5,.slice A1_ ((b0).length) c2_),(6,.int .i64 ((b0).length:Int)),(7,.int .i64 0)] ?_
 refine A.dx 2 ?_
 refine A.AX.loopC (A.CY 16 Φ) (0,w0) [0,5,6] [1] [1] (fun f i nl nh=>∃(y1:Int),∃(rs:List D39),nl=[(7,.int .i64 y1)]∧nh=[]∧IntKind.i64.has y1∧J i.1 i.2∧A.Rem xs i.1 rs∧F.slices_Values_api_Place_api_Place_1_it_l1 b0 f y1=some rs) A.FU [(7,.int .i64 0)] [] ⟨0,_,rfl,rfl,(A.hasl .i64 (0) rfl),hJ0,hR0,hF⟩ ?_
 rintro f3 ⟨k4,w5⟩ _ _ ⟨y1,rs8,rfl,rfl,hy2,hJ6,hR7,hF⟩
 rcases f3 with _|f3
 ·exact A.no0 hF
 rw[F.slices_Values_api_Place_api_Place_1_it_l1]at hF
 refine A.xl 1 ?_
 refine A.q0 [] [] [.n] [(8,.bool (decide (y1<((b0).length:Int))))] ?_
 refine A.dx 2 ?_
 refine A.AX.cnd rfl hF (fun hb hF=>?_) (fun hb hF=>?_)
 ·refine A.xl 5 ?_
  obtain⟨x9,hv10,hF⟩:=A.bd_some hF
  refine A.AL.ixs 1 6 hv10 fun ho11=>?_
  intro b12 o13
  refine A.q0 [] [6] [.e 0 0] [(10,.agg #[.int .i64 x9.1,.int .i64 x9.2])] ?_
  refine A.AL.alloc 7 (cs:=[.int .i64 0,.int .i64 0]) Tryz.zeroValue40 fun g14=>?_
  refine A.sw 7 [] [.int .i64 x9.1,.int .i64 x9.2] ?_
  refine A.dl 2 ?_
  refine A.q0 [7] [] [.n,.b 0 0] [(11,.func (.yield lid) #[] #[]),(12,.agg #[.int .i64 x9.1,.int .i64 x9.2])] ?_
  obtain⟨rs15,hqrs15,hF⟩:=A.cns_some hF
  refine A.AL.yield hY hJ6 (hqrs15▸hR7) [.int .i64 x9.1,.int .i64 x9.2] ⟨⟨rfl,ho11.1⟩,⟨rfl,ho11.2⟩⟩ (fun w16 hJ17 hR18=>?_) (fun w16 hX19=>?_)
  ·refine A.q0 [] [] [.n] [(14,.bool false)] ?_
   refine A.dx 1 ?_
   refine A.AX.cnf rfl ?_
   refine A.xl 3 ?_
   obtain⟨hc20,hF⟩:=A.gd_some hF
   refine A.q [] [] [.n,.n] [Z.R64 (y1+1)] [(7,.int .i64 (y1+1))] hc20 ?_
   refine A.AL.done ?_
   exact A.AE.jC (k4+1,w16) [1] [(7,.int .i64 (y1+1))] [] ⟨_,Nat.lt_succ_self _,⟨(y1+1),_,rfl,rfl,(Z.i64_has hc20),hJ17,hR18,hF⟩⟩
  refine A.q0 [] [] [.n] [(14,.bool true)] ?_
  refine A.dx 1 ?_
  refine A.AX.cnt rfl ?_
  exact A.AX.rtX hY hX19
 refine A.xe 1 ?_
 obtain rfl:=Option.some.inj hF
 exact A.AE.rtY hY hJ6 hR7
def F.L10_told_slices_Values_api_Place_api_Place_1_l1 (a1:Int):List D39→(List D39)→Option (List D39)
 | [],xs29=>some xs29
 |y24::f,xs29=>if a1≤((xs29).length:Int)then(some xs29)else(A.gd ((List.length (α:=D39) xs29+List.length (α:=D39) [(y24.1,y24.2)])*16≤140737488355328) ((F.L10_told_slices_Values_api_Place_api_Place_1_l1 a1 f) (xs29++[(y24.1,y24.2)])))
def F.L10_told_slices_Values_api_Place_api_Place_1 (a0_0:(List D39))(a1:Int):Option (List D39):=(F.slices_Values_api_Place_api_Place_1_it a0_0).bind fun xs15=>F.L10_told_slices_Values_api_Place_api_Place_1_l1 a1 xs15 []
theorem L10_told_slices_Values_api_Place_api_Place_1_ok (a0_0:(List D39))(a1:Int)(g0_:Nat)(A1_:Option Addr)(c2_:Nat)(h3_:IntKind.i64.has a1)(r:(List D39))(hF:F.L10_told_slices_Values_api_Place_api_Place_1 a0_0 a1=some r):
    A.Ct Tryz.prog 33 [.func (.func 94) #[] #[.pointer (some ⟨g0_,0,none⟩)],.int .i64 a1] [(0,.el none g0_ 0 [.slice A1_ ((a0_0).length) c2_]),(1,.sh (.slice T39) [.slice A1_ (a0_0).length c2_] a0_0)] [] (fun v H'=>∃(A0':Option Addr) (c1':Nat),v=.slice A0' ((r).length) c1'∧H'=[(0,.own T39 40 A0' c1' r)]):=by
 refine A.Ct.enterM Tryz.func33 rfl Tryz.ntmps33 rfl fun w0 F0=>?_
 rw[F.L10_told_slices_Values_api_Place_api_Place_1]at hF
 refine A.xl 1 ?_
 refine A.AL.box 2 (cs:=[.int .i64 a1]) fun g1=>?_
 refine A.q0 [] [] [.n] [] ?_
 refine A.dl 2 ?_
 refine A.AL.alloc 3 (cs:=[.slice none 0 0]) Tryz.zeroValue72 fun g2=>?_
 refine A.dl 3 ?_
 refine A.q0 [] [] [.n] [(7,.func (.func 94) #[] #[.pointer (some ⟨g0_,0,none⟩)])] ?_
 refine A.AL.val rfl (fun a w hf hh=>Z.r_eqfn rfl (hf.eval rfl)) ?_
 refine A.dx 1 ?_
 refine A.AX.cnf rfl ?_
 refine A.xl 4 ?_
 refine A.q0 [] [] [.n] [(9,.func (.func 94) #[] #[.pointer (some ⟨g0_,0,none⟩)])] ?_
 refine A.dx 2 ?_
 refine A.nil 11 T39 40 ?_
 obtain⟨xs15,hv16,hF⟩:=A.bd_some hF
 refine A.AX.rgf 12 13 14 [0,1,2] [3,11,0,1,2] [13,12,3,11,0,1,2] (fun k nh=>∃(xs29:List D39),∃(A27:Option Addr),∃(c28:Nat),nh=[(3,.blk g2 72 [.slice A27 ((xs29).length) c28]),(11,.own T39 40 A27 c28 xs29)]∧F.L10_told_slices_Values_api_Place_api_Place_1_l1 a1 (List.drop k xs15) xs29=some r) [(3,.blk g2 72 [.slice none 0 0]),(11,.own T39 40 none 0 [])] cf94 (slices_Values_api_Place_api_Place_1_it_sq a0_0 g0_ A1_ c2_ xs15 hv16) (fun _=>rfl) ⟨[],none,0,rfl,hF⟩ ?_ ?_ ?_
 ·rintro k23 _ D17 L18 ⟨xs29,A27,c28,rfl,hF⟩
  exact⟨⟨_,(.s 0 (.s 1 .nil))⟩,rfl,fun o=>rfl⟩
 ·rintro k23 _ y24 D17 L18 w22 o19 ⟨xs29,A27,c28,rfl,hF⟩ hx25 hxo26 hh21
  rw[A.drop_at hx25,F.L10_told_slices_Values_api_Place_api_Place_1_l1]at hF
  refine A.xl 0 ?_
  refine A.AL.alloc 19 (cs:=[.int .i64 0,.int .i64 0]) Tryz.zeroValue40 fun g30=>?_
  refine A.sw 19 [] [.int .i64 y24.1,.int .i64 y24.2] ?_
  refine A.AL.done ?_
  refine A.AE.flip 12 13 fun o20=>?_
  refine A.xl 3 ?_
  refine A.q0 [3,2] [] [.b 0 0,.n,.b 1 0,.n] [(14,.bool (decide (a1≤((xs29).length:Int))))] ?_
  refine A.dx 1 ?_
  refine A.AX.cnd rfl hF (fun hb hF=>?_) (fun hb hF=>?_)
  ·refine A.AX.bexit hh21 [13,1,2,3,11,12,19] 100000 [(13,100013),(1,100001),(2,100002),(3,100003),(11,100011),(12,100012),(19,100019),(0,0)] [(1,.sh (.slice T39) [.slice A1_ (a0_0).length c2_] a0_0),(2,.blk g1 3 [.int .i64 a1]),(3,.blk g2 72 [.slice A27 ((xs29).length) c28]),(11,.own T39 40 A27 c28 xs29),(12,.ob D17 A.dfT),(19,.blk g30 40 [.int .i64 y24.1,.int .i64 y24.2]),(0,.el none g0_ 0 [.slice A1_ ((a0_0).length) c2_])] ?_ rfl rfl
   refine A.AE.x rfl ?_
   refine A.el 2 ?_
   refine A.q0 [3] [] [.b 0 0,.n] [(4,.slice A27 ((xs29).length) c28)] ?_
   refine A.dx 1 ?_
   obtain rfl:=Option.some.inj hF
   exact A.AX.rtM (Ds:=[D17]) [12] [(0,11)] (.slice A27 ((xs29).length) c28) (⟨rfl,trivial⟩) (fun a w hf hh=>Z.resv1 rfl (Z.rv_t hf rfl)) (⟨A27,c28,rfl,rfl⟩)
  refine A.xl 2 ?_
  refine A.q0 [3,19] [] [.b 0 0,.b 1 0] [(15,.slice A27 ((xs29).length) c28),(16,.agg #[.int .i64 y24.1,.int .i64 y24.2])] ?_
  refine A.AL.bsl 20 (ty:=T39) (cs:=[.int .i64 y24.1,.int .i64 y24.2]) [(y24.1,y24.2)] ⟨⟨⟨rfl,hxo26.1⟩,⟨rfl,hxo26.2⟩⟩,rfl⟩ (fun g31=>?_) Tryz.zeroValue40 Tryz.sizeOf40
  obtain⟨hl34,hF⟩:=A.gd_some hF
  refine A.AL.app (k:=11) [] (A.rowO (k:=20) rfl) inf40 hl34 fun A32 c33=>?_
  refine A.sw 3 [] [.slice A32 ((xs29++[(y24.1,y24.2)]).length) c33] ?_
  refine A.de 1 ?_
  exact A.AE.bn hh21 [13,12,3,11,1,2] 100000 [(13,100013),(12,100012),(3,100003),(11,100011),(0,0),(1,100001),(2,100002)] [(3,.blk g2 72 [.slice A32 ((xs29++[(y24.1,y24.2)]).length) c33]),(11,.own T39 40 A32 c33 (xs29++[(y24.1,y24.2)]))] ⟨(xs29++[(y24.1,y24.2)]),A32,c33,rfl,hF⟩ rfl rfl
 rintro _ D17 L18 ⟨xs29,A27,c28,rfl,hF⟩
 rw[List.drop_length,F.L10_told_slices_Values_api_Place_api_Place_1_l1]at hF
 refine A.el 3 ?_
 refine A.q0 [3] [] [.b 0 0,.n] [(4,.slice A27 ((xs29).length) c28)] ?_
 refine A.dx 1 ?_
 obtain rfl:=Option.some.inj hF
 exact A.AX.rtM (Ds:=[D17]) [12] [(0,11)] (.slice A27 ((xs29).length) c28) (⟨rfl,trivial⟩) (fun a w hf hh=>Z.resv1 rfl (Z.rv_t hf rfl)) (⟨A27,c28,rfl,rfl⟩)
def F.L10_PathsAsks_j1 (y12:Bool):Option Bool:=some y12
def F.L10_PathsAsks_j2 (a0:(List D57))(a1:(List D57))(a2:D39)(a3:D39)(a4:D62)(a5:D62)(a6:UInt8)(y5:Bool):Option Bool:=if y5=true then((F.L10_begun).bind fun r6=>(some r6))else((F.R10_Reached a0 (a2.1,a2.2)).bind fun r8=>((F.paths_Sums a0 (a2.1,a2.2) (a3.1,a3.2)).bind fun r14=>((F.R10_Sums a0 (a2.1,a2.2) (a3.1,a3.2)).bind fun r18=>((F.R02_Same r14 r18).bind fun r22=>(if r22=true then((F.paths_Rounds a0 (a2.1,a2.2)).bind fun r24=>((F.R10_Rounds a0 (a2.1,a2.2)).bind fun r28=>((F.R02_Same r24 r28).bind fun r32=>(if r32=true then((F.paths_Reached a0 (a2.1,a2.2)).bind fun r34=>((F.L10_told_slices_Values_api_Place_api_Place_1 r34 9999).bind fun r39=>((F.slices_Equal_api_Place_api_Place r39 r8).bind fun r43=>(if r43=true then(A.gd (Z.R64 ((a6.toNat:Int))∧Z.R64 ((a6.toNat:Int))) (A.gd (0≤min ((r8).length:Int) (a6.toNat:Int)∧(min ((r8).length:Int) (a6.toNat:Int)).toNat≤(r8).length) ((F.paths_Reached a0 (a2.1,a2.2)).bind fun r47=>((F.L10_told_slices_Values_api_Place_api_Place_1 r47 (a6.toNat:Int)).bind fun r52=>((F.slices_Equal_api_Place_api_Place r52 (List.take ((min ((r8).length:Int) (a6.toNat:Int)).toNat) r8)).bind fun r56=>(if r56=true then((F.paths_Could a0 (a2.1,a2.2) (a4.1,a4.2.1,(a4.2.2.1,a4.2.2.2.1,a4.2.2.2.2.1,a4.2.2.2.2.2)) (a3.1,a3.2) (a5.1,a5.2.1,(a5.2.2.1,a5.2.2.2.1,a5.2.2.2.2.1,a5.2.2.2.2.2))).bind fun r58=>((F.R10_Could a0 (a2.1,a2.2) (a4.1,a4.2.1,(a4.2.2.1,a4.2.2.2.1,a4.2.2.2.2.1,a4.2.2.2.2.2)) (a3.1,a3.2) (a5.1,a5.2.1,(a5.2.2.1,a5.2.2.2.1,a5.2.2.2.2.1,a5.2.2.2.2.2))).bind fun r60=>(if(r58==r60)=true then((F.paths_Same a0 a1).bind fun r62=>((F.R10_Same a0 a1).bind fun r64=>(if(r62==r64)=true then((F.paths_Same a0 a0).bind fun r66=>(F.L10_PathsAsks_j1 r66))else(F.L10_PathsAsks_j1 false))))else(F.L10_PathsAsks_j1 false))))else(F.L10_PathsAsks_j1 false)))))))else(F.L10_PathsAsks_j1 false)))))else(F.L10_PathsAsks_j1 false)))))else(F.L10_PathsAsks_j1 false))))))
def F.L10_PathsAsks (a0:(List D57))(a1:(List D57))(a2:D39)(a3:D39)(a4:D62)(a5:D62)(a6:UInt8):Option Bool:=(F.L10_begun).bind fun r68=>(if(!r68)=true then(F.L10_PathsAsks_j2 a0 a1 a2 a3 a4 a5 a6 true)else((F.L10_small a0).bind fun r70=>(if(!r70)=true then(F.L10_PathsAsks_j2 a0 a1 a2 a3 a4 a5 a6 true)else((F.L10_small a1).bind fun r72=>(F.L10_PathsAsks_j2 a0 a1 a2 a3 a4 a5 a6 (!r72))))))
theorem L10_PathsAsks_ok (a0:(List D57))(a1:(List D57))(a2:D39)(a3:D39)(a4:D62)(a5:D62)(a6:UInt8)(A0_:Option Addr)(c1_:Nat)(A2_:Option Addr)(c3_:Nat)(h4_:IntKind.i64.has a2.1)(h5_:IntKind.i64.has a2.2)(h6_:IntKind.i64.has a3.1)(h7_:IntKind.i64.has a3.2)(h8_:IntKind.i64.has a4.1)(h9_:IntKind.i64.has a4.2.1)(h10_:IntKind.i64.has a4.2.2.1)(h11_:IntKind.i64.has a4.2.2.2.1)(h12_:IntKind.i64.has a4.2.2.2.2.1)(h13_:IntKind.i64.has a4.2.2.2.2.2)(h14_:IntKind.i64.has a5.1)(h15_:IntKind.i64.has a5.2.1)(h16_:IntKind.i64.has a5.2.2.1)(h17_:IntKind.i64.has a5.2.2.2.1)(h18_:IntKind.i64.has a5.2.2.2.2.1)(h19_:IntKind.i64.has a5.2.2.2.2.2)(r:Bool)(hF:F.L10_PathsAsks a0 a1 a2 a3 a4 a5 a6=some r):
    A.Ct Tryz.prog 7 [.slice A0_ ((a0).length) c1_,.slice A2_ ((a1).length) c3_,.agg #[.int .i64 a2.1,.int .i64 a2.2],.agg #[.int .i64 a3.1,.int .i64 a3.2],.agg #[.int .i64 a4.1,.int .i64 a4.2.1,.int .i64 a4.2.2.1,.int .i64 a4.2.2.2.1,.int .i64 a4.2.2.2.2.1,.int .i64 a4.2.2.2.2.2],.agg #[.int .i64 a5.1,.int .i64 a5.2.1,.int .i64 a5.2.2.1,.int .i64 a5.2.2.2.1,.int .i64 a5.2.2.2.2.1,.int .i64 a5.2.2.2.2.2],.int .u8 (a6.toNat:Int)] [(0,.sh (.slice T57) [.slice A0_ (a0).length c1_] a0),(1,.sh (.slice T57) [.slice A2_ (a1).length c3_] a1),(2,.el none 0 0 A.tabF),(3,.el none 1 0 A.tabA)] [] (fun v H'=>v=.bool r∧H'=[]):=by
 refine A.Ct.enter Tryz.func7 rfl Tryz.ntmps7 rfl fun w0 F0=>?_
 rw[F.L10_PathsAsks]at hF
 refine A.xl 1 ?_
 refine A.AL.box 4 (cs:=[.int .i64 a2.1,.int .i64 a2.2]) fun g1=>?_
 refine A.AL.box 5 (cs:=[.int .i64 a3.1,.int .i64 a3.2]) fun g2=>?_
 refine A.AL.box 6 (cs:=[.int .i64 a4.1,.int .i64 a4.2.1,.int .i64 a4.2.2.1,.int .i64 a4.2.2.2.1,.int .i64 a4.2.2.2.2.1,.int .i64 a4.2.2.2.2.2]) fun g3=>?_
 refine A.AL.box 7 (cs:=[.int .i64 a5.1,.int .i64 a5.2.1,.int .i64 a5.2.2.1,.int .i64 a5.2.2.2.1,.int .i64 a5.2.2.2.2.1,.int .i64 a5.2.2.2.2.2]) fun g4=>?_
 refine A.q0 [] [] [.n] [] ?_
 refine A.dx 2 ?_
 refine A.AX.join [0,1,6,9,10,11,12] [0,1,2,3,4,5,6,7] (fun nl nh=>∃(y5:Bool),nl=[(27,.bool y5)]∧nh=[]∧F.L10_PathsAsks_j2 a0 a1 a2 a3 a4 a5 a6 y5=some r) ?_ ?_
 ·refine A.xl 0 ?_
  obtain⟨r68,hv69,hF⟩:=A.bd_some hF
  refine A.AL.call 8 [] (first:=[]) (cap:=[]) cf8 (L10_begun_ok r68 hv69) (.s 2 (.s 3 .nil)) ?_
  rintro _ _ ⟨rfl,rfl⟩
  refine⟨by kernel_rfl,?_⟩
  refine A.q0 [] [] [.n,.n] [(18,.bool (!r68))] ?_
  refine A.AL.cnd (j:=18) rfl hF (fun hF=>?_) (fun hF=>?_)
  ·refine A.q0 [] [] [.off,.off,.off,.n,.n,.off,.off,.off,.n] [(27,.bool true)] ?_
   refine A.AL.done ?_
   exact A.j ⟨true,rfl,rfl,hF⟩
  refine A.q0 [] [] [.on .n] [(19,.slice A0_ ((a0).length) c1_)] ?_
  refine A.AL.on (dj:=18) rfl rfl ?_
  obtain⟨r70,hv71,hF⟩:=A.bd_some hF
  refine A.AL.call 48 [] (first:=[]) (cap:=[]) cf28 (L10_small_ok a0 A0_ c1_ r70 hv71) (.s 0 .nil) ?_
  rintro _ _ ⟨rfl,rfl⟩
  refine⟨by kernel_rfl,?_⟩
  refine A.q0 [] [] [.on .n,.n,.n] [(23,.bool (!r70))] ?_
  refine A.AL.cnd (j:=23) rfl hF (fun hF=>?_) (fun hF=>?_)
  ·refine A.q0 [] [] [.off,.off,.off,.n] [(27,.bool true)] ?_
   refine A.AL.done ?_
   exact A.j ⟨true,rfl,rfl,hF⟩
  refine A.q0 [] [] [.on .n] [(24,.slice A2_ ((a1).length) c3_)] ?_
  refine A.AL.on (dj:=23) rfl rfl ?_
  obtain⟨r72,hv73,hF⟩:=A.bd_some hF
  refine A.AL.call 88 [] (first:=[]) (cap:=[]) cf28 (L10_small_ok a1 A2_ c3_ r72 hv73) (.s 1 .nil) ?_
  rintro _ _ ⟨rfl,rfl⟩
  refine⟨by kernel_rfl,?_⟩
  refine A.q0 [] [] [.on .n,.n] [(27,.bool (!r72))] ?_
  refine A.AL.done ?_
  exact A.j ⟨(!r72),rfl,rfl,hF⟩
 rintro _ _ ⟨y5,rfl,rfl,hF⟩
 rw[F.L10_PathsAsks_j2]at hF
 refine A.AX.cnb rfl hF (fun hb hF=>?_) (fun hb hF=>?_)
 ·refine A.xl 1 ?_
  obtain⟨r6,hv7,hF⟩:=A.bd_some hF
  refine A.AL.call 128 [] (first:=[]) (cap:=[]) cf8 (L10_begun_ok r6 hv7) (.s 2 (.s 3 .nil)) ?_
  rintro _ _ ⟨rfl,rfl⟩
  refine⟨by kernel_rfl,?_⟩
  refine A.q0 [] [] [.n] [(14,.bool r6)] ?_
  refine A.dx 1 ?_
  obtain rfl:=Option.some.inj hF
  exact A.rt1 [] ⟨rfl,rfl⟩
 refine A.xl 3 ?_
 refine A.q0 [4] [] [.n,.b 0 0] [(29,.slice A0_ ((a0).length) c1_),(30,.agg #[.int .i64 a2.1,.int .i64 a2.2])] ?_
 obtain⟨r8,hv9,hF⟩:=A.bd_some hF
 refine A.AL.call 168 [] (first:=[]) (cap:=[]) cf29 (R10_Reached_ok a0 (a2.1,a2.2) A0_ c1_ h4_ h5_ r8 hv9) (.l 0 .nil) ?_
 rintro _ _ ⟨A10,c11,rfl,rfl⟩
 refine⟨by kernel_rfl,?_⟩
 refine A.q0 [] [] [.n] [(15,.slice A10 ((r8).length) c11)] ?_
 refine A.dx 1 ?_
 refine A.AX.join [] [2,3] (fun nl nh=>∃(y12:Bool),nl=[(14,.bool y12)]∧nh=[]∧F.L10_PathsAsks_j1 y12=some r) ?_ ?_
 ·refine A.frz 168 [] ?_
  refine A.AX.drF mixed 72 72 [0,0,0,7,0,0,0,120,136,256,512,512,3584,512,512,29184,37376,66048,196608,262144,262144,1835008,2359296,262144,12845056,17039360,50331648,67108864,67108864,469762048,67108864,1140850688,2751463424,67108864,67108864,17246978048,67108864,68786585600,171865800704,283534950400,554117890048,1099578736640,3298534883328,4398046511104,4398046511104,4398046511104,4398046511104,4398046511104,277076930199552,4398046511104,4398046511104,4398046511104,4398046511104,4398046511104,17737321579282432,18300271532703744,36033195065475072,90071992547409920,144115188075855872,144115188075855872,1008806316530991104,144115188075855872,144115188075855872,8214565720323784704,10520408729537478656,18590859261785407488,46116860184273879040,73786976294838206464,73786976294838206464,516508834063867445248,664082786653543858176,2361183241434822606847] [0,0,0,7,0,0,0,112,136,256,512,512,3584,512,512,25088,37376,66048,131072,262144,262144,1835008,2359296,262144,12845056,17039360,33554432,67108864,67108864,469762048,67108864,1140850688,2751463424,67108864,67108864,17246978048,67108864,68786585600,171865800704,283534950400,554117890048,1099578736640,2199023255552,4398046511104,4398046511104,4398046511104,4398046511104,4398046511104,277076930199552,4398046511104,4398046511104,4398046511104,4398046511104,4398046511104,17455846602571776,18300271532703744,36033195065475072,72057594037927936,144115188075855872,144115188075855872,1008806316530991104,144115188075855872,144115188075855872,7061644215716937728,10520408729537478656,18590859261785407488,36893488147419103232,73786976294838206464,73786976294838206464,516508834063867445248,664082786653543858176,1180591620717411303424] fun hT13=>?_
  refine A.AH.qF hT13 A.pb [] [0,1,2,3,4,5,6,7,168] [4,5] [] 0 119 66 [(0,.n),(1,.b 0 0),(2,.b 1 0),(4,.n),(5,.b 0 0),(6,.b 1 0)] [32,33,34,36,37,38] [] [(32,.slice A0_ ((a0).length) c1_),(33,.agg #[.int .i64 a2.1,.int .i64 a2.2]),(34,.agg #[.int .i64 a3.1,.int .i64 a3.2]),(36,.slice A0_ ((a0).length) c1_),(37,.agg #[.int .i64 a2.1,.int .i64 a2.2]),(38,.agg #[.int .i64 a3.1,.int .i64 a3.2])] trivial ?_
  refine A.AH.oneF hT13 3 ?_
  obtain⟨r14,hv15,hF⟩:=A.bd_some hF
  refine A.AL.call 208 [] (first:=[]) (cap:=[]) cf17 (paths_Sums_ok a0 (a2.1,a2.2) (a3.1,a3.2) A0_ c1_ h4_ h5_ h6_ h7_ r14 hv15) (.l 0 .nil) ?_
  rintro _ _ ⟨A16,c17,rfl,rfl⟩
  refine⟨by kernel_rfl,?_⟩
  refine A.AH.nxF 127 [0,1,2,3,4,5,6,7,168] ?_
  refine A.AH.oneF hT13 7 ?_
  obtain⟨r18,hv19,hF⟩:=A.bd_some hF
  refine A.AL.call 248 [] (first:=[]) (cap:=[]) cf30 (R10_Sums_ok a0 (a2.1,a2.2) (a3.1,a3.2) A0_ c1_ h4_ h5_ h6_ h7_ r18 hv19) (.l 0 .nil) ?_
  rintro _ _ ⟨A20,c21,rfl,rfl⟩
  refine⟨by kernel_rfl,?_⟩
  refine A.AH.nxF 255 [0,1,2,3,4,5,6,7,168] ?_
  refine A.AH.oneF hT13 8 ?_
  obtain⟨r22,hv23,hF⟩:=A.bd_some hF
  refine A.AL.call 288 [] (first:=[]) (cap:=[]) cf22 (R02_Same_ok r14 r18 A16 c17 A20 c21 r22 hv23) (.o 208 (.o 248 .nil)) ?_
  rintro _ _ ⟨rfl,rfl⟩
  refine⟨by kernel_rfl,?_⟩
  refine A.AH.nxF 511 [0,1,2,3,4,5,6,7,168] ?_
  refine A.AH.qF hT13 A.pb [0,1,2,3,4,5,6,7,168] [0,1,2,3,4,5,6,7,168,208,248] [] [] 511 1023 62 [(9,.n)] [41] [] [(41,.bool r22)] trivial ?_
  refine A.AH.cnd (j:=41) rfl hF (fun hF=>?_) (fun hF=>?_)
  ·refine A.AH.cov [0,1,2,3,4,5,6,7,168,208,248] [(0,.sh (.slice T57) [.slice A0_ (a0).length c1_] a0),(1,.sh (.slice T57) [.slice A2_ (a1).length c3_] a1),(2,.el none 0 0 A.tabF),(3,.el none 1 0 A.tabA),(4,.blk g1 40 [.int .i64 a2.1,.int .i64 a2.2]),(5,.blk g2 40 [.int .i64 a3.1,.int .i64 a3.2]),(6,.blk g3 63 [.int .i64 a4.1,.int .i64 a4.2.1,.int .i64 a4.2.2.1,.int .i64 a4.2.2.2.1,.int .i64 a4.2.2.2.2.1,.int .i64 a4.2.2.2.2.2]),(7,.blk g4 63 [.int .i64 a5.1,.int .i64 a5.2.1,.int .i64 a5.2.2.1,.int .i64 a5.2.2.2.1,.int .i64 a5.2.2.2.2.1,.int .i64 a5.2.2.2.2.2]),(168,.sh (.slice T39) [.slice A10 (r8).length c11] r8),(208,.own T44 45 A16 c17 r14),(248,.own T44 45 A20 c21 r18)] ?_
   refine A.AH.cvl [(0,.slice A0_ ((a0).length) c1_),(1,.slice A2_ ((a1).length) c3_),(6,.int .u8 (a6.toNat:Int)),(9,.pointer (some ⟨g1,0,none⟩)),(10,.pointer (some ⟨g2,0,none⟩)),(11,.pointer (some ⟨g3,0,none⟩)),(12,.pointer (some ⟨g4,0,none⟩)),(15,.slice A10 ((r8).length) c11),(41,.bool true)] ?_
   refine A.AH.qF hT13 A.pb [0,1,2,3,4,5,6,7,168,208,248] [0,1,2,3,4,5,6,7,168,208,248] [4] [] 1023 28671 58 [(10,.on .n),(11,.on (.b 0 0)),(13,.on .n),(14,.on (.b 0 0))] [42,43,45,46] [] [(42,.slice A0_ ((a0).length) c1_),(43,.agg #[.int .i64 a2.1,.int .i64 a2.2]),(45,.slice A0_ ((a0).length) c1_),(46,.agg #[.int .i64 a2.1,.int .i64 a2.2])] trivial ?_
   refine A.AH.oneF hT13 12 ?_
   refine A.AL.on (dj:=41) rfl rfl ?_
   obtain⟨r24,hv25,hF⟩:=A.bd_some hF
   refine A.AL.call 328 [] (first:=[]) (cap:=[]) cf25 (paths_Rounds_ok a0 (a2.1,a2.2) A0_ c1_ h4_ h5_ r24 hv25) (.l 0 .nil) ?_
   rintro _ _ ⟨A26,c27,rfl,rfl⟩
   refine⟨by kernel_rfl,?_⟩
   refine A.AH.nxF 32767 [0,1,2,3,4,5,6,7,168,208,248] ?_
   refine A.AH.oneF hT13 15 ?_
   refine A.AL.on (dj:=41) rfl rfl ?_
   obtain⟨r28,hv29,hF⟩:=A.bd_some hF
   refine A.AL.call 368 [] (first:=[]) (cap:=[]) cf31 (R10_Rounds_ok a0 (a2.1,a2.2) A0_ c1_ h4_ h5_ r28 hv29) (.l 0 .nil) ?_
   rintro _ _ ⟨A30,c31,rfl,rfl⟩
   refine⟨by kernel_rfl,?_⟩
   refine A.AH.nxF 65535 [0,1,2,3,4,5,6,7,168,208,248] ?_
   refine A.AH.oneF hT13 16 ?_
   refine A.AL.on (dj:=41) rfl rfl ?_
   obtain⟨r32,hv33,hF⟩:=A.bd_some hF
   refine A.AL.call 408 [] (first:=[]) (cap:=[]) cf22 (R02_Same_ok r24 r28 A26 c27 A30 c31 r32 hv33) (.l 328 (.o 368 .nil)) ?_
   rintro _ _ ⟨rfl,rfl⟩
   refine⟨by kernel_rfl,?_⟩
   refine A.AH.nxF 131071 [0,1,2,3,4,5,6,7,168,208,248] ?_
   refine A.AH.qF hT13 A.pb [0,1,2,3,4,5,6,7,168,208,248] [0,1,2,3,4,5,6,7,168,208,248,328,368] [] [] 131071 524287 53 [(17,.n),(18,.n)] [50] [] [(50,.bool r32)] trivial ?_
   refine A.AH.cnd (j:=50) rfl hF (fun hF=>?_) (fun hF=>?_)
   ·refine A.AH.cov [0,1,2,3,4,5,6,7,168,208,248,328,368] [(0,.sh (.slice T57) [.slice A0_ (a0).length c1_] a0),(1,.sh (.slice T57) [.slice A2_ (a1).length c3_] a1),(2,.el none 0 0 A.tabF),(3,.el none 1 0 A.tabA),(4,.blk g1 40 [.int .i64 a2.1,.int .i64 a2.2]),(5,.blk g2 40 [.int .i64 a3.1,.int .i64 a3.2]),(6,.blk g3 63 [.int .i64 a4.1,.int .i64 a4.2.1,.int .i64 a4.2.2.1,.int .i64 a4.2.2.2.1,.int .i64 a4.2.2.2.2.1,.int .i64 a4.2.2.2.2.2]),(7,.blk g4 63 [.int .i64 a5.1,.int .i64 a5.2.1,.int .i64 a5.2.2.1,.int .i64 a5.2.2.2.1,.int .i64 a5.2.2.2.2.1,.int .i64 a5.2.2.2.2.2]),(168,.sh (.slice T39) [.slice A10 (r8).length c11] r8),(208,.own T44 45 A16 c17 r14),(248,.own T44 45 A20 c21 r18),(328,.sh (.slice T44) [.slice A26 (r24).length c27] r24),(368,.own T44 45 A30 c31 r28)] ?_
    refine A.AH.cvl [(0,.slice A0_ ((a0).length) c1_),(1,.slice A2_ ((a1).length) c3_),(6,.int .u8 (a6.toNat:Int)),(9,.pointer (some ⟨g1,0,none⟩)),(10,.pointer (some ⟨g2,0,none⟩)),(11,.pointer (some ⟨g3,0,none⟩)),(12,.pointer (some ⟨g4,0,none⟩)),(15,.slice A10 ((r8).length) c11),(50,.bool true)] ?_
    refine A.AH.qF hT13 A.pb [0,1,2,3,4,5,6,7,168,208,248,328,368] [0,1,2,3,4,5,6,7,168,208,248,328,368] [4] [] 524287 10485759 50 [(19,.on .n),(20,.on (.b 0 0)),(23,.on .n)] [51,52,55] [] [(51,.slice A0_ ((a0).length) c1_),(52,.agg #[.int .i64 a2.1,.int .i64 a2.2]),(55,.slice A10 ((r8).length) c11)] trivial ?_
    refine A.AH.oneF hT13 21 ?_
    refine A.AL.on (dj:=50) rfl rfl ?_
    obtain⟨r34,hv35,hF⟩:=A.bd_some hF
    refine A.AL.call 448 [] (first:=[]) (cap:=[]) cf34 (paths_Reached_ok a0 (a2.1,a2.2) A0_ c1_ h4_ h5_ r34 hv35) (.s 0 .nil) ?_
    rintro _ _ ⟨g36,A37,c38,rfl,rfl⟩
    refine⟨by kernel_rfl,?_⟩
    refine A.AH.nxF 12582911 [0,1,2,3,4,5,6,7,168,208,248,328,368] ?_
    refine A.AH.oneF hT13 22 ?_
    refine A.AL.on (dj:=50) rfl rfl ?_
    obtain⟨r39,hv40,hF⟩:=A.bd_some hF
    refine A.AL.call 488 [] (first:=[]) (cap:=[]) cf33 (L10_told_slices_Values_api_Place_api_Place_1_ok r34 9999 g36 A37 c38 (A.hasl .i64 (9999) rfl) r39 hv40) (.b 448 (.s 449 .nil)) ?_
    rintro _ _ ⟨A41,c42,rfl,rfl⟩
    refine⟨by kernel_rfl,?_⟩
    refine A.AH.nxF 16777215 [0,1,2,3,4,5,6,7,168,208,248,328,368] ?_
    refine A.AH.oneF hT13 24 ?_
    refine A.AL.on (dj:=50) rfl rfl ?_
    obtain⟨r43,hv44,hF⟩:=A.bd_some hF
    refine A.AL.call 528 [] (first:=[]) (cap:=[]) cf32 (slices_Equal_api_Place_api_Place_ok r39 r8 A41 c42 A10 c11 r43 hv44) (.o 488 (.l 168 .nil)) ?_
    rintro _ _ ⟨rfl,rfl⟩
    refine⟨by kernel_rfl,?_⟩
    refine A.AH.nxF 33554431 [0,1,2,3,4,5,6,7,168,208,248,328,368] ?_
    refine A.AH.qF hT13 A.pb [0,1,2,3,4,5,6,7,168,208,248,328,368] [0,1,2,3,4,5,6,7,168,208,248,328,368,448,449,488] [] [] 33554431 134217727 45 [(25,.n),(26,.n)] [58] [] [(58,.bool r43)] trivial ?_
    refine A.AH.cnd (j:=58) rfl hF (fun hF=>?_) (fun hF=>?_)
    ·refine A.AH.cov [0,1,2,3,4,5,6,7,168,208,248,328,368,448,449,488] [(0,.sh (.slice T57) [.slice A0_ (a0).length c1_] a0),(1,.sh (.slice T57) [.slice A2_ (a1).length c3_] a1),(2,.el none 0 0 A.tabF),(3,.el none 1 0 A.tabA),(4,.blk g1 40 [.int .i64 a2.1,.int .i64 a2.2]),(5,.blk g2 40 [.int .i64 a3.1,.int .i64 a3.2]),(6,.blk g3 63 [.int .i64 a4.1,.int .i64 a4.2.1,.int .i64 a4.2.2.1,.int .i64 a4.2.2.2.1,.int .i64 a4.2.2.2.2.1,.int .i64 a4.2.2.2.2.2]),(7,.blk g4 63 [.int .i64 a5.1,.int .i64 a5.2.1,.int .i64 a5.2.2.1,.int .i64 a5.2.2.2.1,.int .i64 a5.2.2.2.2.1,.int .i64 a5.2.2.2.2.2]),(168,.sh (.slice T39) [.slice A10 (r8).length c11] r8),(208,.own T44 45 A16 c17 r14),(248,.own T44 45 A20 c21 r18),(328,.sh (.slice T44) [.slice A26 (r24).length c27] r24),(368,.own T44 45 A30 c31 r28),(448,.blk g36 72 [.slice A37 ((r34).length) c38]),(449,.sh (.slice T39) [.slice A37 (r34).length c38] r34),(488,.own T39 40 A41 c42 r39)] ?_
     refine A.AH.cvl [(0,.slice A0_ ((a0).length) c1_),(1,.slice A2_ ((a1).length) c3_),(6,.int .u8 (a6.toNat:Int)),(9,.pointer (some ⟨g1,0,none⟩)),(10,.pointer (some ⟨g2,0,none⟩)),(11,.pointer (some ⟨g3,0,none⟩)),(12,.pointer (some ⟨g4,0,none⟩)),(15,.slice A10 ((r8).length) c11),(58,.bool true)] ?_
     obtain⟨hc45,hF⟩:=A.gd_some hF
     refine A.AH.qF hT13 A.pb [0,1,2,3,4,5,6,7,168,208,248,328,368,448,449,488] [0,1,2,3,4,5,6,7,168,208,248,328,368,448,449,488] [4] [] 134217727 544923975679 35 [(27,.on .n),(28,.on (.b 0 0)),(30,.on .n),(33,.on .n),(34,.on .n),(36,.on .n),(31,.on .n),(35,.on .n),(37,.on .n),(38,.on .n)] [59,60,65,63,70] [Z.R64 ((a6.toNat:Int)),Z.R64 ((a6.toNat:Int))] [(59,.slice A0_ ((a0).length) c1_),(60,.agg #[.int .i64 a2.1,.int .i64 a2.2]),(65,.slice A10 ((r8).length) c11),(63,.int .i64 (a6.toNat:Int)),(70,.int .i64 (min ((r8).length:Int) (a6.toNat:Int)))] hc45 ?_
     obtain⟨hc46,hF⟩:=A.gd_some hF
     refine A.cutp 168 568 ((min ((r8).length:Int) (a6.toNat:Int)).toNat) hc46.2 ?_
     refine A.AH.vg A.pb [0,1,2,3,4,5,6,7,168,208,248,328,368,448,449,488] [0,1,2,3,4,5,6,7,168,208,248,328,368,448,449,488,568] 39 (A.mb 72 1094679789567) (dj:=58) rfl (fun a w hf hh=>A.r_cuth (v:=(min ((r8).length:Int) (a6.toNat:Int)).toNat) 168 hf hh (Int.toNat_of_nonneg hc46.1).symm hc46.2) ?_
     refine A.AH.oneF hT13 29 ?_
     refine A.AL.on (dj:=58) rfl rfl ?_
     obtain⟨r47,hv48,hF⟩:=A.bd_some hF
     refine A.AL.call 569 [] (first:=[]) (cap:=[]) cf34 (paths_Reached_ok a0 (a2.1,a2.2) A0_ c1_ h4_ h5_ r47 hv48) (.s 0 .nil) ?_
     rintro _ _ ⟨g49,A50,c51,rfl,rfl⟩
     refine⟨by kernel_rfl,?_⟩
     refine A.AH.nxF 1095216660479 [0,1,2,3,4,5,6,7,168,208,248,328,368,448,449,488,568] ?_
     refine A.AH.oneF hT13 32 ?_
     refine A.AL.on (dj:=58) rfl rfl ?_
     obtain⟨r52,hv53,hF⟩:=A.bd_some hF
     refine A.AL.call 609 [] (first:=[]) (cap:=[]) cf33 (L10_told_slices_Values_api_Place_api_Place_1_ok r47 (a6.toNat:Int) g49 A50 c51 (Z.i64_has hc45.1) r52 hv53) (.b 569 (.s 570 .nil)) ?_
     rintro _ _ ⟨A54,c55,rfl,rfl⟩
     refine⟨by kernel_rfl,?_⟩
     refine A.AH.nxF 1099511627775 [0,1,2,3,4,5,6,7,168,208,248,328,368,448,449,488,568] ?_
     refine A.AH.oneF hT13 40 ?_
     refine A.AL.on (dj:=58) rfl rfl ?_
     obtain⟨r56,hv57,hF⟩:=A.bd_some hF
     refine A.AL.call 649 [] (first:=[]) (cap:=[]) cf32 (slices_Equal_api_Place_api_Place_ok r52 (List.take ((min ((r8).length:Int) (a6.toNat:Int)).toNat) r8) A54 c55 A10 c11 r56 hv57) (.o 609 (.l 568 .nil)) ?_
     rintro _ _ ⟨rfl,rfl⟩
     refine⟨by kernel_rfl,?_⟩
     refine A.AH.nxF 2199023255551 [0,1,2,3,4,5,6,7,168,208,248,328,368,448,449,488,568] ?_
     refine A.AH.qF hT13 A.pb [0,1,2,3,4,5,6,7,168,208,248,328,368,448,449,488,568] [0,1,2,3,4,5,6,7,168,208,248,328,368,448,449,488,568,569,570,609] [] [] 2199023255551 8796093022207 29 [(41,.n),(42,.n)] [74] [] [(74,.bool r56)] trivial ?_
     refine A.AH.cnd (j:=74) rfl hF (fun hF=>?_) (fun hF=>?_)
     ·refine A.AH.cov [0,1,2,3,4,5,6,7,168,208,248,328,368,448,449,488,568,569,570,609] [(0,.sh (.slice T57) [.slice A0_ (a0).length c1_] a0),(1,.sh (.slice T57) [.slice A2_ (a1).length c3_] a1),(2,.el none 0 0 A.tabF),(3,.el none 1 0 A.tabA),(4,.blk g1 40 [.int .i64 a2.1,.int .i64 a2.2]),(5,.blk g2 40 [.int .i64 a3.1,.int .i64 a3.2]),(6,.blk g3 63 [.int .i64 a4.1,.int .i64 a4.2.1,.int .i64 a4.2.2.1,.int .i64 a4.2.2.2.1,.int .i64 a4.2.2.2.2.1,.int .i64 a4.2.2.2.2.2]),(7,.blk g4 63 [.int .i64 a5.1,.int .i64 a5.2.1,.int .i64 a5.2.2.1,.int .i64 a5.2.2.2.1,.int .i64 a5.2.2.2.2.1,.int .i64 a5.2.2.2.2.2]),(168,.sh (.slice T39) [.slice A10 (r8).length c11] r8),(208,.own T44 45 A16 c17 r14),(248,.own T44 45 A20 c21 r18),(328,.sh (.slice T44) [.slice A26 (r24).length c27] r24),(368,.own T44 45 A30 c31 r28),(448,.blk g36 72 [.slice A37 ((r34).length) c38]),(449,.sh (.slice T39) [.slice A37 (r34).length c38] r34),(488,.own T39 40 A41 c42 r39),(568,.sh (.slice T39) [.slice A10 (List.take ((min ((r8).length:Int) (a6.toNat:Int)).toNat) r8).length c11] (List.take ((min ((r8).length:Int) (a6.toNat:Int)).toNat) r8)),(569,.blk g49 72 [.slice A50 ((r47).length) c51]),(570,.sh (.slice T39) [.slice A50 (r47).length c51] r47),(609,.own T39 40 A54 c55 r52)] ?_
      refine A.AH.cvl [(0,.slice A0_ ((a0).length) c1_),(1,.slice A2_ ((a1).length) c3_),(9,.pointer (some ⟨g1,0,none⟩)),(10,.pointer (some ⟨g2,0,none⟩)),(11,.pointer (some ⟨g3,0,none⟩)),(12,.pointer (some ⟨g4,0,none⟩)),(74,.bool true)] ?_
      refine A.AH.qF hT13 A.pb [0,1,2,3,4,5,6,7,168,208,248,328,368,448,449,488,568,569,570,609] [0,1,2,3,4,5,6,7,168,208,248,328,368,448,449,488,568,569,570,609] [4,6,5,7] [] 8796093022207 17732923532771327 19 [(43,.on .n),(44,.on (.b 0 0)),(45,.on (.b 1 0)),(46,.on (.b 2 0)),(47,.on (.b 3 0)),(49,.on .n),(50,.on (.b 0 0)),(51,.on (.b 1 0)),(52,.on (.b 2 0)),(53,.on (.b 3 0))] [75,76,77,78,79,81,82,83,84,85] [] [(75,.slice A0_ ((a0).length) c1_),(76,.agg #[.int .i64 a2.1,.int .i64 a2.2]),(77,.agg #[.int .i64 a4.1,.int .i64 a4.2.1,.int .i64 a4.2.2.1,.int .i64 a4.2.2.2.1,.int .i64 a4.2.2.2.2.1,.int .i64 a4.2.2.2.2.2]),(78,.agg #[.int .i64 a3.1,.int .i64 a3.2]),(79,.agg #[.int .i64 a5.1,.int .i64 a5.2.1,.int .i64 a5.2.2.1,.int .i64 a5.2.2.2.1,.int .i64 a5.2.2.2.2.1,.int .i64 a5.2.2.2.2.2]),(81,.slice A0_ ((a0).length) c1_),(82,.agg #[.int .i64 a2.1,.int .i64 a2.2]),(83,.agg #[.int .i64 a4.1,.int .i64 a4.2.1,.int .i64 a4.2.2.1,.int .i64 a4.2.2.2.1,.int .i64 a4.2.2.2.2.1,.int .i64 a4.2.2.2.2.2]),(84,.agg #[.int .i64 a3.1,.int .i64 a3.2]),(85,.agg #[.int .i64 a5.1,.int .i64 a5.2.1,.int .i64 a5.2.2.1,.int .i64 a5.2.2.2.1,.int .i64 a5.2.2.2.2.1,.int .i64 a5.2.2.2.2.2])] trivial ?_
      refine A.AH.oneF hT13 48 ?_
      refine A.AL.on (dj:=74) rfl rfl ?_
      obtain⟨r58,hv59,hF⟩:=A.bd_some hF
      refine A.AL.call 689 [] (first:=[]) (cap:=[]) cf24 (paths_Could_ok a0 (a2.1,a2.2) (a4.1,a4.2.1,(a4.2.2.1,a4.2.2.2.1,a4.2.2.2.2.1,a4.2.2.2.2.2)) (a3.1,a3.2) (a5.1,a5.2.1,(a5.2.2.1,a5.2.2.2.1,a5.2.2.2.2.1,a5.2.2.2.2.2)) A0_ c1_ h4_ h5_ h8_ h9_ h10_ h11_ h12_ h13_ h6_ h7_ h14_ h15_ h16_ h17_ h18_ h19_ r58 hv59) (.l 0 .nil) ?_
      rintro _ _ ⟨rfl,rfl⟩
      refine⟨by kernel_rfl,?_⟩
      refine A.AH.nxF 18014398509481983 [0,1,2,3,4,5,6,7,168,208,248,328,368,448,449,488,568,569,570,609] ?_
      refine A.AH.oneF hT13 54 ?_
      refine A.AL.on (dj:=74) rfl rfl ?_
      obtain⟨r60,hv61,hF⟩:=A.bd_some hF
      refine A.AL.call 729 [] (first:=[]) (cap:=[]) cf35 (R10_Could_ok a0 (a2.1,a2.2) (a4.1,a4.2.1,(a4.2.2.1,a4.2.2.2.1,a4.2.2.2.2.1,a4.2.2.2.2.2)) (a3.1,a3.2) (a5.1,a5.2.1,(a5.2.2.1,a5.2.2.2.1,a5.2.2.2.2.1,a5.2.2.2.2.2)) A0_ c1_ h4_ h5_ h8_ h9_ h10_ h11_ h12_ h13_ h6_ h7_ h14_ h15_ h16_ h17_ h18_ h19_ r60 hv61) (.l 0 .nil) ?_
      rintro _ _ ⟨rfl,rfl⟩
      refine⟨by kernel_rfl,?_⟩
      refine A.AH.nxF 36028797018963967 [0,1,2,3,4,5,6,7,168,208,248,328,368,448,449,488,568,569,570,609] ?_
      refine A.AH.qF hT13 A.pb [0,1,2,3,4,5,6,7,168,208,248,328,368,448,449,488,568,569,570,609] [0,1,2,3,4,5,6,7,168,208,248,328,368,448,449,488,568,569,570,609] [] [] 36028797018963967 288230376151711743 14 [(55,.on .n),(56,.n),(57,.n)] [89] [] [(89,.bool (r58==r60))] trivial ?_
      refine A.AH.cnd (j:=89) rfl hF (fun hF=>?_) (fun hF=>?_)
      ·refine A.AH.cov [0,1,2,3,4,5,6,7,168,208,248,328,368,448,449,488,568,569,570,609] [(0,.sh (.slice T57) [.slice A0_ (a0).length c1_] a0),(1,.sh (.slice T57) [.slice A2_ (a1).length c3_] a1),(2,.el none 0 0 A.tabF),(3,.el none 1 0 A.tabA),(4,.blk g1 40 [.int .i64 a2.1,.int .i64 a2.2]),(5,.blk g2 40 [.int .i64 a3.1,.int .i64 a3.2]),(6,.blk g3 63 [.int .i64 a4.1,.int .i64 a4.2.1,.int .i64 a4.2.2.1,.int .i64 a4.2.2.2.1,.int .i64 a4.2.2.2.2.1,.int .i64 a4.2.2.2.2.2]),(7,.blk g4 63 [.int .i64 a5.1,.int .i64 a5.2.1,.int .i64 a5.2.2.1,.int .i64 a5.2.2.2.1,.int .i64 a5.2.2.2.2.1,.int .i64 a5.2.2.2.2.2]),(168,.sh (.slice T39) [.slice A10 (r8).length c11] r8),(208,.own T44 45 A16 c17 r14),(248,.own T44 45 A20 c21 r18),(328,.sh (.slice T44) [.slice A26 (r24).length c27] r24),(368,.own T44 45 A30 c31 r28),(448,.blk g36 72 [.slice A37 ((r34).length) c38]),(449,.sh (.slice T39) [.slice A37 (r34).length c38] r34),(488,.own T39 40 A41 c42 r39),(568,.sh (.slice T39) [.slice A10 (List.take ((min ((r8).length:Int) (a6.toNat:Int)).toNat) r8).length c11] (List.take ((min ((r8).length:Int) (a6.toNat:Int)).toNat) r8)),(569,.blk g49 72 [.slice A50 ((r47).length) c51]),(570,.sh (.slice T39) [.slice A50 (r47).length c51] r47),(609,.own T39 40 A54 c55 r52)] ?_
       refine A.AH.cvl [(0,.slice A0_ ((a0).length) c1_),(1,.slice A2_ ((a1).length) c3_),(89,.bool true)] ?_
       refine A.AH.qF hT13 A.pb [0,1,2,3,4,5,6,7,168,208,248,328,368,448,449,488,568,569,570,609] [0,1,2,3,4,5,6,7,168,208,248,328,368,448,449,488,568,569,570,609] [] [] 288230376151711743 8070450532247928831 10 [(58,.on .n),(59,.on .n),(61,.on .n),(62,.on .n)] [90,91,93,94] [] [(90,.slice A0_ ((a0).length) c1_),(91,.slice A2_ ((a1).length) c3_),(93,.slice A0_ ((a0).length) c1_),(94,.slice A2_ ((a1).length) c3_)] trivial ?_
       refine A.AH.oneF hT13 60 ?_
       refine A.AL.on (dj:=89) rfl rfl ?_
       obtain⟨r62,hv63,hF⟩:=A.bd_some hF
       refine A.AL.call 769 [] (first:=[]) (cap:=[]) cf36 (paths_Same_ok a0 a1 A0_ c1_ A2_ c3_ r62 hv63) (.l 0 (.l 1 .nil)) ?_
       rintro _ _ ⟨rfl,rfl⟩
       refine⟨by kernel_rfl,?_⟩
       refine A.AH.nxF 9223372036854775807 [0,1,2,3,4,5,6,7,168,208,248,328,368,448,449,488,568,569,570,609] ?_
       refine A.AH.oneF hT13 63 ?_
       refine A.AL.on (dj:=89) rfl rfl ?_
       obtain⟨r64,hv65,hF⟩:=A.bd_some hF
       refine A.AL.call 809 [] (first:=[]) (cap:=[]) cf12 (R10_Same_ok a0 a1 A0_ c1_ A2_ c3_ r64 hv65) (.l 0 (.l 1 .nil)) ?_
       rintro _ _ ⟨rfl,rfl⟩
       refine⟨by kernel_rfl,?_⟩
       refine A.AH.nxF 18446744073709551615 [0,1,2,3,4,5,6,7,168,208,248,328,368,448,449,488,568,569,570,609] ?_
       refine A.AH.qF hT13 A.pb [0,1,2,3,4,5,6,7,168,208,248,328,368,448,449,488,568,569,570,609] [0,1,2,3,4,5,6,7,168,208,248,328,368,448,449,488,568,569,570,609] [] [] 18446744073709551615 147573952589676412927 5 [(64,.on .n),(65,.n),(66,.n)] [98] [] [(98,.bool (r62==r64))] trivial ?_
       refine A.AH.cnd (j:=98) rfl hF (fun hF=>?_) (fun hF=>?_)
       ·refine A.AH.cov [0,1,2,3,4,5,6,7,168,208,248,328,368,448,449,488,568,569,570,609] [(0,.sh (.slice T57) [.slice A0_ (a0).length c1_] a0),(1,.sh (.slice T57) [.slice A2_ (a1).length c3_] a1),(2,.el none 0 0 A.tabF),(3,.el none 1 0 A.tabA),(4,.blk g1 40 [.int .i64 a2.1,.int .i64 a2.2]),(5,.blk g2 40 [.int .i64 a3.1,.int .i64 a3.2]),(6,.blk g3 63 [.int .i64 a4.1,.int .i64 a4.2.1,.int .i64 a4.2.2.1,.int .i64 a4.2.2.2.1,.int .i64 a4.2.2.2.2.1,.int .i64 a4.2.2.2.2.2]),(7,.blk g4 63 [.int .i64 a5.1,.int .i64 a5.2.1,.int .i64 a5.2.2.1,.int .i64 a5.2.2.2.1,.int .i64 a5.2.2.2.2.1,.int .i64 a5.2.2.2.2.2]),(168,.sh (.slice T39) [.slice A10 (r8).length c11] r8),(208,.own T44 45 A16 c17 r14),(248,.own T44 45 A20 c21 r18),(328,.sh (.slice T44) [.slice A26 (r24).length c27] r24),(368,.own T44 45 A30 c31 r28),(448,.blk g36 72 [.slice A37 ((r34).length) c38]),(449,.sh (.slice T39) [.slice A37 (r34).length c38] r34),(488,.own T39 40 A41 c42 r39),(568,.sh (.slice T39) [.slice A10 (List.take ((min ((r8).length:Int) (a6.toNat:Int)).toNat) r8).length c11] (List.take ((min ((r8).length:Int) (a6.toNat:Int)).toNat) r8)),(569,.blk g49 72 [.slice A50 ((r47).length) c51]),(570,.sh (.slice T39) [.slice A50 (r47).length c51] r47),(609,.own T39 40 A54 c55 r52)] ?_
        refine A.AH.cvl [(0,.slice A0_ ((a0).length) c1_),(98,.bool true)] ?_
        refine A.AH.qF hT13 A.pb [0,1,2,3,4,5,6,7,168,208,248,328,368,448,449,488,568,569,570,609] [0,1,2,3,4,5,6,7,168,208,248,328,368,448,449,488,568,569,570,609] [] [] 147573952589676412927 590295810358705651711 3 [(67,.on .n),(68,.on .n)] [99,100] [] [(99,.slice A0_ ((a0).length) c1_),(100,.slice A0_ ((a0).length) c1_)] trivial ?_
        refine A.AH.oneF hT13 69 ?_
        refine A.AL.on (dj:=98) rfl rfl ?_
        obtain⟨r66,hv67,hF⟩:=A.bd_some hF
        refine A.AL.call 849 [] (first:=[]) (cap:=[]) cf36 (paths_Same_ok a0 a0 A0_ c1_ A0_ c1_ r66 hv67) (.l 0 (.l 0 .nil)) ?_
        rintro _ _ ⟨rfl,rfl⟩
        refine⟨by kernel_rfl,?_⟩
        refine A.AH.nxF 1180591620717411303423 [0,1,2,3,4,5,6,7,168,208,248,328,368,448,449,488,568,569,570,609] ?_
        refine A.AH.qF hT13 A.pb [0,1,2,3,4,5,6,7,168,208,248,328,368,448,449,488,568,569,570,609] [0,1,2,3,4,5,6,7,168,208,248,328,368,448,449,488,568,569,570,609] [] [] 1180591620717411303423 4722366482869645213695 0 [(70,.n),(71,.n)] [14] [] [(14,.bool r66)] trivial ?_
        refine A.AH.doneF hT13 ?_
        exact A.j ⟨r66,rfl,rfl,hF⟩
       refine A.AH.qF hT13 A.pb [0,1,2,3,4,5,6,7,168,208,248,328,368,448,449,488,568,569,570,609] [0,1,2,3,4,5,6,7,168,208,248,328,368,448,449,488,568,569,570,609] [] [] 147573952589676412927 4722366482869645213695 0 [(67,.off),(68,.off),(69,.off),(70,.n),(71,.n)] [14] [] [(14,.bool false)] trivial ?_
       refine A.AH.doneF hT13 ?_
       exact A.j ⟨false,rfl,rfl,hF⟩
      refine A.AH.qF hT13 A.pb [0,1,2,3,4,5,6,7,168,208,248,328,368,448,449,488,568,569,570,609] [0,1,2,3,4,5,6,7,168,208,248,328,368,448,449,488,568,569,570,609] [] [] 288230376151711743 4722366482869645213695 0 [(58,.off),(59,.off),(61,.off),(62,.off),(60,.off),(63,.off),(64,.off),(65,.n),(66,.n),(67,.off),(68,.off),(69,.off),(70,.n),(71,.n)] [14] [] [(14,.bool false)] trivial ?_
      refine A.AH.doneF hT13 ?_
      exact A.j ⟨false,rfl,rfl,hF⟩
     refine A.AH.qF hT13 A.pb [0,1,2,3,4,5,6,7,168,208,248,328,368,448,449,488,568,569,570,609] [0,1,2,3,4,5,6,7,168,208,248,328,368,448,449,488,568,569,570,609] [] [] 8796093022207 4722366482869645213695 0 [(43,.off),(44,.off),(45,.off),(46,.off),(47,.off),(49,.off),(50,.off),(51,.off),(52,.off),(53,.off),(48,.off),(54,.off),(55,.off),(56,.n),(57,.n),(58,.off),(59,.off),(61,.off),(62,.off),(60,.off),(63,.off),(64,.off),(65,.n),(66,.n),(67,.off),(68,.off),(69,.off),(70,.n),(71,.n)] [14] [] [(14,.bool false)] trivial ?_
     refine A.AH.doneF hT13 ?_
     exact A.j ⟨false,rfl,rfl,hF⟩
    refine A.AH.qF hT13 A.pb [0,1,2,3,4,5,6,7,168,208,248,328,368,448,449,488] [0,1,2,3,4,5,6,7,168,208,248,328,368,448,449,488] [] [] 134217727 4722366482869645213695 0 [(27,.off),(28,.off),(30,.off),(33,.off),(34,.off),(36,.off),(29,.off),(31,.off),(35,.off),(37,.off),(32,.off),(38,.off),(39,.off),(40,.off),(41,.n),(42,.n),(43,.off),(44,.off),(45,.off),(46,.off),(47,.off),(49,.off),(50,.off),(51,.off),(52,.off),(53,.off),(48,.off),(54,.off),(55,.off),(56,.n),(57,.n),(58,.off),(59,.off),(61,.off),(62,.off),(60,.off),(63,.off),(64,.off),(65,.n),(66,.n),(67,.off),(68,.off),(69,.off),(70,.n),(71,.n)] [14] [] [(14,.bool false)] trivial ?_
    refine A.AH.doneF hT13 ?_
    exact A.j ⟨false,rfl,rfl,hF⟩
   refine A.AH.qF hT13 A.pb [0,1,2,3,4,5,6,7,168,208,248,328,368] [0,1,2,3,4,5,6,7,168,208,248,328,368] [] [] 524287 4722366482869645213695 0 [(19,.off),(20,.off),(23,.off),(21,.off),(22,.off),(24,.off),(25,.n),(26,.n),(27,.off),(28,.off),(30,.off),(33,.off),(34,.off),(36,.off),(29,.off),(31,.off),(35,.off),(37,.off),(32,.off),(38,.off),(39,.off),(40,.off),(41,.n),(42,.n),(43,.off),(44,.off),(45,.off),(46,.off),(47,.off),(49,.off),(50,.off),(51,.off),(52,.off),(53,.off),(48,.off),(54,.off),(55,.off),(56,.n),(57,.n),(58,.off),(59,.off),(61,.off),(62,.off),(60,.off),(63,.off),(64,.off),(65,.n),(66,.n),(67,.off),(68,.off),(69,.off),(70,.n),(71,.n)] [14] [] [(14,.bool false)] trivial ?_
   refine A.AH.doneF hT13 ?_
   exact A.j ⟨false,rfl,rfl,hF⟩
  refine A.AH.qF hT13 A.pb [0,1,2,3,4,5,6,7,168,208,248] [0,1,2,3,4,5,6,7,168,208,248] [] [] 1023 4722366482869645213695 0 [(10,.off),(11,.off),(13,.off),(14,.off),(12,.off),(15,.off),(16,.off),(17,.n),(18,.n),(19,.off),(20,.off),(23,.off),(21,.off),(22,.off),(24,.off),(25,.n),(26,.n),(27,.off),(28,.off),(30,.off),(33,.off),(34,.off),(36,.off),(29,.off),(31,.off),(35,.off),(37,.off),(32,.off),(38,.off),(39,.off),(40,.off),(41,.n),(42,.n),(43,.off),(44,.off),(45,.off),(46,.off),(47,.off),(49,.off),(50,.off),(51,.off),(52,.off),(53,.off),(48,.off),(54,.off),(55,.off),(56,.n),(57,.n),(58,.off),(59,.off),(61,.off),(62,.off),(60,.off),(63,.off),(64,.off),(65,.n),(66,.n),(67,.off),(68,.off),(69,.off),(70,.n),(71,.n)] [14] [] [(14,.bool false)] trivial ?_
  refine A.AH.doneF hT13 ?_
  exact A.j ⟨false,rfl,rfl,hF⟩
 rintro _ _ ⟨y12,rfl,rfl,hF⟩
 rw[F.L10_PathsAsks_j1]at hF
 obtain rfl:=Option.some.inj hF
 exact A.rt1 [] ⟨rfl,rfl⟩
end Go.Proofs.YtlbnpmfggfbdoaaGreatDoor
end
section
end
section
set_option linter.unusedVariables false
namespace Go.A
open Go.RowKit Go.Z Go.Shelf Go.Proofs Go.Lib
def Hall (W:World):List (Nat×Res)→Prop
 | []=>True
 |p::H=>(p.2.bl=[]∧p.2.ref=none∧p.2.holds W (fun _=>True) (fun _ _=>False))∧Hall W H
theorem Hall.at {W:World}: ∀{H:List (Nat×Res)} {k:Nat} {r:Res},Hall W H→hk H k=some r→r.bl=[]∧r.ref=none∧r.holds W (fun _=>True) (fun _ _=>False)
 | [],_,_,_,h=>by cases h
 |(d,u)::H,k,r,ha,h=>by
  rw[hk_cons]at h
  split at h
  ·injection h with h;subst h;exact ha.1
  ·exact ha.2.at h
theorem Hp.start {W:World}{H:List (Nat×Res)}(h:Hall W H):Hp ⟨0,[],W,[],fun _=>True⟩ H W:=by
 have hb: ∀k b,¬Bk H k b:=fun k b ⟨r,h1,h2⟩=>by rw[(h.at h1).1]at h2;cases h2
 refine⟨Ch.refl W,fun k r hk=>?_,fun k b hB=>(hb k b hB).elim,fun k k' b hB=>(hb k b hB).elim,fun k r j hk hr=>?_⟩
 ·exact Res.to (S:=[]) (h.at hk).2.2 (Ch.refl W) (fun b _ _=>⟨by simp,fun k=>hb k b,.inl trivial⟩) (fun b _ _=>⟨by simp,fun k=>hb k b⟩) (fun i b _ hf=>hf.elim) (by simp)
 ·rw[(h.at hk).2.1]at hr;cases hr
theorem Hall.sh {W:World}{t:Ty}{cs:List Value}{x:t.den}{F:Nat→Prop}(h:t.rep W F cs x):(Res.sh t cs x).bl=[]∧(Res.sh t cs x).ref=none∧(Res.sh t cs x).holds W (fun _=>True) (fun _ _=>False):=
 ⟨rfl,rfl,rep_as h fun _ _ _=>trivial⟩
theorem Hall.ln {W:World}{t:Ty}{A:Option Addr}{c n:Nat}{xs:List t.den}{F:Nat→Prop}(h:(Ty.slice t).rep W F [.slice A xs.length c] xs):(Res.ln t A c xs).bl=[]∧(Res.ln t A c xs).ref=none∧(Res.ln t A c xs).holds W (fun _=>True) (fun _ _=>False):=
 ⟨rfl,rfl,Row.to (S:=[]) (Row.of h) (Ch.refl W) (fun _ _ _=>⟨by simp,trivial⟩) (fun _ _ _=>⟨by simp,fun _ h=>h⟩)⟩
def putCells (cs:List Value):Obj→Obj
 | .cells _ t frozen=>.cells cs.toArray t frozen
 |o=>o
theorem tab_cells {w:World}{g3 g4:Nat}(h:Lib.Utf8Tabs g3 g4 w):Cells w ⟨g3,0,none⟩ tabF∧Cells w ⟨g4,0,none⟩ tabA:=by
 constructor
 ·intro j u hu
  rw[Addr.add_lit,Nat.zero_add]
  have hj:j<256:=by have:=(List.getElem?_eq_some_iff.1 hu).1;simpa[tabF] using this
  have e:tabF[j]?=some (.int .u8 (firstT j)):=by simp[tabF,hj]
  rw[e]at hu;injection hu with hu;subst hu
  exact h.1 j hj
 ·intro j u hu
  rw[Addr.add_lit,Nat.zero_add]
  have hj:j<32:=by have:=(List.getElem?_eq_some_iff.1 hu).1;simpa[tabA] using this
  have e:tabA[j]?=some (.int .u8 (if j%2=0 then accLo (j / 2)else accHi (j / 2))):=by simp[tabA,hj]
  rw[e]at hu;injection hu with hu;subst hu
  have:=h.2 (j / 2) (by omega)
  by_cases he:j%2=0
  ·rw[if_pos he]
   have hj2:j=2*(j / 2):=by omega
   rw[hj2];simpa using this.1
  ·rw[if_neg he]
   have hj2:j=2*(j / 2)+1:=by omega
   have h3:(2*(j / 2)+1) / 2=j / 2:=by omega
   rw[hj2,h3];exact this.2
theorem Hall.tabs {w:World}{g3 g4 i j:Nat}(h:Lib.Utf8Tabs g3 g4 w):Hall w [(i,.el none g3 0 tabF),(j,.el none g4 0 tabA)]:=by
 obtain⟨h1,h2⟩:=tab_cells h
 exact⟨⟨rfl,rfl,h1,World.block_lt_of_cell? w _ (h1 0 (.int .u8 (firstT 0)) (by simp[tabF])),fun _ h=>h⟩,⟨rfl,rfl,h2,World.block_lt_of_cell? w _ (h2 0 (.int .u8 (accLo 0)) (by simp[tabA])),fun _ h=>h⟩,trivial⟩
end Go.A
end
section
namespace Go.Graph
abbrev Fun:=Int×Int×ByteArray
abbrev Nd:=Int×Int×List Int×Fun×ByteArray×Int×Int
abbrev Pl:=Int×Int
abbrev Sp:=Pl×Int
abbrev id (x:Nd):Int:=x.1
abbrev kind (x:Nd):Int:=x.2.1
abbrev fn (x:Nd):Fun:=x.2.2.2.1
abbrev name (x:Nd):ByteArray:=x.2.2.2.2.1
abbrev cap (x:Nd):Int:=x.2.2.2.2.2.1
def Few (g:List Nd):Prop:=g.length≤40∧∀x,x∈g→x.2.2.1.length≤5000∧x.2.2.2.2.1.size≤5000∧x.2.2.2.1.2.2.size≤5000
theorem Few.in {g:List Nd}{k:Nat}{x:Nd}(h:Few g)(hx:g[k]?=some x):x.2.2.1.length≤5000:=(h.2 x (List.mem_of_getElem? hx)).1
def insK (k:Int):Int:=if k<1∨16<k then-1 else if k=1 then 0 else if k=5∨k=9 then 2 else 1
def letter (c:UInt8):Bool:=decide ((97:Int)≤(c.toNat:Int)∧(c.toNat:Int)≤122∨(65:Int)≤(c.toNat:Int)∧(c.toNat:Int)≤90)
def digit (c:UInt8):Bool:=decide ((48:Int)≤(c.toNat:Int)∧(c.toNat:Int)≤57)
def wordy (l:List UInt8):Bool:=l.all fun c=>letter c||digit c
def named (s:ByteArray):Bool:=decide (s≠ByteArray.mk #[])&&decide ((s.size:Int)≤16)&&letter (Z.bat s 0)&&wordy s.data.toList
theorem drop_bat {s:ByteArray}{i:Nat}(h:i<s.size):s.data.toList.drop i=Z.bat s i::s.data.toList.drop (i+1):=by
 have h':i<s.data.toList.length:=by simpa using h
 rw[List.drop_eq_getElem_cons h']
 have h2:i<s.data.size:=h
 congr 1
 simp[Z.bat,Array.getElem?_eq_getElem h2]
def idxF (id:Int):Nat→List Nd→Int
 |_,[]=> -1
 |k,x::r=>if x.1=id then(k:Int)else idxF id (k+1) r
def idx (g:List Nd)(id:Int):Int:=idxF id 0 g
def namedF (kd:Int)(s:ByteArray):List Nd→Int×Bool
 | []=>(0,false)
 |x::r=>if kind x=kd∧name x=s then(x.1,true)else namedF kd s r
def z0:Nd:=(0,0,[],(0,0,ByteArray.mk #[]),ByteArray.mk #[],0,0)
def at_ (g:List Nd)(i:Int):Nd:=(g[i.toNat]?).getD z0
def ownT (g:List Nd)(n:Nd):Bool:=if n.2.1≠1∧n.2.1≠15 then decide (n.2.2.2.2.1=ByteArray.mk #[])else named n.2.2.2.2.1&&decide ((namedF n.2.1 n.2.2.2.2.1 g).1=n.1)
def ownC (n:Nd):Prop:=n.2.1=14∧(n.2.2.2.2.2.1<1∨8<n.2.2.2.2.2.1∨n.2.2.2.2.2.2<1∨4<n.2.2.2.2.2.2)∨n.2.1≠14∧(n.2.2.2.2.2.1≠0∨n.2.2.2.2.2.2≠0)
instance (n:Nd):Decidable (ownC n):=by unfold ownC;infer_instance
def own (g:List Nd)(i:Int)(n:Nd):Bool:=
 if n.1<1∨255<n.1∨0<i∧n.1≤(at_ g (i-1)).1∨insK n.2.1<0∨(n.2.2.1.length:Int)≠insK n.2.1 then false else if ownC n then false else ownT g n
def bget (l:List Bool)(i:Int):Bool:=(l[i.toNat]?).getD false
def iget (l:List Int)(i:Int):Int:=(l[i.toNat]?).getD 0
def readyF (g:List Nd)(done:List Bool)(kd:Int):List Int→Bool
 | []=>true
 |k::r=>if kd≠14∧bget done (idx g k)=false then false else readyF g done kd r
def ready (g:List Nd)(done:List Bool)(n:Nd):Bool:=readyF g done n.2.1 n.2.2.1
def d0:List Int→Int
 | []=>0
 |a::_=>a
abbrev inD (g:List Nd) (d:List Int) (l:List Int):List Int:=l.map fun k=>iget d (idx g k)
def InB (d:List Int):Prop:=∀i,0≤iget d i∧iget d i≤4
theorem InB.rep (n:Nat):InB (List.replicate n 0):=fun i=>by
 unfold iget;rw[List.getElem?_replicate];split<;>simp
theorem InB.set {d:List Int}(h:InB d)(p:Nat){v:Int}(h0:0≤v)(h1:v≤4):InB (d.set p v):=fun i=>by
 unfold iget;rw[List.getElem?_set]
 have:=h i
 unfold iget at this
 split
 ·split<;>simp<;>omega
 ·exact this
theorem InB.d0 {d:List Int}(h:InB d)(g:List Nd)(l:List Int): -1≤Graph.d0 (inD g d l)∧Graph.d0 (inD g d l)≤4:=by
 cases l with
 |nil=>simp[Graph.d0]
 |cons k r=>have:=h (idx g k);simp only[inD,List.map_cons,Graph.d0];omega
abbrev Sm:=Int×Int×Int×Int×(Int×Int×Int×Int)
end Go.Graph
end
section
set_option linter.unusedVariables false
set_option linter.unusedSimpArgs false
namespace Go.A
open Go.Z
theorem r64n {n:Nat}(h:n<4611686018427387904):R64 ((n:Int)+1):=⟨by omega,by omega⟩
theorem gd1 {α:Type}{p:Prop}[Decidable p](h:p)(x:Option α):gd p x=x:=if_pos h
theorem ixn {α:Type}{xs:List α}{k:Nat}{x:α}(h:xs[k]?=some x):ix xs (k:Int)=some x:=by rw[ix_nat];exact h
theorem dropx {α:Type}{xs:List α}{k:Nat}{x:α}(h:xs[k]?=some x):xs.drop k=x::xs.drop (k+1):=by
 obtain⟨h1,h2⟩:=List.getElem?_eq_some_iff.1 h
 rw[List.drop_eq_getElem_cons h1,h2]
theorem ba {p q:Prop}[Decidable p][Decidable q]:(bif decide p then decide q else false)=decide (p∧q):=by by_cases h:p<;>simp[h]
theorem bo {p q:Prop}[Decidable p][Decidable q]:(bif decide p then true else decide q)=decide (p∨q):=by by_cases h:p<;>simp[h]
theorem bn {p:Prop}[Decidable p]:(!decide p)=decide (¬p):=by by_cases h:p<;>simp[h]
theorem lp {α σ ρ:Type}(xs:List α)(L:Nat→σ→Int→Option ρ)(G:Nat→List α→σ→Option ρ)(P:Nat→σ→Prop)
  (h0: ∀f s,P xs.length s→L (f+1) s (xs.length:Int)=G xs.length [] s)
  (h1: ∀f s (k:Nat) x,xs[k]?=some x→k<xs.length→P k s→(∀s',P (k+1) s'→L f s' ((k:Int)+1)=G (k+1) (xs.drop (k+1)) s')→L (f+1) s k=G k (x::xs.drop (k+1)) s)
  (hl:xs.length<FU) (s:σ) (hs:P 0 s):L FU s 0=G 0 xs s:=by
 have main: ∀(n k f:Nat) (s:σ),k+n=xs.length→n<f→P k s→L f s (k:Int)=G k (xs.drop k) s:=by
  intro n
  induction n with
  |zero=>
   intro k f s hk hf hp
   obtain⟨f,rfl⟩: ∃f',f=f'+1:=⟨f-1,by omega⟩
   obtain rfl:k=xs.length:=by omega
   rw[List.drop_eq_nil_of_le (Nat.le_refl _)];exact h0 f s hp
  |succ n ih=>
   intro k f s hk hf hp
   obtain⟨f,rfl⟩: ∃f',f=f'+1:=⟨f-1,by omega⟩
   have hx:xs[k]?=some xs[k]:=List.getElem?_eq_getElem (by omega)
   rw[dropx hx]
   exact h1 f s k _ hx (by omega) hp fun s' hp'=>ih (k+1) f s' (by omega) (by omega) hp'
 have:=main xs.length 0 FU s (by omega) hl hs
 simpa using this
theorem lp0 {α ρ:Type}(xs:List α)(L:Nat→Int→Option ρ)(G:Nat→List α→Option ρ)
  (h0: ∀f,L (f+1) (xs.length:Int)=G xs.length [])
  (h1: ∀f (k:Nat) x,xs[k]?=some x→k<xs.length→L f ((k:Int)+1)=G (k+1) (xs.drop (k+1))→L (f+1) k=G k (x::xs.drop (k+1)))
  (hl:xs.length<FU):L FU 0=G 0 xs:=
 lp xs (fun f (_:Unit) y=>L f y) (fun k l _=>G k l) (fun _ _=>True) (fun f s _=>h0 f) (fun f s k x hx hk _ ih=>h1 f k x hx hk (ih () trivial)) hl () trivial
end Go.A
namespace Go.Proofs.YtlbnpmfggfbdoaaGreatDoor
open Go.RowKit Go.Graph
theorem FU_big:(18446744073709551616:Nat)<A.FU:=by decide
theorem ixb {s:ByteArray}{k:Nat}(h:k<s.size):A.ix s.data.toList (k:Int)=some (Z.bat s k):=by
 refine A.ixn ?_
 have:=drop_bat h
 rw[←List.head?_drop,this];rfl
end Go.Proofs.YtlbnpmfggfbdoaaGreatDoor
end
section
set_option linter.unusedVariables false
set_option linter.unusedSimpArgs false
set_option synthInstance.maxSize 1000000
set_option synthInstance.maxHeartbeats 400000
namespace Go.Proofs.YtlbnpmfggfbdoaaGreatDoor
open Go.RowKit Go.Graph
abbrev Tm:=Int×Int×(Int×Int×Int×Int)
def pus (s:Sm):List Int:=[s.2.2.2.2.1,s.2.2.2.2.2.1,s.2.2.2.2.2.2.1,s.2.2.2.2.2.2.2]
def tms (t:Tm):List Int:=[t.2.2.1,t.2.2.2.1,t.2.2.2.2.1,t.2.2.2.2.2]
structure OkS (s:Sm):Prop where
 f:0≤s.1∧s.1≤4
 n:0≤s.2.2.2.1∧s.2.2.2.1≤4
 k:0≤s.2.1∧s.2.1≤s.1
 kn:s.2.1+s.2.2.2.1≤4
 a:0≤s.2.2.1∧s.2.2.1≤1048576
 k0:s.2.1=0→s.2.2.1=0
 p: ∀(i:Nat) (x:Int),(pus s)[i]?=some x→0≤x∧x≤1048576∧(s.2.2.2.1≤(i:Int)→x=0)
theorem ix4 {a b c d i:Int}(h:0≤i∧i<4): ∃x,A.ix [a,b,c,d] i=some x∧[a,b,c,d][i.toNat]?=some x:=by
 have:i=0∨i=1∨i=2∨i=3:=by omega
 rcases this with rfl|rfl|rfl|rfl
 ·exact⟨a,rfl,rfl⟩
 ·exact⟨b,rfl,rfl⟩
 ·exact⟨c,rfl,rfl⟩
 ·exact⟨d,rfl,rfl⟩
def pok (n:Int):Nat→List Int→Bool
 |_,[]=>true
 |k,x::r=>decide (0≤x∧x≤1048576∧(n≤(k:Int)→x=0))&&pok n (k+1) r
theorem pok_iff (n:Int): ∀(k:Nat) (l:List Int),pok n k l=true↔∀(i:Nat) (x:Int),l[i]?=some x→0≤x∧x≤1048576∧(n≤((k+i:Nat):Int)→x=0)
 |_,[]=>by simp[pok]
 |k,y::r=>by
  rw[pok,Bool.and_eq_true,decide_eq_true_iff,pok_iff n (k+1) r]
  constructor
  ·intro ⟨h1,h2⟩ i x hx
   cases i with
   |zero=>simp at hx;subst hx;exact h1
   |succ i=>
    have:=h2 i x (by simpa using hx)
    rw[show k+1+i=k+(i+1) by omega]at this;exact this
  ·intro h
   refine⟨h 0 y rfl,fun i x hx=>?_⟩
   have:=h (i+1) x (by simpa using hx)
   rw[show k+1+i=k+(i+1) by omega];exact this
theorem Check_l2 (a:Sm):F.R02_Check_l2 a A.FU 0=some (if pok a.2.2.2.1 0 (pus a)=true then 0 else 20):=
 A.lp0 (pus a) (fun f z=>F.R02_Check_l2 a f z) (fun k l=>some (if pok a.2.2.2.1 k l=true then 0 else 20))
  (fun f=>by rw[F.R02_Check_l2,if_neg (by show ¬((4:Nat):Int)<4;omega)];rfl)
  (fun f k x hx hk ih=>by
   have hk4:k<4:=hk
   rw[F.R02_Check_l2,if_pos (by omega),show A.ix [a.2.2.2.2.1,a.2.2.2.2.2.1,a.2.2.2.2.2.2.1,a.2.2.2.2.2.2.2] (k:Int)=some x from A.ixn hx]
   simp only[Option.bind_some,F.R02_Check_j1]
   rw[pok]
   by_cases h1:x<0
   ·rw[if_pos h1,if_pos trivial,if_neg (by simp;intro;omega)]
   rw[if_neg h1]
   by_cases h2:(1048576:Int)<x
   ·rw[if_pos h2,if_pos trivial,if_neg (by simp;intro;omega)]
   rw[if_neg h2]
   by_cases h3:a.2.2.2.1≤(k:Int)
   ·rw[if_pos h3]
    by_cases h4:x=0
    ·rw[if_neg (by simp[h4]),A.gd1 (A.r64n (by omega)),ih]
     rw[decide_eq_true (by omega:0≤x∧x≤1048576∧(a.2.2.2.1≤(k:Int)→x=0)),Bool.true_and]
    ·rw[if_pos (by simp[h4]),if_neg (by simp only[Bool.and_eq_true,decide_eq_true_eq];intro ⟨⟨_,_,h⟩,_⟩;exact h4 (h h3))]
   ·rw[if_neg h3,if_neg (by simp),A.gd1 (A.r64n (by omega)),ih]
    rw[decide_eq_true (by omega:0≤x∧x≤1048576∧(a.2.2.2.1≤(k:Int)→x=0)),Bool.true_and])
  (by show 4<A.FU;decide)
theorem Check_cases (s:Sm):(F.R02_Check s=some 0∧OkS s)∨(F.R02_Check s=some 20∧¬OkS s):=by
 unfold F.R02_Check
 simp only[A.bo]
 rw[A.gd1 (fun h=>by have:=of_decide_eq_false h;exact⟨by omega,by omega⟩)]
 split
 ·rename_i h
  have h:=of_decide_eq_true h
  exact .inr ⟨rfl,fun o=>by have:=o.f;have:=o.n;have:=o.k;have:=o.kn;have:=o.a;omega⟩
 ·rename_i h
  have h1:=of_decide_eq_false (Bool.eq_false_iff.2 h)
  split
  ·rename_i h2
   simp only[A.ba,decide_eq_true_eq]at h2
   exact .inr ⟨rfl,fun o=>h2.2 (o.k0 h2.1)⟩
  ·rename_i h2
   simp only[A.ba,decide_eq_true_eq]at h2
   rw[Check_l2]
   by_cases hp:pok s.2.2.2.1 0 (pus s)=true
   ·rw[if_pos hp]
    refine .inl ⟨rfl,⟨by omega,by omega,by omega,by omega,by omega,fun h=>Classical.byContradiction fun h3=>h2 ⟨h,h3⟩,fun i x hx=>?_⟩⟩
    have:=(pok_iff _ 0 _).1 hp i x hx
    rw[Nat.zero_add]at this;exact this
   ·rw[if_neg hp]
    refine .inr ⟨rfl,fun o=>hp ((pok_iff _ 0 _).2 fun i x hx=>?_)⟩
    rw[Nat.zero_add];exact o.p i x hx
theorem Check_ok {s:Sm}(h:OkS s):F.R02_Check s=some 0:=(Check_cases s).elim (fun h=>h.1) fun h2=>absurd h h2.2
structure Th (a b s:Sm):Prop where
 from_:s.1=a.1
 keep:s.2.1=min a.2.1 b.2.1
 add:s.2.2.1=(if a.2.1≤b.2.1 then a.2.2.1 else 0)+(if b.2.1≤a.2.1 then b.2.2.1 else 0)
 ends:s.2.1+s.2.2.2.1=b.2.1+b.2.2.2.1
end Go.Proofs.YtlbnpmfggfbdoaaGreatDoor
end
section
set_option linter.unusedVariables false
set_option linter.unusedSimpArgs false
namespace Go.A
theorem fst {α:Type}(l:List α)(p:α→Bool)(L:Nat→Int→Option Int)(h0: ∀f,L (f+1) (l.length:Int)=some (-1))
  (h1: ∀f (k:Nat) x,l[k]?=some x→k<l.length→L (f+1) (k:Int)=if p x=true then some (k:Int)else L f ((k:Int)+1)) (hl:l.length<FU):
  (L FU 0=some (-1)∧∀x∈l,p x=false)∨∃(k:Nat) (x:α),l[k]?=some x∧L FU 0=some (k:Int)∧p x=true∧∀y∈l.take k,p y=false:=by
 have main: ∀(n k f:Nat),k+n=l.length→n<f→(∀y∈l.take k,p y=false)→(L f (k:Int)=some (-1)∧∀x∈l,p x=false)∨∃(i:Nat) (x:α),l[i]?=some x∧L f (k:Int)=some (i:Int)∧p x=true∧∀y∈l.take i,p y=false:=by
  intro n
  induction n with
  |zero=>
   intro k f hk hf hp
   obtain⟨f,rfl⟩: ∃f',f=f'+1:=⟨f-1,by omega⟩
   obtain rfl:k=l.length:=by omega
   rw[List.take_of_length_le (Nat.le_refl _)]at hp
   exact .inl ⟨h0 f,hp⟩
  |succ n ih=>
   intro k f hk hf hp
   obtain⟨f,rfl⟩: ∃f',f=f'+1:=⟨f-1,by omega⟩
   have hx:l[k]?=some l[k]:=List.getElem?_eq_getElem (by omega)
   rw[h1 f k _ hx (by omega)]
   cases hb:p l[k]with
   |true=>rw[if_pos rfl];exact .inr ⟨k,_,hx,rfl,hb,hp⟩
   |false=>
    rw[if_neg Bool.false_ne_true]
    refine ih (k+1) f (by omega) (by omega) fun y hy=>?_
    rw[List.take_add_one,hx]at hy
    rcases List.mem_append.1 hy with h|h
    ·exact hp y h
    ·rw[Option.toList_some,List.mem_singleton]at h;rw[h];exact hb
 exact main l.length 0 FU (by omega) hl (by simp)
theorem del {α:Type}(l:List α)(p:α→Bool)(L:Nat→List α→Int→Int→Option (List α))
  (h0: ∀f xs (i:Nat),xs.length=l.length→i≤l.length→L (f+1) xs (i:Int) (l.length:Int)=some (xs.take i))
  (h1: ∀f xs (i j:Nat) x,xs[j]?=some x→i<j→j<l.length→xs.length=l.length→L (f+1) xs (i:Int) (j:Int)=if p x=true then L f xs (i:Int) ((j:Int)+1)else L f (xs.set i x) ((i:Int)+1) ((j:Int)+1))
  {k:Nat} {x:α} (hx:l[k]?=some x) (hp:p x=true) (hpre: ∀y∈l.take k,p y=false) (hl:l.length<FU):L FU l (k:Int) ((k:Int)+1)=some (l.filter fun y=> !p y):=by
 have main: ∀(n j i f:Nat) (xs:List α),j+n=l.length→n<f→i<j→xs.length=l.length→xs.take i=(l.take j).filter (fun y=> !p y)→xs.drop j=l.drop j→L f xs (i:Int) (j:Int)=some (l.filter fun y=> !p y):=by
  intro n
  induction n with
  |zero=>
   intro j i f xs hj hf hij hlen ht hd
   obtain⟨f,rfl⟩: ∃f',f=f'+1:=⟨f-1,by omega⟩
   obtain rfl:j=l.length:=by omega
   rw[h0 f xs i hlen (by omega),ht,List.take_of_length_le (Nat.le_refl _)]
  |succ n ih=>
   intro j i f xs hj hf hij hlen ht hd
   obtain⟨f,rfl⟩: ∃f',f=f'+1:=⟨f-1,by omega⟩
   have hy:l[j]?=some l[j]:=List.getElem?_eq_getElem (by omega)
   have hxj:xs[j]?=some l[j]:=by
    have:=congrArg List.head? hd
    rwa[List.head?_drop,List.head?_drop,hy]at this
   have htk:(l.take (j+1)).filter (fun y=> !p y)=(l.take j).filter (fun y=> !p y)++if p l[j]=true then []else [l[j]]:=by
    rw[List.take_add_one,hy,List.filter_append,Option.toList_some,List.filter_cons,List.filter_nil]
    cases p l[j]<;>rfl
   have hd2:xs.drop (j+1)=l.drop (j+1):=by
    have:=congrArg List.tail hd
    rwa[List.tail_drop,List.tail_drop]at this
   rw[h1 f xs i j _ hxj hij (by omega) hlen]
   cases hb:p l[j]with
   |true=>
    rw[if_pos rfl]
    exact ih (j+1) i f xs (by omega) (by omega) (by omega) hlen (by rw[htk,hb,if_pos rfl,List.append_nil,ht]) hd2
   |false=>
    rw[if_neg Bool.false_ne_true]
    have hset:(xs.set i l[j]).take (i+1)=xs.take i++[l[j]]:=by
     rw[List.take_add_one,List.getElem?_set,if_pos rfl,if_pos (by omega),List.take_set_of_le (Nat.le_refl _)];rfl
    have hdrop:(xs.set i l[j]).drop (j+1)=xs.drop (j+1):=List.drop_set_of_lt (by omega)
    have:=ih (j+1) (i+1) f (xs.set i l[j]) (by omega) (by omega) (by omega) (by rw[List.length_set];exact hlen) (by rw[htk,hb,if_neg Bool.false_ne_true,hset,ht]) (by rw[hdrop];exact hd2)
    exact this
 have hk:=(List.getElem?_eq_some_iff.1 hx).1
 refine main (l.length-(k+1)) (k+1) k FU l (by omega) (by omega) (by omega) rfl ?_ rfl
 rw[List.take_add_one,hx,List.filter_append,List.filter_eq_self.2 (fun y hy=>by rw[hpre y hy];rfl)]
 simp[hp]
end Go.A
end
section
set_option linter.unusedVariables false
set_option linter.unusedSimpArgs false
set_option synthInstance.maxSize 1000000
set_option synthInstance.maxHeartbeats 400000
namespace Go.A
theorem eql {α:Type}[DecidableEq α](a b:List α)(L:Nat→Int→Option Bool)(hlen:a.length=b.length)(h0: ∀f,L (f+1) (a.length:Int)=some true)
  (h1: ∀f (k:Nat) x z,a[k]?=some x→b[k]?=some z→k<a.length→L (f+1) k=if x=z then L f ((k:Int)+1)else some false) (hl:a.length<FU):L FU 0=some (decide (a=b)):=by
 have:=lp0 a L (fun k l=>some (decide (l=b.drop k)))
  (fun f=>by rw[h0,hlen,List.drop_eq_nil_of_le (Nat.le_refl _)];rfl)
  (fun f k x hx hk ih=>by
   have hz:b[k]?=some b[k]:=List.getElem?_eq_getElem (by omega)
   rw[h1 f k x _ hx hz hk,ih,dropx hz]
   by_cases h:x=b[k]
   ·rw[if_pos h];congr 1;exact decide_eq_decide.2 ⟨fun e=>by rw[h,e],fun e=>(List.cons.inj e).2⟩
   ·rw[if_neg h];congr 1;exact(decide_eq_false (fun e=>h (List.cons.inj e).1)).symm)
  hl
 rw[List.drop_zero]at this;exact this
end Go.A
namespace Go.Proofs.YtlbnpmfggfbdoaaGreatDoor
open Go.RowKit Go.Graph
theorem may_l2 (a:Sm):F.summ_may_l2 a A.FU 0=some (pok a.2.2.2.1 0 (pus a)):=
 A.lp0 (pus a) (fun f z=>F.summ_may_l2 a f z) (fun k l=>some (pok a.2.2.2.1 k l))
  (fun f=>by rw[F.summ_may_l2,if_neg (by show ¬((4:Nat):Int)<4;omega)];rfl)
  (fun f k x hx hk ih=>by
   have hk4:k<4:=hk
   rw[F.summ_may_l2,if_pos (by omega),show A.ix [a.2.2.2.2.1,a.2.2.2.2.2.1,a.2.2.2.2.2.2.1,a.2.2.2.2.2.2.2] (k:Int)=some x from A.ixn hx]
   simp only[Option.bind_some,F.summ_within,A.ba]
   rw[pok,A.gd1 (A.r64n (by omega)),ih]
   by_cases h1:0≤x∧x≤1048576
   ·rw[decide_eq_true h1,if_neg (by decide)]
    by_cases h2:a.2.2.2.1≤(k:Int)∧x≠0
    ·rw[if_pos (decide_eq_true h2),decide_eq_false (fun h=>h2.2 (h.2.2 h2.1)),Bool.false_and]
    ·rw[if_neg (by rw[decide_eq_true_iff];exact h2),decide_eq_true (p:=0≤x∧x≤1048576∧(a.2.2.2.1≤(k:Int)→x=0)) ⟨h1.1,h1.2,fun h=>Classical.byContradiction fun h3=>h2 ⟨h,h3⟩⟩,Bool.true_and]
   ·rw[decide_eq_false h1,if_pos (by decide),decide_eq_false (fun h=>h1 ⟨h.1,h.2.1⟩),Bool.false_and])
  (by show 4<A.FU;decide)
theorem may_cases (s:Sm):(F.summ_may s=some true∧OkS s)∨(F.summ_may s=some false∧¬OkS s):=by
 unfold F.summ_may F.summ_may_j1
 simp only[A.bo,A.ba,F.summ_within,Option.bind_some]
 split
 ·rename_i h
  have h:=of_decide_eq_true h
  exact .inr ⟨rfl,fun o=>by have:=o.f;omega⟩
 rename_i h1
 have h1:=of_decide_eq_false (Bool.eq_false_iff.2 h1)
 split
 ·rename_i h
  have h:=of_decide_eq_true h
  exact .inr ⟨rfl,fun o=>by have:=o.n;omega⟩
 rename_i h2
 have h2:=of_decide_eq_false (Bool.eq_false_iff.2 h2)
 rw[A.gd1 (fun h=>by have:=of_decide_eq_false h;exact⟨by omega,by omega⟩)]
 split
 ·rename_i h
  have h:=of_decide_eq_true h
  exact .inr ⟨rfl,fun o=>by have:=o.k;have:=o.kn;omega⟩
 rename_i h3
 have h3:=of_decide_eq_false (Bool.eq_false_iff.2 h3)
 by_cases h4:0≤s.2.2.1∧s.2.2.1≤1048576
 case neg=>rw[decide_eq_false h4,if_pos (by decide)];exact .inr ⟨rfl,fun o=>h4 o.a⟩
 rw[decide_eq_true h4,if_neg (by decide)]
 split
 ·rename_i h
  have h:=of_decide_eq_true h
  exact .inr ⟨rfl,fun o=>h.2 (o.k0 h.1)⟩
 rename_i h5
 have h5:=of_decide_eq_false (Bool.eq_false_iff.2 h5)
 rw[may_l2]
 cases hp:pok s.2.2.2.1 0 (pus s)with
 |true=>
  refine .inl ⟨rfl,⟨by omega,by omega,by omega,by omega,h4,fun h=>Classical.byContradiction fun h3=>h5 ⟨h,h3⟩,fun i x hx=>?_⟩⟩
  have:=(pok_iff _ 0 _).1 hp i x hx
  rw[Nat.zero_add]at this;exact this
 |false=>
  refine .inr ⟨rfl,fun o=>?_⟩
  have:pok s.2.2.2.1 0 (pus s)=true:=(pok_iff _ 0 _).2 fun i x hx=>by rw[Nat.zero_add];exact o.p i x hx
  rw[hp]at this;cases this
theorem may_ok {s:Sm}(h:OkS s):F.summ_may s=some true:=(may_cases s).elim (fun h=>h.1) fun h2=>absurd h h2.2
theorem may_no {s:Sm}(h: ¬OkS s):F.summ_may s=some false:=(may_cases s).elim (fun h2=>absurd h2.2 h) fun h=>h.1
theorem Check_no {s:Sm}(h: ¬OkS s):F.R02_Check s=some 20:=(Check_cases s).elim (fun h2=>absurd h2.2 h) fun h=>h.1
theorem tick (t:Tm):F.tstamp_Check_l1 t A.FU 0=some (if pok t.2.1 0 (tms t)=true then 0 else 10):=
 A.lp0 (tms t) (fun f z=>F.tstamp_Check_l1 t f z) (fun k l=>some (if pok t.2.1 k l=true then 0 else 10))
  (fun f=>by rw[F.tstamp_Check_l1,if_neg (by show ¬((4:Nat):Int)<4;omega)];rfl)
  (fun f k x hx hk ih=>by
   have hk4:k<4:=hk
   rw[F.tstamp_Check_l1,if_pos (by omega),show A.ix [t.2.2.1,t.2.2.2.1,t.2.2.2.2.1,t.2.2.2.2.2] (k:Int)=some x from A.ixn hx]
   simp only[Option.bind_some,A.ba,A.bo]
   rw[pok,A.gd1 (A.r64n (by omega)),ih]
   by_cases h1:x<0∨(1048576:Int)<x
   ·rw[if_pos (decide_eq_true h1),decide_eq_false (fun h=>by omega),Bool.false_and,if_neg (by decide)]
   rw[if_neg (by rw[decide_eq_true_iff];exact h1)]
   by_cases h2:t.2.1≤(k:Int)∧x≠0
   ·rw[if_pos (decide_eq_true h2),decide_eq_false (fun h=>h2.2 (h.2.2 h2.1)),Bool.false_and,if_neg (by decide)]
   ·rw[if_neg (by rw[decide_eq_true_iff];exact h2),decide_eq_true (p:=0≤x∧x≤1048576∧(t.2.1≤(k:Int)→x=0)) ⟨by omega,by omega,fun h=>Classical.byContradiction fun h3=>h2 ⟨h,h3⟩⟩,Bool.true_and])
  (by show 4<A.FU;decide)
theorem tick2 (t:Tm):F.R01_Check_l2 t A.FU 0=some (if pok t.2.1 0 (tms t)=true then 0 else 10):=
 A.lp0 (tms t) (fun f z=>F.R01_Check_l2 t f z) (fun k l=>some (if pok t.2.1 k l=true then 0 else 10))
  (fun f=>by rw[F.R01_Check_l2,if_neg (by show ¬((4:Nat):Int)<4;omega)];rfl)
  (fun f k x hx hk ih=>by
   have hk4:k<4:=hk
   rw[F.R01_Check_l2,if_pos (by omega),show A.ix [t.2.2.1,t.2.2.2.1,t.2.2.2.2.1,t.2.2.2.2.2] (k:Int)=some x from A.ixn hx]
   simp only[Option.bind_some,F.R01_Check_j1]
   rw[pok,A.gd1 (A.r64n (by omega)),ih]
   by_cases h1:x<0
   ·rw[if_pos h1,if_pos trivial,decide_eq_false (fun h=>by omega),Bool.false_and,if_neg (by decide)]
   rw[if_neg h1]
   by_cases h2:(1048576:Int)<x
   ·rw[if_pos h2,if_pos trivial,decide_eq_false (fun h=>by omega),Bool.false_and,if_neg (by decide)]
   rw[if_neg h2]
   by_cases h3:t.2.1≤(k:Int)
   ·rw[if_pos h3]
    by_cases h4:x=0
    ·rw[if_neg (by simp[h4]),decide_eq_true (p:=0≤x∧x≤1048576∧(t.2.1≤(k:Int)→x=0)) ⟨by omega,by omega,fun _=>h4⟩,Bool.true_and]
    ·rw[if_pos (by simp[h4]),decide_eq_false (fun h=>h4 (h.2.2 h3)),Bool.false_and,if_neg (by decide)]
   ·rw[if_neg h3,if_neg (by simp),decide_eq_true (p:=0≤x∧x≤1048576∧(t.2.1≤(k:Int)→x=0)) ⟨by omega,by omega,fun h=>absurd h h3⟩,Bool.true_and])
  (by show 4<A.FU;decide)
theorem tcheck_eq (t:Tm):F.tstamp_Check t=F.R01_Check t:=by
 unfold F.tstamp_Check F.R01_Check
 rw[tick,tick2]
def okT (t:Tm):Prop:=0≤t.1∧t.1≤1073741824∧0≤t.2.1∧t.2.1≤4∧(0≤t.2.2.1∧t.2.2.1≤1048576∧(t.2.1≤0→t.2.2.1=0))∧(0≤t.2.2.2.1∧t.2.2.2.1≤1048576∧(t.2.1≤1→t.2.2.2.1=0))∧(0≤t.2.2.2.2.1∧t.2.2.2.2.1≤1048576∧(t.2.1≤2→t.2.2.2.2.1=0))∧(0≤t.2.2.2.2.2∧t.2.2.2.2.2≤1048576∧(t.2.1≤3→t.2.2.2.2.2=0))
theorem RCheck_cases (t:Tm):(F.R01_Check t=some 0∧okT t)∨(F.R01_Check t=some 10∧¬okT t):=by
 unfold F.R01_Check
 simp only[A.bo]
 split
 ·rename_i h
  have h:=of_decide_eq_true h
  exact .inr ⟨rfl,fun o=>by unfold okT at o;omega⟩
 rename_i h1
 have h1:=of_decide_eq_false (Bool.eq_false_iff.2 h1)
 rw[tick2]
 have e:pok t.2.1 0 (tms t)=true↔okT t:=by
  unfold tms okT
  simp only[pok,Bool.and_eq_true,decide_eq_true_eq,Bool.and_true]
  omega
 by_cases h:pok t.2.1 0 (tms t)=true
 ·rw[if_pos h];exact .inl ⟨rfl,e.1 h⟩
 ·rw[if_neg h];exact .inr ⟨rfl,fun o=>h (e.2 o)⟩
theorem tleq_eq (a b:Tm):F.tstamp_Leq a b=F.R01_Leq a b:=by
 have loop: ∀f y,F.tstamp_Leq_l1 a b f y=F.R01_Leq_l1 a b f y:=fun f=>by
  induction f with
  |zero=>intro y;rfl
  |succ f ih=>intro y;rw[F.tstamp_Leq_l1,F.R01_Leq_l1];simp only[ih]
 unfold F.tstamp_Leq F.R01_Leq F.tstamp_Leq_j2 F.R01_Leq_j2
 rw[tcheck_eq,tcheck_eq]
 simp only[loop]
theorem tleq_ok (a b:Tm): ∃r,F.R01_Leq a b=some r:=by
 have loop: ∀(n f:Nat) (y:Int),y+n=4→0≤y→n<f→∃r,F.R01_Leq_l1 a b f y=some r:=by
  intro n
  induction n with
  |zero=>
   intro f y h1 h2 h3
   obtain⟨f,rfl⟩: ∃f',f=f'+1:=⟨f-1,by omega⟩
   rw[F.R01_Leq_l1,if_neg (by omega)];exact⟨_,rfl⟩
  |succ n ih=>
   intro f y h1 h2 h3
   obtain⟨f,rfl⟩: ∃f',f=f'+1:=⟨f-1,by omega⟩
   obtain⟨x,hx,_⟩:=ix4 (a:=a.2.2.1) (b:=a.2.2.2.1) (c:=a.2.2.2.2.1) (d:=a.2.2.2.2.2) (i:=y) (by omega)
   obtain⟨z,hz,_⟩:=ix4 (a:=b.2.2.1) (b:=b.2.2.2.1) (c:=b.2.2.2.2.1) (d:=b.2.2.2.2.2) (i:=y) (by omega)
   rw[F.R01_Leq_l1,if_pos (by omega),hx,Option.bind_some,hz,Option.bind_some]
   split
   ·exact⟨_,rfl⟩
   ·rw[A.gd1 ⟨by omega,by omega⟩];exact ih f (y+1) (by omega) (by omega) (by omega)
 have tot: ∀t:Tm,∃r,F.R01_Check t=some r:=fun t=>(RCheck_cases t).elim (fun h=>⟨_,h.1⟩) fun h=>⟨_,h.1⟩
 have j: ∀y,∃r,F.R01_Leq_j2 a b y=some r:=fun y=>by
  unfold F.R01_Leq_j2
  split
  ·exact⟨_,rfl⟩
  ·exact loop 4 A.FU 0 (by omega) (by omega) (by decide)
 obtain⟨r1,h1⟩:=tot (a.1,a.2.1,(a.2.2.1,a.2.2.2.1,a.2.2.2.2.1,a.2.2.2.2.2))
 obtain⟨r2,h2⟩:=tot (b.1,b.2.1,(b.2.2.1,b.2.2.2.1,b.2.2.2.2.1,b.2.2.2.2.2))
 unfold F.R01_Leq
 rw[h1,Option.bind_some]
 split
 ·exact j _
 ·rw[h2,Option.bind_some];exact j _
structure ApOk (s:Sm) (t:Tm):Prop where
 ex: ∃(w:Tm) (v:Int),F.summ_Apply s t=(if(1048576:Int)<v then some ((0,0,(0,0,0,0)),12)else some (w,0))∧F.R02_Apply s t=((F.R01_Check w).bind fun r=>if r≠0 then some ((0,0,(0,0,0,0)),12)else some (w,0))∧(okT w↔¬(1048576:Int)<v)
theorem ap00 {f A' p0 p1 p2 p3 E t0 t1 t2 t3:Int}(hs:OkS (f,0,A',0,(p0,p1,p2,p3)))(ht:okT (E,f,(t0,t1,t2,t3))):ApOk (f,0,A',0,(p0,p1,p2,p3)) (E,f,(t0,t1,t2,t3)):=by
 have hf:=hs.f
 have hk:=hs.k
 have ha:=hs.a
 have hp0:=hs.p 0 p0 rfl
 have hp1:=hs.p 1 p1 rfl
 have hp2:=hs.p 2 p2 rfl
 have hp3:=hs.p 3 p3 rfl
 simp only at hf hk ha hp0 hp1 hp2 hp3
 have hT:F.R01_Check (E,f,(t0,t1,t2,t3))=some 0:=(RCheck_cases _).elim (fun h=>h.1) fun h=>absurd ht h.2
 have hT2:=hT
 rw[←tcheck_eq]at hT2
 unfold okT at ht
 simp only at ht
 obtain⟨n,hn⟩: ∃n,A.FU=n+5:=⟨A.FU-5,by decide⟩
 have g0: -9223372036854775808≤t0+A'∧t0+A'≤9223372036854775807:=by omega
 have g1: -9223372036854775808≤t1+A'∧t1+A'≤9223372036854775807:=by omega
 have g2: -9223372036854775808≤t2+A'∧t2+A'≤9223372036854775807:=by omega
 have g3: -9223372036854775808≤t3+A'∧t3+A'≤9223372036854775807:=by omega
 refine⟨(E,0,(0,0,0,0)),0,?_,?_,by unfold okT;simp<;>omega⟩
 ·unfold F.summ_Apply
  simp only[may_ok hs,hT2,Option.bind_some]
  simp[F.summ_Apply_j1,A.cp4,A.ix,A.gd,Z.R64,g0,g1,g2,g3]
 ·unfold F.R02_Apply
  simp only[Check_ok hs,hT,Option.bind_some]
  simp[F.R02_Apply_l2,F.R02_Apply_j1,A.ix,A.gd,Z.R64,g0,g1,g2,g3,hn]
theorem ap01 {f A' p0 p1 p2 p3 E t0 t1 t2 t3:Int}(hs:OkS (f,0,A',1,(p0,p1,p2,p3)))(ht:okT (E,f,(t0,t1,t2,t3))):ApOk (f,0,A',1,(p0,p1,p2,p3)) (E,f,(t0,t1,t2,t3)):=by
 have hf:=hs.f
 have hk:=hs.k
 have ha:=hs.a
 have hp0:=hs.p 0 p0 rfl
 have hp1:=hs.p 1 p1 rfl
 have hp2:=hs.p 2 p2 rfl
 have hp3:=hs.p 3 p3 rfl
 simp only at hf hk ha hp0 hp1 hp2 hp3
 have hT:F.R01_Check (E,f,(t0,t1,t2,t3))=some 0:=(RCheck_cases _).elim (fun h=>h.1) fun h=>absurd ht h.2
 have hT2:=hT
 rw[←tcheck_eq]at hT2
 unfold okT at ht
 simp only at ht
 obtain⟨n,hn⟩: ∃n,A.FU=n+5:=⟨A.FU-5,by decide⟩
 have g0: -9223372036854775808≤t0+A'∧t0+A'≤9223372036854775807:=by omega
 have g1: -9223372036854775808≤t1+A'∧t1+A'≤9223372036854775807:=by omega
 have g2: -9223372036854775808≤t2+A'∧t2+A'≤9223372036854775807:=by omega
 have g3: -9223372036854775808≤t3+A'∧t3+A'≤9223372036854775807:=by omega
 refine⟨(E,1,(p0,0,0,0)),0,?_,?_,by unfold okT;simp<;>omega⟩
 ·unfold F.summ_Apply
  simp only[may_ok hs,hT2,Option.bind_some]
  simp[F.summ_Apply_j1,A.cp4,A.ix,A.gd,Z.R64,g0,g1,g2,g3]
 ·unfold F.R02_Apply
  simp only[Check_ok hs,hT,Option.bind_some]
  simp[F.R02_Apply_l2,F.R02_Apply_j1,A.ix,A.gd,Z.R64,g0,g1,g2,g3,hn]
theorem ap02 {f A' p0 p1 p2 p3 E t0 t1 t2 t3:Int}(hs:OkS (f,0,A',2,(p0,p1,p2,p3)))(ht:okT (E,f,(t0,t1,t2,t3))):ApOk (f,0,A',2,(p0,p1,p2,p3)) (E,f,(t0,t1,t2,t3)):=by
 have hf:=hs.f
 have hk:=hs.k
 have ha:=hs.a
 have hp0:=hs.p 0 p0 rfl
 have hp1:=hs.p 1 p1 rfl
 have hp2:=hs.p 2 p2 rfl
 have hp3:=hs.p 3 p3 rfl
 simp only at hf hk ha hp0 hp1 hp2 hp3
 have hT:F.R01_Check (E,f,(t0,t1,t2,t3))=some 0:=(RCheck_cases _).elim (fun h=>h.1) fun h=>absurd ht h.2
 have hT2:=hT
 rw[←tcheck_eq]at hT2
 unfold okT at ht
 simp only at ht
 obtain⟨n,hn⟩: ∃n,A.FU=n+5:=⟨A.FU-5,by decide⟩
 have g0: -9223372036854775808≤t0+A'∧t0+A'≤9223372036854775807:=by omega
 have g1: -9223372036854775808≤t1+A'∧t1+A'≤9223372036854775807:=by omega
 have g2: -9223372036854775808≤t2+A'∧t2+A'≤9223372036854775807:=by omega
 have g3: -9223372036854775808≤t3+A'∧t3+A'≤9223372036854775807:=by omega
 refine⟨(E,2,(p0,p1,0,0)),0,?_,?_,by unfold okT;simp<;>omega⟩
 ·unfold F.summ_Apply
  simp only[may_ok hs,hT2,Option.bind_some]
  simp[F.summ_Apply_j1,A.cp4,A.ix,A.gd,Z.R64,g0,g1,g2,g3]
 ·unfold F.R02_Apply
  simp only[Check_ok hs,hT,Option.bind_some]
  simp[F.R02_Apply_l2,F.R02_Apply_j1,A.ix,A.gd,Z.R64,g0,g1,g2,g3,hn]
theorem ap03 {f A' p0 p1 p2 p3 E t0 t1 t2 t3:Int}(hs:OkS (f,0,A',3,(p0,p1,p2,p3)))(ht:okT (E,f,(t0,t1,t2,t3))):ApOk (f,0,A',3,(p0,p1,p2,p3)) (E,f,(t0,t1,t2,t3)):=by
 have hf:=hs.f
 have hk:=hs.k
 have ha:=hs.a
 have hp0:=hs.p 0 p0 rfl
 have hp1:=hs.p 1 p1 rfl
 have hp2:=hs.p 2 p2 rfl
 have hp3:=hs.p 3 p3 rfl
 simp only at hf hk ha hp0 hp1 hp2 hp3
 have hT:F.R01_Check (E,f,(t0,t1,t2,t3))=some 0:=(RCheck_cases _).elim (fun h=>h.1) fun h=>absurd ht h.2
 have hT2:=hT
 rw[←tcheck_eq]at hT2
 unfold okT at ht
 simp only at ht
 obtain⟨n,hn⟩: ∃n,A.FU=n+5:=⟨A.FU-5,by decide⟩
 have g0: -9223372036854775808≤t0+A'∧t0+A'≤9223372036854775807:=by omega
 have g1: -9223372036854775808≤t1+A'∧t1+A'≤9223372036854775807:=by omega
 have g2: -9223372036854775808≤t2+A'∧t2+A'≤9223372036854775807:=by omega
 have g3: -9223372036854775808≤t3+A'∧t3+A'≤9223372036854775807:=by omega
 refine⟨(E,3,(p0,p1,p2,0)),0,?_,?_,by unfold okT;simp<;>omega⟩
 ·unfold F.summ_Apply
  simp only[may_ok hs,hT2,Option.bind_some]
  simp[F.summ_Apply_j1,A.cp4,A.ix,A.gd,Z.R64,g0,g1,g2,g3]
 ·unfold F.R02_Apply
  simp only[Check_ok hs,hT,Option.bind_some]
  simp[F.R02_Apply_l2,F.R02_Apply_j1,A.ix,A.gd,Z.R64,g0,g1,g2,g3,hn]
theorem ap04 {f A' p0 p1 p2 p3 E t0 t1 t2 t3:Int}(hs:OkS (f,0,A',4,(p0,p1,p2,p3)))(ht:okT (E,f,(t0,t1,t2,t3))):ApOk (f,0,A',4,(p0,p1,p2,p3)) (E,f,(t0,t1,t2,t3)):=by
 have hf:=hs.f
 have hk:=hs.k
 have ha:=hs.a
 have hp0:=hs.p 0 p0 rfl
 have hp1:=hs.p 1 p1 rfl
 have hp2:=hs.p 2 p2 rfl
 have hp3:=hs.p 3 p3 rfl
 simp only at hf hk ha hp0 hp1 hp2 hp3
 have hT:F.R01_Check (E,f,(t0,t1,t2,t3))=some 0:=(RCheck_cases _).elim (fun h=>h.1) fun h=>absurd ht h.2
 have hT2:=hT
 rw[←tcheck_eq]at hT2
 unfold okT at ht
 simp only at ht
 obtain⟨n,hn⟩: ∃n,A.FU=n+5:=⟨A.FU-5,by decide⟩
 have g0: -9223372036854775808≤t0+A'∧t0+A'≤9223372036854775807:=by omega
 have g1: -9223372036854775808≤t1+A'∧t1+A'≤9223372036854775807:=by omega
 have g2: -9223372036854775808≤t2+A'∧t2+A'≤9223372036854775807:=by omega
 have g3: -9223372036854775808≤t3+A'∧t3+A'≤9223372036854775807:=by omega
 refine⟨(E,4,(p0,p1,p2,p3)),0,?_,?_,by unfold okT;simp<;>omega⟩
 ·unfold F.summ_Apply
  simp only[may_ok hs,hT2,Option.bind_some]
  simp[F.summ_Apply_j1,A.cp4,A.ix,A.gd,Z.R64,g0,g1,g2,g3]
 ·unfold F.R02_Apply
  simp only[Check_ok hs,hT,Option.bind_some]
  simp[F.R02_Apply_l2,F.R02_Apply_j1,A.ix,A.gd,Z.R64,g0,g1,g2,g3,hn]
theorem ap10 {f A' p0 p1 p2 p3 E t0 t1 t2 t3:Int}(hs:OkS (f,1,A',0,(p0,p1,p2,p3)))(ht:okT (E,f,(t0,t1,t2,t3))):ApOk (f,1,A',0,(p0,p1,p2,p3)) (E,f,(t0,t1,t2,t3)):=by
 have hf:=hs.f
 have hk:=hs.k
 have ha:=hs.a
 have hp0:=hs.p 0 p0 rfl
 have hp1:=hs.p 1 p1 rfl
 have hp2:=hs.p 2 p2 rfl
 have hp3:=hs.p 3 p3 rfl
 simp only at hf hk ha hp0 hp1 hp2 hp3
 have hT:F.R01_Check (E,f,(t0,t1,t2,t3))=some 0:=(RCheck_cases _).elim (fun h=>h.1) fun h=>absurd ht h.2
 have hT2:=hT
 rw[←tcheck_eq]at hT2
 unfold okT at ht
 simp only at ht
 obtain⟨n,hn⟩: ∃n,A.FU=n+5:=⟨A.FU-5,by decide⟩
 have g0: -9223372036854775808≤t0+A'∧t0+A'≤9223372036854775807:=by omega
 have g1: -9223372036854775808≤t1+A'∧t1+A'≤9223372036854775807:=by omega
 have g2: -9223372036854775808≤t2+A'∧t2+A'≤9223372036854775807:=by omega
 have g3: -9223372036854775808≤t3+A'∧t3+A'≤9223372036854775807:=by omega
 refine⟨(E,1,(t0+A',0,0,0)),t0+A',?_,?_,by unfold okT;simp<;>omega⟩
 ·unfold F.summ_Apply
  simp only[may_ok hs,hT2,Option.bind_some]
  simp[F.summ_Apply_j1,A.cp4,A.ix,A.gd,Z.R64,g0,g1,g2,g3]
 ·unfold F.R02_Apply
  simp only[Check_ok hs,hT,Option.bind_some]
  simp[F.R02_Apply_l2,F.R02_Apply_j1,A.ix,A.gd,Z.R64,g0,g1,g2,g3,hn]
theorem ap11 {f A' p0 p1 p2 p3 E t0 t1 t2 t3:Int}(hs:OkS (f,1,A',1,(p0,p1,p2,p3)))(ht:okT (E,f,(t0,t1,t2,t3))):ApOk (f,1,A',1,(p0,p1,p2,p3)) (E,f,(t0,t1,t2,t3)):=by
 have hf:=hs.f
 have hk:=hs.k
 have ha:=hs.a
 have hp0:=hs.p 0 p0 rfl
 have hp1:=hs.p 1 p1 rfl
 have hp2:=hs.p 2 p2 rfl
 have hp3:=hs.p 3 p3 rfl
 simp only at hf hk ha hp0 hp1 hp2 hp3
 have hT:F.R01_Check (E,f,(t0,t1,t2,t3))=some 0:=(RCheck_cases _).elim (fun h=>h.1) fun h=>absurd ht h.2
 have hT2:=hT
 rw[←tcheck_eq]at hT2
 unfold okT at ht
 simp only at ht
 obtain⟨n,hn⟩: ∃n,A.FU=n+5:=⟨A.FU-5,by decide⟩
 have g0: -9223372036854775808≤t0+A'∧t0+A'≤9223372036854775807:=by omega
 have g1: -9223372036854775808≤t1+A'∧t1+A'≤9223372036854775807:=by omega
 have g2: -9223372036854775808≤t2+A'∧t2+A'≤9223372036854775807:=by omega
 have g3: -9223372036854775808≤t3+A'∧t3+A'≤9223372036854775807:=by omega
 refine⟨(E,2,(t0+A',p0,0,0)),t0+A',?_,?_,by unfold okT;simp<;>omega⟩
 ·unfold F.summ_Apply
  simp only[may_ok hs,hT2,Option.bind_some]
  simp[F.summ_Apply_j1,A.cp4,A.ix,A.gd,Z.R64,g0,g1,g2,g3]
 ·unfold F.R02_Apply
  simp only[Check_ok hs,hT,Option.bind_some]
  simp[F.R02_Apply_l2,F.R02_Apply_j1,A.ix,A.gd,Z.R64,g0,g1,g2,g3,hn]
theorem ap12 {f A' p0 p1 p2 p3 E t0 t1 t2 t3:Int}(hs:OkS (f,1,A',2,(p0,p1,p2,p3)))(ht:okT (E,f,(t0,t1,t2,t3))):ApOk (f,1,A',2,(p0,p1,p2,p3)) (E,f,(t0,t1,t2,t3)):=by
 have hf:=hs.f
 have hk:=hs.k
 have ha:=hs.a
 have hp0:=hs.p 0 p0 rfl
 have hp1:=hs.p 1 p1 rfl
 have hp2:=hs.p 2 p2 rfl
 have hp3:=hs.p 3 p3 rfl
 simp only at hf hk ha hp0 hp1 hp2 hp3
 have hT:F.R01_Check (E,f,(t0,t1,t2,t3))=some 0:=(RCheck_cases _).elim (fun h=>h.1) fun h=>absurd ht h.2
 have hT2:=hT
 rw[←tcheck_eq]at hT2
 unfold okT at ht
 simp only at ht
 obtain⟨n,hn⟩: ∃n,A.FU=n+5:=⟨A.FU-5,by decide⟩
 have g0: -9223372036854775808≤t0+A'∧t0+A'≤9223372036854775807:=by omega
 have g1: -9223372036854775808≤t1+A'∧t1+A'≤9223372036854775807:=by omega
 have g2: -9223372036854775808≤t2+A'∧t2+A'≤9223372036854775807:=by omega
 have g3: -9223372036854775808≤t3+A'∧t3+A'≤9223372036854775807:=by omega
 refine⟨(E,3,(t0+A',p0,p1,0)),t0+A',?_,?_,by unfold okT;simp<;>omega⟩
 ·unfold F.summ_Apply
  simp only[may_ok hs,hT2,Option.bind_some]
  simp[F.summ_Apply_j1,A.cp4,A.ix,A.gd,Z.R64,g0,g1,g2,g3]
 ·unfold F.R02_Apply
  simp only[Check_ok hs,hT,Option.bind_some]
  simp[F.R02_Apply_l2,F.R02_Apply_j1,A.ix,A.gd,Z.R64,g0,g1,g2,g3,hn]
theorem ap13 {f A' p0 p1 p2 p3 E t0 t1 t2 t3:Int}(hs:OkS (f,1,A',3,(p0,p1,p2,p3)))(ht:okT (E,f,(t0,t1,t2,t3))):ApOk (f,1,A',3,(p0,p1,p2,p3)) (E,f,(t0,t1,t2,t3)):=by
 have hf:=hs.f
 have hk:=hs.k
 have ha:=hs.a
 have hp0:=hs.p 0 p0 rfl
 have hp1:=hs.p 1 p1 rfl
 have hp2:=hs.p 2 p2 rfl
 have hp3:=hs.p 3 p3 rfl
 simp only at hf hk ha hp0 hp1 hp2 hp3
 have hT:F.R01_Check (E,f,(t0,t1,t2,t3))=some 0:=(RCheck_cases _).elim (fun h=>h.1) fun h=>absurd ht h.2
 have hT2:=hT
 rw[←tcheck_eq]at hT2
 unfold okT at ht
 simp only at ht
 obtain⟨n,hn⟩: ∃n,A.FU=n+5:=⟨A.FU-5,by decide⟩
 have g0: -9223372036854775808≤t0+A'∧t0+A'≤9223372036854775807:=by omega
 have g1: -9223372036854775808≤t1+A'∧t1+A'≤9223372036854775807:=by omega
 have g2: -9223372036854775808≤t2+A'∧t2+A'≤9223372036854775807:=by omega
 have g3: -9223372036854775808≤t3+A'∧t3+A'≤9223372036854775807:=by omega
 refine⟨(E,4,(t0+A',p0,p1,p2)),t0+A',?_,?_,by unfold okT;simp<;>omega⟩
 ·unfold F.summ_Apply
  simp only[may_ok hs,hT2,Option.bind_some]
  simp[F.summ_Apply_j1,A.cp4,A.ix,A.gd,Z.R64,g0,g1,g2,g3]
 ·unfold F.R02_Apply
  simp only[Check_ok hs,hT,Option.bind_some]
  simp[F.R02_Apply_l2,F.R02_Apply_j1,A.ix,A.gd,Z.R64,g0,g1,g2,g3,hn]
theorem ap20 {f A' p0 p1 p2 p3 E t0 t1 t2 t3:Int}(hs:OkS (f,2,A',0,(p0,p1,p2,p3)))(ht:okT (E,f,(t0,t1,t2,t3))):ApOk (f,2,A',0,(p0,p1,p2,p3)) (E,f,(t0,t1,t2,t3)):=by
 have hf:=hs.f
 have hk:=hs.k
 have ha:=hs.a
 have hp0:=hs.p 0 p0 rfl
 have hp1:=hs.p 1 p1 rfl
 have hp2:=hs.p 2 p2 rfl
 have hp3:=hs.p 3 p3 rfl
 simp only at hf hk ha hp0 hp1 hp2 hp3
 have hT:F.R01_Check (E,f,(t0,t1,t2,t3))=some 0:=(RCheck_cases _).elim (fun h=>h.1) fun h=>absurd ht h.2
 have hT2:=hT
 rw[←tcheck_eq]at hT2
 unfold okT at ht
 simp only at ht
 obtain⟨n,hn⟩: ∃n,A.FU=n+5:=⟨A.FU-5,by decide⟩
 have g0: -9223372036854775808≤t0+A'∧t0+A'≤9223372036854775807:=by omega
 have g1: -9223372036854775808≤t1+A'∧t1+A'≤9223372036854775807:=by omega
 have g2: -9223372036854775808≤t2+A'∧t2+A'≤9223372036854775807:=by omega
 have g3: -9223372036854775808≤t3+A'∧t3+A'≤9223372036854775807:=by omega
 refine⟨(E,2,(t0,t1+A',0,0)),t1+A',?_,?_,by unfold okT;simp<;>omega⟩
 ·unfold F.summ_Apply
  simp only[may_ok hs,hT2,Option.bind_some]
  simp[F.summ_Apply_j1,A.cp4,A.ix,A.gd,Z.R64,g0,g1,g2,g3]
 ·unfold F.R02_Apply
  simp only[Check_ok hs,hT,Option.bind_some]
  simp[F.R02_Apply_l2,F.R02_Apply_j1,A.ix,A.gd,Z.R64,g0,g1,g2,g3,hn]
theorem ap21 {f A' p0 p1 p2 p3 E t0 t1 t2 t3:Int}(hs:OkS (f,2,A',1,(p0,p1,p2,p3)))(ht:okT (E,f,(t0,t1,t2,t3))):ApOk (f,2,A',1,(p0,p1,p2,p3)) (E,f,(t0,t1,t2,t3)):=by
 have hf:=hs.f
 have hk:=hs.k
 have ha:=hs.a
 have hp0:=hs.p 0 p0 rfl
 have hp1:=hs.p 1 p1 rfl
 have hp2:=hs.p 2 p2 rfl
 have hp3:=hs.p 3 p3 rfl
 simp only at hf hk ha hp0 hp1 hp2 hp3
 have hT:F.R01_Check (E,f,(t0,t1,t2,t3))=some 0:=(RCheck_cases _).elim (fun h=>h.1) fun h=>absurd ht h.2
 have hT2:=hT
 rw[←tcheck_eq]at hT2
 unfold okT at ht
 simp only at ht
 obtain⟨n,hn⟩: ∃n,A.FU=n+5:=⟨A.FU-5,by decide⟩
 have g0: -9223372036854775808≤t0+A'∧t0+A'≤9223372036854775807:=by omega
 have g1: -9223372036854775808≤t1+A'∧t1+A'≤9223372036854775807:=by omega
 have g2: -9223372036854775808≤t2+A'∧t2+A'≤9223372036854775807:=by omega
 have g3: -9223372036854775808≤t3+A'∧t3+A'≤9223372036854775807:=by omega
 refine⟨(E,3,(t0,t1+A',p0,0)),t1+A',?_,?_,by unfold okT;simp<;>omega⟩
 ·unfold F.summ_Apply
  simp only[may_ok hs,hT2,Option.bind_some]
  simp[F.summ_Apply_j1,A.cp4,A.ix,A.gd,Z.R64,g0,g1,g2,g3]
 ·unfold F.R02_Apply
  simp only[Check_ok hs,hT,Option.bind_some]
  simp[F.R02_Apply_l2,F.R02_Apply_j1,A.ix,A.gd,Z.R64,g0,g1,g2,g3,hn]
theorem ap22 {f A' p0 p1 p2 p3 E t0 t1 t2 t3:Int}(hs:OkS (f,2,A',2,(p0,p1,p2,p3)))(ht:okT (E,f,(t0,t1,t2,t3))):ApOk (f,2,A',2,(p0,p1,p2,p3)) (E,f,(t0,t1,t2,t3)):=by
 have hf:=hs.f
 have hk:=hs.k
 have ha:=hs.a
 have hp0:=hs.p 0 p0 rfl
 have hp1:=hs.p 1 p1 rfl
 have hp2:=hs.p 2 p2 rfl
 have hp3:=hs.p 3 p3 rfl
 simp only at hf hk ha hp0 hp1 hp2 hp3
 have hT:F.R01_Check (E,f,(t0,t1,t2,t3))=some 0:=(RCheck_cases _).elim (fun h=>h.1) fun h=>absurd ht h.2
 have hT2:=hT
 rw[←tcheck_eq]at hT2
 unfold okT at ht
 simp only at ht
 obtain⟨n,hn⟩: ∃n,A.FU=n+5:=⟨A.FU-5,by decide⟩
 have g0: -9223372036854775808≤t0+A'∧t0+A'≤9223372036854775807:=by omega
 have g1: -9223372036854775808≤t1+A'∧t1+A'≤9223372036854775807:=by omega
 have g2: -9223372036854775808≤t2+A'∧t2+A'≤9223372036854775807:=by omega
 have g3: -9223372036854775808≤t3+A'∧t3+A'≤9223372036854775807:=by omega
 refine⟨(E,4,(t0,t1+A',p0,p1)),t1+A',?_,?_,by unfold okT;simp<;>omega⟩
 ·unfold F.summ_Apply
  simp only[may_ok hs,hT2,Option.bind_some]
  simp[F.summ_Apply_j1,A.cp4,A.ix,A.gd,Z.R64,g0,g1,g2,g3]
 ·unfold F.R02_Apply
  simp only[Check_ok hs,hT,Option.bind_some]
  simp[F.R02_Apply_l2,F.R02_Apply_j1,A.ix,A.gd,Z.R64,g0,g1,g2,g3,hn]
theorem ap30 {f A' p0 p1 p2 p3 E t0 t1 t2 t3:Int}(hs:OkS (f,3,A',0,(p0,p1,p2,p3)))(ht:okT (E,f,(t0,t1,t2,t3))):ApOk (f,3,A',0,(p0,p1,p2,p3)) (E,f,(t0,t1,t2,t3)):=by
 have hf:=hs.f
 have hk:=hs.k
 have ha:=hs.a
 have hp0:=hs.p 0 p0 rfl
 have hp1:=hs.p 1 p1 rfl
 have hp2:=hs.p 2 p2 rfl
 have hp3:=hs.p 3 p3 rfl
 simp only at hf hk ha hp0 hp1 hp2 hp3
 have hT:F.R01_Check (E,f,(t0,t1,t2,t3))=some 0:=(RCheck_cases _).elim (fun h=>h.1) fun h=>absurd ht h.2
 have hT2:=hT
 rw[←tcheck_eq]at hT2
 unfold okT at ht
 simp only at ht
 obtain⟨n,hn⟩: ∃n,A.FU=n+5:=⟨A.FU-5,by decide⟩
 have g0: -9223372036854775808≤t0+A'∧t0+A'≤9223372036854775807:=by omega
 have g1: -9223372036854775808≤t1+A'∧t1+A'≤9223372036854775807:=by omega
 have g2: -9223372036854775808≤t2+A'∧t2+A'≤9223372036854775807:=by omega
 have g3: -9223372036854775808≤t3+A'∧t3+A'≤9223372036854775807:=by omega
 refine⟨(E,3,(t0,t1,t2+A',0)),t2+A',?_,?_,by unfold okT;simp<;>omega⟩
 ·unfold F.summ_Apply
  simp only[may_ok hs,hT2,Option.bind_some]
  simp[F.summ_Apply_j1,A.cp4,A.ix,A.gd,Z.R64,g0,g1,g2,g3]
 ·unfold F.R02_Apply
  simp only[Check_ok hs,hT,Option.bind_some]
  simp[F.R02_Apply_l2,F.R02_Apply_j1,A.ix,A.gd,Z.R64,g0,g1,g2,g3,hn]
theorem ap31 {f A' p0 p1 p2 p3 E t0 t1 t2 t3:Int}(hs:OkS (f,3,A',1,(p0,p1,p2,p3)))(ht:okT (E,f,(t0,t1,t2,t3))):ApOk (f,3,A',1,(p0,p1,p2,p3)) (E,f,(t0,t1,t2,t3)):=by
 have hf:=hs.f
 have hk:=hs.k
 have ha:=hs.a
 have hp0:=hs.p 0 p0 rfl
 have hp1:=hs.p 1 p1 rfl
 have hp2:=hs.p 2 p2 rfl
 have hp3:=hs.p 3 p3 rfl
 simp only at hf hk ha hp0 hp1 hp2 hp3
 have hT:F.R01_Check (E,f,(t0,t1,t2,t3))=some 0:=(RCheck_cases _).elim (fun h=>h.1) fun h=>absurd ht h.2
 have hT2:=hT
 rw[←tcheck_eq]at hT2
 unfold okT at ht
 simp only at ht
 obtain⟨n,hn⟩: ∃n,A.FU=n+5:=⟨A.FU-5,by decide⟩
 have g0: -9223372036854775808≤t0+A'∧t0+A'≤9223372036854775807:=by omega
 have g1: -9223372036854775808≤t1+A'∧t1+A'≤9223372036854775807:=by omega
 have g2: -9223372036854775808≤t2+A'∧t2+A'≤9223372036854775807:=by omega
 have g3: -9223372036854775808≤t3+A'∧t3+A'≤9223372036854775807:=by omega
 refine⟨(E,4,(t0,t1,t2+A',p0)),t2+A',?_,?_,by unfold okT;simp<;>omega⟩
 ·unfold F.summ_Apply
  simp only[may_ok hs,hT2,Option.bind_some]
  simp[F.summ_Apply_j1,A.cp4,A.ix,A.gd,Z.R64,g0,g1,g2,g3]
 ·unfold F.R02_Apply
  simp only[Check_ok hs,hT,Option.bind_some]
  simp[F.R02_Apply_l2,F.R02_Apply_j1,A.ix,A.gd,Z.R64,g0,g1,g2,g3,hn]
theorem ap40 {f A' p0 p1 p2 p3 E t0 t1 t2 t3:Int}(hs:OkS (f,4,A',0,(p0,p1,p2,p3)))(ht:okT (E,f,(t0,t1,t2,t3))):ApOk (f,4,A',0,(p0,p1,p2,p3)) (E,f,(t0,t1,t2,t3)):=by
 have hf:=hs.f
 have hk:=hs.k
 have ha:=hs.a
 have hp0:=hs.p 0 p0 rfl
 have hp1:=hs.p 1 p1 rfl
 have hp2:=hs.p 2 p2 rfl
 have hp3:=hs.p 3 p3 rfl
 simp only at hf hk ha hp0 hp1 hp2 hp3
 have hT:F.R01_Check (E,f,(t0,t1,t2,t3))=some 0:=(RCheck_cases _).elim (fun h=>h.1) fun h=>absurd ht h.2
 have hT2:=hT
 rw[←tcheck_eq]at hT2
 unfold okT at ht
 simp only at ht
 obtain⟨n,hn⟩: ∃n,A.FU=n+5:=⟨A.FU-5,by decide⟩
 have g0: -9223372036854775808≤t0+A'∧t0+A'≤9223372036854775807:=by omega
 have g1: -9223372036854775808≤t1+A'∧t1+A'≤9223372036854775807:=by omega
 have g2: -9223372036854775808≤t2+A'∧t2+A'≤9223372036854775807:=by omega
 have g3: -9223372036854775808≤t3+A'∧t3+A'≤9223372036854775807:=by omega
 refine⟨(E,4,(t0,t1,t2,t3+A')),t3+A',?_,?_,by unfold okT;simp<;>omega⟩
 ·unfold F.summ_Apply
  simp only[may_ok hs,hT2,Option.bind_some]
  simp[F.summ_Apply_j1,A.cp4,A.ix,A.gd,Z.R64,g0,g1,g2,g3]
 ·unfold F.R02_Apply
  simp only[Check_ok hs,hT,Option.bind_some]
  simp[F.R02_Apply_l2,F.R02_Apply_j1,A.ix,A.gd,Z.R64,g0,g1,g2,g3,hn]
theorem apply_ok {s:Sm}(hs:OkS s){t:Tm}(ht:okT t)(hd:t.2.1=s.1):ApOk s t:=by
 obtain⟨f,K,A',N,p0,p1,p2,p3⟩:=s
 obtain⟨E,D,t0,t1,t2,t3⟩:=t
 have hk:=hs.k
 have hn:=hs.n
 have hf:=hs.f
 have hkn:=hs.kn
 simp only at hk hn hf hkn hd
 subst hd
 have c5:K=0∨K=1∨K=2∨K=3∨K=4:=by omega
 have cN:N=0∨N=1∨N=2∨N=3∨N=4:=by omega
 rcases c5 with rfl|rfl|rfl|rfl|rfl<;>rcases cN with rfl|rfl|rfl|rfl|rfl<;>first
  |exact ap00 hs ht
  |exact ap01 hs ht
  |exact ap02 hs ht
  |exact ap03 hs ht
  |exact ap04 hs ht
  |exact ap10 hs ht
  |exact ap11 hs ht
  |exact ap12 hs ht
  |exact ap13 hs ht
  |exact ap20 hs ht
  |exact ap21 hs ht
  |exact ap22 hs ht
  |exact ap30 hs ht
  |exact ap31 hs ht
  |exact ap40 hs ht
  |(exfalso;omega)
theorem Apply_both (s:Sm)(t:Tm): ∃u e u2 e2,F.summ_Apply s t=some (u,e)∧F.R02_Apply s t=some (u2,e2)∧(e=0↔e2=0)∧(e=0→u=u2):=by
 by_cases hs:OkS s
 ·rcases RCheck_cases t with⟨h1,ht⟩|⟨h1,ht⟩
  ·by_cases hd:t.2.1=s.1
   ·obtain⟨w,v,h2,h3,h4⟩:=(apply_ok hs ht hd).ex
    rw[h2,h3]
    rcases RCheck_cases w with⟨h5,h6⟩|⟨h5,h6⟩
    ·rw[h5,Option.bind_some,if_neg (h4.1 h6),if_neg (fun h=>h rfl)]
     exact⟨_,_,_,_,rfl,rfl,Iff.rfl,fun _=>rfl⟩
    ·rw[h5,Option.bind_some,if_pos (Classical.byContradiction fun h=>h6 (h4.2 h)),if_pos (by decide)]
     exact⟨_,_,_,_,rfl,rfl,Iff.rfl,fun _=>rfl⟩
   ·have hk:=hs.k
    have hn:=hs.n
    unfold F.summ_Apply F.R02_Apply
    rw[show F.summ_may (s.1,s.2.1,s.2.2.1,s.2.2.2.1,(s.2.2.2.2.1,s.2.2.2.2.2.1,s.2.2.2.2.2.2.1,s.2.2.2.2.2.2.2))=some true from may_ok hs,show F.R02_Check (s.1,s.2.1,s.2.2.1,s.2.2.2.1,(s.2.2.2.2.1,s.2.2.2.2.2.1,s.2.2.2.2.2.2.1,s.2.2.2.2.2.2.2))=some 0 from Check_ok hs,
     show F.tstamp_Check (t.1,t.2.1,(t.2.2.1,t.2.2.2.1,t.2.2.2.2.1,t.2.2.2.2.2))=some 0 from(tcheck_eq t).trans h1,show F.R01_Check (t.1,t.2.1,(t.2.2.1,t.2.2.2.1,t.2.2.2.2.1,t.2.2.2.2.2))=some 0 from h1]
    simp only[Option.bind_some,Bool.not_true,Bool.false_eq_true,if_false,ne_eq,not_true_eq_false]
    rw[if_pos hd,if_pos hd]
    exact⟨_,_,_,_,rfl,rfl,Iff.rfl,fun _=>rfl⟩
  ·unfold F.summ_Apply F.R02_Apply
   rw[show F.summ_may (s.1,s.2.1,s.2.2.1,s.2.2.2.1,(s.2.2.2.2.1,s.2.2.2.2.2.1,s.2.2.2.2.2.2.1,s.2.2.2.2.2.2.2))=some true from may_ok hs,show F.R02_Check (s.1,s.2.1,s.2.2.1,s.2.2.2.1,(s.2.2.2.2.1,s.2.2.2.2.2.1,s.2.2.2.2.2.2.1,s.2.2.2.2.2.2.2))=some 0 from Check_ok hs,
    show F.tstamp_Check (t.1,t.2.1,(t.2.2.1,t.2.2.2.1,t.2.2.2.2.1,t.2.2.2.2.2))=some 10 from(tcheck_eq t).trans h1,show F.R01_Check (t.1,t.2.1,(t.2.2.1,t.2.2.2.1,t.2.2.2.2.1,t.2.2.2.2.2))=some 10 from h1]
   exact⟨_,_,_,_,rfl,rfl,Iff.rfl,fun _=>rfl⟩
 ·unfold F.summ_Apply F.R02_Apply
  rw[show F.summ_may (s.1,s.2.1,s.2.2.1,s.2.2.2.1,(s.2.2.2.2.1,s.2.2.2.2.2.1,s.2.2.2.2.2.2.1,s.2.2.2.2.2.2.2))=some false from may_no hs,show F.R02_Check (s.1,s.2.1,s.2.2.1,s.2.2.2.1,(s.2.2.2.2.1,s.2.2.2.2.2.1,s.2.2.2.2.2.2.1,s.2.2.2.2.2.2.2))=some 20 from Check_no hs]
  exact⟨_,_,_,_,rfl,rfl,by decide,fun h=>absurd h (by decide)⟩
end Go.Proofs.YtlbnpmfggfbdoaaGreatDoor
end
section
set_option linter.unusedVariables false
set_option linter.unusedSimpArgs false
set_option synthInstance.maxSize 1000000
set_option synthInstance.maxHeartbeats 400000
namespace Go.Proofs.YtlbnpmfggfbdoaaGreatDoor
open Go.RowKit Go.Graph
abbrev Pth:=Pl×Pl×List Sm
theorem SameS (a b:List Sm)(h:a.length≤1000000000):F.R02_Same a b=some (decide (a=b)):=by
 unfold F.R02_Same
 by_cases hl:a.length=b.length
 ·rw[if_neg (by omega)]
  exact A.eql a b (fun f y=>F.R02_Same_l1 a b f y) hl (fun f=>by rw[F.R02_Same_l1,if_neg (by omega)])
   (fun f k x z hx hz hk=>by
    rw[F.R02_Same_l1,if_pos (by omega),A.ixn hx,Option.bind_some,A.ixn hz,Option.bind_some,A.gd1 (A.r64n (by omega))]
    by_cases e:x=z
    ·rw[if_neg (fun h=>h e),if_pos e]
    ·rw[if_pos e,if_neg e])
   (by have:=FU_big;omega)
 ·rw[if_pos (by omega),decide_eq_false (fun e=>hl (by rw[e]))]
theorem EqualS (a b:List Sm)(h:a.length≤1000000000):F.slices_Equal_api_Sum_api_Sum a b=some (decide (a=b)):=by
 unfold F.slices_Equal_api_Sum_api_Sum
 by_cases hl:a.length=b.length
 ·rw[if_neg (by omega)]
  exact A.eql a b (fun f y=>F.slices_Equal_api_Sum_api_Sum_l1 a b f y) hl (fun f=>by rw[F.slices_Equal_api_Sum_api_Sum_l1,if_neg (by omega)])
   (fun f k x z hx hz hk=>by
    rw[F.slices_Equal_api_Sum_api_Sum_l1,if_pos (by omega),A.ixn hx,Option.bind_some,A.ixn hz,Option.bind_some,A.gd1 (A.r64n (by omega))]
    by_cases e:x=z
    ·rw[if_neg (fun h=>h e),if_pos e]
    ·rw[if_pos e,if_neg e])
   (by have:=FU_big;omega)
 ·rw[if_pos (by omega),decide_eq_false (fun e=>hl (by rw[e]))]
theorem EqualP (a b:List Pl)(h:a.length≤1000000000):F.slices_Equal_api_Place_api_Place a b=some (decide (a=b)):=by
 unfold F.slices_Equal_api_Place_api_Place
 by_cases hl:a.length=b.length
 ·rw[if_neg (by omega)]
  exact A.eql a b (fun f y=>F.slices_Equal_api_Place_api_Place_l1 a b f y) hl (fun f=>by rw[F.slices_Equal_api_Place_api_Place_l1,if_neg (by omega)])
   (fun f k x z hx hz hk=>by
    rw[F.slices_Equal_api_Place_api_Place_l1,if_pos (by omega),A.ixn hx,Option.bind_some,A.ixn hz,Option.bind_some,A.gd1 (A.r64n (by omega))]
    by_cases e:x=z
    ·rw[if_neg (fun h=>h e),if_pos e]
    ·rw[if_pos e,if_neg e])
   (by have:=FU_big;omega)
 ·rw[if_pos (by omega),decide_eq_false (fun e=>hl (by rw[e]))]
def Tbl (l:List Pth):Prop:=l.length≤100000∧∀x∈l,x.2.2.length≤1000000000
theorem same_eq (x z:Pth)(hx:x.2.2.length≤1000000000):F.paths_same x z=some (decide (x=z)):=by
 unfold F.paths_same F.paths_same_j1
 by_cases h1:x.1=z.1
 ·rw[if_pos h1]
  by_cases h2:x.2.1=z.2.1
  ·rw[if_pos h2,EqualS _ _ (by omega),Option.bind_some]
   congr 1
   refine decide_eq_decide.2 ⟨fun h=>Prod.ext h1 (Prod.ext h2 h),fun h=>by rw[h]⟩
  ·rw[if_neg h2,decide_eq_false (fun e=>h2 (by rw[e]))]
 ·rw[if_neg h1,decide_eq_false (fun e=>h1 (by rw[e]))]
theorem Same_P (a b:List Pth)(h:Tbl a):F.paths_Same a b=some (decide (a=b)):=by
 unfold F.paths_Same F.slices_EqualFunc_api_Path_api_Path_api_Path_api_Path_paths_same
 have hl0:=h.1
 by_cases hl:a.length=b.length
 ·rw[if_neg (by omega)]
  rw[A.eql a b (fun f y=>F.slices_EqualFunc_api_Path_api_Path_api_Path_api_Path_paths_same_l1 a b f y) hl (fun f=>by rw[F.slices_EqualFunc_api_Path_api_Path_api_Path_api_Path_paths_same_l1,if_neg (by omega)])
   (fun f k x z hx hz hk=>by
    rw[F.slices_EqualFunc_api_Path_api_Path_api_Path_api_Path_paths_same_l1,if_pos (by omega),A.ixn hx,Option.bind_some,A.ixn hz,Option.bind_some,A.gd1 (A.r64n (by omega))]
    rw[show F.paths_same ((x.1.1,x.1.2),(x.2.1.1,x.2.1.2),x.2.2) ((z.1.1,z.1.2),(z.2.1.1,z.2.1.2),z.2.2)=some (decide (x=z))from same_eq x z (h.2 x (List.mem_of_getElem? hx)),Option.bind_some]
    by_cases e:x=z
    ·rw[decide_eq_true e,if_neg (by decide),if_pos e]
    ·rw[decide_eq_false e,if_pos (by decide),if_neg e])
   (by have:=FU_big;omega),Option.bind_some]
 ·rw[if_pos (by omega),Option.bind_some,decide_eq_false (fun e=>hl (by rw[e]))]
theorem Same_R (a b:List Pth)(h:Tbl a):F.R10_Same a b=some (decide (a=b)):=by
 unfold F.R10_Same
 have hl0:=h.1
 by_cases hl:a.length=b.length
 ·rw[if_neg (by omega)]
  exact A.eql a b (fun f y=>F.R10_Same_l2 a b f y) hl (fun f=>by rw[F.R10_Same_l2,if_neg (by omega)])
   (fun f k x z hx hz hk=>by
    have hs:=h.2 x (List.mem_of_getElem? hx)
    rw[F.R10_Same_l2,if_pos (by omega),A.ixn hx,A.ixn hz]
    simp only[Option.bind_some,F.R10_Same_j1]
    have hstep:A.gd (Z.R64 ((k:Int)+1)) (F.R10_Same_l2 a b f ((k:Int)+1))=F.R10_Same_l2 a b f ((k:Int)+1):=A.gd1 (A.r64n (by omega)) _
    rw[hstep]
    by_cases h1:x.1=z.1
    ·rw[if_neg (fun h=>h h1)]
     by_cases h2:x.2.1=z.2.1
     ·rw[if_neg (fun h=>h h2),SameS _ _ (by omega),Option.bind_some]
      by_cases h3:x.2.2=z.2.2
      ·rw[decide_eq_true h3,if_neg (by decide),if_pos (Prod.ext h1 (Prod.ext h2 h3))]
      ·rw[decide_eq_false h3,if_pos (by decide),if_neg (fun e=>h3 (by rw[e]))]
     ·rw[if_pos h2,if_pos trivial,if_neg (fun e=>h2 (by rw[e]))]
    ·rw[if_pos h1,if_pos trivial,if_neg (fun e=>h1 (by rw[e]))])
   (by have:=FU_big;omega)
 ·rw[if_pos (by omega),decide_eq_false (fun e=>hl (by rw[e]))]
def sumsF (p q:Pl):List Pth→List Sm
 | []=>[]
 |x::l=>if x.1=p∧x.2.1=q then x.2.2 else sumsF p q l
theorem sumsF_len {p q:Pl}: ∀{l:List Pth},(∀x∈l,x.2.2.length≤1000000000)→(sumsF p q l).length≤1000000000
 | [],_=>Nat.zero_le _
 |x::l,h=>by
  unfold sumsF
  split
  ·exact h x (List.mem_cons_self ..)
  ·exact sumsF_len fun y hy=>h y (List.mem_cons_of_mem _ hy)
theorem Sums_P (l:List Pth)(p q:Pl)(h:Tbl l):F.paths_Sums l p q=some (sumsF p q l):=
 A.lp0 l (fun f y=>F.paths_Sums_l1 l p q f y) (fun _ l=>some (sumsF p q l))
  (fun f=>by rw[F.paths_Sums_l1,if_neg (by omega)];rfl)
  (fun f k x hx hk ih=>by
   have hs:=h.2 x (List.mem_of_getElem? hx)
   have hl0:=h.1
   rw[F.paths_Sums_l1,if_pos (by omega),A.ixn hx,Option.bind_some,sumsF,A.gd1 (A.r64n (by omega)),ih]
   unfold F.slices_Clone_api_Sum_api_Sum
   rw[A.gd1 (by rw[List.length_nil];omega),Option.bind_some,List.nil_append]
   by_cases h1:x.1=p∧x.2.1=q
   ·rw[if_pos h1,if_pos (show((x.1.1,x.1.2),(x.2.1.1,x.2.1.2))=((p.1,p.2),(q.1,q.2))from Prod.ext h1.1 h1.2)]
   ·rw[if_neg h1,if_neg (fun e:((x.1.1,x.1.2),(x.2.1.1,x.2.1.2))=((p.1,p.2),(q.1,q.2))=>h1 ⟨congrArg Prod.fst e,congrArg Prod.snd e⟩)])
  (by have:=FU_big;have:=h.1;omega)
theorem Sums_R (l:List Pth)(p q:Pl)(h:Tbl l):F.R10_Sums l p q=some (sumsF p q l):=
 A.lp0 l (fun f y=>F.R10_Sums_l2 l p q f y) (fun _ l=>some (sumsF p q l))
  (fun f=>by rw[F.R10_Sums_l2,if_neg (by omega)];rfl)
  (fun f k x hx hk ih=>by
   have hs:=h.2 x (List.mem_of_getElem? hx)
   have hl0:=h.1
   rw[F.R10_Sums_l2,if_pos (by omega),A.ixn hx,Option.bind_some,sumsF]
   simp only[F.R10_Sums_j1,A.ixn hx,Option.bind_some]
   rw[A.gd1 (A.r64n (by omega)),ih,A.gd1 (show(List.length (α:=Sm) []+List.length (α:=Sm) x.2.2)*64≤140737488355328 by rw[List.length_nil];omega),List.nil_append]
   by_cases h1:x.1=p
   ·rw[if_pos h1]
    by_cases h2:x.2.1=q
    ·rw[if_pos (decide_eq_true h2),if_pos ⟨h1,h2⟩]
    ·rw[if_neg (by rw[decide_eq_true_iff];exact h2),if_neg (fun h=>h2 h.2)]
   ·rw[if_neg h1,if_neg (by decide),if_neg (fun h=>h1 h.1)])
  (by have:=FU_big;have:=h.1;omega)
def stayB (s:Sm):Bool:=decide (s.2.1=s.1∧s.2.2.1=0∧s.2.2.2.1=0)
theorem Rounds1 (s:Sm):F.paths_Rounds_1 s=some (stayB s):=by
 unfold F.paths_Rounds_1 stayB
 simp only[A.ba]
 congr 1;exact decide_eq_decide.2 and_assoc
theorem Rounds_P (l:List Pth)(p:Pl)(h:Tbl l):F.paths_Rounds l p=some ((sumsF p p l).filter fun s=> !stayB s):=by
 unfold F.paths_Rounds
 rw[show F.paths_Sums l (p.1,p.2) (p.1,p.2)=some (sumsF p p l)from Sums_P l p p h,Option.bind_some]
 have hl:=sumsF_len (p:=p) (q:=p) h.2
 generalize sumsF p p l=a at hl
 have key:F.slices_DeleteFunc_api_Sum_api_Sum_paths_Rounds_1 a=some (a.filter fun s=> !stayB s):=by
  unfold F.slices_DeleteFunc_api_Sum_api_Sum_paths_Rounds_1 F.slices_IndexFunc_api_Sum_api_Sum_paths_Rounds_1
  rcases A.fst a stayB (fun f y=>F.slices_IndexFunc_api_Sum_api_Sum_paths_Rounds_1_l1 a f y) (fun f=>by rw[F.slices_IndexFunc_api_Sum_api_Sum_paths_Rounds_1_l1,if_neg (by omega)])
   (fun f k x hx hk=>by
    rw[F.slices_IndexFunc_api_Sum_api_Sum_paths_Rounds_1_l1,if_pos (by omega),A.ixn hx,Option.bind_some,show F.paths_Rounds_1 (x.1,x.2.1,x.2.2.1,x.2.2.2.1,(x.2.2.2.2.1,x.2.2.2.2.2.1,x.2.2.2.2.2.2.1,x.2.2.2.2.2.2.2))=some (stayB x)from Rounds1 x,Option.bind_some,A.gd1 (A.r64n (by omega))])
   (by have:=FU_big;omega)with⟨h1,h2⟩|⟨k,x,h1,h2,h3,h4⟩
  ·rw[h1,Option.bind_some,if_pos rfl,List.filter_eq_self.2 (fun n hn=>by rw[h2 n hn];rfl)]
  ·have hk:=(List.getElem?_eq_some_iff.1 h1).1
   rw[h2,Option.bind_some,if_neg (by omega),A.gd1 (A.r64n (by omega))]
   exact A.del a stayB (fun f xs i j=>F.slices_DeleteFunc_api_Sum_api_Sum_paths_Rounds_1_l2 a f xs i j)
    (fun f xs i hlen hi=>by
     rw[F.slices_DeleteFunc_api_Sum_api_Sum_paths_Rounds_1_l2,if_neg (by omega),A.gd1 ⟨by omega,by omega⟩,A.gd1 ⟨by omega,by simp only[List.length_append,List.length_take,List.length_replicate];omega⟩,Int.toNat_natCast]
     congr 1
     rw[List.take_append_of_le_length (by rw[List.length_take];omega),List.take_take,Nat.min_self])
    (fun f xs i j x hx hij hj hlen=>by
     have hi:xs[i]?=some xs[i]:=List.getElem?_eq_getElem (by omega)
     rw[F.slices_DeleteFunc_api_Sum_api_Sum_paths_Rounds_1_l2,if_pos (by omega),A.ixn hx,Option.bind_some,show F.paths_Rounds_1 (x.1,x.2.1,x.2.2.1,x.2.2.2.1,(x.2.2.2.2.1,x.2.2.2.2.2.1,x.2.2.2.2.2.2.1,x.2.2.2.2.2.2.2))=some (stayB x)from Rounds1 x,Option.bind_some]
     simp only[F.slices_DeleteFunc_api_Sum_api_Sum_paths_Rounds_1_j1]
     cases stayB x with
     |true=>rw[Bool.not_true,if_neg Bool.false_ne_true,if_pos rfl,A.gd1 (A.r64n (by omega))]
     |false=>rw[Bool.not_false,if_pos rfl,if_neg Bool.false_ne_true,A.ixn hi,Option.bind_some,A.gd1 (A.r64n (by omega)),A.gd1 (A.r64n (by omega)),Int.toNat_natCast])
    h1 h3 h4 (by have:=FU_big;omega)
 rw[key,Option.bind_some]
theorem Rounds_R (l:List Pth)(p:Pl)(h:Tbl l):F.R10_Rounds l p=some ((sumsF p p l).filter fun s=> !stayB s):=by
 unfold F.R10_Rounds
 rw[show F.R10_Sums l (p.1,p.2) (p.1,p.2)=some (sumsF p p l)from Sums_R l p p h,Option.bind_some]
 have hl:=sumsF_len (p:=p) (q:=p) h.2
 generalize sumsF p p l=a at hl
 have:=A.lp a (fun f (xs:List Sm) y=>F.R10_Rounds_l3 a f xs y) (fun _ l xs=>some (xs++l.filter fun s=> !stayB s)) (fun k xs=>xs.length≤k)
  (fun f xs hp=>by rw[F.R10_Rounds_l3,if_neg (by omega),List.filter_nil,List.append_nil])
  (fun f xs k x hx hk hp ih=>by
   rw[F.R10_Rounds_l3,if_pos (by omega),A.ixn hx]
   simp only[Option.bind_some,F.R10_Rounds_j2,F.R10_Rounds_j1,A.ixn hx]
   have hgo:A.gd (Z.R64 ((k:Int)+1)) (F.R10_Rounds_l3 a f (xs++[x]) ((k:Int)+1))=some ((xs++[x])++(a.drop (k+1)).filter fun s=> !stayB s):=by
    rw[A.gd1 (A.r64n (by omega))];exact ih _ (by rw[List.length_append,List.length_singleton];omega)
   have hno:A.gd (Z.R64 ((k:Int)+1)) (F.R10_Rounds_l3 a f xs ((k:Int)+1))=some (xs++(a.drop (k+1)).filter fun s=> !stayB s):=by
    rw[A.gd1 (A.r64n (by omega))];exact ih _ (by omega)
   rw[A.gd1 (show(List.length (α:=Sm) xs+List.length (α:=Sm) [(x.1,x.2.1,x.2.2.1,x.2.2.2.1,(x.2.2.2.2.1,x.2.2.2.2.2.1,x.2.2.2.2.2.2.1,x.2.2.2.2.2.2.2))])*64≤140737488355328 by rw[List.length_singleton];omega)]
   rw[show F.R10_Rounds_l3 a f (xs++[(x.1,x.2.1,x.2.2.1,x.2.2.2.1,(x.2.2.2.2.1,x.2.2.2.2.2.1,x.2.2.2.2.2.2.1,x.2.2.2.2.2.2.2))]) ((k:Int)+1)=F.R10_Rounds_l3 a f (xs++[x]) ((k:Int)+1)from rfl,hgo,hno,List.filter_cons,stayB]
   by_cases h1:x.2.1=x.1
   ·rw[if_neg (fun h=>h h1)]
    by_cases h2:x.2.2.1=0
    ·rw[if_neg (fun h=>h h2)]
     by_cases h3:x.2.2.2.1=0
     ·rw[if_neg (by simp[h3]),decide_eq_true ⟨h1,h2,h3⟩,if_neg (by decide)]
     ·rw[if_pos (by simp[h3]),decide_eq_false (fun h=>h3 h.2.2),if_pos (by decide),List.append_assoc];rfl
    ·rw[if_pos h2,if_pos trivial,decide_eq_false (fun h=>h2 h.2.1),if_pos (by decide),List.append_assoc];rfl
   ·rw[if_pos h1,if_pos trivial,decide_eq_false (fun h=>h1 h.1),if_pos (by decide),List.append_assoc];rfl)
  (by have:=FU_big;omega) [] (Nat.le_refl _)
 rw[List.nil_append]at this;exact this
def reachF (p:Pl)(l:List Pth):List Pl:=(l.filter fun x=>decide (x.1=p)).map (·.2.1)
theorem reachF_len (p:Pl)(l:List Pth):(reachF p l).length≤l.length:=by unfold reachF;rw[List.length_map];exact List.length_filter_le _ _
theorem Reached_P (l:List Pth)(p:Pl)(h:Tbl l):F.paths_Reached l p=some (reachF p l):=by
 have hl0:=h.1
 unfold F.paths_Reached F.slices_Values_api_Path_api_Path F.slices_Values_api_Path_api_Path_1_it
 rw[Option.bind_some]
 have hv:=A.lp0 l (fun f y=>F.slices_Values_api_Path_api_Path_1_it_l1 l f y) (fun _ l=>some l)
  (fun f=>by rw[F.slices_Values_api_Path_api_Path_1_it_l1,if_neg (by omega)])
  (fun f k x hx hk ih=>by rw[F.slices_Values_api_Path_api_Path_1_it_l1,if_pos (by omega),A.ixn hx,Option.bind_some,A.gd1 (A.r64n (by omega)),ih];rfl)
  (by have:=FU_big;omega)
 rw[hv,Option.bind_some]
 have: ∀(l:List Pth) (xs:List Pl),l.length+xs.length≤100000→F.paths_Reached_l1 p l xs=some (xs++reachF p l):=by
  intro l
  induction l with
  |nil=>intro xs _;rw[F.paths_Reached_l1];unfold F.slices_Values_api_Place_api_Place reachF;simp
  |cons y f ih=>
   intro xs hlen
   rw[List.length_cons]at hlen
   rw[F.paths_Reached_l1]
   by_cases h1:y.1=p
   ·rw[if_pos h1,A.gd1 (by rw[List.length_singleton];omega),ih _ (by rw[List.length_append,List.length_singleton];omega),List.append_assoc]
    congr 2
    unfold reachF
    rw[List.filter_cons,if_pos (decide_eq_true h1)];rfl
   ·rw[if_neg h1,ih _ (by omega)]
    congr 2
    unfold reachF
    rw[List.filter_cons,if_neg (by rw[decide_eq_true_iff];exact h1)]
 rw[this l [] (by simpa using hl0)];rfl
theorem Reached_R (l:List Pth)(p:Pl)(h:Tbl l):F.R10_Reached l p=some (reachF p l):=by
 have hl0:=h.1
 have:=A.lp l (fun f (xs:List Pl) y=>F.R10_Reached_l2 l p f xs y) (fun _ l xs=>some (xs++reachF p l)) (fun k xs=>xs.length≤k)
  (fun f xs hp=>by rw[F.R10_Reached_l2,if_neg (by omega)];unfold reachF;simp)
  (fun f xs k x hx hk hp ih=>by
   rw[F.R10_Reached_l2,if_pos (by omega),A.ixn hx]
   simp only[Option.bind_some,F.R10_Reached_j1,A.ixn hx]
   by_cases h1:x.1=p
   ·rw[if_pos h1,A.gd1 (by rw[List.length_singleton];omega),A.gd1 (A.r64n (by omega)),ih _ (by rw[List.length_append,List.length_singleton];omega),List.append_assoc]
    congr 2
    unfold reachF
    rw[List.filter_cons,if_pos (decide_eq_true h1)];rfl
   ·rw[if_neg h1,A.gd1 (A.r64n (by omega)),ih _ (by omega)]
    congr 2
    unfold reachF
    rw[List.filter_cons,if_neg (by rw[decide_eq_true_iff];exact h1)])
  (by have:=FU_big;omega) [] (Nat.le_refl _)
 rw[List.nil_append]at this;exact this
theorem told_eq (l:List Pl)(m:Nat)(hl:l.length≤2500)(hm:m≤100000):F.L10_told_slices_Values_api_Place_api_Place_1 l (m:Int)=some (l.take m):=by
 unfold F.L10_told_slices_Values_api_Place_api_Place_1 F.slices_Values_api_Place_api_Place_1_it
 have hv:=A.lp0 l (fun f y=>F.slices_Values_api_Place_api_Place_1_it_l1 l f y) (fun _ l=>some l)
  (fun f=>by rw[F.slices_Values_api_Place_api_Place_1_it_l1,if_neg (by omega)])
  (fun f k x hx hk ih=>by rw[F.slices_Values_api_Place_api_Place_1_it_l1,if_pos (by omega),A.ixn hx,Option.bind_some,A.gd1 (A.r64n (by omega)),ih];rfl)
  (by have:=FU_big;omega)
 rw[hv,Option.bind_some]
 have: ∀(l xs:List Pl),l.length+xs.length≤2500→F.L10_told_slices_Values_api_Place_api_Place_1_l1 (m:Int) l xs=some (xs++l.take (m-xs.length)):=by
  intro l
  induction l with
  |nil=>intro xs _;rw[F.L10_told_slices_Values_api_Place_api_Place_1_l1];simp
  |cons y f ih=>
   intro xs hlen
   rw[List.length_cons]at hlen
   rw[F.L10_told_slices_Values_api_Place_api_Place_1_l1]
   by_cases h1:(m:Int)≤(xs.length:Int)
   ·rw[if_pos h1,show m-xs.length=0 by omega,List.take_zero,List.append_nil]
   ·rw[if_neg h1,A.gd1 (by rw[List.length_singleton];omega),ih _ (by rw[List.length_append,List.length_singleton];omega),List.append_assoc]
    congr 2
    rw[List.length_append,List.length_singleton,show m-xs.length=(m-(xs.length+1))+1 by omega,List.take_succ_cons];rfl
 rw[this l [] (by simpa using hl)];rfl
def couldB (t u:Tm)(s:Sm):Bool:=(F.paths_Could_1 s t u).getD false
theorem could1 (t u:Tm)(s:Sm):F.paths_Could_1 s t u=some (couldB t u s)∧∃v e,F.R02_Apply s t=some (v,e)∧((e=0∧F.R01_Leq v u=some (couldB t u s))∨(e≠0∧couldB t u s=false)):=by
 obtain⟨v,e,v2,e2,h1,h2,h3,h4⟩:=Apply_both s t
 obtain⟨r,hr⟩:=tleq_ok v u
 have key:F.paths_Could_1 s t u=if e=0 then some r else some false:=by
  unfold F.paths_Could_1 F.paths_Could_1_j1
  rw[show F.summ_Apply (s.1,s.2.1,s.2.2.1,s.2.2.2.1,(s.2.2.2.2.1,s.2.2.2.2.2.1,s.2.2.2.2.2.2.1,s.2.2.2.2.2.2.2)) (t.1,t.2.1,(t.2.2.1,t.2.2.2.1,t.2.2.2.2.1,t.2.2.2.2.2))=_ from h1,Option.bind_some]
  rw[show F.tstamp_Leq (v.1,v.2.1,(v.2.2.1,v.2.2.2.1,v.2.2.2.2.1,v.2.2.2.2.2)) (u.1,u.2.1,(u.2.2.1,u.2.2.2.1,u.2.2.2.2.1,u.2.2.2.2.2))=some r from(tleq_eq v u).trans hr,Option.bind_some]
 unfold couldB
 by_cases he:e=0
 ·rw[key,if_pos he]
  exact⟨rfl,v2,e2,h2,.inl ⟨h3.1 he,by rw[←h4 he];exact hr⟩⟩
 ·rw[key,if_neg he]
  exact⟨rfl,v2,e2,h2,.inr ⟨fun h=>he (h3.2 h),rfl⟩⟩
theorem Could_P (l:List Pth)(p q:Pl)(t u:Tm)(h:Tbl l):F.paths_Could l p t q u=some ((sumsF p q l).any (couldB t u)):=by
 unfold F.paths_Could
 rw[show F.paths_Sums l (p.1,p.2) (q.1,q.2)=some (sumsF p q l)from Sums_P l p q h,Option.bind_some]
 have hl:=sumsF_len (p:=p) (q:=q) h.2
 generalize sumsF p q l=a at hl
 have key:F.slices_ContainsFunc_api_Sum_api_Sum_paths_Could_1 a t u=some (a.any (couldB t u)):=by
  unfold F.slices_ContainsFunc_api_Sum_api_Sum_paths_Could_1 F.slices_IndexFunc_api_Sum_api_Sum_paths_Could_1
  rcases A.fst a (couldB t u) (fun f y=>F.slices_IndexFunc_api_Sum_api_Sum_paths_Could_1_l1 a t u f y) (fun f=>by rw[F.slices_IndexFunc_api_Sum_api_Sum_paths_Could_1_l1,if_neg (by omega)])
   (fun f k x hx hk=>by
    rw[F.slices_IndexFunc_api_Sum_api_Sum_paths_Could_1_l1,if_pos (by omega),A.ixn hx,Option.bind_some,show F.paths_Could_1 (x.1,x.2.1,x.2.2.1,x.2.2.2.1,(x.2.2.2.2.1,x.2.2.2.2.2.1,x.2.2.2.2.2.2.1,x.2.2.2.2.2.2.2)) (t.1,t.2.1,(t.2.2.1,t.2.2.2.1,t.2.2.2.2.1,t.2.2.2.2.2)) (u.1,u.2.1,(u.2.2.1,u.2.2.2.1,u.2.2.2.2.1,u.2.2.2.2.2))=some (couldB t u x)from(could1 t u x).1,Option.bind_some,A.gd1 (A.r64n (by omega))])
   (by have:=FU_big;omega)with⟨h1,h2⟩|⟨k,x,h1,h2,h3,h4⟩
  ·rw[show F.slices_IndexFunc_api_Sum_api_Sum_paths_Could_1_l1 a (t.1,t.2.1,(t.2.2.1,t.2.2.2.1,t.2.2.2.2.1,t.2.2.2.2.2)) (u.1,u.2.1,(u.2.2.1,u.2.2.2.1,u.2.2.2.2.1,u.2.2.2.2.2)) A.FU 0=some (-1)from h1,Option.bind_some,List.any_eq_false.2 (fun x hx=>by rw[h2 x hx];decide)];rfl
  ·rw[show F.slices_IndexFunc_api_Sum_api_Sum_paths_Could_1_l1 a (t.1,t.2.1,(t.2.2.1,t.2.2.2.1,t.2.2.2.2.1,t.2.2.2.2.2)) (u.1,u.2.1,(u.2.2.1,u.2.2.2.1,u.2.2.2.2.1,u.2.2.2.2.2)) A.FU 0=some (k:Int)from h2,Option.bind_some,List.any_eq_true.2 ⟨x,List.mem_of_getElem? h1,h3⟩,decide_eq_true (by omega)]
 rw[show F.slices_ContainsFunc_api_Sum_api_Sum_paths_Could_1 a (t.1,t.2.1,(t.2.2.1,t.2.2.2.1,t.2.2.2.2.1,t.2.2.2.2.2)) (u.1,u.2.1,(u.2.2.1,u.2.2.2.1,u.2.2.2.2.1,u.2.2.2.2.2))=_ from key,Option.bind_some]
theorem Could_R (l:List Pth)(p q:Pl)(t u:Tm)(h:Tbl l):F.R10_Could l p t q u=some ((sumsF p q l).any (couldB t u)):=by
 unfold F.R10_Could
 rw[show F.R10_Sums l (p.1,p.2) (q.1,q.2)=some (sumsF p q l)from Sums_R l p q h,Option.bind_some]
 have hl:=sumsF_len (p:=p) (q:=q) h.2
 generalize sumsF p q l=a at hl
 exact A.lp0 a (fun f y=>F.R10_Could_l3 t u a f y) (fun _ l=>some (l.any (couldB t u)))
  (fun f=>by rw[F.R10_Could_l3,if_neg (by omega)];rfl)
  (fun f k x hx hk ih=>by
   obtain⟨v,e,h1,h2⟩:=(could1 t u x).2
   rw[F.R10_Could_l3,if_pos (by omega),A.ixn hx,Option.bind_some,show F.R02_Apply (x.1,x.2.1,x.2.2.1,x.2.2.2.1,(x.2.2.2.2.1,x.2.2.2.2.2.1,x.2.2.2.2.2.2.1,x.2.2.2.2.2.2.2)) (t.1,t.2.1,(t.2.2.1,t.2.2.2.1,t.2.2.2.2.1,t.2.2.2.2.2))=_ from h1,Option.bind_some]
   simp only[F.R10_Could_j2,F.R10_Could_j1]
   rw[A.gd1 (A.r64n (by omega)),ih,List.any_cons]
   rcases h2 with⟨he,h3⟩|⟨he,h3⟩
   ·rw[if_pos he,show F.R01_Leq (v.1,v.2.1,(v.2.2.1,v.2.2.2.1,v.2.2.2.2.1,v.2.2.2.2.2)) (u.1,u.2.1,(u.2.2.1,u.2.2.2.1,u.2.2.2.2.1,u.2.2.2.2.2))=_ from h3,Option.bind_some]
    cases couldB t u x<;>simp
   ·rw[if_neg he,h3];simp)
  (by have:=FU_big;omega)
theorem small_eq (l:List Pth): ∃b,F.L10_small l=some b∧(b=true→Tbl l∧l.length≤2500):=by
 unfold F.L10_small
 rw[A.gd1 ⟨by omega,by omega⟩]
 obtain⟨m,hm⟩: ∃m,m=List.take ((min (l.length:Int) 3000).toNat) l:=⟨_,rfl⟩
 have hml:m.length≤3000:=by rw[hm,List.length_take];omega
 have:=A.lp m (fun f (s:Int) y=>F.L10_small_l1 l f s y) (fun _ r s=>some (bif decide ((l.length:Int)≤2500)then decide (r.foldl (fun s x=>min (s+min ((x.2.2.length:Nat):Int) 1048576) 1048576) s≤9000)else false)) (fun _ s=>0≤s∧s≤1048576)
  (fun f s hp=>by rw[F.L10_small_l1,←hm,if_neg (by omega)];rfl)
  (fun f s k x hx hk hp ih=>by
   rw[F.L10_small_l1,←hm,if_pos (by omega),A.ixn hx,Option.bind_some,A.gd1 ⟨by omega,by omega⟩,A.gd1 (A.r64n (by omega)),ih _ ⟨by omega,by omega⟩];rfl)
  (by have:=FU_big;omega) 0 ⟨by omega,by omega⟩
 refine⟨_,this,fun hb=>?_⟩
 rw[Bool.cond_decide]at hb
 split at hb
 ·rename_i hl
  have hb:=of_decide_eq_true hb
  have hml2:m=l:=by rw[hm,show(min (l.length:Int) 3000).toNat=l.length by omega,List.take_length]
  rw[hml2]at hb
  have mono: ∀(r:List Pth) (s:Int),s≤1048576→min s 1048576≤r.foldl (fun s x=>min (s+min ((x.2.2.length:Nat):Int) 1048576) 1048576) s:=by
   intro r
   induction r with
   |nil=>intro s _;rw[List.foldl_nil];omega
   |cons x r ih=>intro s hs;rw[List.foldl_cons];have:=ih (min (s+min ((x.2.2.length:Nat):Int) 1048576) 1048576) (by omega);omega
  have all: ∀(r:List Pth) (s:Int),0≤s→s≤1048576→r.foldl (fun s x=>min (s+min ((x.2.2.length:Nat):Int) 1048576) 1048576) s≤9000→∀x∈r,x.2.2.length≤9000:=by
   intro r
   induction r with
   |nil=>intro s _ _ _ x hx;cases hx
   |cons y r ih=>
    intro s h0 h1 h2 x hx
    rw[List.foldl_cons]at h2
    rcases List.mem_cons.1 hx with rfl|hx
    ·have:=mono r (min (s+min ((x.2.2.length:Nat):Int) 1048576) 1048576) (by omega);omega
    ·exact ih _ (by omega) (by omega) h2 x hx
  exact⟨⟨by omega,fun x hx=>Nat.le_trans (all l 0 (by omega) (by omega) hb x hx) (by decide)⟩,by omega⟩
 ·cases hb
theorem asks_law (l m:List Pth)(p q:Pl)(t u:Tm)(most:UInt8)(hb:F.L10_begun=some true)(hl:Tbl l)(hl25:l.length≤2500)(hm:Tbl m):F.L10_PathsAsks_j2 l m p q t u most false=some true:=by
 have hrl:=reachF_len p l
 have hl0:=hl25
 have hsl:=sumsF_len (p:=p) (q:=q) hl.2
 have hfl:((sumsF p p l).filter fun s=> !stayB s).length≤1000000000:=Nat.le_trans (List.length_filter_le _ _) (sumsF_len hl.2)
 have hmo:=most.toNat_lt
 unfold F.L10_PathsAsks_j2 F.L10_PathsAsks_j1
 rw[if_neg (by decide),show F.R10_Reached l (p.1,p.2)=_ from Reached_R l p hl,Option.bind_some,show F.paths_Sums l (p.1,p.2) (q.1,q.2)=_ from Sums_P l p q hl,Option.bind_some,show F.R10_Sums l (p.1,p.2) (q.1,q.2)=_ from Sums_R l p q hl,Option.bind_some,SameS _ _ (by omega),Option.bind_some,decide_eq_true rfl,if_pos rfl]
 rw[show F.paths_Rounds l (p.1,p.2)=_ from Rounds_P l p hl,Option.bind_some,show F.R10_Rounds l (p.1,p.2)=_ from Rounds_R l p hl,Option.bind_some,SameS _ _ (by omega),Option.bind_some,decide_eq_true rfl,if_pos rfl]
 rw[show F.paths_Reached l (p.1,p.2)=_ from Reached_P l p hl,Option.bind_some,show F.L10_told_slices_Values_api_Place_api_Place_1 (reachF p l) 9999=_ from told_eq (reachF p l) 9999 (by omega) (by omega),Option.bind_some,List.take_of_length_le (by omega),EqualP _ _ (by omega),Option.bind_some,decide_eq_true rfl,if_pos rfl]
 rw[A.gd1 ⟨⟨by omega,by omega⟩,by omega,by omega⟩,A.gd1 ⟨by omega,by omega⟩,Option.bind_some,told_eq (reachF p l) most.toNat (by omega) (by omega),Option.bind_some]
 have e:List.take ((min ((reachF p l).length:Int) (most.toNat:Int)).toNat) (reachF p l)=(reachF p l).take most.toNat:=by
  by_cases h:(reachF p l).length≤most.toNat
  ·rw[show(min ((reachF p l).length:Int) (most.toNat:Int)).toNat=(reachF p l).length by omega,List.take_length,List.take_of_length_le h]
  ·rw[show(min ((reachF p l).length:Int) (most.toNat:Int)).toNat=most.toNat by omega]
 rw[e,EqualP _ _ (by rw[List.length_take];omega),Option.bind_some,decide_eq_true rfl,if_pos rfl]
 rw[show F.paths_Could l (p.1,p.2) (t.1,t.2.1,(t.2.2.1,t.2.2.2.1,t.2.2.2.2.1,t.2.2.2.2.2)) (q.1,q.2) (u.1,u.2.1,(u.2.2.1,u.2.2.2.1,u.2.2.2.2.1,u.2.2.2.2.2))=_ from Could_P l p q t u hl,Option.bind_some,show F.R10_Could l (p.1,p.2) (t.1,t.2.1,(t.2.2.1,t.2.2.2.1,t.2.2.2.2.1,t.2.2.2.2.2)) (q.1,q.2) (u.1,u.2.1,(u.2.2.1,u.2.2.2.1,u.2.2.2.2.1,u.2.2.2.2.2))=_ from Could_R l p q t u hl,Option.bind_some,beq_self_eq_true,if_pos rfl]
 rw[Same_P l m hl,Option.bind_some,Same_R l m hl,Option.bind_some,beq_self_eq_true,if_pos rfl,Same_P l l hl,Option.bind_some,decide_eq_true rfl]
theorem pathsAsks_law (hb:F.L10_begun=some true)(l m:List Pth)(p q:Pl)(t u:Tm)(most:UInt8):F.L10_PathsAsks l m p q t u most=some true:=by
 unfold F.L10_PathsAsks
 have out:F.L10_PathsAsks_j2 l m p q t u most true=some true:=by unfold F.L10_PathsAsks_j2;rw[if_pos rfl,hb];rfl
 obtain⟨b1,h1,h2⟩:=small_eq l
 obtain⟨b2,h3,h4⟩:=small_eq m
 rw[hb,Option.bind_some,if_neg (by decide),h1,Option.bind_some]
 cases b1 with
 |false=>rw[if_pos (show(!false)=true from rfl)];exact out
 |true=>
  rw[if_neg (by decide),h3,Option.bind_some]
  cases b2 with
  |false=>exact out
  |true=>exact asks_law l m p q t u most hb (h2 rfl).1 (h2 rfl).2 (h4 rfl).1
end Go.Proofs.YtlbnpmfggfbdoaaGreatDoor
end
section
set_option linter.unusedVariables false
set_option linter.unusedSimpArgs false
set_option synthInstance.maxSize 1000000
set_option synthInstance.maxHeartbeats 400000
namespace Go.A
theorem srtF_perm {α:Type}[DecidableEq α]{cmp:α→α→Option Int}{xs ys:List α}(h:ys.Perm xs)(ho:ordB cmp xs=true):srtF cmp ys=some (srtL (cl0 cmp) xs):=by
 have key:ordB cmp ys=true:=by
  unfold ordB at ho ⊢
  rw[List.all_eq_true]at ho ⊢
  intro x hx
  have h1:=ho x (h.mem_iff.1 hx)
  rw[List.all_eq_true]at h1 ⊢
  intro y hy
  have h2:=h1 y (h.mem_iff.1 hy)
  rw[Bool.and_eq_true,List.all_eq_true]at h2 ⊢
  exact⟨h2.1,fun z hz=>h2.2 z (h.mem_iff.1 hz)⟩
 unfold srtF
 rw[if_pos key]
 obtain⟨O,_⟩:=ordB_on ho
 have hm: ∀a∈ys,a∈xs:=fun a ha=>h.mem_iff.1 ha
 rw[srt_uniq O ((srtL_perm (cl0 cmp) ys).trans h) (srtL_pw O ys hm)]
theorem dem_allK {α β γ:Type}[DecidableEq γ](m:List α)(g:α→β)(L:Nat→List Nat→List β→Option γ)(E:List β→Option γ)(K:Nat→List Nat→List β→Nat→α→Option γ)(r:γ)
  (hL: ∀f sn xs,L (f+1) sn xs=dem m sn (E xs) (K f sn xs)) (hK: ∀f sn xs i p,m[i]?=some p→xs.length<m.length→K f sn xs i p=L f (i::sn) (xs++[g p]))
  (hE: ∀ys,ys.Perm (m.map g)→E ys=some r) (hm:m.length<FU):L FU [] []=some r:=by
 have main: ∀(f:Nat) (sn:List Nat) (xs:List β),sn.Nodup→(∀i,i∈sn→i<m.length)→m.length<f+sn.length→xs.length=sn.length→xs.Perm ((sn.filterMap fun i=>m[i]?).map g)→L f sn xs=some r:=by
  intro f
  induction f with
  |zero=>intro sn xs h1 h2 h3;have:=seen_lt h1 h2;omega
  |succ f ih=>
   intro sn xs h1 h2 h3 h4 h5
   have hsl:=seen_lt h1 h2
   rw[hL]
   have dof: ∀{e:Option γ} {k:Nat→α→Option γ},((∀i,i<m.length→i∈sn)→e=some r)→(∀i p,m[i]?=some p→i∉sn→k i p=some r)→dem m sn e k=some r:=by
    intro e k h1 h2
    unfold dem
    have hmem: ∀i,i∈(List.range m.length).filter (fun i=> !(sn.contains i))↔i<m.length∧i∉sn:=fun i=>by
     rw[List.mem_filter,List.mem_range];simp
    split
    ·rename_i hl
     rw[hl]at hmem
     exact h1 fun i hi=>Classical.byContradiction fun hn=>by have:=(hmem i).2 ⟨hi,hn⟩;cases this
    ·rename_i i js hl
     rw[hl]at hmem
     have hi:=(hmem i).1 (List.mem_cons_self ..)
     rw[List.getElem?_eq_getElem hi.1,Option.bind_some,h2 i _ (List.getElem?_eq_getElem hi.1) hi.2,if_pos]
     rw[List.all_eq_true]
     intro j hj
     have hj:=(hmem j).1 (List.mem_cons_of_mem _ hj)
     rw[List.getElem?_eq_getElem hj.1,Option.bind_some,h2 j _ (List.getElem?_eq_getElem hj.1) hj.2]
     exact decide_eq_true rfl
   refine dof (fun hall=>hE xs (h5.trans ?_)) fun i p hp hi=>?_
   ·refine List.Perm.map g ?_
    have hp:sn.Perm (List.range m.length):=by
     refine(List.perm_ext_iff_of_nodup h1 List.nodup_range).2 fun i=>?_
     rw[List.mem_range];exact⟨h2 i,hall i⟩
    refine(hp.filterMap _).trans ?_
    have:(List.range m.length).filterMap (fun i=>m[i]?)=m:=by
     have e:(List.range m.length).filterMap (fun i=>m[i]?)=(List.range m.length).pmap (fun i h=>m[i]'h) (fun i h=>List.mem_range.1 h):=by
      have: ∀(l:List Nat) (h: ∀i,i∈l→i<m.length),l.filterMap (fun i=>m[i]?)=l.pmap (fun i h=>m[i]'h) h:=by
       intro l
       induction l with
       |nil=>intro _;rfl
       |cons i l ih=>intro h;rw[List.filterMap_cons,List.getElem?_eq_getElem (h i (List.mem_cons_self ..)),List.pmap];simp only[];rw[ih fun j hj=>h j (List.mem_cons_of_mem _ hj)]
      exact this _ _
     rw[e];exact List.ext_getElem (by simp) fun k h1 h2=>by simp
    rw[this]
   ·have hlt:=(List.getElem?_eq_some_iff.1 hp).1
    have hsn:(i::sn).Nodup:=List.nodup_cons.2 ⟨hi,h1⟩
    have hsb: ∀j,j∈i::sn→j<m.length:=fun j hj=>(List.mem_cons.1 hj).elim (fun e=>e▸hlt) (h2 j)
    have hsl2:=seen_lt hsn hsb
    rw[List.length_cons]at hsl2
    rw[hK f sn xs i p hp (by omega)]
    refine ih _ _ hsn hsb (by rw[List.length_cons];omega) (by rw[List.length_append,h4];rfl) ?_
    rw[List.filterMap_cons,hp]
    simp only[List.map_cons]
    exact(List.perm_append_comm (l₁:=xs) (l₂:=[g p])).trans (h5.cons (g p))
 exact main FU [] [] List.nodup_nil (by simp) (by simpa using hm) rfl (List.Perm.refl _)
end Go.A
namespace Go.Proofs.YtlbnpmfggfbdoaaGreatDoor
open Go.RowKit Go.Graph
abbrev Ends:=Pl×Pl
abbrev Tab0:=List (Ends×List Sm)
def pathOf (p:Ends×List Sm):Pth:=(p.1.1,p.1.2,p.2)
theorem table_end (m:Tab0)(hk: ∀p∈m,IntKind.i64.has p.1.1.1∧IntKind.i64.has p.1.1.2∧IntKind.i64.has p.1.2.1∧IntKind.i64.has p.1.2.2)(hn: ∀p∈m,p.2≠[])(hl:m.length≤1000000)(ho:A.ordB (fun x y=>F.paths_Table_1 x y) (m.map pathOf)=true):
  F.paths_Table_l3 m A.FU [] []=some (A.srtL (A.cl0 fun x y=>F.paths_Table_1 x y) (m.map pathOf),0):=
 A.dem_allK m pathOf (fun f sn xs=>F.paths_Table_l3 m f sn xs) (fun xs=>(F.slices_SortFunc_api_Path_api_Path_paths_Table_1 xs).bind fun r=>some (r,0))
  (fun f sn xs i p=>A.gd (decide (IntKind.i64.has p.1.1.1)=true∧decide (IntKind.i64.has p.1.1.2)=true∧decide (IntKind.i64.has p.1.2.1)=true∧decide (IntKind.i64.has p.1.2.2)=true) (if(0:Int)<((p.2).length:Int)then(A.gd ((List.length (α:=Pth) xs+List.length (α:=Pth) [((p.1.1.1,p.1.1.2),(p.1.2.1,p.1.2.2),p.2)])*56≤140737488355328) ((F.paths_Table_l3 m f) (i::sn) (xs++[((p.1.1.1,p.1.1.2),(p.1.2.1,p.1.2.2),p.2)])))else((F.paths_Table_l3 m f) (i::sn) xs))) _
  (fun f sn xs=>by rw[F.paths_Table_l3])
  (fun f sn xs i p hp hx=>by
   have hm:=List.mem_of_getElem? hp
   obtain⟨a,b,c,d⟩:=hk p hm
   have h0:=List.length_pos_iff.2 (hn p hm)
   rw[A.gd1 ⟨decide_eq_true a,decide_eq_true b,decide_eq_true c,decide_eq_true d⟩,if_pos (by omega),A.gd1 (by rw[List.length_singleton];omega)]
   rfl)
  (fun ys hy=>by
   have hlen:=hy.length_eq
   rw[List.length_map]at hlen
   unfold F.slices_SortFunc_api_Path_api_Path_paths_Table_1
   rw[A.gd1 (by omega),A.srtF_perm hy ho];rfl)
  (by have:=FU_big;omega)
def g0_:List Nd:=[(1,1,[],(0,0,ByteArray.mk #[]),ByteArray.mk #[97],0,0),(2,2,[1],(1,0,ByteArray.mk #[]),ByteArray.mk #[],0,0),(3,15,[2],(0,0,ByteArray.mk #[]),ByteArray.mk #[98],0,0)]
def zz:List Sm:=[(0,0,0,0,(0,0,0,0))]
def sp0:List Sp:=[((1,2),0),((2,0),0),((2,2),0),((3,0),0)]
def zS:Sm:=(0,0,0,0,(0,0,0,0))
def ed0:List (Pl×Pl×Sm):=[((1,2),(2,0),zS),((2,0),(2,2),zS),((2,2),(3,0),zS)]
theorem spots0:F.graph_Spots g0_=some (sp0,0):=by kernel_rfl
theorem edges0:F.graph_Edges g0_=some (ed0,0):=by kernel_rfl
def tb4:Tab0:=[(((1,2),(1,2)),zz),(((2,0),(2,0)),zz),(((2,2),(2,2)),zz),(((3,0),(3,0)),zz)]
def tb5:Tab0:=[(((1,2),(1,2)),zz),(((2,0),(2,0)),zz),(((2,2),(2,2)),zz),(((3,0),(3,0)),zz),(((1,2),(2,0)),zz)]
def tb6:Tab0:=[(((1,2),(1,2)),zz),(((2,0),(2,0)),zz),(((2,2),(2,2)),zz),(((3,0),(3,0)),zz),(((1,2),(2,0)),zz),(((1,2),(2,2)),zz)]
def tb7:Tab0:=[(((1,2),(1,2)),zz),(((2,0),(2,0)),zz),(((2,2),(2,2)),zz),(((3,0),(3,0)),zz),(((1,2),(2,0)),zz),(((1,2),(2,2)),zz),(((1,2),(3,0)),zz)]
def tb8:Tab0:=[(((1,2),(1,2)),zz),(((2,0),(2,0)),zz),(((2,2),(2,2)),zz),(((3,0),(3,0)),zz),(((1,2),(2,0)),zz),(((1,2),(2,2)),zz),(((1,2),(3,0)),zz),(((2,0),(2,2)),zz)]
def tb9:Tab0:=[(((1,2),(1,2)),zz),(((2,0),(2,0)),zz),(((2,2),(2,2)),zz),(((3,0),(3,0)),zz),(((1,2),(2,0)),zz),(((1,2),(2,2)),zz),(((1,2),(3,0)),zz),(((2,0),(2,2)),zz),(((2,0),(3,0)),zz)]
def tb10:Tab0:=[(((1,2),(1,2)),zz),(((2,0),(2,0)),zz),(((2,2),(2,2)),zz),(((3,0),(3,0)),zz),(((1,2),(2,0)),zz),(((1,2),(2,2)),zz),(((1,2),(3,0)),zz),(((2,0),(2,2)),zz),(((2,0),(3,0)),zz),(((2,2),(3,0)),zz)]
def ta0:Tab0:=[]
def ta1:Tab0:=[(((1,2),(1,2)),zz)]
def ta2:Tab0:=[(((1,2),(1,2)),zz),(((2,0),(2,0)),zz)]
def ta3:Tab0:=[(((1,2),(1,2)),zz),(((2,0),(2,0)),zz),(((2,2),(2,2)),zz)]
theorem id0:F.summ_Id 0=some (zS,0):=by kernel_rfl
theorem init_step {f:Nat}{m m':Tab0}{y:Nat}{p:Pl}(hp:sp0[y]?=some (p,0))(ha:F.paths_table_add m (p,p) [zS]=some (true,m')):F.paths_Table_l6 (sp0,0) (ed0,0) (f+1) m (y:Int)=F.paths_Table_l6 (sp0,0) (ed0,0) f m' ((y:Int)+1):=by
 have hy:=(List.getElem?_eq_some_iff.1 hp).1
 have hl:sp0.length=4:=rfl
 rw[F.paths_Table_l6,if_pos (show(y:Int)<(sp0.length:Int) by omega),show A.ix ((sp0,0):List Sp×Int).1 (y:Int)=some (p,0)from A.ixn hp,Option.bind_some,show F.summ_Id ((p,0):Sp).2=some (zS,0)from id0,Option.bind_some]
 rw[show F.paths_table_add m (((((p,0):Sp).1.1),(((p,0):Sp).1.2)),((((p,0):Sp).1.1),(((p,0):Sp).1.2))) [(((zS,0):Sm×Int).1.1,((zS,0):Sm×Int).1.2.1,((zS,0):Sm×Int).1.2.2.1,((zS,0):Sm×Int).1.2.2.2.1,(((zS,0):Sm×Int).1.2.2.2.2.1,((zS,0):Sm×Int).1.2.2.2.2.2.1,((zS,0):Sm×Int).1.2.2.2.2.2.2.1,((zS,0):Sm×Int).1.2.2.2.2.2.2.2))]=some (true,m')from ha,Option.bind_some,A.gd1 (A.r64n (by omega))]
theorem ad0:F.paths_table_add ta0 ((1,2),(1,2)) [zS]=some (true,ta1):=by kernel_rfl
theorem ad1:F.paths_table_add ta1 ((2,0),(2,0)) [zS]=some (true,ta2):=by kernel_rfl
theorem ad2:F.paths_table_add ta2 ((2,2),(2,2)) [zS]=some (true,ta3):=by kernel_rfl
theorem ad3:F.paths_table_add ta3 ((3,0),(3,0)) [zS]=some (true,tb4):=by kernel_rfl
theorem init0:F.paths_Table_l6 (sp0,0) (ed0,0) A.FU [] 0=F.paths_Table_l5 (sp0,0) (ed0,0) A.FU tb4:=by
 obtain⟨n,hn⟩: ∃n,A.FU=n+5:=⟨A.FU-5,by decide⟩
 rw[show F.paths_Table_l6 (sp0,0) (ed0,0) A.FU [] 0=F.paths_Table_l6 (sp0,0) (ed0,0) (n+5) ta0 ((0:Nat):Int) by rw[←hn];rfl]
 rw[init_step (y:=0) rfl ad0]
 refine(init_step (y:=1) rfl ad1).trans ?_
 refine(init_step (y:=2) rfl ad2).trans ?_
 refine(init_step (y:=3) rfl ad3).trans ?_
 rw[F.paths_Table_l6,if_neg (by decide)]
theorem round4 (k:Tab0→Option ((List Pth)×Int)):F.paths_Table_l4 k (sp0,0) (ed0,0) A.FU tb4 0=k tb5:=by kernel_rfl
theorem round5 (k:Tab0→Option ((List Pth)×Int)):F.paths_Table_l4 k (sp0,0) (ed0,0) A.FU tb5 0=k tb6:=by kernel_rfl
theorem round6 (k:Tab0→Option ((List Pth)×Int)):F.paths_Table_l4 k (sp0,0) (ed0,0) A.FU tb6 0=k tb7:=by kernel_rfl
theorem round7 (k:Tab0→Option ((List Pth)×Int)):F.paths_Table_l4 k (sp0,0) (ed0,0) A.FU tb7 0=k tb8:=by kernel_rfl
theorem round8 (k:Tab0→Option ((List Pth)×Int)):F.paths_Table_l4 k (sp0,0) (ed0,0) A.FU tb8 0=k tb9:=by kernel_rfl
theorem round9 (k:Tab0→Option ((List Pth)×Int)):F.paths_Table_l4 k (sp0,0) (ed0,0) A.FU tb9 0=k tb10:=by kernel_rfl
theorem scan {f:Nat}{k:Tab0→Option ((List Pth)×Int)}{y:Nat}{x:Sp}(hx:sp0[y]?=some x)(hs: ∀k65,F.paths_Table_l2 k k65 (ed0,0) (y:Int) x A.FU tb10 0=k65 tb10 ((y:Int)+1)):F.paths_Table_l4 k (sp0,0) (ed0,0) (f+1) tb10 (y:Int)=F.paths_Table_l4 k (sp0,0) (ed0,0) f tb10 ((y:Int)+1):=by
 have hy:=(List.getElem?_eq_some_iff.1 hx).1
 have hl:sp0.length=4:=rfl
 rw[F.paths_Table_l4,if_pos (show(y:Int)<(sp0.length:Int) by omega),show A.ix ((sp0,0):List Sp×Int).1 (y:Int)=some x from A.ixn hx,Option.bind_some,hs]
theorem round10 (k:Tab0→Option ((List Pth)×Int)):F.paths_Table_l4 k (sp0,0) (ed0,0) A.FU tb10 0=F.paths_Table_l3 tb10 A.FU [] []:=by
 obtain⟨n,hn⟩: ∃n,A.FU=n+5:=⟨A.FU-5,by decide⟩
 have e:F.paths_Table_l4 k (sp0,0) (ed0,0) A.FU tb10 0=F.paths_Table_l4 k (sp0,0) (ed0,0) (n+5) tb10 ((0:Nat):Int):=by rw[←hn];rfl
 rw[e,scan (y:=0) (x:=((1,2),0)) rfl (fun k65=>by kernel_rfl)]
 refine(scan (y:=1) (x:=((2,0),0)) rfl (fun k65=>by kernel_rfl)).trans ?_
 refine(scan (y:=2) (x:=((2,2),0)) rfl (fun k65=>by kernel_rfl)).trans ?_
 refine(scan (y:=3) (x:=((3,0),0)) rfl (fun k65=>by kernel_rfl)).trans ?_
 rw[F.paths_Table_l4,if_neg (by decide)]
theorem table0:F.paths_Table g0_=F.paths_Table_l3 tb10 A.FU [] []:=by
 obtain⟨n,hn⟩: ∃n,A.FU=n+7:=⟨A.FU-7,by decide⟩
 have st: ∀f m,F.paths_Table_l5 (sp0,0) (ed0,0) (f+1) m=F.paths_Table_l4 (F.paths_Table_l5 (sp0,0) (ed0,0) f) (sp0,0) (ed0,0) A.FU m 0:=fun f m=>by rw[F.paths_Table_l5]
 unfold F.paths_Table
 rw[spots0,Option.bind_some,if_neg (fun h=>h rfl),edges0,Option.bind_some,if_neg (fun h=>h rfl),init0]
 have:F.paths_Table_l5 (sp0,0) (ed0,0) A.FU tb4=F.paths_Table_l5 (sp0,0) (ed0,0) (n+7) tb4:=by rw[←hn]
 rw[this,st,round4,st,round5,st,round6,st,round7,st,round8,st,round9,st,round10]
theorem begunP:F.L10_begun=some true:=by
 have h:F.paths_Table [(1,1,[],(0,0,ByteArray.mk #[]),ByteArray.mk #[97],0,0),(2,2,[1],(1,0,ByteArray.mk #[]),ByteArray.mk #[],0,0),(3,15,[2],(0,0,ByteArray.mk #[]),ByteArray.mk #[98],0,0)]=some (A.srtL (A.cl0 fun x y=>F.paths_Table_1 x y) (tb10.map pathOf),0):=
  table0.trans (table_end tb10 (by decide) (by decide) (by decide) (by kernel_rfl))
 have e:F.L10_begun=((F.paths_Table [(1,1,[],(0,0,ByteArray.mk #[]),ByteArray.mk #[97],0,0),(2,2,[1],(1,0,ByteArray.mk #[]),ByteArray.mk #[],0,0),(3,15,[2],(0,0,ByteArray.mk #[]),ByteArray.mk #[98],0,0)]).bind fun r5=>((F.paths_Sums r5.1 (1,2) (3,0)).bind fun r10=>(if(bif bif decide (r5.2=0)then decide (((r5.1).length:Int)=10)else false then decide (((r10).length:Int)=1)else false)=true then((A.ix r10 0).bind fun x15=>(F.L10_begun_j1 (decide ((x15.1,x15.2.1,x15.2.2.1,x15.2.2.2.1,(x15.2.2.2.2.1,x15.2.2.2.2.2.1,x15.2.2.2.2.2.2.1,x15.2.2.2.2.2.2.2))=(0,0,0,0,(0,0,0,0))))))else(F.L10_begun_j1 false)))):=rfl
 rw[e,h,Option.bind_some]
 show _=some true
 kernel_rfl
theorem pathsAsks_plain {P Q R S P5 P6 P7:Prop}(l m:List Pth)(p q:Pl)(t u:Tm)(most:UInt8)(_:P)(_:Q)(_:R)(_:S)(_:P5)(_:P6)(_:P7):F.L10_PathsAsks l m p q t u most=some true:=pathsAsks_law begunP l m p q t u most
end Go.Proofs.YtlbnpmfggfbdoaaGreatDoor
end
section
namespace Go.Z
open Go.RowKit
def OpenT (P:Program)(T:TypeId)(t:Ty):Prop:=
 P.cellsOf T=t.size∧∀(H:Type) (enc:TypeId×Value→H) (w:World) (base:Nat) (spare:Nat→Bool) (held:Bool) (fuel:Nat) (cs:List Value) (x:DataW H×List MemPlace),
  DataW.trod enc P w base spare held fuel T cs=some x→∃y:t.den,t.rep w (nt []) cs y
section
variable {P:Program}{T e:TypeId}
theorem ot_int {k:IntKind}(hc:P.cellsOf T=1)(ht:P.underlying T=some (.int k)):OpenT P T (.int k):=⟨hc,fun H enc w base spare held fuel cs x h=>by
 obtain⟨n,rfl,_,hw⟩:=DataW.trod_int ht h
 refine⟨n,rfl,?_⟩
 simp only[Lit.wf,Bool.and_eq_true,decide_eq_true_eq]at hw
 exact hw⟩
theorem ot_byte (hc:P.cellsOf T=1)(ht:P.underlying T=some (.int .u8)):OpenT P T .byte:=⟨hc,fun H enc w base spare held fuel cs x h=>by
 obtain⟨n,rfl,_,hw⟩:=DataW.trod_int ht h
 simp[Lit.wf,IntKind.min,IntKind.max,IntKind.signed,IntKind.bits]at hw
 exact⟨UInt8.ofNat n.toNat,congrArg (fun z=>[Value.int .u8 z]) (u8_of (by omega))⟩⟩
def OpenPs (P:Program):List (TypeId×Nat)→Nat→Ty→Prop
 | [],_,_=>False
 | [(T,o')],o,t=>o'=o∧OpenT P T t
 |(T,o')::p::ps,o,.pair a b=>o'=o∧OpenT P T a∧OpenPs P (p::ps) (o+a.size) b
 |_::_::_,_,_=>False
theorem open_ps {H:Type}{enc:TypeId×Value→H}{w:World}{base:Nat}{spare:Nat→Bool}{held:Bool}{fuel:Nat}{cs:List Value}:
  ∀(ps:List (TypeId×Nat)) (o:Nat) (t:Ty),OpenPs P ps o t→(∀p∈ps,∃x,DataW.trod enc P w base spare held fuel p.1 ((cs.drop p.2).take (P.cellsOf p.1))=some x)→∃y:t.den,t.rep w (nt []) ((cs.drop o).take t.size) y
 | [],_,_,h,_=>h.elim
 | [(T,o')],o,t,h,hx=>by
  obtain⟨rfl,⟨hc,ho⟩⟩:=h
  obtain⟨x,hx⟩:=hx (T,o') (List.mem_singleton.2 rfl)
  rw[←hc];exact ho _ _ _ _ _ _ _ _ _ hx
 |(T,o')::p::ps,o,.pair a b,h,hx=>by
  obtain⟨rfl,⟨hc,ho⟩,hr⟩:=h
  obtain⟨x,h1⟩:=hx (T,o') (List.mem_cons_self ..)
  obtain⟨ya,hya⟩:=ho _ _ _ _ _ _ _ _ _ h1
  obtain⟨yb,hyb⟩:=open_ps (p::ps) _ b hr fun q hq=>hx q (List.mem_cons_of_mem _ hq)
  refine⟨(ya,yb),_,_,?_,hya,hyb⟩
  show(cs.drop o').take (a.size+b.size)=_
  rw[hc,List.take_add,List.drop_drop]
 |_::_::_,_,.int _,h,_=>h.elim
 |_::_::_,_,.byte,h,_=>h.elim
 |_::_::_,_,.bool,h,_=>h.elim
 |_::_::_,_,.str,h,_=>h.elim
 |_::_::_,_,.slice _,h,_=>h.elim
theorem ot_struct {fs:List Field}{t:Ty}(hc:P.cellsOf T=t.size)(ht:P.underlying T=some (.struct fs.toArray))(h:OpenPs P (fs.map fun f=>(f.type,f.offset)) 0 t):OpenT P T t:=⟨hc,fun H enc w base spare held fuel cs x hx=>by
 obtain⟨xs,n,_,_,hl,hs,hf⟩:=DataW.trod_struct ht hx
 have hcs:cs=(cs.drop 0).take t.size:=by rw[List.drop_zero,List.take_of_length_le (by omega)]
 rw[hcs]
 refine open_ps (fuel:=n) (enc:=enc) (base:=base) (spare:=spare) (held:=held) _ 0 t h fun p hp=>?_
 obtain⟨f,hf1,rfl⟩:=List.mem_map.1 hp
 obtain⟨i,hi,he⟩:=List.getElem_of_mem hf1
 have h1:=hf i f (by rw[List.getElem?_toArray,List.getElem?_eq_getElem hi,he])
 rw[h1,List.getElem?_eq_getElem (by rw[hs];simpa using hi)]
 exact⟨_,rfl⟩⟩
theorem ot_array {n c:Nat}{t:Ty}(hc:P.cellsOf T=t.size)(ht:P.underlying T=some (.array n e))(he:P.cellsOf e=c)(h:OpenPs P ((List.range n).map fun i=>(e,i*c)) 0 t):OpenT P T t:=⟨hc,fun H enc w base spare held fuel cs x hx=>by
 subst he
 obtain⟨xs,m,_,_,hl,hs,hf⟩:=DataW.trod_array ht hx
 have hcs:cs=(cs.drop 0).take t.size:=by rw[List.drop_zero,List.take_of_length_le (by omega)]
 rw[hcs]
 refine open_ps (fuel:=m) (enc:=enc) (base:=base) (spare:=spare) (held:=held) _ 0 t h fun p hp=>?_
 obtain⟨i,hi,rfl⟩:=List.mem_map.1 hp
 have hi':=List.mem_range.1 hi
 rw[hf i hi',List.getElem?_eq_getElem (by omega)]
 exact⟨_,rfl⟩⟩
theorem rows_of {t:Ty}{w:World}{g:Addr}: ∀(n:Nat),(∀i,i<n→∃(cs:List Value) (y:t.den),cs.length=t.size∧(∀j u,cs[j]?=some u→w.cell? (g.add (i*t.size+j))=some u)∧t.rep w (nt []) cs y)→
  ∃(cells:List Value) (ys:List t.den),ys.length=n∧cells.length=n*t.size∧(∀j u,cells[j]?=some u→w.cell? (g.add j)=some u)∧∀(i:Nat) (y:t.den),ys[i]?=some y→t.rep w (nt []) ((cells.drop (i*t.size)).take t.size) y
 |0,_=>⟨[],[],rfl,by simp,by simp,by simp⟩
 |n+1,h=>by
  obtain⟨cells,ys,h1,h2,h3,h4⟩:=rows_of n fun i hi=>h i (by omega)
  obtain⟨cs,y,c1,c2,c3⟩:=h n (by omega)
  refine⟨cells++cs,ys++[y],by simp[h1],by rw[List.length_append,h2,c1,Nat.succ_mul],fun j u hj=>?_,?_⟩
  ·by_cases hlt:j<cells.length
   ·rw[List.getElem?_append_left hlt]at hj;exact h3 j u hj
   ·rw[List.getElem?_append_right (by omega)]at hj
    have:=c2 _ u hj
    rwa[h2,show n*t.size+(j-n*t.size)=j by omega]at this
  ·refine rep_append (xs:=ys) (ys:=[y]) (by rw[h2,h1]) h4 fun i y' hi=>?_
   have:i=0:=by have:=(List.getElem?_eq_some_iff.1 hi).1;simp at this;omega
   subst this
   simp at hi;subst hi
   rw[Nat.zero_mul,List.drop_zero,List.take_of_length_le (by omega)];exact c3
theorem ot_slice {t:Ty}(hc:P.cellsOf T=1)(ht:P.underlying T=some (.slice e))(h:OpenT P e t):OpenT P T (.slice t):=⟨hc,fun H enc w base spare held fuel cs x hx=>by
 rcases DataW.trod_slice ht hx with⟨rfl,_⟩|⟨ad,len,cap,elems,rest,n,_,rfl,_,hb,hl,hm,hlen,hel,_,_⟩
 ·exact⟨[],rep_nil _⟩
 ·have each: ∀i,i<len→∃(cs:List Value) (y:t.den),cs.length=t.size∧(∀j u,cs[j]?=some u→w.cell? (ad.add (i*t.size+j))=some u)∧t.rep w (nt []) cs y:=fun i hi=>by
   have h1:=hel i hi
   rw[List.getElem?_eq_getElem (by omega),Option.bind_eq_some_iff]at h1
   obtain⟨cs',h2,h3⟩:=h1
   obtain⟨_,h4,h5⟩:=World.cells?_some h2
   obtain⟨y,hy⟩:=h.2 _ _ _ _ _ _ _ _ _ h3
   rw[h.1]at h4 h5
   refine⟨cs',y,h4,fun j u hj=>?_,hy⟩
   have hlt:=(List.getElem?_eq_some_iff.1 hj).1
   have:=h5 j (by omega)
   rw[add_add]at this
   rw[this,hj]
  obtain⟨cells,ys,h1,h2,h3,h4⟩:=rows_of len each
  by_cases hz:len=0
  ·subst hz
   have:ys=[]:=List.eq_nil_of_length_eq_zero h1
   subst this
   exact⟨[],some ad,cap,[],rfl,by simp,hm,by simp,.inl rfl,by simp⟩
  ·have hp:=pos_size t
   have hlt:0<cells.length:=by rw[h2];exact Nat.mul_pos (by omega) hp
   have h0:=h3 0 _ (List.getElem?_eq_getElem hlt)
   have hspot:=World.cell?_spot h0
   obtain⟨b,off,spot⟩:=ad
   simp only[Addr.add]at hspot
   subst hspot
   refine⟨ys,some ⟨b,off,none⟩,cap,cells,by rw[h1],by omega,hm,by rw[h1];exact h2,.inr ⟨b,off,rfl,by simp[nt],fun j u hj=>?_⟩,h4⟩
   have:=h3 j u hj
   rwa[Addr.add_lit]at this⟩
end
end Go.Z
end
