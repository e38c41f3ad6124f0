/- Functions on data, and that the code computes them. * A layer over the small logic, continued: array variables as rows of their own. No program in sight. * A layer over the small logic, continued: texts put together, texts as bytes, bytes and runes as texts. No program in sight. * A layer over the small logic, continued: numbers that stay in their range; strings in their order. No program in sight. * A layer over the small logic, continued: arrays in memory: writes at an index that varies, slices of them, their bytes as a text. No program in sight. * A layer over the small logic, continued: where a law's walk begins. No program in sight. * Plain law of graphs: what the reference and the program say of graphs, as functions on data (no program in sight). * Plain: rounds by a count of steps are recursion over a list. * Plain: small functions of graphs. * Plain: a text's bytes by the model's decoder. * Plain: names, rune by rune; functions of nodes. * Plain: what a text's bytes are, by the reference and by the model's decoder. * Plain: functions of nodes may be; a node for itself. * Plain: what is wrong with nodes, by the program and by the reference. * Plain: the first part of what may be wrong with a graph. -/
import Derived.Test.YtpdhaldfdeamdaaDoorO0
import Derived.Test.YtpdhaldfdeamdaaDoorO1
import Derived.Test.YtpdhaldfdeamdaaDoorO2
import Derived.Laws.IdiomStrings
import Derived.Laws.Cover4
import Derived.Lib.TrimU
import Derived.Shelf.Small.Strs
import Derived.Lib.TrimUEq
section
set_option linter.unusedVariables false
set_option linter.unusedSimpArgs false
set_option maxRecDepth 20000
set_option maxHeartbeats 8000000
set_option synthInstance.maxSize 1000000
set_option synthInstance.maxHeartbeats 400000
namespace Go.Proofs.YtpdhaldfdeamdaaDoor
open Go.RowKit
def F.R08_index_l1 (a0:D23)(a1:Int):Nat→Int→Option Int
 |0,_=>none
 |f+1,y2=>if y2<((a0).length:Int)then((A.ix a0 y2).bind fun x5=>(if x5.1=a1 then(some y2)else(A.gd (Z.R64 (y2+1)) ((F.R08_index_l1 a0 a1 f) (y2+1)))))else(some (-1))
def F.R08_index (a0:D23)(a1:Int):Option Int:=F.R08_index_l1 a0 a1 A.FU 0
def F.R08_spots_j1 (k8:(List D60)→Int→Option (List D60))(y5:Int)(xs10:List D60):Option (List D60):=A.gd (Z.R64 (y5+1)) (k8 xs10 (y5+1))
def F.R08_spots_l2 (k8:(List D60)→Int→Option (List D60))(a0:D23)(a1:(List Int))(y5:Int)(x12:D32):Nat→(List D60)→Int→Option (List D60)
 |0,_,_=>none
 |f+1,xs22,y23=>if y23<((x12.2.2.1).length:Int)then((A.ix x12.2.2.1 y23).bind fun x26=>((F.R08_index a0 x26).bind fun r32=>((A.ix a1 r32).bind fun x35=>(A.gd ((List.length (α:=D60) xs22+List.length (α:=D60) [((x12.1,y23),x35)])*24≤140737488355328) (A.gd (Z.R64 (y23+1)) ((F.R08_spots_l2 k8 a0 a1 y5 x12 f) (xs22++[((x12.1,y23),x35)]) (y23+1)))))))else(if x12.2.1≠15 then((A.ix a1 y5).bind fun x46=>(A.gd ((List.length (α:=D60) xs22+List.length (α:=D60) [((x12.1,2),x46)])*24≤140737488355328) (F.R08_spots_j1 k8 y5 (xs22++[((x12.1,2),x46)]))))else(F.R08_spots_j1 k8 y5 xs22))
def F.R08_spots_l3 (a0:D23)(a1:(List Int)):Nat→(List D60)→Int→Option (List D60)
 |0,_,_=>none
 |f+1,xs4,y5=>if(bif decide (y5<((a0).length:Int))then decide (y5<((a1).length:Int))else false)=true then((A.ix a0 y5).bind fun x12=>(F.R08_spots_l2 (F.R08_spots_l3 a0 a1 f) a0 a1 y5 x12 A.FU xs4 0))else(some xs4)
def F.R08_spots (a0:D23)(a1:(List Int)):Option (List D60):=F.R08_spots_l3 a0 a1 A.FU [] 0
def F.R08_Find (a0:D23)(a1:Int):Option (D32×Bool):=(F.R08_index a0 a1).bind fun r3=>(if r3<0 then(some ((0,0,[],(0,0,ByteArray.mk #[]),ByteArray.mk #[],0,0),false))else((A.ix a0 r3).bind fun x6=>(A.gd ((List.length (α:=Int) []+List.length (α:=Int) x6.2.2.1)*8≤140737488355328) (some ((x6.1,x6.2.1,[]++x6.2.2.1,(x6.2.2.2.1.1,x6.2.2.2.1.2.1,x6.2.2.2.1.2.2),x6.2.2.2.2.1,x6.2.2.2.2.2.1,x6.2.2.2.2.2.2),true)))))
theorem eqq_R08_Find:True:=(fun _=>trivial) @F.R08_Find.eq_1
end Go.Proofs.YtpdhaldfdeamdaaDoor
end
section
set_option linter.unusedVariables false
set_option linter.unusedSimpArgs false
set_option maxRecDepth 20000
set_option maxHeartbeats 8000000
set_option synthInstance.maxSize 1000000
set_option synthInstance.maxHeartbeats 400000
namespace Go.Proofs.YtpdhaldfdeamdaaDoor
open Go.RowKit
def F.R02_Check_j1 (k1:Int→Option Int)(y3:Int)(y6:Bool):Option Int:=if y6=true then(some 20)else(A.gd (Z.R64 (y3+1)) (k1 (y3+1)))
def F.R02_Check_l2 (a0:D44):Nat→Int→Option Int
 |0,_=>none
 |f+1,y3=>if y3<4 then((A.ix [a0.2.2.2.2.1,a0.2.2.2.2.2.1,a0.2.2.2.2.2.2.1,a0.2.2.2.2.2.2.2] y3).bind fun x8=>(if x8<0 then(F.R02_Check_j1 (F.R02_Check_l2 a0 f) y3 true)else((A.ix [a0.2.2.2.2.1,a0.2.2.2.2.2.1,a0.2.2.2.2.2.2.1,a0.2.2.2.2.2.2.2] y3).bind fun x10=>(if(1048576:Int)<x10 then(F.R02_Check_j1 (F.R02_Check_l2 a0 f) y3 true)else(if a0.2.2.2.1≤y3 then((A.ix [a0.2.2.2.2.1,a0.2.2.2.2.2.1,a0.2.2.2.2.2.2.1,a0.2.2.2.2.2.2.2] y3).bind fun x12=>(F.R02_Check_j1 (F.R02_Check_l2 a0 f) y3 (decide (x12≠0))))else(F.R02_Check_j1 (F.R02_Check_l2 a0 f) y3 false))))))else(some 0)
def F.R02_Check (a0:D44):Option Int:=A.gd (((bif bif bif bif bif decide (a0.1<0)then true else decide ((4:Int)<a0.1)then true else decide (a0.2.2.2.1<0)then true else decide ((4:Int)<a0.2.2.2.1)then true else decide (a0.2.1<0)then true else decide (a0.1<a0.2.1))=false→Z.R64 (a0.2.1+a0.2.2.2.1))) (if(bif bif bif bif bif bif bif bif decide (a0.1<0)then true else decide ((4:Int)<a0.1)then true else decide (a0.2.2.2.1<0)then true else decide ((4:Int)<a0.2.2.2.1)then true else decide (a0.2.1<0)then true else decide (a0.1<a0.2.1)then true else decide ((4:Int)<a0.2.1+a0.2.2.2.1)then true else decide (a0.2.2.1<0)then true else decide ((1048576:Int)<a0.2.2.1))=true then(some 20)else(if(bif decide (a0.2.1=0)then decide (a0.2.2.1≠0)else false)=true then(some 20)else(F.R02_Check_l2 a0 A.FU 0)))
theorem R02_Check_ok (a0:D44)(h0_:IntKind.i64.has a0.1)(h1_:IntKind.i64.has a0.2.1)(h2_:IntKind.i64.has a0.2.2.1)(h3_:IntKind.i64.has a0.2.2.2.1)(h4_:IntKind.i64.has a0.2.2.2.2.1)(h5_:IntKind.i64.has a0.2.2.2.2.2.1)(h6_:IntKind.i64.has a0.2.2.2.2.2.2.1)(h7_:IntKind.i64.has a0.2.2.2.2.2.2.2)(r:Int)(hF:F.R02_Check a0=some r):
    A.Ct Tryd.prog 38 [.agg #[.int .i64 a0.1,.int .i64 a0.2.1,.int .i64 a0.2.2.1,.int .i64 a0.2.2.2.1,.int .i64 a0.2.2.2.2.1,.int .i64 a0.2.2.2.2.2.1,.int .i64 a0.2.2.2.2.2.2.1,.int .i64 a0.2.2.2.2.2.2.2]] [] [] (fun v H'=>v=.int .i64 r∧H'=[]∧IntKind.i64.has r):=by
 refine A.Ct.enter Tryd.func38 rfl Tryd.ntmps38 rfl fun w0 F0=>?_
 rw[F.R02_Check]at hF
 refine A.xl 1 ?_
 refine A.AL.box 0 (cs:=[.int .i64 a0.1,.int .i64 a0.2.1,.int .i64 a0.2.2.1,.int .i64 a0.2.2.2.1,.int .i64 a0.2.2.2.2.1,.int .i64 a0.2.2.2.2.2.1,.int .i64 a0.2.2.2.2.2.2.1,.int .i64 a0.2.2.2.2.2.2.2]) fun g1=>?_
 refine A.q0 [] [] [.n] [] ?_
 refine A.dl 3 ?_
 obtain⟨hc2,hF⟩:=A.gd_some hF
 refine A.q [0] [] [.n,.b 0 0,.n,.n,.sy .n,.sy (.b 0 0),.sy .n,.pk,.n,.sy .n,.sy (.b 0 3),.sy .n,.pk,.n,.sy .n,.sy (.b 0 3),.sy .n,.pk,.n,.sy .n,.sy (.b 0 1),.sy .n,.pk,.n,.sy .n,.sy (.b 0 1),.sy .n,.sy (.b 0 0),.sy .n,.pk,.n,.sy .n,.sy (.b 0 1),.sy .n,.sy (.b 0 3),.sy .n,.sy .n,.pk,.n,.sy .n,.sy (.b 0 2),.sy .n,.pk,.n,.sy .n,.sy (.b 0 2),.sy .n,.pk,.n] [(bif bif bif bif bif decide (a0.1<0)then true else decide ((4:Int)<a0.1)then true else decide (a0.2.2.2.1<0)then true else decide ((4:Int)<a0.2.2.2.1)then true else decide (a0.2.1<0)then true else decide (a0.1<a0.2.1))=false→Z.R64 (a0.2.1+a0.2.2.2.1)] [(52,.bool (bif bif bif bif bif bif bif bif decide (a0.1<0)then true else decide ((4:Int)<a0.1)then true else decide (a0.2.2.2.1<0)then true else decide ((4:Int)<a0.2.2.2.1)then true else decide (a0.2.1<0)then true else decide (a0.1<a0.2.1)then true else decide ((4:Int)<a0.2.1+a0.2.2.2.1)then true else decide (a0.2.2.1<0)then true else decide ((1048576:Int)<a0.2.2.1)))] hc2 ?_
 refine A.AL.cnd (j:=52) rfl hF (fun hF=>?_) (fun hF=>?_)
 ·refine A.q0 [] [] [.off,.off,.off,.off,.off,.off,.off,.off,.n] [(61,.bool true)] ?_
  refine A.dx 1 ?_
  refine A.AX.cnt rfl ?_
  refine A.xl 1 ?_
  refine A.q0 [] [] [.n] [(2,.int .i64 20)] ?_
  refine A.dx 1 ?_
  obtain rfl:=Option.some.inj hF
  exact A.rt1 [] ⟨rfl,rfl,(A.hasl .i64 (20) rfl)⟩
 refine A.q0 [0] [] [.on .n,.on (.b 0 1),.on .n,.on .n,.sy .n,.sy (.b 0 2),.sy .n,.on .pk,.n] [(61,.bool (bif decide (a0.2.1=0)then decide (a0.2.2.1≠0)else false))] ?_
 refine A.dx 1 ?_
 refine A.AX.cnb rfl hF (fun hb hF=>?_) (fun hb hF=>?_)
 ·refine A.xl 1 ?_
  refine A.q0 [] [] [.n] [(2,.int .i64 20)] ?_
  refine A.dx 1 ?_
  obtain rfl:=Option.some.inj hF
  exact A.rt1 [] ⟨rfl,rfl,(A.hasl .i64 (20) rfl)⟩
 refine A.xl 4 ?_
 refine A.q0 [] [] [.n] [(3,.int .i64 0)] ?_
 refine A.dx 2 ?_
 refine A.lp_ [1] [0] (fun f nl nh=>∃(y3:Int),nl=[(3,.int .i64 y3)]∧nh=[]∧IntKind.i64.has y3∧F.R02_Check_l2 a0 f y3=some r) ⟨0,rfl,rfl,(A.hasl .i64 (0) rfl),hF⟩ ?_
 rintro f5 _ _ ⟨y3,rfl,rfl,hy4,hF⟩
 rcases f5 with _|f5
 ·exact A.no0 hF
 rw[F.R02_Check_l2]at hF
 refine A.xl 2 ?_
 refine A.q0 [] [] [.n,.n] [(63,.bool (decide (y3<4)))] ?_
 refine A.dx 1 ?_
 refine A.AX.cnd rfl hF (fun hb hF=>?_) (fun hb hF=>?_)
 ·refine A.xx 4 ?_
  refine A.AX.join [1,3] [0] (fun nl nh=>∃(y6:Bool),nl=[(90,.bool y6)]∧nh=[]∧F.R02_Check_j1 (F.R02_Check_l2 a0 f5) y3 y6=some r) ?_ ?_
  ·refine A.xl 0 ?_
   refine A.q0 [] [] [.n,.n] [(66,.int .i64 y3),(67,.pointer (some ⟨g1,4,none⟩))] ?_
   obtain⟨x8,hv9,hF⟩:=A.bd_some hF
   refine A.AL.ixb 0 4 (fun v:Int=>.int .i64 v) [a0.2.2.2.2.1,a0.2.2.2.2.2.1,a0.2.2.2.2.2.2.1,a0.2.2.2.2.2.2.2] hv9 ?_
   refine A.q0 [] [4] [.e 0 0,.n,.n] [(71,.bool (decide (x8<0)))] ?_
   refine A.AL.cnp (j:=71) rfl hF (fun hb hF=>?_) (fun hb hF=>?_)
   ·refine A.q0 [] [] [.off,.off,.off,.off,.off,.n,.n,.off,.off,.off,.off,.off,.off,.off,.off,.off,.off,.off,.n] [(90,.bool true)] ?_
    refine A.AL.done ?_
    exact A.j ⟨true,rfl,rfl,hF⟩
   refine A.q0 [] [] [.on .n,.on .n] [(72,.int .i64 y3),(73,.pointer (some ⟨g1,4,none⟩))] ?_
   refine A.AL.on (dj:=71) rfl rfl ?_
   obtain⟨x10,hv11,hF⟩:=A.bd_some hF
   refine A.AL.ixb 0 5 (fun v:Int=>.int .i64 v) [a0.2.2.2.2.1,a0.2.2.2.2.2.1,a0.2.2.2.2.2.2.1,a0.2.2.2.2.2.2.2] hv11 ?_
   refine A.q0 [] [5] [.on (.e 0 0),.on .n,.n,.n] [(78,.bool (decide ((1048576:Int)<x10)))] ?_
   refine A.AL.cnp (j:=78) rfl hF (fun hb hF=>?_) (fun hb hF=>?_)
   ·refine A.q0 [] [] [.off,.off,.off,.off,.off,.off,.off,.off,.off,.off,.off,.n] [(90,.bool true)] ?_
    refine A.AL.done ?_
    exact A.j ⟨true,rfl,rfl,hF⟩
   refine A.q0 [0] [] [.on .n,.on .n,.on (.b 0 3),.on .n,.on .n] [(83,.bool (decide (a0.2.2.2.1≤y3)))] ?_
   refine A.AL.cnp (j:=83) rfl hF (fun hb hF=>?_) (fun hb hF=>?_)
   ·refine A.q0 [] [] [.on .n,.on .n] [(84,.int .i64 y3),(85,.pointer (some ⟨g1,4,none⟩))] ?_
    refine A.AL.on (dj:=83) rfl rfl ?_
    obtain⟨x12,hv13,hF⟩:=A.bd_some hF
    refine A.AL.ixb 0 6 (fun v:Int=>.int .i64 v) [a0.2.2.2.2.1,a0.2.2.2.2.2.1,a0.2.2.2.2.2.2.1,a0.2.2.2.2.2.2.2] hv13 ?_
    refine A.q0 [] [6] [.on (.e 0 0),.on .n,.on .n,.n] [(90,.bool (decide (x12≠0)))] ?_
    refine A.AL.done ?_
    exact A.j ⟨(decide (x12≠0)),rfl,rfl,hF⟩
   refine A.q0 [] [] [.off,.off,.off,.off,.off,.on .n,.n] [(90,.bool false)] ?_
   refine A.AL.done ?_
   exact A.j ⟨false,rfl,rfl,hF⟩
  rintro _ _ ⟨y6,rfl,rfl,hF⟩
  rw[F.R02_Check_j1]at hF
  refine A.AX.cnb rfl hF (fun hb hF=>?_) (fun hb hF=>?_)
  ·refine A.xl 1 ?_
   refine A.q0 [] [] [.n] [(2,.int .i64 20)] ?_
   refine A.dx 1 ?_
   obtain rfl:=Option.some.inj hF
   exact A.rt1 [] ⟨rfl,rfl,(A.hasl .i64 (20) rfl)⟩
  refine A.xl 3 ?_
  obtain⟨hc7,hF⟩:=A.gd_some hF
  refine A.q [] [] [.n,.n,.n] [Z.R64 (y3+1)] [(3,.int .i64 (y3+1))] hc7 ?_
  refine A.AL.done ?_
  exact A.j ⟨_,Nat.lt_succ_self _,⟨(y3+1),rfl,rfl,(Z.i64_has hc7),hF⟩⟩
 refine A.xl 3 ?_
 refine A.q0 [] [] [.n] [(2,.int .i64 0)] ?_
 refine A.dx 1 ?_
 obtain rfl:=Option.some.inj hF
 exact A.rt1 [] ⟨rfl,rfl,(A.hasl .i64 (0) rfl)⟩
def F.R02_step (a0:Int)(a1:Int)(a2:Int)(a3:Int):Option (D44×Int):=(F.R02_Check (a0,a1,a2,a3,(0,0,0,0))).bind fun r3=>(if r3≠0 then(some ((0,0,0,0,(0,0,0,0)),11))else(some ((a0,a1,a2,a3,(0,0,0,0)),0)))
theorem R02_step_ok (a0:Int)(a1:Int)(a2:Int)(a3:Int)(h0_:IntKind.i64.has a0)(h1_:IntKind.i64.has a1)(h2_:IntKind.i64.has a2)(h3_:IntKind.i64.has a3)(r:D44×Int)(hF:F.R02_step a0 a1 a2 a3=some r):
    A.Ct Tryd.prog 40 [.int .i64 a0,.int .i64 a1,.int .i64 a2,.int .i64 a3] [] [] (fun v H'=>v=.tuple #[.agg #[.int .i64 r.1.1,.int .i64 r.1.2.1,.int .i64 r.1.2.2.1,.int .i64 r.1.2.2.2.1,.int .i64 r.1.2.2.2.2.1,.int .i64 r.1.2.2.2.2.2.1,.int .i64 r.1.2.2.2.2.2.2.1,.int .i64 r.1.2.2.2.2.2.2.2],.int .i64 r.2]∧H'=[]∧IntKind.i64.has r.1.1∧IntKind.i64.has r.1.2.1∧IntKind.i64.has r.1.2.2.1∧IntKind.i64.has r.1.2.2.2.1∧IntKind.i64.has r.1.2.2.2.2.1∧IntKind.i64.has r.1.2.2.2.2.2.1∧IntKind.i64.has r.1.2.2.2.2.2.2.1∧IntKind.i64.has r.1.2.2.2.2.2.2.2∧IntKind.i64.has r.2):=by
 refine A.Ct.enter Tryd.func40 rfl Tryd.ntmps40 rfl fun w0 F0=>?_
 rw[F.R02_step]at hF
 refine A.xl 1 ?_
 refine A.AL.alloc 0 (cs:=[.int .i64 0,.int .i64 0,.int .i64 0,.int .i64 0,.int .i64 0,.int .i64 0,.int .i64 0,.int .i64 0]) Tryd.zeroValue45 fun g1=>?_
 refine A.q0 [] [] [.n] [] ?_
 refine A.dl 2 ?_
 refine A.q0 [] [] [.n,.n,.n,.n,.n] [(15,.agg #[.int .i64 a0,.int .i64 a1,.int .i64 a2,.int .i64 a3,.int .i64 0,.int .i64 0,.int .i64 0,.int .i64 0])] ?_
 refine A.AL.alloc 1 (cs:=[.int .i64 0,.int .i64 0,.int .i64 0,.int .i64 0,.int .i64 0,.int .i64 0,.int .i64 0,.int .i64 0]) Tryd.zeroValue45 fun g2=>?_
 refine A.sw 1 [] [.int .i64 a0,.int .i64 a1,.int .i64 a2,.int .i64 a3,.int .i64 0,.int .i64 0,.int .i64 0,.int .i64 0] ?_
 refine A.dl 3 ?_
 refine A.q0 [1] [] [.b 0 0] [(16,.agg #[.int .i64 a0,.int .i64 a1,.int .i64 a2,.int .i64 a3,.int .i64 0,.int .i64 0,.int .i64 0,.int .i64 0])] ?_
 obtain⟨r3,hv4,hF⟩:=A.bd_some hF
 refine A.AL.call 2 [] (first:=[]) (cap:=[]) cf38 (R02_Check_ok (a0,a1,a2,a3,(0,0,0,0)) h0_ h1_ h2_ h3_ (A.hasl .i64 (0) rfl) (A.hasl .i64 (0) rfl) (A.hasl .i64 (0) rfl) (A.hasl .i64 (0) rfl) r3 hv4) .nil ?_
 rintro _ _ ⟨rfl,rfl,hr5⟩
 refine⟨by kernel_rfl,?_⟩
 refine A.q0 [] [] [.n] [(18,.bool (decide (r3≠0)))] ?_
 refine A.dx 1 ?_
 refine A.AX.cnd rfl hF (fun hb hF=>?_) (fun hb hF=>?_)
 ·refine A.xl 1 ?_
  refine A.q0 [] [] [.n] [(19,.agg #[.int .i64 0,.int .i64 0,.int .i64 0,.int .i64 0,.int .i64 0,.int .i64 0,.int .i64 0,.int .i64 0])] ?_
  refine A.sw 0 [] [.int .i64 0,.int .i64 0,.int .i64 0,.int .i64 0,.int .i64 0,.int .i64 0,.int .i64 0,.int .i64 0] ?_
  refine A.q0 [] [] [.n] [(9,.int .i64 11)] ?_
  refine A.dx 1 ?_
  obtain rfl:=Option.some.inj hF
  exact A.AX.ret [] (.tuple #[.agg #[.int .i64 0,.int .i64 0,.int .i64 0,.int .i64 0,.int .i64 0,.int .i64 0,.int .i64 0,.int .i64 0],.int .i64 11]) (fun a w hf hh=>Z.resv2 rfl (Z.rv_n hf rfl Tryd.isAgg45 Tryd.sizeOf45 (A.Hp.blk hh 0) rfl) (Z.rv_t hf rfl)) (⟨rfl,rfl,(A.hasl .i64 (0) rfl),(A.hasl .i64 (0) rfl),(A.hasl .i64 (0) rfl),(A.hasl .i64 (0) rfl),(A.hasl .i64 (0) rfl),(A.hasl .i64 (0) rfl),(A.hasl .i64 (0) rfl),(A.hasl .i64 (0) rfl),(A.hasl .i64 (11) rfl)⟩)
 refine A.xl 3 ?_
 refine A.q0 [1] [] [.b 0 0] [(20,.agg #[.int .i64 a0,.int .i64 a1,.int .i64 a2,.int .i64 a3,.int .i64 0,.int .i64 0,.int .i64 0,.int .i64 0])] ?_
 refine A.sw 0 [] [.int .i64 a0,.int .i64 a1,.int .i64 a2,.int .i64 a3,.int .i64 0,.int .i64 0,.int .i64 0,.int .i64 0] ?_
 refine A.q0 [] [] [.n] [(9,.int .i64 0)] ?_
 refine A.dx 1 ?_
 obtain rfl:=Option.some.inj hF
 exact A.AX.ret [] (.tuple #[.agg #[.int .i64 a0,.int .i64 a1,.int .i64 a2,.int .i64 a3,.int .i64 0,.int .i64 0,.int .i64 0,.int .i64 0],.int .i64 0]) (fun a w hf hh=>Z.resv2 rfl (Z.rv_n hf rfl Tryd.isAgg45 Tryd.sizeOf45 (A.Hp.blk hh 0) rfl) (Z.rv_t hf rfl)) (⟨rfl,rfl,h0_,h1_,h2_,h3_,(A.hasl .i64 (0) rfl),(A.hasl .i64 (0) rfl),(A.hasl .i64 (0) rfl),(A.hasl .i64 (0) rfl),(A.hasl .i64 (0) rfl)⟩)
def F.R02_Enter (a0:Int):Option (D44×Int):=(F.R02_step a0 a0 0 1).bind fun r2=>(some ((r2.1.1,r2.1.2.1,r2.1.2.2.1,r2.1.2.2.2.1,(r2.1.2.2.2.2.1,r2.1.2.2.2.2.2.1,r2.1.2.2.2.2.2.2.1,r2.1.2.2.2.2.2.2.2)),r2.2))
def F.R02_Leave (a0:Int):Option (D44×Int):=if a0<1 then(some ((0,0,0,0,(0,0,0,0)),11))else(A.gd (Z.R64 (a0-1)) ((F.R02_step a0 (a0-1) 0 0).bind fun r3=>(some ((r3.1.1,r3.1.2.1,r3.1.2.2.1,r3.1.2.2.2.1,(r3.1.2.2.2.2.1,r3.1.2.2.2.2.2.1,r3.1.2.2.2.2.2.2.1,r3.1.2.2.2.2.2.2.2)),r3.2))))
theorem eqq_R02_Leave:True:=(fun _=>trivial) @F.R02_Leave.eq_1
def F.R02_Next (a0:Int):Option (D44×Int):=(F.R02_step a0 a0 1 0).bind fun r2=>(some ((r2.1.1,r2.1.2.1,r2.1.2.2.1,r2.1.2.2.2.1,(r2.1.2.2.2.2.1,r2.1.2.2.2.2.2.1,r2.1.2.2.2.2.2.2.1,r2.1.2.2.2.2.2.2.2)),r2.2))
def F.R02_Id (a0:Int):Option (D44×Int):=(F.R02_step a0 a0 0 0).bind fun r2=>(some ((r2.1.1,r2.1.2.1,r2.1.2.2.1,r2.1.2.2.2.1,(r2.1.2.2.2.2.1,r2.1.2.2.2.2.2.1,r2.1.2.2.2.2.2.2.1,r2.1.2.2.2.2.2.2.2)),r2.2))
theorem R02_Id_ok (a0:Int)(h0_:IntKind.i64.has a0)(r:D44×Int)(hF:F.R02_Id a0=some r):
    A.Ct Tryd.prog 15 [.int .i64 a0] [] [] (fun v H'=>v=.tuple #[.agg #[.int .i64 r.1.1,.int .i64 r.1.2.1,.int .i64 r.1.2.2.1,.int .i64 r.1.2.2.2.1,.int .i64 r.1.2.2.2.2.1,.int .i64 r.1.2.2.2.2.2.1,.int .i64 r.1.2.2.2.2.2.2.1,.int .i64 r.1.2.2.2.2.2.2.2],.int .i64 r.2]∧H'=[]∧IntKind.i64.has r.1.1∧IntKind.i64.has r.1.2.1∧IntKind.i64.has r.1.2.2.1∧IntKind.i64.has r.1.2.2.2.1∧IntKind.i64.has r.1.2.2.2.2.1∧IntKind.i64.has r.1.2.2.2.2.2.1∧IntKind.i64.has r.1.2.2.2.2.2.2.1∧IntKind.i64.has r.1.2.2.2.2.2.2.2∧IntKind.i64.has r.2):=by
 refine A.Ct.enter Tryd.func15 rfl Tryd.ntmps15 rfl fun w0 F0=>?_
 rw[F.R02_Id]at hF
 refine A.xl 1 ?_
 refine A.AL.alloc 0 (cs:=[.int .i64 0,.int .i64 0,.int .i64 0,.int .i64 0,.int .i64 0,.int .i64 0,.int .i64 0,.int .i64 0]) Tryd.zeroValue45 fun g1=>?_
 refine A.q0 [] [] [.n] [] ?_
 refine A.dl 2 ?_
 refine A.q0 [] [] [.n,.n] [(4,.int .i64 a0),(5,.int .i64 a0)] ?_
 obtain⟨r2,hv3,hF⟩:=A.bd_some hF
 refine A.AL.call 1 [] (first:=[]) (cap:=[]) cf40 (R02_step_ok a0 a0 0 0 h0_ h0_ (A.hasl .i64 (0) rfl) (A.hasl .i64 (0) rfl) r2 hv3) .nil ?_
 rintro _ _ ⟨rfl,rfl,hr4,hr5,hr6,hr7,hr8,hr9,hr10,hr11,hr12⟩
 refine⟨by kernel_rfl,?_⟩
 refine A.q0 [] [] [.n,.n] [(7,.agg #[.int .i64 r2.1.1,.int .i64 r2.1.2.1,.int .i64 r2.1.2.2.1,.int .i64 r2.1.2.2.2.1,.int .i64 r2.1.2.2.2.2.1,.int .i64 r2.1.2.2.2.2.2.1,.int .i64 r2.1.2.2.2.2.2.2.1,.int .i64 r2.1.2.2.2.2.2.2.2]),(8,.int .i64 r2.2)] ?_
 refine A.sw 0 [] [.int .i64 r2.1.1,.int .i64 r2.1.2.1,.int .i64 r2.1.2.2.1,.int .i64 r2.1.2.2.2.1,.int .i64 r2.1.2.2.2.2.1,.int .i64 r2.1.2.2.2.2.2.1,.int .i64 r2.1.2.2.2.2.2.2.1,.int .i64 r2.1.2.2.2.2.2.2.2] ?_
 refine A.q0 [] [] [.n] [(3,.int .i64 r2.2)] ?_
 refine A.dx 1 ?_
 obtain rfl:=Option.some.inj hF
 exact A.AX.ret [] (.tuple #[.agg #[.int .i64 r2.1.1,.int .i64 r2.1.2.1,.int .i64 r2.1.2.2.1,.int .i64 r2.1.2.2.2.1,.int .i64 r2.1.2.2.2.2.1,.int .i64 r2.1.2.2.2.2.2.1,.int .i64 r2.1.2.2.2.2.2.2.1,.int .i64 r2.1.2.2.2.2.2.2.2],.int .i64 r2.2]) (fun a w hf hh=>Z.resv2 rfl (Z.rv_n hf rfl Tryd.isAgg45 Tryd.sizeOf45 (A.Hp.blk hh 0) rfl) (Z.rv_t hf rfl)) (⟨rfl,rfl,hr4,hr5,hr6,hr7,hr8,hr9,hr10,hr11,hr12⟩)
end Go.Proofs.YtpdhaldfdeamdaaDoor
end
section
set_option linter.unusedVariables false
set_option linter.unusedSimpArgs false
set_option maxRecDepth 20000
set_option maxHeartbeats 8000000
set_option synthInstance.maxSize 1000000
set_option synthInstance.maxHeartbeats 400000
namespace Go.Proofs.YtpdhaldfdeamdaaDoor
open Go.RowKit
def F.R08_within_j1 (y15:Int)(y17:Int)(y19:Int)(y21:Int)(y23:Int)(y25:Int)(y27:Int)(y29:Int):Option D44:=some (y15,y17,y19,y21,(y23,y25,y27,y29))
def F.R08_within (a0:D32)(a1:Int):Option D44:=(F.R02_Id a1).bind fun r3=>(if a0.2.1=12 then((F.R02_Enter a1).bind fun r31=>(F.R08_within_j1 r31.1.1 r31.1.2.1 r31.1.2.2.1 r31.1.2.2.2.1 r31.1.2.2.2.2.1 r31.1.2.2.2.2.2.1 r31.1.2.2.2.2.2.2.1 r31.1.2.2.2.2.2.2.2))else(if a0.2.1=13 then((F.R02_Leave a1).bind fun r42=>(F.R08_within_j1 r42.1.1 r42.1.2.1 r42.1.2.2.1 r42.1.2.2.2.1 r42.1.2.2.2.2.1 r42.1.2.2.2.2.2.1 r42.1.2.2.2.2.2.2.1 r42.1.2.2.2.2.2.2.2))else(if a0.2.1=14 then((F.R02_Next a1).bind fun r53=>(F.R08_within_j1 r53.1.1 r53.1.2.1 r53.1.2.2.1 r53.1.2.2.2.1 r53.1.2.2.2.2.1 r53.1.2.2.2.2.2.1 r53.1.2.2.2.2.2.2.1 r53.1.2.2.2.2.2.2.2))else(F.R08_within_j1 r3.1.1 r3.1.2.1 r3.1.2.2.1 r3.1.2.2.2.1 r3.1.2.2.2.2.1 r3.1.2.2.2.2.2.1 r3.1.2.2.2.2.2.2.1 r3.1.2.2.2.2.2.2.2))))
theorem eqq_R08_within:True:=(fun _=>trivial) @F.R08_within.eq_1
end Go.Proofs.YtpdhaldfdeamdaaDoor
end
section
set_option linter.unusedVariables false
set_option linter.unusedSimpArgs false
set_option maxRecDepth 20000
set_option maxHeartbeats 8000000
set_option synthInstance.maxSize 1000000
set_option synthInstance.maxHeartbeats 400000
namespace Go.Proofs.YtpdhaldfdeamdaaDoor
open Go.RowKit
def F.R08_edges_j1 (k30:(List D46)→Int→Option (List D46))(y5:Int)(xs10:List D46):Option (List D46):=A.gd (Z.R64 (y5+1)) (k30 xs10 (y5+1))
def F.R08_edges_j2 (k30:(List D46)→Int→Option (List D46))(y5:Int)(xs33:List D46):Option (List D46):=F.R08_edges_j1 k30 y5 xs33
def F.R08_edges_j3 (k38:(List D46)→Int→Option (List D46))(y80:Int)(xs92:List D46):Option (List D46):=A.gd (Z.R64 (y80+1)) (k38 xs92 (y80+1))
def F.R08_edges_l4 (k37:(List D46)→Int→Option (List D46))(a0:D23)(x12:D60)(r18:D32×Bool)(r59:D44×Int)(y74:Int):Nat→(List D46)→Int→Option (List D46)
 |0,_,_=>none
 |f+1,xs79,y80=>(A.ix a0 y74).bind fun x83=>(if y80<((x83.2.2.1).length:Int)then((A.ix a0 y74).bind fun x94=>((A.ix x94.2.2.1 y80).bind fun x102=>(if x102=r18.1.1 then((A.ix a0 y74).bind fun x108=>(A.gd ((List.length (α:=D46) xs79+List.length (α:=D46) [((x12.1.1,x12.1.2),(x108.1,y80),(r59.1.1,r59.1.2.1,r59.1.2.2.1,r59.1.2.2.2.1,(r59.1.2.2.2.2.1,r59.1.2.2.2.2.2.1,r59.1.2.2.2.2.2.2.1,r59.1.2.2.2.2.2.2.2)))])*96≤140737488355328) (F.R08_edges_j3 (F.R08_edges_l4 k37 a0 x12 r18 r59 y74 f) y80 (xs79++[((x12.1.1,x12.1.2),(x108.1,y80),(r59.1.1,r59.1.2.1,r59.1.2.2.1,r59.1.2.2.2.1,(r59.1.2.2.2.2.1,r59.1.2.2.2.2.2.1,r59.1.2.2.2.2.2.2.1,r59.1.2.2.2.2.2.2.2)))]))))else(F.R08_edges_j3 (F.R08_edges_l4 k37 a0 x12 r18 r59 y74 f) y80 xs79))))else(A.gd (Z.R64 (y74+1)) (k37 xs79 (y74+1))))
def F.R08_edges_l5 (k30:(List D46)→Int→Option (List D46))(a0:D23)(y5:Int)(x12:D60)(r18:D32×Bool)(r59:D44×Int):Nat→(List D46)→Int→Option (List D46)
 |0,_,_=>none
 |f+1,xs73,y74=>if y74<((a0).length:Int)then(F.R08_edges_l4 (F.R08_edges_l5 k30 a0 y5 x12 r18 r59 f) a0 x12 r18 r59 y74 A.FU xs73 0)else(F.R08_edges_j1 k30 y5 xs73)
def F.R08_edges_l6 (a0:D23)(a1:(List D60)):Nat→(List D46)→Int→Option (List D46)
 |0,_,_=>none
 |f+1,xs4,y5=>if y5<((a1).length:Int)then((A.ix a1 y5).bind fun x12=>((F.R08_Find a0 x12.1.1).bind fun r18=>(if x12.1.2≠2 then(if r18.1.2.1≠15 then((A.ix a1 y5).bind fun x34=>((F.R08_within (r18.1.1,r18.1.2.1,r18.1.2.2.1,(r18.1.2.2.2.1.1,r18.1.2.2.2.1.2.1,r18.1.2.2.2.1.2.2),r18.1.2.2.2.2.1,r18.1.2.2.2.2.2.1,r18.1.2.2.2.2.2.2) x34.2).bind fun r40=>(A.gd ((List.length (α:=D46) xs4+List.length (α:=D46) [((x12.1.1,x12.1.2),(r18.1.1,2),(r40.1,r40.2.1,r40.2.2.1,r40.2.2.2.1,(r40.2.2.2.2.1,r40.2.2.2.2.2.1,r40.2.2.2.2.2.2.1,r40.2.2.2.2.2.2.2)))])*96≤140737488355328) (F.R08_edges_j2 (F.R08_edges_l6 a0 a1 f) y5 (xs4++[((x12.1.1,x12.1.2),(r18.1.1,2),(r40.1,r40.2.1,r40.2.2.1,r40.2.2.2.1,(r40.2.2.2.2.1,r40.2.2.2.2.2.1,r40.2.2.2.2.2.2.1,r40.2.2.2.2.2.2.2)))])))))else(F.R08_edges_j2 (F.R08_edges_l6 a0 a1 f) y5 xs4))else((A.ix a1 y5).bind fun x54=>((F.R02_Id x54.2).bind fun r59=>(F.R08_edges_l5 (F.R08_edges_l6 a0 a1 f) a0 y5 x12 r18 r59 A.FU xs4 0))))))else(some xs4)
def F.R08_edges (a0:D23)(a1:(List D60)):Option (List D46):=F.R08_edges_l6 a0 a1 A.FU [] 0
def F.R08_Ins (a0:Int):Option Int:=if(bif decide (a0<1)then true else decide ((16:Int)<a0))=true then(some (-1))else(if a0=1 then(some 0)else(if(bif decide (a0=5)then true else decide (a0=9))=true then(some 2)else(some 1)))
def F.R08_Named_j1 (k1:Int→Option (Int×Bool))(a0:D23)(y2:Int)(y5:Bool):Option (Int×Bool):=if y5=true then((A.ix a0 y2).bind fun x6=>(some (x6.1,true)))else(A.gd (Z.R64 (y2+1)) (k1 (y2+1)))
def F.R08_Named_l2 (a0:D23)(a1:Int)(a2:ByteArray):Nat→Int→Option (Int×Bool)
 |0,_=>none
 |f+1,y2=>if y2<((a0).length:Int)then((A.ix a0 y2).bind fun x14=>(if x14.2.1=a1 then((A.ix a0 y2).bind fun x21=>(F.R08_Named_j1 (F.R08_Named_l2 a0 a1 a2 f) a0 y2 (decide (x21.2.2.2.2.1=a2))))else(F.R08_Named_j1 (F.R08_Named_l2 a0 a1 a2 f) a0 y2 false)))else(some (0,false))
def F.R08_Named (a0:D23)(a1:Int)(a2:ByteArray):Option (Int×Bool):=F.R08_Named_l2 a0 a1 a2 A.FU 0
def F.R08_letter (a0:UInt8):Option Bool:=if(bif decide ((97:Int)≤(a0.toNat:Int))then decide ((a0.toNat:Int)≤122)else false)=true then(some true)else(some (bif decide ((65:Int)≤(a0.toNat:Int))then decide ((a0.toNat:Int)≤90)else false))
def F.R08_digit (a0:UInt8):Option Bool:=some (bif decide ((48:Int)≤(a0.toNat:Int))then decide ((a0.toNat:Int)≤57)else false)
end Go.Proofs.YtpdhaldfdeamdaaDoor
end
section
set_option linter.unusedVariables false
set_option linter.unusedSimpArgs false
set_option maxRecDepth 20000
set_option maxHeartbeats 8000000
set_option synthInstance.maxSize 1000000
set_option synthInstance.maxHeartbeats 400000
namespace Go.Proofs.YtpdhaldfdeamdaaDoor
open Go.RowKit
def F.R08_name_j1 (k1:Int→Option Bool)(y2:Int)(y5:Bool):Option Bool:=if y5=true then(some false)else(A.gd (Z.R64 (y2+1)) (k1 (y2+1)))
def F.R08_name_l2 (a0:ByteArray):Nat→Int→Option Bool
 |0,_=>none
 |f+1,y2=>if y2<(a0.size:Int)then((A.ix a0.data.toList y2).bind fun x7=>((F.R08_letter x7).bind fun r9=>(if(!r9)=true then((A.ix a0.data.toList y2).bind fun x11=>((F.R08_digit x11).bind fun r13=>(F.R08_name_j1 (F.R08_name_l2 a0 f) y2 (!r13))))else(F.R08_name_j1 (F.R08_name_l2 a0 f) y2 false))))else(some true)
def F.R08_name_j3 (a0:ByteArray)(y1:Bool):Option Bool:=if y1=true then(some false)else(F.R08_name_l2 a0 A.FU 0)
def F.R08_name (a0:ByteArray):Option Bool:=if(bif decide (a0=(ByteArray.mk #[]))then true else decide ((16:Int)<(a0.size:Int)))=true then(F.R08_name_j3 a0 true)else((A.ix a0.data.toList 0).bind fun x15=>((F.R08_letter x15).bind fun r17=>(F.R08_name_j3 a0 (!r17))))
def F.R08_own_j1 (a0:D23)(x2:D32):Option Bool:=if(bif decide (x2.2.1≠1)then decide (x2.2.1≠15)else false)=true then(some (decide (x2.2.2.2.2.1=(ByteArray.mk #[]))))else((F.R08_Named a0 x2.2.1 x2.2.2.2.2.1).bind fun r11=>((F.R08_name x2.2.2.2.2.1).bind fun r14=>(some (bif r14 then decide (r11.1=x2.1)else false))))
theorem eqq_R08_own_j1:True:=(fun _=>trivial) @F.R08_own_j1.eq_1
def F.R08_own_j2 (a0:D23)(x2:D32)(y10:Bool):Option Bool:=if y10=true then(some false)else(if x2.2.1=14 then(if(bif bif bif decide (x2.2.2.2.2.2.1<1)then true else decide ((8:Int)<x2.2.2.2.2.2.1)then true else decide (x2.2.2.2.2.2.2<1)then true else decide ((4:Int)<x2.2.2.2.2.2.2))=true then(some false)else(F.R08_own_j1 a0 x2))else(if(bif decide (x2.2.2.2.2.2.1≠0)then true else decide (x2.2.2.2.2.2.2≠0))=true then(some false)else(F.R08_own_j1 a0 x2)))
theorem eqq_R08_own_j2:True:=(fun _=>trivial) @F.R08_own_j2.eq_1
def F.R08_own (a0:D23)(a1:Int):Option Bool:=(A.ix a0 a1).bind fun x2=>(if(bif decide (x2.1<1)then true else decide ((255:Int)<x2.1))=true then(F.R08_own_j2 a0 x2 true)else(if(0:Int)<a1 then(A.gd (Z.R64 (a1-1)) ((A.ix a0 (a1-1)).bind fun x17=>(if x2.1≤x17.1 then(F.R08_own_j2 a0 x2 true)else((F.R08_Ins x2.2.1).bind fun r25=>(if r25<0 then(F.R08_own_j2 a0 x2 true)else((F.R08_Ins x2.2.1).bind fun r28=>(F.R08_own_j2 a0 x2 (decide (((x2.2.2.1).length:Int)≠r28)))))))))else((F.R08_Ins x2.2.1).bind fun r31=>(if r31<0 then(F.R08_own_j2 a0 x2 true)else((F.R08_Ins x2.2.1).bind fun r34=>(F.R08_own_j2 a0 x2 (decide (((x2.2.2.1).length:Int)≠r34))))))))
theorem eqq_R08_own:True:=(fun _=>trivial) @F.R08_own.eq_1
def F.R06_Uses_l1 (y3:Int):Nat→(List Int)→Int→Option (List Int)
 |0,_,_=>none
 |f+1,xs7,y8=>if y8≤y3 then(A.gd ((List.length (α:=Int) xs7+List.length (α:=Int) [y8])*8≤140737488355328) (A.gd (Z.R64 (y8+1)) ((F.R06_Uses_l1 y3 f) (xs7++[y8]) (y8+1))))else(some xs7)
def F.R06_Uses_j2 (y1:Int)(y3:Int):Option (List Int):=F.R06_Uses_l1 y3 A.FU [] y1
def F.R06_Uses (a0:Int):Option (List Int):=if a0=2 then(F.R06_Uses_j2 1 8)else(if a0=3 then(F.R06_Uses_j2 11 13)else(if a0=4 then(F.R06_Uses_j2 21 22)else(if a0=8 then(F.R06_Uses_j2 31 34)else(if a0=11 then(F.R06_Uses_j2 41 42)else(F.R06_Uses_j2 1 0)))))
def F.R06_number_j1 (a0:D30)(y3:Bool):Option Bool:=if y3=true then(some (bif decide ((1:Int)≤a0.2.1)then decide (a0.2.1≤1048576)else false))else(some (decide (a0.2.1=0)))
def F.R06_number_j2 (a0:D30)(y2:Bool):Option Bool:=if y2=true then(some (bif decide ((0:Int)≤a0.2.1)then decide (a0.2.1≤64)else false))else(if a0.1=6 then(F.R06_number_j1 a0 (decide (a0.1=6)))else(F.R06_number_j1 a0 (decide (a0.1=11))))
def F.R06_number (a0:D30):Option Bool:=if a0.1=3 then(F.R06_number_j2 a0 (decide (a0.1=3)))else(F.R06_number_j2 a0 (decide (a0.1=13)))
def F.R05_tail (a0:UInt8):Option Bool:=some (bif decide ((128:Int)≤(a0.toNat:Int))then decide ((a0.toNat:Int)≤191)else false)
end Go.Proofs.YtpdhaldfdeamdaaDoor
end
section
set_option linter.unusedVariables false
set_option linter.unusedSimpArgs false
set_option maxRecDepth 20000
set_option maxHeartbeats 8000000
set_option synthInstance.maxSize 1000000
set_option synthInstance.maxHeartbeats 400000
namespace Go.Proofs.YtpdhaldfdeamdaaDoor
open Go.RowKit
def F.R05_width_j1 (x2:UInt8)(y4:UInt8)(y7:Bool):Option Int:=if y7=true then(if(bif decide ((x2.toNat:Int)=240)then decide ((y4.toNat:Int)<144)else false)=true then(some 0)else(if(bif decide ((x2.toNat:Int)=244)then decide ((143:Int)<(y4.toNat:Int))else false)=true then(some 0)else(some 4)))else(some 0)
theorem eqq_R05_width_j1:True:=(fun _=>trivial) @F.R05_width_j1.eq_1
def F.R05_width_j2 (a0:ByteArray)(a1:Int)(x2:UInt8)(y4:UInt8)(y6:Bool):Option Int:=if y6=true then(if(bif decide ((x2.toNat:Int)=224)then decide ((y4.toNat:Int)<160)else false)=true then(some 0)else(if(bif decide ((x2.toNat:Int)=237)then decide ((159:Int)<(y4.toNat:Int))else false)=true then(some 0)else(some 3)))else(if(bif bif decide ((240:Int)≤(x2.toNat:Int))then decide ((x2.toNat:Int)≤244)else false then decide ((4:Int)≤(a0.size:Int)-a1)else false)=true then((F.R05_tail y4).bind fun r8=>(if r8=true then(A.gd (Z.R64 (a1+2)) ((A.ix a0.data.toList (a1+2)).bind fun x11=>((F.R05_tail x11).bind fun r13=>(if r13=true then(A.gd (Z.R64 (a1+3)) ((A.ix a0.data.toList (a1+3)).bind fun x16=>((F.R05_tail x16).bind fun r18=>(F.R05_width_j1 x2 y4 r18))))else(F.R05_width_j1 x2 y4 false)))))else(F.R05_width_j1 x2 y4 false)))else(F.R05_width_j1 x2 y4 false))
theorem eqq_R05_width_j2:True:=(fun _=>trivial) @F.R05_width_j2.eq_1
def F.R05_width_j3 (a0:ByteArray)(a1:Int)(x2:UInt8)(y4:UInt8)(y5:Bool):Option Int:=if y5=true then(some 2)else(if(bif bif decide ((224:Int)≤(x2.toNat:Int))then decide ((x2.toNat:Int)≤239)else false then decide ((3:Int)≤(a0.size:Int)-a1)else false)=true then((F.R05_tail y4).bind fun r20=>(if r20=true then(A.gd (Z.R64 (a1+2)) ((A.ix a0.data.toList (a1+2)).bind fun x23=>((F.R05_tail x23).bind fun r25=>(F.R05_width_j2 a0 a1 x2 y4 r25))))else(F.R05_width_j2 a0 a1 x2 y4 false)))else(F.R05_width_j2 a0 a1 x2 y4 false))
theorem eqq_R05_width_j3:True:=(fun _=>trivial) @F.R05_width_j3.eq_1
def F.R05_width_j4 (a0:ByteArray)(a1:Int)(x2:UInt8)(y4:UInt8):Option Int:=if(x2.toNat:Int)<128 then(some 1)else(if(bif bif decide ((194:Int)≤(x2.toNat:Int))then decide ((x2.toNat:Int)≤223)else false then decide ((2:Int)≤(a0.size:Int)-a1)else false)=true then((F.R05_tail y4).bind fun r27=>(F.R05_width_j3 a0 a1 x2 y4 r27))else(F.R05_width_j3 a0 a1 x2 y4 false))
theorem eqq_R05_width_j4:True:=(fun _=>trivial) @F.R05_width_j4.eq_1
def F.R05_width (a0:ByteArray)(a1:Int):Option Int:=A.gd (Z.R64 ((a0.size:Int)-a1)) ((A.ix a0.data.toList a1).bind fun x2=>(if(1:Int)<(a0.size:Int)-a1 then(A.gd (Z.R64 (a1+1)) ((A.ix a0.data.toList (a1+1)).bind fun x30=>(F.R05_width_j4 a0 a1 x2 x30)))else(F.R05_width_j4 a0 a1 x2 (0:UInt8))))
theorem eqq_R05_width:True:=(fun _=>trivial) @F.R05_width.eq_1
def F.R05_Valid_l1 (a0:ByteArray):Nat→Int→Option Bool
 |0,_=>none
 |f+1,y1=>if y1<(a0.size:Int)then((F.R05_width a0 y1).bind fun r4=>(if r4=0 then(some false)else(A.gd (Z.R64 (y1+r4)) ((F.R05_Valid_l1 a0 f) (y1+r4)))))else(some true)
def F.R05_Valid (a0:ByteArray):Option Bool:=F.R05_Valid_l1 a0 A.FU 0
def F.R05_Runes_j1 (k1:(List D153)→Int→Option (List D153))(xs3:List D153)(y4:Int)(y10:Int)(y12:Int):Option (List D153):=A.gd ((List.length (α:=D153) xs3+List.length (α:=D153) [(y4,y12)])*16≤140737488355328) (A.gd (Z.R64 (y4+y10)) (k1 (xs3++[(y4,y12)]) (y4+y10)))
theorem eqq_R05_Runes_j1:True:=(fun _=>trivial) @F.R05_Runes_j1.eq_1
def F.R05_Runes_l2 (a0:ByteArray):Nat→(List D153)→Int→Option (List D153)
 |0,_,_=>none
 |f+1,xs3,y4=>if y4<(a0.size:Int)then((F.R05_width a0 y4).bind fun r7=>(if r7=1 then((A.ix a0.data.toList y4).bind fun x19=>(F.R05_Runes_j1 (F.R05_Runes_l2 a0 f) xs3 y4 r7 (IntKind.i32.wrap ((x19.toNat:Int)))))else(if r7=2 then(A.gd (Z.R64 (y4+1)) ((A.ix a0.data.toList y4).bind fun x22=>(A.gd ((32:Int)≠0) ((A.ix a0.data.toList (y4+1)).bind fun x25=>(A.gd ((64:Int)≠0) (F.R05_Runes_j1 (F.R05_Runes_l2 a0 f) xs3 y4 r7 (IntKind.i32.wrap ((IntKind.i32.wrap ((IntKind.i32.wrap (Int.tmod (x22.toNat:Int) 32))*64))+(IntKind.i32.wrap (Int.tmod (x25.toNat:Int) 64))))))))))else(if r7=3 then(A.gd (Z.R64 (y4+1)∧Z.R64 (y4+2)) ((A.ix a0.data.toList y4).bind fun x29=>(A.gd ((16:Int)≠0) ((A.ix a0.data.toList (y4+1)).bind fun x32=>(A.gd ((64:Int)≠0) ((A.ix a0.data.toList (y4+2)).bind fun x35=>(A.gd ((64:Int)≠0) (F.R05_Runes_j1 (F.R05_Runes_l2 a0 f) xs3 y4 r7 (IntKind.i32.wrap ((IntKind.i32.wrap ((IntKind.i32.wrap ((IntKind.i32.wrap ((IntKind.i32.wrap (Int.tmod (x29.toNat:Int) 16))*64))+(IntKind.i32.wrap (Int.tmod (x32.toNat:Int) 64))))*64))+(IntKind.i32.wrap (Int.tmod (x35.toNat:Int) 64))))))))))))else(if r7=4 then(A.gd (Z.R64 (y4+1)∧Z.R64 (y4+2)∧Z.R64 (y4+3)) ((A.ix a0.data.toList y4).bind fun x39=>(A.gd ((8:Int)≠0) ((A.ix a0.data.toList (y4+1)).bind fun x42=>(A.gd ((64:Int)≠0) ((A.ix a0.data.toList (y4+2)).bind fun x45=>(A.gd ((64:Int)≠0) ((A.ix a0.data.toList (y4+3)).bind fun x48=>(A.gd ((64:Int)≠0) (F.R05_Runes_j1 (F.R05_Runes_l2 a0 f) xs3 y4 r7 (IntKind.i32.wrap ((IntKind.i32.wrap ((IntKind.i32.wrap ((IntKind.i32.wrap ((IntKind.i32.wrap ((IntKind.i32.wrap ((IntKind.i32.wrap (Int.tmod (x39.toNat:Int) 8))*64))+(IntKind.i32.wrap (Int.tmod (x42.toNat:Int) 64))))*64))+(IntKind.i32.wrap (Int.tmod (x45.toNat:Int) 64))))*64))+(IntKind.i32.wrap (Int.tmod (x48.toNat:Int) 64))))))))))))))else(F.R05_Runes_j1 (F.R05_Runes_l2 a0 f) xs3 y4 1 65533))))))else(some xs3)
def F.R05_Runes (a0:ByteArray):Option (List D153):=F.R05_Runes_l2 a0 A.FU [] 0
end Go.Proofs.YtpdhaldfdeamdaaDoor
end
section
set_option linter.unusedVariables false
set_option linter.unusedSimpArgs false
set_option maxRecDepth 20000
set_option maxHeartbeats 8000000
set_option synthInstance.maxSize 1000000
set_option synthInstance.maxHeartbeats 400000
namespace Go.Proofs.YtpdhaldfdeamdaaDoor
open Go.RowKit
def F.R06_text_j1 (y2:Bool):Option Bool:=some y2
def F.R06_text_j2 (y6:Bool):Option Bool:=some y6
def F.R06_text_j3 (a0:D30)(y5:Bool):Option Bool:=if y5=true then(if(a0.2.2.size:Int)≤4 then((F.R05_Valid a0.2.2).bind fun r7=>(if r7=true then((F.R05_Runes a0.2.2).bind fun r9=>(F.R06_text_j2 (decide (((r9).length:Int)=1))))else(F.R06_text_j2 false)))else(F.R06_text_j2 false))else(some (decide (a0.2.2=(ByteArray.mk #[]))))
theorem eqq_R06_text_j3:True:=(fun _=>trivial) @F.R06_text_j3.eq_1
def F.R06_text (a0:D30):Option Bool:=if a0.1=5 then(if(bif decide ((1:Int)≤(a0.2.2.size:Int))then decide ((a0.2.2.size:Int)≤16)else false)=true then((F.R05_Valid a0.2.2).bind fun r3=>(F.R06_text_j1 r3))else(F.R06_text_j1 false))else(if a0.1=12 then(F.R06_text_j3 a0 (decide (a0.1=12)))else(F.R06_text_j3 a0 (decide (a0.1=22))))
theorem eqq_R06_text:True:=(fun _=>trivial) @F.R06_text.eq_1
def F.R06_Check_j1 (k1:Int→Option Int)(y7:Int)(y10:Bool):Option Int:=if y10=true then(some 0)else(A.gd (Z.R64 (y7+1)) (k1 (y7+1)))
def F.R06_Check_l2 (a1:D30)(r2:(List Int)):Nat→Int→Option Int
 |0,_=>none
 |f+1,y7=>if y7<((r2).length:Int)then((A.ix r2 y7).bind fun x12=>(if x12=a1.1 then((F.R06_number (a1.1,a1.2.1,a1.2.2)).bind fun r17=>(if r17=true then((F.R06_text (a1.1,a1.2.1,a1.2.2)).bind fun r19=>(F.R06_Check_j1 (F.R06_Check_l2 a1 r2 f) y7 r19))else(F.R06_Check_j1 (F.R06_Check_l2 a1 r2 f) y7 false)))else(F.R06_Check_j1 (F.R06_Check_l2 a1 r2 f) y7 false)))else(some 60)
def F.R06_Check_j3 (a1:D30)(r2:(List Int))(y6:Bool):Option Int:=if y6=true then(some 0)else(F.R06_Check_l2 a1 r2 A.FU 0)
def F.R06_Check (a0:Int)(a1:D30):Option Int:=(F.R06_Uses a0).bind fun r2=>(if((r2).length:Int)=0 then(F.R06_Check_j3 a1 r2 (decide ((a1.1,a1.2.1,a1.2.2)=(0,0,ByteArray.mk #[]))))else(F.R06_Check_j3 a1 r2 false))
def F.R08_parts_j1 (k40:Int→Option Int)(y34:Int)(y61:Bool):Option Int:=if y61=true then(some 80)else(A.gd (Z.R64 (y34+1)) (k40 (y34+1)))
def F.R08_parts_l2 (k39:Int→Option Int)(a0:D23)(y31:Int):Nat→Int→Option Int
 |0,_=>none
 |f+1,y34=>(A.ix a0 y31).bind fun x37=>(if y34<((x37.2.2.1).length:Int)then((A.ix a0 y31).bind fun x44=>((A.ix x44.2.2.1 y34).bind fun x52=>((F.R08_index a0 x52).bind fun r58=>(if r58<0 then(F.R08_parts_j1 (F.R08_parts_l2 k39 a0 y31 f) y34 true)else((A.ix a0 r58).bind fun x63=>(F.R08_parts_j1 (F.R08_parts_l2 k39 a0 y31 f) y34 (decide (x63.2.1=15))))))))else(A.gd (Z.R64 (y31+1)) (k39 (y31+1))))
def F.R08_parts_l3 (a0:D23):Nat→Int→Option Int
 |0,_=>none
 |f+1,y31=>if y31<((a0).length:Int)then(F.R08_parts_l2 (F.R08_parts_l3 a0 f) a0 y31 A.FU 0)else(some 0)
def F.R08_parts_l4 (a0:D23):Nat→Int→Option Int
 |0,_=>none
 |f+1,y8=>if y8<((a0).length:Int)then((A.ix a0 y8).bind fun x11=>((A.ix a0 y8).bind fun x19=>((F.R06_Check x11.2.1 (x19.2.2.2.1.1,x19.2.2.2.1.2.1,x19.2.2.2.1.2.2)).bind fun r27=>(if r27≠0 then(some 60)else(A.gd (Z.R64 (y8+1)) ((F.R08_parts_l4 a0 f) (y8+1)))))))else(F.R08_parts_l3 a0 A.FU 0)
def F.R08_parts_l5 (a0:D23):Nat→Int→Option Int
 |0,_=>none
 |f+1,y2=>if y2<((a0).length:Int)then((F.R08_own a0 y2).bind fun r5=>(if(!r5)=true then(some 80)else(A.gd (Z.R64 (y2+1)) ((F.R08_parts_l5 a0 f) (y2+1)))))else(F.R08_parts_l4 a0 A.FU 0)
def F.R08_parts (a0:D23):Option Int:=if(32:Int)<((a0).length:Int)then(some 80)else(F.R08_parts_l5 a0 A.FU 0)
def F.R08_ready_j1 (k1:Int→Option Bool)(y3:Int)(y6:Bool):Option Bool:=if y6=true then(some false)else(A.gd (Z.R64 (y3+1)) (k1 (y3+1)))
def F.R08_ready_l2 (a0:D23)(a1:D32)(a2:(List Bool)):Nat→Int→Option Bool
 |0,_=>none
 |f+1,y3=>if y3<((a1.2.2.1).length:Int)then(if a1.2.1≠14 then((A.ix a1.2.2.1 y3).bind fun x8=>((F.R08_index a0 x8).bind fun r14=>((A.ix a2 r14).bind fun x17=>(F.R08_ready_j1 (F.R08_ready_l2 a0 a1 a2 f) y3 (!x17)))))else(F.R08_ready_j1 (F.R08_ready_l2 a0 a1 a2 f) y3 false))else(some true)
def F.R08_ready (a0:D23)(a1:D32)(a2:(List Bool)):Option Bool:=F.R08_ready_l2 a0 a1 a2 A.FU 0
end Go.Proofs.YtpdhaldfdeamdaaDoor
end
section
set_option linter.unusedVariables false
set_option linter.unusedSimpArgs false
set_option maxRecDepth 20000
set_option maxHeartbeats 8000000
set_option synthInstance.maxSize 1000000
set_option synthInstance.maxHeartbeats 400000
namespace Go.Proofs.YtpdhaldfdeamdaaDoor
open Go.RowKit
def F.R08_order_j1 (k5:Int→Int→Option ((List Int)×Bool))(y14:Int)(y17:Int):Option ((List Int)×Bool):=A.gd (Z.R64 (y14+1)) (k5 y17 (y14+1))
def F.R08_order_j2 (k5:Int→Int→Option ((List Int)×Bool))(y12:Int)(y14:Int)(y20:Bool):Option ((List Int)×Bool):=if y20=true then(F.R08_order_j1 k5 y14 y14)else(F.R08_order_j1 k5 y14 y12)
def F.R08_order_l3 (k4:(List Bool)→(List Int)→Option ((List Int)×Bool))(a0:D23)(xs6:List Bool)(xs10:List Int):Nat→Int→Int→Option ((List Int)×Bool)
 |0,_,_=>none
 |f+1,y12,y14=>if(bif decide (y14<((a0).length:Int))then decide (y14<((a0).length:Int))else false)=true then(if y12<0 then((A.ix xs6 y14).bind fun x21=>(if(!x21)=true then((A.ix a0 y14).bind fun x26=>((F.R08_ready a0 (x26.1,x26.2.1,x26.2.2.1,(x26.2.2.2.1.1,x26.2.2.2.1.2.1,x26.2.2.2.1.2.2),x26.2.2.2.2.1,x26.2.2.2.2.2.1,x26.2.2.2.2.2.2) xs6).bind fun r34=>(F.R08_order_j2 (F.R08_order_l3 k4 a0 xs6 xs10 f) y12 y14 r34)))else(F.R08_order_j2 (F.R08_order_l3 k4 a0 xs6 xs10 f) y12 y14 false)))else(F.R08_order_j2 (F.R08_order_l3 k4 a0 xs6 xs10 f) y12 y14 false))else(if y12<0 then(some ([],false))else((A.ix xs6 y12).bind fun x36=>(A.gd ((List.length (α:=Int) xs10+List.length (α:=Int) [y12])*8≤140737488355328) (k4 (xs6.set y12.toNat true) (xs10++[y12])))))
def F.R08_order_l4 (a0:D23):Nat→(List Bool)→(List Int)→Option ((List Int)×Bool)
 |0,_,_=>none
 |f+1,xs6,xs10=>if((xs10).length:Int)<((a0).length:Int)then(F.R08_order_l3 (F.R08_order_l4 a0 f) a0 xs6 xs10 A.FU (-1) 0)else(some (xs10,true))
def F.R08_order (a0:D23):Option ((List Int)×Bool):=A.gd (1*((a0).length)≤140737488355328) (F.R08_order_l4 a0 A.FU (List.replicate ((a0).length) (false:Bool)) [])
def F.R08_depth_j1 (y6:Int):Option Int:=some y6
def F.R08_depth_j2 (y4:Int):Option Int:=if(4:Int)<y4 then(F.R08_depth_j1 (-1))else(F.R08_depth_j1 y4)
def F.R08_depth_j3 (y2:Int)(y23:Bool):Option Int:=if y23=true then(if y2≠0 then(F.R08_depth_j2 (-1))else(F.R08_depth_j2 y2))else(F.R08_depth_j2 y2)
def F.R08_depth_j4 (a0:D32)(a1:(List Int))(y2:Int)(y10:Bool):Option Int:=if y10=true then((A.ix a1 0).bind fun x11=>((A.ix a1 1).bind fun x17=>(if x11≠x17 then(F.R08_depth_j2 (-1))else(F.R08_depth_j2 y2))))else(if a0.2.1=11 then(F.R08_depth_j3 y2 (decide (a0.2.1=11)))else(if a0.2.1=16 then(F.R08_depth_j3 y2 (decide (a0.2.1=16)))else(F.R08_depth_j3 y2 (decide (a0.2.1=15)))))
theorem eqq_R08_depth_j4:True:=(fun _=>trivial) @F.R08_depth_j4.eq_1
def F.R08_depth_j5 (a0:D32)(a1:(List Int))(y2:Int):Option Int:=if a0.2.1=14 then(F.R08_depth_j2 a0.2.2.2.2.2.2)else(if a0.2.1=12 then(A.gd (Z.R64 (y2+1)) (F.R08_depth_j2 (y2+1)))else(if a0.2.1=13 then(A.gd (Z.R64 (y2-1)) (F.R08_depth_j2 (y2-1)))else(if a0.2.1=5 then(F.R08_depth_j4 a0 a1 y2 (decide (a0.2.1=5)))else(F.R08_depth_j4 a0 a1 y2 (decide (a0.2.1=9))))))
theorem eqq_R08_depth_j5:True:=(fun _=>trivial) @F.R08_depth_j5.eq_1
def F.R08_depth (a0:D32)(a1:(List Int)):Option Int:=if(0:Int)<((a1).length:Int)then((A.ix a1 0).bind fun x24=>(F.R08_depth_j5 a0 a1 x24))else(F.R08_depth_j5 a0 a1 0)
end Go.Proofs.YtpdhaldfdeamdaaDoor
end
section
set_option linter.unusedVariables false
set_option linter.unusedSimpArgs false
set_option maxRecDepth 20000
set_option maxHeartbeats 8000000
set_option synthInstance.maxSize 1000000
set_option synthInstance.maxHeartbeats 400000
namespace Go.Proofs.YtpdhaldfdeamdaaDoor
open Go.RowKit
def F.R08_depths_l1 (k5:(List Int)→Int→Option ((List Int)×Bool))(a0:D23)(a1:(List Int))(xs6:List Int)(y8:Int)(x17:D32):Nat→(List Int)→Int→Option ((List Int)×Bool)
 |0,_,_=>none
 |f+1,xs28,y29=>if y29<((x17.2.2.1).length:Int)then((A.ix x17.2.2.1 y29).bind fun x32=>((F.R08_index a0 x32).bind fun r38=>((A.ix xs6 r38).bind fun x41=>(A.gd ((List.length (α:=Int) xs28+List.length (α:=Int) [x41])*8≤140737488355328) (A.gd (Z.R64 (y29+1)) ((F.R08_depths_l1 k5 a0 a1 xs6 y8 x17 f) (xs28++[x41]) (y29+1)))))))else((A.ix a1 y8).bind fun x51=>((F.R08_depth (x17.1,x17.2.1,x17.2.2.1,(x17.2.2.2.1.1,x17.2.2.2.1.2.1,x17.2.2.2.1.2.2),x17.2.2.2.2.1,x17.2.2.2.2.2.1,x17.2.2.2.2.2.2) xs28).bind fun r57=>((A.ix xs6 x51).bind fun x60=>((A.ix a1 y8).bind fun x65=>((A.ix (xs6.set x51.toNat r57) x65).bind fun x70=>(if x70<0 then(some ([],false))else(A.gd (Z.R64 (y8+1)) (k5 (xs6.set x51.toNat r57) (y8+1)))))))))
def F.R08_depths_j2 (k7:Int→Option ((List Int)×Bool))(y76:Int)(y87:Bool):Option ((List Int)×Bool):=if y87=true then(some ([],false))else(A.gd (Z.R64 (y76+1)) (k7 (y76+1)))
def F.R08_depths_l3 (a0:D23)(xs6:List Int):Nat→Int→Option ((List Int)×Bool)
 |0,_=>none
 |f+1,y76=>if y76<((a0).length:Int)then((A.ix a0 y76).bind fun x79=>(if x79.2.1=14 then((A.ix x79.2.2.1 0).bind fun x89=>((F.R08_index a0 x89).bind fun r95=>((A.ix xs6 r95).bind fun x98=>(F.R08_depths_j2 (F.R08_depths_l3 a0 xs6 f) y76 (decide (x98≠x79.2.2.2.2.2.2))))))else(F.R08_depths_j2 (F.R08_depths_l3 a0 xs6 f) y76 false)))else(some (xs6,true))
def F.R08_depths_l4 (a0:D23)(a1:(List Int)):Nat→(List Int)→Int→Option ((List Int)×Bool)
 |0,_,_=>none
 |f+1,xs6,y8=>if y8<((a1).length:Int)then((A.ix a1 y8).bind fun x11=>((A.ix a0 x11).bind fun x17=>(F.R08_depths_l1 (F.R08_depths_l4 a0 a1 f) a0 a1 xs6 y8 x17 A.FU [] 0)))else(F.R08_depths_l3 a0 xs6 A.FU 0)
def F.R08_depths (a0:D23)(a1:(List Int)):Option ((List Int)×Bool):=A.gd (8*((a0).length)≤140737488355328) (F.R08_depths_l4 a0 a1 A.FU (List.replicate ((a0).length) (0:Int)) 0)
def F.R08_on_l1 (a0:(List D42))(a1:D42):Nat→Int→Option Bool
 |0,_=>none
 |f+1,y2=>if y2<((a0).length:Int)then((A.ix a0 y2).bind fun x5=>(if(x5.1,x5.2)=(a1.1,a1.2)then(some true)else(A.gd (Z.R64 (y2+1)) ((F.R08_on_l1 a0 a1 f) (y2+1)))))else(some false)
def F.R08_on (a0:(List D42))(a1:D42):Option Bool:=F.R08_on_l1 a0 a1 A.FU 0
def F.R08_at_l1 (a0:(List D60))(a1:D42):Nat→Int→Option Int
 |0,_=>none
 |f+1,y2=>if y2<((a0).length:Int)then((A.ix a0 y2).bind fun x5=>(if(x5.1.1,x5.1.2)=(a1.1,a1.2)then((A.ix a0 y2).bind fun x11=>(some x11.2))else(A.gd (Z.R64 (y2+1)) ((F.R08_at_l1 a0 a1 f) (y2+1)))))else(some (-1))
def F.R08_at (a0:(List D60))(a1:D42):Option Int:=F.R08_at_l1 a0 a1 A.FU 0
def F.R08_open (a0:D23)(a1:(List D60))(a2:D46)(a3:Int):Option Bool:=(F.R08_Find a0 a2.1.1).bind fun r3=>((F.R08_at a1 (a2.2.1.1,a2.2.1.2)).bind fun r16=>(if a3≤r16 then(some (bif bif decide (r3.1.2.1≠14)then true else decide (r3.1.2.2.2.2.2.2≠a3)then true else decide (a2.1.2=2)))else(some false)))
theorem eqq_R08_open:True:=(fun _=>trivial) @F.R08_open.eq_1
end Go.Proofs.YtpdhaldfdeamdaaDoor
end
section
set_option linter.unusedVariables false
set_option linter.unusedSimpArgs false
set_option maxRecDepth 20000
set_option maxHeartbeats 8000000
set_option synthInstance.maxSize 1000000
set_option synthInstance.maxHeartbeats 400000
namespace Go.Proofs.YtpdhaldfdeamdaaDoor
open Go.RowKit
def F.R08_round_j1 (k4:(List D42)→(List D42)→Int→Option Bool)(y20:Int)(xs25:List D42)(xs28:List D42):Option Bool:=A.gd (Z.R64 (y20+1)) (k4 xs25 xs28 (y20+1))
def F.R08_round_j2 (k4:(List D42)→(List D42)→Int→Option Bool)(a2:(List D46))(xs16:List D42)(xs19:List D42)(y20:Int)(y30:Bool):Option Bool:=if y30=true then((A.ix a2 y20).bind fun x31=>(A.gd ((List.length (α:=D42) xs16+List.length (α:=D42) [(x31.2.1.1,x31.2.1.2)])*16≤140737488355328) ((A.ix a2 y20).bind fun x40=>(A.gd ((List.length (α:=D42) xs19+List.length (α:=D42) [(x40.2.1.1,x40.2.1.2)])*16≤140737488355328) (F.R08_round_j1 k4 y20 (xs16++[(x31.2.1.1,x31.2.1.2)]) (xs19++[(x40.2.1.1,x40.2.1.2)]))))))else(F.R08_round_j1 k4 y20 xs16 xs19)
theorem eqq_R08_round_j2:True:=(fun _=>trivial) @F.R08_round_j2.eq_1
def F.R08_round_l3 (k3:(List D42)→(List D42)→Int→Option Bool)(a0:D23)(a1:(List D60))(a2:(List D46))(a3:D60)(y11:Int):Nat→(List D42)→(List D42)→Int→Option Bool
 |0,_,_,_=>none
 |f+1,xs16,xs19,y20=>if y20<((a2).length:Int)then((A.ix a2 y20).bind fun x49=>((A.ix xs19 y11).bind fun x55=>(if(x49.1.1,x49.1.2)=(x55.1,x55.2)then((A.ix a2 y20).bind fun x60=>((F.R08_open a0 a1 ((x60.1.1,x60.1.2),(x60.2.1.1,x60.2.1.2),(x60.2.2.1,x60.2.2.2.1,x60.2.2.2.2.1,x60.2.2.2.2.2.1,(x60.2.2.2.2.2.2.1,x60.2.2.2.2.2.2.2.1,x60.2.2.2.2.2.2.2.2.1,x60.2.2.2.2.2.2.2.2.2))) a3.2).bind fun r66=>(if r66=true then((A.ix a2 y20).bind fun x68=>((F.R08_on xs16 (x68.2.1.1,x68.2.1.2)).bind fun r74=>(F.R08_round_j2 (F.R08_round_l3 k3 a0 a1 a2 a3 y11 f) a2 xs16 xs19 y20 (!r74))))else(F.R08_round_j2 (F.R08_round_l3 k3 a0 a1 a2 a3 y11 f) a2 xs16 xs19 y20 false))))else(F.R08_round_j2 (F.R08_round_l3 k3 a0 a1 a2 a3 y11 f) a2 xs16 xs19 y20 false))))else(A.gd (Z.R64 (y11+1)) (k3 xs16 xs19 (y11+1)))
def F.R08_round_l4 (a0:D23)(a1:(List D60))(a2:(List D46))(a3:D60):Nat→(List D42)→(List D42)→Int→Option Bool
 |0,_,_,_=>none
 |f+1,xs7,xs10,y11=>if y11<((xs10).length:Int)then(F.R08_round_l3 (F.R08_round_l4 a0 a1 a2 a3 f) a0 a1 a2 a3 y11 A.FU xs7 xs10 0)else((F.R08_on xs7 (a3.1.1,a3.1.2)).bind fun r77=>(some r77))
def F.R08_round (a0:D23)(a1:(List D60))(a2:(List D46))(a3:D60):Option Bool:=F.R08_round_l4 a0 a1 a2 a3 A.FU [] [(a3.1.1,a3.1.2)] 0
def F.R08_whole_l1 (a0:D23)(r5:(List Int)×Bool)(r9:(List Int)×Bool)(r13:(List D60))(r17:(List D46)):Nat→Int→Option ((List Int)×(List Int)×Int)
 |0,_=>none
 |f+1,y21=>if y21<((r13).length:Int)then((A.ix r13 y21).bind fun x24=>((F.R08_round a0 r13 r17 ((x24.1.1,x24.1.2),x24.2)).bind fun r29=>(if r29=true then(some ([],[],81))else(A.gd (Z.R64 (y21+1)) ((F.R08_whole_l1 a0 r5 r9 r13 r17 f) (y21+1))))))else(some (r5.1,r9.1,0))
def F.R08_whole (a0:D23):Option ((List Int)×(List Int)×Int):=(F.R08_parts a0).bind fun r2=>(if r2≠0 then(some ([],[],r2))else((F.R08_order a0).bind fun r5=>(if(!r5.2)=true then(some ([],[],81))else((F.R08_depths a0 r5.1).bind fun r9=>(if(!r9.2)=true then(some ([],[],80))else((F.R08_spots a0 r9.1).bind fun r13=>((F.R08_edges a0 r13).bind fun r17=>(F.R08_whole_l1 a0 r5 r9 r13 r17 A.FU 0))))))))
theorem eqq_R08_whole:True:=(fun _=>trivial) @F.R08_whole.eq_1
end Go.Proofs.YtpdhaldfdeamdaaDoor
end
section
set_option linter.unusedVariables false
set_option linter.unusedSimpArgs false
set_option maxRecDepth 20000
set_option maxHeartbeats 8000000
set_option synthInstance.maxSize 1000000
set_option synthInstance.maxHeartbeats 400000
namespace Go.Proofs.YtpdhaldfdeamdaaDoor
open Go.RowKit
end Go.Proofs.YtpdhaldfdeamdaaDoor
end
section
set_option linter.unusedVariables false
set_option linter.unusedSimpArgs false
namespace Go.A
open Go.RowKit Go.Z
section
variable {C:Cx}{l:List (Nat×Value)}{H:List (Nat×Res)}{X:Act→World→Prop}
end
section
variable {r:Option Nat}{P:Program}{ops:Array Oper}{Q:Exit→Act→World→Prop}{rest lst:List Oper}{C:Cx}{l:List (Nat×Value)}{H:List (Nat×Res)}{d:Nat}{T:TypeId}{pos:String}{af:Array Edge}
end
end Go.A
end
section
set_option linter.unusedVariables false
set_option linter.unusedSimpArgs false
namespace Go.A
open Go.RowKit Go.Z
def b8 (x:Int):UInt8:=UInt8.ofNat (x%256).toNat
def Fz (fz:Nat×Nat)(n:Nat):Prop:=∀j,j<n→¬(fz.1≤j∧j<fz.2)
def Bs (e:TypeId)(c:Nat)(xs:List UInt8):Obj→Prop:=fun o=>∃(cur:Array Value) (fz:Nat×Nat),o=.cells cur e fz∧Fz fz c∧cur.size=c∧c≤maxLen∧xs.length≤c∧∀(j:Nat) (b:UInt8),xs[j]?=some b→cur[j]?=some (.int .u8 (b.toNat:Int))
theorem Bs.cell {w:World}{g:Nat}{e:TypeId}{c:Nat}{xs:List UInt8}{o:Obj}(ho:w.heap[g]?=some o)(h:Bs e c xs o){j:Nat}{b:UInt8}(hj:xs[j]?=some b):w.cell? ⟨g,j,none⟩=some (.int .u8 (b.toNat:Int)):=by
 obtain⟨cur,fz,rfl,_,_,_,_,h5⟩:=h
 rw[cell_of_row w g j cur e _ ho]
 exact h5 j b hj
section
variable {r:Option Nat}{P:Program}{ops:Array Oper}{Q:Exit→Act→World→Prop}{rest:List Oper}{C:Cx}{l:List (Nat×Value)}{H:List (Nat×Res)}{d:Nat}{T:TypeId}{pos:String}{af:Array Edge}
end
end Go.A
end
section
set_option linter.unusedVariables false
set_option linter.unusedSimpArgs false
namespace Go.A
open Go.RowKit Go.Z Go.Shelf Go.Proofs
section
variable {r:Option Nat}{P:Program}{Q:Exit→Act→World→Prop}{C:Cx}{l:List (Nat×Value)}{H:List (Nat×Res)}{ops:Array Oper}{rest:List Oper}{T:TypeId}{pos:String}{af:Array Edge}{d:Nat}
end
end Go.A
end
section
set_option linter.unusedVariables false
set_option linter.unusedSimpArgs false
namespace Go.Z
open Go.RowKit Go.Lib
section
variable {P:Program}{a:Act}{w:World}{d:Option Tmp}{T:TypeId}{pos:String}{af:Array Edge}{gd:Option (Nat×Bool)}
end
end Go.Z
namespace Go.A
open Go.RowKit Go.Z
theorem arr4 {τ:Type}{a b c d y:τ}{i:Int}{Q:Int→Prop}(h:ix [a,b,c,d] i=some y)(h0:Q 0)(h1:Q 1)(h2:Q 2)(h3:Q 3):Q i:=by
 obtain⟨p,q⟩:=ix_ok h
 simp only[List.length_cons,List.length_nil]at q
 have:i=0∨i=1∨i=2∨i=3:=by omega
 rcases this with rfl|rfl|rfl|rfl<;>assumption
theorem ite_has {k:IntKind}{p:Prop}[Decidable p]{x y:Int}(hx:k.has x)(hy:k.has y):k.has (if p then x else y):=by split<;>assumption
section
variable {r:Option Nat}{P:Program}{ops:Array Oper}{Q:Exit→Act→World→Prop}{rest lst:List Oper}{C:Cx}{l:List (Nat×Value)}{H:List (Nat×Res)}{d:Nat}{T:TypeId}{pos:String}{af:Array Edge}
theorem AL.stb (k:Nat)(js:List Nat){τ:Type}{vals:List τ}{v0:τ}{t bt:TypeId}{x y:Operand}{g o:Nat}{i:Int}{cs cs':List Value}{v:Value}(hi:ix vals i=some v0)(hc:cs'=cs.set (o+i.toNat*1) v)
  (h:AL r P ops Q rest C l ((k,.blk g bt cs')::ded js H))
  (hb:hk H k=some (.blk g bt cs):=by rfl) (hx:ev l x=some (.pointer (some ⟨g,o+i.toNat*1,none⟩)):=by rfl) (hy:ev l y=some v:=by rfl) (hS:szB P t=some 1:=by kernel_rfl)
  (hv:v.cells=[v].toArray:=by rfl) (ho:Nat.ble (o+vals.length) cs.length=true:=by rfl) (h1:v.oneCell'=true:=by rfl) (hj:hng [k] js H=true:=by kernel_rfl):
  AL r P ops Q (⟨none,.store t x y,T,pos,af,none⟩::rest) C l H:=fun a w hf hh=>by
 obtain⟨p,q⟩:=ix_ok hi
 have ho:=Nat.le_of_ble_eq_true ho
 have hlt:o+i.toNat*1<cs.length:=by omega
 refine Z.st_store (new:=[v]) (cs':=cs') hf (hh.hold k _ hb) hx hy (szB_run hS) hv rfl (Nat.ble_eq_true_of_le hlt) (fun u hu=>by simp at hu;subst hu;exact h1) ?_ fun w' a' hs hb' hch hf'=>
  h a' w' hf' (Hp.dd (hh.upd hch (fun b hb2=>⟨_,hb,hb2⟩) (fun b hb2=>.inl ⟨_,hb,hb2⟩) (fun j hj=>by cases hj) fun _ _ _ _ _ _ _=>hb') hj)
 rw[hc,List.set_eq_take_append_cons_drop,if_pos hlt,List.append_assoc];rfl
theorem Row.drop {t:Ty}{w:World}{F G:Nat→Prop}{A:Option Addr}{c u:Nat}{xs:List t.den}(h:Row t w F G A c xs)(hu:u≤xs.length):Row t w F G (cutA A c u t.size) (c-u) (xs.drop u):=by
 obtain⟨h2,h3,cells,h4,h5,h6⟩:=h
 refine⟨by rw[List.length_drop];omega,by omega,cells.drop (u*t.size),by rw[List.length_drop,List.length_drop,h4,Nat.sub_mul],?_,fun i x hi=>?_⟩
 ·rw[List.length_drop]
  by_cases hz:xs.length-u=0
  ·exact .inl hz
  ·rcases h5 with h5|⟨b,o,rfl,hb,hc⟩
   ·omega
   ·refine .inr ⟨b,o+u*t.size,by unfold cutA;rw[if_neg (by omega),Option.map_some,Addr.add_lit],hb,fun j v hv=>?_⟩
    rw[List.getElem?_drop]at hv
    rw[Nat.add_assoc];exact hc _ v hv
 ·rw[List.getElem?_drop]at hi
  rw[List.drop_drop,←Nat.add_mul]
  exact h6 _ x hi
end
section
variable {C:Cx}{l:List (Nat×Value)}{H:List (Nat×Res)}{P:Program}
theorem pkb {X:Act→World→Prop}(k kn:Nat){τ:Type}(f:τ→Value)(vals:List τ)(o:Nat){bt:TypeId}{g:Nat}{cs:List Value}{i:Int}{v:τ}(hi:ix vals i=some v)
  (h: ∀a w,Fr a C.n C.ds l→Hp C ((kn,.el (some k) g (o+i.toNat*1) [f v])::H) w→X a w)
  (hb:hk H k=some (.blk g bt cs):=by rfl) (hcs:(cs.drop o).take vals.length=vals.map f:=by rfl) (hn:hk H kn=none:=by kernel_rfl): ∀a w,Fr a C.n C.ds l→Hp C H w→X a w:=fun a w hf hh=>by
 obtain⟨j,rfl,hj⟩:=ix_some hi
 have hB:Blk w g bt cs:=hh.hold k _ hb
 refine h a w hf (hh.add hn rfl (fun i hi r hr=>by
   simp only[Res.ref,Option.some.injEq]at hi;subst hi;rw[hb]at hr;injection hr with hr;subst hr;rfl) ⟨fun q u hu=>?_,hB.lt,⟨_,hb,by simp[Res.bl]⟩⟩)
 cases q with
 |succ q=>simp at hu
 |zero=>
  simp only[List.getElem?_cons_zero,Option.some.injEq]at hu
  subst hu
  rw[Addr.add_lit,Nat.add_zero,hB.cell,Int.toNat_natCast,Nat.mul_one]
  have hlt:=(List.getElem?_eq_some_iff.1 hj).1
  have h3:((cs.drop o).take vals.length)[j]?=some (f v):=by rw[hcs,List.getElem?_map,hj];rfl
  rw[List.getElem?_take_of_lt hlt,List.getElem?_drop]at h3
  exact h3
end
end Go.A
end
section
set_option linter.unusedVariables false
set_option linter.unusedSimpArgs false
set_option maxRecDepth 20000
set_option maxHeartbeats 8000000
set_option synthInstance.maxSize 1000000
set_option synthInstance.maxHeartbeats 400000
namespace Go.Proofs.YtpdhaldfdeamdaaDoor
open Go.RowKit
def F.R02_Then_j1 (k3:Int→Int→Int→Int→Int→Int→Int→Int→Int→Option (D44×Int))(y11:Int)(y13:Int)(y15:Int)(y17:Int)(y27:Int)(y35:Int)(y37:Int)(y39:Int)(y41:Int):Option (D44×Int):=A.gd (Z.R64 (y17+1)) (A.gd (Z.R64 (y27+1)) (k3 y11 y13 y15 (y17+1) y35 y37 y39 y41 (y27+1)))
def F.R02_Then_l2 (a1:D44):Nat→Int→Int→Int→Int→Int→Int→Int→Int→Int→Option (D44×Int)
 |0,_,_,_,_,_,_,_,_,_=>none
 |f+1,y51,y53,y55,y57,y59,y61,y63,y65,y67=>if y67<a1.2.2.2.1 then((A.ix [a1.2.2.2.2.1,a1.2.2.2.2.2.1,a1.2.2.2.2.2.2.1,a1.2.2.2.2.2.2.2] y67).bind fun x70=>((A.ix [y59,y61,y63,y65] y57).bind fun x72=>(A.gd (Z.R64 (y57+1)) (A.gd (Z.R64 (y67+1)) ((F.R02_Then_l2 a1 f) y51 y53 y55 (y57+1) (if y57=0 then x70 else y59) (if y57=1 then x70 else y61) (if y57=2 then x70 else y63) (if y57=3 then x70 else y65) (y67+1))))))else((F.R02_Check (y51,y53,y55,y57,(y59,y61,y63,y65))).bind fun r76=>(if r76≠0 then(some ((0,0,0,0,(0,0,0,0)),12))else(some ((y51,y53,y55,y57,(y59,y61,y63,y65)),0))))
def F.R02_Then_l3 (a0:D44)(a1:D44):Nat→Int→Int→Int→Int→Int→Int→Int→Int→Int→Option (D44×Int)
 |0,_,_,_,_,_,_,_,_,_=>none
 |f+1,y11,y13,y15,y17,y19,y21,y23,y25,y27=>if y27<a1.2.1 then(A.gd (Z.R64 (y27-a0.2.1)) ((A.ix [a0.2.2.2.2.1,a0.2.2.2.2.2.1,a0.2.2.2.2.2.2.1,a0.2.2.2.2.2.2.2] (y27-a0.2.1)).bind fun x31=>((A.ix [y19,y21,y23,y25] y17).bind fun x33=>(A.gd (Z.R64 (a1.2.1-1)) (if y27=a1.2.1-1 then((A.ix [(if y17=0 then x31 else y19),(if y17=1 then x31 else y21),(if y17=2 then x31 else y23),(if y17=3 then x31 else y25)] y17).bind fun x46=>(A.gd (Z.R64 (x46+a1.2.2.1)) ((A.ix [(if y17=0 then x31 else y19),(if y17=1 then x31 else y21),(if y17=2 then x31 else y23),(if y17=3 then x31 else y25)] y17).bind fun x49=>(F.R02_Then_j1 (F.R02_Then_l3 a0 a1 f) y11 y13 y15 y17 y27 (if y17=0 then x46+a1.2.2.1 else(if y17=0 then x31 else y19)) (if y17=1 then x46+a1.2.2.1 else(if y17=1 then x31 else y21)) (if y17=2 then x46+a1.2.2.1 else(if y17=2 then x31 else y23)) (if y17=3 then x46+a1.2.2.1 else(if y17=3 then x31 else y25))))))else(F.R02_Then_j1 (F.R02_Then_l3 a0 a1 f) y11 y13 y15 y17 y27 (if y17=0 then x31 else y19) (if y17=1 then x31 else y21) (if y17=2 then x31 else y23) (if y17=3 then x31 else y25)))))))else(F.R02_Then_l2 a1 A.FU y11 y13 y15 y17 y19 y21 y23 y25 0)
def F.R02_Then_j4 (a0:D44)(a1:D44)(y9:Int):Option (D44×Int):=F.R02_Then_l3 a0 a1 A.FU a0.1 (min a0.2.1 a1.2.1) y9 0 0 0 0 0 a0.2.1
def F.R02_Then_j5 (a0:D44)(a1:D44)(y7:Int):Option (D44×Int):=if a1.2.1≤a0.2.1 then(A.gd (Z.R64 (y7+a1.2.2.1)) (F.R02_Then_j4 a0 a1 (y7+a1.2.2.1)))else(F.R02_Then_j4 a0 a1 y7)
def F.R02_Then_j6 (a0:D44)(a1:D44)(y4:Bool):Option (D44×Int):=if y4=true then(some ((0,0,0,0,(0,0,0,0)),20))else(A.gd (Z.R64 (a0.2.1+a0.2.2.2.1)) (if a0.2.1+a0.2.2.2.1≠a1.1 then(some ((0,0,0,0,(0,0,0,0)),11))else(if a0.2.1≤a1.2.1 then(F.R02_Then_j5 a0 a1 a0.2.2.1)else(F.R02_Then_j5 a0 a1 0))))
def F.R02_Then (a0:D44)(a1:D44):Option (D44×Int):=(F.R02_Check (a0.1,a0.2.1,a0.2.2.1,a0.2.2.2.1,(a0.2.2.2.2.1,a0.2.2.2.2.2.1,a0.2.2.2.2.2.2.1,a0.2.2.2.2.2.2.2))).bind fun r80=>(if r80≠0 then(F.R02_Then_j6 a0 a1 true)else((F.R02_Check (a1.1,a1.2.1,a1.2.2.1,a1.2.2.2.1,(a1.2.2.2.2.1,a1.2.2.2.2.2.1,a1.2.2.2.2.2.2.1,a1.2.2.2.2.2.2.2))).bind fun r83=>(F.R02_Then_j6 a0 a1 (decide (r83≠0)))))
theorem R02_Then_ok (a0:D44)(a1:D44)(h0_:IntKind.i64.has a0.1)(h1_:IntKind.i64.has a0.2.1)(h2_:IntKind.i64.has a0.2.2.1)(h3_:IntKind.i64.has a0.2.2.2.1)(h4_:IntKind.i64.has a0.2.2.2.2.1)(h5_:IntKind.i64.has a0.2.2.2.2.2.1)(h6_:IntKind.i64.has a0.2.2.2.2.2.2.1)(h7_:IntKind.i64.has a0.2.2.2.2.2.2.2)(h8_:IntKind.i64.has a1.1)(h9_:IntKind.i64.has a1.2.1)(h10_:IntKind.i64.has a1.2.2.1)(h11_:IntKind.i64.has a1.2.2.2.1)(h12_:IntKind.i64.has a1.2.2.2.2.1)(h13_:IntKind.i64.has a1.2.2.2.2.2.1)(h14_:IntKind.i64.has a1.2.2.2.2.2.2.1)(h15_:IntKind.i64.has a1.2.2.2.2.2.2.2)(r:D44×Int)(hF:F.R02_Then a0 a1=some r):
    A.Ct Tryd.prog 13 [.agg #[.int .i64 a0.1,.int .i64 a0.2.1,.int .i64 a0.2.2.1,.int .i64 a0.2.2.2.1,.int .i64 a0.2.2.2.2.1,.int .i64 a0.2.2.2.2.2.1,.int .i64 a0.2.2.2.2.2.2.1,.int .i64 a0.2.2.2.2.2.2.2],.agg #[.int .i64 a1.1,.int .i64 a1.2.1,.int .i64 a1.2.2.1,.int .i64 a1.2.2.2.1,.int .i64 a1.2.2.2.2.1,.int .i64 a1.2.2.2.2.2.1,.int .i64 a1.2.2.2.2.2.2.1,.int .i64 a1.2.2.2.2.2.2.2]] [] [] (fun v H'=>v=.tuple #[.agg #[.int .i64 r.1.1,.int .i64 r.1.2.1,.int .i64 r.1.2.2.1,.int .i64 r.1.2.2.2.1,.int .i64 r.1.2.2.2.2.1,.int .i64 r.1.2.2.2.2.2.1,.int .i64 r.1.2.2.2.2.2.2.1,.int .i64 r.1.2.2.2.2.2.2.2],.int .i64 r.2]∧H'=[]∧IntKind.i64.has r.1.1∧IntKind.i64.has r.1.2.1∧IntKind.i64.has r.1.2.2.1∧IntKind.i64.has r.1.2.2.2.1∧IntKind.i64.has r.1.2.2.2.2.1∧IntKind.i64.has r.1.2.2.2.2.2.1∧IntKind.i64.has r.1.2.2.2.2.2.2.1∧IntKind.i64.has r.1.2.2.2.2.2.2.2∧IntKind.i64.has r.2):=by
 refine A.Ct.enter Tryd.func13 rfl Tryd.ntmps13 rfl fun w0 F0=>?_
 rw[F.R02_Then]at hF
 refine A.xl 1 ?_
 refine A.AL.box 0 (cs:=[.int .i64 a0.1,.int .i64 a0.2.1,.int .i64 a0.2.2.1,.int .i64 a0.2.2.2.1,.int .i64 a0.2.2.2.2.1,.int .i64 a0.2.2.2.2.2.1,.int .i64 a0.2.2.2.2.2.2.1,.int .i64 a0.2.2.2.2.2.2.2]) fun g1=>?_
 refine A.AL.box 1 (cs:=[.int .i64 a1.1,.int .i64 a1.2.1,.int .i64 a1.2.2.1,.int .i64 a1.2.2.2.1,.int .i64 a1.2.2.2.2.1,.int .i64 a1.2.2.2.2.2.1,.int .i64 a1.2.2.2.2.2.2.1,.int .i64 a1.2.2.2.2.2.2.2]) fun g2=>?_
 refine A.AL.alloc 2 (cs:=[.int .i64 0,.int .i64 0,.int .i64 0,.int .i64 0,.int .i64 0,.int .i64 0,.int .i64 0,.int .i64 0]) Tryd.zeroValue45 fun g3=>?_
 refine A.q0 [] [] [.n] [] ?_
 refine A.dx 2 ?_
 refine A.AX.join [2,3,4] [0,1,2] (fun nl nh=>∃(y4:Bool),nl=[(16,.bool y4)]∧nh=[]∧F.R02_Then_j6 a0 a1 y4=some r) ?_ ?_
 ·refine A.xl 0 ?_
  refine A.q0 [0] [] [.b 0 0] [(9,.agg #[.int .i64 a0.1,.int .i64 a0.2.1,.int .i64 a0.2.2.1,.int .i64 a0.2.2.2.1,.int .i64 a0.2.2.2.2.1,.int .i64 a0.2.2.2.2.2.1,.int .i64 a0.2.2.2.2.2.2.1,.int .i64 a0.2.2.2.2.2.2.2])] ?_
  obtain⟨r80,hv81,hF⟩:=A.bd_some hF
  refine A.AL.call 3 [] (first:=[]) (cap:=[]) cf38 (R02_Check_ok (a0.1,a0.2.1,a0.2.2.1,a0.2.2.2.1,(a0.2.2.2.2.1,a0.2.2.2.2.2.1,a0.2.2.2.2.2.2.1,a0.2.2.2.2.2.2.2)) h0_ h1_ h2_ h3_ h4_ h5_ h6_ h7_ r80 hv81) .nil ?_
  rintro _ _ ⟨rfl,rfl,hr82⟩
  refine⟨by kernel_rfl,?_⟩
  refine A.q0 [] [] [.n,.n] [(12,.bool (decide (r80≠0)))] ?_
  refine A.AL.cnp (j:=12) rfl hF (fun hb hF=>?_) (fun hb hF=>?_)
  ·refine A.q0 [] [] [.off,.off,.off,.n] [(16,.bool true)] ?_
   refine A.AL.done ?_
   exact A.j ⟨true,rfl,rfl,hF⟩
  refine A.q0 [1] [] [.on (.b 0 0)] [(13,.agg #[.int .i64 a1.1,.int .i64 a1.2.1,.int .i64 a1.2.2.1,.int .i64 a1.2.2.2.1,.int .i64 a1.2.2.2.2.1,.int .i64 a1.2.2.2.2.2.1,.int .i64 a1.2.2.2.2.2.2.1,.int .i64 a1.2.2.2.2.2.2.2])] ?_
  refine A.AL.on (dj:=12) rfl rfl ?_
  obtain⟨r83,hv84,hF⟩:=A.bd_some hF
  refine A.AL.call 43 [] (first:=[]) (cap:=[]) cf38 (R02_Check_ok (a1.1,a1.2.1,a1.2.2.1,a1.2.2.2.1,(a1.2.2.2.2.1,a1.2.2.2.2.2.1,a1.2.2.2.2.2.2.1,a1.2.2.2.2.2.2.2)) h8_ h9_ h10_ h11_ h12_ h13_ h14_ h15_ r83 hv84) .nil ?_
  rintro _ _ ⟨rfl,rfl,hr85⟩
  refine⟨by kernel_rfl,?_⟩
  refine A.q0 [] [] [.on .n,.n] [(16,.bool (decide (r83≠0)))] ?_
  refine A.AL.done ?_
  exact A.j ⟨(decide (r83≠0)),rfl,rfl,hF⟩
 rintro _ _ ⟨y4,rfl,rfl,hF⟩
 rw[F.R02_Then_j6]at hF
 refine A.AX.cnb rfl hF (fun hb hF=>?_) (fun hb hF=>?_)
 ·refine A.xl 1 ?_
  refine A.q0 [] [] [.n] [(17,.agg #[.int .i64 0,.int .i64 0,.int .i64 0,.int .i64 0,.int .i64 0,.int .i64 0,.int .i64 0,.int .i64 0])] ?_
  refine A.sw 2 [] [.int .i64 0,.int .i64 0,.int .i64 0,.int .i64 0,.int .i64 0,.int .i64 0,.int .i64 0,.int .i64 0] ?_
  refine A.q0 [] [] [.n] [(5,.int .i64 20)] ?_
  refine A.dx 1 ?_
  obtain rfl:=Option.some.inj hF
  exact A.AX.ret [] (.tuple #[.agg #[.int .i64 0,.int .i64 0,.int .i64 0,.int .i64 0,.int .i64 0,.int .i64 0,.int .i64 0,.int .i64 0],.int .i64 20]) (fun a w hf hh=>Z.resv2 rfl (Z.rv_n hf rfl Tryd.isAgg45 Tryd.sizeOf45 (A.Hp.blk hh 2) rfl) (Z.rv_t hf rfl)) (⟨rfl,rfl,(A.hasl .i64 (0) rfl),(A.hasl .i64 (0) rfl),(A.hasl .i64 (0) rfl),(A.hasl .i64 (0) rfl),(A.hasl .i64 (0) rfl),(A.hasl .i64 (0) rfl),(A.hasl .i64 (0) rfl),(A.hasl .i64 (0) rfl),(A.hasl .i64 (20) rfl)⟩)
 refine A.xl 4 ?_
 obtain⟨hc5,hF⟩:=A.gd_some hF
 refine A.q [0,1] [] [.n,.b 0 1,.n,.b 0 3,.n,.n,.b 1 0,.n] [Z.R64 (a0.2.1+a0.2.2.2.1)] [(25,.bool (decide (a0.2.1+a0.2.2.2.1≠a1.1)))] hc5 ?_
 refine A.dx 1 ?_
 refine A.AX.cnd rfl hF (fun hb hF=>?_) (fun hb hF=>?_)
 ·refine A.xl 1 ?_
  refine A.q0 [] [] [.n] [(26,.agg #[.int .i64 0,.int .i64 0,.int .i64 0,.int .i64 0,.int .i64 0,.int .i64 0,.int .i64 0,.int .i64 0])] ?_
  refine A.sw 2 [] [.int .i64 0,.int .i64 0,.int .i64 0,.int .i64 0,.int .i64 0,.int .i64 0,.int .i64 0,.int .i64 0] ?_
  refine A.q0 [] [] [.n] [(5,.int .i64 11)] ?_
  refine A.dx 1 ?_
  obtain rfl:=Option.some.inj hF
  exact A.AX.ret [] (.tuple #[.agg #[.int .i64 0,.int .i64 0,.int .i64 0,.int .i64 0,.int .i64 0,.int .i64 0,.int .i64 0,.int .i64 0],.int .i64 11]) (fun a w hf hh=>Z.resv2 rfl (Z.rv_n hf rfl Tryd.isAgg45 Tryd.sizeOf45 (A.Hp.blk hh 2) rfl) (Z.rv_t hf rfl)) (⟨rfl,rfl,(A.hasl .i64 (0) rfl),(A.hasl .i64 (0) rfl),(A.hasl .i64 (0) rfl),(A.hasl .i64 (0) rfl),(A.hasl .i64 (0) rfl),(A.hasl .i64 (0) rfl),(A.hasl .i64 (0) rfl),(A.hasl .i64 (0) rfl),(A.hasl .i64 (11) rfl)⟩)
 refine A.xl 3 ?_
 refine A.q0 [0,1] [] [.n,.b 0 0,.n,.b 0 1,.n,.b 1 1,.n,.n] [(34,.agg #[.int .i64 a0.1,.int .i64 (min a0.2.1 a1.2.1),.int .i64 0,.int .i64 0,.int .i64 0,.int .i64 0,.int .i64 0,.int .i64 0])] ?_
 refine A.AL.alloc 83 (cs:=[.int .i64 0,.int .i64 0,.int .i64 0,.int .i64 0,.int .i64 0,.int .i64 0,.int .i64 0,.int .i64 0]) Tryd.zeroValue45 fun g6=>?_
 refine A.sw 83 [] [.int .i64 a0.1,.int .i64 (min a0.2.1 a1.2.1),.int .i64 0,.int .i64 0,.int .i64 0,.int .i64 0,.int .i64 0,.int .i64 0] ?_
 refine A.dx 1 ?_
 refine A.AX.join [2,3,4,6] [0,1,2] (fun nl nh=>∃(y7:Int),nl=[]∧nh=[(83,.blk g6 45 [.int .i64 a0.1,.int .i64 (min a0.2.1 a1.2.1),.int .i64 y7,.int .i64 0,.int .i64 0,.int .i64 0,.int .i64 0,.int .i64 0])]∧IntKind.i64.has y7∧F.R02_Then_j5 a0 a1 y7=some r) ?_ ?_
 ·refine A.xl 1 ?_
  refine A.q0 [1,0] [] [.n,.b 0 1,.n,.b 1 1,.n] [(39,.bool (decide (a0.2.1≤a1.2.1)))] ?_
  refine A.dx 1 ?_
  refine A.AX.cnd rfl hF (fun hb hF=>?_) (fun hb hF=>?_)
  ·refine A.xl 0 ?_
   refine A.q0 [0] [] [.n,.b 0 2,.n] [(41,.int .i64 a0.2.2.1),(42,.pointer (some ⟨g6,2,none⟩))] ?_
   refine A.AL.store 83 [] (new:=[.int .i64 a0.2.2.1]) (cs':=[.int .i64 a0.1,.int .i64 (min a0.2.1 a1.2.1),.int .i64 a0.2.2.1,.int .i64 0,.int .i64 0,.int .i64 0,.int .i64 0,.int .i64 0]) ?_
   refine A.AL.done ?_
   exact A.j ⟨a0.2.2.1,rfl,rfl,h2_,hF⟩
  refine A.xe 1 ?_
  exact A.j ⟨0,rfl,rfl,(A.hasl .i64 (0) rfl),hF⟩
 rintro _ _ ⟨y7,rfl,rfl,hy8,hF⟩
 rw[F.R02_Then_j5]at hF
 refine A.AX.join [2,3,4,6] [0,1,2] (fun nl nh=>∃(y9:Int),nl=[]∧nh=[(83,.blk g6 45 [.int .i64 a0.1,.int .i64 (min a0.2.1 a1.2.1),.int .i64 y9,.int .i64 0,.int .i64 0,.int .i64 0,.int .i64 0,.int .i64 0])]∧IntKind.i64.has y9∧F.R02_Then_j4 a0 a1 y9=some r) ?_ ?_
 ·refine A.xl 1 ?_
  refine A.q0 [1,0] [] [.n,.b 0 1,.n,.b 1 1,.n] [(47,.bool (decide (a1.2.1≤a0.2.1)))] ?_
  refine A.dx 1 ?_
  refine A.AX.cnd rfl hF (fun hb hF=>?_) (fun hb hF=>?_)
  ·refine A.xl 0 ?_
   obtain⟨hc79,hF⟩:=A.gd_some hF
   refine A.q [83,1] [] [.n,.b 0 2,.n,.b 1 2,.n,.n] [Z.R64 (y7+a1.2.2.1)] [(52,.int .i64 (y7+a1.2.2.1)),(53,.pointer (some ⟨g6,2,none⟩))] hc79 ?_
   refine A.AL.store 83 [] (new:=[.int .i64 (y7+a1.2.2.1)]) (cs':=[.int .i64 a0.1,.int .i64 (min a0.2.1 a1.2.1),.int .i64 (y7+a1.2.2.1),.int .i64 0,.int .i64 0,.int .i64 0,.int .i64 0,.int .i64 0]) ?_
   refine A.AL.done ?_
   exact A.j ⟨(y7+a1.2.2.1),rfl,rfl,(Z.i64_has hc79),hF⟩
  refine A.xe 1 ?_
  exact A.j ⟨y7,rfl,rfl,hy8,hF⟩
 rintro _ _ ⟨y9,rfl,rfl,hy10,hF⟩
 rw[F.R02_Then_j4]at hF
 refine A.xl 2 ?_
 refine A.q0 [0] [] [.n,.b 0 1,.n] [(7,.int .i64 a0.2.1)] ?_
 refine A.dx 2 ?_
 refine A.lp_ [2,3,4,6] [0,1,2] (fun f nl nh=>∃(y11:Int),∃(y13:Int),∃(y15:Int),∃(y17:Int),∃(y19:Int),∃(y21:Int),∃(y23:Int),∃(y25:Int),∃(y27:Int),nl=[(7,.int .i64 y27)]∧nh=[(83,.blk g6 45 [.int .i64 y11,.int .i64 y13,.int .i64 y15,.int .i64 y17,.int .i64 y19,.int .i64 y21,.int .i64 y23,.int .i64 y25])]∧IntKind.i64.has y11∧IntKind.i64.has y13∧IntKind.i64.has y15∧IntKind.i64.has y17∧IntKind.i64.has y19∧IntKind.i64.has y21∧IntKind.i64.has y23∧IntKind.i64.has y25∧IntKind.i64.has y27∧F.R02_Then_l3 a0 a1 f y11 y13 y15 y17 y19 y21 y23 y25 y27=some r) ⟨a0.1,(min a0.2.1 a1.2.1),y9,0,0,0,0,0,a0.2.1,rfl,rfl,h0_,(A.has_min h1_ h9_),hy10,(A.hasl .i64 (0) rfl),(A.hasl .i64 (0) rfl),(A.hasl .i64 (0) rfl),(A.hasl .i64 (0) rfl),(A.hasl .i64 (0) rfl),h1_,hF⟩ ?_
 rintro f29 _ _ ⟨y11,y13,y15,y17,y19,y21,y23,y25,y27,rfl,rfl,hy12,hy14,hy16,hy18,hy20,hy22,hy24,hy26,hy28,hF⟩
 rcases f29 with _|f29
 ·exact A.no0 hF
 rw[F.R02_Then_l3]at hF
 refine A.xl 2 ?_
 refine A.q0 [1] [] [.n,.n,.b 0 1,.n] [(59,.bool (decide (y27<a1.2.1)))] ?_
 refine A.dx 1 ?_
 refine A.AX.cnd rfl hF (fun hb hF=>?_) (fun hb hF=>?_)
 ·refine A.xx 5 ?_
  refine A.AX.dr mixed 11 12 (A.mb 12 0) ?_
  obtain⟨hc30,hF⟩:=A.gd_some hF
  refine A.AH.q A.pb [] [0,1,2,83] [83,0] [] (A.mb 12 639) 4 [(0,.n),(2,.n),(3,.n),(6,.n),(9,.n),(1,.b 0 3),(4,.b 1 1),(5,.n)] [68,71,63,67] [Z.R64 (y27-a0.2.1)] [(68,.pointer (some ⟨g1,4,none⟩)),(71,.pointer (some ⟨g6,4,none⟩)),(63,.int .i64 y17),(67,.int .i64 (y27-a0.2.1))] hc30 ?_
  obtain⟨x31,hv32,hF⟩:=A.bd_some hF
  refine A.pkb 0 338 (fun v:Int=>.int .i64 v) [a0.2.2.2.2.1,a0.2.2.2.2.2.1,a0.2.2.2.2.2.2.1,a0.2.2.2.2.2.2.2] 4 hv32 ?_
  refine A.AH.v A.pb [0,1,2,83] [0,1,2,83,338] 7 (A.mb 12 767) rfl (fun a w hf hh=>A.r_indexArr Tryd.underlying35 Tryd.sizeOf2 (hf.eval rfl) (hf.eval rfl) (A.ix_ok hv32).1 (A.ix_ok hv32).2) ?_
  refine A.hq A.pb [0,1,2,83,338] [0,1,2,83,338] [] [338] (A.mb 12 1023) 2 [(8,.e 0 0)] [(70,.int .i64 x31)] ?_
  obtain⟨x33,hv34,hF⟩:=A.bd_some hF
  refine A.pkb 83 339 (fun v:Int=>.int .i64 v) [y19,y21,y23,y25] 4 hv34 ?_
  refine A.AH.v A.pb [0,1,2,83,338] [0,1,2,83,338,339] 10 (A.mb 12 2047) rfl (fun a w hf hh=>A.r_indexArr Tryd.underlying35 Tryd.sizeOf2 (hf.eval rfl) (hf.eval rfl) (A.ix_ok hv34).1 (A.ix_ok hv34).2) ?_
  refine A.AH.one 11 ?_
  refine A.AL.stb 83 [339] hv34 (A.arr4 (Q:=fun i=>[.int .i64 y11,.int .i64 y13,.int .i64 y15,.int .i64 y17,.int .i64 (if i=0 then x31 else y19),.int .i64 (if i=1 then x31 else y21),.int .i64 (if i=2 then x31 else y23),.int .i64 (if i=3 then x31 else y25)]=List.set [.int .i64 y11,.int .i64 y13,.int .i64 y15,.int .i64 y17,.int .i64 y19,.int .i64 y21,.int .i64 y23,.int .i64 y25] (4+i.toNat*1) (.int .i64 x31)) hv34 rfl rfl rfl rfl) ?_
  refine A.AH.nm (A.mb 12 4095) ?_
  refine A.AH.done ?_
  refine A.ex 1 ?_
  refine A.AX.join [2,3,4,6,7] [0,1,2] (fun nl nh=>∃(y35:Int),∃(y37:Int),∃(y39:Int),∃(y41:Int),nl=[]∧nh=[(83,.blk g6 45 [.int .i64 y11,.int .i64 y13,.int .i64 y15,.int .i64 y17,.int .i64 y35,.int .i64 y37,.int .i64 y39,.int .i64 y41])]∧IntKind.i64.has y35∧IntKind.i64.has y37∧IntKind.i64.has y39∧IntKind.i64.has y41∧F.R02_Then_j1 (F.R02_Then_l3 a0 a1 f29) y11 y13 y15 y17 y27 y35 y37 y39 y41=some r) ?_ ?_
  ·refine A.xl 1 ?_
   obtain⟨hc45,hF⟩:=A.gd_some hF
   refine A.q [1] [] [.n,.n,.b 0 1,.n,.n] [Z.R64 (a1.2.1-1)] [(77,.bool (decide (y27=a1.2.1-1)))] hc45 ?_
   refine A.dx 1 ?_
   refine A.AX.cnd rfl hF (fun hb hF=>?_) (fun hb hF=>?_)
   ·refine A.AX.dr mixed 10 11 (A.mb 11 0) ?_
    refine A.hq A.pb [] [0,1,2,83,338] [83,1] [] (A.mb 11 359) 5 [(0,.n),(2,.n),(5,.n),(8,.n),(1,.b 0 3),(6,.b 1 2)] [(80,.pointer (some ⟨g6,4,none⟩)),(86,.pointer (some ⟨g6,4,none⟩)),(79,.int .i64 y17),(84,.int .i64 a1.2.2.1)] ?_
    obtain⟨x46,hv47,hF⟩:=A.bd_some hF
    refine A.pkb 83 340 (fun v:Int=>.int .i64 v) [(if y17=0 then x31 else y19),(if y17=1 then x31 else y21),(if y17=2 then x31 else y23),(if y17=3 then x31 else y25)] 4 hv47 ?_
    refine A.AH.v A.pb [0,1,2,83,338] [0,1,2,83,338,340] 3 (A.mb 11 367) rfl (fun a w hf hh=>A.r_indexArr Tryd.underlying35 Tryd.sizeOf2 (hf.eval rfl) (hf.eval rfl) (A.ix_ok hv47).1 (A.ix_ok hv47).2) ?_
    obtain⟨hc48,hF⟩:=A.gd_some hF
    refine A.AH.q A.pb [0,1,2,83,338,340] [0,1,2,83,338,340] [] [340] (A.mb 11 511) 2 [(4,.e 0 0),(7,.n)] [85] [Z.R64 (x46+a1.2.2.1)] [(85,.int .i64 (x46+a1.2.2.1))] hc48 ?_
    obtain⟨x49,hv50,hF⟩:=A.bd_some hF
    refine A.pkb 83 341 (fun v:Int=>.int .i64 v) [(if y17=0 then x31 else y19),(if y17=1 then x31 else y21),(if y17=2 then x31 else y23),(if y17=3 then x31 else y25)] 4 hv50 ?_
    refine A.AH.v A.pb [0,1,2,83,338,340] [0,1,2,83,338,340,341] 9 (A.mb 11 1023) rfl (fun a w hf hh=>A.r_indexArr Tryd.underlying35 Tryd.sizeOf2 (hf.eval rfl) (hf.eval rfl) (A.ix_ok hv50).1 (A.ix_ok hv50).2) ?_
    refine A.AH.one 10 ?_
    refine A.AL.stb 83 [340,341] hv50 (A.arr4 (Q:=fun i=>[.int .i64 y11,.int .i64 y13,.int .i64 y15,.int .i64 y17,.int .i64 (if i=0 then x46+a1.2.2.1 else(if y17=0 then x31 else y19)),.int .i64 (if i=1 then x46+a1.2.2.1 else(if y17=1 then x31 else y21)),.int .i64 (if i=2 then x46+a1.2.2.1 else(if y17=2 then x31 else y23)),.int .i64 (if i=3 then x46+a1.2.2.1 else(if y17=3 then x31 else y25))]=List.set [.int .i64 y11,.int .i64 y13,.int .i64 y15,.int .i64 y17,.int .i64 (if y17=0 then x31 else y19),.int .i64 (if y17=1 then x31 else y21),.int .i64 (if y17=2 then x31 else y23),.int .i64 (if y17=3 then x31 else y25)] (4+i.toNat*1) (.int .i64 (x46+a1.2.2.1))) hv50 rfl rfl rfl rfl) ?_
    refine A.AH.nm (A.mb 11 2047) ?_
    refine A.AH.done ?_
    exact A.j ⟨(if y17=0 then x46+a1.2.2.1 else(if y17=0 then x31 else y19)),(if y17=1 then x46+a1.2.2.1 else(if y17=1 then x31 else y21)),(if y17=2 then x46+a1.2.2.1 else(if y17=2 then x31 else y23)),(if y17=3 then x46+a1.2.2.1 else(if y17=3 then x31 else y25)),rfl,rfl,(A.ite_has (Z.i64_has hc48) (A.ite_has (A.has_ix hv32 (List.forall_mem_cons.2 ⟨h4_,(List.forall_mem_cons.2 ⟨h5_,(List.forall_mem_cons.2 ⟨h6_,(List.forall_mem_cons.2 ⟨h7_,(by simp)⟩)⟩)⟩)⟩)) hy20)),(A.ite_has (Z.i64_has hc48) (A.ite_has (A.has_ix hv32 (List.forall_mem_cons.2 ⟨h4_,(List.forall_mem_cons.2 ⟨h5_,(List.forall_mem_cons.2 ⟨h6_,(List.forall_mem_cons.2 ⟨h7_,(by simp)⟩)⟩)⟩)⟩)) hy22)),(A.ite_has (Z.i64_has hc48) (A.ite_has (A.has_ix hv32 (List.forall_mem_cons.2 ⟨h4_,(List.forall_mem_cons.2 ⟨h5_,(List.forall_mem_cons.2 ⟨h6_,(List.forall_mem_cons.2 ⟨h7_,(by simp)⟩)⟩)⟩)⟩)) hy24)),(A.ite_has (Z.i64_has hc48) (A.ite_has (A.has_ix hv32 (List.forall_mem_cons.2 ⟨h4_,(List.forall_mem_cons.2 ⟨h5_,(List.forall_mem_cons.2 ⟨h6_,(List.forall_mem_cons.2 ⟨h7_,(by simp)⟩)⟩)⟩)⟩)) hy26)),hF⟩
   refine A.xe 1 ?_
   exact A.j ⟨(if y17=0 then x31 else y19),(if y17=1 then x31 else y21),(if y17=2 then x31 else y23),(if y17=3 then x31 else y25),rfl,rfl,(A.ite_has (A.has_ix hv32 (List.forall_mem_cons.2 ⟨h4_,(List.forall_mem_cons.2 ⟨h5_,(List.forall_mem_cons.2 ⟨h6_,(List.forall_mem_cons.2 ⟨h7_,(by simp)⟩)⟩)⟩)⟩)) hy20),(A.ite_has (A.has_ix hv32 (List.forall_mem_cons.2 ⟨h4_,(List.forall_mem_cons.2 ⟨h5_,(List.forall_mem_cons.2 ⟨h6_,(List.forall_mem_cons.2 ⟨h7_,(by simp)⟩)⟩)⟩)⟩)) hy22),(A.ite_has (A.has_ix hv32 (List.forall_mem_cons.2 ⟨h4_,(List.forall_mem_cons.2 ⟨h5_,(List.forall_mem_cons.2 ⟨h6_,(List.forall_mem_cons.2 ⟨h7_,(by simp)⟩)⟩)⟩)⟩)) hy24),(A.ite_has (A.has_ix hv32 (List.forall_mem_cons.2 ⟨h4_,(List.forall_mem_cons.2 ⟨h5_,(List.forall_mem_cons.2 ⟨h6_,(List.forall_mem_cons.2 ⟨h7_,(by simp)⟩)⟩)⟩)⟩)) hy26),hF⟩
  rintro _ _ ⟨y35,y37,y39,y41,rfl,rfl,hy36,hy38,hy40,hy42,hF⟩
  rw[F.R02_Then_j1]at hF
  refine A.xl 0 ?_
  obtain⟨hc43,hF⟩:=A.gd_some hF
  refine A.q [83] [] [.n,.b 0 3,.n,.n] [Z.R64 (y17+1)] [(90,.int .i64 (y17+1)),(91,.pointer (some ⟨g6,3,none⟩))] hc43 ?_
  refine A.AL.store 83 [] (new:=[.int .i64 (y17+1)]) (cs':=[.int .i64 y11,.int .i64 y13,.int .i64 y15,.int .i64 (y17+1),.int .i64 y35,.int .i64 y37,.int .i64 y39,.int .i64 y41]) ?_
  refine A.dl 2 ?_
  obtain⟨hc44,hF⟩:=A.gd_some hF
  refine A.q [] [] [.n,.n,.n] [Z.R64 (y27+1)] [(7,.int .i64 (y27+1))] hc44 ?_
  refine A.AL.done ?_
  exact A.j ⟨_,Nat.lt_succ_self _,⟨y11,y13,y15,(y17+1),y35,y37,y39,y41,(y27+1),rfl,rfl,hy12,hy14,hy16,(Z.i64_has hc43),hy36,hy38,hy40,hy42,(Z.i64_has hc44),hF⟩⟩
 refine A.xl 4 ?_
 refine A.q0 [] [] [.n] [(8,.int .i64 0)] ?_
 refine A.dx 2 ?_
 refine A.lp_ [3,4,6] [1,2] (fun f nl nh=>∃(y51:Int),∃(y53:Int),∃(y55:Int),∃(y57:Int),∃(y59:Int),∃(y61:Int),∃(y63:Int),∃(y65:Int),∃(y67:Int),nl=[(8,.int .i64 y67)]∧nh=[(83,.blk g6 45 [.int .i64 y51,.int .i64 y53,.int .i64 y55,.int .i64 y57,.int .i64 y59,.int .i64 y61,.int .i64 y63,.int .i64 y65])]∧IntKind.i64.has y51∧IntKind.i64.has y53∧IntKind.i64.has y55∧IntKind.i64.has y57∧IntKind.i64.has y59∧IntKind.i64.has y61∧IntKind.i64.has y63∧IntKind.i64.has y65∧IntKind.i64.has y67∧F.R02_Then_l2 a1 f y51 y53 y55 y57 y59 y61 y63 y65 y67=some r) ⟨y11,y13,y15,y17,y19,y21,y23,y25,0,rfl,rfl,hy12,hy14,hy16,hy18,hy20,hy22,hy24,hy26,(A.hasl .i64 (0) rfl),hF⟩ ?_
 rintro f69 _ _ ⟨y51,y53,y55,y57,y59,y61,y63,y65,y67,rfl,rfl,hy52,hy54,hy56,hy58,hy60,hy62,hy64,hy66,hy68,hF⟩
 rcases f69 with _|f69
 ·exact A.no0 hF
 rw[F.R02_Then_l2]at hF
 refine A.xl 2 ?_
 refine A.q0 [1] [] [.n,.n,.b 0 3,.n] [(95,.bool (decide (y67<a1.2.2.2.1)))] ?_
 refine A.dx 1 ?_
 refine A.AX.cnd rfl hF (fun hb hF=>?_) (fun hb hF=>?_)
 ·refine A.xx 5 ?_
  refine A.AX.dr mixed 8 9 (A.mb 9 0) ?_
  refine A.hq A.pb [] [1,2,83] [83] [] (A.mb 9 79) 4 [(0,.n),(2,.n),(3,.n),(6,.n),(1,.b 0 3)] [(100,.int .i64 y67),(101,.pointer (some ⟨g2,4,none⟩)),(104,.pointer (some ⟨g6,4,none⟩)),(99,.int .i64 y57)] ?_
  obtain⟨x70,hv71,hF⟩:=A.bd_some hF
  refine A.pkb 1 425 (fun v:Int=>.int .i64 v) [a1.2.2.2.2.1,a1.2.2.2.2.2.1,a1.2.2.2.2.2.2.1,a1.2.2.2.2.2.2.2] 4 hv71 ?_
  refine A.AH.v A.pb [1,2,83] [1,2,83,425] 4 (A.mb 9 95) rfl (fun a w hf hh=>A.r_indexArr Tryd.underlying35 Tryd.sizeOf2 (hf.eval rfl) (hf.eval rfl) (A.ix_ok hv71).1 (A.ix_ok hv71).2) ?_
  refine A.hq A.pb [1,2,83,425] [1,2,83,425] [] [425] (A.mb 9 127) 2 [(5,.e 0 0)] [(103,.int .i64 x70)] ?_
  obtain⟨x72,hv73,hF⟩:=A.bd_some hF
  refine A.pkb 83 426 (fun v:Int=>.int .i64 v) [y59,y61,y63,y65] 4 hv73 ?_
  refine A.AH.v A.pb [1,2,83,425] [1,2,83,425,426] 7 (A.mb 9 255) rfl (fun a w hf hh=>A.r_indexArr Tryd.underlying35 Tryd.sizeOf2 (hf.eval rfl) (hf.eval rfl) (A.ix_ok hv73).1 (A.ix_ok hv73).2) ?_
  refine A.AH.one 8 ?_
  refine A.AL.stb 83 [426] hv73 (A.arr4 (Q:=fun i=>[.int .i64 y51,.int .i64 y53,.int .i64 y55,.int .i64 y57,.int .i64 (if i=0 then x70 else y59),.int .i64 (if i=1 then x70 else y61),.int .i64 (if i=2 then x70 else y63),.int .i64 (if i=3 then x70 else y65)]=List.set [.int .i64 y51,.int .i64 y53,.int .i64 y55,.int .i64 y57,.int .i64 y59,.int .i64 y61,.int .i64 y63,.int .i64 y65] (4+i.toNat*1) (.int .i64 x70)) hv73 rfl rfl rfl rfl) ?_
  refine A.AH.nm (A.mb 9 511) ?_
  refine A.AH.done ?_
  refine A.el 1 ?_
  obtain⟨hc74,hF⟩:=A.gd_some hF
  refine A.q [83] [] [.n,.b 0 3,.n,.n] [Z.R64 (y57+1)] [(108,.int .i64 (y57+1)),(109,.pointer (some ⟨g6,3,none⟩))] hc74 ?_
  refine A.AL.store 83 [] (new:=[.int .i64 (y57+1)]) (cs':=[.int .i64 y51,.int .i64 y53,.int .i64 y55,.int .i64 (y57+1),.int .i64 (if y57=0 then x70 else y59),.int .i64 (if y57=1 then x70 else y61),.int .i64 (if y57=2 then x70 else y63),.int .i64 (if y57=3 then x70 else y65)]) ?_
  refine A.dl 2 ?_
  obtain⟨hc75,hF⟩:=A.gd_some hF
  refine A.q [] [] [.n,.n,.n] [Z.R64 (y67+1)] [(8,.int .i64 (y67+1))] hc75 ?_
  refine A.AL.done ?_
  exact A.j ⟨_,Nat.lt_succ_self _,⟨y51,y53,y55,(y57+1),(if y57=0 then x70 else y59),(if y57=1 then x70 else y61),(if y57=2 then x70 else y63),(if y57=3 then x70 else y65),(y67+1),rfl,rfl,hy52,hy54,hy56,(Z.i64_has hc74),(A.ite_has (A.has_ix hv71 (List.forall_mem_cons.2 ⟨h12_,(List.forall_mem_cons.2 ⟨h13_,(List.forall_mem_cons.2 ⟨h14_,(List.forall_mem_cons.2 ⟨h15_,(by simp)⟩)⟩)⟩)⟩)) hy60),(A.ite_has (A.has_ix hv71 (List.forall_mem_cons.2 ⟨h12_,(List.forall_mem_cons.2 ⟨h13_,(List.forall_mem_cons.2 ⟨h14_,(List.forall_mem_cons.2 ⟨h15_,(by simp)⟩)⟩)⟩)⟩)) hy62),(A.ite_has (A.has_ix hv71 (List.forall_mem_cons.2 ⟨h12_,(List.forall_mem_cons.2 ⟨h13_,(List.forall_mem_cons.2 ⟨h14_,(List.forall_mem_cons.2 ⟨h15_,(by simp)⟩)⟩)⟩)⟩)) hy64),(A.ite_has (A.has_ix hv71 (List.forall_mem_cons.2 ⟨h12_,(List.forall_mem_cons.2 ⟨h13_,(List.forall_mem_cons.2 ⟨h14_,(List.forall_mem_cons.2 ⟨h15_,(by simp)⟩)⟩)⟩)⟩)) hy66),(Z.i64_has hc75),hF⟩⟩
 refine A.xl 4 ?_
 refine A.q0 [83] [] [.b 0 0] [(110,.agg #[.int .i64 y51,.int .i64 y53,.int .i64 y55,.int .i64 y57,.int .i64 y59,.int .i64 y61,.int .i64 y63,.int .i64 y65])] ?_
 obtain⟨r76,hv77,hF⟩:=A.bd_some hF
 refine A.AL.call 427 [] (first:=[]) (cap:=[]) cf38 (R02_Check_ok (y51,y53,y55,y57,(y59,y61,y63,y65)) hy52 hy54 hy56 hy58 hy60 hy62 hy64 hy66 r76 hv77) .nil ?_
 rintro _ _ ⟨rfl,rfl,hr78⟩
 refine⟨by kernel_rfl,?_⟩
 refine A.q0 [] [] [.n] [(112,.bool (decide (r76≠0)))] ?_
 refine A.dx 1 ?_
 refine A.AX.cnd rfl hF (fun hb hF=>?_) (fun hb hF=>?_)
 ·refine A.xl 1 ?_
  refine A.q0 [] [] [.n] [(113,.agg #[.int .i64 0,.int .i64 0,.int .i64 0,.int .i64 0,.int .i64 0,.int .i64 0,.int .i64 0,.int .i64 0])] ?_
  refine A.sw 2 [] [.int .i64 0,.int .i64 0,.int .i64 0,.int .i64 0,.int .i64 0,.int .i64 0,.int .i64 0,.int .i64 0] ?_
  refine A.q0 [] [] [.n] [(5,.int .i64 12)] ?_
  refine A.dx 1 ?_
  obtain rfl:=Option.some.inj hF
  exact A.AX.ret [] (.tuple #[.agg #[.int .i64 0,.int .i64 0,.int .i64 0,.int .i64 0,.int .i64 0,.int .i64 0,.int .i64 0,.int .i64 0],.int .i64 12]) (fun a w hf hh=>Z.resv2 rfl (Z.rv_n hf rfl Tryd.isAgg45 Tryd.sizeOf45 (A.Hp.blk hh 2) rfl) (Z.rv_t hf rfl)) (⟨rfl,rfl,(A.hasl .i64 (0) rfl),(A.hasl .i64 (0) rfl),(A.hasl .i64 (0) rfl),(A.hasl .i64 (0) rfl),(A.hasl .i64 (0) rfl),(A.hasl .i64 (0) rfl),(A.hasl .i64 (0) rfl),(A.hasl .i64 (0) rfl),(A.hasl .i64 (12) rfl)⟩)
 refine A.xl 3 ?_
 refine A.q0 [83] [] [.b 0 0] [(114,.agg #[.int .i64 y51,.int .i64 y53,.int .i64 y55,.int .i64 y57,.int .i64 y59,.int .i64 y61,.int .i64 y63,.int .i64 y65])] ?_
 refine A.sw 2 [] [.int .i64 y51,.int .i64 y53,.int .i64 y55,.int .i64 y57,.int .i64 y59,.int .i64 y61,.int .i64 y63,.int .i64 y65] ?_
 refine A.q0 [] [] [.n] [(5,.int .i64 0)] ?_
 refine A.dx 1 ?_
 obtain rfl:=Option.some.inj hF
 exact A.AX.ret [] (.tuple #[.agg #[.int .i64 y51,.int .i64 y53,.int .i64 y55,.int .i64 y57,.int .i64 y59,.int .i64 y61,.int .i64 y63,.int .i64 y65],.int .i64 0]) (fun a w hf hh=>Z.resv2 rfl (Z.rv_n hf rfl Tryd.isAgg45 Tryd.sizeOf45 (A.Hp.blk hh 2) rfl) (Z.rv_t hf rfl)) (⟨rfl,rfl,hy52,hy54,hy56,hy58,hy60,hy62,hy64,hy66,(A.hasl .i64 (0) rfl)⟩)
end Go.Proofs.YtpdhaldfdeamdaaDoor
end
section
set_option linter.unusedVariables false
set_option linter.unusedSimpArgs false
set_option maxRecDepth 20000
set_option maxHeartbeats 8000000
set_option synthInstance.maxSize 1000000
set_option synthInstance.maxHeartbeats 400000
namespace Go.Proofs.YtpdhaldfdeamdaaDoor
open Go.RowKit
def F.R01_Check_j1 (k1:Int→Option Int)(y2:Int)(y5:Bool):Option Int:=if y5=true then(some 10)else(A.gd (Z.R64 (y2+1)) (k1 (y2+1)))
def F.R01_Check_l2 (a0:D36):Nat→Int→Option Int
 |0,_=>none
 |f+1,y2=>if y2<4 then((A.ix [a0.2.2.1,a0.2.2.2.1,a0.2.2.2.2.1,a0.2.2.2.2.2] y2).bind fun x7=>(if x7<0 then(F.R01_Check_j1 (F.R01_Check_l2 a0 f) y2 true)else((A.ix [a0.2.2.1,a0.2.2.2.1,a0.2.2.2.2.1,a0.2.2.2.2.2] y2).bind fun x9=>(if(1048576:Int)<x9 then(F.R01_Check_j1 (F.R01_Check_l2 a0 f) y2 true)else(if a0.2.1≤y2 then((A.ix [a0.2.2.1,a0.2.2.2.1,a0.2.2.2.2.1,a0.2.2.2.2.2] y2).bind fun x11=>(F.R01_Check_j1 (F.R01_Check_l2 a0 f) y2 (decide (x11≠0))))else(F.R01_Check_j1 (F.R01_Check_l2 a0 f) y2 false))))))else(some 0)
def F.R01_Check (a0:D36):Option Int:=if(bif bif bif decide (a0.1<0)then true else decide ((1073741824:Int)<a0.1)then true else decide (a0.2.1<0)then true else decide ((4:Int)<a0.2.1))=true then(some 10)else(F.R01_Check_l2 a0 A.FU 0)
theorem R01_Check_ok (a0:D36)(h0_:IntKind.i64.has a0.1)(h1_:IntKind.i64.has a0.2.1)(h2_:IntKind.i64.has a0.2.2.1)(h3_:IntKind.i64.has a0.2.2.2.1)(h4_:IntKind.i64.has a0.2.2.2.2.1)(h5_:IntKind.i64.has a0.2.2.2.2.2)(r:Int)(hF:F.R01_Check a0=some r):
    A.Ct Tryd.prog 39 [.agg #[.int .i64 a0.1,.int .i64 a0.2.1,.int .i64 a0.2.2.1,.int .i64 a0.2.2.2.1,.int .i64 a0.2.2.2.2.1,.int .i64 a0.2.2.2.2.2]] [] [] (fun v H'=>v=.int .i64 r∧H'=[]∧IntKind.i64.has r):=by
 refine A.Ct.enter Tryd.func39 rfl Tryd.ntmps39 rfl fun w0 F0=>?_
 rw[F.R01_Check]at hF
 refine A.xl 1 ?_
 refine A.AL.box 0 (cs:=[.int .i64 a0.1,.int .i64 a0.2.1,.int .i64 a0.2.2.1,.int .i64 a0.2.2.2.1,.int .i64 a0.2.2.2.2.1,.int .i64 a0.2.2.2.2.2]) fun g1=>?_
 refine A.q0 [] [] [.n] [] ?_
 refine A.dl 3 ?_
 refine A.q0 [0] [] [.n,.b 0 0,.n,.n,.sy .n,.sy (.b 0 0),.sy .n,.pk,.n,.sy .n,.sy (.b 0 1),.sy .n,.pk,.n,.sy .n,.sy (.b 0 1),.sy .n,.pk] [(21,.bool (bif bif bif decide (a0.1<0)then true else decide ((1073741824:Int)<a0.1)then true else decide (a0.2.1<0)then true else decide ((4:Int)<a0.2.1)))] ?_
 refine A.dx 1 ?_
 refine A.AX.cnb rfl hF (fun hb hF=>?_) (fun hb hF=>?_)
 ·refine A.xl 1 ?_
  refine A.q0 [] [] [.n] [(2,.int .i64 10)] ?_
  refine A.dx 1 ?_
  obtain rfl:=Option.some.inj hF
  exact A.rt1 [] ⟨rfl,rfl,(A.hasl .i64 (10) rfl)⟩
 refine A.xl 4 ?_
 refine A.q0 [] [] [.n] [(3,.int .i64 0)] ?_
 refine A.dx 2 ?_
 refine A.lp_ [1] [0] (fun f nl nh=>∃(y2:Int),nl=[(3,.int .i64 y2)]∧nh=[]∧IntKind.i64.has y2∧F.R01_Check_l2 a0 f y2=some r) ⟨0,rfl,rfl,(A.hasl .i64 (0) rfl),hF⟩ ?_
 rintro f4 _ _ ⟨y2,rfl,rfl,hy3,hF⟩
 rcases f4 with _|f4
 ·exact A.no0 hF
 rw[F.R01_Check_l2]at hF
 refine A.xl 2 ?_
 refine A.q0 [] [] [.n,.n] [(23,.bool (decide (y2<4)))] ?_
 refine A.dx 1 ?_
 refine A.AX.cnd rfl hF (fun hb hF=>?_) (fun hb hF=>?_)
 ·refine A.xx 4 ?_
  refine A.AX.join [1,3] [0] (fun nl nh=>∃(y5:Bool),nl=[(50,.bool y5)]∧nh=[]∧F.R01_Check_j1 (F.R01_Check_l2 a0 f4) y2 y5=some r) ?_ ?_
  ·refine A.xl 0 ?_
   refine A.q0 [] [] [.n,.n] [(26,.int .i64 y2),(27,.pointer (some ⟨g1,2,none⟩))] ?_
   obtain⟨x7,hv8,hF⟩:=A.bd_some hF
   refine A.AL.ixb 0 4 (fun v:Int=>.int .i64 v) [a0.2.2.1,a0.2.2.2.1,a0.2.2.2.2.1,a0.2.2.2.2.2] hv8 ?_
   refine A.q0 [] [4] [.e 0 0,.n,.n] [(31,.bool (decide (x7<0)))] ?_
   refine A.AL.cnp (j:=31) rfl hF (fun hb hF=>?_) (fun hb hF=>?_)
   ·refine A.q0 [] [] [.off,.off,.off,.off,.off,.n,.n,.off,.off,.off,.off,.off,.off,.off,.off,.off,.off,.off,.n] [(50,.bool true)] ?_
    refine A.AL.done ?_
    exact A.j ⟨true,rfl,rfl,hF⟩
   refine A.q0 [] [] [.on .n,.on .n] [(32,.int .i64 y2),(33,.pointer (some ⟨g1,2,none⟩))] ?_
   refine A.AL.on (dj:=31) rfl rfl ?_
   obtain⟨x9,hv10,hF⟩:=A.bd_some hF
   refine A.AL.ixb 0 5 (fun v:Int=>.int .i64 v) [a0.2.2.1,a0.2.2.2.1,a0.2.2.2.2.1,a0.2.2.2.2.2] hv10 ?_
   refine A.q0 [] [5] [.on (.e 0 0),.on .n,.n,.n] [(38,.bool (decide ((1048576:Int)<x9)))] ?_
   refine A.AL.cnp (j:=38) rfl hF (fun hb hF=>?_) (fun hb hF=>?_)
   ·refine A.q0 [] [] [.off,.off,.off,.off,.off,.off,.off,.off,.off,.off,.off,.n] [(50,.bool true)] ?_
    refine A.AL.done ?_
    exact A.j ⟨true,rfl,rfl,hF⟩
   refine A.q0 [0] [] [.on .n,.on .n,.on (.b 0 1),.on .n,.on .n] [(43,.bool (decide (a0.2.1≤y2)))] ?_
   refine A.AL.cnp (j:=43) rfl hF (fun hb hF=>?_) (fun hb hF=>?_)
   ·refine A.q0 [] [] [.on .n,.on .n] [(44,.int .i64 y2),(45,.pointer (some ⟨g1,2,none⟩))] ?_
    refine A.AL.on (dj:=43) rfl rfl ?_
    obtain⟨x11,hv12,hF⟩:=A.bd_some hF
    refine A.AL.ixb 0 6 (fun v:Int=>.int .i64 v) [a0.2.2.1,a0.2.2.2.1,a0.2.2.2.2.1,a0.2.2.2.2.2] hv12 ?_
    refine A.q0 [] [6] [.on (.e 0 0),.on .n,.on .n,.n] [(50,.bool (decide (x11≠0)))] ?_
    refine A.AL.done ?_
    exact A.j ⟨(decide (x11≠0)),rfl,rfl,hF⟩
   refine A.q0 [] [] [.off,.off,.off,.off,.off,.on .n,.n] [(50,.bool false)] ?_
   refine A.AL.done ?_
   exact A.j ⟨false,rfl,rfl,hF⟩
  rintro _ _ ⟨y5,rfl,rfl,hF⟩
  rw[F.R01_Check_j1]at hF
  refine A.AX.cnb rfl hF (fun hb hF=>?_) (fun hb hF=>?_)
  ·refine A.xl 1 ?_
   refine A.q0 [] [] [.n] [(2,.int .i64 10)] ?_
   refine A.dx 1 ?_
   obtain rfl:=Option.some.inj hF
   exact A.rt1 [] ⟨rfl,rfl,(A.hasl .i64 (10) rfl)⟩
  refine A.xl 3 ?_
  obtain⟨hc6,hF⟩:=A.gd_some hF
  refine A.q [] [] [.n,.n,.n] [Z.R64 (y2+1)] [(3,.int .i64 (y2+1))] hc6 ?_
  refine A.AL.done ?_
  exact A.j ⟨_,Nat.lt_succ_self _,⟨(y2+1),rfl,rfl,(Z.i64_has hc6),hF⟩⟩
 refine A.xl 3 ?_
 refine A.q0 [] [] [.n] [(2,.int .i64 0)] ?_
 refine A.dx 1 ?_
 obtain rfl:=Option.some.inj hF
 exact A.rt1 [] ⟨rfl,rfl,(A.hasl .i64 (0) rfl)⟩
def F.R02_Apply_j1 (k1:Int→Int→Int→Int→Int→Int→Int→Option (D36×Int))(y12:Int)(y14:Int)(y24:Int)(y27:Int)(y29:Int)(y31:Int)(y33:Int):Option (D36×Int):=A.gd (Z.R64 (y24+1)) (k1 y12 y14 y27 y29 y31 y33 (y24+1))
def F.R02_Apply_l2 (a0:D44)(a1:D36):Nat→Int→Int→Int→Int→Int→Int→Int→Option (D36×Int)
 |0,_,_,_,_,_,_,_=>none
 |f+1,y12,y14,y16,y18,y20,y22,y24=>if y24<4 then(A.gd (Z.R64 (a0.2.1-1)) (if y24<a0.2.1-1 then((A.ix [a1.2.2.1,a1.2.2.2.1,a1.2.2.2.2.1,a1.2.2.2.2.2] y24).bind fun x37=>((A.ix [y16,y18,y20,y22] y24).bind fun x39=>(F.R02_Apply_j1 (F.R02_Apply_l2 a0 a1 f) y12 y14 y24 (if y24=0 then x37 else y16) (if y24=1 then x37 else y18) (if y24=2 then x37 else y20) (if y24=3 then x37 else y22))))else(A.gd (Z.R64 (a0.2.1-1)) (if y24=a0.2.1-1 then((A.ix [a1.2.2.1,a1.2.2.2.1,a1.2.2.2.2.1,a1.2.2.2.2.2] y24).bind fun x42=>(A.gd (Z.R64 (x42+a0.2.2.1)) ((A.ix [y16,y18,y20,y22] y24).bind fun x45=>(F.R02_Apply_j1 (F.R02_Apply_l2 a0 a1 f) y12 y14 y24 (if y24=0 then x42+a0.2.2.1 else y16) (if y24=1 then x42+a0.2.2.1 else y18) (if y24=2 then x42+a0.2.2.1 else y20) (if y24=3 then x42+a0.2.2.1 else y22)))))else(A.gd (Z.R64 (a0.2.1+a0.2.2.2.1)) (if y24<a0.2.1+a0.2.2.2.1 then(A.gd (Z.R64 (y24-a0.2.1)) ((A.ix [a0.2.2.2.2.1,a0.2.2.2.2.2.1,a0.2.2.2.2.2.2.1,a0.2.2.2.2.2.2.2] (y24-a0.2.1)).bind fun x49=>((A.ix [y16,y18,y20,y22] y24).bind fun x51=>(F.R02_Apply_j1 (F.R02_Apply_l2 a0 a1 f) y12 y14 y24 (if y24=0 then x49 else y16) (if y24=1 then x49 else y18) (if y24=2 then x49 else y20) (if y24=3 then x49 else y22)))))else((A.ix [y16,y18,y20,y22] y24).bind fun x53=>(F.R02_Apply_j1 (F.R02_Apply_l2 a0 a1 f) y12 y14 y24 (if y24=0 then 0 else y16) (if y24=1 then 0 else y18) (if y24=2 then 0 else y20) (if y24=3 then 0 else y22)))))))))else((F.R01_Check (y12,y14,(y16,y18,y20,y22))).bind fun r55=>(if r55≠0 then(some ((0,0,(0,0,0,0)),12))else(some ((y12,y14,(y16,y18,y20,y22)),0))))
def F.R02_Apply (a0:D44)(a1:D36):Option (D36×Int):=(F.R02_Check (a0.1,a0.2.1,a0.2.2.1,a0.2.2.2.1,(a0.2.2.2.2.1,a0.2.2.2.2.2.1,a0.2.2.2.2.2.2.1,a0.2.2.2.2.2.2.2))).bind fun r4=>(if r4≠0 then(some ((0,0,(0,0,0,0)),r4))else((F.R01_Check (a1.1,a1.2.1,(a1.2.2.1,a1.2.2.2.1,a1.2.2.2.2.1,a1.2.2.2.2.2))).bind fun r7=>(if r7≠0 then(some ((0,0,(0,0,0,0)),r7))else(if a1.2.1≠a0.1 then(some ((0,0,(0,0,0,0)),11))else(A.gd (Z.R64 (a0.2.1+a0.2.2.2.1)) (F.R02_Apply_l2 a0 a1 A.FU a1.1 (a0.2.1+a0.2.2.2.1) 0 0 0 0 0))))))
theorem R02_Apply_ok (a0:D44)(a1:D36)(h0_:IntKind.i64.has a0.1)(h1_:IntKind.i64.has a0.2.1)(h2_:IntKind.i64.has a0.2.2.1)(h3_:IntKind.i64.has a0.2.2.2.1)(h4_:IntKind.i64.has a0.2.2.2.2.1)(h5_:IntKind.i64.has a0.2.2.2.2.2.1)(h6_:IntKind.i64.has a0.2.2.2.2.2.2.1)(h7_:IntKind.i64.has a0.2.2.2.2.2.2.2)(h8_:IntKind.i64.has a1.1)(h9_:IntKind.i64.has a1.2.1)(h10_:IntKind.i64.has a1.2.2.1)(h11_:IntKind.i64.has a1.2.2.2.1)(h12_:IntKind.i64.has a1.2.2.2.2.1)(h13_:IntKind.i64.has a1.2.2.2.2.2)(r:D36×Int)(hF:F.R02_Apply a0 a1=some r):
    A.Ct Tryd.prog 14 [.agg #[.int .i64 a0.1,.int .i64 a0.2.1,.int .i64 a0.2.2.1,.int .i64 a0.2.2.2.1,.int .i64 a0.2.2.2.2.1,.int .i64 a0.2.2.2.2.2.1,.int .i64 a0.2.2.2.2.2.2.1,.int .i64 a0.2.2.2.2.2.2.2],.agg #[.int .i64 a1.1,.int .i64 a1.2.1,.int .i64 a1.2.2.1,.int .i64 a1.2.2.2.1,.int .i64 a1.2.2.2.2.1,.int .i64 a1.2.2.2.2.2]] [] [] (fun v H'=>v=.tuple #[.agg #[.int .i64 r.1.1,.int .i64 r.1.2.1,.int .i64 r.1.2.2.1,.int .i64 r.1.2.2.2.1,.int .i64 r.1.2.2.2.2.1,.int .i64 r.1.2.2.2.2.2],.int .i64 r.2]∧H'=[]∧IntKind.i64.has r.1.1∧IntKind.i64.has r.1.2.1∧IntKind.i64.has r.1.2.2.1∧IntKind.i64.has r.1.2.2.2.1∧IntKind.i64.has r.1.2.2.2.2.1∧IntKind.i64.has r.1.2.2.2.2.2∧IntKind.i64.has r.2):=by
 refine A.Ct.enter Tryd.func14 rfl Tryd.ntmps14 rfl fun w0 F0=>?_
 rw[F.R02_Apply]at hF
 refine A.xl 1 ?_
 refine A.AL.box 0 (cs:=[.int .i64 a0.1,.int .i64 a0.2.1,.int .i64 a0.2.2.1,.int .i64 a0.2.2.2.1,.int .i64 a0.2.2.2.2.1,.int .i64 a0.2.2.2.2.2.1,.int .i64 a0.2.2.2.2.2.2.1,.int .i64 a0.2.2.2.2.2.2.2]) fun g1=>?_
 refine A.AL.box 1 (cs:=[.int .i64 a1.1,.int .i64 a1.2.1,.int .i64 a1.2.2.1,.int .i64 a1.2.2.2.1,.int .i64 a1.2.2.2.2.1,.int .i64 a1.2.2.2.2.2]) fun g2=>?_
 refine A.AL.alloc 2 (cs:=[.int .i64 0,.int .i64 0,.int .i64 0,.int .i64 0,.int .i64 0,.int .i64 0]) Tryd.zeroValue37 fun g3=>?_
 refine A.q0 [] [] [.n] [] ?_
 refine A.dl 3 ?_
 refine A.q0 [0] [] [.b 0 0] [(10,.agg #[.int .i64 a0.1,.int .i64 a0.2.1,.int .i64 a0.2.2.1,.int .i64 a0.2.2.2.1,.int .i64 a0.2.2.2.2.1,.int .i64 a0.2.2.2.2.2.1,.int .i64 a0.2.2.2.2.2.2.1,.int .i64 a0.2.2.2.2.2.2.2])] ?_
 obtain⟨r4,hv5,hF⟩:=A.bd_some hF
 refine A.AL.call 3 [] (first:=[]) (cap:=[]) cf38 (R02_Check_ok (a0.1,a0.2.1,a0.2.2.1,a0.2.2.2.1,(a0.2.2.2.2.1,a0.2.2.2.2.2.1,a0.2.2.2.2.2.2.1,a0.2.2.2.2.2.2.2)) h0_ h1_ h2_ h3_ h4_ h5_ h6_ h7_ r4 hv5) .nil ?_
 rintro _ _ ⟨rfl,rfl,hr6⟩
 refine⟨by kernel_rfl,?_⟩
 refine A.q0 [] [] [.n] [(6,.int .i64 r4)] ?_
 refine A.dl 2 ?_
 refine A.q0 [] [] [.n,.n] [(13,.bool (decide (r4≠0)))] ?_
 refine A.dx 1 ?_
 refine A.AX.cnd rfl hF (fun hb hF=>?_) (fun hb hF=>?_)
 ·refine A.xl 1 ?_
  refine A.q0 [] [] [.n,.n] [(14,.agg #[.int .i64 0,.int .i64 0,.int .i64 0,.int .i64 0,.int .i64 0,.int .i64 0]),(15,.int .i64 r4)] ?_
  refine A.sw 2 [] [.int .i64 0,.int .i64 0,.int .i64 0,.int .i64 0,.int .i64 0,.int .i64 0] ?_
  refine A.q0 [] [] [.n] [(5,.int .i64 r4)] ?_
  refine A.dx 1 ?_
  obtain rfl:=Option.some.inj hF
  exact A.AX.ret [] (.tuple #[.agg #[.int .i64 0,.int .i64 0,.int .i64 0,.int .i64 0,.int .i64 0,.int .i64 0],.int .i64 r4]) (fun a w hf hh=>Z.resv2 rfl (Z.rv_n hf rfl Tryd.isAgg37 Tryd.sizeOf37 (A.Hp.blk hh 2) rfl) (Z.rv_t hf rfl)) (⟨rfl,rfl,(A.hasl .i64 (0) rfl),(A.hasl .i64 (0) rfl),(A.hasl .i64 (0) rfl),(A.hasl .i64 (0) rfl),(A.hasl .i64 (0) rfl),(A.hasl .i64 (0) rfl),hr6⟩)
 refine A.xl 4 ?_
 refine A.q0 [1] [] [.b 0 0] [(16,.agg #[.int .i64 a1.1,.int .i64 a1.2.1,.int .i64 a1.2.2.1,.int .i64 a1.2.2.2.1,.int .i64 a1.2.2.2.2.1,.int .i64 a1.2.2.2.2.2])] ?_
 obtain⟨r7,hv8,hF⟩:=A.bd_some hF
 refine A.AL.call 43 [] (first:=[]) (cap:=[]) cf39 (R01_Check_ok (a1.1,a1.2.1,(a1.2.2.1,a1.2.2.2.1,a1.2.2.2.2.1,a1.2.2.2.2.2)) h8_ h9_ h10_ h11_ h12_ h13_ r7 hv8) .nil ?_
 rintro _ _ ⟨rfl,rfl,hr9⟩
 refine⟨by kernel_rfl,?_⟩
 refine A.q0 [] [] [.n] [(7,.int .i64 r7)] ?_
 refine A.dl 2 ?_
 refine A.q0 [] [] [.n,.n] [(19,.bool (decide (r7≠0)))] ?_
 refine A.dx 1 ?_
 refine A.AX.cnd rfl hF (fun hb hF=>?_) (fun hb hF=>?_)
 ·refine A.xl 1 ?_
  refine A.q0 [] [] [.n,.n] [(20,.agg #[.int .i64 0,.int .i64 0,.int .i64 0,.int .i64 0,.int .i64 0,.int .i64 0]),(21,.int .i64 r7)] ?_
  refine A.sw 2 [] [.int .i64 0,.int .i64 0,.int .i64 0,.int .i64 0,.int .i64 0,.int .i64 0] ?_
  refine A.q0 [] [] [.n] [(5,.int .i64 r7)] ?_
  refine A.dx 1 ?_
  obtain rfl:=Option.some.inj hF
  exact A.AX.ret [] (.tuple #[.agg #[.int .i64 0,.int .i64 0,.int .i64 0,.int .i64 0,.int .i64 0,.int .i64 0],.int .i64 r7]) (fun a w hf hh=>Z.resv2 rfl (Z.rv_n hf rfl Tryd.isAgg37 Tryd.sizeOf37 (A.Hp.blk hh 2) rfl) (Z.rv_t hf rfl)) (⟨rfl,rfl,(A.hasl .i64 (0) rfl),(A.hasl .i64 (0) rfl),(A.hasl .i64 (0) rfl),(A.hasl .i64 (0) rfl),(A.hasl .i64 (0) rfl),(A.hasl .i64 (0) rfl),hr9⟩)
 refine A.xl 4 ?_
 refine A.q0 [1,0] [] [.n,.b 0 1,.n,.b 1 0,.n] [(26,.bool (decide (a1.2.1≠a0.1)))] ?_
 refine A.dx 1 ?_
 refine A.AX.cnd rfl hF (fun hb hF=>?_) (fun hb hF=>?_)
 ·refine A.xl 1 ?_
  refine A.q0 [] [] [.n] [(27,.agg #[.int .i64 0,.int .i64 0,.int .i64 0,.int .i64 0,.int .i64 0,.int .i64 0])] ?_
  refine A.sw 2 [] [.int .i64 0,.int .i64 0,.int .i64 0,.int .i64 0,.int .i64 0,.int .i64 0] ?_
  refine A.q0 [] [] [.n] [(5,.int .i64 11)] ?_
  refine A.dx 1 ?_
  obtain rfl:=Option.some.inj hF
  exact A.AX.ret [] (.tuple #[.agg #[.int .i64 0,.int .i64 0,.int .i64 0,.int .i64 0,.int .i64 0,.int .i64 0],.int .i64 11]) (fun a w hf hh=>Z.resv2 rfl (Z.rv_n hf rfl Tryd.isAgg37 Tryd.sizeOf37 (A.Hp.blk hh 2) rfl) (Z.rv_t hf rfl)) (⟨rfl,rfl,(A.hasl .i64 (0) rfl),(A.hasl .i64 (0) rfl),(A.hasl .i64 (0) rfl),(A.hasl .i64 (0) rfl),(A.hasl .i64 (0) rfl),(A.hasl .i64 (0) rfl),(A.hasl .i64 (11) rfl)⟩)
 refine A.xl 3 ?_
 obtain⟨hc10,hF⟩:=A.gd_some hF
 refine A.q [1,0] [] [.n,.b 0 0,.n,.b 1 1,.n,.b 1 3,.n,.n] [Z.R64 (a0.2.1+a0.2.2.2.1)] [(35,.agg #[.int .i64 a1.1,.int .i64 (a0.2.1+a0.2.2.2.1),.int .i64 0,.int .i64 0,.int .i64 0,.int .i64 0])] hc10 ?_
 refine A.AL.alloc 83 (cs:=[.int .i64 0,.int .i64 0,.int .i64 0,.int .i64 0,.int .i64 0,.int .i64 0]) Tryd.zeroValue37 fun g11=>?_
 refine A.sw 83 [] [.int .i64 a1.1,.int .i64 (a0.2.1+a0.2.2.2.1),.int .i64 0,.int .i64 0,.int .i64 0,.int .i64 0] ?_
 refine A.dl 3 ?_
 refine A.q0 [] [] [.n] [(9,.int .i64 0)] ?_
 refine A.dx 2 ?_
 refine A.lp_ [2,3,4,8] [0,1,2] (fun f nl nh=>∃(y12:Int),∃(y14:Int),∃(y16:Int),∃(y18:Int),∃(y20:Int),∃(y22:Int),∃(y24:Int),nl=[(9,.int .i64 y24)]∧nh=[(83,.blk g11 37 [.int .i64 y12,.int .i64 y14,.int .i64 y16,.int .i64 y18,.int .i64 y20,.int .i64 y22])]∧IntKind.i64.has y12∧IntKind.i64.has y14∧IntKind.i64.has y16∧IntKind.i64.has y18∧IntKind.i64.has y20∧IntKind.i64.has y22∧IntKind.i64.has y24∧F.R02_Apply_l2 a0 a1 f y12 y14 y16 y18 y20 y22 y24=some r) ⟨a1.1,(a0.2.1+a0.2.2.2.1),0,0,0,0,0,rfl,rfl,h8_,(Z.i64_has hc10),(A.hasl .i64 (0) rfl),(A.hasl .i64 (0) rfl),(A.hasl .i64 (0) rfl),(A.hasl .i64 (0) rfl),(A.hasl .i64 (0) rfl),hF⟩ ?_
 rintro f26 _ _ ⟨y12,y14,y16,y18,y20,y22,y24,rfl,rfl,hy13,hy15,hy17,hy19,hy21,hy23,hy25,hF⟩
 rcases f26 with _|f26
 ·exact A.no0 hF
 rw[F.R02_Apply_l2]at hF
 refine A.xl 2 ?_
 refine A.q0 [] [] [.n,.n] [(37,.bool (decide (y24<4)))] ?_
 refine A.dx 1 ?_
 refine A.AX.cnd rfl hF (fun hb hF=>?_) (fun hb hF=>?_)
 ·refine A.xx 2 ?_
  refine A.AX.join [2,3,4,8,9] [0,1,2] (fun nl nh=>∃(y27:Int),∃(y29:Int),∃(y31:Int),∃(y33:Int),nl=[]∧nh=[(83,.blk g11 37 [.int .i64 y12,.int .i64 y14,.int .i64 y27,.int .i64 y29,.int .i64 y31,.int .i64 y33])]∧IntKind.i64.has y27∧IntKind.i64.has y29∧IntKind.i64.has y31∧IntKind.i64.has y33∧F.R02_Apply_j1 (F.R02_Apply_l2 a0 a1 f26) y12 y14 y24 y27 y29 y31 y33=some r) ?_ ?_
  ·refine A.xl 3 ?_
   obtain⟨hc36,hF⟩:=A.gd_some hF
   refine A.q [0] [] [.n,.n,.b 0 1,.n,.n,.n] [Z.R64 (a0.2.1-1)] [(43,.bool (decide (y24<a0.2.1-1)))] hc36 ?_
   refine A.dx 1 ?_
   refine A.AX.cnd rfl hF (fun hb hF=>?_) (fun hb hF=>?_)
   ·refine A.xl 0 ?_
    refine A.q0 [] [] [.n,.n,.n] [(49,.int .i64 y24),(50,.int .i64 y24),(51,.pointer (some ⟨g2,2,none⟩))] ?_
    obtain⟨x37,hv38,hF⟩:=A.bd_some hF
    refine A.AL.ixb 1 172 (fun v:Int=>.int .i64 v) [a1.2.2.1,a1.2.2.2.1,a1.2.2.2.2.1,a1.2.2.2.2.2] hv38 ?_
    refine A.q0 [] [172] [.e 0 0,.n] [(53,.int .i64 x37),(54,.pointer (some ⟨g11,2,none⟩))] ?_
    obtain⟨x39,hv40,hF⟩:=A.bd_some hF
    refine A.AL.ixb 83 173 (fun v:Int=>.int .i64 v) [y16,y18,y20,y22] hv40 ?_
    refine A.AL.stb 83 [173] hv40 (A.arr4 (Q:=fun i=>[.int .i64 y12,.int .i64 y14,.int .i64 (if i=0 then x37 else y16),.int .i64 (if i=1 then x37 else y18),.int .i64 (if i=2 then x37 else y20),.int .i64 (if i=3 then x37 else y22)]=List.set [.int .i64 y12,.int .i64 y14,.int .i64 y16,.int .i64 y18,.int .i64 y20,.int .i64 y22] (2+i.toNat*1) (.int .i64 x37)) hv40 rfl rfl rfl rfl) ?_
    refine A.de 2 ?_
    exact A.j ⟨(if y24=0 then x37 else y16),(if y24=1 then x37 else y18),(if y24=2 then x37 else y20),(if y24=3 then x37 else y22),rfl,rfl,(A.ite_has (A.has_ix hv38 (List.forall_mem_cons.2 ⟨h10_,(List.forall_mem_cons.2 ⟨h11_,(List.forall_mem_cons.2 ⟨h12_,(List.forall_mem_cons.2 ⟨h13_,(by simp)⟩)⟩)⟩)⟩)) hy17),(A.ite_has (A.has_ix hv38 (List.forall_mem_cons.2 ⟨h10_,(List.forall_mem_cons.2 ⟨h11_,(List.forall_mem_cons.2 ⟨h12_,(List.forall_mem_cons.2 ⟨h13_,(by simp)⟩)⟩)⟩)⟩)) hy19),(A.ite_has (A.has_ix hv38 (List.forall_mem_cons.2 ⟨h10_,(List.forall_mem_cons.2 ⟨h11_,(List.forall_mem_cons.2 ⟨h12_,(List.forall_mem_cons.2 ⟨h13_,(by simp)⟩)⟩)⟩)⟩)) hy21),(A.ite_has (A.has_ix hv38 (List.forall_mem_cons.2 ⟨h10_,(List.forall_mem_cons.2 ⟨h11_,(List.forall_mem_cons.2 ⟨h12_,(List.forall_mem_cons.2 ⟨h13_,(by simp)⟩)⟩)⟩)⟩)) hy23),hF⟩
   refine A.xl 1 ?_
   obtain⟨hc41,hF⟩:=A.gd_some hF
   refine A.q [0] [] [.n,.n,.b 0 1,.n,.n,.n] [Z.R64 (a0.2.1-1)] [(56,.bool (decide (y24=a0.2.1-1)))] hc41 ?_
   refine A.dx 1 ?_
   refine A.AX.cnd rfl hF (fun hb hF=>?_) (fun hb hF=>?_)
   ·refine A.AX.dr mixed 10 11 (A.mb 11 0) ?_
    refine A.hq A.pb [] [0,1,2,83] [0] [] (A.mb 11 359) 5 [(0,.n),(1,.n),(2,.n),(5,.n),(8,.n),(6,.b 0 2)] [(62,.int .i64 y24),(63,.int .i64 y24),(64,.pointer (some ⟨g2,2,none⟩)),(70,.pointer (some ⟨g11,2,none⟩)),(68,.int .i64 a0.2.2.1)] ?_
    obtain⟨x42,hv43,hF⟩:=A.bd_some hF
    refine A.pkb 1 174 (fun v:Int=>.int .i64 v) [a1.2.2.1,a1.2.2.2.1,a1.2.2.2.2.1,a1.2.2.2.2.2] 2 hv43 ?_
    refine A.AH.v A.pb [0,1,2,83] [0,1,2,83,174] 3 (A.mb 11 367) rfl (fun a w hf hh=>A.r_indexArr Tryd.underlying35 Tryd.sizeOf2 (hf.eval rfl) (hf.eval rfl) (A.ix_ok hv43).1 (A.ix_ok hv43).2) ?_
    obtain⟨hc44,hF⟩:=A.gd_some hF
    refine A.AH.q A.pb [0,1,2,83,174] [0,1,2,83,174] [] [174] (A.mb 11 511) 2 [(4,.e 0 0),(7,.n)] [69] [Z.R64 (x42+a0.2.2.1)] [(69,.int .i64 (x42+a0.2.2.1))] hc44 ?_
    obtain⟨x45,hv46,hF⟩:=A.bd_some hF
    refine A.pkb 83 175 (fun v:Int=>.int .i64 v) [y16,y18,y20,y22] 2 hv46 ?_
    refine A.AH.v A.pb [0,1,2,83,174] [0,1,2,83,174,175] 9 (A.mb 11 1023) rfl (fun a w hf hh=>A.r_indexArr Tryd.underlying35 Tryd.sizeOf2 (hf.eval rfl) (hf.eval rfl) (A.ix_ok hv46).1 (A.ix_ok hv46).2) ?_
    refine A.AH.one 10 ?_
    refine A.AL.stb 83 [175] hv46 (A.arr4 (Q:=fun i=>[.int .i64 y12,.int .i64 y14,.int .i64 (if i=0 then x42+a0.2.2.1 else y16),.int .i64 (if i=1 then x42+a0.2.2.1 else y18),.int .i64 (if i=2 then x42+a0.2.2.1 else y20),.int .i64 (if i=3 then x42+a0.2.2.1 else y22)]=List.set [.int .i64 y12,.int .i64 y14,.int .i64 y16,.int .i64 y18,.int .i64 y20,.int .i64 y22] (2+i.toNat*1) (.int .i64 (x42+a0.2.2.1))) hv46 rfl rfl rfl rfl) ?_
    refine A.AH.nm (A.mb 11 2047) ?_
    refine A.AH.done ?_
    refine A.ee 2 ?_
    exact A.j ⟨(if y24=0 then x42+a0.2.2.1 else y16),(if y24=1 then x42+a0.2.2.1 else y18),(if y24=2 then x42+a0.2.2.1 else y20),(if y24=3 then x42+a0.2.2.1 else y22),rfl,rfl,(A.ite_has (Z.i64_has hc44) hy17),(A.ite_has (Z.i64_has hc44) hy19),(A.ite_has (Z.i64_has hc44) hy21),(A.ite_has (Z.i64_has hc44) hy23),hF⟩
   refine A.xl 1 ?_
   obtain⟨hc47,hF⟩:=A.gd_some hF
   refine A.q [0] [] [.n,.n,.b 0 1,.n,.b 0 3,.n,.n,.n] [Z.R64 (a0.2.1+a0.2.2.2.1)] [(72,.bool (decide (y24<a0.2.1+a0.2.2.2.1)))] hc47 ?_
   refine A.dx 1 ?_
   refine A.AX.cnd rfl hF (fun hb hF=>?_) (fun hb hF=>?_)
   ·refine A.xl 0 ?_
    obtain⟨hc48,hF⟩:=A.gd_some hF
    refine A.q [0] [] [.n,.n,.n,.b 0 1,.n,.n] [Z.R64 (y24-a0.2.1)] [(80,.int .i64 y24),(84,.int .i64 (y24-a0.2.1)),(85,.pointer (some ⟨g1,4,none⟩))] hc48 ?_
    obtain⟨x49,hv50,hF⟩:=A.bd_some hF
    refine A.AL.ixb 0 176 (fun v:Int=>.int .i64 v) [a0.2.2.2.2.1,a0.2.2.2.2.2.1,a0.2.2.2.2.2.2.1,a0.2.2.2.2.2.2.2] hv50 ?_
    refine A.q0 [] [176] [.e 0 0,.n] [(87,.int .i64 x49),(88,.pointer (some ⟨g11,2,none⟩))] ?_
    obtain⟨x51,hv52,hF⟩:=A.bd_some hF
    refine A.AL.ixb 83 177 (fun v:Int=>.int .i64 v) [y16,y18,y20,y22] hv52 ?_
    refine A.AL.stb 83 [177] hv52 (A.arr4 (Q:=fun i=>[.int .i64 y12,.int .i64 y14,.int .i64 (if i=0 then x49 else y16),.int .i64 (if i=1 then x49 else y18),.int .i64 (if i=2 then x49 else y20),.int .i64 (if i=3 then x49 else y22)]=List.set [.int .i64 y12,.int .i64 y14,.int .i64 y16,.int .i64 y18,.int .i64 y20,.int .i64 y22] (2+i.toNat*1) (.int .i64 x49)) hv52 rfl rfl rfl rfl) ?_
    refine A.de 2 ?_
    exact A.j ⟨(if y24=0 then x49 else y16),(if y24=1 then x49 else y18),(if y24=2 then x49 else y20),(if y24=3 then x49 else y22),rfl,rfl,(A.ite_has (A.has_ix hv50 (List.forall_mem_cons.2 ⟨h4_,(List.forall_mem_cons.2 ⟨h5_,(List.forall_mem_cons.2 ⟨h6_,(List.forall_mem_cons.2 ⟨h7_,(by simp)⟩)⟩)⟩)⟩)) hy17),(A.ite_has (A.has_ix hv50 (List.forall_mem_cons.2 ⟨h4_,(List.forall_mem_cons.2 ⟨h5_,(List.forall_mem_cons.2 ⟨h6_,(List.forall_mem_cons.2 ⟨h7_,(by simp)⟩)⟩)⟩)⟩)) hy19),(A.ite_has (A.has_ix hv50 (List.forall_mem_cons.2 ⟨h4_,(List.forall_mem_cons.2 ⟨h5_,(List.forall_mem_cons.2 ⟨h6_,(List.forall_mem_cons.2 ⟨h7_,(by simp)⟩)⟩)⟩)⟩)) hy21),(A.ite_has (A.has_ix hv50 (List.forall_mem_cons.2 ⟨h4_,(List.forall_mem_cons.2 ⟨h5_,(List.forall_mem_cons.2 ⟨h6_,(List.forall_mem_cons.2 ⟨h7_,(by simp)⟩)⟩)⟩)⟩)) hy23),hF⟩
   refine A.xl 0 ?_
   refine A.q0 [] [] [.n,.n] [(40,.int .i64 y24),(41,.pointer (some ⟨g11,2,none⟩))] ?_
   obtain⟨x53,hv54,hF⟩:=A.bd_some hF
   refine A.AL.ixb 83 178 (fun v:Int=>.int .i64 v) [y16,y18,y20,y22] hv54 ?_
   refine A.AL.stb 83 [178] hv54 (A.arr4 (Q:=fun i=>[.int .i64 y12,.int .i64 y14,.int .i64 (if i=0 then 0 else y16),.int .i64 (if i=1 then 0 else y18),.int .i64 (if i=2 then 0 else y20),.int .i64 (if i=3 then 0 else y22)]=List.set [.int .i64 y12,.int .i64 y14,.int .i64 y16,.int .i64 y18,.int .i64 y20,.int .i64 y22] (2+i.toNat*1) (.int .i64 0)) hv54 rfl rfl rfl rfl) ?_
   refine A.de 2 ?_
   exact A.j ⟨(if y24=0 then 0 else y16),(if y24=1 then 0 else y18),(if y24=2 then 0 else y20),(if y24=3 then 0 else y22),rfl,rfl,(A.ite_has (A.hasl .i64 (0) rfl) hy17),(A.ite_has (A.hasl .i64 (0) rfl) hy19),(A.ite_has (A.hasl .i64 (0) rfl) hy21),(A.ite_has (A.hasl .i64 (0) rfl) hy23),hF⟩
  rintro _ _ ⟨y27,y29,y31,y33,rfl,rfl,hy28,hy30,hy32,hy34,hF⟩
  rw[F.R02_Apply_j1]at hF
  refine A.xl 0 ?_
  obtain⟨hc35,hF⟩:=A.gd_some hF
  refine A.q [] [] [.n,.n,.n] [Z.R64 (y24+1)] [(9,.int .i64 (y24+1))] hc35 ?_
  refine A.AL.done ?_
  exact A.j ⟨_,Nat.lt_succ_self _,⟨y12,y14,y27,y29,y31,y33,(y24+1),rfl,rfl,hy13,hy15,hy28,hy30,hy32,hy34,(Z.i64_has hc35),hF⟩⟩
 refine A.xl 4 ?_
 refine A.q0 [83] [] [.b 0 0] [(90,.agg #[.int .i64 y12,.int .i64 y14,.int .i64 y16,.int .i64 y18,.int .i64 y20,.int .i64 y22])] ?_
 obtain⟨r55,hv56,hF⟩:=A.bd_some hF
 refine A.AL.call 179 [] (first:=[]) (cap:=[]) cf39 (R01_Check_ok (y12,y14,(y16,y18,y20,y22)) hy13 hy15 hy17 hy19 hy21 hy23 r55 hv56) .nil ?_
 rintro _ _ ⟨rfl,rfl,hr57⟩
 refine⟨by kernel_rfl,?_⟩
 refine A.q0 [] [] [.n] [(92,.bool (decide (r55≠0)))] ?_
 refine A.dx 1 ?_
 refine A.AX.cnd rfl hF (fun hb hF=>?_) (fun hb hF=>?_)
 ·refine A.xl 1 ?_
  refine A.q0 [] [] [.n] [(93,.agg #[.int .i64 0,.int .i64 0,.int .i64 0,.int .i64 0,.int .i64 0,.int .i64 0])] ?_
  refine A.sw 2 [] [.int .i64 0,.int .i64 0,.int .i64 0,.int .i64 0,.int .i64 0,.int .i64 0] ?_
  refine A.q0 [] [] [.n] [(5,.int .i64 12)] ?_
  refine A.dx 1 ?_
  obtain rfl:=Option.some.inj hF
  exact A.AX.ret [] (.tuple #[.agg #[.int .i64 0,.int .i64 0,.int .i64 0,.int .i64 0,.int .i64 0,.int .i64 0],.int .i64 12]) (fun a w hf hh=>Z.resv2 rfl (Z.rv_n hf rfl Tryd.isAgg37 Tryd.sizeOf37 (A.Hp.blk hh 2) rfl) (Z.rv_t hf rfl)) (⟨rfl,rfl,(A.hasl .i64 (0) rfl),(A.hasl .i64 (0) rfl),(A.hasl .i64 (0) rfl),(A.hasl .i64 (0) rfl),(A.hasl .i64 (0) rfl),(A.hasl .i64 (0) rfl),(A.hasl .i64 (12) rfl)⟩)
 refine A.xl 3 ?_
 refine A.q0 [83] [] [.b 0 0] [(94,.agg #[.int .i64 y12,.int .i64 y14,.int .i64 y16,.int .i64 y18,.int .i64 y20,.int .i64 y22])] ?_
 refine A.sw 2 [] [.int .i64 y12,.int .i64 y14,.int .i64 y16,.int .i64 y18,.int .i64 y20,.int .i64 y22] ?_
 refine A.q0 [] [] [.n] [(5,.int .i64 0)] ?_
 refine A.dx 1 ?_
 obtain rfl:=Option.some.inj hF
 exact A.AX.ret [] (.tuple #[.agg #[.int .i64 y12,.int .i64 y14,.int .i64 y16,.int .i64 y18,.int .i64 y20,.int .i64 y22],.int .i64 0]) (fun a w hf hh=>Z.resv2 rfl (Z.rv_n hf rfl Tryd.isAgg37 Tryd.sizeOf37 (A.Hp.blk hh 2) rfl) (Z.rv_t hf rfl)) (⟨rfl,rfl,hy13,hy15,hy17,hy19,hy21,hy23,(A.hasl .i64 (0) rfl)⟩)
end Go.Proofs.YtpdhaldfdeamdaaDoor
end
section
set_option linter.unusedVariables false
set_option linter.unusedSimpArgs false
set_option maxRecDepth 20000
set_option maxHeartbeats 8000000
set_option synthInstance.maxSize 1000000
set_option synthInstance.maxHeartbeats 400000
namespace Go.Proofs.YtpdhaldfdeamdaaDoor
open Go.RowKit
def F.R02_leq_j1 (a0:D44)(a1:D44)(a2:Int)(y7:Int)(y9:Int):Option Bool:=if(bif decide (a2<a0.2.1)then decide (a1.2.1≤a2)else false)=true then(some (decide (y9=1048576)))else(some (decide (y7≤y9)))
def F.R02_leq_j2 (a0:D44)(a1:D44)(a2:Int)(y5:Int)(y7:Int):Option Bool:=if a1.2.1≤a2 then(A.gd (Z.R64 (a2-a1.2.1)) ((A.ix [a1.2.2.2.2.1,a1.2.2.2.2.2.1,a1.2.2.2.2.2.2.1,a1.2.2.2.2.2.2.2] (a2-a1.2.1)).bind fun x12=>(F.R02_leq_j1 a0 a1 a2 y7 x12)))else(F.R02_leq_j1 a0 a1 a2 y7 y5)
def F.R02_leq_j3 (a0:D44)(a1:D44)(a2:Int)(y3:Int)(y5:Int):Option Bool:=if a0.2.1≤a2 then(A.gd (Z.R64 (a2-a0.2.1)) ((A.ix [a0.2.2.2.2.1,a0.2.2.2.2.2.1,a0.2.2.2.2.2.2.1,a0.2.2.2.2.2.2.2] (a2-a0.2.1)).bind fun x15=>(F.R02_leq_j2 a0 a1 a2 y5 x15)))else(F.R02_leq_j2 a0 a1 a2 y5 y3)
def F.R02_leq_j4 (a0:D44)(a1:D44)(a2:Int)(y3:Int):Option Bool:=A.gd (Z.R64 (a1.2.1-1)) (if a2=a1.2.1-1 then(F.R02_leq_j3 a0 a1 a2 y3 a1.2.2.1)else(F.R02_leq_j3 a0 a1 a2 y3 0))
def F.R02_leq (a0:D44)(a1:D44)(a2:Int):Option Bool:=A.gd (Z.R64 (a0.2.1-1)) (if a2=a0.2.1-1 then(F.R02_leq_j4 a0 a1 a2 a0.2.2.1)else(F.R02_leq_j4 a0 a1 a2 0))
theorem R02_leq_ok (a0:D44)(a1:D44)(a2:Int)(h0_:IntKind.i64.has a0.1)(h1_:IntKind.i64.has a0.2.1)(h2_:IntKind.i64.has a0.2.2.1)(h3_:IntKind.i64.has a0.2.2.2.1)(h4_:IntKind.i64.has a0.2.2.2.2.1)(h5_:IntKind.i64.has a0.2.2.2.2.2.1)(h6_:IntKind.i64.has a0.2.2.2.2.2.2.1)(h7_:IntKind.i64.has a0.2.2.2.2.2.2.2)(h8_:IntKind.i64.has a1.1)(h9_:IntKind.i64.has a1.2.1)(h10_:IntKind.i64.has a1.2.2.1)(h11_:IntKind.i64.has a1.2.2.2.1)(h12_:IntKind.i64.has a1.2.2.2.2.1)(h13_:IntKind.i64.has a1.2.2.2.2.2.1)(h14_:IntKind.i64.has a1.2.2.2.2.2.2.1)(h15_:IntKind.i64.has a1.2.2.2.2.2.2.2)(h16_:IntKind.i64.has a2)(r:Bool)(hF:F.R02_leq a0 a1 a2=some r):
    A.Ct Tryd.prog 41 [.agg #[.int .i64 a0.1,.int .i64 a0.2.1,.int .i64 a0.2.2.1,.int .i64 a0.2.2.2.1,.int .i64 a0.2.2.2.2.1,.int .i64 a0.2.2.2.2.2.1,.int .i64 a0.2.2.2.2.2.2.1,.int .i64 a0.2.2.2.2.2.2.2],.agg #[.int .i64 a1.1,.int .i64 a1.2.1,.int .i64 a1.2.2.1,.int .i64 a1.2.2.2.1,.int .i64 a1.2.2.2.2.1,.int .i64 a1.2.2.2.2.2.1,.int .i64 a1.2.2.2.2.2.2.1,.int .i64 a1.2.2.2.2.2.2.2],.int .i64 a2] [] [] (fun v H'=>v=.bool r∧H'=[]):=by
 refine A.Ct.enter Tryd.func41 rfl Tryd.ntmps41 rfl fun w0 F0=>?_
 rw[F.R02_leq]at hF
 refine A.xl 1 ?_
 refine A.AL.box 0 (cs:=[.int .i64 a0.1,.int .i64 a0.2.1,.int .i64 a0.2.2.1,.int .i64 a0.2.2.2.1,.int .i64 a0.2.2.2.2.1,.int .i64 a0.2.2.2.2.2.1,.int .i64 a0.2.2.2.2.2.2.1,.int .i64 a0.2.2.2.2.2.2.2]) fun g1=>?_
 refine A.AL.box 1 (cs:=[.int .i64 a1.1,.int .i64 a1.2.1,.int .i64 a1.2.2.1,.int .i64 a1.2.2.2.1,.int .i64 a1.2.2.2.2.1,.int .i64 a1.2.2.2.2.2.1,.int .i64 a1.2.2.2.2.2.2.1,.int .i64 a1.2.2.2.2.2.2.2]) fun g2=>?_
 refine A.q0 [] [] [.n] [] ?_
 refine A.dl 2 ?_
 refine A.q0 [] [] [.n,.n] [(7,.int .i64 0),(8,.int .i64 0)] ?_
 refine A.dx 1 ?_
 refine A.AX.join [2,3,4,8] [0,1] (fun nl nh=>∃(y3:Int),nl=[(7,.int .i64 y3)]∧nh=[]∧IntKind.i64.has y3∧F.R02_leq_j4 a0 a1 a2 y3=some r) ?_ ?_
 ·refine A.xl 1 ?_
  obtain⟨hc18,hF⟩:=A.gd_some hF
  refine A.q [0] [] [.n,.n,.b 0 1,.n,.n] [Z.R64 (a0.2.1-1)] [(13,.bool (decide (a2=a0.2.1-1)))] hc18 ?_
  refine A.dx 1 ?_
  refine A.AX.cnd rfl hF (fun hb hF=>?_) (fun hb hF=>?_)
  ·refine A.xl 0 ?_
   refine A.q0 [0] [] [.n,.b 0 2,.n] [(7,.int .i64 a0.2.2.1)] ?_
   refine A.AL.done ?_
   exact A.j ⟨a0.2.2.1,rfl,rfl,h2_,hF⟩
  refine A.xe 1 ?_
  exact A.j ⟨0,rfl,rfl,(A.hasl .i64 (0) rfl),hF⟩
 rintro _ _ ⟨y3,rfl,rfl,hy4,hF⟩
 rw[F.R02_leq_j4]at hF
 refine A.AX.join [2,3,4,7] [0,1] (fun nl nh=>∃(y5:Int),nl=[(8,.int .i64 y5)]∧nh=[]∧IntKind.i64.has y5∧F.R02_leq_j3 a0 a1 a2 y3 y5=some r) ?_ ?_
 ·refine A.xl 1 ?_
  obtain⟨hc17,hF⟩:=A.gd_some hF
  refine A.q [1] [] [.n,.n,.b 0 1,.n,.n] [Z.R64 (a1.2.1-1)] [(20,.bool (decide (a2=a1.2.1-1)))] hc17 ?_
  refine A.dx 1 ?_
  refine A.AX.cnd rfl hF (fun hb hF=>?_) (fun hb hF=>?_)
  ·refine A.xl 0 ?_
   refine A.q0 [1] [] [.n,.b 0 2,.n] [(8,.int .i64 a1.2.2.1)] ?_
   refine A.AL.done ?_
   exact A.j ⟨a1.2.2.1,rfl,rfl,h10_,hF⟩
  refine A.xe 1 ?_
  exact A.j ⟨0,rfl,rfl,(A.hasl .i64 (0) rfl),hF⟩
 rintro _ _ ⟨y5,rfl,rfl,hy6,hF⟩
 rw[F.R02_leq_j3]at hF
 refine A.AX.join [2,3,4,8] [0,1] (fun nl nh=>∃(y7:Int),nl=[(7,.int .i64 y7)]∧nh=[]∧IntKind.i64.has y7∧F.R02_leq_j2 a0 a1 a2 y5 y7=some r) ?_ ?_
 ·refine A.xl 1 ?_
  refine A.q0 [0] [] [.n,.n,.b 0 1,.n] [(26,.bool (decide (a0.2.1≤a2)))] ?_
  refine A.dx 1 ?_
  refine A.AX.cnd rfl hF (fun hb hF=>?_) (fun hb hF=>?_)
  ·refine A.xl 0 ?_
   obtain⟨hc14,hF⟩:=A.gd_some hF
   refine A.q [0] [] [.n,.n,.b 0 1,.n,.n] [Z.R64 (a2-a0.2.1)] [(30,.int .i64 (a2-a0.2.1)),(31,.pointer (some ⟨g1,4,none⟩))] hc14 ?_
   obtain⟨x15,hv16,hF⟩:=A.bd_some hF
   refine A.AL.ixb 0 2 (fun v:Int=>.int .i64 v) [a0.2.2.2.2.1,a0.2.2.2.2.2.1,a0.2.2.2.2.2.2.1,a0.2.2.2.2.2.2.2] hv16 ?_
   refine A.q0 [] [2] [.e 0 0,.n] [(7,.int .i64 x15)] ?_
   refine A.AL.done ?_
   exact A.j ⟨x15,rfl,rfl,(A.has_ix hv16 (List.forall_mem_cons.2 ⟨h4_,(List.forall_mem_cons.2 ⟨h5_,(List.forall_mem_cons.2 ⟨h6_,(List.forall_mem_cons.2 ⟨h7_,(by simp)⟩)⟩)⟩)⟩)),hF⟩
  refine A.xe 1 ?_
  exact A.j ⟨y3,rfl,rfl,hy4,hF⟩
 rintro _ _ ⟨y7,rfl,rfl,hy8,hF⟩
 rw[F.R02_leq_j2]at hF
 refine A.AX.join [2,3,4,7] [0,1] (fun nl nh=>∃(y9:Int),nl=[(8,.int .i64 y9)]∧nh=[]∧IntKind.i64.has y9∧F.R02_leq_j1 a0 a1 a2 y7 y9=some r) ?_ ?_
 ·refine A.xl 1 ?_
  refine A.q0 [1] [] [.n,.n,.b 0 1,.n] [(37,.bool (decide (a1.2.1≤a2)))] ?_
  refine A.dx 1 ?_
  refine A.AX.cnd rfl hF (fun hb hF=>?_) (fun hb hF=>?_)
  ·refine A.xl 0 ?_
   obtain⟨hc11,hF⟩:=A.gd_some hF
   refine A.q [1] [] [.n,.n,.b 0 1,.n,.n] [Z.R64 (a2-a1.2.1)] [(41,.int .i64 (a2-a1.2.1)),(42,.pointer (some ⟨g2,4,none⟩))] hc11 ?_
   obtain⟨x12,hv13,hF⟩:=A.bd_some hF
   refine A.AL.ixb 1 3 (fun v:Int=>.int .i64 v) [a1.2.2.2.2.1,a1.2.2.2.2.2.1,a1.2.2.2.2.2.2.1,a1.2.2.2.2.2.2.2] hv13 ?_
   refine A.q0 [] [3] [.e 0 0,.n] [(8,.int .i64 x12)] ?_
   refine A.AL.done ?_
   exact A.j ⟨x12,rfl,rfl,(A.has_ix hv13 (List.forall_mem_cons.2 ⟨h12_,(List.forall_mem_cons.2 ⟨h13_,(List.forall_mem_cons.2 ⟨h14_,(List.forall_mem_cons.2 ⟨h15_,(by simp)⟩)⟩)⟩)⟩)),hF⟩
  refine A.xe 1 ?_
  exact A.j ⟨y5,rfl,rfl,hy6,hF⟩
 rintro _ _ ⟨y9,rfl,rfl,hy10,hF⟩
 rw[F.R02_leq_j1]at hF
 refine A.xl 2 ?_
 refine A.q0 [0,1] [] [.n,.n,.b 0 1,.n,.n,.sy .n,.sy .n,.sy (.b 1 1),.sy .n,.pk] [(54,.bool (bif decide (a2<a0.2.1)then decide (a1.2.1≤a2)else false))] ?_
 refine A.dx 1 ?_
 refine A.AX.cnb rfl hF (fun hb hF=>?_) (fun hb hF=>?_)
 ·refine A.xl 1 ?_
  refine A.q0 [] [] [.n,.n,.n] [(6,.bool (decide (y9=1048576)))] ?_
  refine A.dx 1 ?_
  obtain rfl:=Option.some.inj hF
  exact A.rt1 [] ⟨rfl,rfl⟩
 refine A.xl 3 ?_
 refine A.q0 [] [] [.n,.n,.n,.n] [(6,.bool (decide (y7≤y9)))] ?_
 refine A.dx 1 ?_
 obtain rfl:=Option.some.inj hF
 exact A.rt1 [] ⟨rfl,rfl⟩
def F.R02_Leq_l1 (a0:D44)(a1:D44):Nat→Int→Option Bool
 |0,_=>none
 |f+1,y4=>A.gd (Z.R64 (a0.2.1+a0.2.2.2.1)) (if y4<a0.2.1+a0.2.2.2.1 then((F.R02_leq (a0.1,a0.2.1,a0.2.2.1,a0.2.2.2.1,(a0.2.2.2.2.1,a0.2.2.2.2.2.1,a0.2.2.2.2.2.2.1,a0.2.2.2.2.2.2.2)) (a1.1,a1.2.1,a1.2.2.1,a1.2.2.2.1,(a1.2.2.2.2.1,a1.2.2.2.2.2.1,a1.2.2.2.2.2.2.1,a1.2.2.2.2.2.2.2)) y4).bind fun r8=>(if(!r8)=true then(some false)else(A.gd (Z.R64 (y4+1)) ((F.R02_Leq_l1 a0 a1 f) (y4+1)))))else(some true))
def F.R02_Leq_j2 (a0:D44)(a1:D44)(y3:Bool):Option Bool:=if y3=true then(some false)else(F.R02_Leq_l1 a0 a1 A.FU 0)
def F.R02_Leq (a0:D44)(a1:D44):Option Bool:=(F.R02_Check (a0.1,a0.2.1,a0.2.2.1,a0.2.2.2.1,(a0.2.2.2.2.1,a0.2.2.2.2.2.1,a0.2.2.2.2.2.2.1,a0.2.2.2.2.2.2.2))).bind fun r11=>(if r11≠0 then(F.R02_Leq_j2 a0 a1 true)else((F.R02_Check (a1.1,a1.2.1,a1.2.2.1,a1.2.2.2.1,(a1.2.2.2.2.1,a1.2.2.2.2.2.1,a1.2.2.2.2.2.2.1,a1.2.2.2.2.2.2.2))).bind fun r14=>(A.gd (((bif decide (r14≠0)then true else decide (a0.1≠a1.1))=false→Z.R64 (a0.2.1+a0.2.2.2.1))∧((bif decide (r14≠0)then true else decide (a0.1≠a1.1))=false→Z.R64 (a1.2.1+a1.2.2.2.1))) (F.R02_Leq_j2 a0 a1 (bif bif decide (r14≠0)then true else decide (a0.1≠a1.1)then true else decide (a0.2.1+a0.2.2.2.1≠a1.2.1+a1.2.2.2.1))))))
theorem R02_Leq_ok (a0:D44)(a1:D44)(h0_:IntKind.i64.has a0.1)(h1_:IntKind.i64.has a0.2.1)(h2_:IntKind.i64.has a0.2.2.1)(h3_:IntKind.i64.has a0.2.2.2.1)(h4_:IntKind.i64.has a0.2.2.2.2.1)(h5_:IntKind.i64.has a0.2.2.2.2.2.1)(h6_:IntKind.i64.has a0.2.2.2.2.2.2.1)(h7_:IntKind.i64.has a0.2.2.2.2.2.2.2)(h8_:IntKind.i64.has a1.1)(h9_:IntKind.i64.has a1.2.1)(h10_:IntKind.i64.has a1.2.2.1)(h11_:IntKind.i64.has a1.2.2.2.1)(h12_:IntKind.i64.has a1.2.2.2.2.1)(h13_:IntKind.i64.has a1.2.2.2.2.2.1)(h14_:IntKind.i64.has a1.2.2.2.2.2.2.1)(h15_:IntKind.i64.has a1.2.2.2.2.2.2.2)(r:Bool)(hF:F.R02_Leq a0 a1=some r):
    A.Ct Tryd.prog 16 [.agg #[.int .i64 a0.1,.int .i64 a0.2.1,.int .i64 a0.2.2.1,.int .i64 a0.2.2.2.1,.int .i64 a0.2.2.2.2.1,.int .i64 a0.2.2.2.2.2.1,.int .i64 a0.2.2.2.2.2.2.1,.int .i64 a0.2.2.2.2.2.2.2],.agg #[.int .i64 a1.1,.int .i64 a1.2.1,.int .i64 a1.2.2.1,.int .i64 a1.2.2.2.1,.int .i64 a1.2.2.2.2.1,.int .i64 a1.2.2.2.2.2.1,.int .i64 a1.2.2.2.2.2.2.1,.int .i64 a1.2.2.2.2.2.2.2]] [] [] (fun v H'=>v=.bool r∧H'=[]):=by
 refine A.Ct.enter Tryd.func16 rfl Tryd.ntmps16 rfl fun w0 F0=>?_
 rw[F.R02_Leq]at hF
 refine A.xl 1 ?_
 refine A.AL.box 0 (cs:=[.int .i64 a0.1,.int .i64 a0.2.1,.int .i64 a0.2.2.1,.int .i64 a0.2.2.2.1,.int .i64 a0.2.2.2.2.1,.int .i64 a0.2.2.2.2.2.1,.int .i64 a0.2.2.2.2.2.2.1,.int .i64 a0.2.2.2.2.2.2.2]) fun g1=>?_
 refine A.AL.box 1 (cs:=[.int .i64 a1.1,.int .i64 a1.2.1,.int .i64 a1.2.2.1,.int .i64 a1.2.2.2.1,.int .i64 a1.2.2.2.2.1,.int .i64 a1.2.2.2.2.2.1,.int .i64 a1.2.2.2.2.2.2.1,.int .i64 a1.2.2.2.2.2.2.2]) fun g2=>?_
 refine A.q0 [] [] [.n] [] ?_
 refine A.dx 2 ?_
 refine A.AX.join [2,3] [0,1] (fun nl nh=>∃(y3:Bool),nl=[(33,.bool y3)]∧nh=[]∧F.R02_Leq_j2 a0 a1 y3=some r) ?_ ?_
 ·refine A.xl 0 ?_
  refine A.q0 [0] [] [.b 0 0] [(6,.agg #[.int .i64 a0.1,.int .i64 a0.2.1,.int .i64 a0.2.2.1,.int .i64 a0.2.2.2.1,.int .i64 a0.2.2.2.2.1,.int .i64 a0.2.2.2.2.2.1,.int .i64 a0.2.2.2.2.2.2.1,.int .i64 a0.2.2.2.2.2.2.2])] ?_
  obtain⟨r11,hv12,hF⟩:=A.bd_some hF
  refine A.AL.call 2 [] (first:=[]) (cap:=[]) cf38 (R02_Check_ok (a0.1,a0.2.1,a0.2.2.1,a0.2.2.2.1,(a0.2.2.2.2.1,a0.2.2.2.2.2.1,a0.2.2.2.2.2.2.1,a0.2.2.2.2.2.2.2)) h0_ h1_ h2_ h3_ h4_ h5_ h6_ h7_ r11 hv12) .nil ?_
  rintro _ _ ⟨rfl,rfl,hr13⟩
  refine⟨by kernel_rfl,?_⟩
  refine A.q0 [] [] [.n,.n] [(9,.bool (decide (r11≠0)))] ?_
  refine A.AL.cnp (j:=9) rfl hF (fun hb hF=>?_) (fun hb hF=>?_)
  ·refine A.q0 [] [] [.off,.off,.off,.n,.n,.off,.off,.off,.off,.off,.n,.n,.off,.off,.off,.off,.off,.off,.off,.off,.off,.off,.off,.n] [(33,.bool true)] ?_
   refine A.AL.done ?_
   exact A.j ⟨true,rfl,rfl,hF⟩
  refine A.q0 [1] [] [.on (.b 0 0)] [(10,.agg #[.int .i64 a1.1,.int .i64 a1.2.1,.int .i64 a1.2.2.1,.int .i64 a1.2.2.2.1,.int .i64 a1.2.2.2.2.1,.int .i64 a1.2.2.2.2.2.1,.int .i64 a1.2.2.2.2.2.2.1,.int .i64 a1.2.2.2.2.2.2.2])] ?_
  refine A.AL.on (dj:=9) rfl rfl ?_
  obtain⟨r14,hv15,hF⟩:=A.bd_some hF
  refine A.AL.call 42 [] (first:=[]) (cap:=[]) cf38 (R02_Check_ok (a1.1,a1.2.1,a1.2.2.1,a1.2.2.2.1,(a1.2.2.2.2.1,a1.2.2.2.2.2.1,a1.2.2.2.2.2.2.1,a1.2.2.2.2.2.2.2)) h8_ h9_ h10_ h11_ h12_ h13_ h14_ h15_ r14 hv15) .nil ?_
  rintro _ _ ⟨rfl,rfl,hr16⟩
  refine⟨by kernel_rfl,?_⟩
  obtain⟨hc17,hF⟩:=A.gd_some hF
  refine A.q [0,1] [] [.on .n,.n,.n,.sy .n,.sy (.b 0 0),.sy .n,.sy (.b 1 0),.sy .n,.pk,.n,.sy .n,.sy (.b 0 1),.sy .n,.sy (.b 0 3),.sy .n,.sy .n,.sy (.b 1 1),.sy .n,.sy (.b 1 3),.sy .n,.sy .n,.pk] [(bif decide (r14≠0)then true else decide (a0.1≠a1.1))=false→Z.R64 (a0.2.1+a0.2.2.2.1),(bif decide (r14≠0)then true else decide (a0.1≠a1.1))=false→Z.R64 (a1.2.1+a1.2.2.2.1)] [(33,.bool (bif bif decide (r14≠0)then true else decide (a0.1≠a1.1)then true else decide (a0.2.1+a0.2.2.2.1≠a1.2.1+a1.2.2.2.1)))] hc17 ?_
  refine A.AL.done ?_
  exact A.j ⟨(bif bif decide (r14≠0)then true else decide (a0.1≠a1.1)then true else decide (a0.2.1+a0.2.2.2.1≠a1.2.1+a1.2.2.2.1)),rfl,rfl,hF⟩
 rintro _ _ ⟨y3,rfl,rfl,hF⟩
 rw[F.R02_Leq_j2]at hF
 refine A.AX.cnb rfl hF (fun hb hF=>?_) (fun hb hF=>?_)
 ·refine A.xl 1 ?_
  refine A.q0 [] [] [.n] [(4,.bool false)] ?_
  refine A.dx 1 ?_
  obtain rfl:=Option.some.inj hF
  exact A.rt1 [] ⟨rfl,rfl⟩
 refine A.xl 4 ?_
 refine A.q0 [] [] [.n] [(5,.int .i64 0)] ?_
 refine A.dx 2 ?_
 refine A.lp_ [2,3] [0,1] (fun f nl nh=>∃(y4:Int),nl=[(5,.int .i64 y4)]∧nh=[]∧IntKind.i64.has y4∧F.R02_Leq_l1 a0 a1 f y4=some r) ⟨0,rfl,rfl,(A.hasl .i64 (0) rfl),hF⟩ ?_
 rintro f6 _ _ ⟨y4,rfl,rfl,hy5,hF⟩
 rcases f6 with _|f6
 ·exact A.no0 hF
 rw[F.R02_Leq_l1]at hF
 refine A.xl 2 ?_
 obtain⟨hc7,hF⟩:=A.gd_some hF
 refine A.q [0] [] [.n,.n,.b 0 1,.n,.b 0 3,.n,.n] [Z.R64 (a0.2.1+a0.2.2.2.1)] [(40,.bool (decide (y4<a0.2.1+a0.2.2.2.1)))] hc7 ?_
 refine A.dx 1 ?_
 refine A.AX.cnd rfl hF (fun hb hF=>?_) (fun hb hF=>?_)
 ·refine A.xl 5 ?_
  refine A.q0 [0,1] [] [.b 0 0,.b 1 0,.n] [(43,.agg #[.int .i64 a0.1,.int .i64 a0.2.1,.int .i64 a0.2.2.1,.int .i64 a0.2.2.2.1,.int .i64 a0.2.2.2.2.1,.int .i64 a0.2.2.2.2.2.1,.int .i64 a0.2.2.2.2.2.2.1,.int .i64 a0.2.2.2.2.2.2.2]),(44,.agg #[.int .i64 a1.1,.int .i64 a1.2.1,.int .i64 a1.2.2.1,.int .i64 a1.2.2.2.1,.int .i64 a1.2.2.2.2.1,.int .i64 a1.2.2.2.2.2.1,.int .i64 a1.2.2.2.2.2.2.1,.int .i64 a1.2.2.2.2.2.2.2]),(45,.int .i64 y4)] ?_
  obtain⟨r8,hv9,hF⟩:=A.bd_some hF
  refine A.AL.call 162 [] (first:=[]) (cap:=[]) cf41 (R02_leq_ok (a0.1,a0.2.1,a0.2.2.1,a0.2.2.2.1,(a0.2.2.2.2.1,a0.2.2.2.2.2.1,a0.2.2.2.2.2.2.1,a0.2.2.2.2.2.2.2)) (a1.1,a1.2.1,a1.2.2.1,a1.2.2.2.1,(a1.2.2.2.2.1,a1.2.2.2.2.2.1,a1.2.2.2.2.2.2.1,a1.2.2.2.2.2.2.2)) y4 h0_ h1_ h2_ h3_ h4_ h5_ h6_ h7_ h8_ h9_ h10_ h11_ h12_ h13_ h14_ h15_ hy5 r8 hv9) .nil ?_
  rintro _ _ ⟨rfl,rfl⟩
  refine⟨by kernel_rfl,?_⟩
  refine A.q0 [] [] [.n] [(47,.bool (!r8))] ?_
  refine A.dx 1 ?_
  refine A.AX.cnb rfl hF (fun hb hF=>?_) (fun hb hF=>?_)
  ·refine A.xl 1 ?_
   refine A.q0 [] [] [.n] [(4,.bool false)] ?_
   refine A.dx 1 ?_
   obtain rfl:=Option.some.inj hF
   exact A.rt1 [] ⟨rfl,rfl⟩
  refine A.xl 3 ?_
  obtain⟨hc10,hF⟩:=A.gd_some hF
  refine A.q [] [] [.n,.n,.n] [Z.R64 (y4+1)] [(5,.int .i64 (y4+1))] hc10 ?_
  refine A.AL.done ?_
  exact A.j ⟨_,Nat.lt_succ_self _,⟨(y4+1),rfl,rfl,(Z.i64_has hc10),hF⟩⟩
 refine A.xl 3 ?_
 refine A.q0 [] [] [.n] [(4,.bool true)] ?_
 refine A.dx 1 ?_
 obtain rfl:=Option.some.inj hF
 exact A.rt1 [] ⟨rfl,rfl⟩
def F.L08_leq_l1 (a0:D36)(a1:D36):Nat→Int→Option Bool
 |0,_=>none
 |f+1,y3=>if y3<4 then((A.ix [a0.2.2.1,a0.2.2.2.1,a0.2.2.2.2.1,a0.2.2.2.2.2] y3).bind fun x6=>((A.ix [a1.2.2.1,a1.2.2.2.1,a1.2.2.2.2.1,a1.2.2.2.2.2] y3).bind fun x8=>(if x8<x6 then(some false)else(A.gd (Z.R64 (y3+1)) ((F.L08_leq_l1 a0 a1 f) (y3+1))))))else(some (decide (a0.1≤a1.1)))
def F.L08_leq (a0:D36)(a1:D36):Option Bool:=F.L08_leq_l1 a0 a1 A.FU 0
theorem L08_leq_ok (a0:D36)(a1:D36)(h0_:IntKind.i64.has a0.1)(h1_:IntKind.i64.has a0.2.1)(h2_:IntKind.i64.has a0.2.2.1)(h3_:IntKind.i64.has a0.2.2.2.1)(h4_:IntKind.i64.has a0.2.2.2.2.1)(h5_:IntKind.i64.has a0.2.2.2.2.2)(h6_:IntKind.i64.has a1.1)(h7_:IntKind.i64.has a1.2.1)(h8_:IntKind.i64.has a1.2.2.1)(h9_:IntKind.i64.has a1.2.2.2.1)(h10_:IntKind.i64.has a1.2.2.2.2.1)(h11_:IntKind.i64.has a1.2.2.2.2.2)(r:Bool)(hF:F.L08_leq a0 a1=some r):
    A.Ct Tryd.prog 17 [.agg #[.int .i64 a0.1,.int .i64 a0.2.1,.int .i64 a0.2.2.1,.int .i64 a0.2.2.2.1,.int .i64 a0.2.2.2.2.1,.int .i64 a0.2.2.2.2.2],.agg #[.int .i64 a1.1,.int .i64 a1.2.1,.int .i64 a1.2.2.1,.int .i64 a1.2.2.2.1,.int .i64 a1.2.2.2.2.1,.int .i64 a1.2.2.2.2.2]] [] [] (fun v H'=>v=.bool r∧H'=[]):=by
 refine A.Ct.enter Tryd.func17 rfl Tryd.ntmps17 rfl fun w0 F0=>?_
 rw[F.L08_leq]at hF
 refine A.xl 1 ?_
 refine A.AL.box 0 (cs:=[.int .i64 a0.1,.int .i64 a0.2.1,.int .i64 a0.2.2.1,.int .i64 a0.2.2.2.1,.int .i64 a0.2.2.2.2.1,.int .i64 a0.2.2.2.2.2]) fun g1=>?_
 refine A.AL.box 1 (cs:=[.int .i64 a1.1,.int .i64 a1.2.1,.int .i64 a1.2.2.1,.int .i64 a1.2.2.2.1,.int .i64 a1.2.2.2.2.1,.int .i64 a1.2.2.2.2.2]) fun g2=>?_
 refine A.q0 [] [] [.n] [] ?_
 refine A.dl 3 ?_
 refine A.q0 [] [] [.n] [(6,.int .i64 0)] ?_
 refine A.dx 2 ?_
 refine A.lp_ [2,3] [0,1] (fun f nl nh=>∃(y3:Int),nl=[(6,.int .i64 y3)]∧nh=[]∧IntKind.i64.has y3∧F.L08_leq_l1 a0 a1 f y3=some r) ⟨0,rfl,rfl,(A.hasl .i64 (0) rfl),hF⟩ ?_
 rintro f5 _ _ ⟨y3,rfl,rfl,hy4,hF⟩
 rcases f5 with _|f5
 ·exact A.no0 hF
 rw[F.L08_leq_l1]at hF
 refine A.xl 1 ?_
 refine A.q0 [] [] [.n] [(7,.bool (decide (y3<4)))] ?_
 refine A.dx 2 ?_
 refine A.AX.cnd rfl hF (fun hb hF=>?_) (fun hb hF=>?_)
 ·refine A.xl 5 ?_
  refine A.q0 [] [] [.n,.n] [(5,.int .i64 y3)] ?_
  refine A.dx 2 ?_
  refine A.AX.dr mixed 9 9 (A.mb 9 0) ?_
  refine A.hq A.pb [] [0,1] [] [] (A.mb 9 51) 5 [(0,.n),(1,.n),(4,.n),(5,.n)] [(9,.int .i64 y3),(10,.pointer (some ⟨g1,2,none⟩)),(13,.int .i64 y3),(14,.pointer (some ⟨g2,2,none⟩))] ?_
  obtain⟨x6,hv7,hF⟩:=A.bd_some hF
  refine A.pkb 0 4 (fun v:Int=>.int .i64 v) [a0.2.2.1,a0.2.2.2.1,a0.2.2.2.2.1,a0.2.2.2.2.2] 2 hv7 ?_
  refine A.AH.v A.pb [0,1] [0,1,4] 2 (A.mb 9 55) rfl (fun a w hf hh=>A.r_indexArr Tryd.underlying35 Tryd.sizeOf2 (hf.eval rfl) (hf.eval rfl) (A.ix_ok hv7).1 (A.ix_ok hv7).2) ?_
  refine A.hq A.pb [0,1,4] [0,1,4] [] [4] (A.mb 9 63) 3 [(3,.e 0 0)] [(12,.int .i64 x6)] ?_
  obtain⟨x8,hv9,hF⟩:=A.bd_some hF
  refine A.pkb 1 5 (fun v:Int=>.int .i64 v) [a1.2.2.1,a1.2.2.2.1,a1.2.2.2.2.1,a1.2.2.2.2.2] 2 hv9 ?_
  refine A.AH.v A.pb [0,1,4] [0,1,4,5] 6 (A.mb 9 127) rfl (fun a w hf hh=>A.r_indexArr Tryd.underlying35 Tryd.sizeOf2 (hf.eval rfl) (hf.eval rfl) (A.ix_ok hv9).1 (A.ix_ok hv9).2) ?_
  refine A.hq A.pb [0,1,4,5] [0,1,4,5] [] [5] (A.mb 9 511) 0 [(7,.e 0 0),(8,.n)] [(17,.bool (decide (x8<x6)))] ?_
  refine A.AH.done ?_
  refine A.ex 1 ?_
  refine A.AX.cnd rfl hF (fun hb hF=>?_) (fun hb hF=>?_)
  ·refine A.xl 1 ?_
   refine A.q0 [] [] [.n] [(4,.bool false)] ?_
   refine A.dx 1 ?_
   obtain rfl:=Option.some.inj hF
   exact A.rt1 [] ⟨rfl,rfl⟩
  refine A.xl 3 ?_
  obtain⟨hc10,hF⟩:=A.gd_some hF
  refine A.q [] [] [.n,.n] [Z.R64 (y3+1)] [(6,.int .i64 (y3+1))] hc10 ?_
  refine A.AL.done ?_
  exact A.j ⟨_,Nat.lt_succ_self _,⟨(y3+1),rfl,rfl,(Z.i64_has hc10),hF⟩⟩
 refine A.xl 3 ?_
 refine A.q0 [0,1] [] [.n,.b 0 0,.n,.b 1 0,.n,.n] [(4,.bool (decide (a0.1≤a1.1)))] ?_
 refine A.dx 1 ?_
 obtain rfl:=Option.some.inj hF
 exact A.rt1 [] ⟨rfl,rfl⟩
end Go.Proofs.YtpdhaldfdeamdaaDoor
end
section
set_option linter.unusedVariables false
set_option linter.unusedSimpArgs false
set_option maxRecDepth 20000
set_option maxHeartbeats 8000000
set_option synthInstance.maxSize 1000000
set_option synthInstance.maxHeartbeats 400000
namespace Go.Proofs.YtpdhaldfdeamdaaDoor
open Go.RowKit
def F.L08_GraphOn_j1 (k17:Int→Int→Int→Int→Int→Int→Int→Int→Int→Int→Int→Int→Int→Int→Int→Int→Int→Option Bool)(y60:Int)(y63:Int)(y65:Int)(y67:Int)(y69:Int)(y71:Int)(y73:Int)(y75:Int)(y77:Int)(y79:Int)(y81:Int)(y83:Int)(y85:Int)(y87:Int)(y89:Int)(y91:Int)(y93:Int):Option Bool:=A.gd (Z.R64 (y60+1)) (k17 y63 y65 y67 y69 y71 y73 y75 y77 y79 y81 y83 y85 y87 y89 y91 y93 (y60+1))
def F.L08_GraphOn_j2 (k24:(List D46)→Int→Option Bool)(y104:Int)(xs109:List D46):Option Bool:=A.gd (Z.R64 (y104+1)) (k24 xs109 (y104+1))
def F.L08_GraphOn_j3 (k17:Int→Int→Int→Int→Int→Int→Int→Int→Int→Int→Int→Int→Int→Int→Int→Int→Int→Option Bool)(y60:Int)(x122:D46)(y128:Int)(y130:Int)(y132:Int)(y134:Int)(y136:Int)(y138:Int)(y140:Int)(y142:Int)(y144:Int)(y146:Int)(y148:Int)(y150:Int)(y152:Int)(y154:Int)(y184:Bool):Option Bool:=if y184=true then(some false)else(F.L08_GraphOn_j1 k17 y60 y144 y146 y148 y150 y152 y154 x122.2.1.1 x122.2.1.2 y128 y130 y132 y134 y136 y138 y140 y142)
def F.L08_GraphOn_l4 (k17:Int→Int→Int→Int→Int→Int→Int→Int→Int→Int→Int→Int→Int→Int→Int→Int→Int→Option Bool)(y60:Int)(x122:D46)(y128:Int)(y130:Int)(y132:Int)(y134:Int)(y136:Int)(y138:Int)(y140:Int)(y142:Int):Nat→Int→Int→Int→Int→Int→Int→Int→Option Bool
 |0,_,_,_,_,_,_,_=>none
 |f+1,y144,y146,y148,y150,y152,y154,y156=>if y156<4 then((A.ix [y148,y150,y152,y154] y156).bind fun x159=>(A.gd (Z.R64 (y156+1)) ((F.L08_GraphOn_l4 k17 y60 x122 y128 y130 y132 y134 y136 y138 y140 y142 f) y144 y146 (if y156=0 then 0 else y148) (if y156=1 then 0 else y150) (if y156=2 then 0 else y152) (if y156=3 then 0 else y154) (y156+1))))else((F.R02_Apply (y128,y130,y132,y134,(y136,y138,y140,y142)) (y144,y146,(y148,y150,y152,y154))).bind fun r162=>((F.R02_Id y128).bind fun r172=>((F.R02_Leq (y128,y130,y132,y134,(y136,y138,y140,y142)) (r172.1.1,r172.1.2.1,r172.1.2.2.1,r172.1.2.2.2.1,(r172.1.2.2.2.2.1,r172.1.2.2.2.2.2.1,r172.1.2.2.2.2.2.2.1,r172.1.2.2.2.2.2.2.2))).bind fun r185=>(if r185=true then(F.L08_GraphOn_j3 k17 y60 x122 y128 y130 y132 y134 y136 y138 y140 y142 y144 y146 y148 y150 y152 y154 true)else(if r162.2=0 then((F.L08_leq (r162.1.1,r162.1.2.1,(r162.1.2.2.1,r162.1.2.2.2.1,r162.1.2.2.2.2.1,r162.1.2.2.2.2.2)) (y144,y146,(y148,y150,y152,y154))).bind fun r187=>(F.L08_GraphOn_j3 k17 y60 x122 y128 y130 y132 y134 y136 y138 y140 y142 y144 y146 y148 y150 y152 y154 r187))else(F.L08_GraphOn_j3 k17 y60 x122 y128 y130 y132 y134 y136 y138 y140 y142 y144 y146 y148 y150 y152 y154 false))))))
def F.L08_GraphOn_j5 (k17:Int→Int→Int→Int→Int→Int→Int→Int→Int→Int→Int→Int→Int→Int→Int→Int→Int→Option Bool)(x17:D46)(y28:Int)(y30:Int)(y32:Int)(y34:Int)(y36:Int)(y38:Int)(y60:Int)(x122:D46)(y128:Int)(y130:Int)(y132:Int)(y134:Int)(y136:Int)(y138:Int)(y140:Int)(y142:Int):Option Bool:=if(x122.2.1.1,x122.2.1.2)≠(x17.1.1,x17.1.2)then(F.L08_GraphOn_j1 k17 y60 y28 y30 y32 y34 y36 y38 x122.2.1.1 x122.2.1.2 y128 y130 y132 y134 y136 y138 y140 y142)else(F.L08_GraphOn_l4 k17 y60 x122 y128 y130 y132 y134 y136 y138 y140 y142 A.FU y28 y128 y32 y34 y36 y38 y128)
def F.L08_GraphOn_l6 (k17:Int→Int→Int→Int→Int→Int→Int→Int→Int→Int→Int→Int→Int→Int→Int→Int→Int→Option Bool)(r3:(List D46)×Int)(x17:D46)(y28:Int)(y30:Int)(y32:Int)(y34:Int)(y36:Int)(y38:Int)(y40:Int)(y42:Int)(y44:Int)(y46:Int)(y48:Int)(y50:Int)(y52:Int)(y54:Int)(y56:Int)(y58:Int)(y60:Int)(x96:UInt8):Nat→(List D46)→Int→Option Bool
 |0,_,_=>none
 |f+1,xs103,y104=>if y104<((r3.1).length:Int)then((A.ix r3.1 y104).bind fun x111=>(if(x111.1.1,x111.1.2)=(y40,y42)then(A.gd ((List.length (α:=D46) xs103+List.length (α:=D46) [((x111.1.1,x111.1.2),(x111.2.1.1,x111.2.1.2),(x111.2.2.1,x111.2.2.2.1,x111.2.2.2.2.1,x111.2.2.2.2.2.1,(x111.2.2.2.2.2.2.1,x111.2.2.2.2.2.2.2.1,x111.2.2.2.2.2.2.2.2.1,x111.2.2.2.2.2.2.2.2.2)))])*96≤140737488355328) (F.L08_GraphOn_j2 (F.L08_GraphOn_l6 k17 r3 x17 y28 y30 y32 y34 y36 y38 y40 y42 y44 y46 y48 y50 y52 y54 y56 y58 y60 x96 f) y104 (xs103++[((x111.1.1,x111.1.2),(x111.2.1.1,x111.2.1.2),(x111.2.2.1,x111.2.2.2.1,x111.2.2.2.2.1,x111.2.2.2.2.2.1,(x111.2.2.2.2.2.2.1,x111.2.2.2.2.2.2.2.1,x111.2.2.2.2.2.2.2.2.1,x111.2.2.2.2.2.2.2.2.2)))])))else(F.L08_GraphOn_j2 (F.L08_GraphOn_l6 k17 r3 x17 y28 y30 y32 y34 y36 y38 y40 y42 y44 y46 y48 y50 y52 y54 y56 y58 y60 x96 f) y104 xs103)))else(if((xs103).length:Int)=0 then(some true)else(A.gd (Z.R64 ((x96.toNat:Int))∧((xs103).length:Int)≠0) ((A.ix xs103 (Int.tmod (x96.toNat:Int) ((xs103).length:Int))).bind fun x122=>(if y60=0 then(F.L08_GraphOn_j5 k17 x17 y28 y30 y32 y34 y36 y38 y60 x122 x122.2.2.1 x122.2.2.2.1 x122.2.2.2.2.1 x122.2.2.2.2.2.1 x122.2.2.2.2.2.2.1 x122.2.2.2.2.2.2.2.1 x122.2.2.2.2.2.2.2.2.1 x122.2.2.2.2.2.2.2.2.2)else((F.R02_Then (y44,y46,y48,y50,(y52,y54,y56,y58)) (x122.2.2.1,x122.2.2.2.1,x122.2.2.2.2.1,x122.2.2.2.2.2.1,(x122.2.2.2.2.2.2.1,x122.2.2.2.2.2.2.2.1,x122.2.2.2.2.2.2.2.2.1,x122.2.2.2.2.2.2.2.2.2))).bind fun r189=>(if r189.2≠0 then(some true)else(F.L08_GraphOn_j5 k17 x17 y28 y30 y32 y34 y36 y38 y60 x122 r189.1.1 r189.1.2.1 r189.1.2.2.1 r189.1.2.2.2.1 r189.1.2.2.2.2.1 r189.1.2.2.2.2.2.1 r189.1.2.2.2.2.2.2.1 r189.1.2.2.2.2.2.2.2)))))))
def F.L08_GraphOn_l7 (a1:(List UInt8))(r3:(List D46)×Int)(x17:D46):Nat→Int→Int→Int→Int→Int→Int→Int→Int→Int→Int→Int→Int→Int→Int→Int→Int→Int→Option Bool
 |0,_,_,_,_,_,_,_,_,_,_,_,_,_,_,_,_,_=>none
 |f+1,y28,y30,y32,y34,y36,y38,y40,y42,y44,y46,y48,y50,y52,y54,y56,y58,y60=>if y60<((List.take ((min ((a1).length:Int) 200).toNat) a1).length:Int)then((A.ix (List.take ((min ((a1).length:Int) 200).toNat) a1) y60).bind fun x96=>(F.L08_GraphOn_l6 (F.L08_GraphOn_l7 a1 r3 x17 f) r3 x17 y28 y30 y32 y34 y36 y38 y40 y42 y44 y46 y48 y50 y52 y54 y56 y58 y60 x96 A.FU [] 0))else(some true)
def F.L08_GraphOn_j8 (a1:(List UInt8))(a2:D36)(r3:(List D46)×Int)(y8:Bool):Option Bool:=if y8=true then((F.L08_begun).bind fun r9=>(some r9))else((A.ix a1 0).bind fun x11=>(A.gd (Z.R64 ((x11.toNat:Int))∧((r3.1).length:Int)≠0) ((A.ix r3.1 (Int.tmod (x11.toNat:Int) ((r3.1).length:Int))).bind fun x17=>(A.gd (0≤min ((a1).length:Int) 200∧(min ((a1).length:Int) 200).toNat≤(a1).length) (F.L08_GraphOn_l7 a1 r3 x17 A.FU a2.1 a2.2.1 a2.2.2.1 a2.2.2.2.1 a2.2.2.2.2.1 a2.2.2.2.2.2 x17.1.1 x17.1.2 0 0 0 0 0 0 0 0 0)))))
def F.L08_GraphOn (a0:D23)(a1:(List UInt8))(a2:D36):Option Bool:=(F.graph_Edges a0).bind fun r3=>((F.L08_begun).bind fun r200=>(if(!r200)=true then(F.L08_GraphOn_j8 a1 a2 r3 true)else((F.L08_few a0).bind fun r202=>(F.L08_GraphOn_j8 a1 a2 r3 (bif bif bif !r202 then true else decide (r3.2≠0)then true else decide (((r3.1).length:Int)=0)then true else decide (((a1).length:Int)=0))))))
theorem L08_GraphOn_ok (a0:D23)(a1:(List UInt8))(a2:D36)(A0_:Option Addr)(c1_:Nat)(A2_:Option Addr)(c3_:Nat)(h4_:IntKind.i64.has a2.1)(h5_:IntKind.i64.has a2.2.1)(h6_:IntKind.i64.has a2.2.2.1)(h7_:IntKind.i64.has a2.2.2.2.1)(h8_:IntKind.i64.has a2.2.2.2.2.1)(h9_:IntKind.i64.has a2.2.2.2.2.2)(r:Bool)(hF:F.L08_GraphOn a0 a1 a2=some r):
    A.Ct Tryd.prog 4 [.agg #[.slice A0_ ((a0).length) c1_],.slice A2_ ((a1).length) c3_,.agg #[.int .i64 a2.1,.int .i64 a2.2.1,.int .i64 a2.2.2.1,.int .i64 a2.2.2.2.1,.int .i64 a2.2.2.2.2.1,.int .i64 a2.2.2.2.2.2]] [(0,.sh (.slice T32) [.slice A0_ (a0).length c1_] a0),(1,.sh (.slice Z.Ty.byte) [.slice A2_ (a1).length c3_] a1),(2,.el none 0 0 A.tabF),(3,.el none 1 0 A.tabA)] [] (fun v H'=>v=.bool r∧H'=[]):=by
 refine A.Ct.enter Tryd.func4 rfl Tryd.ntmps4 rfl fun w0 F0=>?_
 rw[F.L08_GraphOn]at hF
 refine A.xl 1 ?_
 refine A.AL.box 4 (cs:=[.slice A0_ ((a0).length) c1_]) fun g1=>?_
 refine A.AL.box 5 (cs:=[.int .i64 a2.1,.int .i64 a2.2.1,.int .i64 a2.2.2.1,.int .i64 a2.2.2.2.1,.int .i64 a2.2.2.2.2.1,.int .i64 a2.2.2.2.2.2]) fun g2=>?_
 refine A.q0 [] [] [.n] [] ?_
 refine A.dl 2 ?_
 refine A.q0 [4] [] [.b 0 0] [(24,.agg #[.slice A0_ ((a0).length) c1_])] ?_
 obtain⟨r3,hv4,hF⟩:=A.bd_some hF
 refine A.AL.call 6 [] (first:=[]) (cap:=[]) cf12 (graph_Edges_ok a0 A0_ c1_ r3 hv4) (.s 0 (.s 2 (.s 3 .nil))) ?_
 rintro _ _ ⟨A5,c6,rfl,rfl,hr7⟩
 refine⟨by kernel_rfl,?_⟩
 refine A.q0 [] [] [.n,.n,.n,.n,.n] [(7,.slice A5 ((r3.1).length) c6),(8,.int .i64 r3.2)] ?_
 refine A.dx 2 ?_
 refine A.AX.join [1,5,7] [1,2,3,5,6] (fun nl nh=>∃(y8:Bool),nl=[(48,.bool y8)]∧nh=[]∧F.L08_GraphOn_j8 a1 a2 r3 y8=some r) ?_ ?_
 ·refine A.xl 0 ?_
  obtain⟨r200,hv201,hF⟩:=A.bd_some hF
  refine A.AL.call 46 [] (first:=[]) (cap:=[]) cf6 (L08_begun_ok r200 hv201) (.s 2 (.s 3 .nil)) ?_
  rintro _ _ ⟨rfl,rfl⟩
  refine⟨by kernel_rfl,?_⟩
  refine A.q0 [] [] [.n,.n] [(30,.bool (!r200))] ?_
  refine A.AL.cnd (j:=30) rfl hF (fun hF=>?_) (fun hF=>?_)
  ·refine A.q0 [] [] [.off,.off,.off,.n,.n,.off,.off,.n,.n,.off,.off,.off,.n,.n,.off,.off,.off,.n] [(48,.bool true)] ?_
   refine A.AL.done ?_
   exact A.j ⟨true,rfl,rfl,hF⟩
  refine A.q0 [4] [] [.on (.b 0 0)] [(31,.agg #[.slice A0_ ((a0).length) c1_])] ?_
  refine A.AL.on (dj:=30) rfl rfl ?_
  obtain⟨r202,hv203,hF⟩:=A.bd_some hF
  refine A.AL.call 86 [] (first:=[]) (cap:=[]) cf7 (L08_few_ok a0 A0_ c1_ r202 hv203) (.s 0 .nil) ?_
  rintro _ _ ⟨rfl,rfl⟩
  refine⟨by kernel_rfl,?_⟩
  refine A.q0 [] [] [.on .n,.n,.n,.sy .n,.sy .n,.pk,.n,.sy .n,.sy .n,.sy .n,.pk,.n,.sy .n,.sy .n,.sy .n,.pk] [(48,.bool (bif bif bif !r202 then true else decide (r3.2≠0)then true else decide (((r3.1).length:Int)=0)then true else decide (((a1).length:Int)=0)))] ?_
  refine A.AL.done ?_
  exact A.j ⟨(bif bif bif !r202 then true else decide (r3.2≠0)then true else decide (((r3.1).length:Int)=0)then true else decide (((a1).length:Int)=0)),rfl,rfl,hF⟩
 rintro _ _ ⟨y8,rfl,rfl,hF⟩
 rw[F.L08_GraphOn_j8]at hF
 refine A.AX.cnb rfl hF (fun hb hF=>?_) (fun hb hF=>?_)
 ·refine A.xl 1 ?_
  obtain⟨r9,hv10,hF⟩:=A.bd_some hF
  refine A.AL.call 126 [] (first:=[]) (cap:=[]) cf6 (L08_begun_ok r9 hv10) (.s 2 (.s 3 .nil)) ?_
  rintro _ _ ⟨rfl,rfl⟩
  refine⟨by kernel_rfl,?_⟩
  refine A.q0 [] [] [.n] [(6,.bool r9)] ?_
  refine A.dx 1 ?_
  obtain rfl:=Option.some.inj hF
  exact A.rt1 [] ⟨rfl,rfl⟩
 refine A.xl 3 ?_
 refine A.q0 [] [] [.n,.n] [(50,.slice A5 ((r3.1).length) c6),(51,.slice A2_ ((a1).length) c3_)] ?_
 obtain⟨x11,hv12,hF⟩:=A.bd_some hF
 refine A.AL.ixs 1 166 hv12 fun ho13=>?_
 intro b14 o15
 obtain⟨hc16,hF⟩:=A.gd_some hF
 refine A.q [] [166] [.e 0 0,.n,.n,.n,.n] [Z.R64 ((x11.toNat:Int)),((r3.1).length:Int)≠0] [(57,.int .i64 (Int.tmod (x11.toNat:Int) ((r3.1).length:Int)))] hc16 ?_
 obtain⟨x17,hv18,hF⟩:=A.bd_some hF
 refine A.AL.ixo 6 167 hv18 fun ho19=>?_
 intro g20 hA21
 refine A.q0 [] [167] [.n,.e 0 0] [(60,.agg #[.int .i64 x17.1.1,.int .i64 x17.1.2])] ?_
 refine A.AL.alloc 168 (cs:=[.int .i64 0,.int .i64 0]) Tryd.zeroValue43 fun g22=>?_
 refine A.sw 168 [] [.int .i64 x17.1.1,.int .i64 x17.1.2] ?_
 refine A.dl 2 ?_
 refine A.q0 [168] [] [.b 0 0] [(61,.agg #[.int .i64 x17.1.1,.int .i64 x17.1.2])] ?_
 refine A.AL.alloc 169 (cs:=[.int .i64 0,.int .i64 0]) Tryd.zeroValue43 fun g23=>?_
 refine A.sw 169 [] [.int .i64 x17.1.1,.int .i64 x17.1.2] ?_
 refine A.dl 2 ?_
 refine A.AL.alloc 170 (cs:=[.int .i64 0,.int .i64 0,.int .i64 0,.int .i64 0,.int .i64 0,.int .i64 0,.int .i64 0,.int .i64 0]) Tryd.zeroValue45 fun g24=>?_
 refine A.dl 3 ?_
 refine A.q0 [] [] [.n,.n,.n,.n] [(62,.slice A2_ ((a1).length) c3_),(65,.int .i64 (min ((a1).length:Int) 200))] ?_
 obtain⟨hc25,hF⟩:=A.gd_some hF
 refine A.AL.cuth 1 171 (v:=(min ((a1).length:Int) 200).toNat) (Int.toNat_of_nonneg hc25.1).symm hc25.2 fun c27=>?_
 refine A.q0 [] [] [.n,.n] [(67,.int .i64 ((List.take ((min ((a1).length:Int) 200).toNat) a1).length:Int)),(68,.int .i64 0)] ?_
 refine A.dx 2 ?_
 refine A.lp_ [5,7,9,10,11,66,67] [2,3,6,169,171] (fun f nl nh=>∃(y28:Int),∃(y30:Int),∃(y32:Int),∃(y34:Int),∃(y36:Int),∃(y38:Int),∃(y40:Int),∃(y42:Int),∃(y44:Int),∃(y46:Int),∃(y48:Int),∃(y50:Int),∃(y52:Int),∃(y54:Int),∃(y56:Int),∃(y58:Int),∃(y60:Int),nl=[(68,.int .i64 y60)]∧nh=[(5,.blk g2 37 [.int .i64 y28,.int .i64 y30,.int .i64 y32,.int .i64 y34,.int .i64 y36,.int .i64 y38]),(168,.blk g22 43 [.int .i64 y40,.int .i64 y42]),(170,.blk g24 45 [.int .i64 y44,.int .i64 y46,.int .i64 y48,.int .i64 y50,.int .i64 y52,.int .i64 y54,.int .i64 y56,.int .i64 y58])]∧IntKind.i64.has y28∧IntKind.i64.has y30∧IntKind.i64.has y32∧IntKind.i64.has y34∧IntKind.i64.has y36∧IntKind.i64.has y38∧IntKind.i64.has y40∧IntKind.i64.has y42∧IntKind.i64.has y44∧IntKind.i64.has y46∧IntKind.i64.has y48∧IntKind.i64.has y50∧IntKind.i64.has y52∧IntKind.i64.has y54∧IntKind.i64.has y56∧IntKind.i64.has y58∧IntKind.i64.has y60∧F.L08_GraphOn_l7 a1 r3 x17 f y28 y30 y32 y34 y36 y38 y40 y42 y44 y46 y48 y50 y52 y54 y56 y58 y60=some r) ⟨a2.1,a2.2.1,a2.2.2.1,a2.2.2.2.1,a2.2.2.2.2.1,a2.2.2.2.2.2,x17.1.1,x17.1.2,0,0,0,0,0,0,0,0,0,rfl,rfl,h4_,h5_,h6_,h7_,h8_,h9_,ho19.1.1,ho19.1.2,(A.hasl .i64 (0) rfl),(A.hasl .i64 (0) rfl),(A.hasl .i64 (0) rfl),(A.hasl .i64 (0) rfl),(A.hasl .i64 (0) rfl),(A.hasl .i64 (0) rfl),(A.hasl .i64 (0) rfl),(A.hasl .i64 (0) rfl),(A.hasl .i64 (0) rfl),hF⟩ ?_
 rintro f62 _ _ ⟨y28,y30,y32,y34,y36,y38,y40,y42,y44,y46,y48,y50,y52,y54,y56,y58,y60,rfl,rfl,hy29,hy31,hy33,hy35,hy37,hy39,hy41,hy43,hy45,hy47,hy49,hy51,hy53,hy55,hy57,hy59,hy61,hF⟩
 rcases f62 with _|f62
 ·exact A.no0 hF
 rw[F.L08_GraphOn_l7]at hF
 refine A.xl 1 ?_
 refine A.q0 [] [] [.n] [(69,.bool (decide (y60<((List.take ((min ((a1).length:Int) 200).toNat) a1).length:Int))))] ?_
 refine A.dx 2 ?_
 refine A.AX.cnd rfl hF (fun hb hF=>?_) (fun hb hF=>?_)
 ·refine A.xx 2 ?_
  refine A.AX.join [5,7,9,10,11,66,67,68] [2,3,6,169,171] (fun nl nh=>∃(y63:Int),∃(y65:Int),∃(y67:Int),∃(y69:Int),∃(y71:Int),∃(y73:Int),∃(y75:Int),∃(y77:Int),∃(y79:Int),∃(y81:Int),∃(y83:Int),∃(y85:Int),∃(y87:Int),∃(y89:Int),∃(y91:Int),∃(y93:Int),nl=[]∧nh=[(5,.blk g2 37 [.int .i64 y63,.int .i64 y65,.int .i64 y67,.int .i64 y69,.int .i64 y71,.int .i64 y73]),(168,.blk g22 43 [.int .i64 y75,.int .i64 y77]),(170,.blk g24 45 [.int .i64 y79,.int .i64 y81,.int .i64 y83,.int .i64 y85,.int .i64 y87,.int .i64 y89,.int .i64 y91,.int .i64 y93])]∧IntKind.i64.has y63∧IntKind.i64.has y65∧IntKind.i64.has y67∧IntKind.i64.has y69∧IntKind.i64.has y71∧IntKind.i64.has y73∧IntKind.i64.has y75∧IntKind.i64.has y77∧IntKind.i64.has y79∧IntKind.i64.has y81∧IntKind.i64.has y83∧IntKind.i64.has y85∧IntKind.i64.has y87∧IntKind.i64.has y89∧IntKind.i64.has y91∧IntKind.i64.has y93∧F.L08_GraphOn_j1 (F.L08_GraphOn_l7 a1 r3 x17 f62) y60 y63 y65 y67 y69 y71 y73 y75 y77 y79 y81 y83 y85 y87 y89 y91 y93=some r) ?_ ?_
  ·refine A.xl 2 ?_
   refine A.q0 [] [] [.n] [(70,.int .i64 y60)] ?_
   obtain⟨x96,hv97,hF⟩:=A.bd_some hF
   refine A.AL.ixs 171 3396 hv97 fun ho98=>?_
   intro b99 o100
   refine A.q0 [] [3396] [.e 0 0,.n,.n] [(12,.int .i64 y60),(13,.int .u8 (x96.toNat:Int))] ?_
   refine A.dl 2 ?_
   refine A.q0 [] [] [.n] [(14,.slice none 0 0)] ?_
   refine A.dl 3 ?_
   refine A.q0 [] [] [.n,.n,.n] [(73,.slice A5 ((r3.1).length) c6),(74,.int .i64 ((r3.1).length:Int)),(75,.int .i64 0)] ?_
   refine A.dx 2 ?_
   refine A.nil 3405 T46 47 ?_
   refine A.lp_ [5,7,9,10,11,12,13,66,67,68,73,74] [2,3,5,6,168,169,170,171] (fun f nl nh=>∃(xs103:List D46),∃(y104:Int),∃(A101:Option Addr),∃(c102:Nat),nl=[(14,.slice A101 ((xs103).length) c102),(75,.int .i64 y104)]∧nh=[(3405,.own T46 47 A101 c102 xs103)]∧IntKind.i64.has y104∧F.L08_GraphOn_l6 (F.L08_GraphOn_l7 a1 r3 x17 f62) r3 x17 y28 y30 y32 y34 y36 y38 y40 y42 y44 y46 y48 y50 y52 y54 y56 y58 y60 x96 f xs103 y104=some r) ⟨[],0,none,0,rfl,rfl,(A.hasl .i64 (0) rfl),hF⟩ ?_
   rintro f106 _ _ ⟨xs103,y104,A101,c102,rfl,rfl,hy105,hF⟩
   rcases f106 with _|f106
   ·exact A.no0 hF
   rw[F.L08_GraphOn_l6]at hF
   refine A.xl 1 ?_
   refine A.q0 [] [] [.n] [(76,.bool (decide (y104<((r3.1).length:Int))))] ?_
   refine A.dx 2 ?_
   refine A.AX.cnd rfl hF (fun hb hF=>?_) (fun hb hF=>?_)
   ·refine A.xx 2 ?_
    refine A.AX.join [5,7,9,10,11,12,13,66,67,68,73,74,75] [2,3,5,6,168,169,170,171] (fun nl nh=>∃(xs109:List D46),∃(A107:Option Addr),∃(c108:Nat),nl=[(14,.slice A107 ((xs109).length) c108)]∧nh=[(3405,.own T46 47 A107 c108 xs109)]∧F.L08_GraphOn_j2 (F.L08_GraphOn_l6 (F.L08_GraphOn_l7 a1 r3 x17 f62) r3 x17 y28 y30 y32 y34 y36 y38 y40 y42 y44 y46 y48 y50 y52 y54 y56 y58 y60 x96 f106) y104 xs109=some r) ?_ ?_
    ·refine A.xl 2 ?_
     obtain⟨x111,hv112,hF⟩:=A.bd_some hF
     refine A.AL.ixo 6 4474 hv112 fun ho113=>?_
     intro g114 hA115
     refine A.q0 [] [4474] [.e 0 0] [(78,.agg #[.int .i64 x111.1.1,.int .i64 x111.1.2,.int .i64 x111.2.1.1,.int .i64 x111.2.1.2,.int .i64 x111.2.2.1,.int .i64 x111.2.2.2.1,.int .i64 x111.2.2.2.2.1,.int .i64 x111.2.2.2.2.2.1,.int .i64 x111.2.2.2.2.2.2.1,.int .i64 x111.2.2.2.2.2.2.2.1,.int .i64 x111.2.2.2.2.2.2.2.2.1,.int .i64 x111.2.2.2.2.2.2.2.2.2])] ?_
     refine A.AL.alloc 4475 (cs:=[.int .i64 0,.int .i64 0,.int .i64 0,.int .i64 0,.int .i64 0,.int .i64 0,.int .i64 0,.int .i64 0,.int .i64 0,.int .i64 0,.int .i64 0,.int .i64 0]) Tryd.zeroValue47 fun g116=>?_
     refine A.sw 4475 [] [.int .i64 x111.1.1,.int .i64 x111.1.2,.int .i64 x111.2.1.1,.int .i64 x111.2.1.2,.int .i64 x111.2.2.1,.int .i64 x111.2.2.2.1,.int .i64 x111.2.2.2.2.1,.int .i64 x111.2.2.2.2.2.1,.int .i64 x111.2.2.2.2.2.2.1,.int .i64 x111.2.2.2.2.2.2.2.1,.int .i64 x111.2.2.2.2.2.2.2.2.1,.int .i64 x111.2.2.2.2.2.2.2.2.2] ?_
     refine A.dl 2 ?_
     refine A.q0 [4475,168] [] [.n,.b 0 0,.b 1 0] [(80,.agg #[.int .i64 x111.1.1,.int .i64 x111.1.2]),(81,.agg #[.int .i64 y40,.int .i64 y42])] ?_
     refine A.AL.val rfl (fun a w hf hh=>eqagg_eql43 (x:=(x111.1.1,x111.1.2)) (y:=(y40,y42)) (hf.eval rfl) (hf.eval rfl)) ?_
     refine A.dx 1 ?_
     refine A.AX.cnd rfl hF (fun hb hF=>?_) (fun hb hF=>?_)
     ·refine A.xl 0 ?_
      refine A.q0 [4475] [] [.n,.b 0 0] [(83,.slice A101 ((xs103).length) c102),(84,.agg #[.int .i64 x111.1.1,.int .i64 x111.1.2,.int .i64 x111.2.1.1,.int .i64 x111.2.1.2,.int .i64 x111.2.2.1,.int .i64 x111.2.2.2.1,.int .i64 x111.2.2.2.2.1,.int .i64 x111.2.2.2.2.2.1,.int .i64 x111.2.2.2.2.2.2.1,.int .i64 x111.2.2.2.2.2.2.2.1,.int .i64 x111.2.2.2.2.2.2.2.2.1,.int .i64 x111.2.2.2.2.2.2.2.2.2])] ?_
      refine A.AL.bsl 4476 (ty:=T46) (cs:=[.int .i64 x111.1.1,.int .i64 x111.1.2,.int .i64 x111.2.1.1,.int .i64 x111.2.1.2,.int .i64 x111.2.2.1,.int .i64 x111.2.2.2.1,.int .i64 x111.2.2.2.2.1,.int .i64 x111.2.2.2.2.2.1,.int .i64 x111.2.2.2.2.2.2.1,.int .i64 x111.2.2.2.2.2.2.2.1,.int .i64 x111.2.2.2.2.2.2.2.2.1,.int .i64 x111.2.2.2.2.2.2.2.2.2]) [((x111.1.1,x111.1.2),(x111.2.1.1,x111.2.1.2),(x111.2.2.1,x111.2.2.2.1,x111.2.2.2.2.1,x111.2.2.2.2.2.1,(x111.2.2.2.2.2.2.1,x111.2.2.2.2.2.2.2.1,x111.2.2.2.2.2.2.2.2.1,x111.2.2.2.2.2.2.2.2.2)))] ⟨⟨⟨⟨rfl,ho113.1.1⟩,⟨rfl,ho113.1.2⟩⟩,⟨⟨rfl,ho113.2.1.1⟩,⟨rfl,ho113.2.1.2⟩⟩,⟨⟨rfl,ho113.2.2.1⟩,⟨rfl,ho113.2.2.2.1⟩,⟨rfl,ho113.2.2.2.2.1⟩,⟨rfl,ho113.2.2.2.2.2.1⟩,⟨⟨rfl,ho113.2.2.2.2.2.2.1⟩,⟨rfl,ho113.2.2.2.2.2.2.2.1⟩,⟨rfl,ho113.2.2.2.2.2.2.2.2.1⟩,⟨rfl,ho113.2.2.2.2.2.2.2.2.2⟩⟩⟩⟩,rfl⟩ (fun g117=>?_) Tryd.zeroValue47 Tryd.sizeOf47
      obtain⟨hl120,hF⟩:=A.gd_some hF
      refine A.AL.app (k:=3405) [] (A.rowO (k:=4476) rfl) inf47 hl120 fun A118 c119=>?_
      refine A.q0 [] [] [.n] [(14,.slice A118 ((xs103++[((x111.1.1,x111.1.2),(x111.2.1.1,x111.2.1.2),(x111.2.2.1,x111.2.2.2.1,x111.2.2.2.2.1,x111.2.2.2.2.2.1,(x111.2.2.2.2.2.2.1,x111.2.2.2.2.2.2.2.1,x111.2.2.2.2.2.2.2.2.1,x111.2.2.2.2.2.2.2.2.2)))]).length) c119)] ?_
      refine A.de 1 ?_
      exact A.j ⟨(xs103++[((x111.1.1,x111.1.2),(x111.2.1.1,x111.2.1.2),(x111.2.2.1,x111.2.2.2.1,x111.2.2.2.2.1,x111.2.2.2.2.2.1,(x111.2.2.2.2.2.2.1,x111.2.2.2.2.2.2.2.1,x111.2.2.2.2.2.2.2.2.1,x111.2.2.2.2.2.2.2.2.2)))]),A118,c119,rfl,rfl,hF⟩
     refine A.xe 2 ?_
     exact A.j ⟨xs103,A101,c102,rfl,rfl,hF⟩
    rintro _ _ ⟨xs109,A107,c108,rfl,rfl,hF⟩
    rw[F.L08_GraphOn_j2]at hF
    refine A.xl 0 ?_
    obtain⟨hc110,hF⟩:=A.gd_some hF
    refine A.q [] [] [.n,.n] [Z.R64 (y104+1)] [(75,.int .i64 (y104+1))] hc110 ?_
    refine A.AL.done ?_
    exact A.j ⟨_,Nat.lt_succ_self _,⟨xs109,(y104+1),A107,c108,rfl,rfl,(Z.i64_has hc110),hF⟩⟩
   refine A.xl 4 ?_
   refine A.q0 [] [] [.n,.n,.n] [(90,.bool (decide (((xs103).length:Int)=0)))] ?_
   refine A.dx 1 ?_
   refine A.AX.cnd rfl hF (fun hb hF=>?_) (fun hb hF=>?_)
   ·refine A.xl 1 ?_
    refine A.q0 [] [] [.n] [(6,.bool true)] ?_
    refine A.dx 1 ?_
    obtain rfl:=Option.some.inj hF
    exact A.rt1 [] ⟨rfl,rfl⟩
   refine A.xl 3 ?_
   obtain⟨hc121,hF⟩:=A.gd_some hF
   refine A.q [] [] [.n,.n,.n,.n,.n,.n] [Z.R64 ((x96.toNat:Int)),((xs103).length:Int)≠0] [(91,.slice A101 ((xs103).length) c102),(96,.int .i64 (Int.tmod (x96.toNat:Int) ((xs103).length:Int)))] hc121 ?_
   obtain⟨x122,hv123,hF⟩:=A.bd_some hF
   refine A.AL.ixo 3405 4477 hv123 fun ho124=>?_
   intro g125 hA126
   refine A.q0 [] [4477] [.e 0 0] [(98,.agg #[.int .i64 x122.1.1,.int .i64 x122.1.2,.int .i64 x122.2.1.1,.int .i64 x122.2.1.2,.int .i64 x122.2.2.1,.int .i64 x122.2.2.2.1,.int .i64 x122.2.2.2.2.1,.int .i64 x122.2.2.2.2.2.1,.int .i64 x122.2.2.2.2.2.2.1,.int .i64 x122.2.2.2.2.2.2.2.1,.int .i64 x122.2.2.2.2.2.2.2.2.1,.int .i64 x122.2.2.2.2.2.2.2.2.2])] ?_
   refine A.AL.alloc 4478 (cs:=[.int .i64 0,.int .i64 0,.int .i64 0,.int .i64 0,.int .i64 0,.int .i64 0,.int .i64 0,.int .i64 0,.int .i64 0,.int .i64 0,.int .i64 0,.int .i64 0]) Tryd.zeroValue47 fun g127=>?_
   refine A.sw 4478 [] [.int .i64 x122.1.1,.int .i64 x122.1.2,.int .i64 x122.2.1.1,.int .i64 x122.2.1.2,.int .i64 x122.2.2.1,.int .i64 x122.2.2.2.1,.int .i64 x122.2.2.2.2.1,.int .i64 x122.2.2.2.2.2.1,.int .i64 x122.2.2.2.2.2.2.1,.int .i64 x122.2.2.2.2.2.2.2.1,.int .i64 x122.2.2.2.2.2.2.2.2.1,.int .i64 x122.2.2.2.2.2.2.2.2.2] ?_
   refine A.dx 1 ?_
   refine A.AX.join [5,7,9,10,11,17,66,67,68] [2,3,5,6,168,169,171,4478] (fun nl nh=>∃(y128:Int),∃(y130:Int),∃(y132:Int),∃(y134:Int),∃(y136:Int),∃(y138:Int),∃(y140:Int),∃(y142:Int),nl=[]∧nh=[(170,.blk g24 45 [.int .i64 y128,.int .i64 y130,.int .i64 y132,.int .i64 y134,.int .i64 y136,.int .i64 y138,.int .i64 y140,.int .i64 y142])]∧IntKind.i64.has y128∧IntKind.i64.has y130∧IntKind.i64.has y132∧IntKind.i64.has y134∧IntKind.i64.has y136∧IntKind.i64.has y138∧IntKind.i64.has y140∧IntKind.i64.has y142∧F.L08_GraphOn_j5 (F.L08_GraphOn_l7 a1 r3 x17 f62) x17 y28 y30 y32 y34 y36 y38 y60 x122 y128 y130 y132 y134 y136 y138 y140 y142=some r) ?_ ?_
   ·refine A.xl 1 ?_
    refine A.q0 [] [] [.n,.n] [(100,.bool (decide (y60=0)))] ?_
    refine A.dx 1 ?_
    refine A.AX.cnd rfl hF (fun hb hF=>?_) (fun hb hF=>?_)
    ·refine A.xl 0 ?_
     refine A.q0 [4478] [] [.n,.b 0 4] [(102,.agg #[.int .i64 x122.2.2.1,.int .i64 x122.2.2.2.1,.int .i64 x122.2.2.2.2.1,.int .i64 x122.2.2.2.2.2.1,.int .i64 x122.2.2.2.2.2.2.1,.int .i64 x122.2.2.2.2.2.2.2.1,.int .i64 x122.2.2.2.2.2.2.2.2.1,.int .i64 x122.2.2.2.2.2.2.2.2.2])] ?_
     refine A.sw 170 [] [.int .i64 x122.2.2.1,.int .i64 x122.2.2.2.1,.int .i64 x122.2.2.2.2.1,.int .i64 x122.2.2.2.2.2.1,.int .i64 x122.2.2.2.2.2.2.1,.int .i64 x122.2.2.2.2.2.2.2.1,.int .i64 x122.2.2.2.2.2.2.2.2.1,.int .i64 x122.2.2.2.2.2.2.2.2.2] ?_
     refine A.AL.done ?_
     exact A.j ⟨x122.2.2.1,x122.2.2.2.1,x122.2.2.2.2.1,x122.2.2.2.2.2.1,x122.2.2.2.2.2.2.1,x122.2.2.2.2.2.2.2.1,x122.2.2.2.2.2.2.2.2.1,x122.2.2.2.2.2.2.2.2.2,rfl,rfl,ho124.2.2.1,ho124.2.2.2.1,ho124.2.2.2.2.1,ho124.2.2.2.2.2.1,ho124.2.2.2.2.2.2.1,ho124.2.2.2.2.2.2.2.1,ho124.2.2.2.2.2.2.2.2.1,ho124.2.2.2.2.2.2.2.2.2,hF⟩
    refine A.xl 1 ?_
    refine A.q0 [170,4478] [] [.b 0 0,.n,.b 1 4] [(104,.agg #[.int .i64 y44,.int .i64 y46,.int .i64 y48,.int .i64 y50,.int .i64 y52,.int .i64 y54,.int .i64 y56,.int .i64 y58]),(106,.agg #[.int .i64 x122.2.2.1,.int .i64 x122.2.2.2.1,.int .i64 x122.2.2.2.2.1,.int .i64 x122.2.2.2.2.2.1,.int .i64 x122.2.2.2.2.2.2.1,.int .i64 x122.2.2.2.2.2.2.2.1,.int .i64 x122.2.2.2.2.2.2.2.2.1,.int .i64 x122.2.2.2.2.2.2.2.2.2])] ?_
    obtain⟨r189,hv190,hF⟩:=A.bd_some hF
    refine A.AL.call 4479 [] (first:=[]) (cap:=[]) cf13 (R02_Then_ok (y44,y46,y48,y50,(y52,y54,y56,y58)) (x122.2.2.1,x122.2.2.2.1,x122.2.2.2.2.1,x122.2.2.2.2.2.1,(x122.2.2.2.2.2.2.1,x122.2.2.2.2.2.2.2.1,x122.2.2.2.2.2.2.2.2.1,x122.2.2.2.2.2.2.2.2.2)) hy45 hy47 hy49 hy51 hy53 hy55 hy57 hy59 ho124.2.2.1 ho124.2.2.2.1 ho124.2.2.2.2.1 ho124.2.2.2.2.2.1 ho124.2.2.2.2.2.2.1 ho124.2.2.2.2.2.2.2.1 ho124.2.2.2.2.2.2.2.2.1 ho124.2.2.2.2.2.2.2.2.2 r189 hv190) .nil ?_
    rintro _ _ ⟨rfl,rfl,hr191,hr192,hr193,hr194,hr195,hr196,hr197,hr198,hr199⟩
    refine⟨by kernel_rfl,?_⟩
    refine A.q0 [] [] [.n,.n,.n] [(108,.agg #[.int .i64 r189.1.1,.int .i64 r189.1.2.1,.int .i64 r189.1.2.2.1,.int .i64 r189.1.2.2.2.1,.int .i64 r189.1.2.2.2.2.1,.int .i64 r189.1.2.2.2.2.2.1,.int .i64 r189.1.2.2.2.2.2.2.1,.int .i64 r189.1.2.2.2.2.2.2.2]),(109,.int .i64 r189.2)] ?_
    refine A.sw 170 [] [.int .i64 r189.1.1,.int .i64 r189.1.2.1,.int .i64 r189.1.2.2.1,.int .i64 r189.1.2.2.2.1,.int .i64 r189.1.2.2.2.2.1,.int .i64 r189.1.2.2.2.2.2.1,.int .i64 r189.1.2.2.2.2.2.2.1,.int .i64 r189.1.2.2.2.2.2.2.2] ?_
    refine A.q0 [] [] [.n] [(8,.int .i64 r189.2)] ?_
    refine A.dl 2 ?_
    refine A.q0 [] [] [.n,.n] [(111,.bool (decide (r189.2≠0)))] ?_
    refine A.dx 1 ?_
    refine A.AX.cnd rfl hF (fun hb hF=>?_) (fun hb hF=>?_)
    ·refine A.xl 1 ?_
     refine A.q0 [] [] [.n] [(6,.bool true)] ?_
     refine A.dx 1 ?_
     obtain rfl:=Option.some.inj hF
     exact A.rt1 [] ⟨rfl,rfl⟩
    refine A.xe 1 ?_
    exact A.j ⟨r189.1.1,r189.1.2.1,r189.1.2.2.1,r189.1.2.2.2.1,r189.1.2.2.2.2.1,r189.1.2.2.2.2.2.1,r189.1.2.2.2.2.2.2.1,r189.1.2.2.2.2.2.2.2,rfl,rfl,hr191,hr192,hr193,hr194,hr195,hr196,hr197,hr198,hF⟩
   rintro _ _ ⟨y128,y130,y132,y134,y136,y138,y140,y142,rfl,rfl,hy129,hy131,hy133,hy135,hy137,hy139,hy141,hy143,hF⟩
   rw[F.L08_GraphOn_j5]at hF
   refine A.xl 1 ?_
   refine A.q0 [4478] [] [.n,.b 0 2] [(113,.agg #[.int .i64 x122.2.1.1,.int .i64 x122.2.1.2])] ?_
   refine A.sw 168 [] [.int .i64 x122.2.1.1,.int .i64 x122.2.1.2] ?_
   refine A.dl 3 ?_
   refine A.q0 [168,169] [] [.b 0 0,.b 1 0] [(114,.agg #[.int .i64 x122.2.1.1,.int .i64 x122.2.1.2]),(115,.agg #[.int .i64 x17.1.1,.int .i64 x17.1.2])] ?_
   refine A.AL.val rfl (fun a w hf hh=>eqagg_neq43 (x:=(x122.2.1.1,x122.2.1.2)) (y:=(x17.1.1,x17.1.2)) (hf.eval rfl) (hf.eval rfl)) ?_
   refine A.dx 1 ?_
   refine A.AX.cnd rfl hF (fun hb hF=>?_) (fun hb hF=>?_)
   ·refine A.xe 1 ?_
    exact A.j ⟨y28,y30,y32,y34,y36,y38,x122.2.1.1,x122.2.1.2,y128,y130,y132,y134,y136,y138,y140,y142,rfl,rfl,hy29,hy31,hy33,hy35,hy37,hy39,ho124.2.1.1,ho124.2.1.2,hy129,hy131,hy133,hy135,hy137,hy139,hy141,hy143,hF⟩
   refine A.xl 3 ?_
   refine A.q0 [170] [] [.n,.b 0 0,.n] [(118,.int .i64 y128),(119,.pointer (some ⟨g2,1,none⟩))] ?_
   refine A.AL.store 5 [] (new:=[.int .i64 y128]) (cs':=[.int .i64 y28,.int .i64 y128,.int .i64 y32,.int .i64 y34,.int .i64 y36,.int .i64 y38]) ?_
   refine A.dl 3 ?_
   refine A.q0 [170] [] [.n,.b 0 0,.n] [(18,.int .i64 y128)] ?_
   refine A.dx 2 ?_
   refine A.lp_ [5,7,9,10,11,66,67,68] [2,3,6,168,169,170,171] (fun f nl nh=>∃(y144:Int),∃(y146:Int),∃(y148:Int),∃(y150:Int),∃(y152:Int),∃(y154:Int),∃(y156:Int),nl=[(18,.int .i64 y156)]∧nh=[(5,.blk g2 37 [.int .i64 y144,.int .i64 y146,.int .i64 y148,.int .i64 y150,.int .i64 y152,.int .i64 y154])]∧IntKind.i64.has y144∧IntKind.i64.has y146∧IntKind.i64.has y148∧IntKind.i64.has y150∧IntKind.i64.has y152∧IntKind.i64.has y154∧IntKind.i64.has y156∧F.L08_GraphOn_l4 (F.L08_GraphOn_l7 a1 r3 x17 f62) y60 x122 y128 y130 y132 y134 y136 y138 y140 y142 f y144 y146 y148 y150 y152 y154 y156=some r) ⟨y28,y128,y32,y34,y36,y38,y128,rfl,rfl,hy29,hy129,hy33,hy35,hy37,hy39,hy129,hF⟩ ?_
   rintro f158 _ _ ⟨y144,y146,y148,y150,y152,y154,y156,rfl,rfl,hy145,hy147,hy149,hy151,hy153,hy155,hy157,hF⟩
   rcases f158 with _|f158
   ·exact A.no0 hF
   rw[F.L08_GraphOn_l4]at hF
   refine A.xl 2 ?_
   refine A.q0 [] [] [.n,.n] [(123,.bool (decide (y156<4)))] ?_
   refine A.dx 1 ?_
   refine A.AX.cnd rfl hF (fun hb hF=>?_) (fun hb hF=>?_)
   ·refine A.xl 4 ?_
    refine A.q0 [] [] [.n,.n] [(126,.int .i64 y156),(127,.pointer (some ⟨g2,2,none⟩))] ?_
    obtain⟨x159,hv160,hF⟩:=A.bd_some hF
    refine A.AL.ixb 5 4845 (fun v:Int=>.int .i64 v) [y148,y150,y152,y154] hv160 ?_
    refine A.AL.stb 5 [4845] hv160 (A.arr4 (Q:=fun i=>[.int .i64 y144,.int .i64 y146,.int .i64 (if i=0 then 0 else y148),.int .i64 (if i=1 then 0 else y150),.int .i64 (if i=2 then 0 else y152),.int .i64 (if i=3 then 0 else y154)]=List.set [.int .i64 y144,.int .i64 y146,.int .i64 y148,.int .i64 y150,.int .i64 y152,.int .i64 y154] (2+i.toNat*1) (.int .i64 0)) hv160 rfl rfl rfl rfl) ?_
    refine A.dl 2 ?_
    obtain⟨hc161,hF⟩:=A.gd_some hF
    refine A.q [] [] [.n,.n,.n] [Z.R64 (y156+1)] [(18,.int .i64 (y156+1))] hc161 ?_
    refine A.AL.done ?_
    exact A.j ⟨_,Nat.lt_succ_self _,⟨y144,y146,(if y156=0 then 0 else y148),(if y156=1 then 0 else y150),(if y156=2 then 0 else y152),(if y156=3 then 0 else y154),(y156+1),rfl,rfl,hy145,hy147,(A.ite_has (A.hasl .i64 (0) rfl) hy149),(A.ite_has (A.hasl .i64 (0) rfl) hy151),(A.ite_has (A.hasl .i64 (0) rfl) hy153),(A.ite_has (A.hasl .i64 (0) rfl) hy155),(Z.i64_has hc161),hF⟩⟩
   refine A.xl 3 ?_
   refine A.q0 [170,5] [] [.b 0 0,.b 1 0] [(130,.agg #[.int .i64 y128,.int .i64 y130,.int .i64 y132,.int .i64 y134,.int .i64 y136,.int .i64 y138,.int .i64 y140,.int .i64 y142]),(131,.agg #[.int .i64 y144,.int .i64 y146,.int .i64 y148,.int .i64 y150,.int .i64 y152,.int .i64 y154])] ?_
   obtain⟨r162,hv163,hF⟩:=A.bd_some hF
   refine A.AL.call 4846 [] (first:=[]) (cap:=[]) cf14 (R02_Apply_ok (y128,y130,y132,y134,(y136,y138,y140,y142)) (y144,y146,(y148,y150,y152,y154)) hy129 hy131 hy133 hy135 hy137 hy139 hy141 hy143 hy145 hy147 hy149 hy151 hy153 hy155 r162 hv163) .nil ?_
   rintro _ _ ⟨rfl,rfl,hr164,hr165,hr166,hr167,hr168,hr169,hr170⟩
   refine⟨by kernel_rfl,?_⟩
   refine A.q0 [] [] [.n,.n,.n] [(133,.agg #[.int .i64 r162.1.1,.int .i64 r162.1.2.1,.int .i64 r162.1.2.2.1,.int .i64 r162.1.2.2.2.1,.int .i64 r162.1.2.2.2.2.1,.int .i64 r162.1.2.2.2.2.2]),(134,.int .i64 r162.2)] ?_
   refine A.AL.alloc 4886 (cs:=[.int .i64 0,.int .i64 0,.int .i64 0,.int .i64 0,.int .i64 0,.int .i64 0]) Tryd.zeroValue37 fun g171=>?_
   refine A.sw 4886 [] [.int .i64 r162.1.1,.int .i64 r162.1.2.1,.int .i64 r162.1.2.2.1,.int .i64 r162.1.2.2.2.1,.int .i64 r162.1.2.2.2.2.1,.int .i64 r162.1.2.2.2.2.2] ?_
   refine A.q0 [] [] [.n] [(20,.int .i64 r162.2)] ?_
   refine A.dl 2 ?_
   refine A.q0 [170] [] [.n,.b 0 0] [(137,.int .i64 y128)] ?_
   obtain⟨r172,hv173,hF⟩:=A.bd_some hF
   refine A.AL.call 4887 [] (first:=[]) (cap:=[]) cf15 (R02_Id_ok y128 hy129 r172 hv173) .nil ?_
   rintro _ _ ⟨rfl,rfl,hr174,hr175,hr176,hr177,hr178,hr179,hr180,hr181,hr182⟩
   refine⟨by kernel_rfl,?_⟩
   refine A.q0 [] [] [.n,.n,.n] [(139,.agg #[.int .i64 r172.1.1,.int .i64 r172.1.2.1,.int .i64 r172.1.2.2.1,.int .i64 r172.1.2.2.2.1,.int .i64 r172.1.2.2.2.2.1,.int .i64 r172.1.2.2.2.2.2.1,.int .i64 r172.1.2.2.2.2.2.2.1,.int .i64 r172.1.2.2.2.2.2.2.2]),(140,.int .i64 r172.2)] ?_
   refine A.AL.alloc 4927 (cs:=[.int .i64 0,.int .i64 0,.int .i64 0,.int .i64 0,.int .i64 0,.int .i64 0,.int .i64 0,.int .i64 0]) Tryd.zeroValue45 fun g183=>?_
   refine A.sw 4927 [] [.int .i64 r172.1.1,.int .i64 r172.1.2.1,.int .i64 r172.1.2.2.1,.int .i64 r172.1.2.2.2.1,.int .i64 r172.1.2.2.2.2.1,.int .i64 r172.1.2.2.2.2.2.1,.int .i64 r172.1.2.2.2.2.2.2.1,.int .i64 r172.1.2.2.2.2.2.2.2] ?_
   refine A.q0 [] [] [.n] [] ?_
   refine A.dx 1 ?_
   refine A.AX.join [5,7,9,10,11,66,67,68] [2,3,5,6,168,169,170,171] (fun nl nh=>∃(y184:Bool),nl=[(152,.bool y184)]∧nh=[]∧F.L08_GraphOn_j3 (F.L08_GraphOn_l7 a1 r3 x17 f62) y60 x122 y128 y130 y132 y134 y136 y138 y140 y142 y144 y146 y148 y150 y152 y154 y184=some r) ?_ ?_
   ·refine A.xl 0 ?_
    refine A.q0 [170,4927] [] [.b 0 0,.b 1 0] [(141,.agg #[.int .i64 y128,.int .i64 y130,.int .i64 y132,.int .i64 y134,.int .i64 y136,.int .i64 y138,.int .i64 y140,.int .i64 y142]),(142,.agg #[.int .i64 r172.1.1,.int .i64 r172.1.2.1,.int .i64 r172.1.2.2.1,.int .i64 r172.1.2.2.2.1,.int .i64 r172.1.2.2.2.2.1,.int .i64 r172.1.2.2.2.2.2.1,.int .i64 r172.1.2.2.2.2.2.2.1,.int .i64 r172.1.2.2.2.2.2.2.2])] ?_
    obtain⟨r185,hv186,hF⟩:=A.bd_some hF
    refine A.AL.call 4928 [] (first:=[]) (cap:=[]) cf16 (R02_Leq_ok (y128,y130,y132,y134,(y136,y138,y140,y142)) (r172.1.1,r172.1.2.1,r172.1.2.2.1,r172.1.2.2.2.1,(r172.1.2.2.2.2.1,r172.1.2.2.2.2.2.1,r172.1.2.2.2.2.2.2.1,r172.1.2.2.2.2.2.2.2)) hy129 hy131 hy133 hy135 hy137 hy139 hy141 hy143 hr174 hr175 hr176 hr177 hr178 hr179 hr180 hr181 r185 hv186) .nil ?_
    rintro _ _ ⟨rfl,rfl⟩
    refine⟨by kernel_rfl,?_⟩
    refine A.q0 [] [] [.n] [(144,.bool r185)] ?_
    refine A.AL.cnd (j:=144) rfl hF (fun hF=>?_) (fun hF=>?_)
    ·refine A.q0 [] [] [.off,.off,.off,.off,.off,.off,.off,.n] [(152,.bool true)] ?_
     refine A.AL.done ?_
     exact A.j ⟨true,rfl,rfl,hF⟩
    refine A.q0 [] [] [.on .n,.on .n,.on .n] [(147,.bool (decide (r162.2=0)))] ?_
    refine A.AL.cnp (j:=147) rfl hF (fun hb hF=>?_) (fun hb hF=>?_)
    ·refine A.q0 [4886,5] [] [.on (.b 0 0),.on (.b 1 0)] [(148,.agg #[.int .i64 r162.1.1,.int .i64 r162.1.2.1,.int .i64 r162.1.2.2.1,.int .i64 r162.1.2.2.2.1,.int .i64 r162.1.2.2.2.2.1,.int .i64 r162.1.2.2.2.2.2]),(149,.agg #[.int .i64 y144,.int .i64 y146,.int .i64 y148,.int .i64 y150,.int .i64 y152,.int .i64 y154])] ?_
     refine A.AL.on (dj:=147) rfl rfl ?_
     obtain⟨r187,hv188,hF⟩:=A.bd_some hF
     refine A.AL.call 4968 [] (first:=[]) (cap:=[]) cf17 (L08_leq_ok (r162.1.1,r162.1.2.1,(r162.1.2.2.1,r162.1.2.2.2.1,r162.1.2.2.2.2.1,r162.1.2.2.2.2.2)) (y144,y146,(y148,y150,y152,y154)) hr164 hr165 hr166 hr167 hr168 hr169 hy145 hy147 hy149 hy151 hy153 hy155 r187 hv188) .nil ?_
     rintro _ _ ⟨rfl,rfl⟩
     refine⟨by kernel_rfl,?_⟩
     refine A.q0 [] [] [.on .n,.n] [(152,.bool r187)] ?_
     refine A.AL.done ?_
     exact A.j ⟨r187,rfl,rfl,hF⟩
    refine A.q0 [] [] [.off,.off,.off,.on .n,.n] [(152,.bool false)] ?_
    refine A.AL.done ?_
    exact A.j ⟨false,rfl,rfl,hF⟩
   rintro _ _ ⟨y184,rfl,rfl,hF⟩
   rw[F.L08_GraphOn_j3]at hF
   refine A.AX.cnb rfl hF (fun hb hF=>?_) (fun hb hF=>?_)
   ·refine A.xl 1 ?_
    refine A.q0 [] [] [.n] [(6,.bool false)] ?_
    refine A.dx 1 ?_
    obtain rfl:=Option.some.inj hF
    exact A.rt1 [] ⟨rfl,rfl⟩
   refine A.xe 2 ?_
   exact A.j ⟨y144,y146,y148,y150,y152,y154,x122.2.1.1,x122.2.1.2,y128,y130,y132,y134,y136,y138,y140,y142,rfl,rfl,hy145,hy147,hy149,hy151,hy153,hy155,ho124.2.1.1,ho124.2.1.2,hy129,hy131,hy133,hy135,hy137,hy139,hy141,hy143,hF⟩
  rintro _ _ ⟨y63,y65,y67,y69,y71,y73,y75,y77,y79,y81,y83,y85,y87,y89,y91,y93,rfl,rfl,hy64,hy66,hy68,hy70,hy72,hy74,hy76,hy78,hy80,hy82,hy84,hy86,hy88,hy90,hy92,hy94,hF⟩
  rw[F.L08_GraphOn_j1]at hF
  refine A.xl 0 ?_
  obtain⟨hc95,hF⟩:=A.gd_some hF
  refine A.q [] [] [.n,.n] [Z.R64 (y60+1)] [(68,.int .i64 (y60+1))] hc95 ?_
  refine A.AL.done ?_
  exact A.j ⟨_,Nat.lt_succ_self _,⟨y63,y65,y67,y69,y71,y73,y75,y77,y79,y81,y83,y85,y87,y89,y91,y93,(y60+1),rfl,rfl,hy64,hy66,hy68,hy70,hy72,hy74,hy76,hy78,hy80,hy82,hy84,hy86,hy88,hy90,hy92,hy94,(Z.i64_has hc95),hF⟩⟩
 refine A.xl 3 ?_
 refine A.q0 [] [] [.n] [(6,.bool true)] ?_
 refine A.dx 1 ?_
 obtain rfl:=Option.some.inj hF
 exact A.rt1 [] ⟨rfl,rfl⟩
end Go.Proofs.YtpdhaldfdeamdaaDoor
end
section
end
section
set_option linter.unusedVariables false
namespace Go.A
open Go.RowKit Go.Z Go.Shelf Go.Proofs Go.Lib
def Hall (W:World):List (Nat×Res)→Prop
 | []=>True
 |p::H=>(p.2.bl=[]∧p.2.ref=none∧p.2.holds W (fun _=>True) (fun _ _=>False))∧Hall W H
theorem Hall.at {W:World}: ∀{H:List (Nat×Res)} {k:Nat} {r:Res},Hall W H→hk H k=some r→r.bl=[]∧r.ref=none∧r.holds W (fun _=>True) (fun _ _=>False)
 | [],_,_,_,h=>by cases h
 |(d,u)::H,k,r,ha,h=>by
  rw[hk_cons]at h
  split at h
  ·injection h with h;subst h;exact ha.1
  ·exact ha.2.at h
theorem Hp.start {W:World}{H:List (Nat×Res)}(h:Hall W H):Hp ⟨0,[],W,[],fun _=>True⟩ H W:=by
 have hb: ∀k b,¬Bk H k b:=fun k b ⟨r,h1,h2⟩=>by rw[(h.at h1).1]at h2;cases h2
 refine⟨Ch.refl W,fun k r hk=>?_,fun k b hB=>(hb k b hB).elim,fun k k' b hB=>(hb k b hB).elim,fun k r j hk hr=>?_⟩
 ·exact Res.to (S:=[]) (h.at hk).2.2 (Ch.refl W) (fun b _ _=>⟨by simp,fun k=>hb k b,.inl trivial⟩) (fun b _ _=>⟨by simp,fun k=>hb k b⟩) (fun i b _ hf=>hf.elim) (by simp)
 ·rw[(h.at hk).2.1]at hr;cases hr
theorem Hall.sh {W:World}{t:Ty}{cs:List Value}{x:t.den}{F:Nat→Prop}(h:t.rep W F cs x):(Res.sh t cs x).bl=[]∧(Res.sh t cs x).ref=none∧(Res.sh t cs x).holds W (fun _=>True) (fun _ _=>False):=
 ⟨rfl,rfl,rep_as h fun _ _ _=>trivial⟩
theorem Hall.ln {W:World}{t:Ty}{A:Option Addr}{c n:Nat}{xs:List t.den}{F:Nat→Prop}(h:(Ty.slice t).rep W F [.slice A xs.length c] xs):(Res.ln t A c xs).bl=[]∧(Res.ln t A c xs).ref=none∧(Res.ln t A c xs).holds W (fun _=>True) (fun _ _=>False):=
 ⟨rfl,rfl,Row.to (S:=[]) (Row.of h) (Ch.refl W) (fun _ _ _=>⟨by simp,trivial⟩) (fun _ _ _=>⟨by simp,fun _ h=>h⟩)⟩
def putCells (cs:List Value):Obj→Obj
 | .cells _ t frozen=>.cells cs.toArray t frozen
 |o=>o
theorem tab_cells {w:World}{g3 g4:Nat}(h:Lib.Utf8Tabs g3 g4 w):Cells w ⟨g3,0,none⟩ tabF∧Cells w ⟨g4,0,none⟩ tabA:=by
 constructor
 ·intro j u hu
  rw[Addr.add_lit,Nat.zero_add]
  have hj:j<256:=by have:=(List.getElem?_eq_some_iff.1 hu).1;simpa[tabF] using this
  have e:tabF[j]?=some (.int .u8 (firstT j)):=by simp[tabF,hj]
  rw[e]at hu;injection hu with hu;subst hu
  exact h.1 j hj
 ·intro j u hu
  rw[Addr.add_lit,Nat.zero_add]
  have hj:j<32:=by have:=(List.getElem?_eq_some_iff.1 hu).1;simpa[tabA] using this
  have e:tabA[j]?=some (.int .u8 (if j%2=0 then accLo (j / 2)else accHi (j / 2))):=by simp[tabA,hj]
  rw[e]at hu;injection hu with hu;subst hu
  have:=h.2 (j / 2) (by omega)
  by_cases he:j%2=0
  ·rw[if_pos he]
   have hj2:j=2*(j / 2):=by omega
   rw[hj2];simpa using this.1
  ·rw[if_neg he]
   have hj2:j=2*(j / 2)+1:=by omega
   have h3:(2*(j / 2)+1) / 2=j / 2:=by omega
   rw[hj2,h3];exact this.2
theorem Hall.tabs {w:World}{g3 g4 i j:Nat}(h:Lib.Utf8Tabs g3 g4 w):Hall w [(i,.el none g3 0 tabF),(j,.el none g4 0 tabA)]:=by
 obtain⟨h1,h2⟩:=tab_cells h
 exact⟨⟨rfl,rfl,h1,World.block_lt_of_cell? w _ (h1 0 (.int .u8 (firstT 0)) (by simp[tabF])),fun _ h=>h⟩,⟨rfl,rfl,h2,World.block_lt_of_cell? w _ (h2 0 (.int .u8 (accLo 0)) (by simp[tabA])),fun _ h=>h⟩,trivial⟩
end Go.A
end
section
namespace Go.Graph
abbrev Fun:=Int×Int×ByteArray
abbrev Nd:=Int×Int×List Int×Fun×ByteArray×Int×Int
abbrev Pl:=Int×Int
abbrev Sp:=Pl×Int
abbrev id (x:Nd):Int:=x.1
abbrev kind (x:Nd):Int:=x.2.1
abbrev fn (x:Nd):Fun:=x.2.2.2.1
abbrev name (x:Nd):ByteArray:=x.2.2.2.2.1
abbrev cap (x:Nd):Int:=x.2.2.2.2.2.1
abbrev dep (x:Nd):Int:=x.2.2.2.2.2.2
def Few (g:List Nd):Prop:=g.length≤40∧∀x,x∈g→x.2.2.1.length≤5000∧x.2.2.2.2.1.size≤5000∧x.2.2.2.1.2.2.size≤5000
theorem Few.in {g:List Nd}{k:Nat}{x:Nd}(h:Few g)(hx:g[k]?=some x):x.2.2.1.length≤5000:=(h.2 x (List.mem_of_getElem? hx)).1
theorem dropc {α:Type}{xs:List α}{k:Nat}{x:α}(h:xs[k]?=some x):xs.drop k=x::xs.drop (k+1):=by
 obtain⟨h1,h2⟩:=List.getElem?_eq_some_iff.1 h
 rw[List.drop_eq_getElem_cons h1,h2]
def insK (k:Int):Int:=if k<1∨16<k then-1 else if k=1 then 0 else if k=5∨k=9 then 2 else 1
def letter (c:UInt8):Bool:=decide ((97:Int)≤(c.toNat:Int)∧(c.toNat:Int)≤122∨(65:Int)≤(c.toNat:Int)∧(c.toNat:Int)≤90)
def digit (c:UInt8):Bool:=decide ((48:Int)≤(c.toNat:Int)∧(c.toNat:Int)≤57)
def wordy (l:List UInt8):Bool:=l.all fun c=>letter c||digit c
def named (s:ByteArray):Bool:=decide (s≠ByteArray.mk #[])&&decide ((s.size:Int)≤16)&&letter (Z.bat s 0)&&wordy s.data.toList
theorem drop_bat {s:ByteArray}{i:Nat}(h:i<s.size):s.data.toList.drop i=Z.bat s i::s.data.toList.drop (i+1):=by
 have h':i<s.data.toList.length:=by simpa using h
 rw[List.drop_eq_getElem_cons h']
 have h2:i<s.data.size:=h
 congr 1
 simp[Z.bat,Array.getElem?_eq_getElem h2]
theorem drop_end {s:ByteArray}{i:Nat}(h: ¬i<s.size):s.data.toList.drop i=[]:=
 List.drop_eq_nil_of_le (by have h1:s.data.toList.length=s.size:=rfl;omega)
theorem size_pos {s:ByteArray}(h:s≠ByteArray.mk #[]):0<s.size:=by
 rcases Nat.eq_zero_or_pos s.size with h0|h0
 ·have h1:s.data=#[]:=Array.eq_empty_of_size_eq_zero h0
  exact absurd (by cases s;simp_all) h
 ·exact h0
def idxF (id:Int):Nat→List Nd→Int
 |_,[]=> -1
 |k,x::r=>if x.1=id then(k:Int)else idxF id (k+1) r
def idx (g:List Nd)(id:Int):Int:=idxF id 0 g
def namedF (kd:Int)(s:ByteArray):List Nd→Int×Bool
 | []=>(0,false)
 |x::r=>if kind x=kd∧name x=s then(x.1,true)else namedF kd s r
def z0:Nd:=(0,0,[],(0,0,ByteArray.mk #[]),ByteArray.mk #[],0,0)
def at_ (g:List Nd)(i:Int):Nd:=(g[i.toNat]?).getD z0
def find (g:List Nd)(id:Int):Nd×Bool:=if idx g id<0 then(z0,false)else(at_ g (idx g id),true)
theorem idxF_le (id:Int): ∀(k:Nat) (g:List Nd),-1≤idxF id k g∧idxF id k g<k+g.length
 |k,[]=>by simp[idxF];omega
 |k,x::r=>by
  unfold idxF
  have:=idxF_le id (k+1) r
  by_cases h:x.1=id
  ·rw[if_pos h];simp only[List.length_cons];omega
  ·rw[if_neg h];simp only[List.length_cons];omega
theorem idx_le (g:List Nd)(id:Int): -1≤idx g id∧idx g id<g.length:=by
 have:=idxF_le id 0 g
 unfold idx;omega
theorem at_some {g:List Nd}{i:Int}{x:Nd}{k:Nat}(hk:i=(k:Int))(h:g[k]?=some x):at_ g i=x:=by
 subst hk;simp[at_,h]
def ownT (g:List Nd)(n:Nd):Bool:=if n.2.1≠1∧n.2.1≠15 then decide (n.2.2.2.2.1=ByteArray.mk #[])else named n.2.2.2.2.1&&decide ((namedF n.2.1 n.2.2.2.2.1 g).1=n.1)
def ownC (n:Nd):Prop:=n.2.1=14∧(n.2.2.2.2.2.1<1∨8<n.2.2.2.2.2.1∨n.2.2.2.2.2.2<1∨4<n.2.2.2.2.2.2)∨n.2.1≠14∧(n.2.2.2.2.2.1≠0∨n.2.2.2.2.2.2≠0)
instance (n:Nd):Decidable (ownC n):=by unfold ownC;infer_instance
def own (g:List Nd)(i:Int)(n:Nd):Bool:=
 if n.1<1∨255<n.1∨0<i∧n.1≤(at_ g (i-1)).1∨insK n.2.1<0∨(n.2.2.1.length:Int)≠insK n.2.1 then false else if ownC n then false else ownT g n
def bget (l:List Bool)(i:Int):Bool:=(l[i.toNat]?).getD false
def iget (l:List Int)(i:Int):Int:=(l[i.toNat]?).getD 0
def Fed (g:List Nd):Prop:=∀x,x∈g→∀k,k∈x.2.2.1→0≤idx g k
def readyF (g:List Nd)(done:List Bool)(kd:Int):List Int→Bool
 | []=>true
 |k::r=>if kd≠14∧bget done (idx g k)=false then false else readyF g done kd r
def ready (g:List Nd)(done:List Bool)(n:Nd):Bool:=readyF g done n.2.1 n.2.2.1
def firstF (g:List Nd)(done:List Bool):Nat→List Nd→Int→Int
 |_,[],a=>a
 |i,x::r,a=>firstF g done (i+1) r (if(a<0∧bget done i=false)∧ready g done x=true then i else a)
def orderF (g:List Nd):Nat→List Bool→List Int→Option (List Int)
 |0,_,l=>some l
 |f+1,done,l=>if firstF g done 0 g (-1)<0 then none else orderF g f (done.set (firstF g done 0 g (-1)).toNat true) (l++[firstF g done 0 g (-1)])
def d0:List Int→Int
 | []=>0
 |a::_=>a
def capd (d:Int):Int:=if 4<d then-1 else d
def depthA (n:Nd)(l:List Int):Int:=if n.2.1=14 then n.2.2.2.2.2.2 else if n.2.1=12 then d0 l+1 else if n.2.1=13 then d0 l-1 else
 if n.2.1=5∨n.2.1=9 then(if iget l 0≠iget l 1 then-1 else d0 l)else if n.2.1=11∨n.2.1=16∨n.2.1=15 then(if d0 l≠0 then-1 else d0 l)else d0 l
def depthOf (n:Nd)(l:List Int):Int:=capd (depthA n l)
theorem d0_iget {l:List Int}:iget l 0=d0 l:=by cases l<;>rfl
theorem d0_nil {l:List Int}(h:l.length=0):0=d0 l:=by cases l with
 |nil=>rfl
 |cons a r=>simp at h
def depthsF (g:List Nd):List Int→List Int→Option (List Int)
 | [],d=>some d
 |p::r,d=>if depthOf (at_ g p) ((at_ g p).2.2.1.map fun k=>iget d (idx g k))<0 then none else depthsF g r (d.set p.toNat (depthOf (at_ g p) ((at_ g p).2.2.1.map fun k=>iget d (idx g k))))
def loopsF (g:List Nd)(d:List Int):List Nd→Bool
 | []=>true
 |x::r=>if x.2.1=14∧iget d (idx g (iget x.2.2.1 0))≠x.2.2.2.2.2.2 then false else loopsF g d r
theorem firstF_le (g:List Nd)(done:List Bool): ∀(i:Nat) (l:List Nd) (a:Int),-1≤a→a<i+l.length→ -1≤firstF g done i l a∧firstF g done i l a<i+l.length
 |i,[],a,h1,h2=>by simp[firstF]at*;omega
 |i,x::r,a,h1,h2=>by
  unfold firstF
  simp only[List.length_cons]at h2 ⊢
  have:=firstF_le g done (i+1) r (if(a<0∧bget done i=false)∧ready g done x=true then i else a) (by split<;>omega) (by split<;>omega)
  omega
theorem firstF_x {g:List Nd}{done:List Bool}{k:Nat}{a:Int}{x:Nd}(hx:g[k]?=some x):firstF g done k (g.drop k) a=firstF g done (k+1) (g.drop (k+1)) (if(a<0∧bget done k=false)∧ready g done x=true then k else a):=by
 rw[dropc hx];simp only[firstF]
def depths (g:List Nd)(l:List Int):List Int×Bool:=match depthsF g l (List.replicate g.length 0)with
 |some d=>if loopsF g d g then(d,true)else([],false)
 |none=>([],false)
abbrev inD (g:List Nd) (d:List Int) (l:List Int):List Int:=l.map fun k=>iget d (idx g k)
def InB (d:List Int):Prop:=∀i,0≤iget d i∧iget d i≤4
theorem InB.rep (n:Nat):InB (List.replicate n 0):=fun i=>by
 unfold iget;rw[List.getElem?_replicate];split<;>simp
theorem depthOf_le (n:Nd)(l:List Int):depthOf n l≤4:=by unfold depthOf capd;split<;>omega
theorem InB.set {d:List Int}(h:InB d)(p:Nat){v:Int}(h0:0≤v)(h1:v≤4):InB (d.set p v):=fun i=>by
 unfold iget;rw[List.getElem?_set]
 have:=h i
 unfold iget at this
 split
 ·split<;>simp<;>omega
 ·exact this
theorem InB.d0 {d:List Int}(h:InB d)(g:List Nd)(l:List Int): -1≤Graph.d0 (inD g d l)∧Graph.d0 (inD g d l)≤4:=by
 cases l with
 |nil=>simp[Graph.d0]
 |cons k r=>have:=h (idx g k);simp only[inD,List.map_cons,Graph.d0];omega
theorem inD_take {g:List Nd}{d l:List Int}{k:Nat}{x:Int}(h:l[k]?=some x):inD g d (l.take k)++[iget d (idx g x)]=inD g d (l.take (k+1)):=by
 have h1:=(List.getElem?_eq_some_iff.1 h)
 rw[List.take_add_one,h];simp[inD]
theorem depthsF_x {g:List Nd}{l d:List Int}{k:Nat}{p:Int}{n:Nd}(hp:l[k]?=some p)(hn:at_ g p=n):depthsF g (l.drop k) d=if depthOf n (inD g d n.2.2.1)<0 then none else depthsF g (l.drop (k+1)) (d.set p.toNat (depthOf n (inD g d n.2.2.1))):=by
 rw[dropc hp];simp only[depthsF,hn,inD]
def insS (g:List Nd)(d:List Int)(id:Int):Nat→List Int→List Sp
 |_,[]=>[]
 |k,x::r=>((id,(k:Int)),iget d (idx g x))::insS g d id (k+1) r
def outS (n:Nd)(v:Int):List Sp:=if n.2.1≠15 then [((n.1,2),v)]else []
def spotsF (g:List Nd)(d:List Int):Nat→List Nd→List Sp
 |_,[]=>[]
 |i,n::r=>insS g d n.1 0 n.2.2.1++(outS n (iget d i)++spotsF g d (i+1) r)
def spots (g:List Nd)(d:List Int):List Sp:=spotsF g d 0 g
def atS (p:Pl):List Sp→Int
 | []=> -1
 |x::r=>if x.1=p then x.2 else atS p r
abbrev Sm:=Int×Int×Int×Int×(Int×Int×Int×Int)
def z8:Sm:=(0,0,0,0,(0,0,0,0))
def stepP (d a b:Int)(s:Sm):Sm×Int:=if d<a∨b<d then(z8,11)else((d,s.2),0)
def idP (d:Int):Sm×Int:=stepP d 0 4 (0,d,0,0,(0,0,0,0))
def enterP (d:Int):Sm×Int:=stepP d 0 3 (0,d,0,1,(0,0,0,0))
def leaveP (d:Int):Sm×Int:=stepP d 1 4 (0,d-1,0,0,(0,0,0,0))
def nextP (d:Int):Sm×Int:=stepP d 1 4 (0,d,1,0,(0,0,0,0))
def withinP (n:Nd)(d:Int):Sm:=if n.2.1=12 then(enterP d).1 else if n.2.1=13 then(leaveP d).1 else if n.2.1=14 then(nextP d).1 else(idP d).1
theorem width_pos (s:ByteArray)(pos:Nat):1≤(Utf8.decode s pos).2:=by
 unfold Utf8.decode;simp only[];repeat' split
 all_goals first|exact Nat.le_refl 1|(simp;done)|omega
def numberF (f:Fun):Bool:=if f.1=3∨f.1=13 then decide (0≤f.2.1∧f.2.1≤64)else if f.1=6∨f.1=11 then decide (1≤f.2.1∧f.2.1≤1048576)else decide (f.2.1=0)
def tail5 (c:UInt8):Bool:=decide (128≤(c.toNat:Int)∧(c.toNat:Int)≤191)
end Go.Graph
end
section
set_option linter.unusedVariables false
set_option linter.unusedSimpArgs false
namespace Go.A
open Go.Z
theorem r64n {n:Nat}(h:n<4611686018427387904):R64 ((n:Int)+1):=⟨by omega,by omega⟩
theorem gd1 {α:Type}{p:Prop}[Decidable p](h:p)(x:Option α):gd p x=x:=if_pos h
theorem ixn {α:Type}{xs:List α}{k:Nat}{x:α}(h:xs[k]?=some x):ix xs (k:Int)=some x:=by rw[ix_nat];exact h
theorem ixg {α:Type}{xs:List α}{i:Int}{x:α}(h0:0≤i)(h:xs[i.toNat]?=some x):ix xs i=some x:=by unfold ix;rw[if_neg (by omega)];exact h
theorem dropx {α:Type}{xs:List α}{k:Nat}{x:α}(h:xs[k]?=some x):xs.drop k=x::xs.drop (k+1):=by
 obtain⟨h1,h2⟩:=List.getElem?_eq_some_iff.1 h
 rw[List.drop_eq_getElem_cons h1,h2]
theorem ba {p q:Prop}[Decidable p][Decidable q]:(bif decide p then decide q else false)=decide (p∧q):=by by_cases h:p<;>simp[h]
theorem bo {p q:Prop}[Decidable p][Decidable q]:(bif decide p then true else decide q)=decide (p∨q):=by by_cases h:p<;>simp[h]
theorem bn {p:Prop}[Decidable p]:(!decide p)=decide (¬p):=by by_cases h:p<;>simp[h]
theorem lp {α σ ρ:Type}(xs:List α)(L:Nat→σ→Int→Option ρ)(G:Nat→List α→σ→Option ρ)(P:Nat→σ→Prop)
  (h0: ∀f s,P xs.length s→L (f+1) s (xs.length:Int)=G xs.length [] s)
  (h1: ∀f s (k:Nat) x,xs[k]?=some x→k<xs.length→P k s→(∀s',P (k+1) s'→L f s' ((k:Int)+1)=G (k+1) (xs.drop (k+1)) s')→L (f+1) s k=G k (x::xs.drop (k+1)) s)
  (hl:xs.length<FU) (s:σ) (hs:P 0 s):L FU s 0=G 0 xs s:=by
 have main: ∀(n k f:Nat) (s:σ),k+n=xs.length→n<f→P k s→L f s (k:Int)=G k (xs.drop k) s:=by
  intro n
  induction n with
  |zero=>
   intro k f s hk hf hp
   obtain⟨f,rfl⟩: ∃f',f=f'+1:=⟨f-1,by omega⟩
   obtain rfl:k=xs.length:=by omega
   rw[List.drop_eq_nil_of_le (Nat.le_refl _)];exact h0 f s hp
  |succ n ih=>
   intro k f s hk hf hp
   obtain⟨f,rfl⟩: ∃f',f=f'+1:=⟨f-1,by omega⟩
   have hx:xs[k]?=some xs[k]:=List.getElem?_eq_getElem (by omega)
   rw[dropx hx]
   exact h1 f s k _ hx (by omega) hp fun s' hp'=>ih (k+1) f s' (by omega) (by omega) hp'
 have:=main xs.length 0 FU s (by omega) hl hs
 simpa using this
theorem lp0 {α ρ:Type}(xs:List α)(L:Nat→Int→Option ρ)(G:Nat→List α→Option ρ)
  (h0: ∀f,L (f+1) (xs.length:Int)=G xs.length [])
  (h1: ∀f (k:Nat) x,xs[k]?=some x→k<xs.length→L f ((k:Int)+1)=G (k+1) (xs.drop (k+1))→L (f+1) k=G k (x::xs.drop (k+1)))
  (hl:xs.length<FU):L FU 0=G 0 xs:=
 lp xs (fun f (_:Unit) y=>L f y) (fun k l _=>G k l) (fun _ _=>True) (fun f s _=>h0 f) (fun f s k x hx hk _ ih=>h1 f k x hx hk (ih () trivial)) hl () trivial
end Go.A
namespace Go.Proofs.YtpdhaldfdeamdaaDoor
open Go.RowKit Go.Graph
theorem FU_big:(18446744073709551616:Nat)<A.FU:=by decide
theorem ixb {s:ByteArray}{k:Nat}(h:k<s.size):A.ix s.data.toList (k:Int)=some (Z.bat s k):=by
 refine A.ixn ?_
 have:=drop_bat h
 rw[←List.head?_drop,this];rfl
theorem size_list (s:ByteArray):s.data.toList.length=s.size:=rfl
end Go.Proofs.YtpdhaldfdeamdaaDoor
end
section
set_option linter.unusedVariables false
set_option linter.unusedSimpArgs false
namespace Go.Proofs.YtpdhaldfdeamdaaDoor
open Go.RowKit Go.Graph
theorem Ins_eq (k:Int):F.graph_Ins k=F.R08_Ins k:=rfl
theorem R08_Ins_eq (k:Int):F.R08_Ins k=some (insK k):=by
 unfold F.R08_Ins insK
 simp only[Bool.cond_decide]
 by_cases h1:k<1<;>by_cases h2:16<k<;>simp[h1,h2]
 by_cases h3:k=1
 ·simp[h3]
 ·by_cases h4:k=5<;>by_cases h5:k=9<;>simp[h3,h4,h5]
theorem letter_eq (c:UInt8):F.R08_letter c=some (letter c):=by
 unfold F.R08_letter letter
 by_cases h1:(97:Int)≤(c.toNat:Int)<;>by_cases h2:(c.toNat:Int)≤122<;>simp[h1,h2]
theorem digit_eq (c:UInt8):F.R08_digit c=some (digit c):=by
 unfold F.R08_digit digit
 by_cases h1:(48:Int)≤(c.toNat:Int)<;>by_cases h2:(c.toNat:Int)≤57<;>simp[h1,h2]
theorem name_eq (s:ByteArray)(hs:s.size≤5000):F.R08_name s=some (named s):=by
 have loop:F.R08_name_l2 s A.FU 0=some (wordy s.data.toList):=A.lp0 s.data.toList (fun f y=>F.R08_name_l2 s f y) (fun _ l=>some (wordy l))
  (fun f=>by rw[F.R08_name_l2,if_neg (by rw[size_list];omega)];rfl)
  (fun f k x hx hk ih=>by
   have hk':k<s.size:=hk
   rw[F.R08_name_l2,if_pos (by omega),A.ixn hx,Option.bind_some,letter_eq,Option.bind_some]
   cases hl:letter x with
   |true=>
    simp only[Bool.not_true,Bool.false_eq_true,if_false,F.R08_name_j1]
    rw[A.gd1 (A.r64n (by omega)),ih];simp[wordy,hl]
   |false=>
    simp only[Bool.not_false,if_true,A.ixn hx,Option.bind_some,digit_eq,F.R08_name_j1]
    cases hd:digit x with
    |true=>simp only[Bool.not_true,Bool.false_eq_true,if_false];rw[A.gd1 (A.r64n (by omega)),ih];simp[wordy,hl,hd]
    |false=>simp[wordy,hl,hd])
  (by rw[size_list];have:=FU_big;omega)
 unfold F.R08_name named
 by_cases h1:s=ByteArray.mk #[]
 ·simp[h1,F.R08_name_j3]
 ·by_cases h2:(16:Int)<(s.size:Int)
  ·have h2': ¬(s.size:Int)≤16:=by omega
   simp[h1,h2,h2',F.R08_name_j3]
  ·have h2':(s.size:Int)≤16:=by omega
   have h0:=size_pos h1
   have e0:A.ix s.data.toList 0=some (Z.bat s 0):=ixb h0
   simp only[h1,h2,h2',decide_false,cond_false,Bool.false_eq_true,if_false,e0,Option.bind_some,letter_eq,F.R08_name_j3,loop,decide_true,ne_eq,not_false_eq_true,Bool.and_true,Bool.true_and]
   cases letter (Z.bat s 0)<;>simp
end Go.Proofs.YtpdhaldfdeamdaaDoor
end
section
set_option linter.unusedVariables false
set_option linter.unusedSimpArgs false
namespace Go.Proofs.YtpdhaldfdeamdaaDoor
open Go.RowKit Go.Graph
theorem bat_get (s:ByteArray)(i:Nat):(s.get! i)=Z.bat s i:=by
 cases s;simp[ByteArray.get!,Z.bat,getElem!_def,Option.getD]
 rfl
theorem dec_at (s:ByteArray)(i:Nat):Utf8.decode s i=Lib.decodeN (s.size-i) (Z.bat s i).toNat (Z.bat s (i+1)).toNat (Z.bat s (i+2)).toNat (Z.bat s (i+3)).toNat:=by
 rw[Lib.decode_at,bat_get,bat_get,bat_get,bat_get]
theorem dec_lt {s:ByteArray}{i:Nat}(h:(Z.bat s i).toNat <128):Utf8.decode s i=((Z.bat s i).toNat,1):=by
 rw[dec_at];unfold Lib.decodeN;rw[if_pos h]
theorem dec_ge {s:ByteArray}{i:Nat}(h:128≤(Z.bat s i).toNat):128≤(Utf8.decode s i).1:=by
 rw[dec_at];unfold Lib.decodeN;rw[if_neg (by omega)]
 repeat' split
 all_goals first|(simp only[];omega)|decide
end Go.Proofs.YtpdhaldfdeamdaaDoor
end
section
set_option linter.unusedVariables false
set_option linter.unusedSimpArgs false
namespace Go.Proofs.YtpdhaldfdeamdaaDoor
open Go.RowKit Go.Graph
theorem named_eq (s:ByteArray)(hs:s.size≤9223372036854775807):F.graph_named s=some (named s):=by
 have loop: ∀(n p f:Nat),s.size-p≤n→n<f→F.graph_named_l1 s f p=some ((if p=0∧0<s.size then letter (Z.bat s 0)else true)&&wordy (s.data.toList.drop p)&&(decide (s≠ByteArray.mk #[])&&decide ((s.size:Int)≤16))):=by
  intro n
  induction n with
  |zero=>
   intro p f hp hf
   obtain⟨f,rfl⟩: ∃f',f=f'+1:=⟨f-1,by omega⟩
   rw[F.graph_named_l1,if_neg (by omega),drop_end (by omega),if_neg (by omega)]
   by_cases h1:s=ByteArray.mk #[]<;>simp[h1,wordy]
  |succ n ih=>
   intro p f hp hf
   obtain⟨f,rfl⟩: ∃f',f=f'+1:=⟨f-1,by omega⟩
   by_cases hp2:p<s.size
   ·rw[F.graph_named_l1,if_pos hp2,drop_bat hp2]
    rcases Nat.lt_or_ge (Z.bat s p).toNat 128 with hc|hc
    ·rw[dec_lt hc]
     have ih1:=ih (p+1) f (by omega) (by omega)
     rw[if_neg (fun h=>by omega)]at ih1
     simp only[ih1]
     have e1:(bif decide ((97:Int)≤((Z.bat s p).toNat:Int))then decide (((Z.bat s p).toNat:Int)≤122)else false)=decide ((97:Int)≤((Z.bat s p).toNat:Int)∧((Z.bat s p).toNat:Int)≤122):=by by_cases h:(97:Int)≤((Z.bat s p).toNat:Int)<;>simp[h]
     have e2:(bif decide ((65:Int)≤((Z.bat s p).toNat:Int))then decide (((Z.bat s p).toNat:Int)≤90)else false)=decide ((65:Int)≤((Z.bat s p).toNat:Int)∧((Z.bat s p).toNat:Int)≤90):=by by_cases h:(65:Int)≤((Z.bat s p).toNat:Int)<;>simp[h]
     rw[e1,e2]
     by_cases hL:letter (Z.bat s p)=true
     ·have hL':=hL
      simp only[letter,decide_eq_true_eq]at hL'
      have e3:(if p=0∧0<s.size then letter (Z.bat s 0)else true)=true:=by split;rename_i h;rw[←h.1];exact hL;rfl
      rw[e3]
      simp only[wordy,List.all_cons,hL,Bool.true_or,Bool.true_and]
      by_cases h1:(97:Int)≤((Z.bat s p).toNat:Int)∧((Z.bat s p).toNat:Int)≤122
      ·simp[h1]
      ·have h2:=hL'.resolve_left h1
       simp[h1,h2]
     ·have hL':=hL
      simp only[letter,decide_eq_true_eq,not_or]at hL'
      rw[Bool.not_eq_true]at hL
      simp only[hL'.1,hL'.2,decide_false,Bool.false_eq_true,if_false,Bool.not_false,if_true]
      simp only[wordy,List.all_cons,hL,Bool.false_or]
      by_cases h0:p=0
      ·subst h0;simp[hp2,hL]
      ·have h0': ¬(p:Int)=0:=by omega
       simp only[h0,h0',decide_false,cond_false,false_and,if_false,Bool.true_and]
       by_cases hd:digit (Z.bat s p)=true
       ·have hd':=hd
        simp only[digit,decide_eq_true_eq]at hd'
        have a1: ¬((Z.bat s p).toNat:Int)<48:=by omega
        have a2: ¬(57:Int)<((Z.bat s p).toNat:Int):=by omega
        simp[a1,a2,hd]
       ·have hd':=hd
        simp only[digit,decide_eq_true_eq]at hd'
        rw[Bool.not_eq_true]at hd
        by_cases a1:((Z.bat s p).toNat:Int)<48
        ·simp[a1,hd]
        ·have a2:(57:Int)<((Z.bat s p).toNat:Int):=by omega
         simp[a1,a2,hd]
    ·have hd:=dec_ge hc
     have hL:letter (Z.bat s p)=false:=by unfold letter;rw[decide_eq_false_iff_not];omega
     have hD:digit (Z.bat s p)=false:=by unfold digit;rw[decide_eq_false_iff_not];omega
     have b1: ¬((Utf8.decode s p).1:Int)≤122:=by omega
     have b2: ¬((Utf8.decode s p).1:Int)≤90:=by omega
     have b3:(57:Int)<((Utf8.decode s p).1:Int):=by omega
     have b4: ¬((Utf8.decode s p).1:Int)<48:=by omega
     simp[b1,b2,b3,b4,wordy,hL,hD]
   ·rw[F.graph_named_l1,if_neg hp2,drop_end hp2,if_neg (by omega)]
    by_cases h1:s=ByteArray.mk #[]<;>simp[h1,wordy]
 unfold F.graph_named
 rw[loop s.size 0 A.FU (by omega) (by have:=FU_big;omega)]
 unfold named
 by_cases h1:s=ByteArray.mk #[]
 ·simp[h1]
 ·have h0:=size_pos h1
  simp only[h0,and_self,if_true,List.drop_zero,ne_eq,h1,not_false_eq_true,decide_true,Bool.true_and]
  congr 1
  cases letter (Z.bat s 0)<;>cases wordy s.data.toList<;>simp
end Go.Proofs.YtpdhaldfdeamdaaDoor
end
section
set_option maxRecDepth 20000
set_option linter.unusedVariables false
set_option linter.unusedSimpArgs false
namespace Go.Proofs.YtpdhaldfdeamdaaDoor
open Go.RowKit Go.Graph
theorem tail_eq (c:UInt8):F.R05_tail c=some (tail5 c):=by
 unfold F.R05_tail tail5
 by_cases h1:(128:Int)≤(c.toNat:Int)<;>by_cases h2:(c.toNat:Int)≤191<;>simp[h1,h2]
theorem ixk (s:ByteArray)(p k:Nat):A.ix s.data.toList ((p:Int)+(k:Int))=if p+k<s.size then some (Z.bat s (p+k))else none:=by
 have e:(p:Int)+(k:Int)=((p+k:Nat):Int):=by omega
 rw[e]
 by_cases h:p+k<s.size
 ·rw[if_pos h];exact ixb h
 ·rw[if_neg h,A.ix_nat];exact List.getElem?_eq_none (by rw[size_list];omega)
def wid (s:ByteArray)(p:Nat):Nat:=if Utf8.decode s p=(65533,1)then 0 else(Utf8.decode s p).2
theorem wid_le {s:ByteArray}{p:Nat}(h:p<s.size):p+wid s p≤s.size:=by
 unfold wid
 split
 ·omega
 ·rw[dec_at]
  unfold Lib.decodeN
  repeat' split
  all_goals simp only[]
  all_goals omega
def widN (n a b c d:Nat):Nat:=
 if a<128 then 1
 else if(194≤a∧a≤223)∧2≤n∧(128≤b∧b≤191)then 2
 else if(224≤a∧a≤239)∧3≤n∧(128≤b∧b≤191)∧(128≤c∧c≤191)∧¬(a=224∧b<160)∧¬(a=237∧159<b)then 3
 else if(240≤a∧a≤244)∧4≤n∧(128≤b∧b≤191)∧(128≤c∧c≤191)∧(128≤d∧d≤191)∧¬(a=240∧b<144)∧¬(a=244∧143<b)then 4
 else 0
theorem pq (c:Prop)[Decidable c](x w:Nat)(hw:w≠1):(if(if c then(x,w)else(65533,1))=(65533,1)then 0 else(if c then(x,w)else(65533,1)).2)=if c then w else 0:=by
 by_cases h:c<;>simp[h,hw]
theorem widN_eq (n a b c d:Nat)(ha:a<256)(hb:b<256)(hc:c<256)(hd:d<256):(if Lib.decodeN n a b c d=(65533,1)then 0 else(Lib.decodeN n a b c d).2)=widN n a b c d:=by
 unfold Lib.decodeN widN
 by_cases h0:a<128
 ·simp only[h0,if_true,Prod.mk.injEq];rw[if_neg (by omega)]
 ·simp only[h0,if_false]
  by_cases h1:a / 32=6∧1<n∧b / 64=2
  ·simp only[if_pos h1]
   rw[pq _ _ _ (by decide)]
   repeat' split
   all_goals omega
  ·simp only[if_neg h1]
   by_cases h3:a / 16=14∧(1<n∧b / 64=2)∧2<n∧c / 64=2
   ·simp only[if_pos h3]
    rw[pq _ _ _ (by decide)]
    repeat' split
    all_goals omega
   ·simp only[if_neg h3]
    by_cases h5:a / 8=30∧(1<n∧b / 64=2)∧(2<n∧c / 64=2)∧3<n∧d / 64=2
    ·simp only[if_pos h5]
     rw[pq _ _ _ (by decide)]
     repeat' split
     all_goals omega
    ·simp only[if_neg h5,if_true]
     repeat' split
     all_goals omega
theorem wid_N (s:ByteArray)(p:Nat):wid s p=widN (s.size-p) (Z.bat s p).toNat (Z.bat s (p+1)).toNat (Z.bat s (p+2)).toNat (Z.bat s (p+3)).toNat:=by
 rw[←widN_eq _ _ _ _ _ (UInt8.toNat_lt _) (UInt8.toNat_lt _) (UInt8.toNat_lt _) (UInt8.toNat_lt _),←dec_at];rfl
theorem cnd {α:Type}{p:Prop}[Decidable p](x y:α):(bif decide p then x else y)=if p then x else y:=by by_cases h:p<;>simp[h]
set_option maxHeartbeats 4000000 in
theorem width_eq (s:ByteArray)(p:Nat)(hp:p<s.size)(hs:s.size≤5000):F.R05_width s p=some (wid s p:Int):=by
 have i1:A.ix s.data.toList ((p:Int)+1)=if p+1<s.size then some (Z.bat s (p+1))else none:=ixk s p 1
 have i2:A.ix s.data.toList ((p:Int)+2)=if p+2<s.size then some (Z.bat s (p+2))else none:=ixk s p 2
 have i3:A.ix s.data.toList ((p:Int)+3)=if p+3<s.size then some (Z.bat s (p+3))else none:=ixk s p 3
 have r1:Z.R64 ((p:Int)+1):=⟨by omega,by omega⟩
 have r2:Z.R64 ((p:Int)+2):=⟨by omega,by omega⟩
 have r3:Z.R64 ((p:Int)+3):=⟨by omega,by omega⟩
 unfold F.R05_width
 rw[A.gd1 ⟨by omega,by omega⟩,ixb hp,Option.bind_some,A.gd1 r1,i1,wid_N]
 generalize Z.bat s p=c0 at*
 generalize Z.bat s (p+1)=c1 at*
 generalize Z.bat s (p+2)=c2 at*
 generalize Z.bat s (p+3)=c3 at*
 have t (c:UInt8):tail5 c=decide (128≤c.toNat∧c.toNat≤191):=by unfold tail5;congr 1;exact propext ⟨fun h=>by omega,fun h=>by omega⟩
 by_cases h1:(1:Int)<(s.size:Int)-(p:Int)
 ·rw[if_pos h1,if_pos (by omega),Option.bind_some]
  simp only[F.R05_width_j4,F.R05_width_j3,F.R05_width_j2,F.R05_width_j1,tail_eq,Option.bind_some,t,A.gd1 r2,A.gd1 r3,i2,i3]
  unfold widN
  generalize hn:s.size-p=n
  have e2:((2:Int)≤(s.size:Int)-(p:Int))=(2≤n):=propext ⟨fun h=>by omega,fun h=>by omega⟩
  have e3:((3:Int)≤(s.size:Int)-(p:Int))=(3≤n):=propext ⟨fun h=>by omega,fun h=>by omega⟩
  have e4:((4:Int)≤(s.size:Int)-(p:Int))=(4≤n):=propext ⟨fun h=>by omega,fun h=>by omega⟩
  have f2:(p+2<s.size)=(3≤n):=propext ⟨fun h=>by omega,fun h=>by omega⟩
  have f3:(p+3<s.size)=(4≤n):=propext ⟨fun h=>by omega,fun h=>by omega⟩
  have hn2:2≤n:=by omega
  simp only[e2,e3,e4,f2,f3,A.ba,decide_eq_true_eq,hn2,and_true,true_and]
  have q0:((c0.toNat:Int)<128)=(c0.toNat<128):=propext ⟨fun h=>by omega,fun h=>by omega⟩
  have q1:((194:Int)≤(c0.toNat:Int)∧(c0.toNat:Int)≤223)=(194≤c0.toNat∧c0.toNat≤223):=propext ⟨fun h=>by omega,fun h=>by omega⟩
  have q2:((224:Int)≤(c0.toNat:Int)∧(c0.toNat:Int)≤239)=(224≤c0.toNat∧c0.toNat≤239):=propext ⟨fun h=>by omega,fun h=>by omega⟩
  have q3:((240:Int)≤(c0.toNat:Int)∧(c0.toNat:Int)≤244)=(240≤c0.toNat∧c0.toNat≤244):=propext ⟨fun h=>by omega,fun h=>by omega⟩
  have q4:((c0.toNat:Int)=224∧(c1.toNat:Int)<160)=(c0.toNat=224∧c1.toNat<160):=propext ⟨fun h=>by omega,fun h=>by omega⟩
  have q5:((c0.toNat:Int)=237∧(159:Int)<(c1.toNat:Int))=(c0.toNat=237∧159<c1.toNat):=propext ⟨fun h=>by omega,fun h=>by omega⟩
  have q6:((c0.toNat:Int)=240∧(c1.toNat:Int)<144)=(c0.toNat=240∧c1.toNat<144):=propext ⟨fun h=>by omega,fun h=>by omega⟩
  have q7:((c0.toNat:Int)=244∧(143:Int)<(c1.toNat:Int))=(c0.toNat=244∧143<c1.toNat):=propext ⟨fun h=>by omega,fun h=>by omega⟩
  simp only[q0,q1,q2,q3,q4,q5,q6,q7]
  have x1:240≤c0.toNat∧c0.toNat≤244→¬(224≤c0.toNat∧c0.toNat≤239):=fun h h2=>by omega
  have x2:240≤c0.toNat∧c0.toNat≤244→¬(194≤c0.toNat∧c0.toNat≤223):=fun h h2=>by omega
  have x3:224≤c0.toNat∧c0.toNat≤239→¬(194≤c0.toNat∧c0.toNat≤223):=fun h h2=>by omega
  by_cases K0:c0.toNat<128
  ·simp[K0]
  by_cases m1:128≤c1.toNat∧c1.toNat≤191
  ·by_cases K1:194≤c0.toNat∧c0.toNat≤223
   ·simp only[if_neg K0,if_pos K1,if_pos m1,K1,m1,and_self,if_true];rfl
   ·by_cases K2:224≤c0.toNat∧c0.toNat≤239
    ·have K3: ¬(240≤c0.toNat∧c0.toNat≤244):=fun h=>x1 h K2
     by_cases k3:3≤n
     ·by_cases m2:128≤c2.toNat∧c2.toNat≤191
      ·by_cases y1:c0.toNat=224∧c1.toNat<160
       ·simp only[if_neg K0,if_neg K1,if_pos (And.intro K2 k3),if_pos m1,if_pos k3,Option.bind_some,if_pos m2,eq_true y1,if_true,false_and,K1,K3,eq_true y1,not_true_eq_false,and_false,if_false];rfl
       ·by_cases y2:c0.toNat=237∧159<c1.toNat
        ·simp only[if_neg K0,if_neg K1,if_pos (And.intro K2 k3),if_pos m1,if_pos k3,Option.bind_some,if_pos m2,if_neg y1,eq_true y2,if_true,false_and,K1,K3,eq_true y2,not_true_eq_false,and_false,if_false];rfl
        ·simp only[if_neg K0,if_neg K1,if_pos (And.intro K2 k3),if_pos m1,if_pos k3,Option.bind_some,if_pos m2,if_neg y1,if_neg y2,false_and,K1,K2,k3,m1,m2,y1,y2,not_false_eq_true,and_self,if_true,if_false];rfl
      ·simp only[if_neg K0,if_neg K1,if_pos (And.intro K2 k3),if_pos m1,if_pos k3,Option.bind_some,if_neg m2,if_neg K3,false_and,K1,K3,m2,and_false,if_false,Bool.false_eq_true];rfl
     ·simp only[if_neg K0,if_neg K1,k3,and_false,if_neg K3,false_and,K1,K3,if_false];rfl
    ·by_cases K3:240≤c0.toNat∧c0.toNat≤244
     ·by_cases k4:4≤n
      ·have k3:3≤n:=by omega
       by_cases m2:128≤c2.toNat∧c2.toNat≤191
       ·by_cases m3:128≤c3.toNat∧c3.toNat≤191
        ·by_cases y1:c0.toNat=240∧c1.toNat<144
         ·simp only[if_neg K0,if_neg K1,if_neg K2,K2,false_and,if_pos (And.intro K3 k4),if_pos m1,if_pos k3,if_pos k4,Option.bind_some,if_pos m2,if_pos m3,eq_true y1,if_true,K1,eq_true y1,not_true_eq_false,and_false,if_false];rfl
         ·by_cases y2:c0.toNat=244∧143<c1.toNat
          ·simp only[if_neg K0,if_neg K1,if_neg K2,K2,false_and,if_pos (And.intro K3 k4),if_pos m1,if_pos k3,if_pos k4,Option.bind_some,if_pos m2,if_pos m3,if_neg y1,eq_true y2,if_true,K1,eq_true y2,not_true_eq_false,and_false,if_false];rfl
          ·simp only[if_neg K0,if_neg K1,if_neg K2,K2,false_and,if_pos (And.intro K3 k4),if_pos m1,if_pos k3,if_pos k4,Option.bind_some,if_pos m2,if_pos m3,if_neg y1,if_neg y2,K1,K3,k4,m1,m2,m3,y1,y2,not_false_eq_true,and_self,if_true,if_false];rfl
        ·simp only[if_neg K0,if_neg K1,if_neg K2,K2,false_and,if_pos (And.intro K3 k4),if_pos m1,if_pos k3,if_pos k4,Option.bind_some,if_pos m2,if_neg m3,K1,m3,and_false,if_false,Bool.false_eq_true];rfl
       ·simp only[if_neg K0,if_neg K1,if_neg K2,K2,false_and,if_pos (And.intro K3 k4),if_pos m1,if_pos k3,Option.bind_some,if_neg m2,K1,m2,and_false,if_false,Bool.false_eq_true];rfl
      ·simp only[if_neg K0,if_neg K1,if_neg K2,K2,false_and,k4,and_false,K1,if_false];rfl
     ·simp only[if_neg K0,if_neg K1,if_neg K2,if_neg K3,K1,K2,K3,false_and,if_false];rfl
  ·simp[K0,m1]
 ·rw[if_neg h1]
  simp only[F.R05_width_j4,F.R05_width_j3,F.R05_width_j2,F.R05_width_j1,A.ba,decide_eq_true_eq]
  unfold widN
  have w0:(c0.toNat:Int)<128↔c0.toNat<128:=⟨fun h=>by omega,fun h=>by omega⟩
  by_cases h2:c0.toNat<128
  ·rw[if_pos (w0.2 h2),if_pos h2];rfl
  ·have a1: ¬((194≤c0.toNat∧c0.toNat≤223)∧2≤s.size-p∧128≤c1.toNat∧c1.toNat≤191):=fun h=>by omega
   have a2: ¬((224≤c0.toNat∧c0.toNat≤239)∧3≤s.size-p∧(128≤c1.toNat∧c1.toNat≤191)∧(128≤c2.toNat∧c2.toNat≤191)∧¬(c0.toNat=224∧c1.toNat<160)∧¬(c0.toNat=237∧159<c1.toNat)):=fun h=>by omega
   have a3: ¬((240≤c0.toNat∧c0.toNat≤244)∧4≤s.size-p∧(128≤c1.toNat∧c1.toNat≤191)∧(128≤c2.toNat∧c2.toNat≤191)∧(128≤c3.toNat∧c3.toNat≤191)∧¬(c0.toNat=240∧c1.toNat<144)∧¬(c0.toNat=244∧143<c1.toNat)):=fun h=>by omega
   rw[if_neg (fun h=>h2 (w0.1 h)),if_neg h2,if_neg a1,if_neg a2,if_neg a3]
   simp only[Bool.false_eq_true,if_false]
   rw[if_neg (fun h=>by omega),if_neg (fun h=>by omega),if_neg (fun h=>by omega)];rfl
def vld (s:ByteArray):Nat→Nat→Bool
 |0,_=>true
 |n+1,p=>if p<s.size then(if wid s p=0 then false else vld s n (p+wid s p))else true
def cnt (s:ByteArray):Nat→Nat→Nat
 |0,_=>0
 |n+1,p=>if p<s.size then 1+cnt s n (p+(Utf8.decode s p).2)else 0
theorem wid_4 (s:ByteArray)(p:Nat):wid s p≤4:=by
 rw[wid_N];unfold widN;repeat' split
 all_goals omega
theorem wid_dec {s:ByteArray}{p:Nat}(h:wid s p≠0):(Utf8.decode s p).2=wid s p:=by
 unfold wid at h ⊢;split at h
 ·exact absurd rfl h
 ·rename_i h2;rw[if_neg h2]
theorem Valid_eq (s:ByteArray)(hs:s.size≤5000):F.R05_Valid s=some (vld s s.size 0):=by
 have loop: ∀(n p f:Nat),s.size-p≤n→n<f→p≤5010→F.R05_Valid_l1 s f (p:Int)=some (vld s n p):=by
  intro n
  induction n with
  |zero=>
   intro p f hp hf _
   obtain⟨f,rfl⟩: ∃f',f=f'+1:=⟨f-1,by omega⟩
   rw[F.R05_Valid_l1,if_neg (by omega)];rfl
  |succ n ih=>
   intro p f hp hf hp5
   obtain⟨f,rfl⟩: ∃f',f=f'+1:=⟨f-1,by omega⟩
   rw[F.R05_Valid_l1,vld]
   by_cases h:p<s.size
   ·rw[if_pos (by omega),if_pos h,width_eq s p h hs,Option.bind_some]
    have:=wid_le h
    by_cases hw:wid s p=0
    ·rw[if_pos (by omega),if_pos hw]
    ·rw[if_neg (by omega),if_neg hw,A.gd1 ⟨by omega,by omega⟩]
     have e:(p:Int)+(wid s p:Int)=((p+wid s p:Nat):Int):=by omega
     rw[e];exact ih _ f (by omega) (by omega) (by omega)
   ·rw[if_neg (by omega),if_neg h]
 exact loop s.size 0 A.FU (by omega) (by have:=FU_big;omega) (by omega)
theorem validD_eq (s:ByteArray):Lib.validD s.data.toList=vld s s.size 0:=by
 have loop: ∀(n p:Nat),Lib.validGoD n (s.data.toList.drop p)=vld s n p:=by
  intro n
  induction n with
  |zero=>intro p;rfl
  |succ n ih=>
   intro p
   rw[Lib.validGoD,vld]
   by_cases h:p<s.size
   ·have hne:s.data.toList.drop p≠[]:=by rw[drop_bat h];simp
    rw[if_neg hne,if_pos h,Lib.decodeL_drop,List.drop_drop]
    by_cases hw:Utf8.decode s p=(65533,1)
    ·rw[if_pos (by rw[hw];exact⟨rfl,rfl⟩),if_pos (by unfold wid;rw[if_pos hw])]
    ·have e:wid s p=(Utf8.decode s p).2:=by unfold wid;rw[if_neg hw]
     rw[if_neg (fun h2=>hw (Prod.ext h2.1 h2.2)),if_neg (by rw[e];have:=width_pos s p;omega),ih,e]
   ·rw[if_pos (drop_end h),if_neg h]
 have:=loop s.size 0
 rw[List.drop_zero]at this
 exact this
theorem Runes_eq (s:ByteArray)(hs:s.size≤5000)(hv:vld s s.size 0=true): ∃l,F.R05_Runes s=some l∧l.length=cnt s s.size 0:=by
 have loop: ∀(n p f:Nat) (xs:List (Int×Int)),s.size-p≤n→n<f→xs.length≤p→p≤5010→vld s n p=true→∃l,F.R05_Runes_l2 s f xs (p:Int)=some l∧l.length=xs.length+cnt s n p:=by
  intro n
  induction n with
  |zero=>
   intro p f xs hp hf _ _ _
   obtain⟨f,rfl⟩: ∃f',f=f'+1:=⟨f-1,by omega⟩
   rw[F.R05_Runes_l2,if_neg (by omega)];exact⟨_,rfl,rfl⟩
  |succ n ih=>
   intro p f xs hp hf hxs hp5 hv
   obtain⟨f,rfl⟩: ∃f',f=f'+1:=⟨f-1,by omega⟩
   rw[F.R05_Runes_l2]
   rw[vld]at hv
   rw[cnt]
   by_cases h:p<s.size
   ·rw[if_pos h]at hv
    have hl:=wid_le h
    have h4:=wid_4 s p
    by_cases hw:wid s p=0
    ·rw[if_pos hw]at hv;cases hv
    rw[if_neg hw]at hv
    have hj: ∀(w c:Int),w=(wid s p:Int)→∃l,F.R05_Runes_j1 (F.R05_Runes_l2 s f) xs (p:Int) w c=some l∧l.length=xs.length+(1+cnt s n (p+(Utf8.decode s p).2)):=fun w c hwc=>by
     subst hwc
     rw[F.R05_Runes_j1,A.gd1 (by simp only[List.length_cons,List.length_nil];omega),A.gd1 ⟨by omega,by omega⟩,wid_dec hw]
     have e:(p:Int)+(wid s p:Int)=((p+wid s p:Nat):Int):=by omega
     rw[e]
     obtain⟨l,h1,h2⟩:=ih (p+wid s p) f (xs++[((p:Int),c)]) (by omega) (by omega) (by simp only[List.length_append,List.length_cons,List.length_nil];omega) (by omega) hv
     exact⟨l,h1,by rw[h2,List.length_append];simp only[List.length_cons,List.length_nil];omega⟩
    have i0:=ixb (s:=s) h
    have i1:A.ix s.data.toList ((p:Int)+1)=if p+1<s.size then some (Z.bat s (p+1))else none:=ixk s p 1
    have i2:A.ix s.data.toList ((p:Int)+2)=if p+2<s.size then some (Z.bat s (p+2))else none:=ixk s p 2
    have i3:A.ix s.data.toList ((p:Int)+3)=if p+3<s.size then some (Z.bat s (p+3))else none:=ixk s p 3
    have r1:Z.R64 ((p:Int)+1):=⟨by omega,by omega⟩
    have r2:Z.R64 ((p:Int)+2):=⟨by omega,by omega⟩
    have r3:Z.R64 ((p:Int)+3):=⟨by omega,by omega⟩
    rw[if_pos (by omega),if_pos h,width_eq s p h hs,Option.bind_some]
    by_cases w1:wid s p=1
    ·rw[if_pos (by omega),i0,Option.bind_some];exact hj _ _ rfl
    rw[if_neg (by omega)]
    by_cases w2:wid s p=2
    ·rw[if_pos (by omega),A.gd1 r1,i0,Option.bind_some,A.gd1 (by decide),i1,if_pos (by omega),Option.bind_some,A.gd1 (by decide)];exact hj _ _ rfl
    rw[if_neg (by omega)]
    by_cases w3:wid s p=3
    ·rw[if_pos (by omega),A.gd1 ⟨r1,r2⟩,i0,Option.bind_some,A.gd1 (by decide),i1,if_pos (by omega),Option.bind_some,A.gd1 (by decide),i2,if_pos (by omega),Option.bind_some,A.gd1 (by decide)];exact hj _ _ rfl
    rw[if_neg (by omega),if_pos (by omega),A.gd1 ⟨r1,r2,r3⟩,i0,Option.bind_some,A.gd1 (by decide),i1,if_pos (by omega),Option.bind_some,A.gd1 (by decide),i2,if_pos (by omega),Option.bind_some,A.gd1 (by decide),i3,if_pos (by omega),Option.bind_some,A.gd1 (by decide)];exact hj _ _ rfl
   ·rw[if_neg (by omega),if_neg h];exact⟨_,rfl,rfl⟩
 obtain⟨l,h1,h2⟩:=loop s.size 0 A.FU [] (by omega) (by have:=FU_big;omega) (by simp) (by omega) hv
 exact⟨l,h1,by simpa using h2⟩
theorem single_eq (s:ByteArray)(hs:s.size≤9223372036854775807):F.fn_single s=some (if cnt s s.size 0=1 then vld s s.size 0 else false):=by
 have loop: ∀(n p f:Nat) (y:Int),s.size-p≤n→n<f→0≤y→y+n≤9223372036854775807→F.fn_single_l2 s f p y=some (if y+(cnt s n p:Int)=1 then vld s s.size 0 else false):=by
  intro n
  induction n with
  |zero=>
   intro p f y hp hf _ _
   obtain⟨f,rfl⟩: ∃f',f=f'+1:=⟨f-1,by omega⟩
   rw[F.fn_single_l2,if_neg (by omega),F.utf8_ValidString,validD_eq,Option.bind_some]
   simp only[F.fn_single_j1]
   have e:y+(cnt s 0 p:Int)=y:=by rw[cnt];omega
   by_cases h:y=1
   ·rw[if_pos h,if_pos (by omega)]
   ·rw[if_neg h,if_neg (by omega)]
  |succ n ih=>
   intro p f y hp hf h0 h2
   obtain⟨f,rfl⟩: ∃f',f=f'+1:=⟨f-1,by omega⟩
   rw[F.fn_single_l2,cnt]
   by_cases h:p<s.size
   ·rw[if_pos h,if_pos h,A.gd1 ⟨by omega,by omega⟩]
    have hw:=width_pos s p
    rw[ih _ f (y+1) (by omega) (by omega) (by omega) (by omega)]
    congr 2
    exact propext ⟨fun h=>by omega,fun h=>by omega⟩
   ·rw[if_neg h,if_neg h,F.utf8_ValidString,validD_eq,Option.bind_some]
    simp only[F.fn_single_j1]
    by_cases h:y=1
    ·rw[if_pos h,if_pos (by omega)]
    ·rw[if_neg h,if_neg (by omega)]
 unfold F.fn_single
 rw[loop s.size 0 A.FU 0 (by omega) (by have:=FU_big;omega) (by omega) (by omega)]
 congr 2
 exact propext ⟨fun h=>by omega,fun h=>by omega⟩
theorem one_small {s:ByteArray}(h1:cnt s s.size 0=1)(h2:vld s s.size 0=true):s.size≤4:=by
 generalize hn:s.size=n at h1 h2
 cases n with
 |zero=>omega
 |succ n=>
  rw[cnt,if_pos (by omega)]at h1
  rw[vld,if_pos (by omega)]at h2
  by_cases hw:wid s 0=0
  ·rw[if_pos hw]at h2;cases h2
  rw[wid_dec hw]at h1
  have:=wid_4 s 0
  cases n with
  |zero=>omega
  |succ n=>
   rw[cnt]at h1
   by_cases h3:0+wid s 0<s.size
   ·rw[if_pos h3]at h1;omega
   ·omega
end Go.Proofs.YtpdhaldfdeamdaaDoor
end
section
end
section
set_option linter.unusedVariables false
set_option linter.unusedSimpArgs false
namespace Go.Proofs.YtpdhaldfdeamdaaDoor
open Go.RowKit Go.Graph
def textP (f:Fun):Bool:=if f.1=5 then decide (f.2.2≠ByteArray.mk #[])&&decide ((f.2.2.size:Int)≤16)&&vld f.2.2 f.2.2.size 0 else if f.1=12∨f.1=22 then decide (cnt f.2.2 f.2.2.size 0=1)&&vld f.2.2 f.2.2.size 0 else decide (f.2.2=ByteArray.mk #[])
theorem number_eq (f:Fun):F.fn_number f=some (numberF f):=by
 unfold F.fn_number F.fn_number_j2 F.fn_number_j1 numberF
 simp only[A.ba,decide_eq_true_eq]
 by_cases h3:f.1=3
 ·simp[h3]
 ·by_cases h13:f.1=13
  ·simp[h13]
  ·by_cases h6:f.1=6
   ·simp[h6]
   ·by_cases h11:f.1=11<;>simp[h3,h13,h6,h11]
theorem R06_number_eq (f:Fun):F.R06_number f=some (numberF f):=number_eq f
theorem text_eq (f:Fun)(hs:f.2.2.size≤9223372036854775807):F.fn_text f=some (textP f):=by
 unfold F.fn_text textP
 simp only[F.fn_text_j1,F.fn_text_j2,A.ba,single_eq _ hs,F.utf8_ValidString,validD_eq,Option.bind_some,decide_eq_true_eq]
 by_cases h5:f.1=5
 ·simp only[h5,if_true]
  by_cases h1:f.2.2=ByteArray.mk #[]<;>by_cases h2:(f.2.2.size:Int)≤16<;>simp[h1,h2]
 ·by_cases h12:f.1=12
  ·simp[h12]
  ·by_cases h22:f.1=22<;>simp[h5,h12,h22]
theorem one_le {s:ByteArray}:(1:Int)≤(s.size:Int)↔s≠ByteArray.mk #[]:=by
 constructor
 ·intro h e;subst e;exact absurd h (by decide)
 ·intro h;have:=size_pos h;omega
theorem R06_text_eq (f:Fun)(hs:f.2.2.size≤5000):F.R06_text f=some (textP f):=by
 have hj: ∀y,F.R06_text_j3 f y=some (if y=true then decide (cnt f.2.2 f.2.2.size 0=1)&&vld f.2.2 f.2.2.size 0 else decide (f.2.2=ByteArray.mk #[])):=by
  intro y
  unfold F.R06_text_j3
  simp only[F.R06_text_j2,Valid_eq _ hs,Option.bind_some]
  cases y with
  |false=>simp
  |true=>
   simp only[if_true]
   by_cases h4:(f.2.2.size:Int)≤4
   ·rw[if_pos h4]
    cases hv:vld f.2.2 f.2.2.size 0 with
    |true=>
     obtain⟨l,h1,h2⟩:=Runes_eq f.2.2 hs hv
     rw[if_pos rfl,h1,Option.bind_some,Bool.and_true]
     congr 2
     rw[h2];exact propext ⟨fun h=>by omega,fun h=>by omega⟩
    |false=>simp
   ·rw[if_neg h4]
    congr 1
    cases hv:vld f.2.2 f.2.2.size 0 with
    |false=>simp
    |true=>
     by_cases h1:cnt f.2.2 f.2.2.size 0=1
     ·have:=one_small h1 hv;omega
     ·simp[h1]
 unfold F.R06_text textP
 simp only[F.R06_text_j1,hj,A.ba,Valid_eq _ hs,Option.bind_some,decide_eq_true_eq,one_le]
 by_cases h5:f.1=5
 ·simp only[h5,if_true]
  by_cases h1:f.2.2=ByteArray.mk #[]<;>by_cases h2:(f.2.2.size:Int)≤16<;>simp[h1,h2]
 ·by_cases h12:f.1=12
  ·simp[h12]
  ·by_cases h22:f.1=22<;>simp[h5,h12,h22]
def anyF (f:Fun)(l:List Int):Int:=if l.any (fun y=>decide (y=f.1)&&(numberF f&&textP f))=true then 0 else 60
def kinds (k:Int):List Int:=if k=2 then [1,2,3,4,5,6,7,8]else if k=3 then [11,12,13]else if k=4 then [21,22]else if k=8 then [31,32,33,34]else if k=11 then [41,42]else []
def chk (k:Int)(f:Fun):Int:=if kinds k=[]then(if f=(0,0,ByteArray.mk #[])then 0 else 60)else anyF f (kinds k)
theorem chk_l (f:Fun)(hs:f.2.2.size≤9223372036854775807): ∀l,F.fn_Check_l2 f l=some (anyF f l)
 | []=>rfl
 |y::l=>by
  have ih:=chk_l f hs l
  unfold F.fn_Check_l2
  simp only[F.fn_Check_j1,number_eq,text_eq _ hs,Option.bind_some,ih,anyF,List.any_cons]
  by_cases h:y=f.1
  ·subst h
   cases hn:numberF f<;>cases ht:textP f<;>simp
  ·simp[h]
theorem fn_Check_eq (k:Int)(f:Fun)(hs:f.2.2.size≤9223372036854775807):F.fn_Check k f=some (chk k f):=by
 have u2:F.fn_Uses_1_it 1 8=some [1,2,3,4,5,6,7,8]:=by kernel_rfl
 have u3:F.fn_Uses_1_it 11 13=some [11,12,13]:=by kernel_rfl
 have u4:F.fn_Uses_1_it 21 22=some [21,22]:=by kernel_rfl
 have u8:F.fn_Uses_1_it 31 34=some [31,32,33,34]:=by kernel_rfl
 have u11:F.fn_Uses_1_it 41 42=some [41,42]:=by kernel_rfl
 unfold F.fn_Check F.fn_Uses F.fn_uses chk kinds
 by_cases h2:k=2
 ·simp[h2,u2,chk_l f hs]
 ·by_cases h3:k=3
  ·simp[h3,u3,chk_l f hs]
  ·by_cases h4:k=4
   ·simp[h4,u4,chk_l f hs]
   ·by_cases h8:k=8
    ·simp[h8,u8,chk_l f hs]
    ·by_cases h11:k=11
     ·simp[h11,u11,chk_l f hs]
     ·simp only[h2,h3,h4,h8,h11,if_false,Option.bind_some]
      rw[if_pos (by decide),if_pos trivial]
      by_cases hz:f=(0,0,ByteArray.mk #[])
      ·rw[if_neg (fun h=>h hz),if_pos hz]
      ·rw[if_pos hz,if_neg hz]
theorem R06_l (f:Fun)(hs:f.2.2.size≤5000)(l:List Int)(hl:l.length≤100):F.R06_Check_l2 f l A.FU 0=some (anyF f l):=
 A.lp0 l (fun n y=>F.R06_Check_l2 f l n y) (fun _ t=>some (anyF f t))
  (fun n=>by rw[F.R06_Check_l2,if_neg (by omega)];rfl)
  (fun n k x hx hk ih=>by
   rw[F.R06_Check_l2,if_pos (by omega),A.ixn hx,Option.bind_some]
   simp only[F.R06_Check_j1,R06_number_eq,R06_text_eq _ hs,Option.bind_some,ih,A.gd1 (A.r64n (n:=k) (by omega)),anyF,List.any_cons]
   by_cases h:x=f.1
   ·subst h
    cases hn:numberF f<;>cases ht:textP f<;>simp
   ·simp[h])
  (by have:=FU_big;omega)
theorem R06_Check_eq (k:Int)(f:Fun)(hs:f.2.2.size≤5000):F.R06_Check k f=some (chk k f):=by
 have u2:F.R06_Uses 2=some [1,2,3,4,5,6,7,8]:=by kernel_rfl
 have u3:F.R06_Uses 3=some [11,12,13]:=by kernel_rfl
 have u4:F.R06_Uses 4=some [21,22]:=by kernel_rfl
 have u8:F.R06_Uses 8=some [31,32,33,34]:=by kernel_rfl
 have u11:F.R06_Uses 11=some [41,42]:=by kernel_rfl
 have u0:F.R06_Uses_j2 1 0=some []:=by kernel_rfl
 unfold F.R06_Check chk kinds
 by_cases h2:k=2
 ·subst h2;rw[u2,Option.bind_some,if_neg (by simp),F.R06_Check_j3,if_neg (by simp),R06_l f hs _ (by simp)];simp
 ·by_cases h3:k=3
  ·subst h3;rw[u3,Option.bind_some,if_neg (by simp),F.R06_Check_j3,if_neg (by simp),R06_l f hs _ (by simp)];simp
  ·by_cases h4:k=4
   ·subst h4;rw[u4,Option.bind_some,if_neg (by simp),F.R06_Check_j3,if_neg (by simp),R06_l f hs _ (by simp)];simp
   ·by_cases h8:k=8
    ·subst h8;rw[u8,Option.bind_some,if_neg (by simp),F.R06_Check_j3,if_neg (by simp),R06_l f hs _ (by simp)];simp
    ·by_cases h11:k=11
     ·subst h11;rw[u11,Option.bind_some,if_neg (by simp),F.R06_Check_j3,if_neg (by simp),R06_l f hs _ (by simp)];simp
     ·have u:F.R06_Uses k=some []:=by unfold F.R06_Uses;simp only[h2,h3,h4,h8,h11,if_false,u0]
      rw[u,Option.bind_some,if_pos (by simp),F.R06_Check_j3,R06_l f hs _ (by simp)]
      simp only[h2,h3,h4,h8,h11,if_false,if_true,decide_eq_true_eq,anyF,List.any_nil,Bool.false_eq_true]
      by_cases hz:f=(0,0,ByteArray.mk #[])
      ·rw[if_pos hz,if_pos hz]
      ·rw[if_neg hz,if_neg hz]
end Go.Proofs.YtpdhaldfdeamdaaDoor
end
section
end
section
set_option linter.unusedVariables false
set_option linter.unusedSimpArgs false
namespace Go.Proofs.YtpdhaldfdeamdaaDoor
open Go.RowKit Go.Graph
def mapOf (g:List Nd):List (Int×Nd):=g.map fun n=>(n.1,n)
def Inc (g:List Nd):Prop:=g.Pairwise fun a b=>a.1<b.1
theorem idxF_cases (z:Nd)(id:Int): ∀(k:Nat) (l:List Nd),(idxF id k l= -1∧(∀n∈l,n.1≠id)∧Z.mget z (mapOf l) id=z∧Z.mhas (mapOf l) id=false)∨(∃j n,idxF id k l=((k+j:Nat):Int)∧l[j]?=some n∧n.1=id∧Z.mget z (mapOf l) id=n∧Z.mhas (mapOf l) id=true)
 |k,[]=>.inl ⟨rfl,by simp,rfl,rfl⟩
 |k,x::r=>by
  unfold idxF mapOf
  simp only[List.map_cons,Z.mget,Z.mhas]
  by_cases h:x.1=id
  ·rw[if_pos h,if_pos h.symm,if_pos h.symm]
   exact .inr ⟨0,x,rfl,rfl,h,rfl,rfl⟩
  ·rw[if_neg h,if_neg (fun e=>h e.symm),if_neg (fun e=>h e.symm)]
   rcases idxF_cases z id (k+1) r with⟨h1,h2,h3,h4⟩|⟨j,n,h1,h2,h3,h4,h5⟩
   ·refine .inl ⟨h1,fun n hn=>?_,h3,h4⟩
    rcases List.mem_cons.1 hn with rfl|hn
    ·exact h
    ·exact h2 n hn
   ·exact .inr ⟨j+1,n,by rw[h1];congr 1;omega,h2,h3,h4,h5⟩
theorem idx_cases (z:Nd)(g:List Nd)(id:Int):(idx g id= -1∧(∀n∈g,n.1≠id)∧Z.mget z (mapOf g) id=z∧Z.mhas (mapOf g) id=false)∨(∃(j:Nat) (n:Nd),idx g id=(j:Int)∧g[j]?=some n∧n.1=id∧Z.mget z (mapOf g) id=n∧Z.mhas (mapOf g) id=true):=by
 have:=idxF_cases z id 0 g
 simp only[Nat.zero_add]at this
 exact this
theorem Inc.lt {g:List Nd}(h:Inc g){i j:Nat}{a b:Nd}(hi:g[i]?=some a)(hj:g[j]?=some b)(hij:i<j):a.1<b.1:=by
 obtain⟨h1,rfl⟩:=List.getElem?_eq_some_iff.1 hi
 obtain⟨h2,rfl⟩:=List.getElem?_eq_some_iff.1 hj
 exact List.pairwise_iff_getElem.1 h i j h1 h2 hij
theorem Inc.inj {g:List Nd}(h:Inc g){i j:Nat}{a b:Nd}(hi:g[i]?=some a)(hj:g[j]?=some b)(e:a.1=b.1):i=j:=by
 rcases Nat.lt_trichotomy i j with h1|h1|h1
 ·have:=h.lt hi hj h1;omega
 ·exact h1
 ·have:=h.lt hj hi h1;omega
theorem Inc.idx {g:List Nd}(h:Inc g){j:Nat}{n:Nd}(hj:g[j]?=some n):Graph.idx g n.1=(j:Int):=by
 rcases idx_cases z0 g n.1 with⟨_,h2,_⟩|⟨i,m,h1,h2,h3,_⟩
 ·exact absurd rfl (h2 n (List.mem_of_getElem? hj))
 ·rw[h1,h.inj h2 hj h3]
theorem Inc.mget {g:List Nd}(h:Inc g){j:Nat}{n z:Nd}(hj:g[j]?=some n):Z.mget z (mapOf g) n.1=n:=by
 rcases idx_cases z g n.1 with⟨_,h2,_⟩|⟨i,m,h1,h2,h3,h4,_⟩
 ·exact absurd rfl (h2 n (List.mem_of_getElem? hj))
 ·have:=h.inj h2 hj h3
  subst this
  rw[h2]at hj;injection hj with hj;rw[h4,hj]
theorem index_eq (g:List Nd)(id:Int)(hg:g.length≤100):F.R08_index g id=some (idx g id):=
 A.lp0 g (fun f y=>F.R08_index_l1 g id f y) (fun k l=>some (idxF id k l))
  (fun f=>by rw[F.R08_index_l1,if_neg (by omega)];rfl)
  (fun f k x hx hk ih=>by
   rw[F.R08_index_l1,if_pos (by omega),A.ixn hx,Option.bind_some,idxF]
   by_cases h:x.1=id
   ·rw[if_pos h,if_pos h]
   ·rw[if_neg h,if_neg h,A.gd1 (A.r64n (by omega)),ih])
  (by have:=FU_big;omega)
def ownQ (n:Nd):Bool:=if n.1<1∨255<n.1∨insK n.2.1<0∨(n.2.2.1.length:Int)≠insK n.2.1 then false else if ownC n then false else if n.2.1=1∨n.2.1=15 then named n.2.2.2.2.1 else decide (n.2.2.2.2.1=ByteArray.mk #[])
theorem outside_eq (k:Int):F.graph_outside k=some (decide (k=1∨k=15)):=by
 unfold F.graph_outside;rw[A.bo]
theorem gIns_eq (k:Int):F.graph_Ins k=some (insK k):=(Ins_eq k).trans (R08_Ins_eq k)
theorem own_eq (n:Nd)(hs:n.2.2.2.2.1.size≤9223372036854775807):F.graph_own n=some (ownQ n):=by
 have hj: ∀y,F.graph_own_j2 n y=some (if y=true then false else if ownC n then false else if n.2.1=1∨n.2.1=15 then named n.2.2.2.2.1 else decide (n.2.2.2.2.1=ByteArray.mk #[])):=by
  intro y
  unfold F.graph_own_j2 F.graph_own_j1 ownC
  cases y with
  |true=>simp
  |false=>
   simp only[Bool.false_eq_true,if_false,A.bo,decide_eq_true_eq,outside_eq,Option.bind_some,named_eq _ hs,A.bn]
   by_cases h14:n.2.1=14
   ·simp only[h14,if_true,true_and,not_true_eq_false,ne_eq,false_and,or_false,if_false]
    by_cases hc:n.2.2.2.2.2.1<1∨8<n.2.2.2.2.2.1∨n.2.2.2.2.2.2<1∨4<n.2.2.2.2.2.2
    ·have hc':((n.2.2.2.2.2.1<1∨8<n.2.2.2.2.2.1)∨n.2.2.2.2.2.2<1)∨4<n.2.2.2.2.2.2:=by omega
     rw[if_pos hc',if_pos hc]
    ·have hc': ¬(((n.2.2.2.2.2.1<1∨8<n.2.2.2.2.2.1)∨n.2.2.2.2.2.2<1)∨4<n.2.2.2.2.2.2):=by omega
     rw[if_neg hc',if_neg hc]
     simp
   ·simp only[h14,if_false,false_and,not_false_eq_true,ne_eq,true_and,false_or,if_true]
    by_cases hc: ¬n.2.2.2.2.2.1=0∨¬n.2.2.2.2.2.2=0
    ·rw[if_pos hc,if_pos hc]
    ·rw[if_neg hc,if_neg hc]
     by_cases ho:n.2.1=1∨n.2.1=15
     ·rw[if_pos ho,if_pos ho]
     ·rw[if_neg ho,if_neg ho]
 unfold F.graph_own ownQ
 simp only[gIns_eq,Option.bind_some,hj,A.bo,decide_eq_true_eq,F.graph_own_j1]
 by_cases h1:n.1<1∨255<n.1
 ·rw[if_pos h1,if_pos (by omega)]
 ·rw[if_neg h1]
  by_cases h2:insK n.2.1<0
  ·rw[if_pos h2,if_pos trivial,if_pos (by omega)]
  ·rw[if_neg h2]
   by_cases h3:(n.2.2.1.length:Int)≠insK n.2.1
   ·rw[if_pos h3,if_pos (by omega)]
   ·have hb: ¬(n.1<1∨255<n.1∨insK n.2.1<0∨(n.2.2.1.length:Int)≠insK n.2.1):=by omega
    rw[if_neg h3,if_neg hb]
def twiceF (l:List Nd)(n:Nd):Bool:=l.any fun x=>decide (x.2.1=n.2.1)&&decide (x.2.2.2.2.1=n.2.2.2.2.1)
theorem twice_eq (l:List Nd)(n:Nd)(hl:l.length≤100):F.slices_ContainsFunc_api_Node_api_Node_graph_whole_1 l n=some (twiceF l n):=by
 have loop:F.slices_IndexFunc_api_Node_api_Node_graph_whole_1_l1 l n A.FU 0=some (if twiceF l n=true then(0:Int)else-1)∨∃i:Nat,F.slices_IndexFunc_api_Node_api_Node_graph_whole_1_l1 l n A.FU 0=some (i:Int)∧twiceF l n=true:=by
  have key: ∀(m k f:Nat),k+m=l.length→m<f→(twiceF (l.drop k) n=true∧∃i:Nat,F.slices_IndexFunc_api_Node_api_Node_graph_whole_1_l1 l n f (k:Int)=some (i:Int))∨(twiceF (l.drop k) n=false∧F.slices_IndexFunc_api_Node_api_Node_graph_whole_1_l1 l n f (k:Int)=some (-1)):=by
   intro m
   induction m with
   |zero=>
    intro k f hk hf
    obtain⟨f,rfl⟩: ∃f',f=f'+1:=⟨f-1,by omega⟩
    rw[F.slices_IndexFunc_api_Node_api_Node_graph_whole_1_l1,if_neg (by omega),List.drop_eq_nil_of_le (by omega)]
    exact .inr ⟨rfl,rfl⟩
   |succ m ih=>
    intro k f hk hf
    obtain⟨f,rfl⟩: ∃f',f=f'+1:=⟨f-1,by omega⟩
    have hx:l[k]?=some l[k]:=List.getElem?_eq_getElem (by omega)
    generalize l[k]=x at hx
    rw[F.slices_IndexFunc_api_Node_api_Node_graph_whole_1_l1,if_pos (by omega),A.ixn hx,Option.bind_some,F.graph_whole_1,Option.bind_some,A.ba,A.dropx hx]
    by_cases h:x.2.1=n.2.1∧x.2.2.2.2.1=n.2.2.2.2.1
    ·left
     exact⟨by simp[twiceF,h.1,h.2],k,by rw[if_pos (by simpa using h)]⟩
    ·rw[if_neg (by simpa using h),A.gd1 (A.r64n (by omega))]
     have e:twiceF (x::l.drop (k+1)) n=twiceF (l.drop (k+1)) n:=by
      simp only[twiceF,List.any_cons]
      rw[←Bool.decide_and,decide_eq_false h,Bool.false_or]
     rw[e]
     exact ih (k+1) f (by omega) (by omega)
  rcases key l.length 0 A.FU (by omega) (by have:=FU_big;omega)with⟨h1,i,h2⟩|⟨h1,h2⟩
  ·rw[List.drop_zero]at h1;exact .inr ⟨i,h2,h1⟩
  ·rw[List.drop_zero]at h1;left;rw[h1];exact h2
 unfold F.slices_ContainsFunc_api_Node_api_Node_graph_whole_1 F.slices_IndexFunc_api_Node_api_Node_graph_whole_1
 rcases loop with h|⟨i,h,h2⟩
 ·rw[show F.slices_IndexFunc_api_Node_api_Node_graph_whole_1_l1 l (n.1,n.2.1,n.2.2.1,(n.2.2.2.1.1,n.2.2.2.1.2.1,n.2.2.2.1.2.2),n.2.2.2.2.1,n.2.2.2.2.2.1,n.2.2.2.2.2.2) A.FU 0=_ from h,Option.bind_some]
  cases twiceF l n<;>simp
 ·rw[show F.slices_IndexFunc_api_Node_api_Node_graph_whole_1_l1 l (n.1,n.2.1,n.2.2.1,(n.2.2.2.1.1,n.2.2.2.1.2.1,n.2.2.2.1.2.2),n.2.2.2.2.1,n.2.2.2.2.2.1,n.2.2.2.2.2.2) A.FU 0=_ from h,Option.bind_some,h2]
  simp
end Go.Proofs.YtpdhaldfdeamdaaDoor
end
section
set_option linter.unusedVariables false
set_option linter.unusedSimpArgs false
namespace Go.Proofs.YtpdhaldfdeamdaaDoor
open Go.RowKit Go.Graph
theorem mins_new {κ α:Type}[DecidableEq κ]: ∀{m:List (κ×α)} {k:κ} {x:α},Z.mhas m k=false→Z.mins m k x=m++[(k,x)]
 | [],_,_,_=>rfl
 |(a,y)::r,k,x,h=>by
  simp only[Z.mhas]at h
  by_cases hk:k=a
  ·rw[if_pos hk]at h;cases h
  ·rw[if_neg hk]at h
   unfold Z.mins
   rw[if_neg hk,mins_new h];rfl
theorem mhas_mapOf {l:List Nd}{k:Int}(h: ∀n∈l,n.1≠k):Z.mhas (mapOf l) k=false:=by
 rcases idx_cases z0 l k with⟨_,_,_,h2⟩|⟨j,n,_,h1,h2,_⟩
 ·exact h2
 ·exact absurd h2 (h n (List.mem_of_getElem? h1))
theorem take_s {α:Type}{l:List α}{k:Nat}{x:α}(h:l[k]?=some x):l.take (k+1)=l.take k++[x]:=by rw[List.take_add_one,h];rfl
def okL (g:List Nd):Nat→Int→List Nd→Bool
 |_,_,[]=>true
 |k,last,n::r=>if n.1≤last∨ownQ n=false∨((n.2.1=1∨n.2.1=15)∧twiceF (g.take k) n=true)then false else okL g (k+1) n.1 r
theorem whole_l6 (g:List Nd)(hg:g.length≤100)(hf: ∀x,x∈g→x.2.2.2.2.1.size≤9223372036854775807):F.graph_whole_l6 g A.FU [] 0 0=if okL g 0 0 g=true then F.graph_whole_l5 g (mapOf g) A.FU 0 else some (none,80):=
 A.lp g (fun f (s:List (Int×Nd)×Int) y=>F.graph_whole_l6 g f s.1 s.2 y) (fun k l s=>if okL g k s.2 l=true then F.graph_whole_l5 g (mapOf g) A.FU 0 else some (none,80)) (fun k s=>s.1=mapOf (g.take k)∧∀n∈g.take k,n.1≤s.2)
  (fun f s hp=>by
   rw[F.graph_whole_l6,if_neg (by omega),okL,if_pos rfl,hp.1,List.take_of_length_le (Nat.le_refl _)])
  (fun f s k x hx hk hp ih=>by
   obtain⟨hm,hle⟩:=hp
   have hown:=own_eq x (hf x (List.mem_of_getElem? hx))
   have hj: ∀y,F.graph_whole_j2 (F.graph_whole_l6 g f) s.1 s.2 (k:Int) x y=if x.1≤s.2∨ownQ x=false∨y=true then some (none,80)else F.graph_whole_l6 g f (Z.mins s.1 x.1 x) x.1 ((k:Int)+1):=by
    intro y
    rw[F.graph_whole_j2]
    simp only[F.graph_whole_j1,if_true]
    by_cases h1:x.1≤s.2
    ·rw[if_pos h1,if_pos (.inl h1)]
    ·rw[if_neg h1,show F.graph_own (x.1,x.2.1,x.2.2.1,(x.2.2.2.1.1,x.2.2.2.1.2.1,x.2.2.2.1.2.2),x.2.2.2.2.1,x.2.2.2.2.2.1,x.2.2.2.2.2.2)=_ from hown,Option.bind_some,A.gd1 (A.r64n (by omega))]
     cases ownQ x<;>cases y<;>simp[h1]
   have hnew: ¬x.1≤s.2→F.graph_whole_l6 g f (Z.mins s.1 x.1 x) x.1 ((k:Int)+1)=if okL g (k+1) x.1 (g.drop (k+1))=true then F.graph_whole_l5 g (mapOf g) A.FU 0 else some (none,80):=fun h1=>by
    rw[hm,mins_new (mhas_mapOf fun n hn e=>by have:=hle n hn;omega)]
    refine ih (mapOf (g.take k)++[(x.1,x)],x.1) ⟨?_,fun n hn=>?_⟩
    ·rw[take_s hx];simp[mapOf]
    ·rw[take_s hx]at hn
     rcases List.mem_append.1 hn with h2|h2
     ·have:=hle n h2;simp only[];omega
     ·rw[List.mem_singleton]at h2;subst h2;exact Int.le_refl _
   rw[F.graph_whole_l6,if_pos (by omega),A.ixn hx,Option.bind_some,outside_eq,Option.bind_some,okL]
   by_cases ho:x.2.1=1∨x.2.1=15
   ·rw[if_pos (by simpa using ho),A.gd1 ⟨by omega,by omega⟩,show((k:Int)).toNat=k from Int.toNat_natCast k,
     show F.slices_ContainsFunc_api_Node_api_Node_graph_whole_1 (List.take k g) (x.1,x.2.1,x.2.2.1,(x.2.2.2.1.1,x.2.2.2.1.2.1,x.2.2.2.1.2.2),x.2.2.2.2.1,x.2.2.2.2.2.1,x.2.2.2.2.2.2)=_ from twice_eq (g.take k) x (by rw[List.length_take];omega),Option.bind_some,hj]
    by_cases hb:x.1≤s.2∨ownQ x=false∨twiceF (g.take k) x=true
    ·have hc:x.1≤s.2∨ownQ x=false∨((x.2.1=1∨x.2.1=15)∧twiceF (g.take k) x=true):=by rcases hb with h|h|h;exact .inl h;exact .inr (.inl h);exact .inr (.inr ⟨ho,h⟩)
     rw[if_pos hb,if_pos hc,if_neg Bool.false_ne_true]
    ·have hc: ¬(x.1≤s.2∨ownQ x=false∨((x.2.1=1∨x.2.1=15)∧twiceF (g.take k) x=true)):=fun h=>hb (by rcases h with h|h|h;exact .inl h;exact .inr (.inl h);exact .inr (.inr h.2))
     rw[if_neg hb,if_neg hc]
     exact hnew fun h=>hb (.inl h)
   ·rw[if_neg (by simpa using ho),hj]
    by_cases hb:x.1≤s.2∨ownQ x=false
    ·have hc:x.1≤s.2∨ownQ x=false∨((x.2.1=1∨x.2.1=15)∧twiceF (g.take k) x=true):=by rcases hb with h|h;exact .inl h;exact .inr (.inl h)
     rw[if_pos (by rcases hb with h|h;exact .inl h;exact .inr (.inl h)),if_pos hc,if_neg Bool.false_ne_true]
    ·have hc: ¬(x.1≤s.2∨ownQ x=false∨((x.2.1=1∨x.2.1=15)∧twiceF (g.take k) x=true)):=fun h=>hb (by rcases h with h|h|h;exact .inl h;exact .inr h;exact absurd h.1 ho)
     rw[if_neg (fun h=>hb (by rcases h with h|h|h;exact .inl h;exact .inr h;cases h)),if_neg hc]
     exact hnew fun h=>hb (.inl h))
  (by have:=FU_big;omega) ([],0) ⟨rfl,by simp⟩
theorem whole_l5 (g:List Nd)(m:List (Int×Nd))(hg:g.length≤100)(hf: ∀x,x∈g→x.2.2.2.1.2.2.size≤9223372036854775807):F.graph_whole_l5 g m A.FU 0=if g.all (fun n=>decide (chk n.2.1 n.2.2.2.1=0))=true then F.graph_whole_l4 g m A.FU 0 else some (none,60):=
 A.lp0 g (fun f y=>F.graph_whole_l5 g m f y) (fun _ l=>if l.all (fun n=>decide (chk n.2.1 n.2.2.2.1=0))=true then F.graph_whole_l4 g m A.FU 0 else some (none,60))
  (fun f=>by rw[F.graph_whole_l5,if_neg (by omega)];rfl)
  (fun f k x hx hk ih=>by
   have h6:chk x.2.1 x.2.2.2.1≠0→chk x.2.1 x.2.2.2.1=60:=by
    intro h;unfold chk anyF at h ⊢;repeat' split
    all_goals first|rfl|(exfalso;simp_all;done)
   rw[F.graph_whole_l5,if_pos (by omega),A.ixn hx,Option.bind_some,show F.fn_Check x.2.1 (x.2.2.2.1.1,x.2.2.2.1.2.1,x.2.2.2.1.2.2)=_ from fn_Check_eq x.2.1 x.2.2.2.1 (hf x (List.mem_of_getElem? hx)),Option.bind_some,List.all_cons]
   by_cases h:chk x.2.1 x.2.2.2.1=0
   ·rw[if_neg (fun h2=>h2 h),A.gd1 (A.r64n (by omega)),ih,decide_eq_true h,Bool.true_and]
   ·rw[if_pos h,decide_eq_false h,Bool.false_and,if_neg (by simp),h6 h])
  (by have:=FU_big;omega)
def inOk (g:List Nd)(k:Int):Bool:=if idx g k<0 then false else decide ((at_ g (idx g k)).2.1≠15)
def sortP (g:List Nd)(m:List (Int×Nd)):Option ((Option ((List (Int×Nd))×(List Int)×(List (Int×Int))))×Int):=
 (F.graph_plan_sort (m,[],[]) g).bind fun r73=>(if(!r73.1)=true then(some (none,81))else((F.graph_plan_depths (r73.2.1,r73.2.2.1,r73.2.2.2)).bind fun r79=>(if(!r79.1)=true then(some (none,80))else((F.graph_plan_turns (r79.2.1,r79.2.2.1,r79.2.2.2) g).bind fun r85=>(if r85=true then(some (none,81))else(some (some (r79.2.1,r79.2.2.1,r79.2.2.2),0)))))))
theorem whole_l4 (g:List Nd)(hg:g.length≤100)(hf: ∀x,x∈g→x.2.2.1.length≤5000):F.graph_whole_l4 g (mapOf g) A.FU 0=if g.all (fun n=>n.2.2.1.all (inOk g))=true then sortP g (mapOf g)else some (none,80):=
 A.lp0 g (fun f y=>F.graph_whole_l4 g (mapOf g) f y) (fun _ l=>if l.all (fun n=>n.2.2.1.all (inOk g))=true then sortP g (mapOf g)else some (none,80))
  (fun f=>by rw[F.graph_whole_l4,if_neg (by omega)];rfl)
  (fun f k x hx hk ih=>by
   rw[F.graph_whole_l4,if_pos (by omega),A.ixn hx,Option.bind_some]
   have hlen:=hf x (List.mem_of_getElem? hx)
   have loop:=A.lp0 x.2.2.1 (fun f2 y=>F.graph_whole_l3 (F.graph_whole_l4 g (mapOf g) f) (mapOf g) (k:Int) x f2 y) (fun _ l=>if l.all (inOk g)=true then F.graph_whole_l4 g (mapOf g) f ((k:Int)+1)else some (none,80))
    (fun f2=>by rw[F.graph_whole_l3,if_neg (by omega),A.gd1 (A.r64n (by omega))];rfl)
    (fun f2 j y hy hj2 ih2=>by
     rw[F.graph_whole_l3,if_pos (by omega),A.ixn hy,Option.bind_some,A.lt,List.all_cons]
     rcases idx_cases ((0,0,[],(0,0,(ByteArray.mk #[])),(ByteArray.mk #[]),0,0):Nd) g y with⟨h1,_,h3,h4⟩|⟨i,n,h1,h2,h3,h4,h5⟩
     ·rw[h3,h4]
      have:inOk g y=false:=by unfold inOk;rw[if_pos (by omega)]
      rw[this];simp
     ·rw[h4,h5]
      have e:inOk g y=decide (n.2.1≠15):=by unfold inOk;rw[if_neg (by omega),at_some h1 h2]
      rw[e,A.gd1 (A.r64n (by omega)),ih2]
      by_cases h15:n.2.1=15<;>simp[h15])
    (by have:=FU_big;omega)
   rw[loop,ih,List.all_cons]
   cases x.2.2.1.all (inOk g)with
   |true=>rw[if_pos rfl,Bool.true_and]
   |false=>rw[if_neg Bool.false_ne_true,Bool.false_and,if_neg Bool.false_ne_true])
  (by have:=FU_big;omega)
theorem whole_P (g:List Nd)(hb:Few g):F.graph_whole g=if(32:Int)<(g.length:Int)then some (none,80)else if okL g 0 0 g=true then(if g.all (fun n=>decide (chk n.2.1 n.2.2.2.1=0))=true then(if g.all (fun n=>n.2.2.1.all (inOk g))=true then sortP g (mapOf g)else some (none,80))else some (none,60))else some (none,80):=by
 have hl:=hb.1
 unfold F.graph_whole
 rw[whole_l6 g (by omega) (fun x hx=>Nat.le_trans (hb.2 x hx).2.1 (by decide)),whole_l5 g _ (by omega) (fun x hx=>Nat.le_trans (hb.2 x hx).2.2 (by decide)),whole_l4 g (by omega) (fun x hx=>(hb.2 x hx).1)]
end Go.Proofs.YtpdhaldfdeamdaaDoor
end
