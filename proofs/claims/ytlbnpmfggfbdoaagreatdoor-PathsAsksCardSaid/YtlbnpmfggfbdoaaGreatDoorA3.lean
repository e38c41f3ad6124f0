/- Functions on data, and that the code computes them. * A layer over the small logic, continued: array variables as rows of their own. No program in sight. * A layer over the small logic, continued: texts put together, texts as bytes, bytes and runes as texts. No program in sight. * A layer over the small logic, continued: arrays in memory: writes at an index that varies, slices of them, their bytes as a text. No program in sight. * A layer over the small logic, continued: rows whose elements hold rows of their own. No program in sight. * A layer over the small logic, continued: calls that only look (what is known stays as it was), pieces of arrays within blocks. No program in sight. -/
import Derived.Test.YtlbnpmfggfbdoaaGreatDoorA0
import Derived.Test.YtlbnpmfggfbdoaaGreatDoorA1
import Derived.Test.YtlbnpmfggfbdoaaGreatDoorA2
import Derived.Laws.IdiomStrings
import Derived.Laws.Cover4
section
set_option linter.unusedVariables false
set_option linter.unusedSimpArgs false
set_option maxRecDepth 20000
set_option maxHeartbeats 8000000
set_option synthInstance.maxSize 1000000
set_option synthInstance.maxHeartbeats 400000
namespace Go.Proofs.YtlbnpmfggfbdoaaGreatDoor
open Go.RowKit
def F.graph_whole_1 (a0:D83)(b0:D83):Option Bool:=some (bif decide (a0.2.1=b0.2.1)then decide (a0.2.2.2.2.1=b0.2.2.2.2.1)else false)
theorem graph_whole_1_ok (a0:D83)(b0:D83)(A2_:Option Addr)(c3_:Nat)(g10_:Nat)(A13_:Option Addr)(c14_:Nat)(h0_:IntKind.i64.has a0.1)(h1_:IntKind.i64.has a0.2.1)(h4_:IntKind.i64.has a0.2.2.2.1.1)(h5_:IntKind.i64.has a0.2.2.2.1.2.1)(h6_:a0.2.2.2.1.2.2.size≤maxLen)(h7_:a0.2.2.2.2.1.size≤maxLen)(h8_:IntKind.i64.has a0.2.2.2.2.2.1)(h9_:IntKind.i64.has a0.2.2.2.2.2.2)(h11_:IntKind.i64.has b0.1)(h12_:IntKind.i64.has b0.2.1)(h15_:IntKind.i64.has b0.2.2.2.1.1)(h16_:IntKind.i64.has b0.2.2.2.1.2.1)(h17_:b0.2.2.2.1.2.2.size≤maxLen)(h18_:b0.2.2.2.2.1.size≤maxLen)(h19_:IntKind.i64.has b0.2.2.2.2.2.1)(h20_:IntKind.i64.has b0.2.2.2.2.2.2)(r:Bool)(hF:F.graph_whole_1 a0 b0=some r):
    A.Ct Tryz.prog 97 [.agg #[.int .i64 a0.1,.int .i64 a0.2.1,.slice A2_ ((a0.2.2.1).length) c3_,.int .i64 a0.2.2.2.1.1,.int .i64 a0.2.2.2.1.2.1,.string a0.2.2.2.1.2.2,.string a0.2.2.2.2.1,.int .i64 a0.2.2.2.2.2.1,.int .i64 a0.2.2.2.2.2.2],.pointer (some ⟨g10_,0,none⟩)] [(0,.sh (.slice (Z.Ty.int .i64)) [.slice A2_ (a0.2.2.1).length c3_] a0.2.2.1),(1,.el none g10_ 0 [.int .i64 b0.1,.int .i64 b0.2.1,.slice A13_ ((b0.2.2.1).length) c14_,.int .i64 b0.2.2.2.1.1,.int .i64 b0.2.2.2.1.2.1,.string b0.2.2.2.1.2.2,.string b0.2.2.2.2.1,.int .i64 b0.2.2.2.2.2.1,.int .i64 b0.2.2.2.2.2.2]),(2,.sh (.slice (Z.Ty.int .i64)) [.slice A13_ (b0.2.2.1).length c14_] b0.2.2.1)] [] (fun v H'=>v=.bool r∧H'=[]):=by
 refine A.Ct.enter Tryz.func97 rfl Tryz.ntmps97 rfl fun w0 F0=>?_
 rw[F.graph_whole_1]at hF
 refine A.xl 1 ?_
 refine A.AL.box 3 (cs:=[.int .i64 a0.1,.int .i64 a0.2.1,.slice A2_ ((a0.2.2.1).length) c3_,.int .i64 a0.2.2.2.1.1,.int .i64 a0.2.2.2.1.2.1,.string a0.2.2.2.1.2.2,.string a0.2.2.2.2.1,.int .i64 a0.2.2.2.2.2.1,.int .i64 a0.2.2.2.2.2.2]) fun g1=>?_
 refine A.q0 [] [] [.n] [] ?_
 refine A.dl 2 ?_
 refine A.q0 [3] [1] [.n,.b 0 1,.n,.e 0 1,.n,.n,.sy .n,.sy (.b 0 6),.sy .n,.sy (.e 0 6),.sy .n,.pk,.n] [(3,.bool (bif decide (a0.2.1=b0.2.1)then decide (a0.2.2.2.2.1=b0.2.2.2.2.1)else false))] ?_
 refine A.dx 1 ?_
 obtain rfl:=Option.some.inj hF
 exact A.rt1 [] ⟨rfl,rfl⟩
def F.slices_IndexFunc_api_Node_api_Node_graph_whole_1_l1 (a0:(List D83))(a1_0:D83):Nat→Int→Option Int
 |0,_=>none
 |f+1,y1=>if y1<((a0).length:Int)then((A.ix a0 y1).bind fun x4=>((F.graph_whole_1 (x4.1,x4.2.1,x4.2.2.1,(x4.2.2.2.1.1,x4.2.2.2.1.2.1,x4.2.2.2.1.2.2),x4.2.2.2.2.1,x4.2.2.2.2.2.1,x4.2.2.2.2.2.2) (a1_0.1,a1_0.2.1,a1_0.2.2.1,(a1_0.2.2.2.1.1,a1_0.2.2.2.1.2.1,a1_0.2.2.2.1.2.2),a1_0.2.2.2.2.1,a1_0.2.2.2.2.2.1,a1_0.2.2.2.2.2.2)).bind fun r11=>(if r11=true then(some y1)else(A.gd (Z.R64 (y1+1)) ((F.slices_IndexFunc_api_Node_api_Node_graph_whole_1_l1 a0 a1_0 f) (y1+1))))))else(some (-1))
def F.slices_IndexFunc_api_Node_api_Node_graph_whole_1 (a0:(List D83))(a1_0:D83):Option Int:=F.slices_IndexFunc_api_Node_api_Node_graph_whole_1_l1 a0 a1_0 A.FU 0
theorem slices_IndexFunc_api_Node_api_Node_graph_whole_1_ok (a0:(List D83))(a1_0:D83)(A0_:Option Addr)(c1_:Nat)(g2_:Nat)(A5_:Option Addr)(c6_:Nat)(h3_:IntKind.i64.has a1_0.1)(h4_:IntKind.i64.has a1_0.2.1)(h7_:IntKind.i64.has a1_0.2.2.2.1.1)(h8_:IntKind.i64.has a1_0.2.2.2.1.2.1)(h9_:a1_0.2.2.2.1.2.2.size≤maxLen)(h10_:a1_0.2.2.2.2.1.size≤maxLen)(h11_:IntKind.i64.has a1_0.2.2.2.2.2.1)(h12_:IntKind.i64.has a1_0.2.2.2.2.2.2)(r:Int)(hF:F.slices_IndexFunc_api_Node_api_Node_graph_whole_1 a0 a1_0=some r):
    A.Ct Tryz.prog 133 [.slice A0_ ((a0).length) c1_,.func (.func 97) #[] #[.pointer (some ⟨g2_,0,none⟩)]] [(0,.ln T83 A0_ c1_ a0),(1,.el none g2_ 0 [.int .i64 a1_0.1,.int .i64 a1_0.2.1,.slice A5_ ((a1_0.2.2.1).length) c6_,.int .i64 a1_0.2.2.2.1.1,.int .i64 a1_0.2.2.2.1.2.1,.string a1_0.2.2.2.1.2.2,.string a1_0.2.2.2.2.1,.int .i64 a1_0.2.2.2.2.2.1,.int .i64 a1_0.2.2.2.2.2.2]),(2,.sh (.slice (Z.Ty.int .i64)) [.slice A5_ (a1_0.2.2.1).length c6_] a1_0.2.2.1)] [] (fun v H'=>v=.int .i64 r∧H'=[]∧IntKind.i64.has r):=by
 refine A.Ct.enter Tryz.func133 rfl Tryz.ntmps133 rfl fun w0 F0=>?_
 rw[F.slices_IndexFunc_api_Node_api_Node_graph_whole_1]at hF
 refine A.xl 1 ?_
 refine A.q0 [] [] [.n] [] ?_
 refine A.dl 3 ?_
 refine A.q0 [] [] [.n,.n,.n] [(7,.int .i64 ((a0).length:Int)),(8,.int .i64 0)] ?_
 refine A.dx 2 ?_
 refine A.lp_ [0,1,7] [0,1,2] (fun f nl nh=>∃(y1:Int),nl=[(8,.int .i64 y1)]∧nh=[]∧IntKind.i64.has y1∧F.slices_IndexFunc_api_Node_api_Node_graph_whole_1_l1 a0 a1_0 f y1=some r) ⟨0,rfl,rfl,(A.hasl .i64 (0) rfl),hF⟩ ?_
 rintro f3 _ _ ⟨y1,rfl,rfl,hy2,hF⟩
 rcases f3 with _|f3
 ·exact A.no0 hF
 rw[F.slices_IndexFunc_api_Node_api_Node_graph_whole_1_l1]at hF
 refine A.xl 1 ?_
 refine A.q0 [] [] [.n] [(9,.bool (decide (y1<((a0).length:Int))))] ?_
 refine A.dx 2 ?_
 refine A.AX.cnd rfl hF (fun hb hF=>?_) (fun hb hF=>?_)
 ·refine A.xl 5 ?_
  refine A.q0 [] [] [.n,.n] [(5,.int .i64 y1)] ?_
  refine A.dl 2 ?_
  refine A.q0 [] [] [.n,.n,.n] [(11,.func (.func 97) #[] #[.pointer (some ⟨g2_,0,none⟩)]),(12,.slice A0_ ((a0).length) c1_),(13,.int .i64 y1)] ?_
  obtain⟨x4,hv5,hF⟩:=A.bd_some hF
  refine A.AL.ixl 0 87 hv5 fun ho6=>?_
  intro A7 c8 b9 o10
  refine A.q0 [] [87] [.e 0 0] [(15,.agg #[.int .i64 x4.1,.int .i64 x4.2.1,.slice A7 ((x4.2.2.1).length) c8,.int .i64 x4.2.2.2.1.1,.int .i64 x4.2.2.2.1.2.1,.string x4.2.2.2.1.2.2,.string x4.2.2.2.2.1,.int .i64 x4.2.2.2.2.2.1,.int .i64 x4.2.2.2.2.2.2])] ?_
  obtain⟨r11,hv12,hF⟩:=A.bd_some hF
  refine A.AL.call 89 [] (first:=[]) (cap:=[.pointer (some ⟨g2_,0,none⟩)]) cf97 (graph_whole_1_ok (x4.1,x4.2.1,x4.2.2.1,(x4.2.2.2.1.1,x4.2.2.2.1.2.1,x4.2.2.2.1.2.2),x4.2.2.2.2.1,x4.2.2.2.2.2.1,x4.2.2.2.2.2.2) (a1_0.1,a1_0.2.1,a1_0.2.2.1,(a1_0.2.2.2.1.1,a1_0.2.2.2.1.2.1,a1_0.2.2.2.1.2.2),a1_0.2.2.2.2.1,a1_0.2.2.2.2.2.1,a1_0.2.2.2.2.2.2) A7 c8 g2_ A5_ c6_ ho6.1 ho6.2.1 ho6.2.2.2.1.1 ho6.2.2.2.1.2.1 ho6.2.2.2.1.2.2 ho6.2.2.2.2.1 ho6.2.2.2.2.2.1 ho6.2.2.2.2.2.2 h3_ h4_ h7_ h8_ h9_ h10_ h11_ h12_ r11 hv12) (.s 88 (.s 1 (.s 2 .nil))) ?_
  rintro _ _ ⟨rfl,rfl⟩
  refine⟨by kernel_rfl,?_⟩
  refine A.dx 1 ?_
  refine A.AX.cnb rfl hF (fun hb hF=>?_) (fun hb hF=>?_)
  ·refine A.xl 1 ?_
   refine A.q0 [] [] [.n,.n] [(4,.int .i64 y1)] ?_
   refine A.dx 1 ?_
   obtain rfl:=Option.some.inj hF
   exact A.rt1 [] ⟨rfl,rfl,hy2⟩
  refine A.xl 3 ?_
  obtain⟨hc13,hF⟩:=A.gd_some hF
  refine A.q [] [] [.n,.n] [Z.R64 (y1+1)] [(8,.int .i64 (y1+1))] hc13 ?_
  refine A.AL.done ?_
  exact A.j ⟨_,Nat.lt_succ_self _,⟨(y1+1),rfl,rfl,(Z.i64_has hc13),hF⟩⟩
 refine A.xl 3 ?_
 refine A.q0 [] [] [.n] [(4,.int .i64 (-1))] ?_
 refine A.dx 1 ?_
 obtain rfl:=Option.some.inj hF
 exact A.rt1 [] ⟨rfl,rfl,(A.hasl .i64 (-1) rfl)⟩
def F.slices_ContainsFunc_api_Node_api_Node_graph_whole_1 (a0:(List D83))(a1_0:D83):Option Bool:=(F.slices_IndexFunc_api_Node_api_Node_graph_whole_1 a0 (a1_0.1,a1_0.2.1,a1_0.2.2.1,(a1_0.2.2.2.1.1,a1_0.2.2.2.1.2.1,a1_0.2.2.2.1.2.2),a1_0.2.2.2.2.1,a1_0.2.2.2.2.2.1,a1_0.2.2.2.2.2.2)).bind fun r1=>(some (decide ((0:Int)≤r1)))
theorem slices_ContainsFunc_api_Node_api_Node_graph_whole_1_ok (a0:(List D83))(a1_0:D83)(A0_:Option Addr)(c1_:Nat)(g2_:Nat)(A5_:Option Addr)(c6_:Nat)(h3_:IntKind.i64.has a1_0.1)(h4_:IntKind.i64.has a1_0.2.1)(h7_:IntKind.i64.has a1_0.2.2.2.1.1)(h8_:IntKind.i64.has a1_0.2.2.2.1.2.1)(h9_:a1_0.2.2.2.1.2.2.size≤maxLen)(h10_:a1_0.2.2.2.2.1.size≤maxLen)(h11_:IntKind.i64.has a1_0.2.2.2.2.2.1)(h12_:IntKind.i64.has a1_0.2.2.2.2.2.2)(r:Bool)(hF:F.slices_ContainsFunc_api_Node_api_Node_graph_whole_1 a0 a1_0=some r):
    A.Ct Tryz.prog 96 [.slice A0_ ((a0).length) c1_,.func (.func 97) #[] #[.pointer (some ⟨g2_,0,none⟩)]] [(0,.ln T83 A0_ c1_ a0),(1,.el none g2_ 0 [.int .i64 a1_0.1,.int .i64 a1_0.2.1,.slice A5_ ((a1_0.2.2.1).length) c6_,.int .i64 a1_0.2.2.2.1.1,.int .i64 a1_0.2.2.2.1.2.1,.string a1_0.2.2.2.1.2.2,.string a1_0.2.2.2.2.1,.int .i64 a1_0.2.2.2.2.2.1,.int .i64 a1_0.2.2.2.2.2.2]),(2,.sh (.slice (Z.Ty.int .i64)) [.slice A5_ (a1_0.2.2.1).length c6_] a1_0.2.2.1)] [] (fun v H'=>v=.bool r∧H'=[]):=by
 refine A.Ct.enter Tryz.func96 rfl Tryz.ntmps96 rfl fun w0 F0=>?_
 rw[F.slices_ContainsFunc_api_Node_api_Node_graph_whole_1]at hF
 refine A.xl 1 ?_
 refine A.q0 [] [] [.n] [] ?_
 refine A.dl 2 ?_
 refine A.q0 [] [] [.n,.n] [(5,.slice A0_ ((a0).length) c1_),(6,.func (.func 97) #[] #[.pointer (some ⟨g2_,0,none⟩)])] ?_
 obtain⟨r1,hv2,hF⟩:=A.bd_some hF
 refine A.AL.call 3 [] (first:=[]) (cap:=[]) cf133 (slices_IndexFunc_api_Node_api_Node_graph_whole_1_ok a0 (a1_0.1,a1_0.2.1,a1_0.2.2.1,(a1_0.2.2.2.1.1,a1_0.2.2.2.1.2.1,a1_0.2.2.2.1.2.2),a1_0.2.2.2.2.1,a1_0.2.2.2.2.2.1,a1_0.2.2.2.2.2.2) A0_ c1_ g2_ A5_ c6_ h3_ h4_ h7_ h8_ h9_ h10_ h11_ h12_ r1 hv2) (.s 0 (.s 1 (.s 2 .nil))) ?_
 rintro _ _ ⟨rfl,rfl,hr3⟩
 refine⟨by kernel_rfl,?_⟩
 refine A.q0 [] [] [.n,.n] [(4,.bool (decide ((0:Int)≤r1)))] ?_
 refine A.dx 1 ?_
 obtain rfl:=Option.some.inj hF
 exact A.rt1 [] ⟨rfl,rfl⟩
def F.graph_whole_j1 (k27:(List (Int×D83))→Int→Int→Option ((Option ((List (Int×D83))×(List Int)×(List (Int×Int))))×Int))(m5:List (Int×D83))(y8:Int)(x11:D83)(y20:Bool):Option ((Option ((List (Int×D83))×(List Int)×(List (Int×Int))))×Int):=if y20=true then(some (none,80))else(A.gd (Z.R64 (y8+1)) (k27 (Z.mins m5 x11.1 (x11.1,x11.2.1,x11.2.2.1,(x11.2.2.2.1.1,x11.2.2.2.1.2.1,x11.2.2.2.1.2.2),x11.2.2.2.2.1,x11.2.2.2.2.2.1,x11.2.2.2.2.2.2)) x11.1 (y8+1)))
def F.graph_whole_j2 (k27:(List (Int×D83))→Int→Int→Option ((Option ((List (Int×D83))×(List Int)×(List (Int×Int))))×Int))(m5:List (Int×D83))(y6:Int)(y8:Int)(x11:D83)(y19:Bool):Option ((Option ((List (Int×D83))×(List Int)×(List (Int×Int))))×Int):=if x11.1≤y6 then(F.graph_whole_j1 k27 m5 y8 x11 true)else((F.graph_own (x11.1,x11.2.1,x11.2.2.1,(x11.2.2.2.1.1,x11.2.2.2.1.2.1,x11.2.2.2.1.2.2),x11.2.2.2.2.1,x11.2.2.2.2.2.1,x11.2.2.2.2.2.2)).bind fun r22=>(F.graph_whole_j1 k27 m5 y8 x11 (bif !r22 then true else y19)))
def F.graph_whole_l3 (k39:Int→Option ((Option ((List (Int×D83))×(List Int)×(List (Int×Int))))×Int))(m5:List (Int×D83))(y46:Int)(x49:D83):Nat→Int→Option ((Option ((List (Int×D83))×(List Int)×(List (Int×Int))))×Int)
 |0,_=>none
 |f+1,y57=>if y57<((x49.2.2.1).length:Int)then((A.ix x49.2.2.1 y57).bind fun x60=>(A.lt (Z.mget ((0,0,[],(0,0,(ByteArray.mk #[])),(ByteArray.mk #[]),0,0):D83) m5 x60) fun x65=>(if(bif !(Z.mhas m5 x60)then true else decide (x65.2.1=15))=true then(some (none,80))else(A.gd (Z.R64 (y57+1)) ((F.graph_whole_l3 k39 m5 y46 x49 f) (y57+1))))))else(A.gd (Z.R64 (y46+1)) (k39 (y46+1)))
def F.graph_whole_l4 (a0:D23)(m5:List (Int×D83)):Nat→Int→Option ((Option ((List (Int×D83))×(List Int)×(List (Int×Int))))×Int)
 |0,_=>none
 |f+1,y46=>if y46<((a0).length:Int)then((A.ix a0 y46).bind fun x49=>(F.graph_whole_l3 (F.graph_whole_l4 a0 m5 f) m5 y46 x49 A.FU 0))else((F.graph_plan_sort (m5,[],[]) a0).bind fun r73=>(if(!r73.1)=true then(some (none,81))else((F.graph_plan_depths (r73.2.1,r73.2.2.1,r73.2.2.2)).bind fun r79=>(if(!r79.1)=true then(some (none,80))else((F.graph_plan_turns (r79.2.1,r79.2.2.1,r79.2.2.2) a0).bind fun r85=>(if r85=true then(some (none,81))else(some (some (r79.2.1,r79.2.2.1,r79.2.2.2),0))))))))
def F.graph_whole_l5 (a0:D23)(m5:List (Int×D83)):Nat→Int→Option ((Option ((List (Int×D83))×(List Int)×(List (Int×Int))))×Int)
 |0,_=>none
 |f+1,y31=>if y31<((a0).length:Int)then((A.ix a0 y31).bind fun x34=>((F.fn_Check x34.2.1 (x34.2.2.2.1.1,x34.2.2.2.1.2.1,x34.2.2.2.1.2.2)).bind fun r42=>(if r42≠0 then(some (none,r42))else(A.gd (Z.R64 (y31+1)) ((F.graph_whole_l5 a0 m5 f) (y31+1))))))else(F.graph_whole_l4 a0 m5 A.FU 0)
def F.graph_whole_l6 (a0:D23):Nat→(List (Int×D83))→Int→Int→Option ((Option ((List (Int×D83))×(List Int)×(List (Int×Int))))×Int)
 |0,_,_,_=>none
 |f+1,m5,y6,y8=>if y8<((a0).length:Int)then((A.ix a0 y8).bind fun x11=>((F.graph_outside x11.2.1).bind fun r24=>(if r24=true then(A.gd (0≤y8∧y8.toNat≤(a0).length) ((F.slices_ContainsFunc_api_Node_api_Node_graph_whole_1 (List.take y8.toNat a0) (x11.1,x11.2.1,x11.2.2.1,(x11.2.2.2.1.1,x11.2.2.2.1.2.1,x11.2.2.2.1.2.2),x11.2.2.2.2.1,x11.2.2.2.2.2.1,x11.2.2.2.2.2.2)).bind fun r29=>(F.graph_whole_j2 (F.graph_whole_l6 a0 f) m5 y6 y8 x11 r29)))else(F.graph_whole_j2 (F.graph_whole_l6 a0 f) m5 y6 y8 x11 false))))else(F.graph_whole_l5 a0 m5 A.FU 0)
def F.graph_whole (a0:D23):Option ((Option ((List (Int×D83))×(List Int)×(List (Int×Int))))×Int):=if(32:Int)<((a0).length:Int)then(some (none,80))else(F.graph_whole_l6 a0 A.FU [] 0 0)
theorem graph_whole_ok (a0:D23)(A0_:Option Addr)(c1_:Nat)(r:(Option ((List (Int×D83))×(List Int)×(List (Int×Int))))×Int)(hF:F.graph_whole a0=some r):
    A.Ct Tryz.prog 68 [.agg #[.slice A0_ ((a0).length) c1_]] [(0,.sh (.slice T83) [.slice A0_ (a0).length c1_] a0),(1,.el none 0 0 A.tabF),(2,.el none 1 0 A.tabA)] [] (fun v H'=>(r.1=none∧v=.tuple #[.pointer none,.int .i64 r.2]∧H'=[]∧IntKind.i64.has r.2)∨(∃(p0:((List (Int×D83))×(List Int)×(List (Int×Int)))),r.1=some p0∧∃(g0':Nat) (b1':Nat) (A2':Option Addr) (c3':Nat) (b4':Nat),v=.tuple #[.pointer (some ⟨g0',0,none⟩),.int .i64 r.2]∧H'=[(0,.blk g0' 149 [.map (some b1'),.slice A2' ((p0.2.1).length) c3',.map (some b4')]),(1,.mp Int (fun i:Int=>.int .i64 i) T83 true b1' p0.1),(2,.own (Z.Ty.int .i64) 3 A2' c3' p0.2.1),(3,.mp Int (fun i:Int=>.int .i64 i) (Z.Ty.int .i64) false b4' p0.2.2)]∧IntKind.i64.has r.2)):=by
 refine A.Ct.enter Tryz.func68 rfl Tryz.ntmps68 rfl fun w0 F0=>?_
 rw[F.graph_whole]at hF
 refine A.xl 1 ?_
 refine A.AL.box 3 (cs:=[.slice A0_ ((a0).length) c1_]) fun g1=>?_
 refine A.q0 [] [] [.n,.n] [] ?_
 refine A.dl 3 ?_
 refine A.q0 [3] [] [.n,.b 0 0,.n,.n] [(21,.bool (decide ((32:Int)<((a0).length:Int))))] ?_
 refine A.dx 1 ?_
 refine A.AX.cnd rfl hF (fun hb hF=>?_) (fun hb hF=>?_)
 ·refine A.xl 1 ?_
  refine A.q0 [] [] [.n,.n] [(2,.pointer none),(3,.int .i64 80)] ?_
  refine A.dx 1 ?_
  obtain rfl:=Option.some.inj hF
  exact A.rt2 [] (.inl ⟨rfl,⟨rfl,rfl,(A.hasl .i64 (80) rfl)⟩⟩)
 refine A.xl 3 ?_
 refine A.AL.mkm 4 Int (fun i:Int=>.int .i64 i) T83 true fun b2=>?_
 refine A.AL.mkm 5 Int (fun i:Int=>.int .i64 i) (Z.Ty.int .i64) false fun b3=>?_
 refine A.q0 [] [] [.n] [(24,.agg #[.map (some b2),.slice none 0 0,.map (some b3)])] ?_
 refine A.AL.box 6 (cs:=[.map (some b2),.slice none 0 0,.map (some b3)]) fun g4=>?_
 refine A.q0 [] [] [.n] [(4,.pointer (some ⟨g4,0,none⟩))] ?_
 refine A.dl 2 ?_
 refine A.q0 [] [] [.n] [(5,.int .i64 0)] ?_
 refine A.dl 3 ?_
 refine A.q0 [3] [] [.n,.b 0 0,.n,.n] [(27,.slice A0_ ((a0).length) c1_),(28,.int .i64 ((a0).length:Int)),(29,.int .i64 0)] ?_
 refine A.dx 2 ?_
 refine A.lp_ [1,4,27,28] [0,1,2,3,5,6] (fun f nl nh=>∃(m5:List (Int×D83)),∃(y6:Int),∃(y8:Int),nl=[(5,.int .i64 y6),(29,.int .i64 y8)]∧nh=[(4,.mp Int (fun i:Int=>.int .i64 i) T83 true b2 m5)]∧IntKind.i64.has y6∧IntKind.i64.has y8∧F.graph_whole_l6 a0 f m5 y6 y8=some r) ⟨[],0,0,rfl,rfl,(A.hasl .i64 (0) rfl),(A.hasl .i64 (0) rfl),hF⟩ ?_
 rintro f10 _ _ ⟨m5,y6,y8,rfl,rfl,hy7,hy9,hF⟩
 rcases f10 with _|f10
 ·exact A.no0 hF
 rw[F.graph_whole_l6]at hF
 refine A.xl 1 ?_
 refine A.q0 [] [] [.n] [(30,.bool (decide (y8<((a0).length:Int))))] ?_
 refine A.dx 2 ?_
 refine A.AX.cnd rfl hF (fun hb hF=>?_) (fun hb hF=>?_)
 ·refine A.xl 5 ?_
  refine A.q0 [] [] [.n] [(31,.int .i64 y8)] ?_
  obtain⟨x11,hv12,hF⟩:=A.bd_some hF
  refine A.AL.ixs 0 2907 hv12 fun ho13=>?_
  intro A14 c15 b16 o17
  refine A.q0 [] [2907] [.e 0 0] [(33,.agg #[.int .i64 x11.1,.int .i64 x11.2.1,.slice A14 ((x11.2.2.1).length) c15,.int .i64 x11.2.2.2.1.1,.int .i64 x11.2.2.2.1.2.1,.string x11.2.2.2.1.2.2,.string x11.2.2.2.2.1,.int .i64 x11.2.2.2.2.2.1,.int .i64 x11.2.2.2.2.2.2])] ?_
  refine A.AL.alloc 2909 (cs:=[.int .i64 0,.int .i64 0,.slice none 0 0,.int .i64 0,.int .i64 0,.string (ByteArray.mk #[]),.string (ByteArray.mk #[]),.int .i64 0,.int .i64 0]) Tryz.zeroValue84 fun g18=>?_
  refine A.q0 [] [] [.n] [(6,.int .i64 y8)] ?_
  refine A.sw 2909 [] [.int .i64 x11.1,.int .i64 x11.2.1,.slice A14 ((x11.2.2.1).length) c15,.int .i64 x11.2.2.2.1.1,.int .i64 x11.2.2.2.1.2.1,.string x11.2.2.2.1.2.2,.string x11.2.2.2.2.1,.int .i64 x11.2.2.2.2.2.1,.int .i64 x11.2.2.2.2.2.2] ?_
  refine A.dx 1 ?_
  refine A.AX.join [1,4,5,7,27,28,29] [0,1,2,3,4,5,6,2908,2909] (fun nl nh=>∃(y19:Bool),nl=[(8,.bool y19)]∧nh=[]∧F.graph_whole_j2 (F.graph_whole_l6 a0 f10) m5 y6 y8 x11 y19=some r) ?_ ?_
  ·refine A.xl 0 ?_
   refine A.q0 [2909] [] [.n,.b 0 1] [(35,.int .i64 x11.2.1)] ?_
   obtain⟨r24,hv25,hF⟩:=A.bd_some hF
   refine A.AL.call 2910 [] (first:=[]) (cap:=[]) cf95 (graph_outside_ok x11.2.1 ho13.2.1 r24 hv25) .nil ?_
   rintro _ _ ⟨rfl,rfl⟩
   refine⟨by kernel_rfl,?_⟩
   refine A.q0 [] [] [.n] [(37,.bool r24)] ?_
   refine A.AL.cnd (j:=37) rfl hF (fun hF=>?_) (fun hF=>?_)
   ·refine A.q0 [3] [] [.on .n,.on (.b 0 0),.on .n] [(39,.slice A0_ ((a0).length) c1_),(40,.int .i64 y8)] ?_
    refine A.AL.on (dj:=37) rfl rfl ?_
    obtain⟨hc26,hF⟩:=A.gd_some hF
    refine A.AL.cuth 0 2950 (v:=y8.toNat) (Int.toNat_of_nonneg hc26.1).symm hc26.2 fun c28=>?_
    refine A.q0 [] [] [.on .n] [(42,.func (.func 97) #[] #[.pointer (some ⟨g18,0,none⟩)])] ?_
    refine A.AL.on (dj:=37) rfl rfl ?_
    obtain⟨r29,hv30,hF⟩:=A.bd_some hF
    refine A.AL.call 2951 [] (first:=[]) (cap:=[]) cf96 (slices_ContainsFunc_api_Node_api_Node_graph_whole_1_ok (List.take y8.toNat a0) (x11.1,x11.2.1,x11.2.2.1,(x11.2.2.2.1.1,x11.2.2.2.1.2.1,x11.2.2.2.1.2.2),x11.2.2.2.2.1,x11.2.2.2.2.2.1,x11.2.2.2.2.2.2) A0_ c28 g18 A14 c15 ho13.1 ho13.2.1 ho13.2.2.2.1.1 ho13.2.2.2.1.2.1 ho13.2.2.2.1.2.2 ho13.2.2.2.2.1 ho13.2.2.2.2.2.1 ho13.2.2.2.2.2.2 r29 hv30) (.l 2950 (.b 2909 (.s 2908 .nil))) ?_
    rintro _ _ ⟨rfl,rfl⟩
    refine⟨by kernel_rfl,?_⟩
    refine A.q0 [] [] [.n,.n] [(8,.bool r29)] ?_
    refine A.AL.done ?_
    exact A.j ⟨r29,rfl,rfl,hF⟩
   refine A.q0 [] [] [.off,.off,.off,.off,.off,.off,.n,.n] [(8,.bool false)] ?_
   refine A.AL.done ?_
   exact A.j ⟨false,rfl,rfl,hF⟩
  rintro _ _ ⟨y19,rfl,rfl,hF⟩
  rw[F.graph_whole_j2]at hF
  refine A.xx 1 ?_
  refine A.AX.join [1,4,7,27,28,29] [0,1,2,3,4,5,6,2908,2909] (fun nl nh=>∃(y20:Bool),nl=[(56,.bool y20)]∧nh=[]∧F.graph_whole_j1 (F.graph_whole_l6 a0 f10) m5 y8 x11 y20=some r) ?_ ?_
  ·refine A.xl 0 ?_
   refine A.q0 [2909] [] [.n,.b 0 0,.n,.n,.n] [(49,.bool (decide (x11.1≤y6)))] ?_
   refine A.AL.cnp (j:=49) rfl hF (fun hb hF=>?_) (fun hb hF=>?_)
   ·refine A.q0 [] [] [.off,.off,.off,.n,.n,.off,.n] [(56,.bool true)] ?_
    refine A.AL.done ?_
    exact A.j ⟨true,rfl,rfl,hF⟩
   refine A.q0 [2909] [] [.on (.b 0 0)] [(50,.agg #[.int .i64 x11.1,.int .i64 x11.2.1,.slice A14 ((x11.2.2.1).length) c15,.int .i64 x11.2.2.2.1.1,.int .i64 x11.2.2.2.1.2.1,.string x11.2.2.2.1.2.2,.string x11.2.2.2.2.1,.int .i64 x11.2.2.2.2.2.1,.int .i64 x11.2.2.2.2.2.2])] ?_
   refine A.AL.on (dj:=49) rfl rfl ?_
   obtain⟨r22,hv23,hF⟩:=A.bd_some hF
   refine A.AL.call 2991 [] (first:=[]) (cap:=[]) cf98 (graph_own_ok (x11.1,x11.2.1,x11.2.2.1,(x11.2.2.2.1.1,x11.2.2.2.1.2.1,x11.2.2.2.1.2.2),x11.2.2.2.2.1,x11.2.2.2.2.2.1,x11.2.2.2.2.2.2) A14 c15 ho13.1 ho13.2.1 ho13.2.2.2.1.1 ho13.2.2.2.1.2.1 ho13.2.2.2.1.2.2 ho13.2.2.2.2.1 ho13.2.2.2.2.2.1 ho13.2.2.2.2.2.2 r22 hv23) (.s 2908 .nil) ?_
   rintro _ _ ⟨rfl,rfl⟩
   refine⟨by kernel_rfl,?_⟩
   refine A.q0 [] [] [.on .n,.n,.n,.sy .n,.pk] [(56,.bool (bif !r22 then true else y19))] ?_
   refine A.AL.done ?_
   exact A.j ⟨(bif !r22 then true else y19),rfl,rfl,hF⟩
  rintro _ _ ⟨y20,rfl,rfl,hF⟩
  rw[F.graph_whole_j1]at hF
  refine A.AX.cnb rfl hF (fun hb hF=>?_) (fun hb hF=>?_)
  ·refine A.xl 1 ?_
   refine A.q0 [] [] [.n,.n] [(2,.pointer none),(3,.int .i64 80)] ?_
   refine A.dx 1 ?_
   obtain rfl:=Option.some.inj hF
   exact A.rt2 [] (.inl ⟨rfl,⟨rfl,rfl,(A.hasl .i64 (80) rfl)⟩⟩)
  refine A.xl 3 ?_
  refine A.q0 [2909] [] [.n,.b 0 0,.n] [(5,.int .i64 x11.1)] ?_
  refine A.dx 1 ?_
  refine A.AX.dr mixed 7 8 (A.mb 8 0) ?_
  refine A.hq A.pb [] [0,1,2,3,4,5,6,2908,2909] [2909,6] [] (A.mb 8 127) 1 [(0,.n),(4,.n),(6,.b 0 0),(1,.n),(5,.b 0 0),(2,.n),(3,.b 1 0)] [(65,.agg #[.int .i64 x11.1,.int .i64 x11.2.1,.slice A14 ((x11.2.2.1).length) c15,.int .i64 x11.2.2.2.1.1,.int .i64 x11.2.2.2.1.2.1,.string x11.2.2.2.1.2.2,.string x11.2.2.2.2.1,.int .i64 x11.2.2.2.2.2.1,.int .i64 x11.2.2.2.2.2.2]),(64,.int .i64 x11.1),(62,.map (some b2))] ?_
  refine A.AH.one 7 ?_
  refine A.AL.mup (t:=T83) 4 [] (cs:=[.int .i64 x11.1,.int .i64 x11.2.1,.slice A14 ((x11.2.2.1).length) c15,.int .i64 x11.2.2.2.1.1,.int .i64 x11.2.2.2.1.2.1,.string x11.2.2.2.1.2.2,.string x11.2.2.2.2.1,.int .i64 x11.2.2.2.2.2.1,.int .i64 x11.2.2.2.2.2.2]) (u:=(x11.1,x11.2.1,x11.2.2.1,(x11.2.2.2.1.1,x11.2.2.2.1.2.1,x11.2.2.2.1.2.2),x11.2.2.2.2.1,x11.2.2.2.2.2.1,x11.2.2.2.2.2.2)) ky3 x11.1 ⟨⟨rfl,ho13.1⟩,⟨rfl,ho13.2.1⟩,.inl ⟨2908,rfl⟩,⟨⟨rfl,ho13.2.2.2.1.1⟩,⟨rfl,ho13.2.2.2.1.2.1⟩,⟨rfl,ho13.2.2.2.1.2.2⟩⟩,⟨rfl,ho13.2.2.2.2.1⟩,⟨rfl,ho13.2.2.2.2.2.1⟩,⟨rfl,ho13.2.2.2.2.2.2⟩⟩ ?_
  refine A.AH.nm (A.mb 8 255) ?_
  refine A.AH.done ?_
  refine A.el 2 ?_
  obtain⟨hc21,hF⟩:=A.gd_some hF
  refine A.q [] [] [.n,.n] [Z.R64 (y8+1)] [(29,.int .i64 (y8+1))] hc21 ?_
  refine A.AL.done ?_
  exact A.j ⟨_,Nat.lt_succ_self _,⟨(Z.mins m5 x11.1 (x11.1,x11.2.1,x11.2.2.1,(x11.2.2.2.1.1,x11.2.2.2.1.2.1,x11.2.2.2.1.2.2),x11.2.2.2.2.1,x11.2.2.2.2.2.1,x11.2.2.2.2.2.2)),x11.1,(y8+1),rfl,rfl,ho13.1,(Z.i64_has hc21),hF⟩⟩
 refine A.xl 4 ?_
 refine A.q0 [3] [] [.n,.b 0 0,.n,.n] [(68,.slice A0_ ((a0).length) c1_),(69,.int .i64 ((a0).length:Int)),(70,.int .i64 0)] ?_
 refine A.dx 2 ?_
 refine A.lp_ [1,4,68,69] [0,1,2,3,4,5,6] (fun f nl nh=>∃(y31:Int),nl=[(70,.int .i64 y31)]∧nh=[]∧IntKind.i64.has y31∧F.graph_whole_l5 a0 m5 f y31=some r) ⟨0,rfl,rfl,(A.hasl .i64 (0) rfl),hF⟩ ?_
 rintro f33 _ _ ⟨y31,rfl,rfl,hy32,hF⟩
 rcases f33 with _|f33
 ·exact A.no0 hF
 rw[F.graph_whole_l5]at hF
 refine A.xl 1 ?_
 refine A.q0 [] [] [.n] [(71,.bool (decide (y31<((a0).length:Int))))] ?_
 refine A.dx 2 ?_
 refine A.AX.cnd rfl hF (fun hb hF=>?_) (fun hb hF=>?_)
 ·refine A.xl 5 ?_
  obtain⟨x34,hv35,hF⟩:=A.bd_some hF
  refine A.AL.ixs 0 3915 hv35 fun ho36=>?_
  intro A37 c38 b39 o40
  refine A.q0 [] [3915] [.e 0 0] [(73,.agg #[.int .i64 x34.1,.int .i64 x34.2.1,.slice A37 ((x34.2.2.1).length) c38,.int .i64 x34.2.2.2.1.1,.int .i64 x34.2.2.2.1.2.1,.string x34.2.2.2.1.2.2,.string x34.2.2.2.2.1,.int .i64 x34.2.2.2.2.2.1,.int .i64 x34.2.2.2.2.2.2])] ?_
  refine A.AL.alloc 3917 (cs:=[.int .i64 0,.int .i64 0,.slice none 0 0,.int .i64 0,.int .i64 0,.string (ByteArray.mk #[]),.string (ByteArray.mk #[]),.int .i64 0,.int .i64 0]) Tryz.zeroValue84 fun g41=>?_
  refine A.sw 3917 [] [.int .i64 x34.1,.int .i64 x34.2.1,.slice A37 ((x34.2.2.1).length) c38,.int .i64 x34.2.2.2.1.1,.int .i64 x34.2.2.2.1.2.1,.string x34.2.2.2.1.2.2,.string x34.2.2.2.2.1,.int .i64 x34.2.2.2.2.2.1,.int .i64 x34.2.2.2.2.2.2] ?_
  refine A.dl 2 ?_
  refine A.q0 [3917] [] [.n,.b 0 1,.n,.b 0 3] [(75,.int .i64 x34.2.1),(77,.agg #[.int .i64 x34.2.2.2.1.1,.int .i64 x34.2.2.2.1.2.1,.string x34.2.2.2.1.2.2])] ?_
  obtain⟨r42,hv43,hF⟩:=A.bd_some hF
  refine A.AL.call 3918 [] (first:=[]) (cap:=[]) cf99 (fn_Check_ok x34.2.1 (x34.2.2.2.1.1,x34.2.2.2.1.2.1,x34.2.2.2.1.2.2) ho36.2.1 ho36.2.2.2.1.1 ho36.2.2.2.1.2.1 ho36.2.2.2.1.2.2 r42 hv43) (.s 1 (.s 2 .nil)) ?_
  rintro _ _ ⟨rfl,rfl,hr44⟩
  refine⟨by kernel_rfl,?_⟩
  refine A.q0 [] [] [.n] [(11,.int .i64 r42)] ?_
  refine A.dl 2 ?_
  refine A.q0 [] [] [.n,.n] [(80,.bool (decide (r42≠0)))] ?_
  refine A.dx 1 ?_
  refine A.AX.cnd rfl hF (fun hb hF=>?_) (fun hb hF=>?_)
  ·refine A.xl 1 ?_
   refine A.q0 [] [] [.n,.n,.n] [(2,.pointer none),(3,.int .i64 r42)] ?_
   refine A.dx 1 ?_
   obtain rfl:=Option.some.inj hF
   exact A.rt2 [] (.inl ⟨rfl,⟨rfl,rfl,hr44⟩⟩)
  refine A.xl 3 ?_
  obtain⟨hc45,hF⟩:=A.gd_some hF
  refine A.q [] [] [.n,.n] [Z.R64 (y31+1)] [(70,.int .i64 (y31+1))] hc45 ?_
  refine A.AL.done ?_
  exact A.j ⟨_,Nat.lt_succ_self _,⟨(y31+1),rfl,rfl,(Z.i64_has hc45),hF⟩⟩
 refine A.xl 4 ?_
 refine A.q0 [3] [] [.n,.b 0 0,.n,.n] [(84,.slice A0_ ((a0).length) c1_),(85,.int .i64 ((a0).length:Int)),(86,.int .i64 0)] ?_
 refine A.dx 2 ?_
 refine A.lp_ [1,4,84,85] [0,1,2,3,4,5,6] (fun f nl nh=>∃(y46:Int),nl=[(86,.int .i64 y46)]∧nh=[]∧IntKind.i64.has y46∧F.graph_whole_l4 a0 m5 f y46=some r) ⟨0,rfl,rfl,(A.hasl .i64 (0) rfl),hF⟩ ?_
 rintro f48 _ _ ⟨y46,rfl,rfl,hy47,hF⟩
 rcases f48 with _|f48
 ·exact A.no0 hF
 rw[F.graph_whole_l4]at hF
 refine A.xl 1 ?_
 refine A.q0 [] [] [.n] [(87,.bool (decide (y46<((a0).length:Int))))] ?_
 refine A.dx 2 ?_
 refine A.AX.cnd rfl hF (fun hb hF=>?_) (fun hb hF=>?_)
 ·refine A.xl 5 ?_
  obtain⟨x49,hv50,hF⟩:=A.bd_some hF
  refine A.AL.ixs 0 4224 hv50 fun ho51=>?_
  intro A52 c53 b54 o55
  refine A.q0 [] [4224] [.e 0 0] [(89,.agg #[.int .i64 x49.1,.int .i64 x49.2.1,.slice A52 ((x49.2.2.1).length) c53,.int .i64 x49.2.2.2.1.1,.int .i64 x49.2.2.2.1.2.1,.string x49.2.2.2.1.2.2,.string x49.2.2.2.2.1,.int .i64 x49.2.2.2.2.2.1,.int .i64 x49.2.2.2.2.2.2])] ?_
  refine A.AL.alloc 4226 (cs:=[.int .i64 0,.int .i64 0,.slice none 0 0,.int .i64 0,.int .i64 0,.string (ByteArray.mk #[]),.string (ByteArray.mk #[]),.int .i64 0,.int .i64 0]) Tryz.zeroValue84 fun g56=>?_
  refine A.sw 4226 [] [.int .i64 x49.1,.int .i64 x49.2.1,.slice A52 ((x49.2.2.1).length) c53,.int .i64 x49.2.2.2.1.1,.int .i64 x49.2.2.2.1.2.1,.string x49.2.2.2.1.2.2,.string x49.2.2.2.2.1,.int .i64 x49.2.2.2.2.2.1,.int .i64 x49.2.2.2.2.2.2] ?_
  refine A.dl 2 ?_
  refine A.q0 [4226] [] [.n,.b 0 2,.n,.n] [(91,.slice A52 ((x49.2.2.1).length) c53),(92,.int .i64 ((x49.2.2.1).length:Int)),(93,.int .i64 0)] ?_
  refine A.dx 2 ?_
  refine A.lp_ [1,4,84,85,86,91,92] [0,1,2,3,4,5,6,4225] (fun f nl nh=>∃(y57:Int),nl=[(93,.int .i64 y57)]∧nh=[]∧IntKind.i64.has y57∧F.graph_whole_l3 (F.graph_whole_l4 a0 m5 f48) m5 y46 x49 f y57=some r) ⟨0,rfl,rfl,(A.hasl .i64 (0) rfl),hF⟩ ?_
  rintro f59 _ _ ⟨y57,rfl,rfl,hy58,hF⟩
  rcases f59 with _|f59
  ·exact A.no0 hF
  rw[F.graph_whole_l3]at hF
  refine A.xl 1 ?_
  refine A.q0 [] [] [.n] [(94,.bool (decide (y57<((x49.2.2.1).length:Int))))] ?_
  refine A.dx 2 ?_
  refine A.AX.cnd rfl hF (fun hb hF=>?_) (fun hb hF=>?_)
  ·refine A.xl 5 ?_
   obtain⟨x60,hv61,hF⟩:=A.bd_some hF
   refine A.AL.ixs 4225 4233 hv61 fun ho62=>?_
   intro b63 o64
   refine A.q0 [] [4233] [.e 0 0,.n] [(15,.int .i64 x60)] ?_
   refine A.dl 2 ?_
   refine A.q0 [6] [] [.n,.n,.n,.b 0 0,.n] [(101,.map (some b2)),(102,.int .i64 x60)] ?_
   obtain⟨x65,hv66,hF⟩:=A.lt_some hF
   refine A.AL.lk2 (t:=T83) 4 4234 (z:=((0,0,[],(0,0,(ByteArray.mk #[])),(ByteArray.mk #[]),0,0):D83)) (zs:=[.int .i64 0,.int .i64 0,.slice none 0 0,.int .i64 0,.int .i64 0,.string (ByteArray.mk #[]),.string (ByteArray.mk #[]),.int .i64 0,.int .i64 0]) ky3 x60 Tryz.zeroValue84 ⟨⟨rfl,by decide⟩,⟨rfl,by decide⟩,(.inr ⟨rfl,rfl⟩),⟨⟨rfl,by decide⟩,⟨rfl,by decide⟩,⟨rfl,by decide⟩⟩,⟨rfl,by decide⟩,⟨rfl,by decide⟩,⟨rfl,by decide⟩⟩ hv66 fun ho67=>?_
   intro A68 c69
   refine A.q0 [] [] [.n,.n,.n] [(104,.agg #[.int .i64 x65.1,.int .i64 x65.2.1,.slice A68 ((x65.2.2.1).length) c69,.int .i64 x65.2.2.2.1.1,.int .i64 x65.2.2.2.1.2.1,.string x65.2.2.2.1.2.2,.string x65.2.2.2.2.1,.int .i64 x65.2.2.2.2.2.1,.int .i64 x65.2.2.2.2.2.2]),(105,.bool (Z.mhas m5 x60))] ?_
   refine A.AL.alloc 4235 (cs:=[.int .i64 0,.int .i64 0,.slice none 0 0,.int .i64 0,.int .i64 0,.string (ByteArray.mk #[]),.string (ByteArray.mk #[]),.int .i64 0,.int .i64 0]) Tryz.zeroValue84 fun g70=>?_
   refine A.sw 4235 [] [.int .i64 x65.1,.int .i64 x65.2.1,.slice A68 ((x65.2.2.1).length) c69,.int .i64 x65.2.2.2.1.1,.int .i64 x65.2.2.2.1.2.1,.string x65.2.2.2.1.2.2,.string x65.2.2.2.2.1,.int .i64 x65.2.2.2.2.2.1,.int .i64 x65.2.2.2.2.2.2] ?_
   refine A.q0 [] [] [.n] [(17,.bool (Z.mhas m5 x60))] ?_
   refine A.dl 2 ?_
   refine A.q0 [4235] [] [.n,.n,.n,.sy .n,.sy (.b 0 1),.sy .n,.pk] [(112,.bool (bif !(Z.mhas m5 x60)then true else decide (x65.2.1=15)))] ?_
   refine A.dx 1 ?_
   refine A.AX.cnb rfl hF (fun hb hF=>?_) (fun hb hF=>?_)
   ·refine A.xl 1 ?_
    refine A.q0 [] [] [.n,.n] [(2,.pointer none),(3,.int .i64 80)] ?_
    refine A.dx 1 ?_
    obtain rfl:=Option.some.inj hF
    exact A.rt2 [] (.inl ⟨rfl,⟨rfl,rfl,(A.hasl .i64 (80) rfl)⟩⟩)
   refine A.xl 3 ?_
   obtain⟨hc71,hF⟩:=A.gd_some hF
   refine A.q [] [] [.n,.n] [Z.R64 (y57+1)] [(93,.int .i64 (y57+1))] hc71 ?_
   refine A.AL.done ?_
   exact A.j ⟨_,Nat.lt_succ_self _,⟨(y57+1),rfl,rfl,(Z.i64_has hc71),hF⟩⟩
  refine A.xl 3 ?_
  obtain⟨hc72,hF⟩:=A.gd_some hF
  refine A.q [] [] [.n,.n] [Z.R64 (y46+1)] [(86,.int .i64 (y46+1))] hc72 ?_
  refine A.AL.done ?_
  exact A.j ⟨_,Nat.lt_succ_self _,⟨(y46+1),rfl,rfl,(Z.i64_has hc72),hF⟩⟩
 refine A.xl 5 ?_
 refine A.q0 [3] [] [.n,.b 0 0] [(116,.pointer (some ⟨g4,0,none⟩)),(117,.agg #[.slice A0_ ((a0).length) c1_])] ?_
 refine A.nil 4236 (Z.Ty.int .i64) 3 ?_
 obtain⟨r73,hv74,hF⟩:=A.bd_some hF
 refine A.AL.call 4237 [] (first:=[]) (cap:=[]) cf100 (graph_plan_sort_ok (m5,[],[]) a0 g4 b2 none 0 b3 A0_ c1_ r73 hv74) (.m 6 (.m 4 (.m 4236 (.m 5 (.s 0 .nil))))) ?_
 rintro _ _ ⟨b75,A76,c77,b78,rfl,rfl⟩
 refine⟨by kernel_rfl,?_⟩
 refine A.mvd 4237 6 [] ?_
 refine A.mvd 4238 4 [] ?_
 refine A.mvd 4239 4236 [] ?_
 refine A.mvd 4240 5 [] ?_
 refine A.q0 [] [] [.n,.n] [(115,.bool (!r73.1))] ?_
 refine A.dx 1 ?_
 refine A.AX.cnb rfl hF (fun hb hF=>?_) (fun hb hF=>?_)
 ·refine A.xl 1 ?_
  refine A.q0 [] [] [.n,.n] [(2,.pointer none),(3,.int .i64 81)] ?_
  refine A.dx 1 ?_
  obtain rfl:=Option.some.inj hF
  exact A.rt2 [] (.inl ⟨rfl,⟨rfl,rfl,(A.hasl .i64 (81) rfl)⟩⟩)
 refine A.xl 1 ?_
 refine A.q0 [] [] [.n] [(121,.pointer (some ⟨g4,0,none⟩))] ?_
 obtain⟨r79,hv80,hF⟩:=A.bd_some hF
 refine A.AL.call 4277 [] (first:=[]) (cap:=[]) cf101 (graph_plan_depths_ok (r73.2.1,r73.2.2.1,r73.2.2.2) g4 b75 A76 c77 b78 r79 hv80) (.m 6 (.m 4 (.m 4236 (.m 5 .nil)))) ?_
 rintro _ _ ⟨b81,A82,c83,b84,rfl,rfl⟩
 refine⟨by kernel_rfl,?_⟩
 refine A.mvd 4277 6 [] ?_
 refine A.mvd 4278 4 [] ?_
 refine A.mvd 4279 4236 [] ?_
 refine A.mvd 4280 5 [] ?_
 refine A.q0 [] [] [.n,.n] [(120,.bool (!r79.1))] ?_
 refine A.dx 1 ?_
 refine A.AX.cnb rfl hF (fun hb hF=>?_) (fun hb hF=>?_)
 ·refine A.xl 1 ?_
  refine A.q0 [] [] [.n,.n] [(2,.pointer none),(3,.int .i64 80)] ?_
  refine A.dx 1 ?_
  obtain rfl:=Option.some.inj hF
  exact A.rt2 [] (.inl ⟨rfl,⟨rfl,rfl,(A.hasl .i64 (80) rfl)⟩⟩)
 refine A.xl 1 ?_
 refine A.q0 [3] [] [.n,.b 0 0] [(125,.pointer (some ⟨g4,0,none⟩)),(126,.agg #[.slice A0_ ((a0).length) c1_])] ?_
 obtain⟨r85,hv86,hF⟩:=A.bd_some hF
 refine A.AL.call 4317 [] (first:=[]) (cap:=[]) cf102 (graph_plan_turns_ok (r79.2.1,r79.2.2.1,r79.2.2.2) a0 g4 b81 A82 c83 b84 A0_ c1_ r85 hv86) (.m 6 (.m 4 (.m 4236 (.m 5 (.s 0 .nil))))) ?_
 rintro _ _ ⟨rfl,rfl⟩
 refine⟨by kernel_rfl,?_⟩
 refine A.mvd 4317 6 [] ?_
 refine A.mvd 4318 4 [] ?_
 refine A.mvd 4319 4236 [] ?_
 refine A.mvd 4320 5 [] ?_
 refine A.q0 [] [] [.n] [(124,.bool r85)] ?_
 refine A.dx 1 ?_
 refine A.AX.cnb rfl hF (fun hb hF=>?_) (fun hb hF=>?_)
 ·refine A.xl 1 ?_
  refine A.q0 [] [] [.n,.n] [(2,.pointer none),(3,.int .i64 81)] ?_
  refine A.dx 1 ?_
  obtain rfl:=Option.some.inj hF
  exact A.rt2 [] (.inl ⟨rfl,⟨rfl,rfl,(A.hasl .i64 (81) rfl)⟩⟩)
 refine A.xl 4 ?_
 refine A.q0 [] [] [.n,.n,.n] [(2,.pointer (some ⟨g4,0,none⟩)),(3,.int .i64 0)] ?_
 refine A.dx 1 ?_
 obtain rfl:=Option.some.inj hF
 exact A.rt2 [(0,6),(1,4),(2,4236),(3,5)] (.inr ⟨(r79.2.1,r79.2.2.1,r79.2.2.2),rfl,⟨g4,b81,A82,c83,b84,rfl,rfl,(A.hasl .i64 (0) rfl)⟩⟩)
end Go.Proofs.YtlbnpmfggfbdoaaGreatDoor
end
section
set_option linter.unusedVariables false
set_option linter.unusedSimpArgs false
set_option maxRecDepth 20000
set_option maxHeartbeats 8000000
set_option synthInstance.maxSize 1000000
set_option synthInstance.maxHeartbeats 400000
namespace Go.Proofs.YtlbnpmfggfbdoaaGreatDoor
open Go.RowKit
def F.graph_Spots (a0:D23):Option ((List D41)×Int):=(F.graph_whole a0).bind fun r2=>A.om r2.1 (if r2.2≠0 then(some ([],r2.2))else(none)) fun p5=>(if r2.2≠0 then(some ([],r2.2))else((F.graph_plan_spots (p5.1,p5.2.1,p5.2.2) a0).bind fun r12=>(some (r12,0))))
theorem graph_Spots_ok (a0:D23)(A0_:Option Addr)(c1_:Nat)(r:(List D41)×Int)(hF:F.graph_Spots a0=some r):
    A.Ct Tryz.prog 37 [.agg #[.slice A0_ ((a0).length) c1_]] [(0,.sh (.slice T83) [.slice A0_ (a0).length c1_] a0),(1,.el none 0 0 A.tabF),(2,.el none 1 0 A.tabA)] [] (fun v H'=>∃(A0':Option Addr) (c1':Nat),v=.tuple #[.slice A0' ((r.1).length) c1',.int .i64 r.2]∧H'=[(0,.own T41 42 A0' c1' r.1)]∧IntKind.i64.has r.2):=by
 refine A.Ct.enter Tryz.func37 rfl Tryz.ntmps37 rfl fun w0 F0=>?_
 rw[F.graph_Spots]at hF
 refine A.xl 1 ?_
 refine A.AL.box 3 (cs:=[.slice A0_ ((a0).length) c1_]) fun g1=>?_
 refine A.q0 [] [] [.n,.n] [] ?_
 refine A.dl 2 ?_
 refine A.q0 [3] [] [.b 0 0] [(7,.agg #[.slice A0_ ((a0).length) c1_])] ?_
 obtain⟨r2,hv3,hF⟩:=A.bd_some hF
 refine A.AL.call 4 [] (first:=[]) (cap:=[]) cf68 (graph_whole_ok a0 A0_ c1_ r2 hv3) (.s 0 (.s 1 (.s 2 .nil))) ?_
 rintro _ _ (⟨hp16,rfl,rfl,hr4⟩|⟨p5,hp16,g6,b7,A8,c9,b10,rfl,rfl,hr11⟩)
 ·refine⟨by kernel_rfl,?_⟩
  rw[A.om_n hp16]at hF
  refine A.q0 [] [] [.n,.n,.n,.n,.n] [(4,.pointer none),(5,.int .i64 r2.2)] ?_
  refine A.dl 3 ?_
  refine A.q0 [] [] [.n,.n] [(12,.bool (decide (r2.2≠0)))] ?_
  refine A.dx 1 ?_
  refine A.AX.cnd rfl hF (fun hb hF=>?_) (fun hb hF=>?_)
  ·refine A.xl 1 ?_
   refine A.q0 [] [] [.n,.n,.n] [(2,.slice none 0 0),(3,.int .i64 r2.2)] ?_
   refine A.dx 1 ?_
   obtain rfl:=Option.some.inj hF
   refine A.nil 44 T41 42 ?_
   exact A.rt2 [(0,44)] ⟨none,0,rfl,rfl,hr4⟩
  refine A.xl 3 ?_
  refine A.q0 [3] [] [.n,.b 0 0] [(14,.pointer none),(15,.agg #[.slice A0_ ((a0).length) c1_])] ?_
  exact A.no0 hF
 refine⟨by kernel_rfl,?_⟩
 rw[A.om_s hp16]at hF
 refine A.q0 [] [] [.n,.n,.n,.n,.n] [(4,.pointer (some ⟨g6,0,none⟩)),(5,.int .i64 r2.2)] ?_
 refine A.dl 3 ?_
 refine A.q0 [] [] [.n,.n] [(12,.bool (decide (r2.2≠0)))] ?_
 refine A.dx 1 ?_
 refine A.AX.cnd rfl hF (fun hb hF=>?_) (fun hb hF=>?_)
 ·refine A.xl 1 ?_
  refine A.q0 [] [] [.n,.n,.n] [(2,.slice none 0 0),(3,.int .i64 r2.2)] ?_
  refine A.dx 1 ?_
  obtain rfl:=Option.some.inj hF
  refine A.nil 45 T41 42 ?_
  exact A.rt2 [(0,45)] ⟨none,0,rfl,rfl,hr11⟩
 refine A.xl 3 ?_
 refine A.q0 [3] [] [.n,.b 0 0] [(14,.pointer (some ⟨g6,0,none⟩)),(15,.agg #[.slice A0_ ((a0).length) c1_])] ?_
 obtain⟨r12,hv13,hF⟩:=A.bd_some hF
 refine A.AL.call 46 [] (first:=[]) (cap:=[]) cf69 (graph_plan_spots_ok (p5.1,p5.2.1,p5.2.2) a0 g6 b7 A8 c9 b10 A0_ c1_ r12 hv13) (.m 4 (.m 5 (.m 6 (.m 7 (.s 0 .nil))))) ?_
 rintro _ _ ⟨A14,c15,rfl,rfl⟩
 refine⟨by kernel_rfl,?_⟩
 refine A.mvd 47 4 [] ?_
 refine A.mvd 48 5 [] ?_
 refine A.mvd 49 6 [] ?_
 refine A.mvd 50 7 [] ?_
 refine A.q0 [] [] [.n,.n] [(2,.slice A14 ((r12).length) c15),(3,.int .i64 0)] ?_
 refine A.dx 1 ?_
 obtain rfl:=Option.some.inj hF
 exact A.rt2 [(0,46)] ⟨A14,c15,rfl,rfl,(A.hasl .i64 (0) rfl)⟩
def F.cmp_isNaN_int (a0:Int):Option Bool:=some (decide (a0≠a0))
theorem cmp_isNaN_int_ok (a0:Int)(h0_:IntKind.i64.has a0)(r:Bool)(hF:F.cmp_isNaN_int a0=some r):
    A.Ct Tryz.prog 122 [.int .i64 a0] [] [] (fun v H'=>v=.bool r∧H'=[]):=by
 refine A.Ct.enter Tryz.func122 rfl Tryz.ntmps122 rfl fun w0 F0=>?_
 rw[F.cmp_isNaN_int]at hF
 refine A.xl 1 ?_
 refine A.q0 [] [] [.n] [] ?_
 refine A.dl 2 ?_
 refine A.q0 [] [] [.n,.n,.n,.n] [(2,.bool (decide (a0≠a0)))] ?_
 refine A.dx 1 ?_
 obtain rfl:=Option.some.inj hF
 exact A.rt1 [] ⟨rfl,rfl⟩
def F.cmp_Compare_int (a0:Int)(a1:Int):Option Int:=(F.cmp_isNaN_int a0).bind fun r1=>((F.cmp_isNaN_int a1).bind fun r3=>(if r1=true then(if r3=true then(some 0)else(some (-1)))else(if r3=true then(some 1)else(if a0<a1 then(some (-1))else(if a1<a0 then(some 1)else(some 0))))))
theorem cmp_Compare_int_ok (a0:Int)(a1:Int)(h0_:IntKind.i64.has a0)(h1_:IntKind.i64.has a1)(r:Int)(hF:F.cmp_Compare_int a0 a1=some r):
    A.Ct Tryz.prog 80 [.int .i64 a0,.int .i64 a1] [] [] (fun v H'=>v=.int .i64 r∧H'=[]∧IntKind.i64.has r):=by
 refine A.Ct.enter Tryz.func80 rfl Tryz.ntmps80 rfl fun w0 F0=>?_
 rw[F.cmp_Compare_int]at hF
 refine A.xl 1 ?_
 refine A.q0 [] [] [.n] [] ?_
 refine A.dl 2 ?_
 refine A.q0 [] [] [.n] [(7,.int .i64 a0)] ?_
 obtain⟨r1,hv2,hF⟩:=A.bd_some hF
 refine A.AL.call 0 [] (first:=[]) (cap:=[]) cf122 (cmp_isNaN_int_ok a0 h0_ r1 hv2) .nil ?_
 rintro _ _ ⟨rfl,rfl⟩
 refine⟨by kernel_rfl,?_⟩
 refine A.q0 [] [] [.n] [(5,.bool r1)] ?_
 refine A.dl 2 ?_
 refine A.q0 [] [] [.n] [(9,.int .i64 a1)] ?_
 obtain⟨r3,hv4,hF⟩:=A.bd_some hF
 refine A.AL.call 40 [] (first:=[]) (cap:=[]) cf122 (cmp_isNaN_int_ok a1 h1_ r3 hv4) .nil ?_
 rintro _ _ ⟨rfl,rfl⟩
 refine⟨by kernel_rfl,?_⟩
 refine A.q0 [] [] [.n] [(6,.bool r3)] ?_
 refine A.dl 3 ?_
 refine A.q0 [] [] [.n] [(11,.bool r1)] ?_
 refine A.dx 1 ?_
 refine A.AX.cnb rfl hF (fun hb hF=>?_) (fun hb hF=>?_)
 ·refine A.xl 2 ?_
  refine A.q0 [] [] [.n] [(12,.bool r3)] ?_
  refine A.dx 1 ?_
  refine A.AX.cnb rfl hF (fun hb hF=>?_) (fun hb hF=>?_)
  ·refine A.xl 1 ?_
   refine A.q0 [] [] [.n] [(4,.int .i64 0)] ?_
   refine A.dx 1 ?_
   obtain rfl:=Option.some.inj hF
   exact A.rt1 [] ⟨rfl,rfl,(A.hasl .i64 (0) rfl)⟩
  refine A.xl 3 ?_
  refine A.q0 [] [] [.n] [(4,.int .i64 (-1))] ?_
  refine A.dx 1 ?_
  obtain rfl:=Option.some.inj hF
  exact A.rt1 [] ⟨rfl,rfl,(A.hasl .i64 (-1) rfl)⟩
 refine A.xl 4 ?_
 refine A.q0 [] [] [.n] [(13,.bool r3)] ?_
 refine A.dx 1 ?_
 refine A.AX.cnb rfl hF (fun hb hF=>?_) (fun hb hF=>?_)
 ·refine A.xl 1 ?_
  refine A.q0 [] [] [.n] [(4,.int .i64 1)] ?_
  refine A.dx 1 ?_
  obtain rfl:=Option.some.inj hF
  exact A.rt1 [] ⟨rfl,rfl,(A.hasl .i64 (1) rfl)⟩
 refine A.xl 4 ?_
 refine A.q0 [] [] [.n,.n,.n] [(16,.bool (decide (a0<a1)))] ?_
 refine A.dx 1 ?_
 refine A.AX.cnd rfl hF (fun hb hF=>?_) (fun hb hF=>?_)
 ·refine A.xl 1 ?_
  refine A.q0 [] [] [.n] [(4,.int .i64 (-1))] ?_
  refine A.dx 1 ?_
  obtain rfl:=Option.some.inj hF
  exact A.rt1 [] ⟨rfl,rfl,(A.hasl .i64 (-1) rfl)⟩
 refine A.xl 4 ?_
 refine A.q0 [] [] [.n,.n,.n] [(19,.bool (decide (a1<a0)))] ?_
 refine A.dx 1 ?_
 refine A.AX.cnd rfl hF (fun hb hF=>?_) (fun hb hF=>?_)
 ·refine A.xl 1 ?_
  refine A.q0 [] [] [.n] [(4,.int .i64 1)] ?_
  refine A.dx 1 ?_
  obtain rfl:=Option.some.inj hF
  exact A.rt1 [] ⟨rfl,rfl,(A.hasl .i64 (1) rfl)⟩
 refine A.xl 3 ?_
 refine A.q0 [] [] [.n] [(4,.int .i64 0)] ?_
 refine A.dx 1 ?_
 obtain rfl:=Option.some.inj hF
 exact A.rt1 [] ⟨rfl,rfl,(A.hasl .i64 (0) rfl)⟩
def F.cmp_Or_int_l1 (a0:(List Int)):Nat→Int→Option Int
 |0,_=>none
 |f+1,y1=>if y1<((a0).length:Int)then((A.ix a0 y1).bind fun x4=>(if x4≠0 then(some x4)else(A.gd (Z.R64 (y1+1)) ((F.cmp_Or_int_l1 a0 f) (y1+1)))))else(some 0)
def F.cmp_Or_int (a0:(List Int)):Option Int:=F.cmp_Or_int_l1 a0 A.FU 0
theorem cmp_Or_int_ok (a0:(List Int))(A0_:Option Addr)(c1_:Nat)(r:Int)(hF:F.cmp_Or_int a0=some r):
    A.Ct Tryz.prog 44 [.slice A0_ ((a0).length) c1_] [(0,.ln (Z.Ty.int .i64) A0_ c1_ a0)] [] (fun v H'=>v=.int .i64 r∧H'=[]∧IntKind.i64.has r):=by
 refine A.Ct.enter Tryz.func44 rfl Tryz.ntmps44 rfl fun w0 F0=>?_
 rw[F.cmp_Or_int]at hF
 refine A.xl 1 ?_
 refine A.q0 [] [] [.n] [] ?_
 refine A.dl 2 ?_
 refine A.q0 [] [] [.n] [(3,.int .i64 0)] ?_
 refine A.dl 3 ?_
 refine A.q0 [] [] [.n,.n,.n] [(6,.slice A0_ ((a0).length) c1_),(7,.int .i64 ((a0).length:Int)),(8,.int .i64 0)] ?_
 refine A.dx 2 ?_
 refine A.lp_ [3,6,7] [0] (fun f nl nh=>∃(y1:Int),nl=[(8,.int .i64 y1)]∧nh=[]∧IntKind.i64.has y1∧F.cmp_Or_int_l1 a0 f y1=some r) ⟨0,rfl,rfl,(A.hasl .i64 (0) rfl),hF⟩ ?_
 rintro f3 _ _ ⟨y1,rfl,rfl,hy2,hF⟩
 rcases f3 with _|f3
 ·exact A.no0 hF
 rw[F.cmp_Or_int_l1]at hF
 refine A.xl 1 ?_
 refine A.q0 [] [] [.n] [(9,.bool (decide (y1<((a0).length:Int))))] ?_
 refine A.dx 2 ?_
 refine A.AX.cnd rfl hF (fun hb hF=>?_) (fun hb hF=>?_)
 ·refine A.xl 5 ?_
  obtain⟨x4,hv5,hF⟩:=A.bd_some hF
  refine A.AL.ixl 0 3 hv5 fun ho6=>?_
  intro b7 o8
  refine A.q0 [] [3] [.e 0 0,.n] [(5,.int .i64 x4)] ?_
  refine A.dl 2 ?_
  refine A.q0 [] [] [.n,.n,.n] [(14,.bool (decide (x4≠0)))] ?_
  refine A.dx 1 ?_
  refine A.AX.cnd rfl hF (fun hb hF=>?_) (fun hb hF=>?_)
  ·refine A.xl 1 ?_
   refine A.q0 [] [] [.n,.n] [(2,.int .i64 x4)] ?_
   refine A.dx 1 ?_
   obtain rfl:=Option.some.inj hF
   exact A.rt1 [] ⟨rfl,rfl,ho6⟩
  refine A.xl 3 ?_
  obtain⟨hc9,hF⟩:=A.gd_some hF
  refine A.q [] [] [.n,.n] [Z.R64 (y1+1)] [(8,.int .i64 (y1+1))] hc9 ?_
  refine A.AL.done ?_
  exact A.j ⟨_,Nat.lt_succ_self _,⟨(y1+1),rfl,rfl,(Z.i64_has hc9),hF⟩⟩
 refine A.xl 3 ?_
 refine A.q0 [] [] [.n,.n] [(2,.int .i64 0)] ?_
 refine A.dx 1 ?_
 obtain rfl:=Option.some.inj hF
 exact A.rt1 [] ⟨rfl,rfl,(A.hasl .i64 (0) rfl)⟩
def F.graph_place (a0:D39)(a1:D39):Option Int:=(F.cmp_Compare_int a0.1 a1.1).bind fun r3=>((F.cmp_Compare_int a0.2 a1.2).bind fun r6=>((F.cmp_Or_int [r3,r6]).bind fun r10=>(some r10)))
theorem graph_place_ok (a0:D39)(a1:D39)(h0_:IntKind.i64.has a0.1)(h1_:IntKind.i64.has a0.2)(h2_:IntKind.i64.has a1.1)(h3_:IntKind.i64.has a1.2)(r:Int)(hF:F.graph_place a0 a1=some r):
    A.Ct Tryz.prog 73 [.agg #[.int .i64 a0.1,.int .i64 a0.2],.agg #[.int .i64 a1.1,.int .i64 a1.2]] [] [] (fun v H'=>v=.int .i64 r∧H'=[]∧IntKind.i64.has r):=by
 refine A.Ct.enter Tryz.func73 rfl Tryz.ntmps73 rfl fun w0 F0=>?_
 rw[F.graph_place]at hF
 refine A.xl 1 ?_
 refine A.AL.box 0 (cs:=[.int .i64 a0.1,.int .i64 a0.2]) fun g1=>?_
 refine A.AL.box 1 (cs:=[.int .i64 a1.1,.int .i64 a1.2]) fun g2=>?_
 refine A.q0 [] [] [.n] [] ?_
 refine A.dx 2 ?_
 refine A.AX.dr mixed 13 13 (A.mb 13 0) ?_
 refine A.hq A.pb [] [0,1] [0,1] [] (A.mb 13 495) 5 [(0,.n),(2,.n),(5,.n),(7,.n),(1,.b 0 0),(3,.b 1 0),(6,.b 0 1),(8,.b 1 1)] [(6,.int .i64 a0.1),(8,.int .i64 a1.1),(11,.int .i64 a0.2),(13,.int .i64 a1.2)] ?_
 refine A.AH.one 4 ?_
 obtain⟨r3,hv4,hF⟩:=A.bd_some hF
 refine A.AL.call 2 [] (first:=[]) (cap:=[]) cf80 (cmp_Compare_int_ok a0.1 a1.1 h0_ h2_ r3 hv4) .nil ?_
 rintro _ _ ⟨rfl,rfl,hr5⟩
 refine⟨by kernel_rfl,?_⟩
 refine A.AH.nx (A.mb 13 511) [0,1] ?_
 refine A.AH.one 9 ?_
 obtain⟨r6,hv7,hF⟩:=A.bd_some hF
 refine A.AL.call 42 [] (first:=[]) (cap:=[]) cf80 (cmp_Compare_int_ok a0.2 a1.2 h1_ h3_ r6 hv7) .nil ?_
 rintro _ _ ⟨rfl,rfl,hr8⟩
 refine⟨by kernel_rfl,?_⟩
 refine A.AH.nx (A.mb 13 1023) [0,1] ?_
 refine A.AH.one 10 ?_
 refine A.AL.bsl 82 (ty:=(Z.Ty.int .i64)) (cs:=[.int .i64 r3,.int .i64 r6]) [r3,r6] ⟨⟨rfl,hr5⟩,⟨⟨rfl,hr8⟩,rfl⟩⟩ (fun g9=>?_) Tryz.zeroValue3 Tryz.sizeOf3
 refine A.AH.nx (A.mb 13 2047) [0,1] ?_
 refine A.AH.one 11 ?_
 obtain⟨r10,hv11,hF⟩:=A.bd_some hF
 refine A.AL.call 83 [] (first:=[]) (cap:=[]) cf44 (cmp_Or_int_ok [r3,r6] (some ⟨g9,0,none⟩) 2 r10 hv11) (.o 82 .nil) ?_
 rintro _ _ ⟨rfl,rfl,hr12⟩
 refine⟨by kernel_rfl,?_⟩
 refine A.AH.nx (A.mb 13 4095) [0,1] ?_
 refine A.hq A.pb [0,1] [0,1,82] [] [] (A.mb 13 8191) 0 [(12,.n)] [(4,.int .i64 r10)] ?_
 refine A.AH.done ?_
 refine A.ex 1 ?_
 obtain rfl:=Option.some.inj hF
 exact A.rt1 [] ⟨rfl,rfl,hr12⟩
def F.graph_Edges_1 (a0:D53)(a1:D53):Option Int:=(F.graph_place (a0.1.1,a0.1.2) (a1.1.1,a1.1.2)).bind fun r3=>((F.graph_place (a0.2.1.1,a0.2.1.2) (a1.2.1.1,a1.2.1.2)).bind fun r6=>((F.cmp_Or_int [r3,r6]).bind fun r10=>(some r10)))
theorem graph_Edges_1_ok (a0:D53)(a1:D53)(h0_:IntKind.i64.has a0.1.1)(h1_:IntKind.i64.has a0.1.2)(h2_:IntKind.i64.has a0.2.1.1)(h3_:IntKind.i64.has a0.2.1.2)(h4_:IntKind.i64.has a0.2.2.1)(h5_:IntKind.i64.has a0.2.2.2.1)(h6_:IntKind.i64.has a0.2.2.2.2.1)(h7_:IntKind.i64.has a0.2.2.2.2.2.1)(h8_:IntKind.i64.has a0.2.2.2.2.2.2.1)(h9_:IntKind.i64.has a0.2.2.2.2.2.2.2.1)(h10_:IntKind.i64.has a0.2.2.2.2.2.2.2.2.1)(h11_:IntKind.i64.has a0.2.2.2.2.2.2.2.2.2)(h12_:IntKind.i64.has a1.1.1)(h13_:IntKind.i64.has a1.1.2)(h14_:IntKind.i64.has a1.2.1.1)(h15_:IntKind.i64.has a1.2.1.2)(h16_:IntKind.i64.has a1.2.2.1)(h17_:IntKind.i64.has a1.2.2.2.1)(h18_:IntKind.i64.has a1.2.2.2.2.1)(h19_:IntKind.i64.has a1.2.2.2.2.2.1)(h20_:IntKind.i64.has a1.2.2.2.2.2.2.1)(h21_:IntKind.i64.has a1.2.2.2.2.2.2.2.1)(h22_:IntKind.i64.has a1.2.2.2.2.2.2.2.2.1)(h23_:IntKind.i64.has a1.2.2.2.2.2.2.2.2.2)(r:Int)(hF:F.graph_Edges_1 a0 a1=some r):
    A.Ct Tryz.prog 72 [.agg #[.int .i64 a0.1.1,.int .i64 a0.1.2,.int .i64 a0.2.1.1,.int .i64 a0.2.1.2,.int .i64 a0.2.2.1,.int .i64 a0.2.2.2.1,.int .i64 a0.2.2.2.2.1,.int .i64 a0.2.2.2.2.2.1,.int .i64 a0.2.2.2.2.2.2.1,.int .i64 a0.2.2.2.2.2.2.2.1,.int .i64 a0.2.2.2.2.2.2.2.2.1,.int .i64 a0.2.2.2.2.2.2.2.2.2],.agg #[.int .i64 a1.1.1,.int .i64 a1.1.2,.int .i64 a1.2.1.1,.int .i64 a1.2.1.2,.int .i64 a1.2.2.1,.int .i64 a1.2.2.2.1,.int .i64 a1.2.2.2.2.1,.int .i64 a1.2.2.2.2.2.1,.int .i64 a1.2.2.2.2.2.2.1,.int .i64 a1.2.2.2.2.2.2.2.1,.int .i64 a1.2.2.2.2.2.2.2.2.1,.int .i64 a1.2.2.2.2.2.2.2.2.2]] [] [] (fun v H'=>v=.int .i64 r∧H'=[]∧IntKind.i64.has r):=by
 refine A.Ct.enter Tryz.func72 rfl Tryz.ntmps72 rfl fun w0 F0=>?_
 rw[F.graph_Edges_1]at hF
 refine A.xl 1 ?_
 refine A.AL.box 0 (cs:=[.int .i64 a0.1.1,.int .i64 a0.1.2,.int .i64 a0.2.1.1,.int .i64 a0.2.1.2,.int .i64 a0.2.2.1,.int .i64 a0.2.2.2.1,.int .i64 a0.2.2.2.2.1,.int .i64 a0.2.2.2.2.2.1,.int .i64 a0.2.2.2.2.2.2.1,.int .i64 a0.2.2.2.2.2.2.2.1,.int .i64 a0.2.2.2.2.2.2.2.2.1,.int .i64 a0.2.2.2.2.2.2.2.2.2]) fun g1=>?_
 refine A.AL.box 1 (cs:=[.int .i64 a1.1.1,.int .i64 a1.1.2,.int .i64 a1.2.1.1,.int .i64 a1.2.1.2,.int .i64 a1.2.2.1,.int .i64 a1.2.2.2.1,.int .i64 a1.2.2.2.2.1,.int .i64 a1.2.2.2.2.2.1,.int .i64 a1.2.2.2.2.2.2.1,.int .i64 a1.2.2.2.2.2.2.2.1,.int .i64 a1.2.2.2.2.2.2.2.2.1,.int .i64 a1.2.2.2.2.2.2.2.2.2]) fun g2=>?_
 refine A.q0 [] [] [.n] [] ?_
 refine A.dx 2 ?_
 refine A.AX.dr mixed 13 13 (A.mb 13 0) ?_
 refine A.hq A.pb [] [0,1] [0,1] [] (A.mb 13 495) 5 [(0,.n),(2,.n),(5,.n),(7,.n),(1,.b 0 0),(3,.b 1 0),(6,.b 0 2),(8,.b 1 2)] [(6,.agg #[.int .i64 a0.1.1,.int .i64 a0.1.2]),(8,.agg #[.int .i64 a1.1.1,.int .i64 a1.1.2]),(11,.agg #[.int .i64 a0.2.1.1,.int .i64 a0.2.1.2]),(13,.agg #[.int .i64 a1.2.1.1,.int .i64 a1.2.1.2])] ?_
 refine A.AH.one 4 ?_
 obtain⟨r3,hv4,hF⟩:=A.bd_some hF
 refine A.AL.call 2 [] (first:=[]) (cap:=[]) cf73 (graph_place_ok (a0.1.1,a0.1.2) (a1.1.1,a1.1.2) h0_ h1_ h12_ h13_ r3 hv4) .nil ?_
 rintro _ _ ⟨rfl,rfl,hr5⟩
 refine⟨by kernel_rfl,?_⟩
 refine A.AH.nx (A.mb 13 511) [0,1] ?_
 refine A.AH.one 9 ?_
 obtain⟨r6,hv7,hF⟩:=A.bd_some hF
 refine A.AL.call 42 [] (first:=[]) (cap:=[]) cf73 (graph_place_ok (a0.2.1.1,a0.2.1.2) (a1.2.1.1,a1.2.1.2) h2_ h3_ h14_ h15_ r6 hv7) .nil ?_
 rintro _ _ ⟨rfl,rfl,hr8⟩
 refine⟨by kernel_rfl,?_⟩
 refine A.AH.nx (A.mb 13 1023) [0,1] ?_
 refine A.AH.one 10 ?_
 refine A.AL.bsl 82 (ty:=(Z.Ty.int .i64)) (cs:=[.int .i64 r3,.int .i64 r6]) [r3,r6] ⟨⟨rfl,hr5⟩,⟨⟨rfl,hr8⟩,rfl⟩⟩ (fun g9=>?_) Tryz.zeroValue3 Tryz.sizeOf3
 refine A.AH.nx (A.mb 13 2047) [0,1] ?_
 refine A.AH.one 11 ?_
 obtain⟨r10,hv11,hF⟩:=A.bd_some hF
 refine A.AL.call 83 [] (first:=[]) (cap:=[]) cf44 (cmp_Or_int_ok [r3,r6] (some ⟨g9,0,none⟩) 2 r10 hv11) (.o 82 .nil) ?_
 rintro _ _ ⟨rfl,rfl,hr12⟩
 refine⟨by kernel_rfl,?_⟩
 refine A.AH.nx (A.mb 13 4095) [0,1] ?_
 refine A.hq A.pb [0,1] [0,1,82] [] [] (A.mb 13 8191) 0 [(12,.n)] [(4,.int .i64 r10)] ?_
 refine A.AH.done ?_
 refine A.ex 1 ?_
 obtain rfl:=Option.some.inj hF
 exact A.rt1 [] ⟨rfl,rfl,hr12⟩
end Go.Proofs.YtlbnpmfggfbdoaaGreatDoor
end
section
set_option linter.unusedVariables false
set_option linter.unusedSimpArgs false
set_option maxRecDepth 20000
set_option maxHeartbeats 8000000
set_option synthInstance.maxSize 1000000
set_option synthInstance.maxHeartbeats 400000
namespace Go.Proofs.YtlbnpmfggfbdoaaGreatDoor
open Go.RowKit
def F.slices_insertionSortCmpFunc_api_Edge_graph_Edges_1_j1 (k3:Int→Option Unit)(a0:(List D53))(y2:Int)(y6:Bool):Option Unit:=if y6=true then(A.gd (Z.R64 (y2-1)∧Z.R64 (y2-1)) ((A.ix a0 (y2-1)).bind fun x9=>((A.ix a0 y2).bind fun x15=>((A.ix a0 y2).bind fun x21=>(none)))))else(A.gd (Z.R64 (y2+1)) (k3 (y2+1)))
def F.slices_insertionSortCmpFunc_api_Edge_graph_Edges_1_l2 (k3:Int→Option Unit)(a0:(List D53))(a1:Int)(y2:Int):Nat→Option Unit
 |0=>none
 |f+1=>if a1<y2 then(A.gd (Z.R64 (y2-1)) ((A.ix a0 y2).bind fun x29=>((A.ix a0 (y2-1)).bind fun x35=>((F.graph_Edges_1 ((x29.1.1,x29.1.2),(x29.2.1.1,x29.2.1.2),(x29.2.2.1,x29.2.2.2.1,x29.2.2.2.2.1,x29.2.2.2.2.2.1,(x29.2.2.2.2.2.2.1,x29.2.2.2.2.2.2.2.1,x29.2.2.2.2.2.2.2.2.1,x29.2.2.2.2.2.2.2.2.2))) ((x35.1.1,x35.1.2),(x35.2.1.1,x35.2.1.2),(x35.2.2.1,x35.2.2.2.1,x35.2.2.2.2.1,x35.2.2.2.2.2.1,(x35.2.2.2.2.2.2.1,x35.2.2.2.2.2.2.2.1,x35.2.2.2.2.2.2.2.2.1,x35.2.2.2.2.2.2.2.2.2)))).bind fun r41=>(F.slices_insertionSortCmpFunc_api_Edge_graph_Edges_1_j1 k3 a0 y2 (decide (r41<0)))))))else(F.slices_insertionSortCmpFunc_api_Edge_graph_Edges_1_j1 k3 a0 y2 false)
def F.slices_insertionSortCmpFunc_api_Edge_graph_Edges_1_l3 (a0:(List D53))(a1:Int)(a2:Int):Nat→Int→Option Unit
 |0,_=>none
 |f+1,y2=>if y2<a2 then(F.slices_insertionSortCmpFunc_api_Edge_graph_Edges_1_l2 (F.slices_insertionSortCmpFunc_api_Edge_graph_Edges_1_l3 a0 a1 a2 f) a0 a1 y2 A.FU)else(some ())
def F.slices_insertionSortCmpFunc_api_Edge_graph_Edges_1 (a0:(List D53))(a1:Int)(a2:Int):Option Unit:=A.gd (Z.R64 (a1+1)) (F.slices_insertionSortCmpFunc_api_Edge_graph_Edges_1_l3 a0 a1 a2 A.FU (a1+1))
theorem slices_insertionSortCmpFunc_api_Edge_graph_Edges_1_ok (a0:(List D53))(a1:Int)(a2:Int)(A0_:Option Addr)(c1_:Nat)(h2_:IntKind.i64.has a1)(h3_:IntKind.i64.has a2)(r:Unit)(hF:F.slices_insertionSortCmpFunc_api_Edge_graph_Edges_1 a0 a1 a2=some r):
    A.Ct Tryz.prog 146 [.slice A0_ ((a0).length) c1_,.int .i64 a1,.int .i64 a2,.func (.func 72) #[] #[]] [(0,.ln T53 A0_ c1_ a0)] [] (fun v H'=>v=.tuple #[]∧H'=[]):=by
 refine A.Ct.enter Tryz.func146 rfl Tryz.ntmps146 rfl fun w0 F0=>?_
 rw[F.slices_insertionSortCmpFunc_api_Edge_graph_Edges_1]at hF
 refine A.xl 1 ?_
 obtain⟨hc1,hF⟩:=A.gd_some hF
 refine A.q [] [] [.n,.n,.n] [Z.R64 (a1+1)] [(8,.int .i64 (a1+1))] hc1 ?_
 refine A.dx 2 ?_
 refine A.lp_ [0,1,2,3] [0] (fun f nl nh=>∃(y2:Int),nl=[(8,.int .i64 y2)]∧nh=[]∧IntKind.i64.has y2∧F.slices_insertionSortCmpFunc_api_Edge_graph_Edges_1_l3 a0 a1 a2 f y2=some r) ⟨(a1+1),rfl,rfl,(Z.i64_has hc1),hF⟩ ?_
 rintro f4 _ _ ⟨y2,rfl,rfl,hy3,hF⟩
 rcases f4 with _|f4
 ·exact A.no0 hF
 rw[F.slices_insertionSortCmpFunc_api_Edge_graph_Edges_1_l3]at hF
 refine A.xl 2 ?_
 refine A.q0 [] [] [.n,.n,.n] [(14,.bool (decide (y2<a2)))] ?_
 refine A.dx 1 ?_
 refine A.AX.cnd rfl hF (fun hb hF=>?_) (fun hb hF=>?_)
 ·refine A.xl 5 ?_
  refine A.q0 [] [] [.n,.n] [(9,.int .i64 y2)] ?_
  refine A.dx 2 ?_
  refine A.lp_ [0,1,2,3,8,9] [0] (fun f nl nh=>nl=[]∧nh=[]∧F.slices_insertionSortCmpFunc_api_Edge_graph_Edges_1_l2 (F.slices_insertionSortCmpFunc_api_Edge_graph_Edges_1_l3 a0 a1 a2 f4) a0 a1 y2 f=some r) ⟨rfl,rfl,hF⟩ ?_
  rintro f5 _ _ ⟨rfl,rfl,hF⟩
  rcases f5 with _|f5
  ·exact A.no0 hF
  rw[F.slices_insertionSortCmpFunc_api_Edge_graph_Edges_1_l2]at hF
  refine A.xx 1 ?_
  refine A.AX.join [0,1,2,3,8,9] [0] (fun nl nh=>∃(y6:Bool),nl=[(34,.bool y6)]∧nh=[]∧F.slices_insertionSortCmpFunc_api_Edge_graph_Edges_1_j1 (F.slices_insertionSortCmpFunc_api_Edge_graph_Edges_1_l3 a0 a1 a2 f4) a0 y2 y6=some r) ?_ ?_
  ·refine A.AX.dr mixed 17 17 (A.mb 17 0) ?_
   refine A.hq A.pb [] [0] [] [] (A.mb 17 15) 13 [(0,.n),(1,.n),(2,.n),(3,.n)] [(21,.bool (decide (a1<y2)))] ?_
   refine A.AH.cnp (j:=21) rfl hF (fun hb hF=>?_) (fun hb hF=>?_)
   ·obtain⟨hc28,hF⟩:=A.gd_some hF
    refine A.AH.q A.pb [0] [0] [] [] (A.mb 17 3711) 7 [(4,.on .n),(5,.on .n),(6,.on .n),(9,.on .n),(10,.on .n),(11,.on .n)] [22,23,24,27,29] [Z.R64 (y2-1)] [(22,.func (.func 72) #[] #[]),(23,.slice A0_ ((a0).length) c1_),(24,.int .i64 y2),(27,.slice A0_ ((a0).length) c1_),(29,.int .i64 (y2-1))] hc28 ?_
    obtain⟨x29,hv30,hF⟩:=A.bd_some hF
    refine A.AH.pkl 0 226 hv30 fun ho31=>?_
    intro b33 o34 hA32
    refine A.AH.vg A.pb [0] [0,226] 7 (A.mb 17 3839) (dj:=21) rfl (fun a w hf hh=>A.r_ixa (t:=T53) hv30 hA32 hf) ?_
    refine A.hq A.pb [0,226] [0,226] [] [226] (A.mb 17 4095) 5 [(8,.on (.e 0 0))] [(26,.agg #[.int .i64 x29.1.1,.int .i64 x29.1.2,.int .i64 x29.2.1.1,.int .i64 x29.2.1.2,.int .i64 x29.2.2.1,.int .i64 x29.2.2.2.1,.int .i64 x29.2.2.2.2.1,.int .i64 x29.2.2.2.2.2.1,.int .i64 x29.2.2.2.2.2.2.1,.int .i64 x29.2.2.2.2.2.2.2.1,.int .i64 x29.2.2.2.2.2.2.2.2.1,.int .i64 x29.2.2.2.2.2.2.2.2.2])] ?_
    obtain⟨x35,hv36,hF⟩:=A.bd_some hF
    refine A.AH.pkl 0 227 hv36 fun ho37=>?_
    intro b39 o40 hA38
    refine A.AH.vg A.pb [0,226] [0,226,227] 12 (A.mb 17 8191) (dj:=21) rfl (fun a w hf hh=>A.r_ixa (t:=T53) hv36 hA38 hf) ?_
    refine A.hq A.pb [0,226,227] [0,226,227] [] [227] (A.mb 17 16383) 3 [(13,.on (.e 0 0))] [(31,.agg #[.int .i64 x35.1.1,.int .i64 x35.1.2,.int .i64 x35.2.1.1,.int .i64 x35.2.1.2,.int .i64 x35.2.2.1,.int .i64 x35.2.2.2.1,.int .i64 x35.2.2.2.2.1,.int .i64 x35.2.2.2.2.2.1,.int .i64 x35.2.2.2.2.2.2.1,.int .i64 x35.2.2.2.2.2.2.2.1,.int .i64 x35.2.2.2.2.2.2.2.2.1,.int .i64 x35.2.2.2.2.2.2.2.2.2])] ?_
    refine A.AH.one 14 ?_
    refine A.AL.on (dj:=21) rfl rfl ?_
    obtain⟨r41,hv42,hF⟩:=A.bd_some hF
    refine A.AL.call 228 [] (first:=[]) (cap:=[]) cf72 (graph_Edges_1_ok ((x29.1.1,x29.1.2),(x29.2.1.1,x29.2.1.2),(x29.2.2.1,x29.2.2.2.1,x29.2.2.2.2.1,x29.2.2.2.2.2.1,(x29.2.2.2.2.2.2.1,x29.2.2.2.2.2.2.2.1,x29.2.2.2.2.2.2.2.2.1,x29.2.2.2.2.2.2.2.2.2))) ((x35.1.1,x35.1.2),(x35.2.1.1,x35.2.1.2),(x35.2.2.1,x35.2.2.2.1,x35.2.2.2.2.1,x35.2.2.2.2.2.1,(x35.2.2.2.2.2.2.1,x35.2.2.2.2.2.2.2.1,x35.2.2.2.2.2.2.2.2.1,x35.2.2.2.2.2.2.2.2.2))) ho31.1.1 ho31.1.2 ho31.2.1.1 ho31.2.1.2 ho31.2.2.1 ho31.2.2.2.1 ho31.2.2.2.2.1 ho31.2.2.2.2.2.1 ho31.2.2.2.2.2.2.1 ho31.2.2.2.2.2.2.2.1 ho31.2.2.2.2.2.2.2.2.1 ho31.2.2.2.2.2.2.2.2.2 ho37.1.1 ho37.1.2 ho37.2.1.1 ho37.2.1.2 ho37.2.2.1 ho37.2.2.2.1 ho37.2.2.2.2.1 ho37.2.2.2.2.2.1 ho37.2.2.2.2.2.2.1 ho37.2.2.2.2.2.2.2.1 ho37.2.2.2.2.2.2.2.2.1 ho37.2.2.2.2.2.2.2.2.2 r41 hv42) .nil ?_
    rintro _ _ ⟨rfl,rfl,hr43⟩
    refine⟨by kernel_rfl,?_⟩
    refine A.AH.nx (A.mb 17 32767) [0,226,227] ?_
    refine A.hq A.pb [0,226,227] [0,226,227] [] [] (A.mb 17 131071) 0 [(15,.on .n),(16,.n)] [(34,.bool (decide (r41<0)))] ?_
    refine A.AH.done ?_
    exact A.j ⟨(decide (r41<0)),rfl,rfl,hF⟩
   refine A.hq A.pb [0] [0] [] [] (A.mb 17 131071) 0 [(4,.off),(5,.off),(6,.off),(9,.off),(10,.off),(7,.off),(11,.off),(8,.off),(12,.off),(13,.off),(14,.off),(15,.off),(16,.n)] [(34,.bool false)] ?_
   refine A.AH.done ?_
   exact A.j ⟨false,rfl,rfl,hF⟩
  rintro _ _ ⟨y6,rfl,rfl,hF⟩
  rw[F.slices_insertionSortCmpFunc_api_Edge_graph_Edges_1_j1]at hF
  refine A.AX.cnb rfl hF (fun hb hF=>?_) (fun hb hF=>?_)
  ·refine A.xx 4 ?_
   refine A.AX.dr mixed 17 18 (A.mb 18 0) ?_
   obtain⟨hc8,hF⟩:=A.gd_some hF
   refine A.AH.q A.pb [] [] [] [] (A.mb 18 3327) 8 [(0,.n),(1,.n),(2,.n),(3,.n),(5,.n),(6,.n),(10,.n),(11,.n),(4,.n),(7,.n)] [37,38,39,42,47,48,41,44] [Z.R64 (y2-1),Z.R64 (y2-1)] [(37,.slice A0_ ((a0).length) c1_),(38,.int .i64 y2),(39,.slice A0_ ((a0).length) c1_),(42,.slice A0_ ((a0).length) c1_),(47,.slice A0_ ((a0).length) c1_),(48,.int .i64 y2),(41,.int .i64 (y2-1)),(44,.int .i64 (y2-1))] hc8 ?_
   obtain⟨x9,hv10,hF⟩:=A.bd_some hF
   refine A.AH.pkl 0 268 hv10 fun ho11=>?_
   intro b13 o14 hA12
   refine A.AH.v A.pb [] [268] 8 (A.mb 18 3583) rfl (fun a w hf hh=>A.r_ixa (t:=T53) hv10 hA12 hf) ?_
   refine A.hq A.pb [268] [268] [] [268] (A.mb 18 4095) 6 [(9,.e 0 0)] [(46,.agg #[.int .i64 x9.1.1,.int .i64 x9.1.2,.int .i64 x9.2.1.1,.int .i64 x9.2.1.2,.int .i64 x9.2.2.1,.int .i64 x9.2.2.2.1,.int .i64 x9.2.2.2.2.1,.int .i64 x9.2.2.2.2.2.1,.int .i64 x9.2.2.2.2.2.2.1,.int .i64 x9.2.2.2.2.2.2.2.1,.int .i64 x9.2.2.2.2.2.2.2.2.1,.int .i64 x9.2.2.2.2.2.2.2.2.2])] ?_
   obtain⟨x15,hv16,hF⟩:=A.bd_some hF
   refine A.AH.pkl 0 269 hv16 fun ho17=>?_
   intro b19 o20 hA18
   refine A.AH.v A.pb [268] [268,269] 12 (A.mb 18 8191) rfl (fun a w hf hh=>A.r_ixa (t:=T53) hv16 hA18 hf) ?_
   refine A.hq A.pb [268,269] [268,269] [] [269] (A.mb 18 16383) 4 [(13,.e 0 0)] [(50,.agg #[.int .i64 x15.1.1,.int .i64 x15.1.2,.int .i64 x15.2.1.1,.int .i64 x15.2.1.2,.int .i64 x15.2.2.1,.int .i64 x15.2.2.2.1,.int .i64 x15.2.2.2.2.1,.int .i64 x15.2.2.2.2.2.1,.int .i64 x15.2.2.2.2.2.2.1,.int .i64 x15.2.2.2.2.2.2.2.1,.int .i64 x15.2.2.2.2.2.2.2.2.1,.int .i64 x15.2.2.2.2.2.2.2.2.2])] ?_
   obtain⟨x21,hv22,hF⟩:=A.bd_some hF
   refine A.AH.pkl 0 270 hv22 fun ho23=>?_
   intro b25 o26 hA24
   refine A.AH.v A.pb [268,269] [0,268,269] 14 (A.mb 18 32767) rfl (fun a w hf hh=>A.r_ixa (t:=T53) hv22 hA24 hf) ?_
   refine A.AH.one 15 ?_
   exact A.no0 hF
  refine A.xl 3 ?_
  obtain⟨hc27,hF⟩:=A.gd_some hF
  refine A.q [] [] [.n,.n,.n] [Z.R64 (y2+1)] [(8,.int .i64 (y2+1))] hc27 ?_
  refine A.AL.done ?_
  exact A.j ⟨_,Nat.lt_succ_self _,⟨(y2+1),rfl,rfl,(Z.i64_has hc27),hF⟩⟩
 refine A.xe 1 ?_
 obtain rfl:=Option.some.inj hF
 exact A.AE.ret [] (.tuple #[]) (fun a w hf hh=>Z.res0 rfl w) (⟨rfl,rfl⟩)
def F.slices_symMergeCmpFunc_api_Edge_graph_Edges_1_l1 (a0:(List D53))(a1:Int)(y2:Int):Nat→Option Unit
 |0=>none
 |f+1=>A.gd (Z.R64 (y2-1)) (if a1<y2-1 then(A.gd (Z.R64 (a1+1)∧Z.R64 (a1+1)) ((A.ix a0 (a1+1)).bind fun x28=>((A.ix a0 a1).bind fun x34=>((A.ix a0 a1).bind fun x40=>(none)))))else(some ()))
def F.slices_symMergeCmpFunc_api_Edge_graph_Edges_1_l2 (a0:(List D53))(a1:Int):Nat→Int→Int→Option Unit
 |0,_,_=>none
 |f+1,y2,y4=>if y2<y4 then(A.gd (Z.R64 (y2+y4)∧(0≤(1:Int)∧(1:Int)≤64)∧Z.R64 ((IntKind.u64.wrap (y2+y4)) / 2^((1:Int)).toNat)) ((A.ix a0 ((IntKind.u64.wrap (y2+y4)) / 2^((1:Int)).toNat)).bind fun x8=>((A.ix a0 a1).bind fun x14=>((F.graph_Edges_1 ((x8.1.1,x8.1.2),(x8.2.1.1,x8.2.1.2),(x8.2.2.1,x8.2.2.2.1,x8.2.2.2.2.1,x8.2.2.2.2.2.1,(x8.2.2.2.2.2.2.1,x8.2.2.2.2.2.2.2.1,x8.2.2.2.2.2.2.2.2.1,x8.2.2.2.2.2.2.2.2.2))) ((x14.1.1,x14.1.2),(x14.2.1.1,x14.2.1.2),(x14.2.2.1,x14.2.2.2.1,x14.2.2.2.2.1,x14.2.2.2.2.2.1,(x14.2.2.2.2.2.2.1,x14.2.2.2.2.2.2.2.1,x14.2.2.2.2.2.2.2.2.1,x14.2.2.2.2.2.2.2.2.2)))).bind fun r20=>(if r20<0 then(A.gd (Z.R64 (((IntKind.u64.wrap (y2+y4)) / 2^((1:Int)).toNat)+1)) ((F.slices_symMergeCmpFunc_api_Edge_graph_Edges_1_l2 a0 a1 f) (((IntKind.u64.wrap (y2+y4)) / 2^((1:Int)).toNat)+1) y4))else((F.slices_symMergeCmpFunc_api_Edge_graph_Edges_1_l2 a0 a1 f) y2 ((IntKind.u64.wrap (y2+y4)) / 2^((1:Int)).toNat)))))))else(F.slices_symMergeCmpFunc_api_Edge_graph_Edges_1_l1 a0 a1 y2 A.FU)
def F.slices_symMergeCmpFunc_api_Edge_graph_Edges_1_l3 (a0:(List D53))(a2:Int)(y47:Int):Nat→Option Unit
 |0=>none
 |f+1=>if y47<a2 then(A.gd (Z.R64 (a2-1)∧Z.R64 (a2-1)) ((A.ix a0 (a2-1)).bind fun x72=>((A.ix a0 a2).bind fun x78=>((A.ix a0 a2).bind fun x84=>(none)))))else(some ())
def F.slices_symMergeCmpFunc_api_Edge_graph_Edges_1_l4 (a0:(List D53))(a2:Int):Nat→Int→Int→Option Unit
 |0,_,_=>none
 |f+1,y47,y49=>if y47<y49 then(A.gd (Z.R64 (y47+y49)∧(0≤(1:Int)∧(1:Int)≤64)∧Z.R64 ((IntKind.u64.wrap (y47+y49)) / 2^((1:Int)).toNat)) ((A.ix a0 a2).bind fun x53=>((A.ix a0 ((IntKind.u64.wrap (y47+y49)) / 2^((1:Int)).toNat)).bind fun x59=>((F.graph_Edges_1 ((x53.1.1,x53.1.2),(x53.2.1.1,x53.2.1.2),(x53.2.2.1,x53.2.2.2.1,x53.2.2.2.2.1,x53.2.2.2.2.2.1,(x53.2.2.2.2.2.2.1,x53.2.2.2.2.2.2.2.1,x53.2.2.2.2.2.2.2.2.1,x53.2.2.2.2.2.2.2.2.2))) ((x59.1.1,x59.1.2),(x59.2.1.1,x59.2.1.2),(x59.2.2.1,x59.2.2.2.1,x59.2.2.2.2.1,x59.2.2.2.2.2.1,(x59.2.2.2.2.2.2.1,x59.2.2.2.2.2.2.2.1,x59.2.2.2.2.2.2.2.2.1,x59.2.2.2.2.2.2.2.2.2)))).bind fun r65=>(if(!(decide (r65<0)))=true then(A.gd (Z.R64 (((IntKind.u64.wrap (y47+y49)) / 2^((1:Int)).toNat)+1)) ((F.slices_symMergeCmpFunc_api_Edge_graph_Edges_1_l4 a0 a2 f) (((IntKind.u64.wrap (y47+y49)) / 2^((1:Int)).toNat)+1) y49))else((F.slices_symMergeCmpFunc_api_Edge_graph_Edges_1_l4 a0 a2 f) y47 ((IntKind.u64.wrap (y47+y49)) / 2^((1:Int)).toNat)))))))else(F.slices_symMergeCmpFunc_api_Edge_graph_Edges_1_l3 a0 a2 y47 A.FU)
def F.slices_symMergeCmpFunc_api_Edge_graph_Edges_1_j5 (a0:(List D53))(a1:Int)(a2:Int)(a3:Int)(rc:(List D53)→Int→Int→Int→Option Unit)(y97:Int):Option Unit:=if(bif decide ((IntKind.u64.wrap (a1+a3)) / 2^((1:Int)).toNat <(((IntKind.u64.wrap (a1+a3)) / 2^((1:Int)).toNat)+a2)-y97)then decide ((((IntKind.u64.wrap (a1+a3)) / 2^((1:Int)).toNat)+a2)-y97<a3)else false)=true then((rc a0 ((IntKind.u64.wrap (a1+a3)) / 2^((1:Int)).toNat) ((((IntKind.u64.wrap (a1+a3)) / 2^((1:Int)).toNat)+a2)-y97) a3).bind fun r121=>(some ()))else(some ())
def F.slices_symMergeCmpFunc_api_Edge_graph_Edges_1_l6 (a0:(List D53))(a1:Int)(a2:Int)(a3:Int)(rc:(List D53)→Int→Int→Int→Option Unit):Nat→Int→Int→Option Unit
 |0,_,_=>none
 |f+1,y97,y99=>if y97<y99 then(A.gd (Z.R64 (y97+y99)∧(0≤(1:Int)∧(1:Int)≤64)∧Z.R64 ((IntKind.u64.wrap (y97+y99)) / 2^((1:Int)).toNat)) (A.gd (Z.R64 (((((IntKind.u64.wrap (a1+a3)) / 2^((1:Int)).toNat)+a2)-1)-((IntKind.u64.wrap (y97+y99)) / 2^((1:Int)).toNat))) ((A.ix a0 (((((IntKind.u64.wrap (a1+a3)) / 2^((1:Int)).toNat)+a2)-1)-((IntKind.u64.wrap (y97+y99)) / 2^((1:Int)).toNat))).bind fun x104=>((A.ix a0 ((IntKind.u64.wrap (y97+y99)) / 2^((1:Int)).toNat)).bind fun x110=>((F.graph_Edges_1 ((x104.1.1,x104.1.2),(x104.2.1.1,x104.2.1.2),(x104.2.2.1,x104.2.2.2.1,x104.2.2.2.2.1,x104.2.2.2.2.2.1,(x104.2.2.2.2.2.2.1,x104.2.2.2.2.2.2.2.1,x104.2.2.2.2.2.2.2.2.1,x104.2.2.2.2.2.2.2.2.2))) ((x110.1.1,x110.1.2),(x110.2.1.1,x110.2.1.2),(x110.2.2.1,x110.2.2.2.1,x110.2.2.2.2.1,x110.2.2.2.2.2.1,(x110.2.2.2.2.2.2.1,x110.2.2.2.2.2.2.2.1,x110.2.2.2.2.2.2.2.2.1,x110.2.2.2.2.2.2.2.2.2)))).bind fun r116=>(if(!(decide (r116<0)))=true then(A.gd (Z.R64 (((IntKind.u64.wrap (y97+y99)) / 2^((1:Int)).toNat)+1)) ((F.slices_symMergeCmpFunc_api_Edge_graph_Edges_1_l6 a0 a1 a2 a3 rc f) (((IntKind.u64.wrap (y97+y99)) / 2^((1:Int)).toNat)+1) y99))else((F.slices_symMergeCmpFunc_api_Edge_graph_Edges_1_l6 a0 a1 a2 a3 rc f) y97 ((IntKind.u64.wrap (y97+y99)) / 2^((1:Int)).toNat))))))))else(A.gd (Z.R64 ((((IntKind.u64.wrap (a1+a3)) / 2^((1:Int)).toNat)+a2)-y97)) (if(bif decide (y97<a2)then decide (a2<(((IntKind.u64.wrap (a1+a3)) / 2^((1:Int)).toNat)+a2)-y97)else false)=true then(none)else(if(bif decide (a1<y97)then decide (y97<(IntKind.u64.wrap (a1+a3)) / 2^((1:Int)).toNat)else false)=true then((rc a0 a1 y97 ((IntKind.u64.wrap (a1+a3)) / 2^((1:Int)).toNat)).bind fun r123=>(F.slices_symMergeCmpFunc_api_Edge_graph_Edges_1_j5 a0 a1 a2 a3 rc y97))else(F.slices_symMergeCmpFunc_api_Edge_graph_Edges_1_j5 a0 a1 a2 a3 rc y97))))
def F.slices_symMergeCmpFunc_api_Edge_graph_Edges_1_j7 (a0:(List D53))(a1:Int)(a2:Int)(a3:Int)(rc:(List D53)→Int→Int→Int→Option Unit)(y92:Int)(y94:Int):Option Unit:=A.gd (Z.R64 ((((IntKind.u64.wrap (a1+a3)) / 2^((1:Int)).toNat)+a2)-1)) (F.slices_symMergeCmpFunc_api_Edge_graph_Edges_1_l6 a0 a1 a2 a3 rc A.FU y92 y94)
def F.slices_symMergeCmpFunc_api_Edge_graph_Edges_1 (rc:(List D53)→Int→Int→Int→Option Unit)(a0:(List D53))(a1:Int)(a2:Int)(a3:Int):Option Unit:=A.gd (Z.R64 (a2-a1)) (if a2-a1=1 then(F.slices_symMergeCmpFunc_api_Edge_graph_Edges_1_l2 a0 a1 A.FU a2 a3)else(A.gd (Z.R64 (a3-a2)) (if a3-a2=1 then(F.slices_symMergeCmpFunc_api_Edge_graph_Edges_1_l4 a0 a2 A.FU a1 a2)else(A.gd (Z.R64 (a1+a3)∧(0≤(1:Int)∧(1:Int)≤64)∧Z.R64 ((IntKind.u64.wrap (a1+a3)) / 2^((1:Int)).toNat)) (A.gd (Z.R64 (((IntKind.u64.wrap (a1+a3)) / 2^((1:Int)).toNat)+a2)) (if(IntKind.u64.wrap (a1+a3)) / 2^((1:Int)).toNat <a2 then(A.gd (Z.R64 ((((IntKind.u64.wrap (a1+a3)) / 2^((1:Int)).toNat)+a2)-a3)) (F.slices_symMergeCmpFunc_api_Edge_graph_Edges_1_j7 a0 a1 a2 a3 rc ((((IntKind.u64.wrap (a1+a3)) / 2^((1:Int)).toNat)+a2)-a3) ((IntKind.u64.wrap (a1+a3)) / 2^((1:Int)).toNat)))else(F.slices_symMergeCmpFunc_api_Edge_graph_Edges_1_j7 a0 a1 a2 a3 rc a1 a2)))))))
theorem slices_symMergeCmpFunc_api_Edge_graph_Edges_1_ok (rc:(List D53)→Int→Int→Int→Option Unit)(a0:(List D53))(a1:Int)(a2:Int)(a3:Int)(A0_:Option Addr)(c1_:Nat)(h2_:IntKind.i64.has a1)(h3_:IntKind.i64.has a2)(h4_:IntKind.i64.has a3)(ihr: ∀(a0:(List D53)) (a1:Int) (a2:Int) (a3:Int) (A0_:Option Addr) (c1_:Nat) (h2_:IntKind.i64.has a1) (h3_:IntKind.i64.has a2) (h4_:IntKind.i64.has a3) (r:Unit),rc a0 a1 a2 a3=some r→A.Ct Tryz.prog 147 [.slice A0_ ((a0).length) c1_,.int .i64 a1,.int .i64 a2,.int .i64 a3,.func (.func 72) #[] #[]] [(0,.ln T53 A0_ c1_ a0)] [] (fun v H'=>v=.tuple #[]∧H'=[]))(r:Unit)(hF:F.slices_symMergeCmpFunc_api_Edge_graph_Edges_1 rc a0 a1 a2 a3=some r):
    A.Ct Tryz.prog 147 [.slice A0_ ((a0).length) c1_,.int .i64 a1,.int .i64 a2,.int .i64 a3,.func (.func 72) #[] #[]] [(0,.ln T53 A0_ c1_ a0)] [] (fun v H'=>v=.tuple #[]∧H'=[]):=by
 refine A.Ct.enter Tryz.func147 rfl Tryz.ntmps147 rfl fun w0 F0=>?_
 rw[F.slices_symMergeCmpFunc_api_Edge_graph_Edges_1]at hF
 refine A.xl 2 ?_
 obtain⟨hc1,hF⟩:=A.gd_some hF
 refine A.q [] [] [.n,.n,.n,.n] [Z.R64 (a2-a1)] [(28,.bool (decide (a2-a1=1)))] hc1 ?_
 refine A.dx 1 ?_
 refine A.AX.cnd rfl hF (fun hb hF=>?_) (fun hb hF=>?_)
 ·refine A.xl 1 ?_
  refine A.q0 [] [] [.n,.n] [(10,.int .i64 a2)] ?_
  refine A.dl 2 ?_
  refine A.q0 [] [] [.n,.n] [(11,.int .i64 a3)] ?_
  refine A.dx 3 ?_
  refine A.lp_ [0,1,4] [0] (fun f nl nh=>∃(y2:Int),∃(y4:Int),nl=[(10,.int .i64 y2),(11,.int .i64 y4)]∧nh=[]∧IntKind.i64.has y2∧IntKind.i64.has y4∧F.slices_symMergeCmpFunc_api_Edge_graph_Edges_1_l2 a0 a1 f y2 y4=some r) ⟨a2,a3,rfl,rfl,h3_,h4_,hF⟩ ?_
  rintro f6 _ _ ⟨y2,y4,rfl,rfl,hy3,hy5,hF⟩
  rcases f6 with _|f6
  ·exact A.no0 hF
  rw[F.slices_symMergeCmpFunc_api_Edge_graph_Edges_1_l2]at hF
  refine A.xl 2 ?_
  refine A.q0 [] [] [.n,.n,.n] [(33,.bool (decide (y2<y4)))] ?_
  refine A.dx 1 ?_
  refine A.AX.cnd rfl hF (fun hb hF=>?_) (fun hb hF=>?_)
  ·refine A.xl 4 ?_
   obtain⟨hc7,hF⟩:=A.gd_some hF
   refine A.q [] [] [.n,.n,.n,.n,.n,.n,.n] [Z.R64 (y2+y4),(0≤(1:Int)∧(1:Int)≤64),Z.R64 ((IntKind.u64.wrap (y2+y4)) / 2^((1:Int)).toNat)] [(12,.int .i64 ((IntKind.u64.wrap (y2+y4)) / 2^((1:Int)).toNat))] hc7 ?_
   refine A.dx 2 ?_
   refine A.AX.dr mixed 11 11 (A.mb 11 0) ?_
   refine A.hq A.pb [] [0] [] [] (A.mb 11 103) 6 [(0,.n),(1,.n),(2,.n),(5,.n),(6,.n)] [(40,.func (.func 72) #[] #[]),(41,.slice A0_ ((a0).length) c1_),(42,.int .i64 ((IntKind.u64.wrap (y2+y4)) / 2^((1:Int)).toNat)),(45,.slice A0_ ((a0).length) c1_),(46,.int .i64 a1)] ?_
   obtain⟨x8,hv9,hF⟩:=A.bd_some hF
   refine A.AH.pkl 0 97 hv9 fun ho10=>?_
   intro b12 o13 hA11
   refine A.AH.v A.pb [0] [0,97] 3 (A.mb 11 111) rfl (fun a w hf hh=>A.r_ixa (t:=T53) hv9 hA11 hf) ?_
   refine A.hq A.pb [0,97] [0,97] [] [97] (A.mb 11 127) 4 [(4,.e 0 0)] [(44,.agg #[.int .i64 x8.1.1,.int .i64 x8.1.2,.int .i64 x8.2.1.1,.int .i64 x8.2.1.2,.int .i64 x8.2.2.1,.int .i64 x8.2.2.2.1,.int .i64 x8.2.2.2.2.1,.int .i64 x8.2.2.2.2.2.1,.int .i64 x8.2.2.2.2.2.2.1,.int .i64 x8.2.2.2.2.2.2.2.1,.int .i64 x8.2.2.2.2.2.2.2.2.1,.int .i64 x8.2.2.2.2.2.2.2.2.2])] ?_
   obtain⟨x14,hv15,hF⟩:=A.bd_some hF
   refine A.AH.pkl 0 98 hv15 fun ho16=>?_
   intro b18 o19 hA17
   refine A.AH.v A.pb [0,97] [0,97,98] 7 (A.mb 11 255) rfl (fun a w hf hh=>A.r_ixa (t:=T53) hv15 hA17 hf) ?_
   refine A.hq A.pb [0,97,98] [0,97,98] [] [98] (A.mb 11 511) 2 [(8,.e 0 0)] [(48,.agg #[.int .i64 x14.1.1,.int .i64 x14.1.2,.int .i64 x14.2.1.1,.int .i64 x14.2.1.2,.int .i64 x14.2.2.1,.int .i64 x14.2.2.2.1,.int .i64 x14.2.2.2.2.1,.int .i64 x14.2.2.2.2.2.1,.int .i64 x14.2.2.2.2.2.2.1,.int .i64 x14.2.2.2.2.2.2.2.1,.int .i64 x14.2.2.2.2.2.2.2.2.1,.int .i64 x14.2.2.2.2.2.2.2.2.2])] ?_
   refine A.AH.one 9 ?_
   obtain⟨r20,hv21,hF⟩:=A.bd_some hF
   refine A.AL.call 99 [] (first:=[]) (cap:=[]) cf72 (graph_Edges_1_ok ((x8.1.1,x8.1.2),(x8.2.1.1,x8.2.1.2),(x8.2.2.1,x8.2.2.2.1,x8.2.2.2.2.1,x8.2.2.2.2.2.1,(x8.2.2.2.2.2.2.1,x8.2.2.2.2.2.2.2.1,x8.2.2.2.2.2.2.2.2.1,x8.2.2.2.2.2.2.2.2.2))) ((x14.1.1,x14.1.2),(x14.2.1.1,x14.2.1.2),(x14.2.2.1,x14.2.2.2.1,x14.2.2.2.2.1,x14.2.2.2.2.2.1,(x14.2.2.2.2.2.2.1,x14.2.2.2.2.2.2.2.1,x14.2.2.2.2.2.2.2.2.1,x14.2.2.2.2.2.2.2.2.2))) ho10.1.1 ho10.1.2 ho10.2.1.1 ho10.2.1.2 ho10.2.2.1 ho10.2.2.2.1 ho10.2.2.2.2.1 ho10.2.2.2.2.2.1 ho10.2.2.2.2.2.2.1 ho10.2.2.2.2.2.2.2.1 ho10.2.2.2.2.2.2.2.2.1 ho10.2.2.2.2.2.2.2.2.2 ho16.1.1 ho16.1.2 ho16.2.1.1 ho16.2.1.2 ho16.2.2.1 ho16.2.2.2.1 ho16.2.2.2.2.1 ho16.2.2.2.2.2.1 ho16.2.2.2.2.2.2.1 ho16.2.2.2.2.2.2.2.1 ho16.2.2.2.2.2.2.2.2.1 ho16.2.2.2.2.2.2.2.2.2 r20 hv21) .nil ?_
   rintro _ _ ⟨rfl,rfl,hr22⟩
   refine⟨by kernel_rfl,?_⟩
   refine A.AH.nx (A.mb 11 1023) [0,97,98] ?_
   refine A.hq A.pb [0,97,98] [0,97,98] [] [] (A.mb 11 2047) 0 [(10,.n)] [(50,.bool (decide (r20<0)))] ?_
   refine A.AH.done ?_
   refine A.ex 1 ?_
   refine A.AX.cnd rfl hF (fun hb hF=>?_) (fun hb hF=>?_)
   ·refine A.xl 0 ?_
    obtain⟨hc23,hF⟩:=A.gd_some hF
    refine A.q [] [] [.n,.n,.n] [Z.R64 (((IntKind.u64.wrap (y2+y4)) / 2^((1:Int)).toNat)+1)] [(10,.int .i64 (((IntKind.u64.wrap (y2+y4)) / 2^((1:Int)).toNat)+1))] hc23 ?_
    refine A.de 1 ?_
    exact A.j ⟨_,Nat.lt_succ_self _,⟨(((IntKind.u64.wrap (y2+y4)) / 2^((1:Int)).toNat)+1),y4,rfl,rfl,(Z.i64_has hc23),hy5,hF⟩⟩
   refine A.xl 0 ?_
   refine A.q0 [] [] [.n,.n] [(11,.int .i64 ((IntKind.u64.wrap (y2+y4)) / 2^((1:Int)).toNat))] ?_
   refine A.de 1 ?_
   exact A.j ⟨_,Nat.lt_succ_self _,⟨y2,((IntKind.u64.wrap (y2+y4)) / 2^((1:Int)).toNat),rfl,rfl,hy3,(Z.i64_has hc7.2.2),hF⟩⟩
  refine A.xl 4 ?_
  refine A.q0 [] [] [.n,.n] [(13,.int .i64 a1)] ?_
  refine A.dx 2 ?_
  refine A.lp_ [0,10,13] [0] (fun f nl nh=>nl=[]∧nh=[]∧F.slices_symMergeCmpFunc_api_Edge_graph_Edges_1_l1 a0 a1 y2 f=some r) ⟨rfl,rfl,hF⟩ ?_
  rintro f24 _ _ ⟨rfl,rfl,hF⟩
  rcases f24 with _|f24
  ·exact A.no0 hF
  rw[F.slices_symMergeCmpFunc_api_Edge_graph_Edges_1_l1]at hF
  refine A.xl 2 ?_
  obtain⟨hc25,hF⟩:=A.gd_some hF
  refine A.q [] [] [.n,.n,.n,.n] [Z.R64 (y2-1)] [(58,.bool (decide (a1<y2-1)))] hc25 ?_
  refine A.dx 1 ?_
  refine A.AX.cnd rfl hF (fun hb hF=>?_) (fun hb hF=>?_)
  ·refine A.xx 4 ?_
   refine A.AX.dr mixed 17 18 (A.mb 18 0) ?_
   obtain⟨hc27,hF⟩:=A.gd_some hF
   refine A.AH.q A.pb [] [] [] [] (A.mb 18 3327) 8 [(0,.n),(1,.n),(2,.n),(3,.n),(5,.n),(6,.n),(10,.n),(11,.n),(4,.n),(7,.n)] [61,62,63,66,71,72,65,68] [Z.R64 (a1+1),Z.R64 (a1+1)] [(61,.slice A0_ ((a0).length) c1_),(62,.int .i64 a1),(63,.slice A0_ ((a0).length) c1_),(66,.slice A0_ ((a0).length) c1_),(71,.slice A0_ ((a0).length) c1_),(72,.int .i64 a1),(65,.int .i64 (a1+1)),(68,.int .i64 (a1+1))] hc27 ?_
   obtain⟨x28,hv29,hF⟩:=A.bd_some hF
   refine A.AH.pkl 0 142 hv29 fun ho30=>?_
   intro b32 o33 hA31
   refine A.AH.v A.pb [] [142] 8 (A.mb 18 3583) rfl (fun a w hf hh=>A.r_ixa (t:=T53) hv29 hA31 hf) ?_
   refine A.hq A.pb [142] [142] [] [142] (A.mb 18 4095) 6 [(9,.e 0 0)] [(70,.agg #[.int .i64 x28.1.1,.int .i64 x28.1.2,.int .i64 x28.2.1.1,.int .i64 x28.2.1.2,.int .i64 x28.2.2.1,.int .i64 x28.2.2.2.1,.int .i64 x28.2.2.2.2.1,.int .i64 x28.2.2.2.2.2.1,.int .i64 x28.2.2.2.2.2.2.1,.int .i64 x28.2.2.2.2.2.2.2.1,.int .i64 x28.2.2.2.2.2.2.2.2.1,.int .i64 x28.2.2.2.2.2.2.2.2.2])] ?_
   obtain⟨x34,hv35,hF⟩:=A.bd_some hF
   refine A.AH.pkl 0 143 hv35 fun ho36=>?_
   intro b38 o39 hA37
   refine A.AH.v A.pb [142] [142,143] 12 (A.mb 18 8191) rfl (fun a w hf hh=>A.r_ixa (t:=T53) hv35 hA37 hf) ?_
   refine A.hq A.pb [142,143] [142,143] [] [143] (A.mb 18 16383) 4 [(13,.e 0 0)] [(74,.agg #[.int .i64 x34.1.1,.int .i64 x34.1.2,.int .i64 x34.2.1.1,.int .i64 x34.2.1.2,.int .i64 x34.2.2.1,.int .i64 x34.2.2.2.1,.int .i64 x34.2.2.2.2.1,.int .i64 x34.2.2.2.2.2.1,.int .i64 x34.2.2.2.2.2.2.1,.int .i64 x34.2.2.2.2.2.2.2.1,.int .i64 x34.2.2.2.2.2.2.2.2.1,.int .i64 x34.2.2.2.2.2.2.2.2.2])] ?_
   obtain⟨x40,hv41,hF⟩:=A.bd_some hF
   refine A.AH.pkl 0 144 hv41 fun ho42=>?_
   intro b44 o45 hA43
   refine A.AH.v A.pb [142,143] [0,142,143] 14 (A.mb 18 32767) rfl (fun a w hf hh=>A.r_ixa (t:=T53) hv41 hA43 hf) ?_
   refine A.AH.one 15 ?_
   exact A.no0 hF
  refine A.xx 2 ?_
  obtain rfl:=Option.some.inj hF
  exact A.AX.ret [] (.tuple #[]) (fun a w hf hh=>Z.res0 rfl w) (⟨rfl,rfl⟩)
 refine A.xl 4 ?_
 obtain⟨hc46,hF⟩:=A.gd_some hF
 refine A.q [] [] [.n,.n,.n,.n] [Z.R64 (a3-a2)] [(80,.bool (decide (a3-a2=1)))] hc46 ?_
 refine A.dx 1 ?_
 refine A.AX.cnd rfl hF (fun hb hF=>?_) (fun hb hF=>?_)
 ·refine A.xl 1 ?_
  refine A.q0 [] [] [.n,.n] [(14,.int .i64 a1)] ?_
  refine A.dl 2 ?_
  refine A.q0 [] [] [.n,.n] [(15,.int .i64 a2)] ?_
  refine A.dx 3 ?_
  refine A.lp_ [0,2,4] [0] (fun f nl nh=>∃(y47:Int),∃(y49:Int),nl=[(14,.int .i64 y47),(15,.int .i64 y49)]∧nh=[]∧IntKind.i64.has y47∧IntKind.i64.has y49∧F.slices_symMergeCmpFunc_api_Edge_graph_Edges_1_l4 a0 a2 f y47 y49=some r) ⟨a1,a2,rfl,rfl,h2_,h3_,hF⟩ ?_
  rintro f51 _ _ ⟨y47,y49,rfl,rfl,hy48,hy50,hF⟩
  rcases f51 with _|f51
  ·exact A.no0 hF
  rw[F.slices_symMergeCmpFunc_api_Edge_graph_Edges_1_l4]at hF
  refine A.xl 2 ?_
  refine A.q0 [] [] [.n,.n,.n] [(85,.bool (decide (y47<y49)))] ?_
  refine A.dx 1 ?_
  refine A.AX.cnd rfl hF (fun hb hF=>?_) (fun hb hF=>?_)
  ·refine A.xl 4 ?_
   obtain⟨hc52,hF⟩:=A.gd_some hF
   refine A.q [] [] [.n,.n,.n,.n,.n,.n,.n] [Z.R64 (y47+y49),(0≤(1:Int)∧(1:Int)≤64),Z.R64 ((IntKind.u64.wrap (y47+y49)) / 2^((1:Int)).toNat)] [(16,.int .i64 ((IntKind.u64.wrap (y47+y49)) / 2^((1:Int)).toNat))] hc52 ?_
   refine A.dx 2 ?_
   refine A.AX.dr mixed 12 12 (A.mb 12 0) ?_
   refine A.hq A.pb [] [0] [] [] (A.mb 12 103) 7 [(0,.n),(1,.n),(2,.n),(5,.n),(6,.n)] [(92,.func (.func 72) #[] #[]),(93,.slice A0_ ((a0).length) c1_),(94,.int .i64 a2),(97,.slice A0_ ((a0).length) c1_),(98,.int .i64 ((IntKind.u64.wrap (y47+y49)) / 2^((1:Int)).toNat))] ?_
   obtain⟨x53,hv54,hF⟩:=A.bd_some hF
   refine A.AH.pkl 0 241 hv54 fun ho55=>?_
   intro b57 o58 hA56
   refine A.AH.v A.pb [0] [0,241] 3 (A.mb 12 111) rfl (fun a w hf hh=>A.r_ixa (t:=T53) hv54 hA56 hf) ?_
   refine A.hq A.pb [0,241] [0,241] [] [241] (A.mb 12 127) 5 [(4,.e 0 0)] [(96,.agg #[.int .i64 x53.1.1,.int .i64 x53.1.2,.int .i64 x53.2.1.1,.int .i64 x53.2.1.2,.int .i64 x53.2.2.1,.int .i64 x53.2.2.2.1,.int .i64 x53.2.2.2.2.1,.int .i64 x53.2.2.2.2.2.1,.int .i64 x53.2.2.2.2.2.2.1,.int .i64 x53.2.2.2.2.2.2.2.1,.int .i64 x53.2.2.2.2.2.2.2.2.1,.int .i64 x53.2.2.2.2.2.2.2.2.2])] ?_
   obtain⟨x59,hv60,hF⟩:=A.bd_some hF
   refine A.AH.pkl 0 242 hv60 fun ho61=>?_
   intro b63 o64 hA62
   refine A.AH.v A.pb [0,241] [0,241,242] 7 (A.mb 12 255) rfl (fun a w hf hh=>A.r_ixa (t:=T53) hv60 hA62 hf) ?_
   refine A.hq A.pb [0,241,242] [0,241,242] [] [242] (A.mb 12 511) 3 [(8,.e 0 0)] [(100,.agg #[.int .i64 x59.1.1,.int .i64 x59.1.2,.int .i64 x59.2.1.1,.int .i64 x59.2.1.2,.int .i64 x59.2.2.1,.int .i64 x59.2.2.2.1,.int .i64 x59.2.2.2.2.1,.int .i64 x59.2.2.2.2.2.1,.int .i64 x59.2.2.2.2.2.2.1,.int .i64 x59.2.2.2.2.2.2.2.1,.int .i64 x59.2.2.2.2.2.2.2.2.1,.int .i64 x59.2.2.2.2.2.2.2.2.2])] ?_
   refine A.AH.one 9 ?_
   obtain⟨r65,hv66,hF⟩:=A.bd_some hF
   refine A.AL.call 243 [] (first:=[]) (cap:=[]) cf72 (graph_Edges_1_ok ((x53.1.1,x53.1.2),(x53.2.1.1,x53.2.1.2),(x53.2.2.1,x53.2.2.2.1,x53.2.2.2.2.1,x53.2.2.2.2.2.1,(x53.2.2.2.2.2.2.1,x53.2.2.2.2.2.2.2.1,x53.2.2.2.2.2.2.2.2.1,x53.2.2.2.2.2.2.2.2.2))) ((x59.1.1,x59.1.2),(x59.2.1.1,x59.2.1.2),(x59.2.2.1,x59.2.2.2.1,x59.2.2.2.2.1,x59.2.2.2.2.2.1,(x59.2.2.2.2.2.2.1,x59.2.2.2.2.2.2.2.1,x59.2.2.2.2.2.2.2.2.1,x59.2.2.2.2.2.2.2.2.2))) ho55.1.1 ho55.1.2 ho55.2.1.1 ho55.2.1.2 ho55.2.2.1 ho55.2.2.2.1 ho55.2.2.2.2.1 ho55.2.2.2.2.2.1 ho55.2.2.2.2.2.2.1 ho55.2.2.2.2.2.2.2.1 ho55.2.2.2.2.2.2.2.2.1 ho55.2.2.2.2.2.2.2.2.2 ho61.1.1 ho61.1.2 ho61.2.1.1 ho61.2.1.2 ho61.2.2.1 ho61.2.2.2.1 ho61.2.2.2.2.1 ho61.2.2.2.2.2.1 ho61.2.2.2.2.2.2.1 ho61.2.2.2.2.2.2.2.1 ho61.2.2.2.2.2.2.2.2.1 ho61.2.2.2.2.2.2.2.2.2 r65 hv66) .nil ?_
   rintro _ _ ⟨rfl,rfl,hr67⟩
   refine⟨by kernel_rfl,?_⟩
   refine A.AH.nx (A.mb 12 1023) [0,241,242] ?_
   refine A.hq A.pb [0,241,242] [0,241,242] [] [] (A.mb 12 4095) 0 [(10,.n),(11,.n)] [(103,.bool (!(decide (r65<0))))] ?_
   refine A.AH.done ?_
   refine A.ex 1 ?_
   refine A.AX.cnb rfl hF (fun hb hF=>?_) (fun hb hF=>?_)
   ·refine A.xl 0 ?_
    obtain⟨hc68,hF⟩:=A.gd_some hF
    refine A.q [] [] [.n,.n,.n] [Z.R64 (((IntKind.u64.wrap (y47+y49)) / 2^((1:Int)).toNat)+1)] [(14,.int .i64 (((IntKind.u64.wrap (y47+y49)) / 2^((1:Int)).toNat)+1))] hc68 ?_
    refine A.de 1 ?_
    exact A.j ⟨_,Nat.lt_succ_self _,⟨(((IntKind.u64.wrap (y47+y49)) / 2^((1:Int)).toNat)+1),y49,rfl,rfl,(Z.i64_has hc68),hy50,hF⟩⟩
   refine A.xl 0 ?_
   refine A.q0 [] [] [.n,.n] [(15,.int .i64 ((IntKind.u64.wrap (y47+y49)) / 2^((1:Int)).toNat))] ?_
   refine A.de 1 ?_
   exact A.j ⟨_,Nat.lt_succ_self _,⟨y47,((IntKind.u64.wrap (y47+y49)) / 2^((1:Int)).toNat),rfl,rfl,hy48,(Z.i64_has hc52.2.2),hF⟩⟩
  refine A.xl 4 ?_
  refine A.q0 [] [] [.n,.n] [(17,.int .i64 a2)] ?_
  refine A.dx 2 ?_
  refine A.lp_ [0,14,17] [0] (fun f nl nh=>nl=[]∧nh=[]∧F.slices_symMergeCmpFunc_api_Edge_graph_Edges_1_l3 a0 a2 y47 f=some r) ⟨rfl,rfl,hF⟩ ?_
  rintro f69 _ _ ⟨rfl,rfl,hF⟩
  rcases f69 with _|f69
  ·exact A.no0 hF
  rw[F.slices_symMergeCmpFunc_api_Edge_graph_Edges_1_l3]at hF
  refine A.xl 2 ?_
  refine A.q0 [] [] [.n,.n,.n] [(110,.bool (decide (y47<a2)))] ?_
  refine A.dx 1 ?_
  refine A.AX.cnd rfl hF (fun hb hF=>?_) (fun hb hF=>?_)
  ·refine A.xx 4 ?_
   refine A.AX.dr mixed 17 18 (A.mb 18 0) ?_
   obtain⟨hc71,hF⟩:=A.gd_some hF
   refine A.AH.q A.pb [] [] [] [] (A.mb 18 3327) 8 [(0,.n),(1,.n),(2,.n),(3,.n),(5,.n),(6,.n),(10,.n),(11,.n),(4,.n),(7,.n)] [113,114,115,118,123,124,117,120] [Z.R64 (a2-1),Z.R64 (a2-1)] [(113,.slice A0_ ((a0).length) c1_),(114,.int .i64 a2),(115,.slice A0_ ((a0).length) c1_),(118,.slice A0_ ((a0).length) c1_),(123,.slice A0_ ((a0).length) c1_),(124,.int .i64 a2),(117,.int .i64 (a2-1)),(120,.int .i64 (a2-1))] hc71 ?_
   obtain⟨x72,hv73,hF⟩:=A.bd_some hF
   refine A.AH.pkl 0 286 hv73 fun ho74=>?_
   intro b76 o77 hA75
   refine A.AH.v A.pb [] [286] 8 (A.mb 18 3583) rfl (fun a w hf hh=>A.r_ixa (t:=T53) hv73 hA75 hf) ?_
   refine A.hq A.pb [286] [286] [] [286] (A.mb 18 4095) 6 [(9,.e 0 0)] [(122,.agg #[.int .i64 x72.1.1,.int .i64 x72.1.2,.int .i64 x72.2.1.1,.int .i64 x72.2.1.2,.int .i64 x72.2.2.1,.int .i64 x72.2.2.2.1,.int .i64 x72.2.2.2.2.1,.int .i64 x72.2.2.2.2.2.1,.int .i64 x72.2.2.2.2.2.2.1,.int .i64 x72.2.2.2.2.2.2.2.1,.int .i64 x72.2.2.2.2.2.2.2.2.1,.int .i64 x72.2.2.2.2.2.2.2.2.2])] ?_
   obtain⟨x78,hv79,hF⟩:=A.bd_some hF
   refine A.AH.pkl 0 287 hv79 fun ho80=>?_
   intro b82 o83 hA81
   refine A.AH.v A.pb [286] [286,287] 12 (A.mb 18 8191) rfl (fun a w hf hh=>A.r_ixa (t:=T53) hv79 hA81 hf) ?_
   refine A.hq A.pb [286,287] [286,287] [] [287] (A.mb 18 16383) 4 [(13,.e 0 0)] [(126,.agg #[.int .i64 x78.1.1,.int .i64 x78.1.2,.int .i64 x78.2.1.1,.int .i64 x78.2.1.2,.int .i64 x78.2.2.1,.int .i64 x78.2.2.2.1,.int .i64 x78.2.2.2.2.1,.int .i64 x78.2.2.2.2.2.1,.int .i64 x78.2.2.2.2.2.2.1,.int .i64 x78.2.2.2.2.2.2.2.1,.int .i64 x78.2.2.2.2.2.2.2.2.1,.int .i64 x78.2.2.2.2.2.2.2.2.2])] ?_
   obtain⟨x84,hv85,hF⟩:=A.bd_some hF
   refine A.AH.pkl 0 288 hv85 fun ho86=>?_
   intro b88 o89 hA87
   refine A.AH.v A.pb [286,287] [0,286,287] 14 (A.mb 18 32767) rfl (fun a w hf hh=>A.r_ixa (t:=T53) hv85 hA87 hf) ?_
   refine A.AH.one 15 ?_
   exact A.no0 hF
  refine A.xx 2 ?_
  obtain rfl:=Option.some.inj hF
  exact A.AX.ret [] (.tuple #[]) (fun a w hf hh=>Z.res0 rfl w) (⟨rfl,rfl⟩)
 refine A.xl 3 ?_
 obtain⟨hc90,hF⟩:=A.gd_some hF
 refine A.q [] [] [.n,.n,.n,.n,.n,.n,.n] [Z.R64 (a1+a3),(0≤(1:Int)∧(1:Int)≤64),Z.R64 ((IntKind.u64.wrap (a1+a3)) / 2^((1:Int)).toNat)] [(18,.int .i64 ((IntKind.u64.wrap (a1+a3)) / 2^((1:Int)).toNat))] hc90 ?_
 refine A.dl 2 ?_
 obtain⟨hc91,hF⟩:=A.gd_some hF
 refine A.q [] [] [.n,.n,.n,.n] [Z.R64 (((IntKind.u64.wrap (a1+a3)) / 2^((1:Int)).toNat)+a2)] [(19,.int .i64 (((IntKind.u64.wrap (a1+a3)) / 2^((1:Int)).toNat)+a2))] hc91 ?_
 refine A.dl 2 ?_
 refine A.q0 [] [] [.n,.n] [] ?_
 refine A.dx 1 ?_
 refine A.AX.join [0,1,2,3,4,18,19] [0] (fun nl nh=>∃(y92:Int),∃(y94:Int),nl=[(20,.int .i64 y92),(21,.int .i64 y94)]∧nh=[]∧IntKind.i64.has y92∧IntKind.i64.has y94∧F.slices_symMergeCmpFunc_api_Edge_graph_Edges_1_j7 a0 a1 a2 a3 rc y92 y94=some r) ?_ ?_
 ·refine A.xl 1 ?_
  refine A.q0 [] [] [.n,.n,.n] [(140,.bool (decide ((IntKind.u64.wrap (a1+a3)) / 2^((1:Int)).toNat <a2)))] ?_
  refine A.dx 1 ?_
  refine A.AX.cnd rfl hF (fun hb hF=>?_) (fun hb hF=>?_)
  ·refine A.xl 1 ?_
   obtain⟨hc125,hF⟩:=A.gd_some hF
   refine A.q [] [] [.n,.n,.n,.n] [Z.R64 ((((IntKind.u64.wrap (a1+a3)) / 2^((1:Int)).toNat)+a2)-a3)] [(20,.int .i64 ((((IntKind.u64.wrap (a1+a3)) / 2^((1:Int)).toNat)+a2)-a3))] hc125 ?_
   refine A.dl 1 ?_
   refine A.q0 [] [] [.n,.n] [(21,.int .i64 ((IntKind.u64.wrap (a1+a3)) / 2^((1:Int)).toNat))] ?_
   refine A.AL.done ?_
   exact A.j ⟨((((IntKind.u64.wrap (a1+a3)) / 2^((1:Int)).toNat)+a2)-a3),((IntKind.u64.wrap (a1+a3)) / 2^((1:Int)).toNat),rfl,rfl,(Z.i64_has hc125),(Z.i64_has hc90.2.2),hF⟩
  refine A.xl 1 ?_
  refine A.q0 [] [] [.n,.n] [(20,.int .i64 a1)] ?_
  refine A.dl 1 ?_
  refine A.q0 [] [] [.n,.n] [(21,.int .i64 a2)] ?_
  refine A.AL.done ?_
  exact A.j ⟨a1,a2,rfl,rfl,h2_,h3_,hF⟩
 rintro _ _ ⟨y92,y94,rfl,rfl,hy93,hy95,hF⟩
 rw[F.slices_symMergeCmpFunc_api_Edge_graph_Edges_1_j7]at hF
 refine A.xl 1 ?_
 obtain⟨hc96,hF⟩:=A.gd_some hF
 refine A.q [] [] [.n,.n,.n] [Z.R64 ((((IntKind.u64.wrap (a1+a3)) / 2^((1:Int)).toNat)+a2)-1)] [(22,.int .i64 ((((IntKind.u64.wrap (a1+a3)) / 2^((1:Int)).toNat)+a2)-1))] hc96 ?_
 refine A.dx 3 ?_
 refine A.lp_ [0,1,2,3,4,18,19,22] [0] (fun f nl nh=>∃(y97:Int),∃(y99:Int),nl=[(20,.int .i64 y97),(21,.int .i64 y99)]∧nh=[]∧IntKind.i64.has y97∧IntKind.i64.has y99∧F.slices_symMergeCmpFunc_api_Edge_graph_Edges_1_l6 a0 a1 a2 a3 rc f y97 y99=some r) ⟨y92,y94,rfl,rfl,hy93,hy95,hF⟩ ?_
 rintro f101 _ _ ⟨y97,y99,rfl,rfl,hy98,hy100,hF⟩
 rcases f101 with _|f101
 ·exact A.no0 hF
 rw[F.slices_symMergeCmpFunc_api_Edge_graph_Edges_1_l6]at hF
 refine A.xl 2 ?_
 refine A.q0 [] [] [.n,.n,.n] [(151,.bool (decide (y97<y99)))] ?_
 refine A.dx 1 ?_
 refine A.AX.cnd rfl hF (fun hb hF=>?_) (fun hb hF=>?_)
 ·refine A.xl 4 ?_
  obtain⟨hc102,hF⟩:=A.gd_some hF
  refine A.q [] [] [.n,.n,.n,.n,.n,.n,.n] [Z.R64 (y97+y99),(0≤(1:Int)∧(1:Int)≤64),Z.R64 ((IntKind.u64.wrap (y97+y99)) / 2^((1:Int)).toNat)] [(23,.int .i64 ((IntKind.u64.wrap (y97+y99)) / 2^((1:Int)).toNat))] hc102 ?_
  refine A.dx 2 ?_
  refine A.AX.dr mixed 14 14 (A.mb 14 0) ?_
  obtain⟨hc103,hF⟩:=A.gd_some hF
  refine A.AH.q A.pb [] [0] [] [] (A.mb 14 415) 7 [(0,.n),(1,.n),(2,.n),(3,.n),(7,.n),(8,.n),(4,.n)] [158,159,165,166,162] [Z.R64 (((((IntKind.u64.wrap (a1+a3)) / 2^((1:Int)).toNat)+a2)-1)-((IntKind.u64.wrap (y97+y99)) / 2^((1:Int)).toNat))] [(158,.func (.func 72) #[] #[]),(159,.slice A0_ ((a0).length) c1_),(165,.slice A0_ ((a0).length) c1_),(166,.int .i64 ((IntKind.u64.wrap (y97+y99)) / 2^((1:Int)).toNat)),(162,.int .i64 (((((IntKind.u64.wrap (a1+a3)) / 2^((1:Int)).toNat)+a2)-1)-((IntKind.u64.wrap (y97+y99)) / 2^((1:Int)).toNat)))] hc103 ?_
  obtain⟨x104,hv105,hF⟩:=A.bd_some hF
  refine A.AH.pkl 0 533 hv105 fun ho106=>?_
  intro b108 o109 hA107
  refine A.AH.v A.pb [0] [0,533] 5 (A.mb 14 447) rfl (fun a w hf hh=>A.r_ixa (t:=T53) hv105 hA107 hf) ?_
  refine A.hq A.pb [0,533] [0,533] [] [533] (A.mb 14 511) 5 [(6,.e 0 0)] [(164,.agg #[.int .i64 x104.1.1,.int .i64 x104.1.2,.int .i64 x104.2.1.1,.int .i64 x104.2.1.2,.int .i64 x104.2.2.1,.int .i64 x104.2.2.2.1,.int .i64 x104.2.2.2.2.1,.int .i64 x104.2.2.2.2.2.1,.int .i64 x104.2.2.2.2.2.2.1,.int .i64 x104.2.2.2.2.2.2.2.1,.int .i64 x104.2.2.2.2.2.2.2.2.1,.int .i64 x104.2.2.2.2.2.2.2.2.2])] ?_
  obtain⟨x110,hv111,hF⟩:=A.bd_some hF
  refine A.AH.pkl 0 534 hv111 fun ho112=>?_
  intro b114 o115 hA113
  refine A.AH.v A.pb [0,533] [0,533,534] 9 (A.mb 14 1023) rfl (fun a w hf hh=>A.r_ixa (t:=T53) hv111 hA113 hf) ?_
  refine A.hq A.pb [0,533,534] [0,533,534] [] [534] (A.mb 14 2047) 3 [(10,.e 0 0)] [(168,.agg #[.int .i64 x110.1.1,.int .i64 x110.1.2,.int .i64 x110.2.1.1,.int .i64 x110.2.1.2,.int .i64 x110.2.2.1,.int .i64 x110.2.2.2.1,.int .i64 x110.2.2.2.2.1,.int .i64 x110.2.2.2.2.2.1,.int .i64 x110.2.2.2.2.2.2.1,.int .i64 x110.2.2.2.2.2.2.2.1,.int .i64 x110.2.2.2.2.2.2.2.2.1,.int .i64 x110.2.2.2.2.2.2.2.2.2])] ?_
  refine A.AH.one 11 ?_
  obtain⟨r116,hv117,hF⟩:=A.bd_some hF
  refine A.AL.call 535 [] (first:=[]) (cap:=[]) cf72 (graph_Edges_1_ok ((x104.1.1,x104.1.2),(x104.2.1.1,x104.2.1.2),(x104.2.2.1,x104.2.2.2.1,x104.2.2.2.2.1,x104.2.2.2.2.2.1,(x104.2.2.2.2.2.2.1,x104.2.2.2.2.2.2.2.1,x104.2.2.2.2.2.2.2.2.1,x104.2.2.2.2.2.2.2.2.2))) ((x110.1.1,x110.1.2),(x110.2.1.1,x110.2.1.2),(x110.2.2.1,x110.2.2.2.1,x110.2.2.2.2.1,x110.2.2.2.2.2.1,(x110.2.2.2.2.2.2.1,x110.2.2.2.2.2.2.2.1,x110.2.2.2.2.2.2.2.2.1,x110.2.2.2.2.2.2.2.2.2))) ho106.1.1 ho106.1.2 ho106.2.1.1 ho106.2.1.2 ho106.2.2.1 ho106.2.2.2.1 ho106.2.2.2.2.1 ho106.2.2.2.2.2.1 ho106.2.2.2.2.2.2.1 ho106.2.2.2.2.2.2.2.1 ho106.2.2.2.2.2.2.2.2.1 ho106.2.2.2.2.2.2.2.2.2 ho112.1.1 ho112.1.2 ho112.2.1.1 ho112.2.1.2 ho112.2.2.1 ho112.2.2.2.1 ho112.2.2.2.2.1 ho112.2.2.2.2.2.1 ho112.2.2.2.2.2.2.1 ho112.2.2.2.2.2.2.2.1 ho112.2.2.2.2.2.2.2.2.1 ho112.2.2.2.2.2.2.2.2.2 r116 hv117) .nil ?_
  rintro _ _ ⟨rfl,rfl,hr118⟩
  refine⟨by kernel_rfl,?_⟩
  refine A.AH.nx (A.mb 14 4095) [0,533,534] ?_
  refine A.hq A.pb [0,533,534] [0,533,534] [] [] (A.mb 14 16383) 0 [(12,.n),(13,.n)] [(171,.bool (!(decide (r116<0))))] ?_
  refine A.AH.done ?_
  refine A.ex 1 ?_
  refine A.AX.cnb rfl hF (fun hb hF=>?_) (fun hb hF=>?_)
  ·refine A.xl 0 ?_
   obtain⟨hc119,hF⟩:=A.gd_some hF
   refine A.q [] [] [.n,.n,.n] [Z.R64 (((IntKind.u64.wrap (y97+y99)) / 2^((1:Int)).toNat)+1)] [(20,.int .i64 (((IntKind.u64.wrap (y97+y99)) / 2^((1:Int)).toNat)+1))] hc119 ?_
   refine A.de 1 ?_
   exact A.j ⟨_,Nat.lt_succ_self _,⟨(((IntKind.u64.wrap (y97+y99)) / 2^((1:Int)).toNat)+1),y99,rfl,rfl,(Z.i64_has hc119),hy100,hF⟩⟩
  refine A.xl 0 ?_
  refine A.q0 [] [] [.n,.n] [(21,.int .i64 ((IntKind.u64.wrap (y97+y99)) / 2^((1:Int)).toNat))] ?_
  refine A.de 1 ?_
  exact A.j ⟨_,Nat.lt_succ_self _,⟨y97,((IntKind.u64.wrap (y97+y99)) / 2^((1:Int)).toNat),rfl,rfl,hy98,(Z.i64_has hc102.2.2),hF⟩⟩
 refine A.xl 3 ?_
 obtain⟨hc120,hF⟩:=A.gd_some hF
 refine A.q [] [] [.n,.n,.n,.n] [Z.R64 ((((IntKind.u64.wrap (a1+a3)) / 2^((1:Int)).toNat)+a2)-y97)] [(24,.int .i64 ((((IntKind.u64.wrap (a1+a3)) / 2^((1:Int)).toNat)+a2)-y97))] hc120 ?_
 refine A.dl 3 ?_
 refine A.q0 [] [] [.n,.n,.n,.n,.sy .n,.sy .n,.sy .n,.pk] [(185,.bool (bif decide (y97<a2)then decide (a2<(((IntKind.u64.wrap (a1+a3)) / 2^((1:Int)).toNat)+a2)-y97)else false))] ?_
 refine A.dx 1 ?_
 refine A.AX.cnb rfl hF (fun hb hF=>?_) (fun hb hF=>?_)
 ·refine A.xl 0 ?_
  refine A.q0 [] [] [.n,.n,.n,.n,.n] [(186,.slice A0_ ((a0).length) c1_),(187,.int .i64 y97),(188,.int .i64 a2),(189,.int .i64 ((((IntKind.u64.wrap (a1+a3)) / 2^((1:Int)).toNat)+a2)-y97)),(190,.func (.func 72) #[] #[])] ?_
  exact A.no0 hF
 refine A.xx 2 ?_
 refine A.AX.join [0,3,4,18,24] [0] (fun nl nh=>nl=[]∧nh=[]∧F.slices_symMergeCmpFunc_api_Edge_graph_Edges_1_j5 a0 a1 a2 a3 rc y97=some r) ?_ ?_
 ·refine A.xl 1 ?_
  refine A.q0 [] [] [.n,.n,.n,.n,.sy .n,.sy .n,.sy .n,.pk] [(199,.bool (bif decide (a1<y97)then decide (y97<(IntKind.u64.wrap (a1+a3)) / 2^((1:Int)).toNat)else false))] ?_
  refine A.dx 1 ?_
  refine A.AX.cnb rfl hF (fun hb hF=>?_) (fun hb hF=>?_)
  ·refine A.xl 0 ?_
   refine A.q0 [] [] [.n,.n,.n,.n,.n] [(200,.slice A0_ ((a0).length) c1_),(201,.int .i64 a1),(202,.int .i64 y97),(203,.int .i64 ((IntKind.u64.wrap (a1+a3)) / 2^((1:Int)).toNat)),(204,.func (.func 72) #[] #[])] ?_
   obtain⟨r123,hv124,hF⟩:=A.bd_some hF
   refine A.AL.call 575 [] (first:=[]) (cap:=[]) cf147 (ihr a0 a1 y97 ((IntKind.u64.wrap (a1+a3)) / 2^((1:Int)).toNat) A0_ c1_ h2_ hy98 (Z.i64_has hc90.2.2) r123 hv124) (.s 0 .nil) ?_
   rintro _ _ ⟨rfl,rfl⟩
   refine⟨by kernel_rfl,?_⟩
   refine A.AL.done ?_
   exact A.j ⟨rfl,rfl,hF⟩
  refine A.xe 1 ?_
  exact A.j ⟨rfl,rfl,hF⟩
 rintro _ _ ⟨rfl,rfl,hF⟩
 rw[F.slices_symMergeCmpFunc_api_Edge_graph_Edges_1_j5]at hF
 refine A.xl 1 ?_
 refine A.q0 [] [] [.n,.n,.n,.n,.sy .n,.sy .n,.sy .n,.pk] [(213,.bool (bif decide ((IntKind.u64.wrap (a1+a3)) / 2^((1:Int)).toNat <(((IntKind.u64.wrap (a1+a3)) / 2^((1:Int)).toNat)+a2)-y97)then decide ((((IntKind.u64.wrap (a1+a3)) / 2^((1:Int)).toNat)+a2)-y97<a3)else false))] ?_
 refine A.dx 1 ?_
 refine A.AX.cnb rfl hF (fun hb hF=>?_) (fun hb hF=>?_)
 ·refine A.xl 0 ?_
  refine A.q0 [] [] [.n,.n,.n,.n,.n] [(214,.slice A0_ ((a0).length) c1_),(215,.int .i64 ((IntKind.u64.wrap (a1+a3)) / 2^((1:Int)).toNat)),(216,.int .i64 ((((IntKind.u64.wrap (a1+a3)) / 2^((1:Int)).toNat)+a2)-y97)),(217,.int .i64 a3),(218,.func (.func 72) #[] #[])] ?_
  obtain⟨r121,hv122,hF⟩:=A.bd_some hF
  refine A.AL.call 615 [] (first:=[]) (cap:=[]) cf147 (ihr a0 ((IntKind.u64.wrap (a1+a3)) / 2^((1:Int)).toNat) ((((IntKind.u64.wrap (a1+a3)) / 2^((1:Int)).toNat)+a2)-y97) a3 A0_ c1_ (Z.i64_has hc90.2.2) (Z.i64_has hc120) h4_ r121 hv122) (.s 0 .nil) ?_
  rintro _ _ ⟨rfl,rfl⟩
  refine⟨by kernel_rfl,?_⟩
  refine A.AL.done ?_
  obtain rfl:=Option.some.inj hF
  exact A.AE.ret [] (.tuple #[]) (fun a w hf hh=>Z.res0 rfl w) (⟨rfl,rfl⟩)
 refine A.xe 1 ?_
 obtain rfl:=Option.some.inj hF
 exact A.AE.ret [] (.tuple #[]) (fun a w hf hh=>Z.res0 rfl w) (⟨rfl,rfl⟩)
def F.slices_symMergeCmpFunc_api_Edge_graph_Edges_1_r:Nat→(List D53)→Int→Int→Int→Option Unit
 |0,_,_,_,_=>none
 |f+1,a0,a1,a2,a3=>F.slices_symMergeCmpFunc_api_Edge_graph_Edges_1 (F.slices_symMergeCmpFunc_api_Edge_graph_Edges_1_r f) a0 a1 a2 a3
theorem slices_symMergeCmpFunc_api_Edge_graph_Edges_1_r_ok: ∀f,∀(a0:(List D53)) (a1:Int) (a2:Int) (a3:Int) (A0_:Option Addr) (c1_:Nat) (h2_:IntKind.i64.has a1) (h3_:IntKind.i64.has a2) (h4_:IntKind.i64.has a3) (r:Unit),F.slices_symMergeCmpFunc_api_Edge_graph_Edges_1_r f a0 a1 a2 a3=some r→A.Ct Tryz.prog 147 [.slice A0_ ((a0).length) c1_,.int .i64 a1,.int .i64 a2,.int .i64 a3,.func (.func 72) #[] #[]] [(0,.ln T53 A0_ c1_ a0)] [] (fun v H'=>v=.tuple #[]∧H'=[])
 |0=>fun _ _ _ _ _ _ _ _ _ r hF=>A.no0 hF
 |f+1=>fun a0 a1 a2 a3 A0_ c1_ h2_ h3_ h4_ r hF=>slices_symMergeCmpFunc_api_Edge_graph_Edges_1_ok (F.slices_symMergeCmpFunc_api_Edge_graph_Edges_1_r f) a0 a1 a2 a3 A0_ c1_ h2_ h3_ h4_ (slices_symMergeCmpFunc_api_Edge_graph_Edges_1_r_ok f) r hF
def F.slices_stableCmpFunc_api_Edge_graph_Edges_1_j1 (k12:Int→Option Unit)(y11:Int):Option Unit:=A.gd (Z.R64 (y11*2)) (k12 (y11*2))
def F.slices_stableCmpFunc_api_Edge_graph_Edges_1_l2 (k12:Int→Option Unit)(a0:(List D53))(a1:Int)(y11:Int):Nat→Int→Int→Option Unit
 |0,_,_=>none
 |f+1,y15,y17=>if y17≤a1 then(A.gd (Z.R64 (y15+y11)) ((F.slices_symMergeCmpFunc_api_Edge_graph_Edges_1_r A.FU a0 y15 (y15+y11) y17).bind fun r21=>(A.gd (Z.R64 (2*y11)∧Z.R64 (y17+(2*y11))) ((F.slices_stableCmpFunc_api_Edge_graph_Edges_1_l2 k12 a0 a1 y11 f) y17 (y17+(2*y11))))))else(A.gd (Z.R64 (y15+y11)) (if y15+y11<a1 then((F.slices_symMergeCmpFunc_api_Edge_graph_Edges_1_r A.FU a0 y15 (y15+y11) a1).bind fun r26=>(F.slices_stableCmpFunc_api_Edge_graph_Edges_1_j1 k12 y11))else(F.slices_stableCmpFunc_api_Edge_graph_Edges_1_j1 k12 y11)))
def F.slices_stableCmpFunc_api_Edge_graph_Edges_1_l3 (a0:(List D53))(a1:Int):Nat→Int→Option Unit
 |0,_=>none
 |f+1,y11=>if y11<a1 then(A.gd (Z.R64 (2*y11)) (F.slices_stableCmpFunc_api_Edge_graph_Edges_1_l2 (F.slices_stableCmpFunc_api_Edge_graph_Edges_1_l3 a0 a1 f) a0 a1 y11 A.FU 0 (2*y11)))else(some ())
def F.slices_stableCmpFunc_api_Edge_graph_Edges_1_l4 (a0:(List D53))(a1:Int):Nat→Int→Int→Option Unit
 |0,_,_=>none
 |f+1,y1,y3=>if y3≤a1 then((F.slices_insertionSortCmpFunc_api_Edge_graph_Edges_1 a0 y1 y3).bind fun r6=>(A.gd (Z.R64 (y3+20)) ((F.slices_stableCmpFunc_api_Edge_graph_Edges_1_l4 a0 a1 f) y3 (y3+20))))else((F.slices_insertionSortCmpFunc_api_Edge_graph_Edges_1 a0 y1 a1).bind fun r9=>(F.slices_stableCmpFunc_api_Edge_graph_Edges_1_l3 a0 a1 A.FU 20))
def F.slices_stableCmpFunc_api_Edge_graph_Edges_1 (a0:(List D53))(a1:Int):Option Unit:=F.slices_stableCmpFunc_api_Edge_graph_Edges_1_l4 a0 a1 A.FU 0 20
theorem slices_stableCmpFunc_api_Edge_graph_Edges_1_ok (a0:(List D53))(a1:Int)(A0_:Option Addr)(c1_:Nat)(h2_:IntKind.i64.has a1)(r:Unit)(hF:F.slices_stableCmpFunc_api_Edge_graph_Edges_1 a0 a1=some r):
    A.Ct Tryz.prog 105 [.slice A0_ ((a0).length) c1_,.int .i64 a1,.func (.func 72) #[] #[]] [(0,.ln T53 A0_ c1_ a0)] [] (fun v H'=>v=.tuple #[]∧H'=[]):=by
 refine A.Ct.enter Tryz.func105 rfl Tryz.ntmps105 rfl fun w0 F0=>?_
 rw[F.slices_stableCmpFunc_api_Edge_graph_Edges_1]at hF
 refine A.xl 1 ?_
 refine A.q0 [] [] [.n] [(6,.int .i64 20)] ?_
 refine A.dl 2 ?_
 refine A.q0 [] [] [.n,.n,.n] [(7,.int .i64 0),(8,.int .i64 20)] ?_
 refine A.dx 3 ?_
 refine A.lp_ [0,1,2,6] [0] (fun f nl nh=>∃(y1:Int),∃(y3:Int),nl=[(7,.int .i64 y1),(8,.int .i64 y3)]∧nh=[]∧IntKind.i64.has y1∧IntKind.i64.has y3∧F.slices_stableCmpFunc_api_Edge_graph_Edges_1_l4 a0 a1 f y1 y3=some r) ⟨0,20,rfl,rfl,(A.hasl .i64 (0) rfl),(A.hasl .i64 (20) rfl),hF⟩ ?_
 rintro f5 _ _ ⟨y1,y3,rfl,rfl,hy2,hy4,hF⟩
 rcases f5 with _|f5
 ·exact A.no0 hF
 rw[F.slices_stableCmpFunc_api_Edge_graph_Edges_1_l4]at hF
 refine A.xl 2 ?_
 refine A.q0 [] [] [.n,.n,.n] [(13,.bool (decide (y3≤a1)))] ?_
 refine A.dx 1 ?_
 refine A.AX.cnd rfl hF (fun hb hF=>?_) (fun hb hF=>?_)
 ·refine A.xl 4 ?_
  refine A.q0 [] [] [.n,.n,.n,.n] [(14,.slice A0_ ((a0).length) c1_),(15,.int .i64 y1),(16,.int .i64 y3),(17,.func (.func 72) #[] #[])] ?_
  obtain⟨r6,hv7,hF⟩:=A.bd_some hF
  refine A.AL.call 1601 [] (first:=[]) (cap:=[]) cf146 (slices_insertionSortCmpFunc_api_Edge_graph_Edges_1_ok a0 y1 y3 A0_ c1_ hy2 hy4 r6 hv7) (.s 0 .nil) ?_
  rintro _ _ ⟨rfl,rfl⟩
  refine⟨by kernel_rfl,?_⟩
  refine A.dl 2 ?_
  refine A.q0 [] [] [.n,.n] [(7,.int .i64 y3)] ?_
  refine A.dl 1 ?_
  obtain⟨hc8,hF⟩:=A.gd_some hF
  refine A.q [] [] [.n,.n,.n,.n] [Z.R64 (y3+20)] [(8,.int .i64 (y3+20))] hc8 ?_
  refine A.de 1 ?_
  exact A.j ⟨_,Nat.lt_succ_self _,⟨y3,(y3+20),rfl,rfl,hy4,(Z.i64_has hc8),hF⟩⟩
 refine A.xl 3 ?_
 refine A.q0 [] [] [.n,.n,.n,.n] [(23,.slice A0_ ((a0).length) c1_),(24,.int .i64 y1),(25,.int .i64 a1),(26,.func (.func 72) #[] #[])] ?_
 obtain⟨r9,hv10,hF⟩:=A.bd_some hF
 refine A.AL.call 1641 [] (first:=[]) (cap:=[]) cf146 (slices_insertionSortCmpFunc_api_Edge_graph_Edges_1_ok a0 y1 a1 A0_ c1_ hy2 h2_ r9 hv10) (.s 0 .nil) ?_
 rintro _ _ ⟨rfl,rfl⟩
 refine⟨by kernel_rfl,?_⟩
 refine A.dx 2 ?_
 refine A.lp_ [0,1,2] [0] (fun f nl nh=>∃(y11:Int),nl=[(6,.int .i64 y11)]∧nh=[]∧IntKind.i64.has y11∧F.slices_stableCmpFunc_api_Edge_graph_Edges_1_l3 a0 a1 f y11=some r) ⟨20,rfl,rfl,(A.hasl .i64 (20) rfl),hF⟩ ?_
 rintro f13 _ _ ⟨y11,rfl,rfl,hy12,hF⟩
 rcases f13 with _|f13
 ·exact A.no0 hF
 rw[F.slices_stableCmpFunc_api_Edge_graph_Edges_1_l3]at hF
 refine A.xl 2 ?_
 refine A.q0 [] [] [.n,.n,.n] [(30,.bool (decide (y11<a1)))] ?_
 refine A.dx 1 ?_
 refine A.AX.cnd rfl hF (fun hb hF=>?_) (fun hb hF=>?_)
 ·refine A.xl 4 ?_
  obtain⟨hc14,hF⟩:=A.gd_some hF
  refine A.q [] [] [.n,.n,.n,.n] [Z.R64 (2*y11)] [(7,.int .i64 0),(8,.int .i64 (2*y11))] hc14 ?_
  refine A.dx 3 ?_
  refine A.lp_ [0,1,2,6] [0] (fun f nl nh=>∃(y15:Int),∃(y17:Int),nl=[(7,.int .i64 y15),(8,.int .i64 y17)]∧nh=[]∧IntKind.i64.has y15∧IntKind.i64.has y17∧F.slices_stableCmpFunc_api_Edge_graph_Edges_1_l2 (F.slices_stableCmpFunc_api_Edge_graph_Edges_1_l3 a0 a1 f13) a0 a1 y11 f y15 y17=some r) ⟨0,(2*y11),rfl,rfl,(A.hasl .i64 (0) rfl),(Z.i64_has hc14),hF⟩ ?_
  rintro f19 _ _ ⟨y15,y17,rfl,rfl,hy16,hy18,hF⟩
  rcases f19 with _|f19
  ·exact A.no0 hF
  rw[F.slices_stableCmpFunc_api_Edge_graph_Edges_1_l2]at hF
  refine A.xl 2 ?_
  refine A.q0 [] [] [.n,.n,.n] [(35,.bool (decide (y17≤a1)))] ?_
  refine A.dx 1 ?_
  refine A.AX.cnd rfl hF (fun hb hF=>?_) (fun hb hF=>?_)
  ·refine A.xl 4 ?_
   obtain⟨hc20,hF⟩:=A.gd_some hF
   refine A.q [] [] [.n,.n,.n,.n,.n,.n,.n] [Z.R64 (y15+y11)] [(36,.slice A0_ ((a0).length) c1_),(37,.int .i64 y15),(40,.int .i64 (y15+y11)),(41,.int .i64 y17),(42,.func (.func 72) #[] #[])] hc20 ?_
   obtain⟨r21,hv22,hF⟩:=A.bd_some hF
   refine A.AL.call 2321 [] (first:=[]) (cap:=[]) cf147 (slices_symMergeCmpFunc_api_Edge_graph_Edges_1_r_ok A.FU a0 y15 (y15+y11) y17 A0_ c1_ hy16 (Z.i64_has hc20) hy18 r21 hv22) (.s 0 .nil) ?_
   rintro _ _ ⟨rfl,rfl⟩
   refine⟨by kernel_rfl,?_⟩
   refine A.dl 2 ?_
   refine A.q0 [] [] [.n,.n] [(7,.int .i64 y17)] ?_
   refine A.dl 1 ?_
   obtain⟨hc23,hF⟩:=A.gd_some hF
   refine A.q [] [] [.n,.n,.n,.n,.n] [Z.R64 (2*y11),Z.R64 (y17+(2*y11))] [(8,.int .i64 (y17+(2*y11)))] hc23 ?_
   refine A.de 1 ?_
   exact A.j ⟨_,Nat.lt_succ_self _,⟨y17,(y17+(2*y11)),rfl,rfl,hy18,(Z.i64_has hc23.2),hF⟩⟩
  refine A.xx 2 ?_
  refine A.AX.join [0,1,2,6] [0] (fun nl nh=>nl=[]∧nh=[]∧F.slices_stableCmpFunc_api_Edge_graph_Edges_1_j1 (F.slices_stableCmpFunc_api_Edge_graph_Edges_1_l3 a0 a1 f13) y11=some r) ?_ ?_
  ·refine A.xl 1 ?_
   obtain⟨hc25,hF⟩:=A.gd_some hF
   refine A.q [] [] [.n,.n,.n,.n] [Z.R64 (y15+y11)] [(9,.int .i64 (y15+y11))] hc25 ?_
   refine A.dl 2 ?_
   refine A.q0 [] [] [.n,.n,.n] [(54,.bool (decide (y15+y11<a1)))] ?_
   refine A.dx 1 ?_
   refine A.AX.cnd rfl hF (fun hb hF=>?_) (fun hb hF=>?_)
   ·refine A.xl 0 ?_
    refine A.q0 [] [] [.n,.n,.n,.n,.n] [(55,.slice A0_ ((a0).length) c1_),(56,.int .i64 y15),(57,.int .i64 (y15+y11)),(58,.int .i64 a1),(59,.func (.func 72) #[] #[])] ?_
    obtain⟨r26,hv27,hF⟩:=A.bd_some hF
    refine A.AL.call 2361 [] (first:=[]) (cap:=[]) cf147 (slices_symMergeCmpFunc_api_Edge_graph_Edges_1_r_ok A.FU a0 y15 (y15+y11) a1 A0_ c1_ hy16 (Z.i64_has hc25) h2_ r26 hv27) (.s 0 .nil) ?_
    rintro _ _ ⟨rfl,rfl⟩
    refine⟨by kernel_rfl,?_⟩
    refine A.AL.done ?_
    exact A.j ⟨rfl,rfl,hF⟩
   refine A.xe 1 ?_
   exact A.j ⟨rfl,rfl,hF⟩
  rintro _ _ ⟨rfl,rfl,hF⟩
  rw[F.slices_stableCmpFunc_api_Edge_graph_Edges_1_j1]at hF
  refine A.xl 0 ?_
  obtain⟨hc24,hF⟩:=A.gd_some hF
  refine A.q [] [] [.n,.n,.n] [Z.R64 (y11*2)] [(6,.int .i64 (y11*2))] hc24 ?_
  refine A.de 1 ?_
  exact A.j ⟨_,Nat.lt_succ_self _,⟨(y11*2),rfl,rfl,(Z.i64_has hc24),hF⟩⟩
 refine A.xe 1 ?_
 obtain rfl:=Option.some.inj hF
 exact A.AE.ret [] (.tuple #[]) (fun a w hf hh=>Z.res0 rfl w) (⟨rfl,rfl⟩)
def F.slices_SortStableFunc_api_Edge_api_Edge_graph_Edges_1 (a0:(List D53)):Option Unit:=(F.slices_stableCmpFunc_api_Edge_graph_Edges_1 a0 ((a0).length:Int)).bind fun r2=>(some ())
theorem slices_SortStableFunc_api_Edge_api_Edge_graph_Edges_1_ok (a0:(List D53))(A0_:Option Addr)(c1_:Nat)(r:Unit)(hF:F.slices_SortStableFunc_api_Edge_api_Edge_graph_Edges_1 a0=some r):
    A.Ct Tryz.prog 71 [.slice A0_ ((a0).length) c1_,.func (.func 72) #[] #[]] [(0,.ln T53 A0_ c1_ a0)] [] (fun v H'=>v=.tuple #[]∧H'=[]):=by
 refine A.Ct.enter Tryz.func71 rfl Tryz.ntmps71 rfl fun w0 F0=>?_
 rw[F.slices_SortStableFunc_api_Edge_api_Edge_graph_Edges_1]at hF
 refine A.xl 0 ?_
 refine A.q0 [] [] [.n,.n,.n,.n] [(4,.slice A0_ ((a0).length) c1_),(6,.int .i64 ((a0).length:Int)),(7,.func (.func 72) #[] #[])] ?_
 refine A.okl 0 fun hl1=>?_
 obtain⟨r2,hv3,hF⟩:=A.bd_some hF
 refine A.AL.call 1 [] (first:=[]) (cap:=[]) cf105 (slices_stableCmpFunc_api_Edge_graph_Edges_1_ok a0 ((a0).length:Int) A0_ c1_ (A.has_len hl1.1) r2 hv3) (.s 0 .nil) ?_
 rintro _ _ ⟨rfl,rfl⟩
 refine⟨by kernel_rfl,?_⟩
 refine A.AL.done ?_
 obtain rfl:=Option.some.inj hF
 exact A.AE.ret [] (.tuple #[]) (fun a w hf hh=>Z.res0 rfl w) (⟨rfl,rfl⟩)
def F.graph_Edges (a0:D23):Option ((List D53)×Int):=(F.graph_whole a0).bind fun r2=>A.om r2.1 (if r2.2≠0 then(some ([],r2.2))else(none)) fun p5=>(if r2.2≠0 then(some ([],r2.2))else((F.graph_plan_edges (p5.1,p5.2.1,p5.2.2) a0).bind fun r12=>((F.slices_SortStableFunc_api_Edge_api_Edge_graph_Edges_1 r12).bind fun r16=>(some (r12,0)))))
theorem graph_Edges_ok (a0:D23)(A0_:Option Addr)(c1_:Nat)(r:(List D53)×Int)(hF:F.graph_Edges a0=some r):
    A.Ct Tryz.prog 38 [.agg #[.slice A0_ ((a0).length) c1_]] [(0,.sh (.slice T83) [.slice A0_ (a0).length c1_] a0),(1,.el none 0 0 A.tabF),(2,.el none 1 0 A.tabA)] [] (fun v H'=>∃(A0':Option Addr) (c1':Nat),v=.tuple #[.slice A0' ((r.1).length) c1',.int .i64 r.2]∧H'=[(0,.own T53 54 A0' c1' r.1)]∧IntKind.i64.has r.2):=by
 refine A.Ct.enter Tryz.func38 rfl Tryz.ntmps38 rfl fun w0 F0=>?_
 rw[F.graph_Edges]at hF
 refine A.xl 1 ?_
 refine A.AL.box 3 (cs:=[.slice A0_ ((a0).length) c1_]) fun g1=>?_
 refine A.q0 [] [] [.n,.n] [] ?_
 refine A.dl 2 ?_
 refine A.q0 [3] [] [.b 0 0] [(8,.agg #[.slice A0_ ((a0).length) c1_])] ?_
 obtain⟨r2,hv3,hF⟩:=A.bd_some hF
 refine A.AL.call 4 [] (first:=[]) (cap:=[]) cf68 (graph_whole_ok a0 A0_ c1_ r2 hv3) (.s 0 (.s 1 (.s 2 .nil))) ?_
 rintro _ _ (⟨hp18,rfl,rfl,hr4⟩|⟨p5,hp18,g6,b7,A8,c9,b10,rfl,rfl,hr11⟩)
 ·refine⟨by kernel_rfl,?_⟩
  rw[A.om_n hp18]at hF
  refine A.q0 [] [] [.n,.n,.n,.n,.n] [(4,.pointer none),(5,.int .i64 r2.2)] ?_
  refine A.dl 3 ?_
  refine A.q0 [] [] [.n,.n] [(13,.bool (decide (r2.2≠0)))] ?_
  refine A.dx 1 ?_
  refine A.AX.cnd rfl hF (fun hb hF=>?_) (fun hb hF=>?_)
  ·refine A.xl 1 ?_
   refine A.q0 [] [] [.n,.n,.n] [(2,.slice none 0 0),(3,.int .i64 r2.2)] ?_
   refine A.dx 1 ?_
   obtain rfl:=Option.some.inj hF
   refine A.nil 44 T53 54 ?_
   exact A.rt2 [(0,44)] ⟨none,0,rfl,rfl,hr4⟩
  refine A.xl 3 ?_
  refine A.q0 [3] [] [.n,.b 0 0] [(15,.pointer none),(16,.agg #[.slice A0_ ((a0).length) c1_])] ?_
  exact A.no0 hF
 refine⟨by kernel_rfl,?_⟩
 rw[A.om_s hp18]at hF
 refine A.q0 [] [] [.n,.n,.n,.n,.n] [(4,.pointer (some ⟨g6,0,none⟩)),(5,.int .i64 r2.2)] ?_
 refine A.dl 3 ?_
 refine A.q0 [] [] [.n,.n] [(13,.bool (decide (r2.2≠0)))] ?_
 refine A.dx 1 ?_
 refine A.AX.cnd rfl hF (fun hb hF=>?_) (fun hb hF=>?_)
 ·refine A.xl 1 ?_
  refine A.q0 [] [] [.n,.n,.n] [(2,.slice none 0 0),(3,.int .i64 r2.2)] ?_
  refine A.dx 1 ?_
  obtain rfl:=Option.some.inj hF
  refine A.nil 45 T53 54 ?_
  exact A.rt2 [(0,45)] ⟨none,0,rfl,rfl,hr11⟩
 refine A.xl 3 ?_
 refine A.q0 [3] [] [.n,.b 0 0] [(15,.pointer (some ⟨g6,0,none⟩)),(16,.agg #[.slice A0_ ((a0).length) c1_])] ?_
 obtain⟨r12,hv13,hF⟩:=A.bd_some hF
 refine A.AL.call 46 [] (first:=[]) (cap:=[]) cf70 (graph_plan_edges_ok (p5.1,p5.2.1,p5.2.2) a0 g6 b7 A8 c9 b10 A0_ c1_ r12 hv13) (.m 4 (.m 5 (.m 6 (.m 7 (.s 0 .nil))))) ?_
 rintro _ _ ⟨A14,c15,rfl,rfl⟩
 refine⟨by kernel_rfl,?_⟩
 refine A.mvd 47 4 [] ?_
 refine A.mvd 48 5 [] ?_
 refine A.mvd 49 6 [] ?_
 refine A.mvd 50 7 [] ?_
 refine A.q0 [] [] [.n] [(6,.slice A14 ((r12).length) c15)] ?_
 refine A.dl 2 ?_
 refine A.q0 [] [] [.n] [(18,.slice A14 ((r12).length) c15)] ?_
 obtain⟨r16,hv17,hF⟩:=A.bd_some hF
 refine A.AL.call 86 [] (first:=[]) (cap:=[]) cf71 (slices_SortStableFunc_api_Edge_api_Edge_graph_Edges_1_ok r12 A14 c15 r16 hv17) (.o 46 .nil) ?_
 rintro _ _ ⟨rfl,rfl⟩
 refine⟨by kernel_rfl,?_⟩
 refine A.dl 2 ?_
 refine A.q0 [] [] [.n,.n,.n] [(2,.slice A14 ((r12).length) c15),(3,.int .i64 0)] ?_
 refine A.dx 1 ?_
 obtain rfl:=Option.some.inj hF
 exact A.rt2 [(0,46)] ⟨A14,c15,rfl,rfl,(A.hasl .i64 (0) rfl)⟩
end Go.Proofs.YtlbnpmfggfbdoaaGreatDoor
end
section
set_option linter.unusedVariables false
set_option linter.unusedSimpArgs false
namespace Go.A
open Go.RowKit Go.Z
section
variable {C:Cx}{l:List (Nat×Value)}{H:List (Nat×Res)}{X:Act→World→Prop}
theorem bta (k:Nat)(js:List Nat){t:Ty}{g:Nat}{T:TypeId}{cs:List Value}(xs:List t.den)(hD:Dats H t cs xs)(h: ∀a w,Fr a C.n C.ds l→Hp C ((k,.own t T (some ⟨g,0,none⟩) xs.length xs)::ded js H) w→X a w)
  (hk1:hk H k=some (.blk g T cs):=by rfl) (hx:Nat.ble xs.length 100000=true:=by rfl) (hj:hng [k] js H=true:=by kernel_rfl): ∀a w,Fr a C.n C.ds l→Hp C H w→X a w:=fun a w hf hh=>by
 refine h a w hf (Hp.dd (hh.upd (S:=[]) (Ch.refl w) (by simp) (fun b hb=>.inl ⟨_,hk1,hb⟩) (fun j hj=>by cases hj) fun F B q1 q2 _ _ _=>?_) hj)
 have hB:Blk w g T cs:=hh.hold k _ hk1
 obtain⟨h1,h2,h3⟩:=Dats.all hh hD
 have hx:=Nat.le_of_ble_eq_true hx
 refine⟨cs,⟨h1,.inr ⟨g,xs.length,cs.toArray,rfl,Nat.zero_le _,hB,Nat.le_refl _,by simp only[maxLen];omega,by simp[h1],by simp[←h1]⟩⟩,h2,fun i y hi=>rep_as (h3 i y hi) fun b hb hlt=>q1 b hb hlt⟩
end
section
variable {r:Option Nat}{P:Program}{ops:Array Oper}{Q:Exit→Act→World→Prop}{rest lst:List Oper}{C:Cx}{l:List (Nat×Value)}{H:List (Nat×Res)}{d:Nat}{T:TypeId}{pos:String}{af:Array Edge}
theorem AL.ixoA (k kn:Nat){t:Ty}{e':TypeId}{g c n:Nat}{xs:List t.den}{x y:Operand}{i:Int}{kd:IntKind}{v:t.den}{e tt:TypeId}(hi:ix xs i=some v)(hlen:n=xs.length)
  (h:t.ok v→tele (lv t) fun ps=>AL r P ops Q rest C ((d,.pointer (some ⟨g,i.toNat*t.size,none⟩))::l) (hcat (kx (kn+1) (rs t v ps)) ((kn,.el (some k) g (i.toNat*t.size) (cl t v ps))::H)))
  (hk1:hk H k=some (.own t e' (some ⟨g,0,none⟩) c xs):=by rfl) (hx:ev l x=some (.pointer (some ⟨g,0,none⟩)):=by rfl) (hy:ev l y=some (.int kd i):=by rfl) (ht:P.underlying tt=some (.array n e):=by rfl) (hs:szB P e=some t.size:=by kernel_rfl)
  (hd:Nat.ble (d+1) C.n=true:=by rfl) (hn:nok H kn (1+lv t)=true:=by kernel_rfl):AL r P ops Q (⟨some d,.indexAddr tt x y,T,pos,af,none⟩::rest) C l H:=fun a w hf hh=>by
 subst hlen
 obtain⟨j,rfl,hv⟩:=ix_some hi
 have hlt:=(List.getElem?_eq_some_iff.1 hv).1
 obtain⟨G,hR,hG⟩:=rowO hk1 w hh
 obtain⟨b,o,es,hA,hb,hbl,hc,hr⟩:=hR.at hv
 injection hA with hA;injection hA with e1 e2 _;subst e1;subst e2
 obtain⟨ps,hl,rfl,hrs⟩:=rep_cl (B:=Bk H) t (rep_in t hr)
 have hn':nok H kn (1+(rs t v ps).length)=true:=by rw[rs_len t v ps hl];exact hn
 have hnk:hk H kn=none:=nok_none hn' (Nat.le_refl _) (by omega)
 rw[Nat.zero_add]at hc
 have h1:Hp C ((kn,.el (some k) g (j*t.size) (cl t v ps))::H) w:=hh.add hnk rfl (fun i hi r hr=>by injection hi with hi;subst hi;rw[hk1]at hr;injection hr with hr;subst hr;rfl) ⟨hc,hbl,hG g hb⟩
 have hnn: ∀n k',nok H k' n=true→(∀i,k'≤i→i<k'+n→i≠kn)→nok ((kn,.el (some k) g (j*t.size) (cl t v ps))::H) k' n=true:=by
  intro n
  induction n with
  |zero=>intro _ _ _;rfl
  |succ n ih=>
   intro k' h2 h3
   simp only[nok,Bool.and_eq_true]at h2 ⊢
   refine⟨?_,ih (k'+1) h2.2 fun i h4 h5=>h3 i (by omega) (by omega)⟩
   rw[hk_cons,if_neg (Ne.symm (h3 k' (Nat.le_refl _) (by omega)))];exact h2.1
 have hn2:nok H (kn+1) (rs t v ps).length=true:=by
  rw[Nat.add_comm 1]at hn'
  simp only[nok,Bool.and_eq_true]at hn';exact hn'.2
 have h2:Hp C (hcat (kx (kn+1) (rs t v ps)) ((kn,.el (some k) g (j*t.size) (cl t v ps))::H)) w:=by
  refine h1.adds (hnn _ _ hn2 fun i h4 _=>by omega) fun r2 h4=>?_
  obtain⟨h5,h6,h7⟩:=hrs r2 h4
  have hbk: ∀i b',Bk ((kn,.el (some k) g (j*t.size) (cl t v ps))::H) i b'↔Bk H i b':=fun i b'=>by
   by_cases hj:i=kn
   ·subst hj
    rw[Bk.cons_eq]
    exact⟨fun h=>by simp[Res.bl]at h,fun⟨_,h8,_⟩=>by rw[hnk]at h8;cases h8⟩
   ·exact Bk.cons_ne hj
  exact⟨h6,h7,Res.to h5 (S:=[]) (Ch.refl w) (fun b' hF _=>⟨by simp,⟨fun i hj=>hF.1.1 i ((hbk i b').1 hj),hF.1.2⟩,hF.2⟩) (fun b' hB _=>⟨by simp,fun i hj=>hB i ((hbk i b').1 hj)⟩) (fun i b' _ hB=>⟨by simp,(hbk i b').2 hB⟩) (by simp)⟩
 refine Z.val (v:=.pointer (some ⟨g,j*t.size,none⟩)) hf hd ?_ fun a' hf'=>tele_at (h (rep_ok t hr)) ps hl a' w hf' h2
 have:=r_indexArr (P:=P) (a:=a) (w:=w) (T:=T) (pos:=pos) (af:=af) (dd:=some d) (gd:=none) (o:=0) ht (szB_run hs) (hf.eval hx) (hf.eval hy) (by omega) (by omega)
 rw[Nat.zero_add,Int.toNat_natCast]at this
 exact this
end
end Go.A
end
section
set_option linter.unusedVariables false
set_option linter.unusedSimpArgs false
namespace Go.A
open Go.RowKit Go.Z
def b8 (x:Int):UInt8:=UInt8.ofNat (x%256).toNat
def Fz (fz:Nat×Nat)(n:Nat):Prop:=∀j,j<n→¬(fz.1≤j∧j<fz.2)
def Bs (e:TypeId)(c:Nat)(xs:List UInt8):Obj→Prop:=fun o=>∃(cur:Array Value) (fz:Nat×Nat),o=.cells cur e fz∧Fz fz c∧cur.size=c∧c≤maxLen∧xs.length≤c∧∀(j:Nat) (b:UInt8),xs[j]?=some b→cur[j]?=some (.int .u8 (b.toNat:Int))
theorem Bs.cell {w:World}{g:Nat}{e:TypeId}{c:Nat}{xs:List UInt8}{o:Obj}(ho:w.heap[g]?=some o)(h:Bs e c xs o){j:Nat}{b:UInt8}(hj:xs[j]?=some b):w.cell? ⟨g,j,none⟩=some (.int .u8 (b.toNat:Int)):=by
 obtain⟨cur,fz,rfl,_,_,_,_,h5⟩:=h
 rw[cell_of_row w g j cur e _ ho]
 exact h5 j b hj
section
variable {r:Option Nat}{P:Program}{ops:Array Oper}{Q:Exit→Act→World→Prop}{rest:List Oper}{C:Cx}{l:List (Nat×Value)}{H:List (Nat×Res)}{d:Nat}{T:TypeId}{pos:String}{af:Array Edge}
end
end Go.A
end
section
set_option linter.unusedVariables false
set_option linter.unusedSimpArgs false
namespace Go.Z
open Go.RowKit Go.Lib
section
variable {P:Program}{a:Act}{w:World}{d:Option Tmp}{T:TypeId}{pos:String}{af:Array Edge}{gd:Option (Nat×Bool)}
theorem r_sliceA_l {t e:TypeId}{x lo:Operand}{n sz g o u:Nat}{k:IntKind}{p:Int}(ht:P.underlying t=some (.array n e))(hS: ∀w,(sizeOf e).run P w=.ok sz w)(hx:a.eval x=.pointer (some ⟨g,o,none⟩))(hl:a.eval lo=.int k p)(hp:p=(u:Int))(h1:u≤n):
  (execOp a.eval ⟨d,.slice t x (some lo) none none,T,pos,af,gd⟩).run P w=.ok (.value (.slice (cutA (some ⟨g,o,none⟩) n u sz) (n-u) (n-u))) w:=by
 subst hp
 by_cases hc:n=u<;>simp[execOp,Instr.sliceAt,run_underlying ht,hx,hl,Instr.sureAddr,Instr.sliceBounds,Instr.sliceBound,asIntOf,h1,hS,cutA,hc]
end
end Go.Z
namespace Go.A
open Go.RowKit Go.Z
theorem arr4 {τ:Type}{a b c d y:τ}{i:Int}{Q:Int→Prop}(h:ix [a,b,c,d] i=some y)(h0:Q 0)(h1:Q 1)(h2:Q 2)(h3:Q 3):Q i:=by
 obtain⟨p,q⟩:=ix_ok h
 simp only[List.length_cons,List.length_nil]at q
 have:i=0∨i=1∨i=2∨i=3:=by omega
 rcases this with rfl|rfl|rfl|rfl<;>assumption
theorem ite_has {k:IntKind}{p:Prop}[Decidable p]{x y:Int}(hx:k.has x)(hy:k.has y):k.has (if p then x else y):=by split<;>assumption
section
variable {r:Option Nat}{P:Program}{ops:Array Oper}{Q:Exit→Act→World→Prop}{rest lst:List Oper}{C:Cx}{l:List (Nat×Value)}{H:List (Nat×Res)}{d:Nat}{T:TypeId}{pos:String}{af:Array Edge}
theorem AL.stb (k:Nat)(js:List Nat){τ:Type}{vals:List τ}{v0:τ}{t bt:TypeId}{x y:Operand}{g o:Nat}{i:Int}{cs cs':List Value}{v:Value}(hi:ix vals i=some v0)(hc:cs'=cs.set (o+i.toNat*1) v)
  (h:AL r P ops Q rest C l ((k,.blk g bt cs')::ded js H))
  (hb:hk H k=some (.blk g bt cs):=by rfl) (hx:ev l x=some (.pointer (some ⟨g,o+i.toNat*1,none⟩)):=by rfl) (hy:ev l y=some v:=by rfl) (hS:szB P t=some 1:=by kernel_rfl)
  (hv:v.cells=[v].toArray:=by rfl) (ho:Nat.ble (o+vals.length) cs.length=true:=by rfl) (h1:v.oneCell'=true:=by rfl) (hj:hng [k] js H=true:=by kernel_rfl):
  AL r P ops Q (⟨none,.store t x y,T,pos,af,none⟩::rest) C l H:=fun a w hf hh=>by
 obtain⟨p,q⟩:=ix_ok hi
 have ho:=Nat.le_of_ble_eq_true ho
 have hlt:o+i.toNat*1<cs.length:=by omega
 refine Z.st_store (new:=[v]) (cs':=cs') hf (hh.hold k _ hb) hx hy (szB_run hS) hv rfl (Nat.ble_eq_true_of_le hlt) (fun u hu=>by simp at hu;subst hu;exact h1) ?_ fun w' a' hs hb' hch hf'=>
  h a' w' hf' (Hp.dd (hh.upd hch (fun b hb2=>⟨_,hb,hb2⟩) (fun b hb2=>.inl ⟨_,hb,hb2⟩) (fun j hj=>by cases hj) fun _ _ _ _ _ _ _=>hb') hj)
 rw[hc,List.set_eq_take_append_cons_drop,if_pos hlt,List.append_assoc];rfl
theorem AL.ixv {τ:Type}(f:τ→Value)(vals:List τ){tt e:TypeId}{n:Nat}{x y:Operand}{i:Int}{kd:IntKind}{v:τ}(hi:ix vals i=some v)(h:AL r P ops Q rest C ((d,f v)::l) H)
  (hx:ev l x=some (.agg (vals.map f).toArray):=by rfl) (hy:ev l y=some (.int kd i):=by rfl) (ht:P.underlying tt=some (.array n e):=by rfl) (hl:vals.length=n:=by rfl) (hS:szB P e=some 1:=by kernel_rfl) (hA:aggB P e=some false:=by kernel_rfl) (hd:Nat.ble (d+1) C.n=true:=by rfl):
  AL r P ops Q (⟨some d,.index tt x y,T,pos,af,none⟩::rest) C l H:=fun a w hf hh=>by
 subst hl
 obtain⟨p,q⟩:=ix_ok hi
 obtain⟨j,rfl,hj⟩:=ix_some hi
 refine Z.val hf hd ?_ fun a' hf'=>h a' w hf' hh
 have h0:(part e (vals.map f).toArray (((j:Int)).toNat*1)).run P w=.ok (f v) w:=Z.part_one w (aggB_run hA) (by simp[hj])
 simp only[execOp,Instr.index,Sem.run_bind,hf.eval hx,hf.eval hy,asIntOf,Sem.run_pure,Result.andThen_ok,run_underlying ht,szB_run hS w]
 rw[if_pos ⟨p,q⟩]
 simp only[Sem.run_bind,szB_run hS w,Result.andThen_ok,h0,Sem.run_pure]
theorem AL.cutv (k:Nat){t:Ty}{tt e e':TypeId}{x lo:Operand}{A:Option Addr}{c u:Nat}{xs:List t.den}{k1:IntKind}{p:Int}(hp:p=(u:Int))(h1:u≤xs.length)
  (h:AL r P ops Q rest C ((d,.slice (cutA A c u t.size) (xs.length-u) (c-u))::l) H)
  (hk1:hk H k=some (.own t e' A c xs):=by rfl) (hx:ev l x=some (.slice A xs.length c):=by rfl) (hlo:ev l lo=some (.int k1 p):=by rfl) (hS:szB P e=some t.size:=by kernel_rfl)
  (ht:P.underlying tt=some (.slice e):=by rfl) (hd:Nat.ble (d+1) C.n=true:=by rfl):AL r P ops Q (⟨some d,.slice tt x (some lo) none none,T,pos,af,none⟩::rest) C l H:=fun a w hf hh=>
 Z.val hf hd (r_slice_l ht (szB_run hS) (hf.eval hx) (hf.eval hlo) hp h1) fun a' hf'=>h a' w hf' hh
theorem Row.drop {t:Ty}{w:World}{F G:Nat→Prop}{A:Option Addr}{c u:Nat}{xs:List t.den}(h:Row t w F G A c xs)(hu:u≤xs.length):Row t w F G (cutA A c u t.size) (c-u) (xs.drop u):=by
 obtain⟨h2,h3,cells,h4,h5,h6⟩:=h
 refine⟨by rw[List.length_drop];omega,by omega,cells.drop (u*t.size),by rw[List.length_drop,List.length_drop,h4,Nat.sub_mul],?_,fun i x hi=>?_⟩
 ·rw[List.length_drop]
  by_cases hz:xs.length-u=0
  ·exact .inl hz
  ·rcases h5 with h5|⟨b,o,rfl,hb,hc⟩
   ·omega
   ·refine .inr ⟨b,o+u*t.size,by unfold cutA;rw[if_neg (by omega),Option.map_some,Addr.add_lit],hb,fun j v hv=>?_⟩
    rw[List.getElem?_drop]at hv
    rw[Nat.add_assoc];exact hc _ v hv
 ·rw[List.getElem?_drop]at hi
  rw[List.drop_drop,←Nat.add_mul]
  exact h6 _ x hi
theorem AL.ixw (k kn:Nat){t:Ty}{e':TypeId}{A:Option Addr}{c u n2:Nat}{xs:List t.den}{x y:Operand}{i:Int}{kd:IntKind}{v:t.den}{e tt:TypeId}(hi:ix (xs.drop u) i=some v)(hu:u≤xs.length)(hlen:n2-u=xs.length-u)
  (h:t.ok v→tele (lv t) fun ps=>∀b o,AL r P ops Q rest C ((d,.pointer (some ⟨b,o+i.toNat*t.size,none⟩))::l) (hcat (kx (kn+1) (rs t v ps)) ((kn,.el (some k) b (o+i.toNat*t.size) (cl t v ps))::H)))
  (hk1:hk H k=some (.own t e' A c xs):=by rfl) (hx:ev l x=some (.slice (cutA A c u t.size) (n2-u) (c-u)):=by rfl) (hy:ev l y=some (.int kd i):=by rfl) (ht:P.underlying tt=some (.slice e):=by rfl) (hs:szB P e=some t.size:=by kernel_rfl)
  (hd:Nat.ble (d+1) C.n=true:=by rfl) (hn:nok H kn (1+lv t)=true:=by kernel_rfl):AL r P ops Q (⟨some d,.indexAddr tt x y,T,pos,af,none⟩::rest) C l H:=
 AL.ixc (ko:=some k) (fun w hh=>by
  obtain⟨G,hR,hG⟩:=rowO hk1 w hh
  exact⟨G,hR.drop hu,hG⟩) (fun j h r hr=>by injection h with h;subst h;rw[hk1]at hr;injection hr with hr;subst hr;rfl) (by rw[hx,hlen,List.length_drop]) hy hi ht hs (fun ho=>tele_map (fun ps h b o _=>h b o) (h ho)) hd fun ps hl=>by rw[rs_len t v ps hl];exact hn
end
section
variable {C:Cx}{l:List (Nat×Value)}{H:List (Nat×Res)}{P:Program}
theorem vw {x:Operand}{A:Option Addr}{c n2 u:Nat}{α:Type}{xs:List α}(hx:ev l x=some (.slice A (n2-u) c))(h:n2-u=xs.length-u):ev l x=some (.slice A (xs.drop u).length c):=by rw[hx,h,List.length_drop]
theorem pkw {X:Act→World→Prop}(k kn:Nat){t:Ty}{e:TypeId}{A:Option Addr}{c u:Nat}{xs:List t.den}{i:Int}{v:t.den}(hi:ix (xs.drop u) i=some v)(hu:u≤xs.length)
  (h:t.ok v→tele (lv t) fun ps=>∀b o,cutA A c u t.size=some ⟨b,o,none⟩→∀a w,Fr a C.n C.ds l→Hp C (hcat (kx (kn+1) (rs t v ps)) ((kn,.el (some k) b (o+i.toNat*t.size) (cl t v ps))::H)) w→X a w)
  (hk1:hk H k=some (.own t e A c xs):=by rfl) (hn:nok H kn (1+lv t)=true:=by kernel_rfl): ∀a w,Fr a C.n C.ds l→Hp C H w→X a w:=fun a w hf hh=>by
 obtain⟨k',rfl,hv⟩:=ix_some hi
 obtain⟨G,hR,hG⟩:=rowO hk1 w hh
 obtain⟨b,o,es,hA,hb,hbl,hc,hr⟩:=(hR.drop hu).at hv
 obtain⟨ps,hl,rfl,hrs⟩:=rep_cl (B:=Bk H) t (rep_in t hr)
 have hnk:hk H kn=none:=nok_none hn (Nat.le_refl _) (by omega)
 have h1:Hp C ((kn,.el (some k) b (o+k'*t.size) (cl t v ps))::H) w:=hh.add hnk rfl (fun j hj r hr=>by injection hj with hj;subst hj;rw[hk1]at hr;injection hr with hr;subst hr;rfl) ⟨hc,hbl,hG b hb⟩
 have hn2:nok H (kn+1) (rs t v ps).length=true:=by
  rw[rs_len t v ps hl]
  rw[Nat.add_comm 1]at hn
  simp only[nok,Bool.and_eq_true]at hn;exact hn.2
 have hnn: ∀n k2,nok H k2 n=true→(∀j,k2≤j→j<k2+n→j≠kn)→nok ((kn,.el (some k) b (o+k'*t.size) (cl t v ps))::H) k2 n=true:=by
  intro n
  induction n with
  |zero=>intro _ _ _;rfl
  |succ n ih=>
   intro k2 h2 h3
   simp only[nok,Bool.and_eq_true]at h2 ⊢
   refine⟨?_,ih (k2+1) h2.2 fun j h4 h5=>h3 j (by omega) (by omega)⟩
   rw[hk_cons,if_neg (Ne.symm (h3 k2 (Nat.le_refl _) (by omega)))];exact h2.1
 have h2:Hp C (hcat (kx (kn+1) (rs t v ps)) ((kn,.el (some k) b (o+k'*t.size) (cl t v ps))::H)) w:=by
  refine h1.adds (hnn _ _ hn2 fun j h4 _=>by omega) fun r2 h4=>?_
  obtain⟨h5,h6,h7⟩:=hrs r2 h4
  have hbk: ∀j b',Bk ((kn,.el (some k) b (o+k'*t.size) (cl t v ps))::H) j b'↔Bk H j b':=fun j b'=>by
   by_cases hj:j=kn
   ·subst hj
    rw[Bk.cons_eq]
    exact⟨fun h=>by simp[Res.bl]at h,fun⟨_,h8,_⟩=>by rw[hnk]at h8;cases h8⟩
   ·exact Bk.cons_ne hj
  exact⟨h6,h7,Res.to h5 (S:=[]) (Ch.refl w) (fun b' hF _=>⟨by simp,⟨fun j hj=>hF.1.1 j ((hbk j b').1 hj),hF.1.2⟩,hF.2⟩) (fun b' hB _=>⟨by simp,fun j hj=>hB j ((hbk j b').1 hj)⟩) (fun i b' _ hB=>⟨by simp,(hbk i b').2 hB⟩) (by simp)⟩
 exact tele_at (h (rep_ok t hr)) ps hl b o hA a w hf (by rw[Int.toNat_natCast];exact h2)
theorem Dats.rep0 (H:List (Nat×Res)): ∀n,Dats H .byte (List.replicate n (.int .u8 0)) (List.replicate n 0)
 |0=>rfl
 |n+1=>⟨rfl,Dats.rep0 H n⟩
theorem pkb {X:Act→World→Prop}(k kn:Nat){τ:Type}(f:τ→Value)(vals:List τ)(o:Nat){bt:TypeId}{g:Nat}{cs:List Value}{i:Int}{v:τ}(hi:ix vals i=some v)
  (h: ∀a w,Fr a C.n C.ds l→Hp C ((kn,.el (some k) g (o+i.toNat*1) [f v])::H) w→X a w)
  (hb:hk H k=some (.blk g bt cs):=by rfl) (hcs:(cs.drop o).take vals.length=vals.map f:=by rfl) (hn:hk H kn=none:=by kernel_rfl): ∀a w,Fr a C.n C.ds l→Hp C H w→X a w:=fun a w hf hh=>by
 obtain⟨j,rfl,hj⟩:=ix_some hi
 have hB:Blk w g bt cs:=hh.hold k _ hb
 refine h a w hf (hh.add hn rfl (fun i hi r hr=>by
   simp only[Res.ref,Option.some.injEq]at hi;subst hi;rw[hb]at hr;injection hr with hr;subst hr;rfl) ⟨fun q u hu=>?_,hB.lt,⟨_,hb,by simp[Res.bl]⟩⟩)
 cases q with
 |succ q=>simp at hu
 |zero=>
  simp only[List.getElem?_cons_zero,Option.some.injEq]at hu
  subst hu
  rw[Addr.add_lit,Nat.add_zero,hB.cell,Int.toNat_natCast,Nat.mul_one]
  have hlt:=(List.getElem?_eq_some_iff.1 hj).1
  have h3:((cs.drop o).take vals.length)[j]?=some (f v):=by rw[hcs,List.getElem?_map,hj];rfl
  rw[List.getElem?_take_of_lt hlt,List.getElem?_drop]at h3
  exact h3
end
end Go.A
end
section
set_option linter.unusedVariables false
set_option linter.unusedSimpArgs false
set_option maxRecDepth 20000
set_option maxHeartbeats 8000000
set_option synthInstance.maxSize 1000000
set_option synthInstance.maxHeartbeats 400000
namespace Go.Proofs.YtlbnpmfggfbdoaaGreatDoor
open Go.RowKit
def F.summ_within (a0:Int):Option Bool:=some (bif decide ((0:Int)≤a0)then decide (a0≤1048576)else false)
theorem summ_within_ok (a0:Int)(h0_:IntKind.i64.has a0)(r:Bool)(hF:F.summ_within a0=some r):
    A.Ct Tryz.prog 132 [.int .i64 a0] [] [] (fun v H'=>v=.bool r∧H'=[]):=by
 refine A.Ct.enter Tryz.func132 rfl Tryz.ntmps132 rfl fun w0 F0=>?_
 rw[F.summ_within]at hF
 refine A.xl 1 ?_
 refine A.q0 [] [] [.n] [] ?_
 refine A.dl 2 ?_
 refine A.q0 [] [] [.n,.n,.n,.sy .n,.sy .n,.pk,.n] [(2,.bool (bif decide ((0:Int)≤a0)then decide (a0≤1048576)else false))] ?_
 refine A.dx 1 ?_
 obtain rfl:=Option.some.inj hF
 exact A.rt1 [] ⟨rfl,rfl⟩
def F.summ_may_j1:Option Bool:=some false
def F.summ_may_l2 (a0:D44):Nat→Int→Option Bool
 |0,_=>none
 |f+1,y5=>if y5<4 then((A.ix [a0.2.2.2.2.1,a0.2.2.2.2.2.1,a0.2.2.2.2.2.2.1,a0.2.2.2.2.2.2.2] y5).bind fun x8=>((F.summ_within x8).bind fun r10=>(if(!r10)=true then(some false)else(if(bif decide (a0.2.2.2.1≤y5)then decide (x8≠0)else false)=true then(some false)else(A.gd (Z.R64 (y5+1)) ((F.summ_may_l2 a0 f) (y5+1)))))))else(some true)
def F.summ_may (a0:D44):Option Bool:=if(bif decide (a0.1<0)then true else decide ((4:Int)<a0.1))=true then(F.summ_may_j1)else(if(bif decide (a0.2.2.2.1<0)then true else decide ((4:Int)<a0.2.2.2.1))=true then(F.summ_may_j1)else(A.gd (((bif decide (a0.2.1<0)then true else decide (a0.1<a0.2.1))=false→Z.R64 (a0.2.1+a0.2.2.2.1))) (if(bif bif decide (a0.2.1<0)then true else decide (a0.1<a0.2.1)then true else decide ((4:Int)<a0.2.1+a0.2.2.2.1))=true then(F.summ_may_j1)else((F.summ_within a0.2.2.1).bind fun r3=>(if(!r3)=true then(F.summ_may_j1)else(if(bif decide (a0.2.1=0)then decide (a0.2.2.1≠0)else false)=true then(F.summ_may_j1)else(F.summ_may_l2 a0 A.FU 0)))))))
theorem summ_may_ok (a0:D44)(h0_:IntKind.i64.has a0.1)(h1_:IntKind.i64.has a0.2.1)(h2_:IntKind.i64.has a0.2.2.1)(h3_:IntKind.i64.has a0.2.2.2.1)(h4_:IntKind.i64.has a0.2.2.2.2.1)(h5_:IntKind.i64.has a0.2.2.2.2.2.1)(h6_:IntKind.i64.has a0.2.2.2.2.2.2.1)(h7_:IntKind.i64.has a0.2.2.2.2.2.2.2)(r:Bool)(hF:F.summ_may a0=some r):
    A.Ct Tryz.prog 91 [.agg #[.int .i64 a0.1,.int .i64 a0.2.1,.int .i64 a0.2.2.1,.int .i64 a0.2.2.2.1,.int .i64 a0.2.2.2.2.1,.int .i64 a0.2.2.2.2.2.1,.int .i64 a0.2.2.2.2.2.2.1,.int .i64 a0.2.2.2.2.2.2.2]] [] [] (fun v H'=>v=.bool r∧H'=[]):=by
 refine A.Ct.enter Tryz.func91 rfl Tryz.ntmps91 rfl fun w0 F0=>?_
 rw[F.summ_may]at hF
 refine A.xl 1 ?_
 refine A.AL.box 0 (cs:=[.int .i64 a0.1,.int .i64 a0.2.1,.int .i64 a0.2.2.1,.int .i64 a0.2.2.2.1,.int .i64 a0.2.2.2.2.1,.int .i64 a0.2.2.2.2.2.1,.int .i64 a0.2.2.2.2.2.2.1,.int .i64 a0.2.2.2.2.2.2.2]) fun g1=>?_
 refine A.q0 [] [] [.n] [] ?_
 refine A.dx 3 ?_
 refine A.AX.join [] [] (fun nl nh=>nl=[]∧nh=[]∧F.summ_may_j1=some r) ?_ ?_
 ·refine A.xl 7 ?_
  refine A.q0 [0] [] [.n,.b 0 0,.n,.n,.sy .n,.sy (.b 0 0),.sy .n,.pk,.n] [(5,.bool (bif decide (a0.1<0)then true else decide ((4:Int)<a0.1)))] ?_
  refine A.dx 1 ?_
  refine A.AX.cnb rfl hF (fun hb hF=>?_) (fun hb hF=>?_)
  ·refine A.xe 4 ?_
   exact A.j ⟨rfl,rfl,hF⟩
  refine A.xl 4 ?_
  refine A.q0 [0] [] [.n,.b 0 3,.n,.n,.sy .n,.sy (.b 0 3),.sy .n,.pk,.n] [(14,.bool (bif decide (a0.2.2.2.1<0)then true else decide ((4:Int)<a0.2.2.2.1)))] ?_
  refine A.dx 1 ?_
  refine A.AX.cnb rfl hF (fun hb hF=>?_) (fun hb hF=>?_)
  ·refine A.xe 3 ?_
   exact A.j ⟨rfl,rfl,hF⟩
  refine A.xl 4 ?_
  obtain⟨hc2,hF⟩:=A.gd_some hF
  refine A.q [0] [] [.n,.b 0 1,.n,.n,.sy .n,.sy (.b 0 1),.sy .n,.sy (.b 0 0),.sy .n,.pk,.n,.sy .n,.sy (.b 0 1),.sy .n,.sy (.b 0 3),.sy .n,.sy .n,.pk,.n] [(bif decide (a0.2.1<0)then true else decide (a0.1<a0.2.1))=false→Z.R64 (a0.2.1+a0.2.2.2.1)] [(23,.bool (bif bif decide (a0.2.1<0)then true else decide (a0.1<a0.2.1)then true else decide ((4:Int)<a0.2.1+a0.2.2.2.1)))] hc2 ?_
  refine A.dx 1 ?_
  refine A.AX.cnb rfl hF (fun hb hF=>?_) (fun hb hF=>?_)
  ·refine A.xe 2 ?_
   exact A.j ⟨rfl,rfl,hF⟩
  refine A.xl 3 ?_
  refine A.q0 [0] [] [.n,.b 0 2] [(44,.int .i64 a0.2.2.1)] ?_
  obtain⟨r3,hv4,hF⟩:=A.bd_some hF
  refine A.AL.call 1 [] (first:=[]) (cap:=[]) cf132 (summ_within_ok a0.2.2.1 h2_ r3 hv4) .nil ?_
  rintro _ _ ⟨rfl,rfl⟩
  refine⟨by kernel_rfl,?_⟩
  refine A.q0 [] [] [.n,.n] [(47,.bool (!r3))] ?_
  refine A.AL.cnd (j:=47) rfl hF (fun hF=>?_) (fun hF=>?_)
  ·refine A.q0 [] [] [.off,.off,.off,.off,.off,.off,.off,.off,.n,.n] [(42,.bool true)] ?_
   refine A.dx 1 ?_
   refine A.AX.cnt rfl ?_
   refine A.xe 1 ?_
   exact A.j ⟨rfl,rfl,hF⟩
  refine A.q0 [0] [] [.on .n,.on (.b 0 1),.on .n,.on .n,.sy .n,.sy (.b 0 2),.sy .n,.on .pk,.n,.n] [(42,.bool (bif decide (a0.2.1=0)then decide (a0.2.2.1≠0)else false))] ?_
  refine A.dx 1 ?_
  refine A.AX.cnb rfl hF (fun hb hF=>?_) (fun hb hF=>?_)
  ·refine A.xe 1 ?_
   exact A.j ⟨rfl,rfl,hF⟩
  refine A.xl 6 ?_
  refine A.q0 [0] [] [.n,.b 0 4,.n] [(58,.agg #[.int .i64 a0.2.2.2.2.1,.int .i64 a0.2.2.2.2.2.1,.int .i64 a0.2.2.2.2.2.2.1,.int .i64 a0.2.2.2.2.2.2.2]),(59,.int .i64 0)] ?_
  refine A.dx 2 ?_
  refine A.lp_ [1,58] [0] (fun f nl nh=>∃(y5:Int),nl=[(59,.int .i64 y5)]∧nh=[]∧IntKind.i64.has y5∧F.summ_may_l2 a0 f y5=some r) ⟨0,rfl,rfl,(A.hasl .i64 (0) rfl),hF⟩ ?_
  rintro f7 _ _ ⟨y5,rfl,rfl,hy6,hF⟩
  rcases f7 with _|f7
  ·exact A.no0 hF
  rw[F.summ_may_l2]at hF
  refine A.xl 1 ?_
  refine A.q0 [] [] [.n] [(60,.bool (decide (y5<4)))] ?_
  refine A.dx 2 ?_
  refine A.AX.cnd rfl hF (fun hb hF=>?_) (fun hb hF=>?_)
  ·refine A.xl 5 ?_
   refine A.q0 [] [] [.n] [(61,.int .i64 y5)] ?_
   obtain⟨x8,hv9,hF⟩:=A.bd_some hF
   refine A.AL.ixv (fun v:Int=>.int .i64 v) [a0.2.2.2.2.1,a0.2.2.2.2.2.1,a0.2.2.2.2.2.2.1,a0.2.2.2.2.2.2.2] hv9 ?_
   refine A.q0 [] [] [.n,.n] [(3,.int .i64 y5),(4,.int .i64 x8)] ?_
   refine A.dl 2 ?_
   refine A.q0 [] [] [.n] [(63,.int .i64 x8)] ?_
   obtain⟨r10,hv11,hF⟩:=A.bd_some hF
   refine A.AL.call 121 [] (first:=[]) (cap:=[]) cf132 (summ_within_ok x8 (A.has_ix hv9 (List.forall_mem_cons.2 ⟨h4_,(List.forall_mem_cons.2 ⟨h5_,(List.forall_mem_cons.2 ⟨h6_,(List.forall_mem_cons.2 ⟨h7_,(by simp)⟩)⟩)⟩)⟩)) r10 hv11) .nil ?_
   rintro _ _ ⟨rfl,rfl⟩
   refine⟨by kernel_rfl,?_⟩
   refine A.q0 [] [] [.n,.n] [(66,.bool (!r10))] ?_
   refine A.AL.cnd (j:=66) rfl hF (fun hF=>?_) (fun hF=>?_)
   ·refine A.q0 [] [] [.off,.off,.off,.off,.off,.off,.off,.off,.n] [(75,.bool true)] ?_
    refine A.dx 1 ?_
    refine A.AX.cnt rfl ?_
    refine A.xl 1 ?_
    refine A.q0 [] [] [.n] [(2,.bool false)] ?_
    refine A.dx 1 ?_
    obtain rfl:=Option.some.inj hF
    exact A.rt1 [] ⟨rfl,rfl⟩
   refine A.q0 [0] [] [.on .n,.on .n,.on (.b 0 3),.on .n,.on .n,.sy .n,.sy .n,.on .pk,.n] [(75,.bool (bif decide (a0.2.2.2.1≤y5)then decide (x8≠0)else false))] ?_
   refine A.dx 1 ?_
   refine A.AX.cnb rfl hF (fun hb hF=>?_) (fun hb hF=>?_)
   ·refine A.xl 1 ?_
    refine A.q0 [] [] [.n] [(2,.bool false)] ?_
    refine A.dx 1 ?_
    obtain rfl:=Option.some.inj hF
    exact A.rt1 [] ⟨rfl,rfl⟩
   refine A.xl 3 ?_
   obtain⟨hc12,hF⟩:=A.gd_some hF
   refine A.q [] [] [.n,.n] [Z.R64 (y5+1)] [(59,.int .i64 (y5+1))] hc12 ?_
   refine A.AL.done ?_
   exact A.j ⟨_,Nat.lt_succ_self _,⟨(y5+1),rfl,rfl,(Z.i64_has hc12),hF⟩⟩
  refine A.xl 3 ?_
  refine A.q0 [] [] [.n] [(2,.bool true)] ?_
  refine A.dx 1 ?_
  obtain rfl:=Option.some.inj hF
  exact A.rt1 [] ⟨rfl,rfl⟩
 rintro _ _ ⟨rfl,rfl,hF⟩
 rw[F.summ_may_j1]at hF
 refine A.xl 2 ?_
 refine A.q0 [] [] [.n] [(2,.bool false)] ?_
 refine A.dx 1 ?_
 obtain rfl:=Option.some.inj hF
 exact A.rt1 [] ⟨rfl,rfl⟩
def F.summ_Ends (a0:D44):Option Int:=(F.summ_may (a0.1,a0.2.1,a0.2.2.1,a0.2.2.2.1,(a0.2.2.2.2.1,a0.2.2.2.2.2.1,a0.2.2.2.2.2.2.1,a0.2.2.2.2.2.2.2))).bind fun r2=>(if(!r2)=true then(some 0)else(A.gd (Z.R64 (a0.2.1+a0.2.2.2.1)) (some (a0.2.1+a0.2.2.2.1))))
theorem summ_Ends_ok (a0:D44)(h0_:IntKind.i64.has a0.1)(h1_:IntKind.i64.has a0.2.1)(h2_:IntKind.i64.has a0.2.2.1)(h3_:IntKind.i64.has a0.2.2.2.1)(h4_:IntKind.i64.has a0.2.2.2.2.1)(h5_:IntKind.i64.has a0.2.2.2.2.2.1)(h6_:IntKind.i64.has a0.2.2.2.2.2.2.1)(h7_:IntKind.i64.has a0.2.2.2.2.2.2.2)(r:Int)(hF:F.summ_Ends a0=some r):
    A.Ct Tryz.prog 106 [.agg #[.int .i64 a0.1,.int .i64 a0.2.1,.int .i64 a0.2.2.1,.int .i64 a0.2.2.2.1,.int .i64 a0.2.2.2.2.1,.int .i64 a0.2.2.2.2.2.1,.int .i64 a0.2.2.2.2.2.2.1,.int .i64 a0.2.2.2.2.2.2.2]] [] [] (fun v H'=>v=.int .i64 r∧H'=[]∧IntKind.i64.has r):=by
 refine A.Ct.enter Tryz.func106 rfl Tryz.ntmps106 rfl fun w0 F0=>?_
 rw[F.summ_Ends]at hF
 refine A.xl 1 ?_
 refine A.AL.box 0 (cs:=[.int .i64 a0.1,.int .i64 a0.2.1,.int .i64 a0.2.2.1,.int .i64 a0.2.2.2.1,.int .i64 a0.2.2.2.2.1,.int .i64 a0.2.2.2.2.2.1,.int .i64 a0.2.2.2.2.2.2.1,.int .i64 a0.2.2.2.2.2.2.2]) fun g1=>?_
 refine A.q0 [] [] [.n] [] ?_
 refine A.dl 3 ?_
 refine A.q0 [0] [] [.b 0 0] [(3,.agg #[.int .i64 a0.1,.int .i64 a0.2.1,.int .i64 a0.2.2.1,.int .i64 a0.2.2.2.1,.int .i64 a0.2.2.2.2.1,.int .i64 a0.2.2.2.2.2.1,.int .i64 a0.2.2.2.2.2.2.1,.int .i64 a0.2.2.2.2.2.2.2])] ?_
 obtain⟨r2,hv3,hF⟩:=A.bd_some hF
 refine A.AL.call 1 [] (first:=[]) (cap:=[]) cf91 (summ_may_ok (a0.1,a0.2.1,a0.2.2.1,a0.2.2.2.1,(a0.2.2.2.2.1,a0.2.2.2.2.2.1,a0.2.2.2.2.2.2.1,a0.2.2.2.2.2.2.2)) h0_ h1_ h2_ h3_ h4_ h5_ h6_ h7_ r2 hv3) .nil ?_
 rintro _ _ ⟨rfl,rfl⟩
 refine⟨by kernel_rfl,?_⟩
 refine A.q0 [] [] [.n] [(5,.bool (!r2))] ?_
 refine A.dx 1 ?_
 refine A.AX.cnb rfl hF (fun hb hF=>?_) (fun hb hF=>?_)
 ·refine A.xl 1 ?_
  refine A.q0 [] [] [.n] [(2,.int .i64 0)] ?_
  refine A.dx 1 ?_
  obtain rfl:=Option.some.inj hF
  exact A.rt1 [] ⟨rfl,rfl,(A.hasl .i64 (0) rfl)⟩
 refine A.xl 3 ?_
 obtain⟨hc4,hF⟩:=A.gd_some hF
 refine A.q [0] [] [.n,.b 0 1,.n,.b 0 3,.n,.n] [Z.R64 (a0.2.1+a0.2.2.2.1)] [(2,.int .i64 (a0.2.1+a0.2.2.2.1))] hc4 ?_
 refine A.dx 1 ?_
 obtain rfl:=Option.some.inj hF
 exact A.rt1 [] ⟨rfl,rfl,(Z.i64_has hc4)⟩
def F.summ_counters (a0:D44):Option (D44):=some (a0.1,a0.2.1,a0.2.2.1,a0.2.2.2.1,(a0.2.2.2.2.1,a0.2.2.2.2.2.1,a0.2.2.2.2.2.2.1,a0.2.2.2.2.2.2.2))
theorem summ_counters_ok (a0:D44)(h0_:IntKind.i64.has a0.1)(h1_:IntKind.i64.has a0.2.1)(h2_:IntKind.i64.has a0.2.2.1)(h3_:IntKind.i64.has a0.2.2.2.1)(h4_:IntKind.i64.has a0.2.2.2.2.1)(h5_:IntKind.i64.has a0.2.2.2.2.2.1)(h6_:IntKind.i64.has a0.2.2.2.2.2.2.1)(h7_:IntKind.i64.has a0.2.2.2.2.2.2.2)(r:(D44))(hF:F.summ_counters a0=some r):
    A.Ct Tryz.prog 169 [.agg #[.int .i64 a0.1,.int .i64 a0.2.1,.int .i64 a0.2.2.1,.int .i64 a0.2.2.2.1,.int .i64 a0.2.2.2.2.1,.int .i64 a0.2.2.2.2.2.1,.int .i64 a0.2.2.2.2.2.2.1,.int .i64 a0.2.2.2.2.2.2.2]] [] [] (fun v H'=>∃(g0':Nat),v=.func (.func 186) #[] #[.pointer (some ⟨g0',0,none⟩)]∧H'=[(0,.blk g0' 45 [.int .i64 r.1,.int .i64 r.2.1,.int .i64 r.2.2.1,.int .i64 r.2.2.2.1,.int .i64 r.2.2.2.2.1,.int .i64 r.2.2.2.2.2.1,.int .i64 r.2.2.2.2.2.2.1,.int .i64 r.2.2.2.2.2.2.2])]∧IntKind.i64.has r.1∧IntKind.i64.has r.2.1∧IntKind.i64.has r.2.2.1∧IntKind.i64.has r.2.2.2.1∧IntKind.i64.has r.2.2.2.2.1∧IntKind.i64.has r.2.2.2.2.2.1∧IntKind.i64.has r.2.2.2.2.2.2.1∧IntKind.i64.has r.2.2.2.2.2.2.2):=by
 refine A.Ct.enter Tryz.func169 rfl Tryz.ntmps169 rfl fun w0 F0=>?_
 rw[F.summ_counters]at hF
 refine A.xl 1 ?_
 refine A.AL.box 0 (cs:=[.int .i64 a0.1,.int .i64 a0.2.1,.int .i64 a0.2.2.1,.int .i64 a0.2.2.2.1,.int .i64 a0.2.2.2.2.1,.int .i64 a0.2.2.2.2.2.1,.int .i64 a0.2.2.2.2.2.2.1,.int .i64 a0.2.2.2.2.2.2.2]) fun g1=>?_
 refine A.q0 [] [] [.n] [] ?_
 refine A.dl 2 ?_
 refine A.q0 [] [] [.n,.n] [(2,.func (.func 186) #[] #[.pointer (some ⟨g1,0,none⟩)])] ?_
 refine A.dx 1 ?_
 obtain rfl:=Option.some.inj hF
 exact A.rt1 [(0,0)] ⟨g1,rfl,rfl,h0_,h1_,h2_,h3_,h4_,h5_,h6_,h7_⟩
end Go.Proofs.YtlbnpmfggfbdoaaGreatDoor
end
section
set_option linter.unusedVariables false
set_option linter.unusedSimpArgs false
set_option linter.unusedSectionVars false
namespace Go.A
open Go.RowKit Go.Z
structure In1 (T t:Ty) where
 get:T.den→List t.den
 set:T.den→List t.den→T.den
 pos:Nat
 hlt:pos<T.size
 hcl: ∀x ys p q,cl T (set x ys) [q]=(cl T x [p]).set pos (.slice q.1 ys.length q.2)
 hgs: ∀x ys,get (set x ys)=ys
 hss: ∀x a b,set (set x a) b=set x b
 hsg: ∀x,set x (get x)=x
 hrep: ∀(w:World) (F:Nat→Prop) x ys p q,T.rep w F (cl T x [p]) x→(Ty.slice t).rep w F [.slice q.1 ys.length q.2] ys→T.rep w F (cl T (set x ys) [q]) (set x ys)
theorem cl_lenN: ∀(t:Ty) (x:t.den) (ps:Lf),ps.length=lv t→(cl t x ps).length=t.size
 | .int _,_,_,_=>rfl
 | .byte,_,_,_=>rfl
 | .bool,_,_,_=>rfl
 | .str,_,_,_=>rfl
 | .slice _,_,[_],_=>rfl
 | .slice _,_,[],h=>by cases h
 | .slice _,_,_::_::_,h=>by simp[lv]at h
 | .pair a b,v,ps,h=>by
  simp only[cl,List.length_append,Ty.size]
  simp only[lv]at h
  rw[cl_lenN a v.1 _ (by rw[List.length_take];omega),cl_lenN b v.2 _ (by rw[List.length_drop];omega)]
def In1.snd (s t:Ty)(h:lv s=0):In1 (.pair s (.slice t)) t where
 get x:=x.2
 set x ys:=(x.1,ys)
 pos:=s.size
 hlt:=by show s.size<s.size+1;omega
 hcl x ys p q:=by
  have e: ∀(z:s.den) (zs:List t.den) (u:Option Addr×Nat),cl (.pair s (.slice t)) (z,zs) [u]=cl s z []++[.slice u.1 zs.length u.2]:=fun z zs u=>by
   simp only[cl,h,List.take_zero,List.drop_zero]
  have hl:(cl s x.1 []).length=s.size:=cl_lenN s x.1 [] (by simp[h])
  rw[e x.1 ys q,show cl (.pair s (.slice t)) x [p]=cl s x.1 []++[.slice p.1 x.2.length p.2]from e x.1 x.2 p,List.set_append_right _ _ (by omega),hl,Nat.sub_self];rfl
 hgs _ _:=rfl
 hss _ _ _:=rfl
 hsg _:=rfl
 hrep w F x ys p q h1 h2:=by
  have e: ∀(z:s.den) (zs:List t.den) (u:Option Addr×Nat),cl (.pair s (.slice t)) (z,zs) [u]=cl s z []++[.slice u.1 zs.length u.2]:=fun z zs u=>by
   simp only[cl,h,List.take_zero,List.drop_zero]
  obtain⟨ca,cb,h3,h4,h5⟩:=h1
  rw[show cl (.pair s (.slice t)) x [p]=cl s x.1 []++[.slice p.1 x.2.length p.2]from e x.1 x.2 p]at h3
  have hl:(cl s x.1 []).length=ca.length:=by rw[cl_lenN s x.1 [] (by simp[h]),rep_len s h4]
  rw[(List.append_inj h3 hl).1.symm]at h4
  rw[e x.1 ys q]
  exact⟨_,_,rfl,h4,h2⟩
def rblx (h:Option Nat)(As:Lf):List Nat:=match h with
 |none=>rbl As
 |some i=>rbl (As.set i (none,0))
theorem rblx_at {h:Option Nat}{As:Lf}{i:Nat}{a:Option Addr×Nat}(ha:As[i]?=some a)(hi:h≠some i){b:Nat}(hb:b∈obl a.1):b∈rblx h As:=by
 cases h with
 |none=>exact mem_rbl ha hb
 |some j=>exact mem_rbl (As:=As.set j (none,0)) (i:=i) (by rw[List.getElem?_set_ne (fun e=>hi (by rw[e]))];exact ha) hb
def NR {T t:Ty}(I:In1 T t)(e ei:TypeId)(A:Option Addr)(c:Nat)(xs:List T.den)(As:Lf)(h:Option Nat)(w:World)(F:Nat→Prop):Prop:=
 ∃cells:List Value,w.ownsRow 0 e T.size (.slice A xs.length c) xs.length cells∧(∀u∈cells,u.oneCell'=true)∧As.length=xs.length∧(obl A++rblx h As).Nodup∧(∀b,b∈obl A++rblx h As→b<w.heap.size)∧
  ∀(i:Nat) (x:T.den) (a:Option Addr×Nat),xs[i]?=some x→As[i]?=some a→(cells.drop (i*T.size)).take T.size=cl T x [a]∧T.rep w F (cl T (I.set x []) [(none,0)]) (I.set x [])∧(h≠some i→Own t ei 0 w F a.1 a.2 (I.get x))
theorem owr_to {w w':World}{S:List Nat}{e:TypeId}{sz n c m:Nat}{A:Option Addr}{cells:List Value}(h:w.ownsRow 0 e sz (.slice A n c) m cells)(hc:Ch S w w')(hA: ∀b,b∈obl A→b∉S):w'.ownsRow 0 e sz (.slice A n c) m cells:=by
 refine⟨h.1,?_⟩
 rcases h.2 with h3|⟨g,cap,cur,hv,hb,hg,rest⟩
 ·exact .inl h3
 ·refine .inr ⟨g,cap,cur,hv,hb,?_,rest⟩
  injection hv with hA' _ _
  have hm:g∈obl A:=by rw[hA'];simp[obl]
  rw[hc.block g (Array.getElem?_eq_some_iff.1 hg).1 (hA g hm)]
  exact hg
section
variable {T t:Ty}{I:In1 T t}{e ei:TypeId}{A:Option Addr}{c:Nat}{xs:List T.den}{As:Lf}{h:Option Nat}
theorem NR.to {w w':World}{F F':Nat→Prop}{S:List Nat}(hn:NR I e ei A c xs As h w F)(hc:Ch S w w')(hb: ∀b,b∈obl A++rblx h As→b∉S)(hF: ∀b,F b→b<w.heap.size→b∉S∧F' b):NR I e ei A c xs As h w' F':=by
 obtain⟨cells,h1,h2,h3,h4,h5,h6⟩:=hn
 refine⟨cells,owr_to h1 hc fun b hb'=>hb b (List.mem_append_left _ hb'),h2,h3,h4,fun b hb'=>Nat.lt_of_lt_of_le (h5 b hb') hc.size,fun i x a hx ha=>?_⟩
 obtain⟨h7,h8,h9⟩:=h6 i x a hx ha
 exact⟨h7,rep_to h8 hc hF,fun hi=>Own.to (h9 hi) hc (fun b hb' _ _=>hb b (List.mem_append_right _ (rblx_at ha hi hb'))) hF⟩
theorem NR.rep {w:World}{F:Nat→Prop}(hn:NR I e ei A c xs As none w F){F':Nat→Prop}(hF: ∀b,F b→F' b)(hB: ∀b,b∈rbl As→F' b):Own T e 0 w F' A c xs:=by
 obtain⟨cells,h1,h2,h3,h4,h5,h6⟩:=hn
 refine⟨cells,h1,h2,fun i x hx=>?_⟩
 have hi:=(List.getElem?_eq_some_iff.1 hx).1
 have ha:As[i]?=some As[i]:=List.getElem?_eq_getElem (by omega)
 obtain⟨h7,h8,h9⟩:=h6 i x _ hx ha
 have h10:=Own.rep (h9 (by simp)) hF fun b hb=>hB b (mem_rbl ha hb)
 have h11:=I.hrep w F' (I.set x []) (I.get x) (none,0) As[i] (rep_more hF T h8) h10
 rw[I.hss,I.hsg]at h11
 rw[h7];exact h11
end
section
variable {C:Cx}{l:List (Nat×Value)}{H:List (Nat×Res)}{X:Act→World→Prop}{T t:Ty}{e ei:TypeId}{A:Option Addr}{c:Nat}{xs:List T.den}{As:Lf}
end
section
variable {r:Option Nat}{P:Program}{ops:Array Oper}{Q:Exit→Act→World→Prop}{rest lst:List Oper}{C:Cx}{l:List (Nat×Value)}{H:List (Nat×Res)}{d:Nat}{T0:TypeId}{pos:String}{af:Array Edge}{T t:Ty}{e ei:TypeId}{A:Option Addr}{c:Nat}{xs ys:List T.den}{As Bs:Lf}
end
section
variable {r:Option Nat}{P:Program}{ops:Array Oper}{Q:Exit→Act→World→Prop}{C:Cx}{l:List (Nat×Value)}{H Hq:List (Nat×Res)}{m f:Nat}{li:List Bool}
end
end Go.A
end
section
set_option linter.unusedVariables false
set_option linter.unusedSimpArgs false
namespace Go.Z
open Go.RowKit Go.Lib
section
variable {P:Program}{a:Act}{w:World}{d:Option Tmp}{T:TypeId}{pos:String}{af:Array Edge}{gd:Option (Nat×Bool)}
theorem r_sliceA_h {t e:TypeId}{x hi:Operand}{n sz g o v:Nat}{k:IntKind}{p:Int}(ht:P.underlying t=some (.array n e))(hS: ∀w,(sizeOf e).run P w=.ok sz w)(hx:a.eval x=.pointer (some ⟨g,o,none⟩))(hl:a.eval hi=.int k p)(hp:p=(v:Int))(h1:v≤n):
  (execOp a.eval ⟨d,.slice t x none (some hi) none,T,pos,af,gd⟩).run P w=.ok (.value (.slice (some ⟨g,o,none⟩) v n)) w:=by
 subst hp
 by_cases hc:n=0
 ·obtain rfl:v=0:=by omega
  simp[execOp,Instr.sliceAt,run_underlying ht,hx,hl,Instr.sureAddr,Instr.sliceBounds,Instr.sliceBound,asIntOf,hS,hc,Addr.add]
 ·simp[execOp,Instr.sliceAt,run_underlying ht,hx,hl,Instr.sureAddr,Instr.sliceBounds,Instr.sliceBound,asIntOf,h1,hS,hc,Addr.add]
theorem r_sliceA_0 {t e:TypeId}{x:Operand}{n sz g o:Nat}(ht:P.underlying t=some (.array n e))(hS: ∀w,(sizeOf e).run P w=.ok sz w)(hx:a.eval x=.pointer (some ⟨g,o,none⟩)):
  (execOp a.eval ⟨d,.slice t x none none none,T,pos,af,gd⟩).run P w=.ok (.value (.slice (some ⟨g,o,none⟩) n n)) w:=by
 by_cases hc:n=0<;>simp[execOp,Instr.sliceAt,run_underlying ht,hx,Instr.sureAddr,Instr.sliceBounds,Instr.sliceBound,asIntOf,hS,hc,Addr.add]
end
theorem run_copyZ {P:Program}(w:World)(dT sT ty elem:TypeId)(d a:Option Addr)(dLen dCap sLen sCap m:Nat)(hu:P.underlying dT=some (.slice elem))(hs:(P.info? elem).map (·.size)=some m)(h0:Nat.min sLen dLen=0):
  (Builtin.copy_ #[dT,sT] ty #[.slice d dLen dCap,.slice a sLen sCap]).run P w=.ok (goInt 0) w:=by
 cases hq:P.info? elem with
 |none=>simp[hq]at hs
 |some i=>
  have hl: ∀(x:Addr),(loadCells x 0).run P w=.ok #[] w:=fun x=>by simpa using run_loadCells_list (P:=P) w x [] (by simp)
  have h1:min sLen dLen=0:=h0
  cases d<;>cases a<;>simp[Builtin.copy_,run_underlying hu,Builtin.lenOf,Builtin.firstCells,sizeOf,typeInfo,hq,storeCells,hl,h1]
end Go.Z
namespace Go.A
open Go.RowKit Go.Z
theorem hp_ch0 {C:Cx}{H:List (Nat×Res)}{w w':World}(h:Hp C H w)(hc:Ch [] w w'):Hp C H w':=
 ⟨⟨hc.os.trans h.ch.os,hc.tape.trans h.ch.tape,hc.output.trans h.ch.output,Nat.le_trans h.ch.size hc.size,fun b hb hn=>by rw[hc.block b (Nat.lt_of_lt_of_le hb h.ch.size) (by simp)];exact h.ch.block b hb hn⟩,
  fun k r hk=>Res.to (h.hold k r hk) hc (fun b hb _=>⟨by simp,hb⟩) (fun b hb _=>⟨by simp,hb⟩) (fun i b _ hB=>⟨by simp,hB⟩) (by simp),
  fun k b hb=>⟨(h.bnd k b hb).1,Nat.lt_of_lt_of_le (h.bnd k b hb).2 hc.size⟩,h.dis,h.ref⟩
section
variable {C:Cx}{H:List (Nat×Res)}{w:World}
theorem hp_vbk (k o:Nat)(js:List Nat){t:Ty}(xs:List t.den){g:Nat}{e:TypeId}{cs:List Value}(hD:Dats H t ((cs.drop o).take (xs.length*t.size)) xs)(hh:Hp C H w)(h:hk H k=some (.blk g e cs):=by rfl)(hx:Nat.ble xs.length 100000=true:=by rfl)(hj:hng [k] js H=true:=by kernel_rfl):
  Hp C ((k,.sh (.slice t) [.slice (some ⟨g,o,none⟩) xs.length xs.length] xs)::ded js H) w:=by
 have hB:Blk w g e cs:=hh.hold k _ h
 obtain⟨h1,h2,h3⟩:=Dats.all hh hD
 have hx:=Nat.le_of_ble_eq_true hx
 refine Hp.dd (hh.upd (S:=[]) (Ch.refl w) (by simp) (by simp[Res.bl]) (fun j hj=>by cases hj) fun F B q1 q2 _ _ _=>?_) hj
 refine⟨some ⟨g,o,none⟩,xs.length,_,rfl,Nat.le_refl _,by simp only[maxLen];omega,h1,.inr ⟨g,o,rfl,q2 g ⟨_,h,by simp[Res.bl]⟩ (by simp[Res.bl]),fun j u hu=>?_⟩,fun i y hi=>rep_as (h3 i y hi) fun b hb hlt=>q1 b hb hlt⟩
 rw[hB.cell]
 rw[List.getElem?_take]at hu
 split at hu
 ·rw[List.getElem?_drop]at hu;exact hu
 ·cases hu
end
section
variable {r:Option Nat}{P:Program}{ops:Array Oper}{Q:Exit→Act→World→Prop}{rest lst:List Oper}{C:Cx}{l:List (Nat×Value)}{H:List (Nat×Res)}{d:Nat}{T:TypeId}{pos:String}{af:Array Edge}
theorem AL.callF {H1:List (Nat×Res)}(hw: ∀w,Hp C H w→Hp C H1 w){f:FuncId}{c:Operand}{xs:List Operand}{vs vs' first cap:List Value}{ts:Array TypeId}{H0:List (Nat×Res)}{ls:List Nat}{R:Value→List (Nat×Res)→Prop}
  (hcf: ∀args w,(callFunc f args).run P w=.ok (.enter f args) w) (hct:Ct P f vs' H0 [] R) (hs:Sub H1 H0 [] ls)
  (h: ∀v H',R v H'→AL r P ops Q rest C ((d,v)::l) H)
  (hc:ev l c=some (.func (.func f) first.toArray cap.toArray):=by rfl) (hx:evs l xs=some vs:=by rfl) (hv:first++vs++cap=vs':=by rfl) (h1:nod (H0.map (·.1))=true:=by rfl) (hd:Nat.ble (d+1) C.n=true:=by rfl):
  AL r P ops Q (⟨some d,.call {callee:=.value c,args:=xs.toArray,argTypes:=ts},T,pos,af,none⟩::rest) C l H:=fun a w hf hh=>by
 subst hv
 have h3:ls.all (fun k=> !((([]:List (Nat×Nat)).map (·.2)).any (Nat.beq k)))=true:=List.all_eq_true.2 fun k _=>rfl
 refine Z.call1 hf hd (r_callv hcf hf (first:=first) (cap:=cap) (vs:=vs) (xs:=xs) hc hx) (hct w (Fh C H1) (hs.hp (hw w hh) h1 rfl h3)) fun e w' ⟨v,H',he,hR,hh'⟩=>⟨v,he,fun a' hf'=>?_⟩
 exact h v H' hR a' w' hf' (hp_ch0 hh hh'.ch)
theorem r_ixoA {a:Act}{w:World}{dd:Option Tmp}{gd:Option (Nat×Bool)}{tt e:TypeId}{n sz g:Nat}{x y:Operand}{i:Int}{kd:IntKind}{t:Ty}{xs:List t.den}{v:t.den}(hv:ix xs i=some v)(hl:n=xs.length)(ht:P.underlying tt=some (.array n e))(hS: ∀w,(sizeOf e).run P w=.ok sz w)(hx:a.eval x=.pointer (some ⟨g,0,none⟩))(hy:a.eval y=.int kd i)(hs:t.size=sz:=by rfl):
  (execOp a.eval ⟨dd,.indexAddr tt x y,T,pos,af,gd⟩).run P w=.ok (.value (.pointer (some ⟨g,i.toNat*t.size,none⟩))) w:=by
 subst hl;subst hs
 have h:=r_indexArr (P:=P) (w:=w) (dd:=dd) (gd:=gd) (T:=T) (pos:=pos) (af:=af) ht hS hx hy (ix_ok hv).1 (ix_ok hv).2
 rw[Nat.zero_add]at h;exact h
theorem AL.ixbE (k kn:Nat){τ:Type}(f:τ→Value)(vals:List τ)(off:Nat){tt e:TypeId}{n b o a0:Nat}{ko:Option Nat}{cs:List Value}{x y:Operand}{i:Int}{kd:IntKind}{v:τ}(hi:ix vals i=some v)
  (h:AL r P ops Q rest C ((d,.pointer (some ⟨b,a0+i.toNat*1,none⟩))::l) ((kn,.el ko b (a0+i.toNat*1) [f v])::H))
  (hb:hk H k=some (.el ko b o cs):=by rfl) (ha:a0=o+off:=by rfl) (hx:ev l x=some (.pointer (some ⟨b,a0,none⟩)):=by rfl) (hy:ev l y=some (.int kd i):=by rfl) (ht:P.underlying tt=some (.array n e):=by rfl) (hS:szB P e=some 1:=by kernel_rfl) (hl:vals.length=n:=by rfl) (hcs:(cs.drop off).take n=vals.map f:=by rfl)
  (hd:Nat.ble (d+1) C.n=true:=by rfl) (hn:hk H kn=none:=by kernel_rfl):AL r P ops Q (⟨some d,.indexAddr tt x y,T,pos,af,none⟩::rest) C l H:=fun a w hf hh=>by
 subst hl;subst ha
 have hb0:=ix_ok hi
 obtain⟨j,rfl,hj⟩:=ix_some hi
 have h0:Res.holds w (Fh C H) (Bk H) (.el ko b o cs):=hh.hold k _ hb
 obtain⟨h1,h2,h3⟩:=h0
 refine Z.val hf hd (r_indexArr ht (szB_run hS) (hf.eval hx) (hf.eval hy) hb0.1 hb0.2) fun a' hf'=>h a' w hf' (hh.add hn rfl (fun i hi r hr=>(hh.ref k _ i hb hi).2 r hr) ⟨fun q u hu=>?_,h2,h3⟩)
 cases q with
 |succ q=>simp at hu
 |zero=>
  simp only[List.getElem?_cons_zero,Option.some.injEq]at hu
  subst hu
  have hlt:=(List.getElem?_eq_some_iff.1 hj).1
  have h5:((cs.drop off).take vals.length)[j]?=some (f v):=by rw[hcs,List.getElem?_map,hj];rfl
  rw[List.getElem?_take_of_lt hlt,List.getElem?_drop]at h5
  have h6:=h1 (off+j) _ h5
  rw[Addr.add_lit]at h6 ⊢
  rw[Nat.add_zero,Int.toNat_natCast,Nat.mul_one,Nat.add_assoc]
  exact h6
end
section
variable {r:Option Nat}{P:Program}{ops:Array Oper}{Q:Exit→Act→World→Prop}{C:Cx}{l:List (Nat×Value)}{H Hq:List (Nat×Res)}{m f:Nat}{li:List Bool}
end
def cp4 (d s:List Int)(u v v2:Int):Option (Int×Int×Int×Int):=
 if 0≤u∧u≤v∧v≤4∧0≤v2∧v2≤4 then
  match d.take u.toNat++s.take (min (v.toNat-u.toNat) v2.toNat)++d.drop (u.toNat+min (v.toNat-u.toNat) v2.toNat)with
  | [a,b,c,e]=>some (a,b,c,e)
  |_=>none
 else none
theorem cp4_some {d s:List Int}{u v v2:Int}{y:Int×Int×Int×Int}(h:cp4 d s u v v2=some y):(0≤u∧u≤v∧v≤4∧0≤v2∧v2≤4)∧d.take u.toNat++s.take (min (v.toNat-u.toNat) v2.toNat)++d.drop (u.toNat+min (v.toNat-u.toNat) v2.toNat)=[y.1,y.2.1,y.2.2.1,y.2.2.2]:=by
 unfold cp4 at h
 split at h
 ·rename_i h1
  refine⟨h1,?_⟩
  split at h
  ·rename_i e;rw[e];obtain rfl:=Option.some.inj h;rfl
  ·cases h
 ·cases h
theorem cp4_has {d s:List Int}{u v v2:Int}{y:Int×Int×Int×Int}(h:cp4 d s u v v2=some y){k:IntKind}(hd: ∀x∈d,k.has x)(hs: ∀x∈s,k.has x):k.has y.1∧k.has y.2.1∧k.has y.2.2.1∧k.has y.2.2.2:=by
 obtain⟨_,e⟩:=cp4_some h
 have key: ∀x∈[y.1,y.2.1,y.2.2.1,y.2.2.2],k.has x:=fun x hx=>by
  rw[←e]at hx
  rcases List.mem_append.1 hx with hx|hx
  ·rcases List.mem_append.1 hx with hx|hx
   ·exact hd x (List.mem_of_mem_take hx)
   ·exact hs x (List.mem_of_mem_take hx)
  ·exact hd x (List.mem_of_mem_drop hx)
 exact⟨key _ (by simp),key _ (by simp),key _ (by simp),key _ (by simp)⟩
theorem cutA4 {g o u:Nat}(h:u<4):Z.cutA (some ⟨g,o,none⟩) 4 u 1=some ⟨g,o+u,none⟩:=by
 unfold Z.cutA;rw[if_neg (by omega),Nat.mul_one];show some (Addr.add ⟨g,o,none⟩ u)=_;rw[Addr.add_lit]
section
variable {r:Option Nat}{P:Program}{ops:Array Oper}{Q:Exit→Act→World→Prop}{rest lst:List Oper}{C:Cx}{l:List (Nat×Value)}{H:List (Nat×Res)}{d:Nat}{T:TypeId}{pos:String}{af:Array Edge}
theorem AL.cpB (k k2:Nat)(js:List Nat){dT sT e2 bt bt2:TypeId}{x y:Operand}{D:Option Addr}{g o g2 o2 n1 c1 n2 c2:Nat}{u v v2:Int}{ds ss:List Int}{cs cs2 cs':List Value}{z:Int×Int×Int×Int}(hz:cp4 ds ss u v v2=some z)
  (h:AL r P ops Q rest C ((d,.int .i64 ((min (v.toNat-u.toNat) v2.toNat:Nat):Int))::l) ((k,.blk g bt cs')::ded js H)) (hs:(P.info? e2).map (·.size)=some 1)
  (hD:u.toNat<4→D=some ⟨g,o+u.toNat,none⟩) (hn1:n1=v.toNat-u.toNat) (hn2:n2=v2.toNat)
  (hk1:hk H k=some (.blk g bt cs):=by rfl) (hk2:hk H k2=some (.blk g2 bt2 cs2):=by rfl) (hd1:(cs.drop o).take 4=ds.map (.int .i64):=by rfl) (hd2:(cs2.drop o2).take 4=ss.map (.int .i64):=by rfl) (hl1:ds.length=4:=by rfl) (hl2:ss.length=4:=by rfl)
  (hcs:cs'=cs.take o++[.int .i64 z.1,.int .i64 z.2.1,.int .i64 z.2.2.1,.int .i64 z.2.2.2]++cs.drop (o+4):=by rfl) (hx:ev l x=some (.slice D n1 c1):=by rfl) (hy:ev l y=some (.slice (some ⟨g2,o2,none⟩) n2 c2):=by rfl)
  (ht:P.underlying dT=some (.slice e2):=by rfl) (hj:hng [k] js H=true:=by kernel_rfl) (hd:Nat.ble (d+1) C.n=true:=by rfl):AL r P ops Q (⟨some d,.call {callee:=.builtin .copy,args:=#[x,y],argTypes:=#[dT,sT]},T,pos,af,none⟩::rest) C l H:=fun a w hf hh=>by
 subst hn1;subst hn2
 obtain⟨⟨b1,b2,b3,b4,b5⟩,e⟩:=cp4_some hz
 have hB1:Blk w g bt cs:=hh.hold k _ hk1
 have hB2:Blk w g2 bt2 cs2:=hh.hold k2 _ hk2
 have hcl:o+4≤cs.length:=by
  have:=congrArg List.length hd1
  rw[List.length_take,List.length_drop,List.length_map,hl1]at this;omega
 obtain⟨m,hm⟩: ∃m,m=min (v.toNat-u.toNat) v2.toNat:=⟨_,rfl⟩
 have hmin:Nat.min v2.toNat (v.toNat-u.toNat)=m:=by rw[hm];exact Nat.min_comm _ _
 rw[←hm]at e h
 have hdrop:cs.drop o=ds.map (.int .i64)++cs.drop (o+4):=by
  rw[←hd1,←List.drop_drop];exact(List.take_append_drop 4 _).symm
 have hcs2:cs'=cs.take (o+u.toNat)++(ss.take m).map (.int .i64)++cs.drop (o+u.toNat+m):=by
  have e1:([.int .i64 z.1,.int .i64 z.2.1,.int .i64 z.2.2.1,.int .i64 z.2.2.2]:List Value)=[z.1,z.2.1,z.2.2.1,z.2.2.2].map (.int .i64):=rfl
  rw[hcs,e1,←e,List.map_append,List.map_append]
  have hu:u.toNat+m≤4:=by rw[hm];omega
  have e2:cs.take (o+u.toNat)=cs.take o++(ds.take u.toNat).map (.int .i64):=by
   rw[List.take_add,hdrop,List.take_append_of_le_length (by rw[List.length_map];omega),List.map_take]
  have e3:cs.drop (o+u.toNat+m)=(ds.drop (u.toNat+m)).map (.int .i64)++cs.drop (o+4):=by
   rw[Nat.add_assoc,←List.drop_drop,hdrop,List.drop_append_of_le_length (by rw[List.length_map];omega),List.map_drop]
  rw[e2,e3];simp only[List.append_assoc]
 by_cases h0:m=0
 ·have hsame:cs'=cs:=by
   rw[hcs2,h0,List.take_zero,List.map_nil,List.append_nil,Nat.add_zero];exact List.take_append_drop _ _
  subst hsame
  have hrun:=Z.run_copyZ (P:=P) w dT sT T e2 D (some ⟨g2,o2,none⟩) (v.toNat-u.toNat) c1 v2.toNat c2 _ ht hs (hmin.trans h0)
  rw[h0]at h
  refine Z.valw (w':=w) (v:=goInt 0) hf hd ?_ fun a' hf'=>h a' w hf' (Hp.dd (hh.upd (S:=[]) (Ch.refl w) (by simp) (fun b hb=>.inl ⟨_,hk1,hb⟩) (fun j hj=>by cases hj) fun F B _ _ _ _ _=>hB1) hj)
  simp only[execOp,resolve,invoke,builtin,Sem.run_bind,Sem.run_pure,Result.andThen_ok,List.map_toArray,List.map_cons,List.map_nil,hf.eval hx,hf.eval hy,hrun]
 ·have hu4:u.toNat<4:=by omega
  obtain rfl:=hD hu4
  have hcl2:o2+4≤cs2.length:=by
   have:=congrArg List.length hd2
   rw[List.length_take,List.length_drop,List.length_map,hl2]at this;omega
  have hml:((ss.take m).map (Value.int .i64)).length=m:=by rw[List.length_map,List.length_take,hl2];omega
  have hsrc: ∀(j:Nat) (q:Value),((ss.take m).map (Value.int .i64))[j]?=some q→w.cell? (Addr.add ⟨g2,o2,none⟩ j)=some q:=fun j q hq=>by
   have hjm:=(List.getElem?_eq_some_iff.1 hq).1
   rw[hml]at hjm
   rw[List.map_take,List.getElem?_take_of_lt hjm,←hd2,List.getElem?_take_of_lt (by omega),List.getElem?_drop]at hq
   rw[Addr.add_lit,hB2.cell];exact hq
  have hrun:=Z.run_copyN (P:=P) w dT sT T e2 g (o+u.toNat) (v.toNat-u.toNat) c1 ⟨g2,o2,none⟩ v2.toNat c2 1 cs.toArray bt ((ss.take m).map (Value.int .i64)) ht hs hB1 (by rw[hml,hmin,Nat.mul_one]) hsrc (by rw[hml];simp;omega) (fun q hq=>by obtain⟨_,_,rfl⟩:=List.mem_map.1 hq;rfl)
  rw[hmin,hml,List.toList_toArray,←hcs2]at hrun
  have hch:Ch [g] w (w.setRow g cs'.toArray):=Ch.setRow w g _
  refine Z.valw (w':=w.setRow g cs'.toArray) (v:=goInt m) hf hd ?_ fun a' hf'=>h a' _ hf' (Hp.dd (hh.upd (S:=[g]) hch (fun b hb=>⟨_,hk1,by simpa[Res.bl] using hb⟩) (fun b hb=>.inl ⟨_,hk1,hb⟩) (fun j hj=>by cases hj) fun F B _ _ _ _ _=>hB1.setRow) hj)
  simp only[execOp,resolve,invoke,builtin,Sem.run_bind,Sem.run_pure,Result.andThen_ok,List.map_toArray,List.map_cons,List.map_nil,hf.eval hx,hf.eval hy,hrun]
end
end Go.A
end
section
set_option linter.unusedVariables false
set_option linter.unusedSimpArgs false
set_option maxRecDepth 20000
set_option maxHeartbeats 8000000
set_option synthInstance.maxSize 1000000
set_option synthInstance.maxHeartbeats 400000
namespace Go.Proofs.YtlbnpmfggfbdoaaGreatDoor
open Go.RowKit
def F.summ_counters_1_it_j1 (k1:Int→Option (List (Int×D209)))(b0:D44)(y2:Int)(y11:Int):Option (List (Int×D209)):=A.cns (y2,(decide (y2<b0.2.1),y11)) (A.gd (Z.R64 (y2+1)) (k1 (y2+1)))
def F.summ_counters_1_it_l2 (b0:D44):Nat→Int→Option (List (Int×D209))
 |0,_=>none
 |f+1,y2=>if y2<b0.2.1+b0.2.2.2.1 then(A.gd (Z.R64 (b0.2.1-1)) (if y2=b0.2.1-1 then(F.summ_counters_1_it_j1 (F.summ_counters_1_it_l2 b0 f) b0 y2 b0.2.2.1)else(if b0.2.1≤y2 then(A.gd (Z.R64 (y2-b0.2.1)) ((A.ix [b0.2.2.2.2.1,b0.2.2.2.2.2.1,b0.2.2.2.2.2.2.1,b0.2.2.2.2.2.2.2] (y2-b0.2.1)).bind fun x26=>(F.summ_counters_1_it_j1 (F.summ_counters_1_it_l2 b0 f) b0 y2 x26)))else(F.summ_counters_1_it_j1 (F.summ_counters_1_it_l2 b0 f) b0 y2 0))))else(some [])
def F.summ_counters_1_it (b0:D44):Option (List (Int×D209)):=A.gd (Z.R64 (b0.2.1+b0.2.2.2.1)) (F.summ_counters_1_it_l2 b0 A.FU 0)
theorem summ_counters_1_it_sq (b0:D44)(g0_:Nat)(h1_:IntKind.i64.has b0.1)(h2_:IntKind.i64.has b0.2.1)(h3_:IntKind.i64.has b0.2.2.1)(h4_:IntKind.i64.has b0.2.2.2.1)(h5_:IntKind.i64.has b0.2.2.2.2.1)(h6_:IntKind.i64.has b0.2.2.2.2.2.1)(h7_:IntKind.i64.has b0.2.2.2.2.2.2.1)(h8_:IntKind.i64.has b0.2.2.2.2.2.2.2)(xs:List (Int×D209))(hF:F.summ_counters_1_it b0=some xs):
    A.Sq Tryz.prog 186 [.pointer (some ⟨g0_,0,none⟩)] [(0,.el none g0_ 0 [.int .i64 b0.1,.int .i64 b0.2.1,.int .i64 b0.2.2.1,.int .i64 b0.2.2.2.1,.int .i64 b0.2.2.2.2.1,.int .i64 b0.2.2.2.2.2.1,.int .i64 b0.2.2.2.2.2.2.1,.int .i64 b0.2.2.2.2.2.2.2])] (Z.Ty.pair (Z.Ty.int .i64) T209) (fun cs=>[Z.vof false (cs.take 1),Z.vof true (cs.drop 1)]) xs:=by
 refine A.Sq.enter Tryz.func186 rfl Tryz.ntmps186 rfl fun lid w0 J Jx Φ hY hJ0=>?_
 obtain⟨rs0,hrs⟩: ∃rs0,rs0=xs:=⟨_,rfl⟩
 have hR0:A.Rem xs 0 rs0:=hrs▸A.Rem.zero xs
 rw[F.summ_counters_1_it,←hrs]at hF
 clear hrs
 refine A.xl 1 ?_
 obtain⟨hc1,hF⟩:=A.gd_some hF
 refine A.q [] [0] [.n,.e 0 1,.n,.e 0 3,.n,.n] [Z.R64 (b0.2.1+b0.2.2.2.1)] [(9,.int .i64 (b0.2.1+b0.2.2.2.1)),(10,.int .i64 0)] hc1 ?_
 refine A.dx 2 ?_
 refine A.AX.loopC (A.CY 46 Φ) (0,w0) [0,1,9] [0] [0] (fun f i nl nh=>∃(y2:Int),∃(rs:List (Int×D209)),nl=[(10,.int .i64 y2)]∧nh=[]∧IntKind.i64.has y2∧J i.1 i.2∧A.Rem xs i.1 rs∧F.summ_counters_1_it_l2 b0 f y2=some rs) A.FU [(10,.int .i64 0)] [] ⟨0,_,rfl,rfl,(A.hasl .i64 (0) rfl),hJ0,hR0,hF⟩ ?_
 rintro f4 ⟨k5,w6⟩ _ _ ⟨y2,rs9,rfl,rfl,hy3,hJ7,hR8,hF⟩
 rcases f4 with _|f4
 ·exact A.no0 hF
 rw[F.summ_counters_1_it_l2]at hF
 refine A.xl 1 ?_
 refine A.q0 [] [] [.n] [(11,.bool (decide (y2<b0.2.1+b0.2.2.2.1)))] ?_
 refine A.dx 2 ?_
 refine A.AX.cnd rfl hF (fun hb hF=>?_) (fun hb hF=>?_)
 ·refine A.xl 5 ?_
  refine A.q0 [] [] [.n,.n] [(3,.int .i64 y2)] ?_
  refine A.dl 2 ?_
  refine A.q0 [] [0] [.n,.n,.e 0 1,.n,.n] [(17,.agg #[.bool (decide (y2<b0.2.1)),.int .i64 0])] ?_
  refine A.AL.alloc 5 (cs:=[.bool false,.int .i64 0]) Tryz.zeroValue210 fun g10=>?_
  refine A.sw 5 [] [.bool (decide (y2<b0.2.1)),.int .i64 0] ?_
  refine A.dx 1 ?_
  refine A.AX.joinC (A.CY 46 Φ) [0,1,3,4,9,10] [0] (fun i nl nh=>∃(y11:Int),∃(rs:List (Int×D209)),nl=[]∧nh=[(5,.blk g10 210 [.bool (decide (y2<b0.2.1)),.int .i64 y11])]∧IntKind.i64.has y11∧J i.1 i.2∧A.Rem xs i.1 rs∧F.summ_counters_1_it_j1 (F.summ_counters_1_it_l2 b0 f4) b0 y2 y11=some rs) ?_ ?_
  ·refine A.xl 2 ?_
   obtain⟨hc24,hF⟩:=A.gd_some hF
   refine A.q [] [0] [.n,.n,.e 0 1,.n,.n,.n] [Z.R64 (b0.2.1-1)] [(18,.bool (decide (y2=b0.2.1-1)))] hc24 ?_
   refine A.dx 1 ?_
   refine A.AX.cnd rfl hF (fun hb hF=>?_) (fun hb hF=>?_)
   ·refine A.xl 0 ?_
    refine A.q0 [] [0] [.n,.e 0 2,.n] [(25,.int .i64 b0.2.2.1),(26,.pointer (some ⟨g10,1,none⟩))] ?_
    refine A.AL.store 5 [] (new:=[.int .i64 b0.2.2.1]) (cs':=[.bool (decide (y2<b0.2.1)),.int .i64 b0.2.2.1]) ?_
    refine A.de 1 ?_
    exact A.AE.jC (k5,w6) [5,0] [] [(5,.blk g10 210 [.bool (decide (y2<b0.2.1)),.int .i64 b0.2.2.1])] ⟨b0.2.2.1,_,rfl,rfl,h3_,hJ7,hR8,hF⟩
   refine A.xl 1 ?_
   refine A.q0 [] [0] [.n,.n,.e 0 1,.n,.n] [(27,.bool (decide (b0.2.1≤y2)))] ?_
   refine A.dx 1 ?_
   refine A.AX.cnd rfl hF (fun hb hF=>?_) (fun hb hF=>?_)
   ·refine A.xl 0 ?_
    obtain⟨hc25,hF⟩:=A.gd_some hF
    refine A.q [] [0] [.n,.n,.e 0 1,.n,.n] [Z.R64 (y2-b0.2.1)] [(35,.int .i64 (y2-b0.2.1)),(36,.pointer (some ⟨g0_,0+4,none⟩))] hc25 ?_
    obtain⟨x26,hv27,hF⟩:=A.bd_some hF
    refine A.AL.ixbE 0 6 (fun v:Int=>.int .i64 v) [b0.2.2.2.2.1,b0.2.2.2.2.2.1,b0.2.2.2.2.2.2.1,b0.2.2.2.2.2.2.2] 4 hv27 ?_
    refine A.q0 [] [6] [.e 0 0,.n] [(38,.int .i64 x26),(39,.pointer (some ⟨g10,1,none⟩))] ?_
    refine A.AL.store 5 [] (new:=[.int .i64 x26]) (cs':=[.bool (decide (y2<b0.2.1)),.int .i64 x26]) ?_
    refine A.de 1 ?_
    exact A.AE.jC (k5,w6) [5,0] [] [(5,.blk g10 210 [.bool (decide (y2<b0.2.1)),.int .i64 x26])] ⟨x26,_,rfl,rfl,(A.has_ix hv27 (List.forall_mem_cons.2 ⟨h5_,(List.forall_mem_cons.2 ⟨h6_,(List.forall_mem_cons.2 ⟨h7_,(List.forall_mem_cons.2 ⟨h8_,(by simp)⟩)⟩)⟩)⟩)),hJ7,hR8,hF⟩
   refine A.xe 2 ?_
   exact A.AE.jC (k5,w6) [5,0] [] [(5,.blk g10 210 [.bool (decide (y2<b0.2.1)),.int .i64 0])] ⟨0,_,rfl,rfl,(A.hasl .i64 (0) rfl),hJ7,hR8,hF⟩
  rintro⟨k13,w14⟩ _ _ ⟨y11,rs17,rfl,rfl,hy12,hJ15,hR16,hF⟩
  rw[F.summ_counters_1_it_j1]at hF
  refine A.xl 1 ?_
  refine A.q0 [5] [] [.n,.n,.b 0 0] [(40,.func (.yield lid) #[] #[]),(41,.int .i64 y2),(42,.agg #[.bool (decide (y2<b0.2.1)),.int .i64 y11])] ?_
  obtain⟨rs18,hqrs18,hF⟩:=A.cns_some hF
  refine A.AL.yield (t:=.pair (Z.Ty.int .i64) T209) (x:=(y2,(decide (y2<b0.2.1),y11))) hY hJ15 (hqrs18▸hR16) [.int .i64 y2,.bool (decide (y2<b0.2.1)),.int .i64 y11] ⟨⟨rfl,hy3⟩,⟨rfl,⟨rfl,hy12⟩⟩⟩ (fun w19 hJ20 hR21=>?_) (fun w19 hX22=>?_)
  ·refine A.q0 [] [] [.n] [(44,.bool false)] ?_
   refine A.dx 1 ?_
   refine A.AX.cnf rfl ?_
   refine A.xl 3 ?_
   obtain⟨hc23,hF⟩:=A.gd_some hF
   refine A.q [] [] [.n,.n] [Z.R64 (y2+1)] [(10,.int .i64 (y2+1))] hc23 ?_
   refine A.AL.done ?_
   exact A.AE.jC (k13+1,w19) [0] [(10,.int .i64 (y2+1))] [] ⟨_,Nat.lt_succ_self _,⟨(y2+1),_,rfl,rfl,(Z.i64_has hc23),hJ20,hR21,hF⟩⟩
  refine A.q0 [] [] [.n] [(44,.bool true)] ?_
  refine A.dx 1 ?_
  refine A.AX.cnt rfl ?_
  exact A.AX.rtX hY hX22
 refine A.xe 1 ?_
 obtain rfl:=Option.some.inj hF
 exact A.AE.rtY hY hJ7 hR8
def F.summ_Leq_j1 (k2:Option Bool)(xs31:List D209)(y58:(Int×D209))(y62:Bool):Option Bool:=if y62=true then(A.gd (4=(xs31).length) ((A.ix xs31 y58.1).bind fun x63=>(if x63.2≠1048576 then(some false)else(k2))))else(A.gd (4=(xs31).length) ((A.ix xs31 y58.1).bind fun x67=>(if x67.2<y58.2.2 then(some false)else(k2))))
def F.summ_Leq_l2 (xs31:List D209):List (Int×D209)→Option Bool
 | []=>some true
 |y58::f=>if y58.2.1=true then(A.gd (4=(xs31).length) ((A.ix xs31 y58.1).bind fun x73=>(F.summ_Leq_j1 (F.summ_Leq_l2 xs31 f) xs31 y58 (!x73.1))))else(F.summ_Leq_j1 (F.summ_Leq_l2 xs31 f) xs31 y58 false)
def F.summ_Leq_l3 (a0:D44):List (Int×D209)→(List D209)→Option Bool
 | [],xs31=>(F.summ_counters (a0.1,a0.2.1,a0.2.2.1,a0.2.2.2.1,(a0.2.2.2.2.1,a0.2.2.2.2.2.1,a0.2.2.2.2.2.2.1,a0.2.2.2.2.2.2.2))).bind fun r38=>((F.summ_counters_1_it (r38.1,r38.2.1,r38.2.2.1,r38.2.2.2.1,(r38.2.2.2.2.1,r38.2.2.2.2.2.1,r38.2.2.2.2.2.2.1,r38.2.2.2.2.2.2.2))).bind fun xs49=>F.summ_Leq_l2 xs31 xs49)
 |y26::f,xs31=>A.gd (4=(xs31).length) ((A.ix xs31 y26.1).bind fun x34=>((F.summ_Leq_l3 a0 f) (xs31.set y26.1.toNat (y26.2.1,y26.2.2))))
def F.summ_Leq_j4 (a0:D44)(a1:D44)(y4:Bool):Option Bool:=if y4=true then(some false)else((F.summ_counters (a1.1,a1.2.1,a1.2.2.1,a1.2.2.2.1,(a1.2.2.2.2.1,a1.2.2.2.2.2.1,a1.2.2.2.2.2.2.1,a1.2.2.2.2.2.2.2))).bind fun r6=>((F.summ_counters_1_it (r6.1,r6.2.1,r6.2.2.1,r6.2.2.2.1,(r6.2.2.2.2.1,r6.2.2.2.2.2.1,r6.2.2.2.2.2.2.1,r6.2.2.2.2.2.2.2))).bind fun xs17=>F.summ_Leq_l3 a0 xs17 [((false,0):D209),((false,0):D209),((false,0):D209),((false,0):D209)]))
def F.summ_Leq (a0:D44)(a1:D44):Option Bool:=(F.summ_may (a0.1,a0.2.1,a0.2.2.1,a0.2.2.2.1,(a0.2.2.2.2.1,a0.2.2.2.2.2.1,a0.2.2.2.2.2.2.1,a0.2.2.2.2.2.2.2))).bind fun r77=>(if(!r77)=true then(F.summ_Leq_j4 a0 a1 true)else((F.summ_may (a1.1,a1.2.1,a1.2.2.1,a1.2.2.2.1,(a1.2.2.2.2.1,a1.2.2.2.2.2.1,a1.2.2.2.2.2.2.1,a1.2.2.2.2.2.2.2))).bind fun r79=>(A.gd (((bif !r79 then true else decide (a0.1≠a1.1))=false→Z.R64 (a0.2.1+a0.2.2.2.1))∧((bif !r79 then true else decide (a0.1≠a1.1))=false→Z.R64 (a1.2.1+a1.2.2.2.1))) (F.summ_Leq_j4 a0 a1 (bif bif !r79 then true else decide (a0.1≠a1.1)then true else decide (a0.2.1+a0.2.2.2.1≠a1.2.1+a1.2.2.2.1))))))
theorem summ_Leq_ok (a0:D44)(a1:D44)(h0_:IntKind.i64.has a0.1)(h1_:IntKind.i64.has a0.2.1)(h2_:IntKind.i64.has a0.2.2.1)(h3_:IntKind.i64.has a0.2.2.2.1)(h4_:IntKind.i64.has a0.2.2.2.2.1)(h5_:IntKind.i64.has a0.2.2.2.2.2.1)(h6_:IntKind.i64.has a0.2.2.2.2.2.2.1)(h7_:IntKind.i64.has a0.2.2.2.2.2.2.2)(h8_:IntKind.i64.has a1.1)(h9_:IntKind.i64.has a1.2.1)(h10_:IntKind.i64.has a1.2.2.1)(h11_:IntKind.i64.has a1.2.2.2.1)(h12_:IntKind.i64.has a1.2.2.2.2.1)(h13_:IntKind.i64.has a1.2.2.2.2.2.1)(h14_:IntKind.i64.has a1.2.2.2.2.2.2.1)(h15_:IntKind.i64.has a1.2.2.2.2.2.2.2)(r:Bool)(hF:F.summ_Leq a0 a1=some r):
    A.Ct Tryz.prog 148 [.agg #[.int .i64 a0.1,.int .i64 a0.2.1,.int .i64 a0.2.2.1,.int .i64 a0.2.2.2.1,.int .i64 a0.2.2.2.2.1,.int .i64 a0.2.2.2.2.2.1,.int .i64 a0.2.2.2.2.2.2.1,.int .i64 a0.2.2.2.2.2.2.2],.agg #[.int .i64 a1.1,.int .i64 a1.2.1,.int .i64 a1.2.2.1,.int .i64 a1.2.2.2.1,.int .i64 a1.2.2.2.2.1,.int .i64 a1.2.2.2.2.2.1,.int .i64 a1.2.2.2.2.2.2.1,.int .i64 a1.2.2.2.2.2.2.2]] [] [] (fun v H'=>v=.bool r∧H'=[]):=by
 refine A.Ct.enterM Tryz.func148 rfl Tryz.ntmps148 rfl fun w0 F0=>?_
 rw[F.summ_Leq]at hF
 refine A.xl 1 ?_
 refine A.AL.box 0 (cs:=[.int .i64 a0.1,.int .i64 a0.2.1,.int .i64 a0.2.2.1,.int .i64 a0.2.2.2.1,.int .i64 a0.2.2.2.2.1,.int .i64 a0.2.2.2.2.2.1,.int .i64 a0.2.2.2.2.2.2.1,.int .i64 a0.2.2.2.2.2.2.2]) fun g1=>?_
 refine A.AL.box 1 (cs:=[.int .i64 a1.1,.int .i64 a1.2.1,.int .i64 a1.2.2.1,.int .i64 a1.2.2.2.1,.int .i64 a1.2.2.2.2.1,.int .i64 a1.2.2.2.2.2.1,.int .i64 a1.2.2.2.2.2.2.1,.int .i64 a1.2.2.2.2.2.2.2]) fun g2=>?_
 refine A.AL.alloc 2 (cs:=[.bool false]) Tryz.zeroValue4 fun g3=>?_
 refine A.dx 2 ?_
 refine A.AX.join [2,3,4] [0,1,2] (fun nl nh=>∃(y4:Bool),nl=[(37,.bool y4)]∧nh=[]∧F.summ_Leq_j4 a0 a1 y4=some r) ?_ ?_
 ·refine A.xl 0 ?_
  refine A.q0 [0] [] [.b 0 0] [(10,.agg #[.int .i64 a0.1,.int .i64 a0.2.1,.int .i64 a0.2.2.1,.int .i64 a0.2.2.2.1,.int .i64 a0.2.2.2.2.1,.int .i64 a0.2.2.2.2.2.1,.int .i64 a0.2.2.2.2.2.2.1,.int .i64 a0.2.2.2.2.2.2.2])] ?_
  obtain⟨r77,hv78,hF⟩:=A.bd_some hF
  refine A.AL.call 3 [] (first:=[]) (cap:=[]) cf91 (summ_may_ok (a0.1,a0.2.1,a0.2.2.1,a0.2.2.2.1,(a0.2.2.2.2.1,a0.2.2.2.2.2.1,a0.2.2.2.2.2.2.1,a0.2.2.2.2.2.2.2)) h0_ h1_ h2_ h3_ h4_ h5_ h6_ h7_ r77 hv78) .nil ?_
  rintro _ _ ⟨rfl,rfl⟩
  refine⟨by kernel_rfl,?_⟩
  refine A.q0 [] [] [.n,.n] [(13,.bool (!r77))] ?_
  refine A.AL.cnd (j:=13) rfl hF (fun hF=>?_) (fun hF=>?_)
  ·refine A.q0 [] [] [.off,.off,.off,.n,.n,.off,.off,.off,.off,.off,.n,.n,.off,.off,.off,.off,.off,.off,.off,.off,.off,.off,.off,.n] [(37,.bool true)] ?_
   refine A.AL.done ?_
   exact A.j ⟨true,rfl,rfl,hF⟩
  refine A.q0 [1] [] [.on (.b 0 0)] [(14,.agg #[.int .i64 a1.1,.int .i64 a1.2.1,.int .i64 a1.2.2.1,.int .i64 a1.2.2.2.1,.int .i64 a1.2.2.2.2.1,.int .i64 a1.2.2.2.2.2.1,.int .i64 a1.2.2.2.2.2.2.1,.int .i64 a1.2.2.2.2.2.2.2])] ?_
  refine A.AL.on (dj:=13) rfl rfl ?_
  obtain⟨r79,hv80,hF⟩:=A.bd_some hF
  refine A.AL.call 43 [] (first:=[]) (cap:=[]) cf91 (summ_may_ok (a1.1,a1.2.1,a1.2.2.1,a1.2.2.2.1,(a1.2.2.2.2.1,a1.2.2.2.2.2.1,a1.2.2.2.2.2.2.1,a1.2.2.2.2.2.2.2)) h8_ h9_ h10_ h11_ h12_ h13_ h14_ h15_ r79 hv80) .nil ?_
  rintro _ _ ⟨rfl,rfl⟩
  refine⟨by kernel_rfl,?_⟩
  obtain⟨hc81,hF⟩:=A.gd_some hF
  refine A.q [0,1] [] [.on .n,.n,.n,.sy .n,.sy (.b 0 0),.sy .n,.sy (.b 1 0),.sy .n,.pk,.n,.sy .n,.sy (.b 0 1),.sy .n,.sy (.b 0 3),.sy .n,.sy .n,.sy (.b 1 1),.sy .n,.sy (.b 1 3),.sy .n,.sy .n,.pk] [(bif !r79 then true else decide (a0.1≠a1.1))=false→Z.R64 (a0.2.1+a0.2.2.2.1),(bif !r79 then true else decide (a0.1≠a1.1))=false→Z.R64 (a1.2.1+a1.2.2.2.1)] [(37,.bool (bif bif !r79 then true else decide (a0.1≠a1.1)then true else decide (a0.2.1+a0.2.2.2.1≠a1.2.1+a1.2.2.2.1)))] hc81 ?_
  refine A.AL.done ?_
  exact A.j ⟨(bif bif !r79 then true else decide (a0.1≠a1.1)then true else decide (a0.2.1+a0.2.2.2.1≠a1.2.1+a1.2.2.2.1)),rfl,rfl,hF⟩
 rintro _ _ ⟨y4,rfl,rfl,hF⟩
 rw[F.summ_Leq_j4]at hF
 refine A.AX.cnb rfl hF (fun hb hF=>?_) (fun hb hF=>?_)
 ·refine A.xl 1 ?_
  refine A.sw 2 [] [.bool false] ?_
  refine A.dx 1 ?_
  obtain rfl:=Option.some.inj hF
  exact A.AX.rtM (Ds:=[]) [] [] (.bool false) (trivial) (fun a w hf hh=>Z.resv1 rfl (Z.rv_1 hf rfl Tryz.isAgg4 (A.Hp.blk hh 2))) (⟨rfl,rfl⟩)
 refine A.xl 3 ?_
 refine A.AL.alloc 83 (cs:=[.bool false,.int .i64 0,.bool false,.int .i64 0,.bool false,.int .i64 0,.bool false,.int .i64 0]) Tryz.zeroValue211 fun g5=>?_
 refine A.bta 83 [] (t:=T209) (cs:=[.bool false,.int .i64 0,.bool false,.int .i64 0,.bool false,.int .i64 0,.bool false,.int .i64 0]) [((false,0):D209),((false,0):D209),((false,0):D209),((false,0):D209)] ⟨⟨rfl,⟨rfl,by decide⟩⟩,⟨⟨rfl,⟨rfl,by decide⟩⟩,⟨⟨rfl,⟨rfl,by decide⟩⟩,⟨⟨rfl,⟨rfl,by decide⟩⟩,rfl⟩⟩⟩⟩ ?_
 refine A.dl 3 ?_
 refine A.q0 [1] [] [.b 0 0] [(38,.agg #[.int .i64 a1.1,.int .i64 a1.2.1,.int .i64 a1.2.2.1,.int .i64 a1.2.2.2.1,.int .i64 a1.2.2.2.2.1,.int .i64 a1.2.2.2.2.2.1,.int .i64 a1.2.2.2.2.2.2.1,.int .i64 a1.2.2.2.2.2.2.2])] ?_
 obtain⟨r6,hv7,hF⟩:=A.bd_some hF
 refine A.AL.call 84 [] (first:=[]) (cap:=[]) cf169 (summ_counters_ok (a1.1,a1.2.1,a1.2.2.1,a1.2.2.2.1,(a1.2.2.2.2.1,a1.2.2.2.2.2.1,a1.2.2.2.2.2.2.1,a1.2.2.2.2.2.2.2)) h8_ h9_ h10_ h11_ h12_ h13_ h14_ h15_ r6 hv7) .nil ?_
 rintro _ _ ⟨g8,rfl,rfl,hr9,hr10,hr11,hr12,hr13,hr14,hr15,hr16⟩
 refine⟨by kernel_rfl,?_⟩
 refine A.dx 2 ?_
 obtain⟨xs17,hv18,hF⟩:=A.bd_some hF
 refine A.AX.rgf 124 125 126 [0,2,84] [83,0,2,84] [125,124,83,0,2,84] (fun k nh=>∃(xs31:List D209),nh=[(83,.own T209 211 (some ⟨g5,0,none⟩) (([((false,0):D209),((false,0):D209),((false,0):D209),((false,0):D209)]).length) xs31)]∧([((false,0):D209),((false,0):D209),((false,0):D209),((false,0):D209)]).length=xs31.length∧F.summ_Leq_l3 a0 (List.drop k xs17) xs31=some r) [(83,.own T209 211 (some ⟨g5,0,none⟩) (([((false,0):D209),((false,0):D209),((false,0):D209),((false,0):D209)]).length) [((false,0):D209),((false,0):D209),((false,0):D209),((false,0):D209)])] cf186 (summ_counters_1_it_sq (r6.1,r6.2.1,r6.2.2.1,r6.2.2.2.1,(r6.2.2.2.2.1,r6.2.2.2.2.2.1,r6.2.2.2.2.2.2.1,r6.2.2.2.2.2.2.2)) g8 hr9 hr10 hr11 hr12 hr13 hr14 hr15 hr16 xs17 hv18) (fun _=>rfl) ⟨[((false,0):D209),((false,0):D209),((false,0):D209),((false,0):D209)],rfl,rfl,hF⟩ ?_ ?_ ?_
 ·rintro k25 _ D19 L20 ⟨xs31,rfl,hn32,hF⟩
  exact⟨⟨_,(.b 84 .nil)⟩,rfl,fun o=>rfl⟩
 ·rintro k25 _ y26 D19 L20 w24 o21 ⟨xs31,rfl,hn32,hF⟩ hx27 hxo28 hh23
  rw[A.drop_at hx27,F.summ_Leq_l3]at hF
  refine A.xl 1 ?_
  refine A.q0 [] [] [.n] [(6,.int .i64 y26.1)] ?_
  refine A.dl 1 ?_
  refine A.AL.alloc 131 (cs:=[.bool false,.int .i64 0]) Tryz.zeroValue210 fun g33=>?_
  refine A.sw 131 [] [.bool y26.2.1,.int .i64 y26.2.2] ?_
  refine A.AL.done ?_
  refine A.AE.flip 124 125 fun o22=>?_
  refine A.xl 1 ?_
  refine A.q0 [131] [] [.n,.b 0 0] [(42,.int .i64 y26.1),(43,.agg #[.bool y26.2.1,.int .i64 y26.2.2])] ?_
  obtain⟨hl36,hF⟩:=A.gd_some hF
  obtain⟨x34,hv35,hF⟩:=A.bd_some hF
  refine A.AL.ixoA 83 132 hv35 hl36 fun ho37=>?_
  refine A.AL.setel 83 132 [132] (o:=0) (m:=2) (t:=T209) (new:=[.bool y26.2.1,.int .i64 y26.2.2]) (es:=[.bool x34.1,.int .i64 x34.2]) (y26.2.1,y26.2.2) hv35 rfl ⟨rfl,⟨rfl,hxo28.2.2⟩⟩ ?_
  refine A.de 1 ?_
  exact A.AE.bn hh23 [125,124,83,0,2,84] 100000 [(125,100125),(124,100124),(83,100083),(0,100000),(2,100002),(84,100084)] [(83,.own T209 211 (some ⟨g5,0,none⟩) (([((false,0):D209),((false,0):D209),((false,0):D209),((false,0):D209)]).length) (xs31.set y26.1.toNat (y26.2.1,y26.2.2)))] ⟨(xs31.set y26.1.toNat (y26.2.1,y26.2.2)),rfl,(by rw[List.length_set];exact hn32),hF⟩ rfl rfl
 rintro _ D19 L20 ⟨xs31,rfl,hn32,hF⟩
 rw[List.drop_length,F.summ_Leq_l3]at hF
 refine A.el 4 ?_
 refine A.q0 [0] [] [.b 0 0] [(45,.agg #[.int .i64 a0.1,.int .i64 a0.2.1,.int .i64 a0.2.2.1,.int .i64 a0.2.2.2.1,.int .i64 a0.2.2.2.2.1,.int .i64 a0.2.2.2.2.2.1,.int .i64 a0.2.2.2.2.2.2.1,.int .i64 a0.2.2.2.2.2.2.2])] ?_
 obtain⟨r38,hv39,hF⟩:=A.bd_some hF
 refine A.AL.call 133 [] (first:=[]) (cap:=[]) cf169 (summ_counters_ok (a0.1,a0.2.1,a0.2.2.1,a0.2.2.2.1,(a0.2.2.2.2.1,a0.2.2.2.2.2.1,a0.2.2.2.2.2.2.1,a0.2.2.2.2.2.2.2)) h0_ h1_ h2_ h3_ h4_ h5_ h6_ h7_ r38 hv39) .nil ?_
 rintro _ _ ⟨g40,rfl,rfl,hr41,hr42,hr43,hr44,hr45,hr46,hr47,hr48⟩
 refine⟨by kernel_rfl,?_⟩
 refine A.dx 2 ?_
 obtain⟨xs49,hv50,hF⟩:=A.bd_some hF
 refine A.AX.rgf 173 174 175 [2,83,124,133] [2,83,124,133] [174,173,2,83,124,133] (fun k nh=>nh=[]∧F.summ_Leq_l2 xs31 (List.drop k xs49)=some r) [] cf186 (summ_counters_1_it_sq (r38.1,r38.2.1,r38.2.2.1,r38.2.2.2.1,(r38.2.2.2.2.1,r38.2.2.2.2.2.1,r38.2.2.2.2.2.2.1,r38.2.2.2.2.2.2.2)) g40 hr41 hr42 hr43 hr44 hr45 hr46 hr47 hr48 xs49 hv50) (fun _=>rfl) ⟨rfl,hF⟩ ?_ ?_ ?_
 ·rintro k57 _ D51 L52 ⟨rfl,hF⟩
  exact⟨⟨_,(.b 133 .nil)⟩,rfl,fun o=>rfl⟩
 ·rintro k57 _ y58 D51 L52 w56 o53 ⟨rfl,hF⟩ hx59 hxo60 hh55
  rw[A.drop_at hx59,F.summ_Leq_l2]at hF
  refine A.xl 1 ?_
  refine A.q0 [] [] [.n] [(8,.int .i64 y58.1)] ?_
  refine A.dl 1 ?_
  refine A.AL.alloc 180 (cs:=[.bool false,.int .i64 0]) Tryz.zeroValue210 fun g61=>?_
  refine A.sw 180 [] [.bool y58.2.1,.int .i64 y58.2.2] ?_
  refine A.AL.done ?_
  refine A.AE.flip 173 174 fun o54=>?_
  refine A.xx 2 ?_
  refine A.AX.join [4,5,8,9] [2,83,124,133,173,174,180] (fun nl nh=>∃(y62:Bool),nl=[(57,.bool y62)]∧nh=[]∧F.summ_Leq_j1 (F.summ_Leq_l2 xs31 (List.drop (k57+1) xs49)) xs31 y58 y62=some r) ?_ ?_
  ·refine A.xl 0 ?_
   refine A.q0 [180] [] [.n,.b 0 0,.n] [(51,.bool y58.2.1)] ?_
   refine A.AL.cnd (j:=51) rfl hF (fun hF=>?_) (fun hF=>?_)
   ·refine A.q0 [] [] [.on .n] [(52,.int .i64 y58.1)] ?_
    refine A.AL.on (dj:=51) rfl rfl ?_
    obtain⟨hl75,hF⟩:=A.gd_some hF
    obtain⟨x73,hv74,hF⟩:=A.bd_some hF
    refine A.AL.ixoA 83 181 hv74 hl75 fun ho76=>?_
    refine A.q0 [] [181] [.on .n,.on (.e 0 0),.on .n,.n] [(57,.bool (!x73.1))] ?_
    refine A.AL.done ?_
    exact A.j ⟨(!x73.1),rfl,rfl,hF⟩
   refine A.q0 [] [] [.off,.off,.off,.off,.off,.n] [(57,.bool false)] ?_
   refine A.AL.done ?_
   exact A.j ⟨false,rfl,rfl,hF⟩
  rintro _ _ ⟨y62,rfl,rfl,hF⟩
  rw[F.summ_Leq_j1]at hF
  refine A.AX.cnb rfl hF (fun hb hF=>?_) (fun hb hF=>?_)
  ·refine A.xl 2 ?_
   refine A.q0 [] [] [.n] [(58,.int .i64 y58.1)] ?_
   obtain⟨hl65,hF⟩:=A.gd_some hF
   obtain⟨x63,hv64,hF⟩:=A.bd_some hF
   refine A.AL.ixoA 83 182 hv64 hl65 fun ho66=>?_
   refine A.q0 [] [182] [.n,.e 0 1,.n] [(62,.bool (decide (x63.2≠1048576)))] ?_
   refine A.dx 1 ?_
   refine A.AX.cnd rfl hF (fun hb hF=>?_) (fun hb hF=>?_)
   ·refine A.xl 1 ?_
    refine A.sw 2 [] [.bool false] ?_
    refine A.dx 1 ?_
    refine A.AX.bret hh55 [174,2,83,124,133,173,180] 100000 [(174,100174),(2,100002),(83,100083),(124,100124),(133,100133),(173,100173),(180,100180)] [(2,.blk g3 4 [.bool false]),(83,.own T209 211 (some ⟨g5,0,none⟩) (([((false,0):D209),((false,0):D209),((false,0):D209),((false,0):D209)]).length) xs31),(124,.ob D19 A.dfT),(133,.blk g40 45 [.int .i64 r38.1,.int .i64 r38.2.1,.int .i64 r38.2.2.1,.int .i64 r38.2.2.2.1,.int .i64 r38.2.2.2.2.1,.int .i64 r38.2.2.2.2.2.1,.int .i64 r38.2.2.2.2.2.2.1,.int .i64 r38.2.2.2.2.2.2.2]),(173,.ob D51 A.dfT),(180,.blk g61 210 [.bool y58.2.1,.int .i64 y58.2.2])] ?_ rfl rfl
    obtain rfl:=Option.some.inj hF
    exact A.AE.rtM (Ds:=[D51,D19]) [173,124] [] (.bool false) (⟨rfl,⟨rfl,trivial⟩⟩) (fun a w hf hh=>Z.resv1 rfl (Z.rv_1 hf rfl Tryz.isAgg4 (A.Hp.blk hh 2))) (⟨rfl,rfl⟩)
   refine A.xe 3 ?_
   exact A.AE.bn hh55 [174,173,2,83,124,133] 100000 [(174,100174),(173,100173),(2,100002),(83,100083),(124,100124),(133,100133)] [] ⟨rfl,hF⟩ rfl rfl
  refine A.xx 3 ?_
  refine A.AX.dr mixed 7 7 (A.mb 7 0) ?_
  refine A.hq (A.pk_kont A.RQ.pq) [] [2,83,124,133,173,174,180] [180] [] (A.mb 7 7) 4 [(0,.n),(2,.n),(1,.b 0 1)] [(65,.int .i64 y58.1),(64,.int .i64 y58.2.2)] ?_
  obtain⟨hl69,hF⟩:=A.gd_some hF
  obtain⟨x67,hv68,hF⟩:=A.bd_some hF
  refine A.AH.pko 83 183 hv68 fun ho70=>?_
  intro b71 hA72
  cases hA72
  refine A.AH.v (A.pk_kont A.RQ.pq) [2,83,124,133,173,174,180] [2,83,124,133,173,174,180,183] 3 (A.mb 7 15) rfl (fun a w hf hh=>A.r_ixoA (t:=T209) hv68 hl69 Tryz.underlying211 Tryz.sizeOf210 (hf.eval rfl) (hf.eval rfl)) ?_
  refine A.hq (A.pk_kont A.RQ.pq) [2,83,124,133,173,174,180,183] [2,83,124,133,173,174,180,183] [] [183] (A.mb 7 127) 0 [(4,.n),(5,.e 0 1),(6,.n)] [(69,.bool (decide (x67.2<y58.2.2)))] ?_
  refine A.AH.done ?_
  refine A.ex 1 ?_
  refine A.AX.cnd rfl hF (fun hb hF=>?_) (fun hb hF=>?_)
  ·refine A.xl 1 ?_
   refine A.sw 2 [] [.bool false] ?_
   refine A.dx 1 ?_
   refine A.AX.bret hh55 [174,2,83,124,133,173,180] 100000 [(174,100174),(2,100002),(83,100083),(124,100124),(133,100133),(173,100173),(180,100180)] [(2,.blk g3 4 [.bool false]),(83,.own T209 211 (some ⟨g5,0,none⟩) (([((false,0):D209),((false,0):D209),((false,0):D209),((false,0):D209)]).length) xs31),(124,.ob D19 A.dfT),(133,.blk g40 45 [.int .i64 r38.1,.int .i64 r38.2.1,.int .i64 r38.2.2.1,.int .i64 r38.2.2.2.1,.int .i64 r38.2.2.2.2.1,.int .i64 r38.2.2.2.2.2.1,.int .i64 r38.2.2.2.2.2.2.1,.int .i64 r38.2.2.2.2.2.2.2]),(173,.ob D51 A.dfT),(180,.blk g61 210 [.bool y58.2.1,.int .i64 y58.2.2])] ?_ rfl rfl
   obtain rfl:=Option.some.inj hF
   exact A.AE.rtM (Ds:=[D51,D19]) [173,124] [] (.bool false) (⟨rfl,⟨rfl,trivial⟩⟩) (fun a w hf hh=>Z.resv1 rfl (Z.rv_1 hf rfl Tryz.isAgg4 (A.Hp.blk hh 2))) (⟨rfl,rfl⟩)
  refine A.xe 2 ?_
  exact A.AE.bn hh55 [174,173,2,83,124,133] 100000 [(174,100174),(173,100173),(2,100002),(83,100083),(124,100124),(133,100133)] [] ⟨rfl,hF⟩ rfl rfl
 rintro _ D51 L52 ⟨rfl,hF⟩
 rw[List.drop_length,F.summ_Leq_l2]at hF
 refine A.el 3 ?_
 refine A.sw 2 [] [.bool true] ?_
 refine A.dx 1 ?_
 obtain rfl:=Option.some.inj hF
 exact A.AX.rtM (Ds:=[D51,D19]) [173,124] [] (.bool true) (⟨rfl,⟨rfl,trivial⟩⟩) (fun a w hf hh=>Z.resv1 rfl (Z.rv_1 hf rfl Tryz.isAgg4 (A.Hp.blk hh 2))) (⟨rfl,rfl⟩)
def F.cmp_isNaN_int64 (a0:Int):Option Bool:=some (decide (a0≠a0))
theorem cmp_isNaN_int64_ok (a0:Int)(h0_:IntKind.i64.has a0)(r:Bool)(hF:F.cmp_isNaN_int64 a0=some r):
    A.Ct Tryz.prog 178 [.int .i64 a0] [] [] (fun v H'=>v=.bool r∧H'=[]):=by
 refine A.Ct.enter Tryz.func178 rfl Tryz.ntmps178 rfl fun w0 F0=>?_
 rw[F.cmp_isNaN_int64]at hF
 refine A.xl 1 ?_
 refine A.q0 [] [] [.n] [] ?_
 refine A.dl 2 ?_
 refine A.q0 [] [] [.n,.n,.n,.n] [(2,.bool (decide (a0≠a0)))] ?_
 refine A.dx 1 ?_
 obtain rfl:=Option.some.inj hF
 exact A.rt1 [] ⟨rfl,rfl⟩
def F.cmp_Compare_int64 (a0:Int)(a1:Int):Option Int:=(F.cmp_isNaN_int64 a0).bind fun r1=>((F.cmp_isNaN_int64 a1).bind fun r3=>(if r1=true then(if r3=true then(some 0)else(some (-1)))else(if r3=true then(some 1)else(if a0<a1 then(some (-1))else(if a1<a0 then(some 1)else(some 0))))))
theorem cmp_Compare_int64_ok (a0:Int)(a1:Int)(h0_:IntKind.i64.has a0)(h1_:IntKind.i64.has a1)(r:Int)(hF:F.cmp_Compare_int64 a0 a1=some r):
    A.Ct Tryz.prog 150 [.int .i64 a0,.int .i64 a1] [] [] (fun v H'=>v=.int .i64 r∧H'=[]∧IntKind.i64.has r):=by
 refine A.Ct.enter Tryz.func150 rfl Tryz.ntmps150 rfl fun w0 F0=>?_
 rw[F.cmp_Compare_int64]at hF
 refine A.xl 1 ?_
 refine A.q0 [] [] [.n] [] ?_
 refine A.dl 2 ?_
 refine A.q0 [] [] [.n] [(7,.int .i64 a0)] ?_
 obtain⟨r1,hv2,hF⟩:=A.bd_some hF
 refine A.AL.call 0 [] (first:=[]) (cap:=[]) cf178 (cmp_isNaN_int64_ok a0 h0_ r1 hv2) .nil ?_
 rintro _ _ ⟨rfl,rfl⟩
 refine⟨by kernel_rfl,?_⟩
 refine A.q0 [] [] [.n] [(5,.bool r1)] ?_
 refine A.dl 2 ?_
 refine A.q0 [] [] [.n] [(9,.int .i64 a1)] ?_
 obtain⟨r3,hv4,hF⟩:=A.bd_some hF
 refine A.AL.call 40 [] (first:=[]) (cap:=[]) cf178 (cmp_isNaN_int64_ok a1 h1_ r3 hv4) .nil ?_
 rintro _ _ ⟨rfl,rfl⟩
 refine⟨by kernel_rfl,?_⟩
 refine A.q0 [] [] [.n] [(6,.bool r3)] ?_
 refine A.dl 3 ?_
 refine A.q0 [] [] [.n] [(11,.bool r1)] ?_
 refine A.dx 1 ?_
 refine A.AX.cnb rfl hF (fun hb hF=>?_) (fun hb hF=>?_)
 ·refine A.xl 2 ?_
  refine A.q0 [] [] [.n] [(12,.bool r3)] ?_
  refine A.dx 1 ?_
  refine A.AX.cnb rfl hF (fun hb hF=>?_) (fun hb hF=>?_)
  ·refine A.xl 1 ?_
   refine A.q0 [] [] [.n] [(4,.int .i64 0)] ?_
   refine A.dx 1 ?_
   obtain rfl:=Option.some.inj hF
   exact A.rt1 [] ⟨rfl,rfl,(A.hasl .i64 (0) rfl)⟩
  refine A.xl 3 ?_
  refine A.q0 [] [] [.n] [(4,.int .i64 (-1))] ?_
  refine A.dx 1 ?_
  obtain rfl:=Option.some.inj hF
  exact A.rt1 [] ⟨rfl,rfl,(A.hasl .i64 (-1) rfl)⟩
 refine A.xl 4 ?_
 refine A.q0 [] [] [.n] [(13,.bool r3)] ?_
 refine A.dx 1 ?_
 refine A.AX.cnb rfl hF (fun hb hF=>?_) (fun hb hF=>?_)
 ·refine A.xl 1 ?_
  refine A.q0 [] [] [.n] [(4,.int .i64 1)] ?_
  refine A.dx 1 ?_
  obtain rfl:=Option.some.inj hF
  exact A.rt1 [] ⟨rfl,rfl,(A.hasl .i64 (1) rfl)⟩
 refine A.xl 4 ?_
 refine A.q0 [] [] [.n,.n,.n] [(16,.bool (decide (a0<a1)))] ?_
 refine A.dx 1 ?_
 refine A.AX.cnd rfl hF (fun hb hF=>?_) (fun hb hF=>?_)
 ·refine A.xl 1 ?_
  refine A.q0 [] [] [.n] [(4,.int .i64 (-1))] ?_
  refine A.dx 1 ?_
  obtain rfl:=Option.some.inj hF
  exact A.rt1 [] ⟨rfl,rfl,(A.hasl .i64 (-1) rfl)⟩
 refine A.xl 4 ?_
 refine A.q0 [] [] [.n,.n,.n] [(19,.bool (decide (a1<a0)))] ?_
 refine A.dx 1 ?_
 refine A.AX.cnd rfl hF (fun hb hF=>?_) (fun hb hF=>?_)
 ·refine A.xl 1 ?_
  refine A.q0 [] [] [.n] [(4,.int .i64 1)] ?_
  refine A.dx 1 ?_
  obtain rfl:=Option.some.inj hF
  exact A.rt1 [] ⟨rfl,rfl,(A.hasl .i64 (1) rfl)⟩
 refine A.xl 3 ?_
 refine A.q0 [] [] [.n] [(4,.int .i64 0)] ?_
 refine A.dx 1 ?_
 obtain rfl:=Option.some.inj hF
 exact A.rt1 [] ⟨rfl,rfl,(A.hasl .i64 (0) rfl)⟩
end Go.Proofs.YtlbnpmfggfbdoaaGreatDoor
end
section
set_option linter.unusedVariables false
set_option linter.unusedSimpArgs false
set_option maxRecDepth 20000
set_option maxHeartbeats 8000000
set_option synthInstance.maxSize 1000000
set_option synthInstance.maxHeartbeats 400000
namespace Go.Proofs.YtlbnpmfggfbdoaaGreatDoor
open Go.RowKit
def F.slices_Compare_int64_int64_l1 (a0:(List Int))(a1:(List Int)):Nat→Int→Option Int
 |0,_=>none
 |f+1,y1=>if y1<((a0).length:Int)then((A.ix a0 y1).bind fun x4=>(if((a1).length:Int)≤y1 then(some 1)else((A.ix a1 y1).bind fun x9=>((F.cmp_Compare_int64 x4 x9).bind fun r14=>(if r14≠0 then(some r14)else(A.gd (Z.R64 (y1+1)) ((F.slices_Compare_int64_int64_l1 a0 a1 f) (y1+1))))))))else(if((a0).length:Int)<((a1).length:Int)then(some (-1))else(some 0))
def F.slices_Compare_int64_int64 (a0:(List Int))(a1:(List Int)):Option Int:=F.slices_Compare_int64_int64_l1 a0 a1 A.FU 0
theorem slices_Compare_int64_int64_ok (a0:(List Int))(a1:(List Int))(A0_:Option Addr)(c1_:Nat)(A2_:Option Addr)(c3_:Nat)(r:Int)(hF:F.slices_Compare_int64_int64 a0 a1=some r):
    A.Ct Tryz.prog 151 [.slice A0_ ((a0).length) c1_,.slice A2_ ((a1).length) c3_] [(0,.ln (Z.Ty.int .i64) A0_ c1_ a0),(1,.ln (Z.Ty.int .i64) A2_ c3_ a1)] [] (fun v H'=>v=.int .i64 r∧H'=[]∧IntKind.i64.has r):=by
 refine A.Ct.enter Tryz.func151 rfl Tryz.ntmps151 rfl fun w0 F0=>?_
 rw[F.slices_Compare_int64_int64]at hF
 refine A.xl 1 ?_
 refine A.q0 [] [] [.n] [] ?_
 refine A.dl 3 ?_
 refine A.q0 [] [] [.n,.n,.n] [(9,.slice A0_ ((a0).length) c1_),(10,.int .i64 ((a0).length:Int)),(11,.int .i64 0)] ?_
 refine A.dx 2 ?_
 refine A.lp_ [0,1,9,10] [0,1] (fun f nl nh=>∃(y1:Int),nl=[(11,.int .i64 y1)]∧nh=[]∧IntKind.i64.has y1∧F.slices_Compare_int64_int64_l1 a0 a1 f y1=some r) ⟨0,rfl,rfl,(A.hasl .i64 (0) rfl),hF⟩ ?_
 rintro f3 _ _ ⟨y1,rfl,rfl,hy2,hF⟩
 rcases f3 with _|f3
 ·exact A.no0 hF
 rw[F.slices_Compare_int64_int64_l1]at hF
 refine A.xl 1 ?_
 refine A.q0 [] [] [.n] [(12,.bool (decide (y1<((a0).length:Int))))] ?_
 refine A.dx 2 ?_
 refine A.AX.cnd rfl hF (fun hb hF=>?_) (fun hb hF=>?_)
 ·refine A.xl 5 ?_
  refine A.q0 [] [] [.n] [(13,.int .i64 y1)] ?_
  obtain⟨x4,hv5,hF⟩:=A.bd_some hF
  refine A.AL.ixl 0 86 hv5 fun ho6=>?_
  intro b7 o8
  refine A.q0 [] [86] [.e 0 0,.n,.n] [(5,.int .i64 y1),(6,.int .i64 x4)] ?_
  refine A.dl 3 ?_
  refine A.q0 [] [] [.n,.n,.n,.n] [(19,.bool (decide (((a1).length:Int)≤y1)))] ?_
  refine A.dx 1 ?_
  refine A.AX.cnd rfl hF (fun hb hF=>?_) (fun hb hF=>?_)
  ·refine A.xl 1 ?_
   refine A.q0 [] [] [.n] [(4,.int .i64 1)] ?_
   refine A.dx 1 ?_
   obtain rfl:=Option.some.inj hF
   exact A.rt1 [] ⟨rfl,rfl,(A.hasl .i64 (1) rfl)⟩
  refine A.xl 3 ?_
  refine A.q0 [] [] [.n,.n] [(20,.slice A2_ ((a1).length) c3_),(21,.int .i64 y1)] ?_
  obtain⟨x9,hv10,hF⟩:=A.bd_some hF
  refine A.AL.ixl 1 87 hv10 fun ho11=>?_
  intro b12 o13
  refine A.q0 [] [87] [.e 0 0,.n] [(7,.int .i64 x9)] ?_
  refine A.dl 2 ?_
  refine A.q0 [] [] [.n,.n] [(24,.int .i64 x4),(25,.int .i64 x9)] ?_
  obtain⟨r14,hv15,hF⟩:=A.bd_some hF
  refine A.AL.call 88 [] (first:=[]) (cap:=[]) cf150 (cmp_Compare_int64_ok x4 x9 ho6 ho11 r14 hv15) .nil ?_
  rintro _ _ ⟨rfl,rfl,hr16⟩
  refine⟨by kernel_rfl,?_⟩
  refine A.q0 [] [] [.n] [(8,.int .i64 r14)] ?_
  refine A.dl 2 ?_
  refine A.q0 [] [] [.n,.n] [(28,.bool (decide (r14≠0)))] ?_
  refine A.dx 1 ?_
  refine A.AX.cnd rfl hF (fun hb hF=>?_) (fun hb hF=>?_)
  ·refine A.xl 1 ?_
   refine A.q0 [] [] [.n,.n] [(4,.int .i64 r14)] ?_
   refine A.dx 1 ?_
   obtain rfl:=Option.some.inj hF
   exact A.rt1 [] ⟨rfl,rfl,hr16⟩
  refine A.xl 3 ?_
  obtain⟨hc17,hF⟩:=A.gd_some hF
  refine A.q [] [] [.n,.n] [Z.R64 (y1+1)] [(11,.int .i64 (y1+1))] hc17 ?_
  refine A.AL.done ?_
  exact A.j ⟨_,Nat.lt_succ_self _,⟨(y1+1),rfl,rfl,(Z.i64_has hc17),hF⟩⟩
 refine A.xl 4 ?_
 refine A.q0 [] [] [.n,.n,.n,.n,.n] [(35,.bool (decide (((a0).length:Int)<((a1).length:Int))))] ?_
 refine A.dx 1 ?_
 refine A.AX.cnd rfl hF (fun hb hF=>?_) (fun hb hF=>?_)
 ·refine A.xl 1 ?_
  refine A.q0 [] [] [.n] [(4,.int .i64 (-1))] ?_
  refine A.dx 1 ?_
  obtain rfl:=Option.some.inj hF
  exact A.rt1 [] ⟨rfl,rfl,(A.hasl .i64 (-1) rfl)⟩
 refine A.xl 3 ?_
 refine A.q0 [] [] [.n] [(4,.int .i64 0)] ?_
 refine A.dx 1 ?_
 obtain rfl:=Option.some.inj hF
 exact A.rt1 [] ⟨rfl,rfl,(A.hasl .i64 (0) rfl)⟩
def F.summ_Compare (a0:D44)(a1:D44):Option Int:=(F.cmp_Compare_int a0.1 a1.1).bind fun r3=>((F.cmp_Compare_int a0.2.1 a1.2.1).bind fun r6=>((F.cmp_Compare_int64 a0.2.2.1 a1.2.2.1).bind fun r9=>((F.cmp_Compare_int a0.2.2.2.1 a1.2.2.2.1).bind fun r12=>((F.cmp_Or_int [r3,r6,r9,r12]).bind fun r16=>(if r16≠0 then(some r16)else((F.slices_Compare_int64_int64 [a0.2.2.2.2.1,a0.2.2.2.2.2.1,a0.2.2.2.2.2.2.1,a0.2.2.2.2.2.2.2] [a1.2.2.2.2.1,a1.2.2.2.2.2.1,a1.2.2.2.2.2.2.1,a1.2.2.2.2.2.2.2]).bind fun r19=>(some r19)))))))
theorem summ_Compare_ok (a0:D44)(a1:D44)(h0_:IntKind.i64.has a0.1)(h1_:IntKind.i64.has a0.2.1)(h2_:IntKind.i64.has a0.2.2.1)(h3_:IntKind.i64.has a0.2.2.2.1)(h4_:IntKind.i64.has a0.2.2.2.2.1)(h5_:IntKind.i64.has a0.2.2.2.2.2.1)(h6_:IntKind.i64.has a0.2.2.2.2.2.2.1)(h7_:IntKind.i64.has a0.2.2.2.2.2.2.2)(h8_:IntKind.i64.has a1.1)(h9_:IntKind.i64.has a1.2.1)(h10_:IntKind.i64.has a1.2.2.1)(h11_:IntKind.i64.has a1.2.2.2.1)(h12_:IntKind.i64.has a1.2.2.2.2.1)(h13_:IntKind.i64.has a1.2.2.2.2.2.1)(h14_:IntKind.i64.has a1.2.2.2.2.2.2.1)(h15_:IntKind.i64.has a1.2.2.2.2.2.2.2)(r:Int)(hF:F.summ_Compare a0 a1=some r):
    A.Ct Tryz.prog 110 [.agg #[.int .i64 a0.1,.int .i64 a0.2.1,.int .i64 a0.2.2.1,.int .i64 a0.2.2.2.1,.int .i64 a0.2.2.2.2.1,.int .i64 a0.2.2.2.2.2.1,.int .i64 a0.2.2.2.2.2.2.1,.int .i64 a0.2.2.2.2.2.2.2],.agg #[.int .i64 a1.1,.int .i64 a1.2.1,.int .i64 a1.2.2.1,.int .i64 a1.2.2.2.1,.int .i64 a1.2.2.2.2.1,.int .i64 a1.2.2.2.2.2.1,.int .i64 a1.2.2.2.2.2.2.1,.int .i64 a1.2.2.2.2.2.2.2]] [] [] (fun v H'=>v=.int .i64 r∧H'=[]∧IntKind.i64.has r):=by
 refine A.Ct.enter Tryz.func110 rfl Tryz.ntmps110 rfl fun w0 F0=>?_
 rw[F.summ_Compare]at hF
 refine A.xl 1 ?_
 refine A.AL.box 0 (cs:=[.int .i64 a0.1,.int .i64 a0.2.1,.int .i64 a0.2.2.1,.int .i64 a0.2.2.2.1,.int .i64 a0.2.2.2.2.1,.int .i64 a0.2.2.2.2.2.1,.int .i64 a0.2.2.2.2.2.2.1,.int .i64 a0.2.2.2.2.2.2.2]) fun g1=>?_
 refine A.AL.box 1 (cs:=[.int .i64 a1.1,.int .i64 a1.2.1,.int .i64 a1.2.2.1,.int .i64 a1.2.2.2.1,.int .i64 a1.2.2.2.2.1,.int .i64 a1.2.2.2.2.2.1,.int .i64 a1.2.2.2.2.2.2.1,.int .i64 a1.2.2.2.2.2.2.2]) fun g2=>?_
 refine A.q0 [] [] [.n] [] ?_
 refine A.dx 3 ?_
 refine A.AX.dr mixed 23 23 (A.mb 23 0) ?_
 refine A.hq A.pb [] [0,1] [0,1] [] (A.mb 23 507375) 7 [(0,.n),(2,.n),(5,.n),(7,.n),(10,.n),(12,.n),(15,.n),(17,.n),(1,.b 0 0),(3,.b 1 0),(6,.b 0 1),(8,.b 1 1),(11,.b 0 2),(13,.b 1 2),(16,.b 0 3),(18,.b 1 3)] [(7,.int .i64 a0.1),(9,.int .i64 a1.1),(12,.int .i64 a0.2.1),(14,.int .i64 a1.2.1),(17,.int .i64 a0.2.2.1),(19,.int .i64 a1.2.2.1),(22,.int .i64 a0.2.2.2.1),(24,.int .i64 a1.2.2.2.1)] ?_
 refine A.AH.one 4 ?_
 obtain⟨r3,hv4,hF⟩:=A.bd_some hF
 refine A.AL.call 2 [] (first:=[]) (cap:=[]) cf80 (cmp_Compare_int_ok a0.1 a1.1 h0_ h8_ r3 hv4) .nil ?_
 rintro _ _ ⟨rfl,rfl,hr5⟩
 refine⟨by kernel_rfl,?_⟩
 refine A.AH.nx (A.mb 23 507391) [0,1] ?_
 refine A.AH.one 9 ?_
 obtain⟨r6,hv7,hF⟩:=A.bd_some hF
 refine A.AL.call 42 [] (first:=[]) (cap:=[]) cf80 (cmp_Compare_int_ok a0.2.1 a1.2.1 h1_ h9_ r6 hv7) .nil ?_
 rintro _ _ ⟨rfl,rfl,hr8⟩
 refine⟨by kernel_rfl,?_⟩
 refine A.AH.nx (A.mb 23 507903) [0,1] ?_
 refine A.AH.one 14 ?_
 obtain⟨r9,hv10,hF⟩:=A.bd_some hF
 refine A.AL.call 82 [] (first:=[]) (cap:=[]) cf150 (cmp_Compare_int64_ok a0.2.2.1 a1.2.2.1 h2_ h10_ r9 hv10) .nil ?_
 rintro _ _ ⟨rfl,rfl,hr11⟩
 refine⟨by kernel_rfl,?_⟩
 refine A.AH.nx (A.mb 23 524287) [0,1] ?_
 refine A.AH.one 19 ?_
 obtain⟨r12,hv13,hF⟩:=A.bd_some hF
 refine A.AL.call 122 [] (first:=[]) (cap:=[]) cf80 (cmp_Compare_int_ok a0.2.2.2.1 a1.2.2.2.1 h3_ h11_ r12 hv13) .nil ?_
 rintro _ _ ⟨rfl,rfl,hr14⟩
 refine⟨by kernel_rfl,?_⟩
 refine A.AH.nx (A.mb 23 1048575) [0,1] ?_
 refine A.AH.one 20 ?_
 refine A.AL.bsl 162 (ty:=(Z.Ty.int .i64)) (cs:=[.int .i64 r3,.int .i64 r6,.int .i64 r9,.int .i64 r12]) [r3,r6,r9,r12] ⟨⟨rfl,hr5⟩,⟨⟨rfl,hr8⟩,⟨⟨rfl,hr11⟩,⟨⟨rfl,hr14⟩,rfl⟩⟩⟩⟩ (fun g15=>?_) Tryz.zeroValue3 Tryz.sizeOf3
 refine A.AH.nx (A.mb 23 2097151) [0,1] ?_
 refine A.AH.one 21 ?_
 obtain⟨r16,hv17,hF⟩:=A.bd_some hF
 refine A.AL.call 163 [] (first:=[]) (cap:=[]) cf44 (cmp_Or_int_ok [r3,r6,r9,r12] (some ⟨g15,0,none⟩) 4 r16 hv17) (.o 162 .nil) ?_
 rintro _ _ ⟨rfl,rfl,hr18⟩
 refine⟨by kernel_rfl,?_⟩
 refine A.AH.nx (A.mb 23 4194303) [0,1] ?_
 refine A.hq A.pb [0,1] [0,1,162] [] [] (A.mb 23 8388607) 0 [(22,.n)] [(5,.int .i64 r16)] ?_
 refine A.AH.done ?_
 refine A.el 2 ?_
 refine A.q0 [] [] [.n,.n] [(29,.bool (decide (r16≠0)))] ?_
 refine A.dx 1 ?_
 refine A.AX.cnd rfl hF (fun hb hF=>?_) (fun hb hF=>?_)
 ·refine A.xl 1 ?_
  refine A.q0 [] [] [.n,.n] [(4,.int .i64 r16)] ?_
  refine A.dx 1 ?_
  obtain rfl:=Option.some.inj hF
  exact A.rt1 [] ⟨rfl,rfl,hr18⟩
 refine A.xx 3 ?_
 refine A.AX.dr mixed 6 6 (A.mb 6 0) ?_
 refine A.hq A.pb [] [0,1,162] [] [] (A.mb 6 5) 4 [(0,.n),(2,.n)] [(31,.pointer (some ⟨g1,4,none⟩)),(33,.pointer (some ⟨g2,4,none⟩))] ?_
 refine A.AH.v A.pb [0,1,162] [0,1,162] 1 (A.mb 6 7) rfl (fun a w hf hh=>Z.r_sliceA_0 Tryz.underlying43 Tryz.sizeOf2 (hf.eval rfl)) ?_
 refine A.AH.v A.pb [0,1,162] [0,1,162] 3 (A.mb 6 15) rfl (fun a w hf hh=>Z.r_sliceA_0 Tryz.underlying43 Tryz.sizeOf2 (hf.eval rfl)) ?_
 refine A.AH.one 4 ?_
 obtain⟨r19,hv20,hF⟩:=A.bd_some hF
 refine A.AL.callF (fun w hh=>(A.hp_vbk 1 4 [] (t:=(Z.Ty.int .i64)) (cs:=[.int .i64 a1.1,.int .i64 a1.2.1,.int .i64 a1.2.2.1,.int .i64 a1.2.2.2.1,.int .i64 a1.2.2.2.2.1,.int .i64 a1.2.2.2.2.2.1,.int .i64 a1.2.2.2.2.2.2.1,.int .i64 a1.2.2.2.2.2.2.2]) [a1.2.2.2.2.1,a1.2.2.2.2.2.1,a1.2.2.2.2.2.2.1,a1.2.2.2.2.2.2.2] ⟨⟨rfl,h12_⟩,⟨⟨rfl,h13_⟩,⟨⟨rfl,h14_⟩,⟨⟨rfl,h15_⟩,rfl⟩⟩⟩⟩ (A.hp_vbk 0 4 [] (t:=(Z.Ty.int .i64)) (cs:=[.int .i64 a0.1,.int .i64 a0.2.1,.int .i64 a0.2.2.1,.int .i64 a0.2.2.2.1,.int .i64 a0.2.2.2.2.1,.int .i64 a0.2.2.2.2.2.1,.int .i64 a0.2.2.2.2.2.2.1,.int .i64 a0.2.2.2.2.2.2.2]) [a0.2.2.2.2.1,a0.2.2.2.2.2.1,a0.2.2.2.2.2.2.1,a0.2.2.2.2.2.2.2] ⟨⟨rfl,h4_⟩,⟨⟨rfl,h5_⟩,⟨⟨rfl,h6_⟩,⟨⟨rfl,h7_⟩,rfl⟩⟩⟩⟩ hh))) (first:=[]) (cap:=[]) cf151 (slices_Compare_int64_int64_ok [a0.2.2.2.2.1,a0.2.2.2.2.2.1,a0.2.2.2.2.2.2.1,a0.2.2.2.2.2.2.2] [a1.2.2.2.2.1,a1.2.2.2.2.2.1,a1.2.2.2.2.2.2.1,a1.2.2.2.2.2.2.2] (some ⟨g1,4,none⟩) 4 (some ⟨g2,4,none⟩) 4 r19 hv20) (.l 0 (.l 1 .nil)) ?_
 rintro _ _ ⟨rfl,rfl,hr21⟩
 refine A.AH.nx (A.mb 6 31) [0,1,162] ?_
 refine A.hq A.pb [0,1,162] [0,1,162] [] [] (A.mb 6 63) 0 [(5,.n)] [(4,.int .i64 r19)] ?_
 refine A.AH.done ?_
 refine A.ex 1 ?_
 obtain rfl:=Option.some.inj hF
 exact A.rt1 [] ⟨rfl,rfl,hr21⟩
def F.summ_less_j1 (y3:Bool):Option Bool:=some y3
def F.summ_less (a0:D44)(a1:D44):Option Bool:=if(a0.1,a0.2.1,a0.2.2.1,a0.2.2.2.1,(a0.2.2.2.2.1,a0.2.2.2.2.2.1,a0.2.2.2.2.2.2.1,a0.2.2.2.2.2.2.2))≠(a1.1,a1.2.1,a1.2.2.1,a1.2.2.2.1,(a1.2.2.2.2.1,a1.2.2.2.2.2.1,a1.2.2.2.2.2.2.1,a1.2.2.2.2.2.2.2))then((F.summ_Leq (a0.1,a0.2.1,a0.2.2.1,a0.2.2.2.1,(a0.2.2.2.2.1,a0.2.2.2.2.2.1,a0.2.2.2.2.2.2.1,a0.2.2.2.2.2.2.2)) (a1.1,a1.2.1,a1.2.2.1,a1.2.2.2.1,(a1.2.2.2.2.1,a1.2.2.2.2.2.1,a1.2.2.2.2.2.2.1,a1.2.2.2.2.2.2.2))).bind fun r4=>(if r4=true then((F.summ_Leq (a1.1,a1.2.1,a1.2.2.1,a1.2.2.2.1,(a1.2.2.2.2.1,a1.2.2.2.2.2.1,a1.2.2.2.2.2.2.1,a1.2.2.2.2.2.2.2)) (a0.1,a0.2.1,a0.2.2.1,a0.2.2.2.1,(a0.2.2.2.2.1,a0.2.2.2.2.2.1,a0.2.2.2.2.2.2.1,a0.2.2.2.2.2.2.2))).bind fun r6=>(if(!r6)=true then(F.summ_less_j1 true)else((F.summ_Compare (a0.1,a0.2.1,a0.2.2.1,a0.2.2.2.1,(a0.2.2.2.2.1,a0.2.2.2.2.2.1,a0.2.2.2.2.2.2.1,a0.2.2.2.2.2.2.2)) (a1.1,a1.2.1,a1.2.2.1,a1.2.2.2.1,(a1.2.2.2.2.1,a1.2.2.2.2.2.1,a1.2.2.2.2.2.2.1,a1.2.2.2.2.2.2.2))).bind fun r8=>(F.summ_less_j1 (decide (r8<0))))))else(F.summ_less_j1 false)))else(F.summ_less_j1 false)
theorem summ_less_ok (a0:D44)(a1:D44)(h0_:IntKind.i64.has a0.1)(h1_:IntKind.i64.has a0.2.1)(h2_:IntKind.i64.has a0.2.2.1)(h3_:IntKind.i64.has a0.2.2.2.1)(h4_:IntKind.i64.has a0.2.2.2.2.1)(h5_:IntKind.i64.has a0.2.2.2.2.2.1)(h6_:IntKind.i64.has a0.2.2.2.2.2.2.1)(h7_:IntKind.i64.has a0.2.2.2.2.2.2.2)(h8_:IntKind.i64.has a1.1)(h9_:IntKind.i64.has a1.2.1)(h10_:IntKind.i64.has a1.2.2.1)(h11_:IntKind.i64.has a1.2.2.2.1)(h12_:IntKind.i64.has a1.2.2.2.2.1)(h13_:IntKind.i64.has a1.2.2.2.2.2.1)(h14_:IntKind.i64.has a1.2.2.2.2.2.2.1)(h15_:IntKind.i64.has a1.2.2.2.2.2.2.2)(r:Bool)(hF:F.summ_less a0 a1=some r):
    A.Ct Tryz.prog 108 [.agg #[.int .i64 a0.1,.int .i64 a0.2.1,.int .i64 a0.2.2.1,.int .i64 a0.2.2.2.1,.int .i64 a0.2.2.2.2.1,.int .i64 a0.2.2.2.2.2.1,.int .i64 a0.2.2.2.2.2.2.1,.int .i64 a0.2.2.2.2.2.2.2],.agg #[.int .i64 a1.1,.int .i64 a1.2.1,.int .i64 a1.2.2.1,.int .i64 a1.2.2.2.1,.int .i64 a1.2.2.2.2.1,.int .i64 a1.2.2.2.2.2.1,.int .i64 a1.2.2.2.2.2.2.1,.int .i64 a1.2.2.2.2.2.2.2]] [] [] (fun v H'=>v=.bool r∧H'=[]):=by
 refine A.Ct.enter Tryz.func108 rfl Tryz.ntmps108 rfl fun w0 F0=>?_
 rw[F.summ_less]at hF
 refine A.xl 1 ?_
 refine A.AL.box 0 (cs:=[.int .i64 a0.1,.int .i64 a0.2.1,.int .i64 a0.2.2.1,.int .i64 a0.2.2.2.1,.int .i64 a0.2.2.2.2.1,.int .i64 a0.2.2.2.2.2.1,.int .i64 a0.2.2.2.2.2.2.1,.int .i64 a0.2.2.2.2.2.2.2]) fun g1=>?_
 refine A.AL.box 1 (cs:=[.int .i64 a1.1,.int .i64 a1.2.1,.int .i64 a1.2.2.1,.int .i64 a1.2.2.2.1,.int .i64 a1.2.2.2.2.1,.int .i64 a1.2.2.2.2.2.1,.int .i64 a1.2.2.2.2.2.2.1,.int .i64 a1.2.2.2.2.2.2.2]) fun g2=>?_
 refine A.q0 [] [] [.n] [] ?_
 refine A.dx 1 ?_
 refine A.AX.join [] [] (fun nl nh=>∃(y3:Bool),nl=[(4,.bool y3)]∧nh=[]∧F.summ_less_j1 y3=some r) ?_ ?_
 ·refine A.xl 0 ?_
  refine A.q0 [0,1] [] [.b 0 0,.b 1 0] [(5,.agg #[.int .i64 a0.1,.int .i64 a0.2.1,.int .i64 a0.2.2.1,.int .i64 a0.2.2.2.1,.int .i64 a0.2.2.2.2.1,.int .i64 a0.2.2.2.2.2.1,.int .i64 a0.2.2.2.2.2.2.1,.int .i64 a0.2.2.2.2.2.2.2]),(6,.agg #[.int .i64 a1.1,.int .i64 a1.2.1,.int .i64 a1.2.2.1,.int .i64 a1.2.2.2.1,.int .i64 a1.2.2.2.2.1,.int .i64 a1.2.2.2.2.2.1,.int .i64 a1.2.2.2.2.2.2.1,.int .i64 a1.2.2.2.2.2.2.2])] ?_
  refine A.AL.val rfl (fun a w hf hh=>eqagg_neq45 (x:=(a0.1,a0.2.1,a0.2.2.1,a0.2.2.2.1,(a0.2.2.2.2.1,a0.2.2.2.2.2.1,a0.2.2.2.2.2.2.1,a0.2.2.2.2.2.2.2))) (y:=(a1.1,a1.2.1,a1.2.2.1,a1.2.2.2.1,(a1.2.2.2.2.1,a1.2.2.2.2.2.1,a1.2.2.2.2.2.2.1,a1.2.2.2.2.2.2.2))) (hf.eval rfl) (hf.eval rfl)) ?_
  refine A.q0 [] [] [.n] [(8,.bool (decide ((a0.1,a0.2.1,a0.2.2.1,a0.2.2.2.1,(a0.2.2.2.2.1,a0.2.2.2.2.2.1,a0.2.2.2.2.2.2.1,a0.2.2.2.2.2.2.2))≠(a1.1,a1.2.1,a1.2.2.1,a1.2.2.2.1,(a1.2.2.2.2.1,a1.2.2.2.2.2.1,a1.2.2.2.2.2.2.1,a1.2.2.2.2.2.2.2)))))] ?_
  refine A.AL.cnp (j:=8) rfl hF (fun hb hF=>?_) (fun hb hF=>?_)
  ·refine A.q0 [0,1] [] [.on (.b 0 0),.on (.b 1 0)] [(9,.agg #[.int .i64 a0.1,.int .i64 a0.2.1,.int .i64 a0.2.2.1,.int .i64 a0.2.2.2.1,.int .i64 a0.2.2.2.2.1,.int .i64 a0.2.2.2.2.2.1,.int .i64 a0.2.2.2.2.2.2.1,.int .i64 a0.2.2.2.2.2.2.2]),(10,.agg #[.int .i64 a1.1,.int .i64 a1.2.1,.int .i64 a1.2.2.1,.int .i64 a1.2.2.2.1,.int .i64 a1.2.2.2.2.1,.int .i64 a1.2.2.2.2.2.1,.int .i64 a1.2.2.2.2.2.2.1,.int .i64 a1.2.2.2.2.2.2.2])] ?_
   refine A.AL.on (dj:=8) rfl rfl ?_
   obtain⟨r4,hv5,hF⟩:=A.bd_some hF
   refine A.AL.call 2 [] (first:=[]) (cap:=[]) cf148 (summ_Leq_ok (a0.1,a0.2.1,a0.2.2.1,a0.2.2.2.1,(a0.2.2.2.2.1,a0.2.2.2.2.2.1,a0.2.2.2.2.2.2.1,a0.2.2.2.2.2.2.2)) (a1.1,a1.2.1,a1.2.2.1,a1.2.2.2.1,(a1.2.2.2.2.1,a1.2.2.2.2.2.1,a1.2.2.2.2.2.2.1,a1.2.2.2.2.2.2.2)) h0_ h1_ h2_ h3_ h4_ h5_ h6_ h7_ h8_ h9_ h10_ h11_ h12_ h13_ h14_ h15_ r4 hv5) .nil ?_
   rintro _ _ ⟨rfl,rfl⟩
   refine⟨by kernel_rfl,?_⟩
   refine A.q0 [] [] [.n,.n] [(13,.bool r4)] ?_
   refine A.AL.cnd (j:=13) rfl hF (fun hF=>?_) (fun hF=>?_)
   ·refine A.q0 [1,0] [] [.on (.b 0 0),.on (.b 1 0)] [(14,.agg #[.int .i64 a1.1,.int .i64 a1.2.1,.int .i64 a1.2.2.1,.int .i64 a1.2.2.2.1,.int .i64 a1.2.2.2.2.1,.int .i64 a1.2.2.2.2.2.1,.int .i64 a1.2.2.2.2.2.2.1,.int .i64 a1.2.2.2.2.2.2.2]),(15,.agg #[.int .i64 a0.1,.int .i64 a0.2.1,.int .i64 a0.2.2.1,.int .i64 a0.2.2.2.1,.int .i64 a0.2.2.2.2.1,.int .i64 a0.2.2.2.2.2.1,.int .i64 a0.2.2.2.2.2.2.1,.int .i64 a0.2.2.2.2.2.2.2])] ?_
    refine A.AL.on (dj:=13) rfl rfl ?_
    obtain⟨r6,hv7,hF⟩:=A.bd_some hF
    refine A.AL.call 42 [] (first:=[]) (cap:=[]) cf148 (summ_Leq_ok (a1.1,a1.2.1,a1.2.2.1,a1.2.2.2.1,(a1.2.2.2.2.1,a1.2.2.2.2.2.1,a1.2.2.2.2.2.2.1,a1.2.2.2.2.2.2.2)) (a0.1,a0.2.1,a0.2.2.1,a0.2.2.2.1,(a0.2.2.2.2.1,a0.2.2.2.2.2.1,a0.2.2.2.2.2.2.1,a0.2.2.2.2.2.2.2)) h8_ h9_ h10_ h11_ h12_ h13_ h14_ h15_ h0_ h1_ h2_ h3_ h4_ h5_ h6_ h7_ r6 hv7) .nil ?_
    rintro _ _ ⟨rfl,rfl⟩
    refine⟨by kernel_rfl,?_⟩
    refine A.q0 [] [] [.on .n,.on .n] [(18,.bool (!r6))] ?_
    refine A.AL.cnd (j:=18) rfl hF (fun hF=>?_) (fun hF=>?_)
    ·refine A.q0 [] [] [.off,.off,.off,.off,.on .n,.n,.n] [(4,.bool true)] ?_
     refine A.AL.done ?_
     exact A.j ⟨true,rfl,rfl,hF⟩
    refine A.q0 [0,1] [] [.on (.b 0 0),.on (.b 1 0)] [(19,.agg #[.int .i64 a0.1,.int .i64 a0.2.1,.int .i64 a0.2.2.1,.int .i64 a0.2.2.2.1,.int .i64 a0.2.2.2.2.1,.int .i64 a0.2.2.2.2.2.1,.int .i64 a0.2.2.2.2.2.2.1,.int .i64 a0.2.2.2.2.2.2.2]),(20,.agg #[.int .i64 a1.1,.int .i64 a1.2.1,.int .i64 a1.2.2.1,.int .i64 a1.2.2.2.1,.int .i64 a1.2.2.2.2.1,.int .i64 a1.2.2.2.2.2.1,.int .i64 a1.2.2.2.2.2.2.1,.int .i64 a1.2.2.2.2.2.2.2])] ?_
    refine A.AL.on (dj:=18) rfl rfl ?_
    obtain⟨r8,hv9,hF⟩:=A.bd_some hF
    refine A.AL.call 82 [] (first:=[]) (cap:=[]) cf110 (summ_Compare_ok (a0.1,a0.2.1,a0.2.2.1,a0.2.2.2.1,(a0.2.2.2.2.1,a0.2.2.2.2.2.1,a0.2.2.2.2.2.2.1,a0.2.2.2.2.2.2.2)) (a1.1,a1.2.1,a1.2.2.1,a1.2.2.2.1,(a1.2.2.2.2.1,a1.2.2.2.2.2.1,a1.2.2.2.2.2.2.1,a1.2.2.2.2.2.2.2)) h0_ h1_ h2_ h3_ h4_ h5_ h6_ h7_ h8_ h9_ h10_ h11_ h12_ h13_ h14_ h15_ r8 hv9) .nil ?_
    rintro _ _ ⟨rfl,rfl,hr10⟩
    refine⟨by kernel_rfl,?_⟩
    refine A.q0 [] [] [.on .n,.on .n,.n,.n] [(4,.bool (decide (r8<0)))] ?_
    refine A.AL.done ?_
    exact A.j ⟨(decide (r8<0)),rfl,rfl,hF⟩
   refine A.q0 [] [] [.off,.off,.off,.off,.off,.off,.off,.off,.off,.off,.n,.n] [(4,.bool false)] ?_
   refine A.AL.done ?_
   exact A.j ⟨false,rfl,rfl,hF⟩
  refine A.q0 [] [] [.off,.off,.off,.n,.n,.off,.off,.off,.off,.off,.off,.off,.off,.off,.off,.n,.n] [(4,.bool false)] ?_
  refine A.AL.done ?_
  exact A.j ⟨false,rfl,rfl,hF⟩
 rintro _ _ ⟨y3,rfl,rfl,hF⟩
 rw[F.summ_less_j1]at hF
 obtain rfl:=Option.some.inj hF
 exact A.rt1 [] ⟨rfl,rfl⟩
end Go.Proofs.YtlbnpmfggfbdoaaGreatDoor
end
section
set_option linter.unusedVariables false
set_option linter.unusedSimpArgs false
set_option maxRecDepth 20000
set_option maxHeartbeats 8000000
set_option synthInstance.maxSize 1000000
set_option synthInstance.maxHeartbeats 400000
namespace Go.Proofs.YtlbnpmfggfbdoaaGreatDoor
open Go.RowKit
def F.slices_Compact_api_Sum_api_Sum_j1 (k4:(List D44)→Int→Int→Option (List D44))(y22:Int)(xs27:List D44)(y29:Int):Option (List D44):=A.gd (Z.R64 (y22+1)) (k4 xs27 y29 (y22+1))
def F.slices_Compact_api_Sum_api_Sum_l2 (a0:(List D44))(y1:Int):Nat→(List D44)→Int→Int→Option (List D44)
 |0,_,_,_=>none
 |f+1,xs18,y20,y22=>if y22<(((a0).length -y1.toNat:Nat):Int)then(A.gd (Z.R64 (y22-1)) (A.gd (y1.toNat≤(xs18).length) ((A.ix (List.drop y1.toNat xs18) y22).bind fun x33=>(A.gd (y1.toNat≤(xs18).length) ((A.ix (List.drop y1.toNat xs18) (y22-1)).bind fun x40=>(if(x33.1,x33.2.1,x33.2.2.1,x33.2.2.2.1,(x33.2.2.2.2.1,x33.2.2.2.2.2.1,x33.2.2.2.2.2.2.1,x33.2.2.2.2.2.2.2))≠(x40.1,x40.2.1,x40.2.2.1,x40.2.2.2.1,(x40.2.2.2.2.1,x40.2.2.2.2.2.1,x40.2.2.2.2.2.2.1,x40.2.2.2.2.2.2.2))then(A.gd (y1.toNat≤(xs18).length) ((A.ix (List.drop y1.toNat xs18) y22).bind fun x47=>((A.ix xs18 y20).bind fun x53=>(A.gd (Z.R64 (y20+1)) (F.slices_Compact_api_Sum_api_Sum_j1 (F.slices_Compact_api_Sum_api_Sum_l2 a0 y1 f) y22 (xs18.set y20.toNat (x47.1,x47.2.1,x47.2.2.1,x47.2.2.2.1,(x47.2.2.2.2.1,x47.2.2.2.2.2.1,x47.2.2.2.2.2.2.1,x47.2.2.2.2.2.2.2))) (y20+1))))))else(F.slices_Compact_api_Sum_api_Sum_j1 (F.slices_Compact_api_Sum_api_Sum_l2 a0 y1 f) y22 xs18 y20)))))))else(A.gd (0≤y20∧y20.toNat≤(xs18).length) (A.gd (0≤y20∧y20.toNat≤(List.take y20.toNat xs18++List.replicate ((xs18).length -y20.toNat) ((0,0,0,0,0,0,0,0):D44)).length) (some (List.take y20.toNat (List.take y20.toNat xs18++List.replicate ((xs18).length -y20.toNat) ((0,0,0,0,0,0,0,0):D44))))))
def F.slices_Compact_api_Sum_api_Sum_l3 (a0:(List D44)):Nat→Int→Option (List D44)
 |0,_=>none
 |f+1,y1=>if y1<((a0).length:Int)then(A.gd (Z.R64 (y1-1)) ((A.ix a0 y1).bind fun x5=>((A.ix a0 (y1-1)).bind fun x10=>(if(x5.1,x5.2.1,x5.2.2.1,x5.2.2.2.1,(x5.2.2.2.2.1,x5.2.2.2.2.2.1,x5.2.2.2.2.2.2.1,x5.2.2.2.2.2.2.2))=(x10.1,x10.2.1,x10.2.2.1,x10.2.2.2.1,(x10.2.2.2.2.1,x10.2.2.2.2.2.1,x10.2.2.2.2.2.2.1,x10.2.2.2.2.2.2.2))then(A.gd (0≤y1∧y1.toNat≤(a0).length) (F.slices_Compact_api_Sum_api_Sum_l2 a0 y1 A.FU a0 y1 1))else(A.gd (Z.R64 (y1+1)) ((F.slices_Compact_api_Sum_api_Sum_l3 a0 f) (y1+1)))))))else(some a0)
def F.slices_Compact_api_Sum_api_Sum (a0:(List D44)):Option (List D44):=if((a0).length:Int)<2 then(some a0)else(F.slices_Compact_api_Sum_api_Sum_l3 a0 A.FU 1)
theorem slices_Compact_api_Sum_api_Sum_ok (a0:(List D44))(A0_:Option Addr)(c1_:Nat)(r:(List D44))(hF:F.slices_Compact_api_Sum_api_Sum a0=some r):
    A.Ct Tryz.prog 111 [.slice A0_ ((a0).length) c1_] [(0,.own T44 45 A0_ c1_ a0)] (Z.obl A0_++[]) (fun v H'=>∃(A0':Option Addr) (c1':Nat),v=.slice A0' ((r).length) c1'∧H'=[(0,.sh (.slice T44) [.slice A0' (r).length c1'] r)]):=by
 refine A.Ct.enter Tryz.func111 rfl Tryz.ntmps111 rfl fun w0 F0=>?_
 rw[F.slices_Compact_api_Sum_api_Sum]at hF
 refine A.xl 1 ?_
 refine A.q0 [] [] [.n] [] ?_
 refine A.dl 3 ?_
 refine A.q0 [] [] [.n,.n,.n] [(8,.bool (decide (((a0).length:Int)<2)))] ?_
 refine A.dx 1 ?_
 refine A.AX.cnd rfl hF (fun hb hF=>?_) (fun hb hF=>?_)
 ·refine A.xl 1 ?_
  refine A.q0 [] [] [.n,.n] [(2,.slice A0_ ((a0).length) c1_)] ?_
  refine A.dx 1 ?_
  obtain rfl:=Option.some.inj hF
  refine A.frz 0 [] ?_
  exact A.rt1 [(0,0)] ⟨A0_,c1_,rfl,rfl⟩
 refine A.xl 4 ?_
 refine A.q0 [] [] [.n] [(3,.int .i64 1)] ?_
 refine A.dx 2 ?_
 refine A.lp_ [0] [0] (fun f nl nh=>∃(y1:Int),nl=[(3,.int .i64 y1)]∧nh=[]∧IntKind.i64.has y1∧F.slices_Compact_api_Sum_api_Sum_l3 a0 f y1=some r) ⟨1,rfl,rfl,(A.hasl .i64 (1) rfl),hF⟩ ?_
 rintro f3 _ _ ⟨y1,rfl,rfl,hy2,hF⟩
 rcases f3 with _|f3
 ·exact A.no0 hF
 rw[F.slices_Compact_api_Sum_api_Sum_l3]at hF
 refine A.xl 2 ?_
 refine A.q0 [] [] [.n,.n,.n,.n] [(13,.bool (decide (y1<((a0).length:Int))))] ?_
 refine A.dx 1 ?_
 refine A.AX.cnd rfl hF (fun hb hF=>?_) (fun hb hF=>?_)
 ·refine A.xx 5 ?_
  refine A.AX.dr mixed 10 10 (A.mb 10 0) ?_
  obtain⟨hc4,hF⟩:=A.gd_some hF
  refine A.AH.q A.pb [] [0] [] [] (A.mb 10 115) 5 [(0,.n),(1,.n),(4,.n),(5,.n),(6,.n)] [16,17,20,22] [Z.R64 (y1-1)] [(16,.slice A0_ ((a0).length) c1_),(17,.int .i64 y1),(20,.slice A0_ ((a0).length) c1_),(22,.int .i64 (y1-1))] hc4 ?_
  obtain⟨x5,hv6,hF⟩:=A.bd_some hF
  refine A.AH.pko 0 35 hv6 fun ho7=>?_
  intro g9 hA8
  refine A.AH.v A.pb [0] [0,35] 2 (A.mb 10 119) rfl (fun a w hf hh=>A.r_ixo (t:=T44) hv6 hA8 hf) ?_
  refine A.hq A.pb [0,35] [0,35] [] [35] (A.mb 10 127) 3 [(3,.e 0 0)] [(19,.agg #[.int .i64 x5.1,.int .i64 x5.2.1,.int .i64 x5.2.2.1,.int .i64 x5.2.2.2.1,.int .i64 x5.2.2.2.2.1,.int .i64 x5.2.2.2.2.2.1,.int .i64 x5.2.2.2.2.2.2.1,.int .i64 x5.2.2.2.2.2.2.2])] ?_
  obtain⟨x10,hv11,hF⟩:=A.bd_some hF
  refine A.AH.pko 0 36 hv11 fun ho12=>?_
  intro g14 hA13
  refine A.AH.v A.pb [0,35] [0,35,36] 7 (A.mb 10 255) rfl (fun a w hf hh=>A.r_ixo (t:=T44) hv11 hA13 hf) ?_
  refine A.hq A.pb [0,35,36] [0,35,36] [] [36] (A.mb 10 511) 1 [(8,.e 0 0)] [(24,.agg #[.int .i64 x10.1,.int .i64 x10.2.1,.int .i64 x10.2.2.1,.int .i64 x10.2.2.2.1,.int .i64 x10.2.2.2.2.1,.int .i64 x10.2.2.2.2.2.1,.int .i64 x10.2.2.2.2.2.2.1,.int .i64 x10.2.2.2.2.2.2.2])] ?_
  refine A.AH.v A.pb [0,35,36] [0,35,36] 9 (A.mb 10 1023) rfl (fun a w hf hh=>eqagg_eql45 (x:=(x5.1,x5.2.1,x5.2.2.1,x5.2.2.2.1,(x5.2.2.2.2.1,x5.2.2.2.2.2.1,x5.2.2.2.2.2.2.1,x5.2.2.2.2.2.2.2))) (y:=(x10.1,x10.2.1,x10.2.2.1,x10.2.2.2.1,(x10.2.2.2.2.1,x10.2.2.2.2.2.1,x10.2.2.2.2.2.2.1,x10.2.2.2.2.2.2.2))) (hf.eval rfl) (hf.eval rfl)) ?_
  refine A.AH.done ?_
  refine A.ex 1 ?_
  refine A.AX.cnd rfl hF (fun hb hF=>?_) (fun hb hF=>?_)
  ·refine A.xl 1 ?_
   refine A.q0 [] [] [.n,.n] [(26,.slice A0_ ((a0).length) c1_),(27,.int .i64 y1)] ?_
   obtain⟨hc15,hF⟩:=A.gd_some hF
   refine A.AL.cutv 0 (u:=y1.toNat) (Int.toNat_of_nonneg hc15.1).symm hc15.2 ?_
   refine A.q0 [] [] [.n] [(4,.slice (Z.cutA A0_ c1_ y1.toNat (T44).size) (((a0).length)-y1.toNat) (c1_-y1.toNat))] ?_
   refine A.dl 3 ?_
   refine A.q0 [] [] [.n] [(5,.int .i64 1)] ?_
   refine A.dx 2 ?_
   refine A.lp_ [0,4] [] (fun f nl nh=>∃(xs18:List D44),∃(y20:Int),∃(y22:Int),nl=[(3,.int .i64 y20),(5,.int .i64 y22)]∧nh=[(0,.own T44 45 A0_ c1_ xs18)]∧(a0).length=xs18.length∧IntKind.i64.has y20∧IntKind.i64.has y22∧F.slices_Compact_api_Sum_api_Sum_l2 a0 y1 f xs18 y20 y22=some r) ⟨a0,y1,1,rfl,rfl,rfl,hy2,(A.hasl .i64 (1) rfl),hF⟩ ?_
   rintro f24 _ _ ⟨xs18,y20,y22,rfl,rfl,hn19,hy21,hy23,hF⟩
   rcases f24 with _|f24
   ·exact A.no0 hF
   rw[F.slices_Compact_api_Sum_api_Sum_l2]at hF
   refine A.xl 2 ?_
   refine A.q0 [] [] [.n,.n,.n,.n] [(32,.bool (decide (y22<(((a0).length -y1.toNat:Nat):Int))))] ?_
   refine A.dx 1 ?_
   refine A.AX.cnd rfl hF (fun hb hF=>?_) (fun hb hF=>?_)
   ·refine A.xx 2 ?_
    refine A.AX.join [0,4,5] [] (fun nl nh=>∃(xs27:List D44),∃(y29:Int),nl=[(3,.int .i64 y29)]∧nh=[(0,.own T44 45 A0_ c1_ xs27)]∧(a0).length=xs27.length∧IntKind.i64.has y29∧F.slices_Compact_api_Sum_api_Sum_j1 (F.slices_Compact_api_Sum_api_Sum_l2 a0 y1 f24) y22 xs27 y29=some r) ?_ ?_
    ·refine A.xx 2 ?_
     refine A.AX.dr mixed 10 10 (A.mb 10 0) ?_
     obtain⟨hc32,hF⟩:=A.gd_some hF
     refine A.AH.q A.pb [] [0] [] [] (A.mb 10 115) 5 [(0,.n),(1,.n),(4,.n),(5,.n),(6,.n)] [35,36,39,41] [Z.R64 (y22-1)] [(35,.slice (Z.cutA A0_ c1_ y1.toNat (T44).size) (((a0).length)-y1.toNat) (c1_-y1.toNat)),(36,.int .i64 y22),(39,.slice (Z.cutA A0_ c1_ y1.toNat (T44).size) (((a0).length)-y1.toNat) (c1_-y1.toNat)),(41,.int .i64 (y22-1))] hc32 ?_
     obtain⟨hu37,hF⟩:=A.gd_some hF
     obtain⟨x33,hv34,hF⟩:=A.bd_some hF
     refine A.pkw 0 47 hv34 hu37 fun ho35=>?_
     intro b38 o39 hA36
     refine A.AH.v A.pb [0] [0,47] 2 (A.mb 10 119) rfl (fun a w hf hh=>A.r_ixa (t:=T44) hv34 hA36 hf (A.vw rfl (congrArg (fun z=>z-y1.toNat) hn19))) ?_
     refine A.hq A.pb [0,47] [0,47] [] [47] (A.mb 10 127) 3 [(3,.e 0 0)] [(38,.agg #[.int .i64 x33.1,.int .i64 x33.2.1,.int .i64 x33.2.2.1,.int .i64 x33.2.2.2.1,.int .i64 x33.2.2.2.2.1,.int .i64 x33.2.2.2.2.2.1,.int .i64 x33.2.2.2.2.2.2.1,.int .i64 x33.2.2.2.2.2.2.2])] ?_
     obtain⟨hu44,hF⟩:=A.gd_some hF
     obtain⟨x40,hv41,hF⟩:=A.bd_some hF
     refine A.pkw 0 48 hv41 hu44 fun ho42=>?_
     intro b45 o46 hA43
     refine A.AH.v A.pb [0,47] [0,47,48] 7 (A.mb 10 255) rfl (fun a w hf hh=>A.r_ixa (t:=T44) hv41 hA43 hf (A.vw rfl (congrArg (fun z=>z-y1.toNat) hn19))) ?_
     refine A.hq A.pb [0,47,48] [0,47,48] [] [48] (A.mb 10 511) 1 [(8,.e 0 0)] [(43,.agg #[.int .i64 x40.1,.int .i64 x40.2.1,.int .i64 x40.2.2.1,.int .i64 x40.2.2.2.1,.int .i64 x40.2.2.2.2.1,.int .i64 x40.2.2.2.2.2.1,.int .i64 x40.2.2.2.2.2.2.1,.int .i64 x40.2.2.2.2.2.2.2])] ?_
     refine A.AH.v A.pb [0,47,48] [0,47,48] 9 (A.mb 10 1023) rfl (fun a w hf hh=>eqagg_neq45 (x:=(x33.1,x33.2.1,x33.2.2.1,x33.2.2.2.1,(x33.2.2.2.2.1,x33.2.2.2.2.2.1,x33.2.2.2.2.2.2.1,x33.2.2.2.2.2.2.2))) (y:=(x40.1,x40.2.1,x40.2.2.1,x40.2.2.2.1,(x40.2.2.2.2.1,x40.2.2.2.2.2.1,x40.2.2.2.2.2.2.1,x40.2.2.2.2.2.2.2))) (hf.eval rfl) (hf.eval rfl)) ?_
     refine A.AH.done ?_
     refine A.ex 1 ?_
     refine A.AX.cnd rfl hF (fun hb hF=>?_) (fun hb hF=>?_)
     ·refine A.xl 1 ?_
      refine A.q0 [] [] [.n,.n,.n,.n] [(45,.slice A0_ ((a0).length) c1_),(46,.int .i64 y20),(47,.slice (Z.cutA A0_ c1_ y1.toNat (T44).size) (((a0).length)-y1.toNat) (c1_-y1.toNat)),(48,.int .i64 y22)] ?_
      obtain⟨hu52,hF⟩:=A.gd_some hF
      obtain⟨x47,hv48,hF⟩:=A.bd_some hF
      refine A.AL.ixw 0 49 hv48 hu52 (congrArg (fun z=>z-y1.toNat) hn19) fun ho49=>?_
      intro b50 o51
      refine A.q0 [] [49] [.e 0 0] [(50,.agg #[.int .i64 x47.1,.int .i64 x47.2.1,.int .i64 x47.2.2.1,.int .i64 x47.2.2.2.1,.int .i64 x47.2.2.2.2.1,.int .i64 x47.2.2.2.2.2.1,.int .i64 x47.2.2.2.2.2.2.1,.int .i64 x47.2.2.2.2.2.2.2])] ?_
      refine A.cst 45 (Z.slice_n (show(a0).length=(xs18).length from hn19)) ?_
      obtain⟨x53,hv54,hF⟩:=A.bd_some hF
      refine A.AL.ixo 0 50 hv54 fun ho55=>?_
      intro g56 hA57
      refine A.AL.setel 0 50 [47,48,49,50] (o:=0) (m:=8) (t:=T44) (new:=[.int .i64 x47.1,.int .i64 x47.2.1,.int .i64 x47.2.2.1,.int .i64 x47.2.2.2.1,.int .i64 x47.2.2.2.2.1,.int .i64 x47.2.2.2.2.2.1,.int .i64 x47.2.2.2.2.2.2.1,.int .i64 x47.2.2.2.2.2.2.2]) (es:=[.int .i64 x53.1,.int .i64 x53.2.1,.int .i64 x53.2.2.1,.int .i64 x53.2.2.2.1,.int .i64 x53.2.2.2.2.1,.int .i64 x53.2.2.2.2.2.1,.int .i64 x53.2.2.2.2.2.2.1,.int .i64 x53.2.2.2.2.2.2.2]) (x47.1,x47.2.1,x47.2.2.1,x47.2.2.2.1,(x47.2.2.2.2.1,x47.2.2.2.2.2.1,x47.2.2.2.2.2.2.1,x47.2.2.2.2.2.2.2)) hv54 hA57 ⟨⟨rfl,ho49.1⟩,⟨rfl,ho49.2.1⟩,⟨rfl,ho49.2.2.1⟩,⟨rfl,ho49.2.2.2.1⟩,⟨⟨rfl,ho49.2.2.2.2.1⟩,⟨rfl,ho49.2.2.2.2.2.1⟩,⟨rfl,ho49.2.2.2.2.2.2.1⟩,⟨rfl,ho49.2.2.2.2.2.2.2⟩⟩⟩ ?_
      refine A.dl 1 ?_
      obtain⟨hc58,hF⟩:=A.gd_some hF
      refine A.q [] [] [.n,.n,.n] [Z.R64 (y20+1)] [(3,.int .i64 (y20+1))] hc58 ?_
      refine A.de 1 ?_
      exact A.j ⟨(xs18.set y20.toNat (x47.1,x47.2.1,x47.2.2.1,x47.2.2.2.1,(x47.2.2.2.2.1,x47.2.2.2.2.2.1,x47.2.2.2.2.2.2.1,x47.2.2.2.2.2.2.2))),(y20+1),rfl,rfl,(by rw[List.length_set];exact hn19),(Z.i64_has hc58),hF⟩
     refine A.xe 2 ?_
     exact A.j ⟨xs18,y20,rfl,rfl,hn19,hy21,hF⟩
    rintro _ _ ⟨xs27,y29,rfl,rfl,hn28,hy30,hF⟩
    rw[F.slices_Compact_api_Sum_api_Sum_j1]at hF
    refine A.xl 0 ?_
    obtain⟨hc31,hF⟩:=A.gd_some hF
    refine A.q [] [] [.n,.n,.n] [Z.R64 (y22+1)] [(5,.int .i64 (y22+1))] hc31 ?_
    refine A.AL.done ?_
    exact A.j ⟨_,Nat.lt_succ_self _,⟨xs27,y29,(y22+1),rfl,rfl,hn28,hy30,(Z.i64_has hc31),hF⟩⟩
   refine A.xl 3 ?_
   refine A.q0 [] [] [.n,.n] [(54,.slice A0_ ((a0).length) c1_),(55,.int .i64 y20)] ?_
   refine A.cst 54 (Z.slice_n (show(a0).length=(xs18).length from hn19)) ?_
   obtain⟨hc59,hF⟩:=A.gd_some hF
   refine A.AL.clr 0 [] (t:=T44) (u:=y20.toNat) (zs:=[.int .i64 0,.int .i64 0,.int .i64 0,.int .i64 0,.int .i64 0,.int .i64 0,.int .i64 0,.int .i64 0]) ((0,0,0,0,0,0,0,0):D44) (Int.toNat_of_nonneg hc59.1).symm hc59.2 Tryz.zeroValue45 ⟨⟨rfl,by decide⟩,⟨rfl,by decide⟩,⟨rfl,by decide⟩,⟨rfl,by decide⟩,⟨⟨rfl,by decide⟩,⟨rfl,by decide⟩,⟨rfl,by decide⟩,⟨rfl,by decide⟩⟩⟩ ?_ Tryz.sizeOf45
   refine A.dl 2 ?_
   refine A.q0 [] [] [.n,.n] [(57,.slice A0_ ((a0).length) c1_),(58,.int .i64 y20)] ?_
   refine A.cst 57 (Z.slice_n (show(a0).length=(List.take y20.toNat xs18++List.replicate ((xs18).length -y20.toNat) ((0,0,0,0,0,0,0,0):D44)).length from(Eq.trans hn19 (by rw[List.length_append,List.length_take,List.length_replicate];omega)))) ?_
   obtain⟨hc60,hF⟩:=A.gd_some hF
   refine A.AL.cuto 0 [] (v:=y20.toNat) (Int.toNat_of_nonneg hc60.1).symm hc60.2 ?_
   refine A.q0 [] [] [.n] [(2,.slice A0_ ((List.take y20.toNat (List.take y20.toNat xs18++List.replicate ((xs18).length -y20.toNat) ((0,0,0,0,0,0,0,0):D44))).length) c1_)] ?_
   refine A.dx 1 ?_
   obtain rfl:=Option.some.inj hF
   refine A.frz 0 [] ?_
   exact A.rt1 [(0,0)] ⟨A0_,c1_,rfl,rfl⟩
  refine A.xl 3 ?_
  obtain⟨hc63,hF⟩:=A.gd_some hF
  refine A.q [] [] [.n,.n,.n] [Z.R64 (y1+1)] [(3,.int .i64 (y1+1))] hc63 ?_
  refine A.AL.done ?_
  exact A.j ⟨_,Nat.lt_succ_self _,⟨(y1+1),rfl,rfl,(Z.i64_has hc63),hF⟩⟩
 refine A.xl 3 ?_
 refine A.q0 [] [] [.n,.n] [(2,.slice A0_ ((a0).length) c1_)] ?_
 refine A.dx 1 ?_
 obtain rfl:=Option.some.inj hF
 refine A.frz 0 [] ?_
 exact A.rt1 [(0,0)] ⟨A0_,c1_,rfl,rfl⟩
end Go.Proofs.YtlbnpmfggfbdoaaGreatDoor
end
section
set_option linter.unusedVariables false
set_option linter.unusedSimpArgs false
set_option maxRecDepth 20000
set_option maxHeartbeats 8000000
set_option synthInstance.maxSize 1000000
set_option synthInstance.maxHeartbeats 400000
namespace Go.Proofs.YtlbnpmfggfbdoaaGreatDoor
open Go.RowKit
def F.summ_Least_1 (a0:D44)(b0:D44):Option Bool:=(F.summ_less (a0.1,a0.2.1,a0.2.2.1,a0.2.2.2.1,(a0.2.2.2.2.1,a0.2.2.2.2.2.1,a0.2.2.2.2.2.2.1,a0.2.2.2.2.2.2.2)) (b0.1,b0.2.1,b0.2.2.1,b0.2.2.2.1,(b0.2.2.2.2.1,b0.2.2.2.2.2.1,b0.2.2.2.2.2.2.1,b0.2.2.2.2.2.2.2))).bind fun r2=>(some r2)
theorem summ_Least_1_ok (a0:D44)(b0:D44)(g8_:Nat)(h0_:IntKind.i64.has a0.1)(h1_:IntKind.i64.has a0.2.1)(h2_:IntKind.i64.has a0.2.2.1)(h3_:IntKind.i64.has a0.2.2.2.1)(h4_:IntKind.i64.has a0.2.2.2.2.1)(h5_:IntKind.i64.has a0.2.2.2.2.2.1)(h6_:IntKind.i64.has a0.2.2.2.2.2.2.1)(h7_:IntKind.i64.has a0.2.2.2.2.2.2.2)(h9_:IntKind.i64.has b0.1)(h10_:IntKind.i64.has b0.2.1)(h11_:IntKind.i64.has b0.2.2.1)(h12_:IntKind.i64.has b0.2.2.2.1)(h13_:IntKind.i64.has b0.2.2.2.2.1)(h14_:IntKind.i64.has b0.2.2.2.2.2.1)(h15_:IntKind.i64.has b0.2.2.2.2.2.2.1)(h16_:IntKind.i64.has b0.2.2.2.2.2.2.2)(r:Bool)(hF:F.summ_Least_1 a0 b0=some r):
    A.Ct Tryz.prog 107 [.agg #[.int .i64 a0.1,.int .i64 a0.2.1,.int .i64 a0.2.2.1,.int .i64 a0.2.2.2.1,.int .i64 a0.2.2.2.2.1,.int .i64 a0.2.2.2.2.2.1,.int .i64 a0.2.2.2.2.2.2.1,.int .i64 a0.2.2.2.2.2.2.2],.pointer (some ⟨g8_,0,none⟩)] [(0,.el none g8_ 0 [.int .i64 b0.1,.int .i64 b0.2.1,.int .i64 b0.2.2.1,.int .i64 b0.2.2.2.1,.int .i64 b0.2.2.2.2.1,.int .i64 b0.2.2.2.2.2.1,.int .i64 b0.2.2.2.2.2.2.1,.int .i64 b0.2.2.2.2.2.2.2])] [] (fun v H'=>v=.bool r∧H'=[]):=by
 refine A.Ct.enter Tryz.func107 rfl Tryz.ntmps107 rfl fun w0 F0=>?_
 rw[F.summ_Least_1]at hF
 refine A.xl 1 ?_
 refine A.AL.box 1 (cs:=[.int .i64 a0.1,.int .i64 a0.2.1,.int .i64 a0.2.2.1,.int .i64 a0.2.2.2.1,.int .i64 a0.2.2.2.2.1,.int .i64 a0.2.2.2.2.2.1,.int .i64 a0.2.2.2.2.2.2.1,.int .i64 a0.2.2.2.2.2.2.2]) fun g1=>?_
 refine A.q0 [] [] [.n] [] ?_
 refine A.dl 2 ?_
 refine A.q0 [1] [0] [.b 0 0,.e 0 0] [(4,.agg #[.int .i64 a0.1,.int .i64 a0.2.1,.int .i64 a0.2.2.1,.int .i64 a0.2.2.2.1,.int .i64 a0.2.2.2.2.1,.int .i64 a0.2.2.2.2.2.1,.int .i64 a0.2.2.2.2.2.2.1,.int .i64 a0.2.2.2.2.2.2.2]),(5,.agg #[.int .i64 b0.1,.int .i64 b0.2.1,.int .i64 b0.2.2.1,.int .i64 b0.2.2.2.1,.int .i64 b0.2.2.2.2.1,.int .i64 b0.2.2.2.2.2.1,.int .i64 b0.2.2.2.2.2.2.1,.int .i64 b0.2.2.2.2.2.2.2])] ?_
 obtain⟨r2,hv3,hF⟩:=A.bd_some hF
 refine A.AL.call 2 [] (first:=[]) (cap:=[]) cf108 (summ_less_ok (a0.1,a0.2.1,a0.2.2.1,a0.2.2.2.1,(a0.2.2.2.2.1,a0.2.2.2.2.2.1,a0.2.2.2.2.2.2.1,a0.2.2.2.2.2.2.2)) (b0.1,b0.2.1,b0.2.2.1,b0.2.2.2.1,(b0.2.2.2.2.1,b0.2.2.2.2.2.1,b0.2.2.2.2.2.2.1,b0.2.2.2.2.2.2.2)) h0_ h1_ h2_ h3_ h4_ h5_ h6_ h7_ h9_ h10_ h11_ h12_ h13_ h14_ h15_ h16_ r2 hv3) .nil ?_
 rintro _ _ ⟨rfl,rfl⟩
 refine⟨by kernel_rfl,?_⟩
 refine A.q0 [] [] [.n] [(3,.bool r2)] ?_
 refine A.dx 1 ?_
 obtain rfl:=Option.some.inj hF
 exact A.rt1 [] ⟨rfl,rfl⟩
def F.slices_IndexFunc_api_Sum_api_Sum_summ_Least_1_l1 (a0:(List D44))(a1_0:D44):Nat→Int→Option Int
 |0,_=>none
 |f+1,y1=>if y1<((a0).length:Int)then((A.ix a0 y1).bind fun x4=>((F.summ_Least_1 (x4.1,x4.2.1,x4.2.2.1,x4.2.2.2.1,(x4.2.2.2.2.1,x4.2.2.2.2.2.1,x4.2.2.2.2.2.2.1,x4.2.2.2.2.2.2.2)) (a1_0.1,a1_0.2.1,a1_0.2.2.1,a1_0.2.2.2.1,(a1_0.2.2.2.2.1,a1_0.2.2.2.2.2.1,a1_0.2.2.2.2.2.2.1,a1_0.2.2.2.2.2.2.2))).bind fun r9=>(if r9=true then(some y1)else(A.gd (Z.R64 (y1+1)) ((F.slices_IndexFunc_api_Sum_api_Sum_summ_Least_1_l1 a0 a1_0 f) (y1+1))))))else(some (-1))
def F.slices_IndexFunc_api_Sum_api_Sum_summ_Least_1 (a0:(List D44))(a1_0:D44):Option Int:=F.slices_IndexFunc_api_Sum_api_Sum_summ_Least_1_l1 a0 a1_0 A.FU 0
theorem slices_IndexFunc_api_Sum_api_Sum_summ_Least_1_ok (a0:(List D44))(a1_0:D44)(A0_:Option Addr)(c1_:Nat)(g2_:Nat)(h3_:IntKind.i64.has a1_0.1)(h4_:IntKind.i64.has a1_0.2.1)(h5_:IntKind.i64.has a1_0.2.2.1)(h6_:IntKind.i64.has a1_0.2.2.2.1)(h7_:IntKind.i64.has a1_0.2.2.2.2.1)(h8_:IntKind.i64.has a1_0.2.2.2.2.2.1)(h9_:IntKind.i64.has a1_0.2.2.2.2.2.2.1)(h10_:IntKind.i64.has a1_0.2.2.2.2.2.2.2)(r:Int)(hF:F.slices_IndexFunc_api_Sum_api_Sum_summ_Least_1 a0 a1_0=some r):
    A.Ct Tryz.prog 52 [.slice A0_ ((a0).length) c1_,.func (.func 107) #[] #[.pointer (some ⟨g2_,0,none⟩)]] [(0,.ln T44 A0_ c1_ a0),(1,.el none g2_ 0 [.int .i64 a1_0.1,.int .i64 a1_0.2.1,.int .i64 a1_0.2.2.1,.int .i64 a1_0.2.2.2.1,.int .i64 a1_0.2.2.2.2.1,.int .i64 a1_0.2.2.2.2.2.1,.int .i64 a1_0.2.2.2.2.2.2.1,.int .i64 a1_0.2.2.2.2.2.2.2])] [] (fun v H'=>v=.int .i64 r∧H'=[]∧IntKind.i64.has r):=by
 refine A.Ct.enter Tryz.func52 rfl Tryz.ntmps52 rfl fun w0 F0=>?_
 rw[F.slices_IndexFunc_api_Sum_api_Sum_summ_Least_1]at hF
 refine A.xl 1 ?_
 refine A.q0 [] [] [.n] [] ?_
 refine A.dl 3 ?_
 refine A.q0 [] [] [.n,.n,.n] [(7,.int .i64 ((a0).length:Int)),(8,.int .i64 0)] ?_
 refine A.dx 2 ?_
 refine A.lp_ [0,1,7] [0,1] (fun f nl nh=>∃(y1:Int),nl=[(8,.int .i64 y1)]∧nh=[]∧IntKind.i64.has y1∧F.slices_IndexFunc_api_Sum_api_Sum_summ_Least_1_l1 a0 a1_0 f y1=some r) ⟨0,rfl,rfl,(A.hasl .i64 (0) rfl),hF⟩ ?_
 rintro f3 _ _ ⟨y1,rfl,rfl,hy2,hF⟩
 rcases f3 with _|f3
 ·exact A.no0 hF
 rw[F.slices_IndexFunc_api_Sum_api_Sum_summ_Least_1_l1]at hF
 refine A.xl 1 ?_
 refine A.q0 [] [] [.n] [(9,.bool (decide (y1<((a0).length:Int))))] ?_
 refine A.dx 2 ?_
 refine A.AX.cnd rfl hF (fun hb hF=>?_) (fun hb hF=>?_)
 ·refine A.xl 5 ?_
  refine A.q0 [] [] [.n,.n] [(5,.int .i64 y1)] ?_
  refine A.dl 2 ?_
  refine A.q0 [] [] [.n,.n,.n] [(11,.func (.func 107) #[] #[.pointer (some ⟨g2_,0,none⟩)]),(12,.slice A0_ ((a0).length) c1_),(13,.int .i64 y1)] ?_
  obtain⟨x4,hv5,hF⟩:=A.bd_some hF
  refine A.AL.ixl 0 84 hv5 fun ho6=>?_
  intro b7 o8
  refine A.q0 [] [84] [.e 0 0] [(15,.agg #[.int .i64 x4.1,.int .i64 x4.2.1,.int .i64 x4.2.2.1,.int .i64 x4.2.2.2.1,.int .i64 x4.2.2.2.2.1,.int .i64 x4.2.2.2.2.2.1,.int .i64 x4.2.2.2.2.2.2.1,.int .i64 x4.2.2.2.2.2.2.2])] ?_
  obtain⟨r9,hv10,hF⟩:=A.bd_some hF
  refine A.AL.call 85 [] (first:=[]) (cap:=[.pointer (some ⟨g2_,0,none⟩)]) cf107 (summ_Least_1_ok (x4.1,x4.2.1,x4.2.2.1,x4.2.2.2.1,(x4.2.2.2.2.1,x4.2.2.2.2.2.1,x4.2.2.2.2.2.2.1,x4.2.2.2.2.2.2.2)) (a1_0.1,a1_0.2.1,a1_0.2.2.1,a1_0.2.2.2.1,(a1_0.2.2.2.2.1,a1_0.2.2.2.2.2.1,a1_0.2.2.2.2.2.2.1,a1_0.2.2.2.2.2.2.2)) g2_ ho6.1 ho6.2.1 ho6.2.2.1 ho6.2.2.2.1 ho6.2.2.2.2.1 ho6.2.2.2.2.2.1 ho6.2.2.2.2.2.2.1 ho6.2.2.2.2.2.2.2 h3_ h4_ h5_ h6_ h7_ h8_ h9_ h10_ r9 hv10) (.s 1 .nil) ?_
  rintro _ _ ⟨rfl,rfl⟩
  refine⟨by kernel_rfl,?_⟩
  refine A.dx 1 ?_
  refine A.AX.cnb rfl hF (fun hb hF=>?_) (fun hb hF=>?_)
  ·refine A.xl 1 ?_
   refine A.q0 [] [] [.n,.n] [(4,.int .i64 y1)] ?_
   refine A.dx 1 ?_
   obtain rfl:=Option.some.inj hF
   exact A.rt1 [] ⟨rfl,rfl,hy2⟩
  refine A.xl 3 ?_
  obtain⟨hc11,hF⟩:=A.gd_some hF
  refine A.q [] [] [.n,.n] [Z.R64 (y1+1)] [(8,.int .i64 (y1+1))] hc11 ?_
  refine A.AL.done ?_
  exact A.j ⟨_,Nat.lt_succ_self _,⟨(y1+1),rfl,rfl,(Z.i64_has hc11),hF⟩⟩
 refine A.xl 3 ?_
 refine A.q0 [] [] [.n] [(4,.int .i64 (-1))] ?_
 refine A.dx 1 ?_
 obtain rfl:=Option.some.inj hF
 exact A.rt1 [] ⟨rfl,rfl,(A.hasl .i64 (-1) rfl)⟩
def F.slices_ContainsFunc_api_Sum_api_Sum_summ_Least_1 (a0:(List D44))(a1_0:D44):Option Bool:=(F.slices_IndexFunc_api_Sum_api_Sum_summ_Least_1 a0 (a1_0.1,a1_0.2.1,a1_0.2.2.1,a1_0.2.2.2.1,(a1_0.2.2.2.2.1,a1_0.2.2.2.2.2.1,a1_0.2.2.2.2.2.2.1,a1_0.2.2.2.2.2.2.2))).bind fun r1=>(some (decide ((0:Int)≤r1)))
theorem slices_ContainsFunc_api_Sum_api_Sum_summ_Least_1_ok (a0:(List D44))(a1_0:D44)(A0_:Option Addr)(c1_:Nat)(g2_:Nat)(h3_:IntKind.i64.has a1_0.1)(h4_:IntKind.i64.has a1_0.2.1)(h5_:IntKind.i64.has a1_0.2.2.1)(h6_:IntKind.i64.has a1_0.2.2.2.1)(h7_:IntKind.i64.has a1_0.2.2.2.2.1)(h8_:IntKind.i64.has a1_0.2.2.2.2.2.1)(h9_:IntKind.i64.has a1_0.2.2.2.2.2.2.1)(h10_:IntKind.i64.has a1_0.2.2.2.2.2.2.2)(r:Bool)(hF:F.slices_ContainsFunc_api_Sum_api_Sum_summ_Least_1 a0 a1_0=some r):
    A.Ct Tryz.prog 16 [.slice A0_ ((a0).length) c1_,.func (.func 107) #[] #[.pointer (some ⟨g2_,0,none⟩)]] [(0,.ln T44 A0_ c1_ a0),(1,.el none g2_ 0 [.int .i64 a1_0.1,.int .i64 a1_0.2.1,.int .i64 a1_0.2.2.1,.int .i64 a1_0.2.2.2.1,.int .i64 a1_0.2.2.2.2.1,.int .i64 a1_0.2.2.2.2.2.1,.int .i64 a1_0.2.2.2.2.2.2.1,.int .i64 a1_0.2.2.2.2.2.2.2])] [] (fun v H'=>v=.bool r∧H'=[]):=by
 refine A.Ct.enter Tryz.func16 rfl Tryz.ntmps16 rfl fun w0 F0=>?_
 rw[F.slices_ContainsFunc_api_Sum_api_Sum_summ_Least_1]at hF
 refine A.xl 1 ?_
 refine A.q0 [] [] [.n] [] ?_
 refine A.dl 2 ?_
 refine A.q0 [] [] [.n,.n] [(5,.slice A0_ ((a0).length) c1_),(6,.func (.func 107) #[] #[.pointer (some ⟨g2_,0,none⟩)])] ?_
 obtain⟨r1,hv2,hF⟩:=A.bd_some hF
 refine A.AL.call 2 [] (first:=[]) (cap:=[]) cf52 (slices_IndexFunc_api_Sum_api_Sum_summ_Least_1_ok a0 (a1_0.1,a1_0.2.1,a1_0.2.2.1,a1_0.2.2.2.1,(a1_0.2.2.2.2.1,a1_0.2.2.2.2.2.1,a1_0.2.2.2.2.2.2.1,a1_0.2.2.2.2.2.2.2)) A0_ c1_ g2_ h3_ h4_ h5_ h6_ h7_ h8_ h9_ h10_ r1 hv2) (.s 0 (.s 1 .nil)) ?_
 rintro _ _ ⟨rfl,rfl,hr3⟩
 refine⟨by kernel_rfl,?_⟩
 refine A.q0 [] [] [.n,.n] [(4,.bool (decide ((0:Int)≤r1)))] ?_
 refine A.dx 1 ?_
 obtain rfl:=Option.some.inj hF
 exact A.rt1 [] ⟨rfl,rfl⟩
def F.slices_SortFunc_api_Sum_api_Sum_summ_Compare (a0:List D44):Option (List D44):=A.gd (a0.length<4611686018427387904) (A.srtF (fun x y=>F.summ_Compare x y) a0)
theorem slices_SortFunc_api_Sum_api_Sum_summ_Compare_ok (a0:List D44)(A0_:Option Addr)(c1_:Nat)(r:List D44)(hF:F.slices_SortFunc_api_Sum_api_Sum_summ_Compare a0=some r):
    A.Ct Tryz.prog 109 [.slice A0_ ((a0).length) c1_,.func (.func 110) #[] #[]] [(0,.own T44 45 A0_ c1_ a0)] (Z.obl A0_++[]) (fun v H'=>v=.tuple #[]∧H'=[(0,.own T44 45 A0_ c1_ r)]∧(r).length=(a0).length):=by
 obtain⟨hc,hF⟩:=A.gd_some hF
 rw[List.append_nil]
 exact A.Ct.sortF (t:=T44) (e:=45) Tryz.laysSortFunc109 rfl rfl Tryz.isAgg45 Tryz.sizeOf45 A0_ c1_ 110 (fun x y=>F.summ_Compare x y) cf110 (fun x y r hx hy h=>⟨_,summ_Compare_ok x y hx.1 hx.2.1 hx.2.2.1 hx.2.2.2.1 hx.2.2.2.2.1 hx.2.2.2.2.2.1 hx.2.2.2.2.2.2.1 hx.2.2.2.2.2.2.2 hy.1 hy.2.1 hy.2.2.1 hy.2.2.2.1 hy.2.2.2.2.1 hy.2.2.2.2.2.1 hy.2.2.2.2.2.2.1 hy.2.2.2.2.2.2.2 r h,fun v H' h=>h.1⟩) a0 r hc hF
def F.summ_Least_j1 (k4:(List D44)→Int→Option ((List D44)×Int))(y16:Int)(xs21:List D44):Option ((List D44)×Int):=A.gd (Z.R64 (y16+1)) (k4 xs21 (y16+1))
def F.summ_Least_j2 (k4:(List D44)→Int→Option ((List D44)×Int))(a0:(List D44))(xs15:List D44)(y16:Int)(x23:D44)(y29:Bool):Option ((List D44)×Int):=if y29=true then(some ([],11))else((F.slices_ContainsFunc_api_Sum_api_Sum_summ_Least_1 a0 (x23.1,x23.2.1,x23.2.2.1,x23.2.2.2.1,(x23.2.2.2.2.1,x23.2.2.2.2.2.1,x23.2.2.2.2.2.2.1,x23.2.2.2.2.2.2.2))).bind fun r30=>(if(!r30)=true then(A.gd ((List.length (α:=D44) xs15+List.length (α:=D44) [(x23.1,x23.2.1,x23.2.2.1,x23.2.2.2.1,(x23.2.2.2.2.1,x23.2.2.2.2.2.1,x23.2.2.2.2.2.2.1,x23.2.2.2.2.2.2.2))])*64≤140737488355328) (F.summ_Least_j1 k4 y16 (xs15++[(x23.1,x23.2.1,x23.2.2.1,x23.2.2.2.1,(x23.2.2.2.2.1,x23.2.2.2.2.2.1,x23.2.2.2.2.2.2.1,x23.2.2.2.2.2.2.2))])))else(F.summ_Least_j1 k4 y16 xs15)))
def F.summ_Least_l3 (a0:(List D44)):Nat→(List D44)→Int→Option ((List D44)×Int)
 |0,_,_=>none
 |f+1,xs15,y16=>if y16<((a0).length:Int)then((A.ix a0 y16).bind fun x23=>((A.ix a0 0).bind fun x36=>(if x23.1≠x36.1 then(F.summ_Least_j2 (F.summ_Least_l3 a0 f) a0 xs15 y16 x23 true)else((A.ix a0 0).bind fun x42=>((F.summ_Ends (x23.1,x23.2.1,x23.2.2.1,x23.2.2.2.1,(x23.2.2.2.2.1,x23.2.2.2.2.2.1,x23.2.2.2.2.2.2.1,x23.2.2.2.2.2.2.2))).bind fun r48=>((F.summ_Ends (x42.1,x42.2.1,x42.2.2.1,x42.2.2.2.1,(x42.2.2.2.2.1,x42.2.2.2.2.2.1,x42.2.2.2.2.2.2.1,x42.2.2.2.2.2.2.2))).bind fun r51=>(F.summ_Least_j2 (F.summ_Least_l3 a0 f) a0 xs15 y16 x23 (decide (r48≠r51)))))))))else((F.slices_SortFunc_api_Sum_api_Sum_summ_Compare xs15).bind fun r54=>((F.slices_Compact_api_Sum_api_Sum r54).bind fun r57=>(some (r57,0))))
def F.summ_Least_l4 (a0:(List D44)):Nat→Int→Option ((List D44)×Int)
 |0,_=>none
 |f+1,y1=>if y1<((a0).length:Int)then((A.ix a0 y1).bind fun x4=>((F.summ_may (x4.1,x4.2.1,x4.2.2.1,x4.2.2.2.1,(x4.2.2.2.2.1,x4.2.2.2.2.2.1,x4.2.2.2.2.2.2.1,x4.2.2.2.2.2.2.2))).bind fun r10=>(if(!r10)=true then(some ([],20))else(A.gd (Z.R64 (y1+1)) ((F.summ_Least_l4 a0 f) (y1+1))))))else(F.summ_Least_l3 a0 A.FU [] 0)
def F.summ_Least (a0:(List D44)):Option ((List D44)×Int):=F.summ_Least_l4 a0 A.FU 0
theorem summ_Least_ok (a0:(List D44))(A0_:Option Addr)(c1_:Nat)(r:(List D44)×Int)(hF:F.summ_Least a0=some r):
    A.Ct Tryz.prog 75 [.slice A0_ ((a0).length) c1_] [(0,.ln T44 A0_ c1_ a0)] [] (fun v H'=>∃(A0':Option Addr) (c1':Nat),v=.tuple #[.slice A0' ((r.1).length) c1',.int .i64 r.2]∧H'=[(0,.sh (.slice T44) [.slice A0' (r.1).length c1'] r.1)]∧IntKind.i64.has r.2):=by
 refine A.Ct.enter Tryz.func75 rfl Tryz.ntmps75 rfl fun w0 F0=>?_
 rw[F.summ_Least]at hF
 refine A.xl 1 ?_
 refine A.q0 [] [] [.n,.n] [] ?_
 refine A.dl 3 ?_
 refine A.q0 [] [] [.n,.n,.n] [(9,.slice A0_ ((a0).length) c1_),(10,.int .i64 ((a0).length:Int)),(11,.int .i64 0)] ?_
 refine A.dx 2 ?_
 refine A.lp_ [0,9,10] [0] (fun f nl nh=>∃(y1:Int),nl=[(11,.int .i64 y1)]∧nh=[]∧IntKind.i64.has y1∧F.summ_Least_l4 a0 f y1=some r) ⟨0,rfl,rfl,(A.hasl .i64 (0) rfl),hF⟩ ?_
 rintro f3 _ _ ⟨y1,rfl,rfl,hy2,hF⟩
 rcases f3 with _|f3
 ·exact A.no0 hF
 rw[F.summ_Least_l4]at hF
 refine A.xl 1 ?_
 refine A.q0 [] [] [.n] [(12,.bool (decide (y1<((a0).length:Int))))] ?_
 refine A.dx 2 ?_
 refine A.AX.cnd rfl hF (fun hb hF=>?_) (fun hb hF=>?_)
 ·refine A.xl 5 ?_
  obtain⟨x4,hv5,hF⟩:=A.bd_some hF
  refine A.AL.ixl 0 1997 hv5 fun ho6=>?_
  intro b7 o8
  refine A.q0 [] [1997] [.e 0 0] [(14,.agg #[.int .i64 x4.1,.int .i64 x4.2.1,.int .i64 x4.2.2.1,.int .i64 x4.2.2.2.1,.int .i64 x4.2.2.2.2.1,.int .i64 x4.2.2.2.2.2.1,.int .i64 x4.2.2.2.2.2.2.1,.int .i64 x4.2.2.2.2.2.2.2])] ?_
  refine A.AL.alloc 1998 (cs:=[.int .i64 0,.int .i64 0,.int .i64 0,.int .i64 0,.int .i64 0,.int .i64 0,.int .i64 0,.int .i64 0]) Tryz.zeroValue45 fun g9=>?_
  refine A.sw 1998 [] [.int .i64 x4.1,.int .i64 x4.2.1,.int .i64 x4.2.2.1,.int .i64 x4.2.2.2.1,.int .i64 x4.2.2.2.2.1,.int .i64 x4.2.2.2.2.2.1,.int .i64 x4.2.2.2.2.2.2.1,.int .i64 x4.2.2.2.2.2.2.2] ?_
  refine A.dl 2 ?_
  refine A.q0 [1998] [] [.b 0 0] [(15,.agg #[.int .i64 x4.1,.int .i64 x4.2.1,.int .i64 x4.2.2.1,.int .i64 x4.2.2.2.1,.int .i64 x4.2.2.2.2.1,.int .i64 x4.2.2.2.2.2.1,.int .i64 x4.2.2.2.2.2.2.1,.int .i64 x4.2.2.2.2.2.2.2])] ?_
  obtain⟨r10,hv11,hF⟩:=A.bd_some hF
  refine A.AL.call 1999 [] (first:=[]) (cap:=[]) cf91 (summ_may_ok (x4.1,x4.2.1,x4.2.2.1,x4.2.2.2.1,(x4.2.2.2.2.1,x4.2.2.2.2.2.1,x4.2.2.2.2.2.2.1,x4.2.2.2.2.2.2.2)) ho6.1 ho6.2.1 ho6.2.2.1 ho6.2.2.2.1 ho6.2.2.2.2.1 ho6.2.2.2.2.2.1 ho6.2.2.2.2.2.2.1 ho6.2.2.2.2.2.2.2 r10 hv11) .nil ?_
  rintro _ _ ⟨rfl,rfl⟩
  refine⟨by kernel_rfl,?_⟩
  refine A.q0 [] [] [.n] [(17,.bool (!r10))] ?_
  refine A.dx 1 ?_
  refine A.AX.cnb rfl hF (fun hb hF=>?_) (fun hb hF=>?_)
  ·refine A.xl 1 ?_
   refine A.q0 [] [] [.n,.n] [(2,.slice none 0 0),(3,.int .i64 20)] ?_
   refine A.dx 1 ?_
   obtain rfl:=Option.some.inj hF
   refine A.snil 2039 T44 ?_
   exact A.rt2 [(0,2039)] ⟨none,0,rfl,rfl,(A.hasl .i64 (20) rfl)⟩
  refine A.xl 3 ?_
  obtain⟨hc12,hF⟩:=A.gd_some hF
  refine A.q [] [] [.n,.n] [Z.R64 (y1+1)] [(11,.int .i64 (y1+1))] hc12 ?_
  refine A.AL.done ?_
  exact A.j ⟨_,Nat.lt_succ_self _,⟨(y1+1),rfl,rfl,(Z.i64_has hc12),hF⟩⟩
 refine A.xl 3 ?_
 refine A.q0 [] [] [.n] [(6,.slice none 0 0)] ?_
 refine A.dl 3 ?_
 refine A.q0 [] [] [.n,.n,.n] [(19,.slice A0_ ((a0).length) c1_),(20,.int .i64 ((a0).length:Int)),(21,.int .i64 0)] ?_
 refine A.dx 2 ?_
 refine A.nil 2376 T44 45 ?_
 refine A.lp_ [0,19,20] [0] (fun f nl nh=>∃(xs15:List D44),∃(y16:Int),∃(A13:Option Addr),∃(c14:Nat),nl=[(6,.slice A13 ((xs15).length) c14),(21,.int .i64 y16)]∧nh=[(2376,.own T44 45 A13 c14 xs15)]∧IntKind.i64.has y16∧F.summ_Least_l3 a0 f xs15 y16=some r) ⟨[],0,none,0,rfl,rfl,(A.hasl .i64 (0) rfl),hF⟩ ?_
 rintro f18 _ _ ⟨xs15,y16,A13,c14,rfl,rfl,hy17,hF⟩
 rcases f18 with _|f18
 ·exact A.no0 hF
 rw[F.summ_Least_l3]at hF
 refine A.xl 1 ?_
 refine A.q0 [] [] [.n] [(22,.bool (decide (y16<((a0).length:Int))))] ?_
 refine A.dx 2 ?_
 refine A.AX.cnd rfl hF (fun hb hF=>?_) (fun hb hF=>?_)
 ·refine A.xx 2 ?_
  refine A.AX.join [0,19,20,21] [0] (fun nl nh=>∃(xs21:List D44),∃(A19:Option Addr),∃(c20:Nat),nl=[(6,.slice A19 ((xs21).length) c20)]∧nh=[(2376,.own T44 45 A19 c20 xs21)]∧F.summ_Least_j1 (F.summ_Least_l3 a0 f18) y16 xs21=some r) ?_ ?_
  ·refine A.xl 2 ?_
   obtain⟨x23,hv24,hF⟩:=A.bd_some hF
   refine A.AL.ixl 0 2789 hv24 fun ho25=>?_
   intro b26 o27
   refine A.q0 [] [2789] [.e 0 0] [(24,.agg #[.int .i64 x23.1,.int .i64 x23.2.1,.int .i64 x23.2.2.1,.int .i64 x23.2.2.2.1,.int .i64 x23.2.2.2.2.1,.int .i64 x23.2.2.2.2.2.1,.int .i64 x23.2.2.2.2.2.2.1,.int .i64 x23.2.2.2.2.2.2.2])] ?_
   refine A.AL.alloc 2790 (cs:=[.int .i64 0,.int .i64 0,.int .i64 0,.int .i64 0,.int .i64 0,.int .i64 0,.int .i64 0,.int .i64 0]) Tryz.zeroValue45 fun g28=>?_
   refine A.sw 2790 [] [.int .i64 x23.1,.int .i64 x23.2.1,.int .i64 x23.2.2.1,.int .i64 x23.2.2.2.1,.int .i64 x23.2.2.2.2.1,.int .i64 x23.2.2.2.2.2.1,.int .i64 x23.2.2.2.2.2.2.1,.int .i64 x23.2.2.2.2.2.2.2] ?_
   refine A.dx 2 ?_
   refine A.AX.join [0,6,8,19,20,21] [0,2376,2790] (fun nl nh=>∃(y29:Bool),nl=[(40,.bool y29)]∧nh=[]∧F.summ_Least_j2 (F.summ_Least_l3 a0 f18) a0 xs15 y16 x23 y29=some r) ?_ ?_
   ·refine A.AX.dr mixed 16 16 (A.mb 16 0) ?_
    refine A.hq A.pb [] [0,2376,2789,2790] [2790] [] (A.mb 16 7) 13 [(0,.n),(2,.n),(1,.b 0 0)] [(27,.slice A0_ ((a0).length) c1_),(26,.int .i64 x23.1)] ?_
    obtain⟨x36,hv37,hF⟩:=A.bd_some hF
    refine A.AH.pkl 0 2791 hv37 fun ho38=>?_
    intro b40 o41 hA39
    refine A.AH.v A.pb [0,2376,2789,2790] [0,2376,2789,2790,2791] 3 (A.mb 16 15) rfl (fun a w hf hh=>A.r_ixa (t:=T44) hv37 hA39 hf) ?_
    refine A.hq A.pb [0,2376,2789,2790,2791] [0,2376,2789,2790,2791] [] [2791] (A.mb 16 255) 8 [(4,.n),(5,.e 0 0),(6,.n),(7,.n)] [(32,.bool (decide (x23.1≠x36.1)))] ?_
    refine A.AH.cnp (j:=32) rfl hF (fun hb hF=>?_) (fun hb hF=>?_)
    ·refine A.hq A.pb [0,2376,2789,2790,2791] [0,2376,2789,2790,2791] [] [] (A.mb 16 65535) 0 [(8,.off),(10,.off),(9,.off),(11,.off),(12,.off),(13,.off),(14,.off),(15,.n)] [(40,.bool true)] ?_
     refine A.AH.done ?_
     exact A.j ⟨true,rfl,rfl,hF⟩
    refine A.hq A.pb [0,2376,2789,2790,2791] [0,2376,2789,2790,2791] [2790] [] (A.mb 16 1535) 6 [(8,.on (.b 0 0)),(10,.on .n)] [(33,.agg #[.int .i64 x23.1,.int .i64 x23.2.1,.int .i64 x23.2.2.1,.int .i64 x23.2.2.2.1,.int .i64 x23.2.2.2.2.1,.int .i64 x23.2.2.2.2.2.1,.int .i64 x23.2.2.2.2.2.2.1,.int .i64 x23.2.2.2.2.2.2.2]),(35,.slice A0_ ((a0).length) c1_)] ?_
    obtain⟨x42,hv43,hF⟩:=A.bd_some hF
    refine A.AH.pkl 0 2792 hv43 fun ho44=>?_
    intro b46 o47 hA45
    refine A.AH.vg A.pb [0,2376,2789,2790,2791] [0,2376,2789,2790,2791,2792] 11 (A.mb 16 3583) (dj:=32) rfl (fun a w hf hh=>A.r_ixa (t:=T44) hv43 hA45 hf) ?_
    refine A.hq A.pb [0,2376,2789,2790,2791,2792] [0,2376,2789,2790,2791,2792] [] [2792] (A.mb 16 7679) 4 [(12,.on (.e 0 0))] [(37,.agg #[.int .i64 x42.1,.int .i64 x42.2.1,.int .i64 x42.2.2.1,.int .i64 x42.2.2.2.1,.int .i64 x42.2.2.2.2.1,.int .i64 x42.2.2.2.2.2.1,.int .i64 x42.2.2.2.2.2.2.1,.int .i64 x42.2.2.2.2.2.2.2])] ?_
    refine A.AH.one 9 ?_
    refine A.AL.on (dj:=32) rfl rfl ?_
    obtain⟨r48,hv49,hF⟩:=A.bd_some hF
    refine A.AL.call 2793 [] (first:=[]) (cap:=[]) cf106 (summ_Ends_ok (x23.1,x23.2.1,x23.2.2.1,x23.2.2.2.1,(x23.2.2.2.2.1,x23.2.2.2.2.2.1,x23.2.2.2.2.2.2.1,x23.2.2.2.2.2.2.2)) ho25.1 ho25.2.1 ho25.2.2.1 ho25.2.2.2.1 ho25.2.2.2.2.1 ho25.2.2.2.2.2.1 ho25.2.2.2.2.2.2.1 ho25.2.2.2.2.2.2.2 r48 hv49) .nil ?_
    rintro _ _ ⟨rfl,rfl,hr50⟩
    refine⟨by kernel_rfl,?_⟩
    refine A.AH.nx (A.mb 16 8191) [0,2376,2789,2790,2791,2792] ?_
    refine A.AH.one 13 ?_
    refine A.AL.on (dj:=32) rfl rfl ?_
    obtain⟨r51,hv52,hF⟩:=A.bd_some hF
    refine A.AL.call 2833 [] (first:=[]) (cap:=[]) cf106 (summ_Ends_ok (x42.1,x42.2.1,x42.2.2.1,x42.2.2.2.1,(x42.2.2.2.2.1,x42.2.2.2.2.2.1,x42.2.2.2.2.2.2.1,x42.2.2.2.2.2.2.2)) ho44.1 ho44.2.1 ho44.2.2.1 ho44.2.2.2.1 ho44.2.2.2.2.1 ho44.2.2.2.2.2.1 ho44.2.2.2.2.2.2.1 ho44.2.2.2.2.2.2.2 r51 hv52) .nil ?_
    rintro _ _ ⟨rfl,rfl,hr53⟩
    refine⟨by kernel_rfl,?_⟩
    refine A.AH.nx (A.mb 16 16383) [0,2376,2789,2790,2791,2792] ?_
    refine A.hq A.pb [0,2376,2789,2790,2791,2792] [0,2376,2789,2790,2791,2792] [] [] (A.mb 16 65535) 0 [(14,.on .n),(15,.n)] [(40,.bool (decide (r48≠r51)))] ?_
    refine A.AH.done ?_
    exact A.j ⟨(decide (r48≠r51)),rfl,rfl,hF⟩
   rintro _ _ ⟨y29,rfl,rfl,hF⟩
   rw[F.summ_Least_j2]at hF
   refine A.AX.cnb rfl hF (fun hb hF=>?_) (fun hb hF=>?_)
   ·refine A.xl 1 ?_
    refine A.q0 [] [] [.n,.n] [(2,.slice none 0 0),(3,.int .i64 11)] ?_
    refine A.dx 1 ?_
    obtain rfl:=Option.some.inj hF
    refine A.snil 2873 T44 ?_
    exact A.rt2 [(0,2873)] ⟨none,0,rfl,rfl,(A.hasl .i64 (11) rfl)⟩
   refine A.xl 3 ?_
   refine A.q0 [] [] [.n,.n] [(41,.slice A0_ ((a0).length) c1_),(42,.func (.func 107) #[] #[.pointer (some ⟨g28,0,none⟩)])] ?_
   obtain⟨r30,hv31,hF⟩:=A.bd_some hF
   refine A.AL.call 2874 [] (first:=[]) (cap:=[]) cf16 (slices_ContainsFunc_api_Sum_api_Sum_summ_Least_1_ok a0 (x23.1,x23.2.1,x23.2.2.1,x23.2.2.2.1,(x23.2.2.2.2.1,x23.2.2.2.2.2.1,x23.2.2.2.2.2.2.1,x23.2.2.2.2.2.2.2)) A0_ c1_ g28 ho25.1 ho25.2.1 ho25.2.2.1 ho25.2.2.2.1 ho25.2.2.2.2.1 ho25.2.2.2.2.2.1 ho25.2.2.2.2.2.2.1 ho25.2.2.2.2.2.2.2 r30 hv31) (.s 0 (.b 2790 .nil)) ?_
   rintro _ _ ⟨rfl,rfl⟩
   refine⟨by kernel_rfl,?_⟩
   refine A.q0 [] [] [.n] [(44,.bool (!r30))] ?_
   refine A.dx 1 ?_
   refine A.AX.cnb rfl hF (fun hb hF=>?_) (fun hb hF=>?_)
   ·refine A.xl 0 ?_
    refine A.q0 [2790] [] [.n,.b 0 0] [(45,.slice A13 ((xs15).length) c14),(46,.agg #[.int .i64 x23.1,.int .i64 x23.2.1,.int .i64 x23.2.2.1,.int .i64 x23.2.2.2.1,.int .i64 x23.2.2.2.2.1,.int .i64 x23.2.2.2.2.2.1,.int .i64 x23.2.2.2.2.2.2.1,.int .i64 x23.2.2.2.2.2.2.2])] ?_
    refine A.AL.bsl 2914 (ty:=T44) (cs:=[.int .i64 x23.1,.int .i64 x23.2.1,.int .i64 x23.2.2.1,.int .i64 x23.2.2.2.1,.int .i64 x23.2.2.2.2.1,.int .i64 x23.2.2.2.2.2.1,.int .i64 x23.2.2.2.2.2.2.1,.int .i64 x23.2.2.2.2.2.2.2]) [(x23.1,x23.2.1,x23.2.2.1,x23.2.2.2.1,(x23.2.2.2.2.1,x23.2.2.2.2.2.1,x23.2.2.2.2.2.2.1,x23.2.2.2.2.2.2.2))] ⟨⟨⟨rfl,ho25.1⟩,⟨rfl,ho25.2.1⟩,⟨rfl,ho25.2.2.1⟩,⟨rfl,ho25.2.2.2.1⟩,⟨⟨rfl,ho25.2.2.2.2.1⟩,⟨rfl,ho25.2.2.2.2.2.1⟩,⟨rfl,ho25.2.2.2.2.2.2.1⟩,⟨rfl,ho25.2.2.2.2.2.2.2⟩⟩⟩,rfl⟩ (fun g32=>?_) Tryz.zeroValue45 Tryz.sizeOf45
    obtain⟨hl35,hF⟩:=A.gd_some hF
    refine A.AL.app (k:=2376) [] (A.rowO (k:=2914) rfl) inf45 hl35 fun A33 c34=>?_
    refine A.q0 [] [] [.n] [(6,.slice A33 ((xs15++[(x23.1,x23.2.1,x23.2.2.1,x23.2.2.2.1,(x23.2.2.2.2.1,x23.2.2.2.2.2.1,x23.2.2.2.2.2.2.1,x23.2.2.2.2.2.2.2))]).length) c34)] ?_
    refine A.de 1 ?_
    exact A.j ⟨(xs15++[(x23.1,x23.2.1,x23.2.2.1,x23.2.2.2.1,(x23.2.2.2.2.1,x23.2.2.2.2.2.1,x23.2.2.2.2.2.2.1,x23.2.2.2.2.2.2.2))]),A33,c34,rfl,rfl,hF⟩
   refine A.xe 2 ?_
   exact A.j ⟨xs15,A13,c14,rfl,rfl,hF⟩
  rintro _ _ ⟨xs21,A19,c20,rfl,rfl,hF⟩
  rw[F.summ_Least_j1]at hF
  refine A.xl 0 ?_
  obtain⟨hc22,hF⟩:=A.gd_some hF
  refine A.q [] [] [.n,.n] [Z.R64 (y16+1)] [(21,.int .i64 (y16+1))] hc22 ?_
  refine A.AL.done ?_
  exact A.j ⟨_,Nat.lt_succ_self _,⟨xs21,(y16+1),A19,c20,rfl,rfl,(Z.i64_has hc22),hF⟩⟩
 refine A.xl 3 ?_
 refine A.q0 [] [] [.n] [(50,.slice A13 ((xs15).length) c14)] ?_
 obtain⟨r54,hv55,hF⟩:=A.bd_some hF
 refine A.AL.call 2915 [] (first:=[]) (cap:=[]) cf109 (slices_SortFunc_api_Sum_api_Sum_summ_Compare_ok xs15 A13 c14 r54 hv55) (.m 2376 .nil) ?_
 rintro _ _ ⟨rfl,rfl,hr56⟩
 refine⟨by kernel_rfl,?_⟩
 refine A.mvd 2915 2376 [] ?_
 refine A.dl 2 ?_
 refine A.q0 [] [] [.n] [(52,.slice A13 ((xs15).length) c14)] ?_
 refine A.cst 52 (Z.slice_n (show(xs15).length=(r54).length from(Eq.symm hr56))) ?_
 obtain⟨r57,hv58,hF⟩:=A.bd_some hF
 refine A.AL.call 2955 [] (first:=[]) (cap:=[]) cf111 (slices_Compact_api_Sum_api_Sum_ok r54 A13 c14 r57 hv58) (.m 2376 .nil) ?_
 rintro _ _ ⟨A59,c60,rfl,rfl⟩
 refine⟨by kernel_rfl,?_⟩
 refine A.q0 [] [] [.n,.n] [(2,.slice A59 ((r57).length) c60),(3,.int .i64 0)] ?_
 refine A.dx 1 ?_
 obtain rfl:=Option.some.inj hF
 exact A.rt2 [(0,2955)] ⟨A59,c60,rfl,rfl,(A.hasl .i64 (0) rfl)⟩
end Go.Proofs.YtlbnpmfggfbdoaaGreatDoor
end
