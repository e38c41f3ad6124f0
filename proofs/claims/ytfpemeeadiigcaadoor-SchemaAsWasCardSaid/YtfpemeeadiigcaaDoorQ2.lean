/- Functions on data, and that the code computes them. * A layer over the small logic, continued: iterators that keep a block of their own from yield to yield. No program in sight. * A layer over the small logic, continued: texts put together, texts as bytes, bytes and runes as texts. No program in sight. * A layer over the small logic, continued: where a law's walk begins. No program in sight. * Plain law of graphs: what the reference and the program say of graphs, as functions on data (no program in sight). * Plain: rounds by a count of steps are recursion over a list. * Plain: a text's bytes by the model's decoder. * Plain: what a text's bytes are, by the reference and by the model's decoder. * Plain: functions of nodes may be; a node for itself. -/
import Derived.Test.YtfpemeeadiigcaaDoorQ0
import Derived.Test.YtfpemeeadiigcaaDoorQ1
import Derived.Laws.IdiomStrings
import Derived.Laws.Cover4
import Derived.Lib.TrimUEq
section
set_option linter.unusedVariables false
set_option linter.unusedSimpArgs false
set_option maxRecDepth 20000
set_option maxHeartbeats 8000000
set_option synthInstance.maxSize 1000000
set_option synthInstance.maxHeartbeats 400000
namespace Go.Proofs.YtfpemeeadiigcaaDoor
open Go.RowKit
def F.L18_few_l1 (a0:(List D38)):Nat→Int→Int→Option Bool
 |0,_,_=>none
 |f+1,y4,y6=>if y6<((List.take ((min ((a0).length:Int) 300).toNat) a0).length:Int)then((A.ix (List.take ((min ((a0).length:Int) 300).toNat) a0) y6).bind fun x9=>(A.gd (Z.R64 (y4+(min (x9.2.2.1.size:Int) 1048576))) (A.gd (Z.R64 (y6+1)) ((F.L18_few_l1 a0 f) (min (y4+(min (x9.2.2.1.size:Int) 1048576)) 1048576) (y6+1)))))else(some (bif decide (((a0).length:Int)≤200)then decide (y4≤9000)else false))
def F.L18_few (a0:(List D38)):Option Bool:=A.gd (0≤min ((a0).length:Int) 300∧(min ((a0).length:Int) 300).toNat≤(a0).length) (F.L18_few_l1 a0 A.FU 0 0)
theorem L18_few_ok (a0:(List D38))(A0_:Option Addr)(c1_:Nat)(r:Bool)(hF:F.L18_few a0=some r):
    A.Ct Tryd.prog 8 [.slice A0_ ((a0).length) c1_] [(0,.sh (.slice T38) [.slice A0_ (a0).length c1_] a0)] [] (fun v H'=>v=.bool r∧H'=[]):=by
 refine A.Ct.enter Tryd.func8 rfl Tryd.ntmps8 rfl fun w0 F0=>?_
 rw[F.L18_few]at hF
 refine A.xl 1 ?_
 refine A.q0 [] [] [.n] [] ?_
 refine A.dl 2 ?_
 refine A.q0 [] [] [.n] [(3,.int .i64 0)] ?_
 refine A.dl 3 ?_
 refine A.q0 [] [] [.n,.n,.n,.n] [(6,.slice A0_ ((a0).length) c1_),(9,.int .i64 (min ((a0).length:Int) 300))] ?_
 obtain⟨hc1,hF⟩:=A.gd_some hF
 refine A.AL.cuth 0 1 (v:=(min ((a0).length:Int) 300).toNat) (Int.toNat_of_nonneg hc1.1).symm hc1.2 fun c3=>?_
 refine A.q0 [] [] [.n,.n] [(11,.int .i64 ((List.take ((min ((a0).length:Int) 300).toNat) a0).length:Int)),(12,.int .i64 0)] ?_
 refine A.dx 2 ?_
 refine A.lp_ [0,10,11] [0,1] (fun f nl nh=>∃(y4:Int),∃(y6:Int),nl=[(3,.int .i64 y4),(12,.int .i64 y6)]∧nh=[]∧IntKind.i64.has y4∧IntKind.i64.has y6∧F.L18_few_l1 a0 f y4 y6=some r) ⟨0,0,rfl,rfl,(A.hasl .i64 (0) rfl),(A.hasl .i64 (0) rfl),hF⟩ ?_
 rintro f8 _ _ ⟨y4,y6,rfl,rfl,hy5,hy7,hF⟩
 rcases f8 with _|f8
 ·exact A.no0 hF
 rw[F.L18_few_l1]at hF
 refine A.xl 1 ?_
 refine A.q0 [] [] [.n] [(13,.bool (decide (y6<((List.take ((min ((a0).length:Int) 300).toNat) a0).length:Int))))] ?_
 refine A.dx 2 ?_
 refine A.AX.cnd rfl hF (fun hb hF=>?_) (fun hb hF=>?_)
 ·refine A.xl 5 ?_
  obtain⟨x9,hv10,hF⟩:=A.bd_some hF
  refine A.AL.ixs 1 6 hv10 fun ho11=>?_
  intro b12 o13
  refine A.q0 [] [6] [.e 0 0] [(15,.agg #[.int .i64 x9.1,.int .i64 x9.2.1,.string x9.2.2.1,.int .i64 x9.2.2.2])] ?_
  refine A.AL.alloc 7 (cs:=[.int .i64 0,.int .i64 0,.string (ByteArray.mk #[]),.int .i64 0]) Tryd.zeroValue39 fun g14=>?_
  refine A.sw 7 [] [.int .i64 x9.1,.int .i64 x9.2.1,.string x9.2.2.1,.int .i64 x9.2.2.2] ?_
  refine A.dl 1 ?_
  obtain⟨hc15,hF⟩:=A.gd_some hF
  refine A.q [7] [] [.n,.n,.b 0 2,.n,.n,.n,.n,.n] [Z.R64 (y4+(min (x9.2.2.1.size:Int) 1048576))] [(3,.int .i64 (min (y4+(min (x9.2.2.1.size:Int) 1048576)) 1048576))] hc15 ?_
  refine A.dl 2 ?_
  obtain⟨hc16,hF⟩:=A.gd_some hF
  refine A.q [] [] [.n,.n] [Z.R64 (y6+1)] [(12,.int .i64 (y6+1))] hc16 ?_
  refine A.AL.done ?_
  exact A.j ⟨_,Nat.lt_succ_self _,⟨(min (y4+(min (x9.2.2.1.size:Int) 1048576)) 1048576),(y6+1),rfl,rfl,(A.has_min (Z.i64_has hc15) (A.hasl .i64 (1048576) rfl)),(Z.i64_has hc16),hF⟩⟩
 refine A.xl 3 ?_
 refine A.q0 [] [] [.n,.n,.n,.n,.sy .n,.sy .n,.pk,.n] [(2,.bool (bif decide (((a0).length:Int)≤200)then decide (y4≤9000)else false))] ?_
 refine A.dx 1 ?_
 obtain rfl:=Option.some.inj hF
 exact A.rt1 [] ⟨rfl,rfl⟩
def F.schema_Tag (a0:D25):Option (ByteArray×Bool):=if a0.2.1=16 then(some (ByteArray.mk #[102,114,101,115,104],true))else(if(bif decide (a0.2.1=11)then decide (a0.2.2.2.1.1=41)else false)=true then(some (ByteArray.mk #[116,111,116,97,108,47,111,110,101],true))else(if(bif decide (a0.2.1=11)then decide (a0.2.2.2.1.1=42)else false)=true then(some (ByteArray.mk #[116,111,116,97,108,47,115,105,122,101],true))else(some (ByteArray.mk #[],false))))
theorem schema_Tag_ok (a0:D25)(A2_:Option Addr)(c3_:Nat)(h0_:IntKind.i64.has a0.1)(h1_:IntKind.i64.has a0.2.1)(h4_:IntKind.i64.has a0.2.2.2.1.1)(h5_:IntKind.i64.has a0.2.2.2.1.2.1)(h6_:a0.2.2.2.1.2.2.size≤maxLen)(h7_:a0.2.2.2.2.1.size≤maxLen)(h8_:IntKind.i64.has a0.2.2.2.2.2.1)(h9_:IntKind.i64.has a0.2.2.2.2.2.2)(r:ByteArray×Bool)(hF:F.schema_Tag a0=some r):
    A.Ct Tryd.prog 32 [.agg #[.int .i64 a0.1,.int .i64 a0.2.1,.slice A2_ ((a0.2.2.1).length) c3_,.int .i64 a0.2.2.2.1.1,.int .i64 a0.2.2.2.1.2.1,.string a0.2.2.2.1.2.2,.string a0.2.2.2.2.1,.int .i64 a0.2.2.2.2.2.1,.int .i64 a0.2.2.2.2.2.2]] [(0,.sh (.slice (Z.Ty.int .i64)) [.slice A2_ (a0.2.2.1).length c3_] a0.2.2.1)] [] (fun v H'=>v=.tuple #[.string r.1,.bool r.2]∧H'=[]∧r.1.size≤maxLen):=by
 refine A.Ct.enter Tryd.func32 rfl Tryd.ntmps32 rfl fun w0 F0=>?_
 rw[F.schema_Tag]at hF
 refine A.xl 1 ?_
 refine A.AL.box 1 (cs:=[.int .i64 a0.1,.int .i64 a0.2.1,.slice A2_ ((a0.2.2.1).length) c3_,.int .i64 a0.2.2.2.1.1,.int .i64 a0.2.2.2.1.2.1,.string a0.2.2.2.1.2.2,.string a0.2.2.2.2.1,.int .i64 a0.2.2.2.2.2.1,.int .i64 a0.2.2.2.2.2.2]) fun g1=>?_
 refine A.q0 [] [] [.n,.n] [] ?_
 refine A.dl 4 ?_
 refine A.q0 [1] [] [.n,.b 0 1,.n,.n] [(4,.bool (decide (a0.2.1=16)))] ?_
 refine A.dx 1 ?_
 refine A.AX.cnd rfl hF (fun hb hF=>?_) (fun hb hF=>?_)
 ·refine A.xl 1 ?_
  refine A.q0 [] [] [.n,.n] [(2,.string (ByteArray.mk #[102,114,101,115,104])),(3,.bool true)] ?_
  refine A.dx 1 ?_
  obtain rfl:=Option.some.inj hF
  exact A.rt2 [] ⟨rfl,rfl,(A.szl (ByteArray.mk #[102,114,101,115,104]) rfl)⟩
 refine A.xl 1 ?_
 refine A.q0 [1] [] [.n,.b 0 1,.n,.n,.sy .n,.sy .n,.sy (.b 0 3),.sy .n,.pk,.n] [(8,.bool (bif decide (a0.2.1=11)then decide (a0.2.2.2.1.1=41)else false))] ?_
 refine A.dx 1 ?_
 refine A.AX.cnb rfl hF (fun hb hF=>?_) (fun hb hF=>?_)
 ·refine A.xl 1 ?_
  refine A.q0 [] [] [.n,.n] [(2,.string (ByteArray.mk #[116,111,116,97,108,47,111,110,101])),(3,.bool true)] ?_
  refine A.dx 1 ?_
  obtain rfl:=Option.some.inj hF
  exact A.rt2 [] ⟨rfl,rfl,(A.szl (ByteArray.mk #[116,111,116,97,108,47,111,110,101]) rfl)⟩
 refine A.xl 1 ?_
 refine A.q0 [1] [] [.n,.b 0 1,.n,.n,.sy .n,.sy .n,.sy (.b 0 3),.sy .n,.pk,.n] [(18,.bool (bif decide (a0.2.1=11)then decide (a0.2.2.2.1.1=42)else false))] ?_
 refine A.dx 1 ?_
 refine A.AX.cnb rfl hF (fun hb hF=>?_) (fun hb hF=>?_)
 ·refine A.xl 1 ?_
  refine A.q0 [] [] [.n,.n] [(2,.string (ByteArray.mk #[116,111,116,97,108,47,115,105,122,101])),(3,.bool true)] ?_
  refine A.dx 1 ?_
  obtain rfl:=Option.some.inj hF
  exact A.rt2 [] ⟨rfl,rfl,(A.szl (ByteArray.mk #[116,111,116,97,108,47,115,105,122,101]) rfl)⟩
 refine A.xl 4 ?_
 refine A.q0 [] [] [.n,.n] [(2,.string (ByteArray.mk #[])),(3,.bool false)] ?_
 refine A.dx 1 ?_
 obtain rfl:=Option.some.inj hF
 exact A.rt2 [] ⟨rfl,rfl,(A.szl (ByteArray.mk #[]) rfl)⟩
def F.fn_uses (a0:Int):Option (Int×Int):=if a0=2 then(some (1,8))else(if a0=3 then(some (11,13))else(if a0=4 then(some (21,22))else(if a0=8 then(some (31,34))else(if a0=11 then(some (41,42))else(some (0,-1))))))
theorem fn_uses_ok (a0:Int)(h0_:IntKind.i64.has a0)(r:Int×Int)(hF:F.fn_uses a0=some r):
    A.Ct Tryd.prog 72 [.int .i64 a0] [] [] (fun v H'=>v=.tuple #[.int .i64 r.1,.int .i64 r.2]∧H'=[]∧IntKind.i64.has r.1∧IntKind.i64.has r.2):=by
 refine A.Ct.enter Tryd.func72 rfl Tryd.ntmps72 rfl fun w0 F0=>?_
 rw[F.fn_uses]at hF
 refine A.xl 1 ?_
 refine A.q0 [] [] [.n,.n] [] ?_
 refine A.dl 3 ?_
 refine A.q0 [] [] [.n] [(4,.int .i64 a0)] ?_
 refine A.dl 3 ?_
 refine A.q0 [] [] [.n,.n] [(5,.bool (decide (a0=2)))] ?_
 refine A.dx 1 ?_
 refine A.AX.cnd rfl hF (fun hb hF=>?_) (fun hb hF=>?_)
 ·refine A.xl 1 ?_
  refine A.q0 [] [] [.n,.n] [(2,.int .i64 1),(3,.int .i64 8)] ?_
  refine A.dx 1 ?_
  obtain rfl:=Option.some.inj hF
  exact A.rt2 [] ⟨rfl,rfl,(A.hasl .i64 (1) rfl),(A.hasl .i64 (8) rfl)⟩
 refine A.xl 1 ?_
 refine A.q0 [] [] [.n,.n] [(7,.bool (decide (a0=3)))] ?_
 refine A.dx 1 ?_
 refine A.AX.cnd rfl hF (fun hb hF=>?_) (fun hb hF=>?_)
 ·refine A.xl 1 ?_
  refine A.q0 [] [] [.n,.n] [(2,.int .i64 11),(3,.int .i64 13)] ?_
  refine A.dx 1 ?_
  obtain rfl:=Option.some.inj hF
  exact A.rt2 [] ⟨rfl,rfl,(A.hasl .i64 (11) rfl),(A.hasl .i64 (13) rfl)⟩
 refine A.xl 1 ?_
 refine A.q0 [] [] [.n,.n] [(9,.bool (decide (a0=4)))] ?_
 refine A.dx 1 ?_
 refine A.AX.cnd rfl hF (fun hb hF=>?_) (fun hb hF=>?_)
 ·refine A.xl 1 ?_
  refine A.q0 [] [] [.n,.n] [(2,.int .i64 21),(3,.int .i64 22)] ?_
  refine A.dx 1 ?_
  obtain rfl:=Option.some.inj hF
  exact A.rt2 [] ⟨rfl,rfl,(A.hasl .i64 (21) rfl),(A.hasl .i64 (22) rfl)⟩
 refine A.xl 1 ?_
 refine A.q0 [] [] [.n,.n] [(11,.bool (decide (a0=8)))] ?_
 refine A.dx 1 ?_
 refine A.AX.cnd rfl hF (fun hb hF=>?_) (fun hb hF=>?_)
 ·refine A.xl 1 ?_
  refine A.q0 [] [] [.n,.n] [(2,.int .i64 31),(3,.int .i64 34)] ?_
  refine A.dx 1 ?_
  obtain rfl:=Option.some.inj hF
  exact A.rt2 [] ⟨rfl,rfl,(A.hasl .i64 (31) rfl),(A.hasl .i64 (34) rfl)⟩
 refine A.xl 1 ?_
 refine A.q0 [] [] [.n,.n] [(13,.bool (decide (a0=11)))] ?_
 refine A.dx 1 ?_
 refine A.AX.cnd rfl hF (fun hb hF=>?_) (fun hb hF=>?_)
 ·refine A.xl 1 ?_
  refine A.q0 [] [] [.n,.n] [(2,.int .i64 41),(3,.int .i64 42)] ?_
  refine A.dx 1 ?_
  obtain rfl:=Option.some.inj hF
  exact A.rt2 [] ⟨rfl,rfl,(A.hasl .i64 (41) rfl),(A.hasl .i64 (42) rfl)⟩
 refine A.xl 4 ?_
 refine A.q0 [] [] [.n,.n] [(2,.int .i64 0),(3,.int .i64 (-1))] ?_
 refine A.dx 1 ?_
 obtain rfl:=Option.some.inj hF
 exact A.rt2 [] ⟨rfl,rfl,(A.hasl .i64 (0) rfl),(A.hasl .i64 (-1) rfl)⟩
def F.fn_Uses (a0:Int):Option (Int×Int):=(F.fn_uses a0).bind fun r1=>(some (r1.1,r1.2))
theorem fn_Uses_ok (a0:Int)(h0_:IntKind.i64.has a0)(r:(Int×Int))(hF:F.fn_Uses a0=some r):
    A.Ct Tryd.prog 73 [.int .i64 a0] [] [] (fun v H'=>∃(g0':Nat) (g1':Nat),v=.func (.func 93) #[] #[.pointer (some ⟨g0',0,none⟩),.pointer (some ⟨g1',0,none⟩)]∧H'=[(0,.blk g0' 3 [.int .i64 r.1]),(1,.blk g1' 3 [.int .i64 r.2])]∧IntKind.i64.has r.1∧IntKind.i64.has r.2):=by
 refine A.Ct.enter Tryd.func73 rfl Tryd.ntmps73 rfl fun w0 F0=>?_
 rw[F.fn_Uses]at hF
 refine A.xl 1 ?_
 refine A.q0 [] [] [.n] [] ?_
 refine A.dl 2 ?_
 refine A.q0 [] [] [.n] [(6,.int .i64 a0)] ?_
 obtain⟨r1,hv2,hF⟩:=A.bd_some hF
 refine A.AL.call 0 [] (first:=[]) (cap:=[]) cf72 (fn_uses_ok a0 h0_ r1 hv2) .nil ?_
 rintro _ _ ⟨rfl,rfl,hr3,hr4⟩
 refine⟨by kernel_rfl,?_⟩
 refine A.q0 [] [] [.n,.n,.n] [(8,.int .i64 r1.1),(9,.int .i64 r1.2)] ?_
 refine A.AL.alloc 40 (cs:=[.int .i64 0]) Tryd.zeroValue3 fun g5=>?_
 refine A.AL.alloc 41 (cs:=[.int .i64 0]) Tryd.zeroValue3 fun g6=>?_
 refine A.sw 40 [] [.int .i64 r1.1] ?_
 refine A.sw 41 [] [.int .i64 r1.2] ?_
 refine A.dl 2 ?_
 refine A.q0 [] [] [.n,.n] [(2,.func (.func 93) #[] #[.pointer (some ⟨g5,0,none⟩),.pointer (some ⟨g6,0,none⟩)])] ?_
 refine A.dx 1 ?_
 obtain rfl:=Option.some.inj hF
 exact A.rt1 [(0,40),(1,41)] ⟨g5,g6,rfl,rfl,hr3,hr4⟩
def F.fn_number_j1 (a0:D23)(y3:Bool):Option Bool:=if y3=true then(some (bif decide ((1:Int)≤a0.2.1)then decide (a0.2.1≤1048576)else false))else(some (decide (a0.2.1=0)))
def F.fn_number_j2 (a0:D23)(y2:Bool):Option Bool:=if y2=true then(some (bif decide ((0:Int)≤a0.2.1)then decide (a0.2.1≤64)else false))else(if a0.1=6 then(F.fn_number_j1 a0 (decide (a0.1=6)))else(F.fn_number_j1 a0 (decide (a0.1=11))))
def F.fn_number (a0:D23):Option Bool:=if a0.1=3 then(F.fn_number_j2 a0 (decide (a0.1=3)))else(F.fn_number_j2 a0 (decide (a0.1=13)))
theorem fn_number_ok (a0:D23)(h0_:IntKind.i64.has a0.1)(h1_:IntKind.i64.has a0.2.1)(h2_:a0.2.2.size≤maxLen)(r:Bool)(hF:F.fn_number a0=some r):
    A.Ct Tryd.prog 74 [.agg #[.int .i64 a0.1,.int .i64 a0.2.1,.string a0.2.2]] [] [] (fun v H'=>v=.bool r∧H'=[]):=by
 refine A.Ct.enter Tryd.func74 rfl Tryd.ntmps74 rfl fun w0 F0=>?_
 rw[F.fn_number]at hF
 refine A.xl 1 ?_
 refine A.AL.box 0 (cs:=[.int .i64 a0.1,.int .i64 a0.2.1,.string a0.2.2]) fun g1=>?_
 refine A.q0 [] [] [.n] [] ?_
 refine A.dl 3 ?_
 refine A.q0 [0] [] [.n,.b 0 0] [(4,.int .i64 a0.1)] ?_
 refine A.dx 2 ?_
 refine A.AX.join [1,4] [0] (fun nl nh=>∃(y2:Bool),nl=[(5,.bool y2)]∧nh=[]∧F.fn_number_j2 a0 y2=some r) ?_ ?_
 ·refine A.xl 1 ?_
  refine A.q0 [] [] [.n,.n] [(5,.bool (decide (a0.1=3)))] ?_
  refine A.dx 1 ?_
  refine A.AX.cnd rfl hF (fun hb hF=>?_) (fun hb hF=>?_)
  ·refine A.xe 1 ?_
   exact A.j ⟨(decide (a0.1=3)),rfl,rfl,hF⟩
  refine A.xl 0 ?_
  refine A.q0 [] [] [.n,.n] [(5,.bool (decide (a0.1=13)))] ?_
  refine A.AL.done ?_
  exact A.j ⟨(decide (a0.1=13)),rfl,rfl,hF⟩
 rintro _ _ ⟨y2,rfl,rfl,hF⟩
 rw[F.fn_number_j2]at hF
 refine A.AX.cnb rfl hF (fun hb hF=>?_) (fun hb hF=>?_)
 ·refine A.xl 1 ?_
  refine A.q0 [0] [] [.n,.b 0 1,.n,.n,.sy .n,.sy (.b 0 1),.sy .n,.pk,.n] [(2,.bool (bif decide ((0:Int)≤a0.2.1)then decide (a0.2.1≤64)else false))] ?_
  refine A.dx 1 ?_
  obtain rfl:=Option.some.inj hF
  exact A.rt1 [] ⟨rfl,rfl⟩
 refine A.AX.join [1] [0] (fun nl nh=>∃(y3:Bool),nl=[(16,.bool y3)]∧nh=[]∧F.fn_number_j1 a0 y3=some r) ?_ ?_
 ·refine A.xl 1 ?_
  refine A.q0 [] [] [.n,.n] [(16,.bool (decide (a0.1=6)))] ?_
  refine A.dx 1 ?_
  refine A.AX.cnd rfl hF (fun hb hF=>?_) (fun hb hF=>?_)
  ·refine A.xe 1 ?_
   exact A.j ⟨(decide (a0.1=6)),rfl,rfl,hF⟩
  refine A.xl 0 ?_
  refine A.q0 [] [] [.n,.n] [(16,.bool (decide (a0.1=11)))] ?_
  refine A.AL.done ?_
  exact A.j ⟨(decide (a0.1=11)),rfl,rfl,hF⟩
 rintro _ _ ⟨y3,rfl,rfl,hF⟩
 rw[F.fn_number_j1]at hF
 refine A.AX.cnb rfl hF (fun hb hF=>?_) (fun hb hF=>?_)
 ·refine A.xl 1 ?_
  refine A.q0 [0] [] [.n,.b 0 1,.n,.n,.sy .n,.sy (.b 0 1),.sy .n,.pk,.n] [(2,.bool (bif decide ((1:Int)≤a0.2.1)then decide (a0.2.1≤1048576)else false))] ?_
  refine A.dx 1 ?_
  obtain rfl:=Option.some.inj hF
  exact A.rt1 [] ⟨rfl,rfl⟩
 refine A.xl 4 ?_
 refine A.q0 [0] [] [.n,.b 0 1,.n,.n] [(2,.bool (decide (a0.2.1=0)))] ?_
 refine A.dx 1 ?_
 obtain rfl:=Option.some.inj hF
 exact A.rt1 [] ⟨rfl,rfl⟩
def F.fn_single_j1 (y8:Bool):Option Bool:=some y8
def F.fn_single_l2 (a0:ByteArray):Nat→Nat→Int→Option Bool
 |0,_,_=>none
 |f+1,p2,y3=>if p2<a0.size then(A.gd (Z.R64 (y3+1)) ((F.fn_single_l2 a0 f) (p2+(Utf8.decode a0 p2).2) (y3+1)))else(if y3=1 then((F.utf8_ValidString a0).bind fun r9=>(F.fn_single_j1 r9))else(F.fn_single_j1 false))
def F.fn_single (a0:ByteArray):Option Bool:=F.fn_single_l2 a0 A.FU 0 0
theorem fn_single_ok (a0:ByteArray)(h0_:a0.size≤maxLen)(r:Bool)(hF:F.fn_single a0=some r):
    A.Ct Tryd.prog 94 [.string a0] [(0,.el none 0 0 A.tabF),(1,.el none 1 0 A.tabA)] [] (fun v H'=>v=.bool r∧H'=[]):=by
 refine A.Ct.enter Tryd.func94 rfl Tryd.ntmps94 rfl fun w0 F0=>?_
 rw[F.fn_single]at hF
 refine A.xl 1 ?_
 refine A.q0 [] [] [.n] [] ?_
 refine A.dl 2 ?_
 refine A.q0 [] [] [.n] [(3,.int .i64 0)] ?_
 refine A.dl 3 ?_
 refine A.q0 [] [] [.n] [(4,.string a0)] ?_
 refine A.AL.rgs 2 fun g1=>?_
 refine A.dx 2 ?_
 refine A.lp_ [0,5] [0,1] (fun f nl nh=>∃(p2:Nat),∃(y3:Int),nl=[(3,.int .i64 y3)]∧nh=[(2,.si g1 a0 p2)]∧IntKind.i64.has y3∧F.fn_single_l2 a0 f p2 y3=some r) ⟨0,0,rfl,rfl,(A.hasl .i64 (0) rfl),hF⟩ ?_
 rintro f5 _ _ ⟨p2,y3,rfl,rfl,hy4,hF⟩
 rcases f5 with _|f5
 ·exact A.no0 hF
 rw[F.fn_single_l2]at hF
 refine A.xl 1 ?_
 refine A.AL.nxs 2 [] hF (fun hb6 hF=>?_) (fun hb hF=>?_)
 ·refine A.q0 [] [] [.n] [(7,.bool true)] ?_
  refine A.dx 2 ?_
  refine A.AX.cnt rfl ?_
  refine A.xl 3 ?_
  obtain⟨hc7,hF⟩:=A.gd_some hF
  refine A.q [] [] [.n,.n,.n] [Z.R64 (y3+1)] [(3,.int .i64 (y3+1))] hc7 ?_
  refine A.de 1 ?_
  exact A.j ⟨_,Nat.lt_succ_self _,⟨(p2+(Utf8.decode a0 p2).2),(y3+1),rfl,rfl,(Z.i64_has hc7),hF⟩⟩
 refine A.q0 [] [] [.n] [(7,.bool false)] ?_
 refine A.dx 2 ?_
 refine A.AX.cnf rfl ?_
 refine A.xx 2 ?_
 refine A.AX.join [] [0,1] (fun nl nh=>∃(y8:Bool),nl=[(2,.bool y8)]∧nh=[]∧F.fn_single_j1 y8=some r) ?_ ?_
 ·refine A.xl 0 ?_
  refine A.q0 [] [] [.n,.n,.n] [(12,.bool (decide (y3=1)))] ?_
  refine A.AL.cnp (j:=12) rfl hF (fun hb hF=>?_) (fun hb hF=>?_)
  ·refine A.q0 [] [] [.on .n] [(13,.string a0)] ?_
   refine A.AL.on (dj:=12) rfl rfl ?_
   obtain⟨r9,hv10,hF⟩:=A.bd_some hF
   refine A.AL.call 83 [] (first:=[]) (cap:=[]) cf76 (utf8_ValidString_ok a0 h0_ r9 hv10) (.s 0 (.s 1 .nil)) ?_
   rintro _ _ ⟨rfl,rfl⟩
   refine⟨by kernel_rfl,?_⟩
   refine A.q0 [] [] [.n,.n] [(2,.bool r9)] ?_
   refine A.AL.done ?_
   exact A.j ⟨r9,rfl,rfl,hF⟩
  refine A.q0 [] [] [.off,.off,.n,.n] [(2,.bool false)] ?_
  refine A.AL.done ?_
  exact A.j ⟨false,rfl,rfl,hF⟩
 rintro _ _ ⟨y8,rfl,rfl,hF⟩
 rw[F.fn_single_j1]at hF
 obtain rfl:=Option.some.inj hF
 exact A.rt1 [] ⟨rfl,rfl⟩
def F.fn_text_j1 (y2:Bool):Option Bool:=some y2
def F.fn_text_j2 (a0:D23)(y5:Bool):Option Bool:=if y5=true then((F.fn_single a0.2.2).bind fun r6=>(some r6))else(some (decide (a0.2.2=(ByteArray.mk #[]))))
def F.fn_text (a0:D23):Option Bool:=if a0.1=5 then(if(bif decide (a0.2.2≠(ByteArray.mk #[]))then decide ((a0.2.2.size:Int)≤16)else false)=true then((F.utf8_ValidString a0.2.2).bind fun r3=>(F.fn_text_j1 r3))else(F.fn_text_j1 false))else(if a0.1=12 then(F.fn_text_j2 a0 (decide (a0.1=12)))else(F.fn_text_j2 a0 (decide (a0.1=22))))
theorem fn_text_ok (a0:D23)(h0_:IntKind.i64.has a0.1)(h1_:IntKind.i64.has a0.2.1)(h2_:a0.2.2.size≤maxLen)(r:Bool)(hF:F.fn_text a0=some r):
    A.Ct Tryd.prog 75 [.agg #[.int .i64 a0.1,.int .i64 a0.2.1,.string a0.2.2]] [(0,.el none 0 0 A.tabF),(1,.el none 1 0 A.tabA)] [] (fun v H'=>v=.bool r∧H'=[]):=by
 refine A.Ct.enter Tryd.func75 rfl Tryd.ntmps75 rfl fun w0 F0=>?_
 rw[F.fn_text]at hF
 refine A.xl 1 ?_
 refine A.AL.box 2 (cs:=[.int .i64 a0.1,.int .i64 a0.2.1,.string a0.2.2]) fun g1=>?_
 refine A.q0 [] [] [.n] [] ?_
 refine A.dl 3 ?_
 refine A.q0 [2] [] [.n,.b 0 0] [(4,.int .i64 a0.1)] ?_
 refine A.dl 3 ?_
 refine A.q0 [] [] [.n,.n] [(5,.bool (decide (a0.1=5)))] ?_
 refine A.dx 1 ?_
 refine A.AX.cnd rfl hF (fun hb hF=>?_) (fun hb hF=>?_)
 ·refine A.AX.join [] [0,1] (fun nl nh=>∃(y2:Bool),nl=[(2,.bool y2)]∧nh=[]∧F.fn_text_j1 y2=some r) ?_ ?_
  ·refine A.xl 0 ?_
   refine A.q0 [2] [] [.n,.b 0 2,.n,.n,.sy .n,.sy (.b 0 2),.sy .n,.sy .n,.pk,.n] [(16,.bool (bif decide (a0.2.2≠(ByteArray.mk #[]))then decide ((a0.2.2.size:Int)≤16)else false))] ?_
   refine A.AL.cnd (j:=16) rfl hF (fun hF=>?_) (fun hF=>?_)
   ·refine A.q0 [2] [] [.on .n,.on (.b 0 2)] [(18,.string a0.2.2)] ?_
    refine A.AL.on (dj:=16) rfl rfl ?_
    obtain⟨r3,hv4,hF⟩:=A.bd_some hF
    refine A.AL.call 3 [] (first:=[]) (cap:=[]) cf76 (utf8_ValidString_ok a0.2.2 h2_ r3 hv4) (.s 0 (.s 1 .nil)) ?_
    rintro _ _ ⟨rfl,rfl⟩
    refine⟨by kernel_rfl,?_⟩
    refine A.q0 [] [] [.n,.n] [(2,.bool r3)] ?_
    refine A.AL.done ?_
    exact A.j ⟨r3,rfl,rfl,hF⟩
   refine A.q0 [] [] [.off,.off,.off,.n,.n] [(2,.bool false)] ?_
   refine A.AL.done ?_
   exact A.j ⟨false,rfl,rfl,hF⟩
  rintro _ _ ⟨y2,rfl,rfl,hF⟩
  rw[F.fn_text_j1]at hF
  obtain rfl:=Option.some.inj hF
  exact A.rt1 [] ⟨rfl,rfl⟩
 refine A.AX.join [1] [0,1,2] (fun nl nh=>∃(y5:Bool),nl=[(21,.bool y5)]∧nh=[]∧F.fn_text_j2 a0 y5=some r) ?_ ?_
 ·refine A.xl 1 ?_
  refine A.q0 [] [] [.n,.n] [(21,.bool (decide (a0.1=12)))] ?_
  refine A.dx 1 ?_
  refine A.AX.cnd rfl hF (fun hb hF=>?_) (fun hb hF=>?_)
  ·refine A.xe 1 ?_
   exact A.j ⟨(decide (a0.1=12)),rfl,rfl,hF⟩
  refine A.xl 0 ?_
  refine A.q0 [] [] [.n,.n] [(21,.bool (decide (a0.1=22)))] ?_
  refine A.AL.done ?_
  exact A.j ⟨(decide (a0.1=22)),rfl,rfl,hF⟩
 rintro _ _ ⟨y5,rfl,rfl,hF⟩
 rw[F.fn_text_j2]at hF
 refine A.AX.cnb rfl hF (fun hb hF=>?_) (fun hb hF=>?_)
 ·refine A.xl 1 ?_
  refine A.q0 [2] [] [.n,.b 0 2] [(25,.string a0.2.2)] ?_
  obtain⟨r6,hv7,hF⟩:=A.bd_some hF
  refine A.AL.call 43 [] (first:=[]) (cap:=[]) cf94 (fn_single_ok a0.2.2 h2_ r6 hv7) (.s 0 (.s 1 .nil)) ?_
  rintro _ _ ⟨rfl,rfl⟩
  refine⟨by kernel_rfl,?_⟩
  refine A.q0 [] [] [.n] [(2,.bool r6)] ?_
  refine A.dx 1 ?_
  obtain rfl:=Option.some.inj hF
  exact A.rt1 [] ⟨rfl,rfl⟩
 refine A.xl 4 ?_
 refine A.q0 [2] [] [.n,.b 0 2,.n,.n] [(2,.bool (decide (a0.2.2=(ByteArray.mk #[]))))] ?_
 refine A.dx 1 ?_
 obtain rfl:=Option.some.inj hF
 exact A.rt1 [] ⟨rfl,rfl⟩
end Go.Proofs.YtfpemeeadiigcaaDoor
end
section
set_option linter.unusedVariables false
set_option linter.unusedSimpArgs false
set_option maxRecDepth 20000
set_option maxHeartbeats 8000000
set_option synthInstance.maxSize 1000000
set_option synthInstance.maxHeartbeats 400000
namespace Go.Proofs.YtfpemeeadiigcaaDoor
open Go.RowKit
def F.fn_Uses_1_it_l1 (b1:Int):Nat→Int→Option (List Int)
 |0,_=>none
 |f+1,y1=>if y1≤b1 then(A.cns y1 (A.gd (Z.R64 (y1+1)) ((F.fn_Uses_1_it_l1 b1 f) (y1+1))))else(some [])
def F.fn_Uses_1_it (b0:Int)(b1:Int):Option (List Int):=F.fn_Uses_1_it_l1 b1 A.FU b0
theorem fn_Uses_1_it_sq (b0:Int)(b1:Int)(g0_:Nat)(g2_:Nat)(h1_:IntKind.i64.has b0)(h3_:IntKind.i64.has b1)(xs:List Int)(hF:F.fn_Uses_1_it b0 b1=some xs):
    A.Sq Tryd.prog 93 [.pointer (some ⟨g0_,0,none⟩),.pointer (some ⟨g2_,0,none⟩)] [(0,.el none g0_ 0 [.int .i64 b0]),(1,.el none g2_ 0 [.int .i64 b1])] (Z.Ty.int .i64) (fun cs=>[Z.vof false cs]) xs:=by
 refine A.Sq.enter Tryd.func93 rfl Tryd.ntmps93 rfl fun lid w0 J Jx Φ hY hJ0=>?_
 obtain⟨rs0,hrs⟩: ∃rs0,rs0=xs:=⟨_,rfl⟩
 have hR0:A.Rem xs 0 rs0:=hrs▸A.Rem.zero xs
 rw[F.fn_Uses_1_it,←hrs]at hF
 clear hrs
 refine A.xl 1 ?_
 refine A.q0 [] [0] [.e 0 0,.n] [(4,.int .i64 b0)] ?_
 refine A.dx 2 ?_
 refine A.AX.loopC (A.CY 15 Φ) (0,w0) [0,2] [1] [1] (fun f i nl nh=>∃(y1:Int),∃(rs:List Int),nl=[(4,.int .i64 y1)]∧nh=[]∧IntKind.i64.has y1∧J i.1 i.2∧A.Rem xs i.1 rs∧F.fn_Uses_1_it_l1 b1 f y1=some rs) A.FU [(4,.int .i64 b0)] [] ⟨b0,_,rfl,rfl,h1_,hJ0,hR0,hF⟩ ?_
 rintro f3 ⟨k4,w5⟩ _ _ ⟨y1,rs8,rfl,rfl,hy2,hJ6,hR7,hF⟩
 rcases f3 with _|f3
 ·exact A.no0 hF
 rw[F.fn_Uses_1_it_l1]at hF
 refine A.xl 2 ?_
 refine A.q0 [] [1] [.n,.e 0 0,.n] [(8,.bool (decide (y1≤b1)))] ?_
 refine A.dx 1 ?_
 refine A.AX.cnd rfl hF (fun hb hF=>?_) (fun hb hF=>?_)
 ·refine A.xl 5 ?_
  refine A.q0 [] [] [.n,.n] [(11,.func (.yield lid) #[] #[]),(12,.int .i64 y1)] ?_
  obtain⟨rs9,hqrs9,hF⟩:=A.cns_some hF
  refine A.AL.yield hY hJ6 (hqrs9▸hR7) [.int .i64 y1] ⟨rfl,hy2⟩ (fun w10 hJ11 hR12=>?_) (fun w10 hX13=>?_)
  ·refine A.q0 [] [] [.n] [(14,.bool false)] ?_
   refine A.dx 1 ?_
   refine A.AX.cnf rfl ?_
   refine A.xl 3 ?_
   obtain⟨hc14,hF⟩:=A.gd_some hF
   refine A.q [] [] [.n,.n,.n] [Z.R64 (y1+1)] [(4,.int .i64 (y1+1))] hc14 ?_
   refine A.AL.done ?_
   exact A.AE.jC (k4+1,w10) [1] [(4,.int .i64 (y1+1))] [] ⟨_,Nat.lt_succ_self _,⟨(y1+1),_,rfl,rfl,(Z.i64_has hc14),hJ11,hR12,hF⟩⟩
  refine A.q0 [] [] [.n] [(14,.bool true)] ?_
  refine A.dx 1 ?_
  refine A.AX.cnt rfl ?_
  exact A.AX.rtX hY hX13
 refine A.xe 1 ?_
 obtain rfl:=Option.some.inj hF
 exact A.AE.rtY hY hJ6 hR7
def F.fn_Check_j1 (k1:Option Int)(y25:Bool):Option Int:=if y25=true then(some 0)else(k1)
def F.fn_Check_l2 (a1:D23):List Int→Option Int
 | []=>some 60
 |y22::f=>if y22=a1.1 then((F.fn_number (a1.1,a1.2.1,a1.2.2)).bind fun r26=>(if r26=true then((F.fn_text (a1.1,a1.2.1,a1.2.2)).bind fun r28=>(F.fn_Check_j1 (F.fn_Check_l2 a1 f) r28))else(F.fn_Check_j1 (F.fn_Check_l2 a1 f) false)))else(F.fn_Check_j1 (F.fn_Check_l2 a1 f) false)
def F.fn_Check (a0:Int)(a1:D23):Option Int:=(F.fn_uses a0).bind fun r3=>(if r3.2<0 then(if(a1.1,a1.2.1,a1.2.2)≠(0,0,ByteArray.mk #[])then(some 60)else(some 0))else((F.fn_Uses a0).bind fun r7=>((F.fn_Uses_1_it r7.1 r7.2).bind fun xs13=>F.fn_Check_l2 a1 xs13)))
theorem fn_Check_ok (a0:Int)(a1:D23)(h0_:IntKind.i64.has a0)(h1_:IntKind.i64.has a1.1)(h2_:IntKind.i64.has a1.2.1)(h3_:a1.2.2.size≤maxLen)(r:Int)(hF:F.fn_Check a0 a1=some r):
    A.Ct Tryd.prog 50 [.int .i64 a0,.agg #[.int .i64 a1.1,.int .i64 a1.2.1,.string a1.2.2]] [(0,.el none 0 0 A.tabF),(1,.el none 1 0 A.tabA)] [] (fun v H'=>v=.int .i64 r∧H'=[]∧IntKind.i64.has r):=by
 refine A.Ct.enterM Tryd.func50 rfl Tryd.ntmps50 rfl fun w0 F0=>?_
 rw[F.fn_Check]at hF
 refine A.xl 1 ?_
 refine A.AL.box 2 (cs:=[.int .i64 a1.1,.int .i64 a1.2.1,.string a1.2.2]) fun g1=>?_
 refine A.AL.alloc 3 (cs:=[.int .i64 0]) Tryd.zeroValue32 fun g2=>?_
 refine A.dl 3 ?_
 refine A.q0 [] [] [.n] [(9,.int .i64 a0)] ?_
 obtain⟨r3,hv4,hF⟩:=A.bd_some hF
 refine A.AL.call 4 [] (first:=[]) (cap:=[]) cf72 (fn_uses_ok a0 h0_ r3 hv4) .nil ?_
 rintro _ _ ⟨rfl,rfl,hr5,hr6⟩
 refine⟨by kernel_rfl,?_⟩
 refine A.q0 [] [] [.n,.n,.n,.n,.n] [(6,.int .i64 r3.2)] ?_
 refine A.dl 2 ?_
 refine A.q0 [] [] [.n,.n] [(14,.bool (decide (r3.2<0)))] ?_
 refine A.dx 1 ?_
 refine A.AX.cnd rfl hF (fun hb hF=>?_) (fun hb hF=>?_)
 ·refine A.xl 2 ?_
  refine A.q0 [2] [] [.b 0 0,.n] [(15,.agg #[.int .i64 a1.1,.int .i64 a1.2.1,.string a1.2.2]),(16,.agg #[.int .i64 0,.int .i64 0,.string (ByteArray.mk #[])])] ?_
  refine A.AL.val rfl (fun a w hf hh=>eqagg_neq24 (x:=(a1.1,a1.2.1,a1.2.2)) (y:=(0,0,ByteArray.mk #[])) (hf.eval rfl) (hf.eval rfl)) ?_
  refine A.dx 1 ?_
  refine A.AX.cnd rfl hF (fun hb hF=>?_) (fun hb hF=>?_)
  ·refine A.xl 1 ?_
   refine A.sw 3 [] [.int .i64 60] ?_
   refine A.dx 1 ?_
   obtain rfl:=Option.some.inj hF
   exact A.AX.rtM (Ds:=[]) [] [] (.int .i64 60) (trivial) (fun a w hf hh=>Z.resv1 rfl (Z.rv_1 hf rfl Tryd.isAgg32 (A.Hp.blk hh 3))) (⟨rfl,rfl,(A.hasl .i64 (60) rfl)⟩)
  refine A.xl 3 ?_
  refine A.sw 3 [] [.int .i64 0] ?_
  refine A.dx 1 ?_
  obtain rfl:=Option.some.inj hF
  exact A.AX.rtM (Ds:=[]) [] [] (.int .i64 0) (trivial) (fun a w hf hh=>Z.resv1 rfl (Z.rv_1 hf rfl Tryd.isAgg32 (A.Hp.blk hh 3))) (⟨rfl,rfl,(A.hasl .i64 (0) rfl)⟩)
 refine A.xl 4 ?_
 refine A.q0 [] [] [.n] [(18,.int .i64 a0)] ?_
 obtain⟨r7,hv8,hF⟩:=A.bd_some hF
 refine A.AL.call 44 [] (first:=[]) (cap:=[]) cf73 (fn_Uses_ok a0 h0_ r7 hv8) .nil ?_
 rintro _ _ ⟨g9,g11,rfl,rfl,hr10,hr12⟩
 refine⟨by kernel_rfl,?_⟩
 refine A.dx 2 ?_
 obtain⟨xs13,hv14,hF⟩:=A.bd_some hF
 refine A.AX.rgf 84 85 86 [0,1,2,3,44,45] [0,1,2,3,44,45] [85,84,0,1,2,3,44,45] (fun k nh=>nh=[]∧F.fn_Check_l2 a1 (List.drop k xs13)=some r) [] cf93 (fn_Uses_1_it_sq r7.1 r7.2 g9 g11 hr10 hr12 xs13 hv14) (fun _=>rfl) ⟨rfl,hF⟩ ?_ ?_ ?_
 ·rintro k21 _ D15 L16 ⟨rfl,hF⟩
  exact⟨⟨_,(.b 44 (.b 45 .nil))⟩,rfl,fun o=>rfl⟩
 ·rintro k21 _ y22 D15 L16 w20 o17 ⟨rfl,hF⟩ hx23 hxo24 hh19
  rw[A.drop_at hx23,F.fn_Check_l2]at hF
  refine A.xl 0 ?_
  refine A.q0 [] [] [.n] [(7,.int .i64 y22)] ?_
  refine A.AL.done ?_
  refine A.AE.flip 84 85 fun o18=>?_
  refine A.xx 1 ?_
  refine A.AX.join [3,4] [0,1,2,3,44,45,84,85] (fun nl nh=>∃(y25:Bool),nl=[(32,.bool y25)]∧nh=[]∧F.fn_Check_j1 (F.fn_Check_l2 a1 (List.drop (k21+1) xs13)) y25=some r) ?_ ?_
  ·refine A.xl 0 ?_
   refine A.q0 [2] [] [.n,.n,.b 0 0,.n,.n] [(25,.bool (decide (y22=a1.1)))] ?_
   refine A.AL.cnp (j:=25) rfl hF (fun hb hF=>?_) (fun hb hF=>?_)
   ·refine A.q0 [2] [] [.on (.b 0 0)] [(26,.agg #[.int .i64 a1.1,.int .i64 a1.2.1,.string a1.2.2])] ?_
    refine A.AL.on (dj:=25) rfl rfl ?_
    obtain⟨r26,hv27,hF⟩:=A.bd_some hF
    refine A.AL.call 167 [] (first:=[]) (cap:=[]) cf74 (fn_number_ok (a1.1,a1.2.1,a1.2.2) h1_ h2_ h3_ r26 hv27) .nil ?_
    rintro _ _ ⟨rfl,rfl⟩
    refine⟨by kernel_rfl,?_⟩
    refine A.q0 [] [] [.n,.n] [(29,.bool r26)] ?_
    refine A.AL.cnd (j:=29) rfl hF (fun hF=>?_) (fun hF=>?_)
    ·refine A.q0 [2] [] [.on (.b 0 0)] [(30,.agg #[.int .i64 a1.1,.int .i64 a1.2.1,.string a1.2.2])] ?_
     refine A.AL.on (dj:=29) rfl rfl ?_
     obtain⟨r28,hv29,hF⟩:=A.bd_some hF
     refine A.AL.call 207 [] (first:=[]) (cap:=[]) cf75 (fn_text_ok (a1.1,a1.2.1,a1.2.2) h1_ h2_ h3_ r28 hv29) (.s 0 (.s 1 .nil)) ?_
     rintro _ _ ⟨rfl,rfl⟩
     refine⟨by kernel_rfl,?_⟩
     refine A.q0 [] [] [.n] [(32,.bool r28)] ?_
     refine A.AL.done ?_
     exact A.j ⟨r28,rfl,rfl,hF⟩
    refine A.q0 [] [] [.off,.off,.n] [(32,.bool false)] ?_
    refine A.AL.done ?_
    exact A.j ⟨false,rfl,rfl,hF⟩
   refine A.q0 [] [] [.off,.off,.n,.n,.off,.off,.n] [(32,.bool false)] ?_
   refine A.AL.done ?_
   exact A.j ⟨false,rfl,rfl,hF⟩
  rintro _ _ ⟨y25,rfl,rfl,hF⟩
  rw[F.fn_Check_j1]at hF
  refine A.AX.cnb rfl hF (fun hb hF=>?_) (fun hb hF=>?_)
  ·refine A.xl 1 ?_
   refine A.sw 3 [] [.int .i64 0] ?_
   refine A.dx 1 ?_
   refine A.AX.bret hh19 [85,2,3,44,45,84] 100000 [(85,100085),(2,100002),(3,100003),(44,100044),(45,100045),(84,100084),(0,0),(1,1)] [(2,.blk g1 24 [.int .i64 a1.1,.int .i64 a1.2.1,.string a1.2.2]),(3,.blk g2 32 [.int .i64 0]),(44,.blk g9 3 [.int .i64 r7.1]),(45,.blk g11 3 [.int .i64 r7.2]),(84,.ob D15 A.dfT),(0,.el none 0 0 A.tabF),(1,.el none 1 0 A.tabA)] ?_ rfl rfl
   obtain rfl:=Option.some.inj hF
   exact A.AE.rtM (Ds:=[D15]) [84] [] (.int .i64 0) (⟨rfl,trivial⟩) (fun a w hf hh=>Z.resv1 rfl (Z.rv_1 hf rfl Tryd.isAgg32 (A.Hp.blk hh 3))) (⟨rfl,rfl,(A.hasl .i64 (0) rfl)⟩)
  refine A.xe 2 ?_
  exact A.AE.bn hh19 [85,84,2,3,44,45] 100000 [(85,100085),(84,100084),(0,0),(1,1),(2,100002),(3,100003),(44,100044),(45,100045)] [] ⟨rfl,hF⟩ rfl rfl
 rintro _ D15 L16 ⟨rfl,hF⟩
 rw[List.drop_length,F.fn_Check_l2]at hF
 refine A.el 3 ?_
 refine A.sw 3 [] [.int .i64 60] ?_
 refine A.dx 1 ?_
 obtain rfl:=Option.some.inj hF
 exact A.AX.rtM (Ds:=[D15]) [84] [] (.int .i64 60) (⟨rfl,trivial⟩) (fun a w hf hh=>Z.resv1 rfl (Z.rv_1 hf rfl Tryd.isAgg32 (A.Hp.blk hh 3))) (⟨rfl,rfl,(A.hasl .i64 (60) rfl)⟩)
def F.schema_formed_j1 (y2:Bool):Option Bool:=some y2
def F.schema_formed_j2 (y3:Bool):Option Bool:=some y3
def F.schema_formed_j3 (y4:Bool):Option Bool:=some y4
def F.schema_formed (a0:D27):Option Bool:=if a0.2.2.1=1 then(if a0.2.2.2.1=0 then(F.schema_formed_j1 (decide ((a0.2.2.2.2.1,a0.2.2.2.2.2.1,a0.2.2.2.2.2.2)=(0,0,ByteArray.mk #[]))))else(F.schema_formed_j1 false))else(if a0.2.2.1=2 then(if(bif decide ((0:Int)≤a0.2.2.2.1)then decide (a0.2.2.2.1≤1048576)else false)=true then(F.schema_formed_j2 (decide ((a0.2.2.2.2.1,a0.2.2.2.2.2.1,a0.2.2.2.2.2.2)=(0,0,ByteArray.mk #[]))))else(F.schema_formed_j2 false))else(if a0.2.2.1=3 then(if a0.2.2.2.1=0 then((F.fn_Check 2 (a0.2.2.2.2.1,a0.2.2.2.2.2.1,a0.2.2.2.2.2.2)).bind fun r5=>(F.schema_formed_j3 (decide (r5=0))))else(F.schema_formed_j3 false))else(some false)))
theorem schema_formed_ok (a0:D27)(h0_:IntKind.i64.has a0.1)(h1_:IntKind.i64.has a0.2.1)(h2_:IntKind.i64.has a0.2.2.1)(h3_:IntKind.i64.has a0.2.2.2.1)(h4_:IntKind.i64.has a0.2.2.2.2.1)(h5_:IntKind.i64.has a0.2.2.2.2.2.1)(h6_:a0.2.2.2.2.2.2.size≤maxLen)(r:Bool)(hF:F.schema_formed a0=some r):
    A.Ct Tryd.prog 31 [.agg #[.int .i64 a0.1,.int .i64 a0.2.1,.int .i64 a0.2.2.1,.int .i64 a0.2.2.2.1,.int .i64 a0.2.2.2.2.1,.int .i64 a0.2.2.2.2.2.1,.string a0.2.2.2.2.2.2]] [(0,.el none 0 0 A.tabF),(1,.el none 1 0 A.tabA)] [] (fun v H'=>v=.bool r∧H'=[]):=by
 refine A.Ct.enter Tryd.func31 rfl Tryd.ntmps31 rfl fun w0 F0=>?_
 rw[F.schema_formed]at hF
 refine A.xl 1 ?_
 refine A.AL.box 2 (cs:=[.int .i64 a0.1,.int .i64 a0.2.1,.int .i64 a0.2.2.1,.int .i64 a0.2.2.2.1,.int .i64 a0.2.2.2.2.1,.int .i64 a0.2.2.2.2.2.1,.string a0.2.2.2.2.2.2]) fun g1=>?_
 refine A.q0 [] [] [.n] [] ?_
 refine A.dl 3 ?_
 refine A.q0 [2] [] [.n,.b 0 2] [(4,.int .i64 a0.2.2.1)] ?_
 refine A.dl 3 ?_
 refine A.q0 [] [] [.n,.n] [(5,.bool (decide (a0.2.2.1=1)))] ?_
 refine A.dx 1 ?_
 refine A.AX.cnd rfl hF (fun hb hF=>?_) (fun hb hF=>?_)
 ·refine A.AX.join [] [0,1] (fun nl nh=>∃(y2:Bool),nl=[(2,.bool y2)]∧nh=[]∧F.schema_formed_j1 y2=some r) ?_ ?_
  ·refine A.xl 0 ?_
   refine A.q0 [2] [] [.n,.b 0 3,.n,.n] [(10,.bool (decide (a0.2.2.2.1=0)))] ?_
   refine A.AL.cnp (j:=10) rfl hF (fun hb hF=>?_) (fun hb hF=>?_)
   ·refine A.q0 [2] [] [.on .n,.on (.b 0 4),.on .n] [(12,.agg #[.int .i64 a0.2.2.2.2.1,.int .i64 a0.2.2.2.2.2.1,.string a0.2.2.2.2.2.2]),(13,.agg #[.int .i64 0,.int .i64 0,.string (ByteArray.mk #[])])] ?_
    refine A.AL.on (dj:=10) rfl rfl ?_
    refine A.AL.val rfl (fun a w hf hh=>eqagg_eql24 (x:=(a0.2.2.2.2.1,a0.2.2.2.2.2.1,a0.2.2.2.2.2.2)) (y:=(0,0,ByteArray.mk #[])) (hf.eval rfl) (hf.eval rfl)) ?_
    refine A.q0 [] [] [.n,.n] [(2,.bool (decide ((a0.2.2.2.2.1,a0.2.2.2.2.2.1,a0.2.2.2.2.2.2)=(0,0,ByteArray.mk #[]))))] ?_
    refine A.AL.done ?_
    exact A.j ⟨(decide ((a0.2.2.2.2.1,a0.2.2.2.2.2.1,a0.2.2.2.2.2.2)=(0,0,ByteArray.mk #[]))),rfl,rfl,hF⟩
   refine A.q0 [] [] [.off,.off,.off,.off,.n,.n] [(2,.bool false)] ?_
   refine A.AL.done ?_
   exact A.j ⟨false,rfl,rfl,hF⟩
  rintro _ _ ⟨y2,rfl,rfl,hF⟩
  rw[F.schema_formed_j1]at hF
  obtain rfl:=Option.some.inj hF
  exact A.rt1 [] ⟨rfl,rfl⟩
 refine A.xl 1 ?_
 refine A.q0 [] [] [.n,.n] [(16,.bool (decide (a0.2.2.1=2)))] ?_
 refine A.dx 1 ?_
 refine A.AX.cnd rfl hF (fun hb hF=>?_) (fun hb hF=>?_)
 ·refine A.AX.join [] [0,1] (fun nl nh=>∃(y3:Bool),nl=[(2,.bool y3)]∧nh=[]∧F.schema_formed_j2 y3=some r) ?_ ?_
  ·refine A.xl 0 ?_
   refine A.q0 [2] [] [.n,.b 0 3,.n,.n,.sy .n,.sy (.b 0 3),.sy .n,.pk,.n] [(26,.bool (bif decide ((0:Int)≤a0.2.2.2.1)then decide (a0.2.2.2.1≤1048576)else false))] ?_
   refine A.AL.cnd (j:=26) rfl hF (fun hF=>?_) (fun hF=>?_)
   ·refine A.q0 [2] [] [.on .n,.on (.b 0 4),.on .n] [(28,.agg #[.int .i64 a0.2.2.2.2.1,.int .i64 a0.2.2.2.2.2.1,.string a0.2.2.2.2.2.2]),(29,.agg #[.int .i64 0,.int .i64 0,.string (ByteArray.mk #[])])] ?_
    refine A.AL.on (dj:=26) rfl rfl ?_
    refine A.AL.val rfl (fun a w hf hh=>eqagg_eql24 (x:=(a0.2.2.2.2.1,a0.2.2.2.2.2.1,a0.2.2.2.2.2.2)) (y:=(0,0,ByteArray.mk #[])) (hf.eval rfl) (hf.eval rfl)) ?_
    refine A.q0 [] [] [.n,.n] [(2,.bool (decide ((a0.2.2.2.2.1,a0.2.2.2.2.2.1,a0.2.2.2.2.2.2)=(0,0,ByteArray.mk #[]))))] ?_
    refine A.AL.done ?_
    exact A.j ⟨(decide ((a0.2.2.2.2.1,a0.2.2.2.2.2.1,a0.2.2.2.2.2.2)=(0,0,ByteArray.mk #[]))),rfl,rfl,hF⟩
   refine A.q0 [] [] [.off,.off,.off,.off,.n,.n] [(2,.bool false)] ?_
   refine A.AL.done ?_
   exact A.j ⟨false,rfl,rfl,hF⟩
  rintro _ _ ⟨y3,rfl,rfl,hF⟩
  rw[F.schema_formed_j2]at hF
  obtain rfl:=Option.some.inj hF
  exact A.rt1 [] ⟨rfl,rfl⟩
 refine A.xl 1 ?_
 refine A.q0 [] [] [.n,.n] [(32,.bool (decide (a0.2.2.1=3)))] ?_
 refine A.dx 1 ?_
 refine A.AX.cnd rfl hF (fun hb hF=>?_) (fun hb hF=>?_)
 ·refine A.AX.join [] [0,1] (fun nl nh=>∃(y4:Bool),nl=[(2,.bool y4)]∧nh=[]∧F.schema_formed_j3 y4=some r) ?_ ?_
  ·refine A.xl 0 ?_
   refine A.q0 [2] [] [.n,.b 0 3,.n,.n] [(37,.bool (decide (a0.2.2.2.1=0)))] ?_
   refine A.AL.cnp (j:=37) rfl hF (fun hb hF=>?_) (fun hb hF=>?_)
   ·refine A.q0 [2] [] [.on .n,.on (.b 0 4)] [(39,.agg #[.int .i64 a0.2.2.2.2.1,.int .i64 a0.2.2.2.2.2.1,.string a0.2.2.2.2.2.2])] ?_
    refine A.AL.on (dj:=37) rfl rfl ?_
    obtain⟨r5,hv6,hF⟩:=A.bd_some hF
    refine A.AL.call 3 [] (first:=[]) (cap:=[]) cf50 (fn_Check_ok 2 (a0.2.2.2.2.1,a0.2.2.2.2.2.1,a0.2.2.2.2.2.2) (A.hasl .i64 (2) rfl) h4_ h5_ h6_ r5 hv6) (.s 0 (.s 1 .nil)) ?_
    rintro _ _ ⟨rfl,rfl,hr7⟩
    refine⟨by kernel_rfl,?_⟩
    refine A.q0 [] [] [.on .n,.n,.n] [(2,.bool (decide (r5=0)))] ?_
    refine A.AL.done ?_
    exact A.j ⟨(decide (r5=0)),rfl,rfl,hF⟩
   refine A.q0 [] [] [.off,.off,.off,.off,.n,.n] [(2,.bool false)] ?_
   refine A.AL.done ?_
   exact A.j ⟨false,rfl,rfl,hF⟩
  rintro _ _ ⟨y4,rfl,rfl,hF⟩
  rw[F.schema_formed_j3]at hF
  obtain rfl:=Option.some.inj hF
  exact A.rt1 [] ⟨rfl,rfl⟩
 refine A.xl 4 ?_
 refine A.q0 [] [] [.n] [(2,.bool false)] ?_
 refine A.dx 1 ?_
 obtain rfl:=Option.some.inj hF
 exact A.rt1 [] ⟨rfl,rfl⟩
def F.schema_Fits_j1 (a0:D25)(a1:D25)(a2:D27)(y4:Bool):Option Int:=if y4=true then(some 180)else((F.schema_Tag (a0.1,a0.2.1,a0.2.2.1,(a0.2.2.2.1.1,a0.2.2.2.1.2.1,a0.2.2.2.1.2.2),a0.2.2.2.2.1,a0.2.2.2.2.2.1,a0.2.2.2.2.2.2)).bind fun r5=>((F.schema_Tag (a1.1,a1.2.1,a1.2.2.1,(a1.2.2.2.1.1,a1.2.2.2.1.2.1,a1.2.2.2.1.2.2),a1.2.2.2.2.1,a1.2.2.2.2.2.1,a1.2.2.2.2.2.2)).bind fun r8=>(if(bif bif !r5.2 then true else !r8.2 then true else decide (r5.1≠r8.1))=true then(some 181)else(if(bif decide (a2.2.2.1=2)then decide (r5.1=(ByteArray.mk #[102,114,101,115,104]))else false)=true then(some 181)else(some 0)))))
def F.schema_Fits (a0:D25)(a1:D25)(a2:D27):Option Int:=if(bif decide (a2.1≠a0.1)then true else decide (a2.2.1≠a1.1))=true then(F.schema_Fits_j1 a0 a1 a2 true)else((F.schema_formed (a2.1,a2.2.1,a2.2.2.1,a2.2.2.2.1,(a2.2.2.2.2.1,a2.2.2.2.2.2.1,a2.2.2.2.2.2.2))).bind fun r11=>(F.schema_Fits_j1 a0 a1 a2 (!r11)))
theorem schema_Fits_ok (a0:D25)(a1:D25)(a2:D27)(A2_:Option Addr)(c3_:Nat)(A12_:Option Addr)(c13_:Nat)(h0_:IntKind.i64.has a0.1)(h1_:IntKind.i64.has a0.2.1)(h4_:IntKind.i64.has a0.2.2.2.1.1)(h5_:IntKind.i64.has a0.2.2.2.1.2.1)(h6_:a0.2.2.2.1.2.2.size≤maxLen)(h7_:a0.2.2.2.2.1.size≤maxLen)(h8_:IntKind.i64.has a0.2.2.2.2.2.1)(h9_:IntKind.i64.has a0.2.2.2.2.2.2)(h10_:IntKind.i64.has a1.1)(h11_:IntKind.i64.has a1.2.1)(h14_:IntKind.i64.has a1.2.2.2.1.1)(h15_:IntKind.i64.has a1.2.2.2.1.2.1)(h16_:a1.2.2.2.1.2.2.size≤maxLen)(h17_:a1.2.2.2.2.1.size≤maxLen)(h18_:IntKind.i64.has a1.2.2.2.2.2.1)(h19_:IntKind.i64.has a1.2.2.2.2.2.2)(h20_:IntKind.i64.has a2.1)(h21_:IntKind.i64.has a2.2.1)(h22_:IntKind.i64.has a2.2.2.1)(h23_:IntKind.i64.has a2.2.2.2.1)(h24_:IntKind.i64.has a2.2.2.2.2.1)(h25_:IntKind.i64.has a2.2.2.2.2.2.1)(h26_:a2.2.2.2.2.2.2.size≤maxLen)(r:Int)(hF:F.schema_Fits a0 a1 a2=some r):
    A.Ct Tryd.prog 19 [.agg #[.int .i64 a0.1,.int .i64 a0.2.1,.slice A2_ ((a0.2.2.1).length) c3_,.int .i64 a0.2.2.2.1.1,.int .i64 a0.2.2.2.1.2.1,.string a0.2.2.2.1.2.2,.string a0.2.2.2.2.1,.int .i64 a0.2.2.2.2.2.1,.int .i64 a0.2.2.2.2.2.2],.agg #[.int .i64 a1.1,.int .i64 a1.2.1,.slice A12_ ((a1.2.2.1).length) c13_,.int .i64 a1.2.2.2.1.1,.int .i64 a1.2.2.2.1.2.1,.string a1.2.2.2.1.2.2,.string a1.2.2.2.2.1,.int .i64 a1.2.2.2.2.2.1,.int .i64 a1.2.2.2.2.2.2],.agg #[.int .i64 a2.1,.int .i64 a2.2.1,.int .i64 a2.2.2.1,.int .i64 a2.2.2.2.1,.int .i64 a2.2.2.2.2.1,.int .i64 a2.2.2.2.2.2.1,.string a2.2.2.2.2.2.2]] [(0,.sh (.slice (Z.Ty.int .i64)) [.slice A2_ (a0.2.2.1).length c3_] a0.2.2.1),(1,.sh (.slice (Z.Ty.int .i64)) [.slice A12_ (a1.2.2.1).length c13_] a1.2.2.1),(2,.el none 0 0 A.tabF),(3,.el none 1 0 A.tabA)] [] (fun v H'=>v=.int .i64 r∧H'=[]∧IntKind.i64.has r):=by
 refine A.Ct.enter Tryd.func19 rfl Tryd.ntmps19 rfl fun w0 F0=>?_
 rw[F.schema_Fits]at hF
 refine A.xl 1 ?_
 refine A.AL.box 4 (cs:=[.int .i64 a0.1,.int .i64 a0.2.1,.slice A2_ ((a0.2.2.1).length) c3_,.int .i64 a0.2.2.2.1.1,.int .i64 a0.2.2.2.1.2.1,.string a0.2.2.2.1.2.2,.string a0.2.2.2.2.1,.int .i64 a0.2.2.2.2.2.1,.int .i64 a0.2.2.2.2.2.2]) fun g1=>?_
 refine A.AL.box 5 (cs:=[.int .i64 a1.1,.int .i64 a1.2.1,.slice A12_ ((a1.2.2.1).length) c13_,.int .i64 a1.2.2.2.1.1,.int .i64 a1.2.2.2.1.2.1,.string a1.2.2.2.1.2.2,.string a1.2.2.2.2.1,.int .i64 a1.2.2.2.2.2.1,.int .i64 a1.2.2.2.2.2.2]) fun g2=>?_
 refine A.AL.box 6 (cs:=[.int .i64 a2.1,.int .i64 a2.2.1,.int .i64 a2.2.2.1,.int .i64 a2.2.2.2.1,.int .i64 a2.2.2.2.2.1,.int .i64 a2.2.2.2.2.2.1,.string a2.2.2.2.2.2.2]) fun g3=>?_
 refine A.q0 [] [] [.n] [] ?_
 refine A.dx 2 ?_
 refine A.AX.join [3,4,5] [0,1,2,3,4,5,6] (fun nl nh=>∃(y4:Bool),nl=[(27,.bool y4)]∧nh=[]∧F.schema_Fits_j1 a0 a1 a2 y4=some r) ?_ ?_
 ·refine A.xl 0 ?_
  refine A.q0 [6,4,5] [] [.n,.b 0 0,.n,.b 1 0,.n,.n,.sy .n,.sy (.b 0 1),.sy .n,.sy (.b 2 0),.sy .n,.pk,.n] [(23,.bool (bif decide (a2.1≠a0.1)then true else decide (a2.2.1≠a1.1)))] ?_
  refine A.AL.cnd (j:=23) rfl hF (fun hF=>?_) (fun hF=>?_)
  ·refine A.q0 [] [] [.off,.off,.off,.n] [(27,.bool true)] ?_
   refine A.AL.done ?_
   exact A.j ⟨true,rfl,rfl,hF⟩
  refine A.q0 [6] [] [.on (.b 0 0)] [(24,.agg #[.int .i64 a2.1,.int .i64 a2.2.1,.int .i64 a2.2.2.1,.int .i64 a2.2.2.2.1,.int .i64 a2.2.2.2.2.1,.int .i64 a2.2.2.2.2.2.1,.string a2.2.2.2.2.2.2])] ?_
  refine A.AL.on (dj:=23) rfl rfl ?_
  obtain⟨r11,hv12,hF⟩:=A.bd_some hF
  refine A.AL.call 7 [] (first:=[]) (cap:=[]) cf31 (schema_formed_ok (a2.1,a2.2.1,a2.2.2.1,a2.2.2.2.1,(a2.2.2.2.2.1,a2.2.2.2.2.2.1,a2.2.2.2.2.2.2)) h20_ h21_ h22_ h23_ h24_ h25_ h26_ r11 hv12) (.s 2 (.s 3 .nil)) ?_
  rintro _ _ ⟨rfl,rfl⟩
  refine⟨by kernel_rfl,?_⟩
  refine A.q0 [] [] [.on .n,.n] [(27,.bool (!r11))] ?_
  refine A.AL.done ?_
  exact A.j ⟨(!r11),rfl,rfl,hF⟩
 rintro _ _ ⟨y4,rfl,rfl,hF⟩
 rw[F.schema_Fits_j1]at hF
 refine A.AX.cnb rfl hF (fun hb hF=>?_) (fun hb hF=>?_)
 ·refine A.xl 1 ?_
  refine A.q0 [] [] [.n] [(6,.int .i64 180)] ?_
  refine A.dx 1 ?_
  obtain rfl:=Option.some.inj hF
  exact A.rt1 [] ⟨rfl,rfl,(A.hasl .i64 (180) rfl)⟩
 refine A.xl 3 ?_
 refine A.q0 [4] [] [.b 0 0] [(29,.agg #[.int .i64 a0.1,.int .i64 a0.2.1,.slice A2_ ((a0.2.2.1).length) c3_,.int .i64 a0.2.2.2.1.1,.int .i64 a0.2.2.2.1.2.1,.string a0.2.2.2.1.2.2,.string a0.2.2.2.2.1,.int .i64 a0.2.2.2.2.2.1,.int .i64 a0.2.2.2.2.2.2])] ?_
 obtain⟨r5,hv6,hF⟩:=A.bd_some hF
 refine A.AL.call 47 [] (first:=[]) (cap:=[]) cf32 (schema_Tag_ok (a0.1,a0.2.1,a0.2.2.1,(a0.2.2.2.1.1,a0.2.2.2.1.2.1,a0.2.2.2.1.2.2),a0.2.2.2.2.1,a0.2.2.2.2.2.1,a0.2.2.2.2.2.2) A2_ c3_ h0_ h1_ h4_ h5_ h6_ h7_ h8_ h9_ r5 hv6) (.s 0 .nil) ?_
 rintro _ _ ⟨rfl,rfl,hr7⟩
 refine⟨by kernel_rfl,?_⟩
 refine A.q0 [] [] [.n,.n,.n,.n,.n] [(7,.string r5.1),(8,.bool r5.2)] ?_
 refine A.dl 2 ?_
 refine A.q0 [5] [] [.b 0 0] [(34,.agg #[.int .i64 a1.1,.int .i64 a1.2.1,.slice A12_ ((a1.2.2.1).length) c13_,.int .i64 a1.2.2.2.1.1,.int .i64 a1.2.2.2.1.2.1,.string a1.2.2.2.1.2.2,.string a1.2.2.2.2.1,.int .i64 a1.2.2.2.2.2.1,.int .i64 a1.2.2.2.2.2.2])] ?_
 obtain⟨r8,hv9,hF⟩:=A.bd_some hF
 refine A.AL.call 87 [] (first:=[]) (cap:=[]) cf32 (schema_Tag_ok (a1.1,a1.2.1,a1.2.2.1,(a1.2.2.2.1.1,a1.2.2.2.1.2.1,a1.2.2.2.1.2.2),a1.2.2.2.2.1,a1.2.2.2.2.2.1,a1.2.2.2.2.2.2) A12_ c13_ h10_ h11_ h14_ h15_ h16_ h17_ h18_ h19_ r8 hv9) (.s 1 .nil) ?_
 rintro _ _ ⟨rfl,rfl,hr10⟩
 refine⟨by kernel_rfl,?_⟩
 refine A.q0 [] [] [.n,.n,.n,.n,.n] [(9,.string r8.1),(10,.bool r8.2)] ?_
 refine A.dl 3 ?_
 refine A.q0 [] [] [.n,.n,.n,.sy .n,.sy .n,.pk,.n,.sy .n,.sy .n,.sy .n,.pk,.n] [(49,.bool (bif bif !r5.2 then true else !r8.2 then true else decide (r5.1≠r8.1)))] ?_
 refine A.AL.cnd (j:=49) rfl hF (fun hF=>?_) (fun hF=>?_)
 ·refine A.q0 [] [] [.off,.off,.off,.off,.off,.off,.off,.n] [(57,.bool true)] ?_
  refine A.dx 1 ?_
  refine A.AX.cnt rfl ?_
  refine A.xl 1 ?_
  refine A.q0 [] [] [.n] [(6,.int .i64 181)] ?_
  refine A.dx 1 ?_
  obtain rfl:=Option.some.inj hF
  exact A.rt1 [] ⟨rfl,rfl,(A.hasl .i64 (181) rfl)⟩
 refine A.q0 [6] [] [.on .n,.on (.b 0 2),.on .n,.on .n,.sy .n,.sy .n,.on .pk,.n] [(57,.bool (bif decide (a2.2.2.1=2)then decide (r5.1=(ByteArray.mk #[102,114,101,115,104]))else false))] ?_
 refine A.dx 1 ?_
 refine A.AX.cnb rfl hF (fun hb hF=>?_) (fun hb hF=>?_)
 ·refine A.xl 1 ?_
  refine A.q0 [] [] [.n] [(6,.int .i64 181)] ?_
  refine A.dx 1 ?_
  obtain rfl:=Option.some.inj hF
  exact A.rt1 [] ⟨rfl,rfl,(A.hasl .i64 (181) rfl)⟩
 refine A.xl 3 ?_
 refine A.q0 [] [] [.n] [(6,.int .i64 0)] ?_
 refine A.dx 1 ?_
 obtain rfl:=Option.some.inj hF
 exact A.rt1 [] ⟨rfl,rfl,(A.hasl .i64 (0) rfl)⟩
def F.rec_Check_j1 (y2:Bool):Option Int:=if y2=true then(some 50)else(some 0)
def F.rec_Check (a0:D59):Option Int:=if(64:Int)<(a0.2.size:Int)then(F.rec_Check_j1 true)else((F.utf8_ValidString a0.2).bind fun r3=>(F.rec_Check_j1 (!r3)))
theorem rec_Check_ok (a0:D59)(h0_:IntKind.i64.has a0.1)(h1_:a0.2.size≤maxLen)(r:Int)(hF:F.rec_Check a0=some r):
    A.Ct Tryd.prog 51 [.agg #[.int .i64 a0.1,.string a0.2]] [(0,.el none 0 0 A.tabF),(1,.el none 1 0 A.tabA)] [] (fun v H'=>v=.int .i64 r∧H'=[]∧IntKind.i64.has r):=by
 refine A.Ct.enter Tryd.func51 rfl Tryd.ntmps51 rfl fun w0 F0=>?_
 rw[F.rec_Check]at hF
 refine A.xl 1 ?_
 refine A.AL.box 2 (cs:=[.int .i64 a0.1,.string a0.2]) fun g1=>?_
 refine A.q0 [] [] [.n] [] ?_
 refine A.dx 2 ?_
 refine A.AX.join [] [0,1] (fun nl nh=>∃(y2:Bool),nl=[(12,.bool y2)]∧nh=[]∧F.rec_Check_j1 y2=some r) ?_ ?_
 ·refine A.xl 0 ?_
  refine A.q0 [2] [] [.n,.b 0 1,.n,.n,.n] [(7,.bool (decide ((64:Int)<(a0.2.size:Int))))] ?_
  refine A.AL.cnp (j:=7) rfl hF (fun hb hF=>?_) (fun hb hF=>?_)
  ·refine A.q0 [] [] [.off,.off,.off,.off,.n] [(12,.bool true)] ?_
   refine A.AL.done ?_
   exact A.j ⟨true,rfl,rfl,hF⟩
  refine A.q0 [2] [] [.on .n,.on (.b 0 1)] [(9,.string a0.2)] ?_
  refine A.AL.on (dj:=7) rfl rfl ?_
  obtain⟨r3,hv4,hF⟩:=A.bd_some hF
  refine A.AL.call 3 [] (first:=[]) (cap:=[]) cf76 (utf8_ValidString_ok a0.2 h1_ r3 hv4) (.s 0 (.s 1 .nil)) ?_
  rintro _ _ ⟨rfl,rfl⟩
  refine⟨by kernel_rfl,?_⟩
  refine A.q0 [] [] [.on .n,.n] [(12,.bool (!r3))] ?_
  refine A.AL.done ?_
  exact A.j ⟨(!r3),rfl,rfl,hF⟩
 rintro _ _ ⟨y2,rfl,rfl,hF⟩
 rw[F.rec_Check_j1]at hF
 refine A.AX.cnb rfl hF (fun hb hF=>?_) (fun hb hF=>?_)
 ·refine A.xl 1 ?_
  refine A.q0 [] [] [.n] [(2,.int .i64 50)] ?_
  refine A.dx 1 ?_
  obtain rfl:=Option.some.inj hF
  exact A.rt1 [] ⟨rfl,rfl,(A.hasl .i64 (50) rfl)⟩
 refine A.xl 3 ?_
 refine A.q0 [] [] [.n] [(2,.int .i64 0)] ?_
 refine A.dx 1 ?_
 obtain rfl:=Option.some.inj hF
 exact A.rt1 [] ⟨rfl,rfl,(A.hasl .i64 (0) rfl)⟩
end Go.Proofs.YtfpemeeadiigcaaDoor
end
section
set_option linter.unusedVariables false
set_option linter.unusedSimpArgs false
set_option maxRecDepth 20000
set_option maxHeartbeats 8000000
set_option synthInstance.maxSize 1000000
set_option synthInstance.maxHeartbeats 400000
namespace Go.Proofs.YtfpemeeadiigcaaDoor
open Go.RowKit
def F.oper_entry_j1 (y3:Bool):Option Bool:=some y3
def F.oper_entry (a0:D25)(a1:D38):Option Bool:=if a1.1≠a0.1 then(some false)else(if a0.2.1=11 then(some (bif bif decide (a1.2.2.1=(ByteArray.mk #[]))then decide ((0:Int)≤a1.2.2.2)else false then decide (a1.2.2.2≤1099511627776)else false))else(if a0.2.1=16 then(if a1.2.2.2=1 then((F.rec_Check (a1.2.1,a1.2.2.1)).bind fun r4=>(F.oper_entry_j1 (decide (r4=0))))else(F.oper_entry_j1 false))else(some false)))
theorem oper_entry_ok (a0:D25)(a1:D38)(A2_:Option Addr)(c3_:Nat)(h0_:IntKind.i64.has a0.1)(h1_:IntKind.i64.has a0.2.1)(h4_:IntKind.i64.has a0.2.2.2.1.1)(h5_:IntKind.i64.has a0.2.2.2.1.2.1)(h6_:a0.2.2.2.1.2.2.size≤maxLen)(h7_:a0.2.2.2.2.1.size≤maxLen)(h8_:IntKind.i64.has a0.2.2.2.2.2.1)(h9_:IntKind.i64.has a0.2.2.2.2.2.2)(h10_:IntKind.i64.has a1.1)(h11_:IntKind.i64.has a1.2.1)(h12_:a1.2.2.1.size≤maxLen)(h13_:IntKind.i64.has a1.2.2.2)(r:Bool)(hF:F.oper_entry a0 a1=some r):
    A.Ct Tryd.prog 33 [.agg #[.int .i64 a0.1,.int .i64 a0.2.1,.slice A2_ ((a0.2.2.1).length) c3_,.int .i64 a0.2.2.2.1.1,.int .i64 a0.2.2.2.1.2.1,.string a0.2.2.2.1.2.2,.string a0.2.2.2.2.1,.int .i64 a0.2.2.2.2.2.1,.int .i64 a0.2.2.2.2.2.2],.agg #[.int .i64 a1.1,.int .i64 a1.2.1,.string a1.2.2.1,.int .i64 a1.2.2.2]] [(0,.sh (.slice (Z.Ty.int .i64)) [.slice A2_ (a0.2.2.1).length c3_] a0.2.2.1),(1,.el none 0 0 A.tabF),(2,.el none 1 0 A.tabA)] [] (fun v H'=>v=.bool r∧H'=[]):=by
 refine A.Ct.enter Tryd.func33 rfl Tryd.ntmps33 rfl fun w0 F0=>?_
 rw[F.oper_entry]at hF
 refine A.xl 1 ?_
 refine A.AL.box 3 (cs:=[.int .i64 a0.1,.int .i64 a0.2.1,.slice A2_ ((a0.2.2.1).length) c3_,.int .i64 a0.2.2.2.1.1,.int .i64 a0.2.2.2.1.2.1,.string a0.2.2.2.1.2.2,.string a0.2.2.2.2.1,.int .i64 a0.2.2.2.2.2.1,.int .i64 a0.2.2.2.2.2.2]) fun g1=>?_
 refine A.AL.box 4 (cs:=[.int .i64 a1.1,.int .i64 a1.2.1,.string a1.2.2.1,.int .i64 a1.2.2.2]) fun g2=>?_
 refine A.q0 [] [] [.n] [] ?_
 refine A.dl 4 ?_
 refine A.q0 [4,3] [] [.n,.b 0 0,.n,.b 1 0,.n,.n] [(5,.bool (decide (a1.1≠a0.1)))] ?_
 refine A.dx 1 ?_
 refine A.AX.cnd rfl hF (fun hb hF=>?_) (fun hb hF=>?_)
 ·refine A.xl 1 ?_
  refine A.q0 [] [] [.n] [(4,.bool false)] ?_
  refine A.dx 1 ?_
  obtain rfl:=Option.some.inj hF
  exact A.rt1 [] ⟨rfl,rfl⟩
 refine A.xl 1 ?_
 refine A.q0 [3] [] [.n,.b 0 1,.n,.n] [(11,.bool (decide (a0.2.1=11)))] ?_
 refine A.dx 1 ?_
 refine A.AX.cnd rfl hF (fun hb hF=>?_) (fun hb hF=>?_)
 ·refine A.xl 1 ?_
  refine A.q0 [4] [] [.n,.b 0 2,.n,.n,.sy .n,.sy (.b 0 3),.sy .n,.pk,.n,.sy .n,.sy (.b 0 3),.sy .n,.pk,.n] [(4,.bool (bif bif decide (a1.2.2.1=(ByteArray.mk #[]))then decide ((0:Int)≤a1.2.2.2)else false then decide (a1.2.2.2≤1099511627776)else false))] ?_
  refine A.dx 1 ?_
  obtain rfl:=Option.some.inj hF
  exact A.rt1 [] ⟨rfl,rfl⟩
 refine A.xl 1 ?_
 refine A.q0 [3] [] [.n,.b 0 1,.n,.n] [(28,.bool (decide (a0.2.1=16)))] ?_
 refine A.dx 1 ?_
 refine A.AX.cnd rfl hF (fun hb hF=>?_) (fun hb hF=>?_)
 ·refine A.AX.join [] [1,2] (fun nl nh=>∃(y3:Bool),nl=[(4,.bool y3)]∧nh=[]∧F.oper_entry_j1 y3=some r) ?_ ?_
  ·refine A.xl 0 ?_
   refine A.q0 [4] [] [.n,.b 0 3,.n,.n] [(35,.bool (decide (a1.2.2.2=1)))] ?_
   refine A.AL.cnp (j:=35) rfl hF (fun hb hF=>?_) (fun hb hF=>?_)
   ·refine A.q0 [4] [] [.on .n,.on (.b 0 1),.on .n,.on (.b 0 2),.on .n] [(40,.agg #[.int .i64 a1.2.1,.string a1.2.2.1])] ?_
    refine A.AL.on (dj:=35) rfl rfl ?_
    obtain⟨r4,hv5,hF⟩:=A.bd_some hF
    refine A.AL.call 5 [] (first:=[]) (cap:=[]) cf51 (rec_Check_ok (a1.2.1,a1.2.2.1) h11_ h12_ r4 hv5) (.s 1 (.s 2 .nil)) ?_
    rintro _ _ ⟨rfl,rfl,hr6⟩
    refine⟨by kernel_rfl,?_⟩
    refine A.q0 [] [] [.on .n,.n,.n] [(4,.bool (decide (r4=0)))] ?_
    refine A.AL.done ?_
    exact A.j ⟨(decide (r4=0)),rfl,rfl,hF⟩
   refine A.q0 [] [] [.off,.off,.off,.off,.off,.off,.off,.n,.n] [(4,.bool false)] ?_
   refine A.AL.done ?_
   exact A.j ⟨false,rfl,rfl,hF⟩
  rintro _ _ ⟨y3,rfl,rfl,hF⟩
  rw[F.oper_entry_j1]at hF
  obtain rfl:=Option.some.inj hF
  exact A.rt1 [] ⟨rfl,rfl⟩
 refine A.xl 4 ?_
 refine A.q0 [] [] [.n] [(4,.bool false)] ?_
 refine A.dx 1 ?_
 obtain rfl:=Option.some.inj hF
 exact A.rt1 [] ⟨rfl,rfl⟩
def F.cmp_isNaN_int64 (a0:Int):Option Bool:=some (decide (a0≠a0))
theorem cmp_isNaN_int64_ok (a0:Int)(h0_:IntKind.i64.has a0)(r:Bool)(hF:F.cmp_isNaN_int64 a0=some r):
    A.Ct Tryd.prog 62 [.int .i64 a0] [] [] (fun v H'=>v=.bool r∧H'=[]):=by
 refine A.Ct.enter Tryd.func62 rfl Tryd.ntmps62 rfl fun w0 F0=>?_
 rw[F.cmp_isNaN_int64]at hF
 refine A.xl 1 ?_
 refine A.q0 [] [] [.n] [] ?_
 refine A.dl 2 ?_
 refine A.q0 [] [] [.n,.n,.n,.n] [(2,.bool (decide (a0≠a0)))] ?_
 refine A.dx 1 ?_
 obtain rfl:=Option.some.inj hF
 exact A.rt1 [] ⟨rfl,rfl⟩
def F.cmp_Compare_int64 (a0:Int)(a1:Int):Option Int:=(F.cmp_isNaN_int64 a0).bind fun r1=>((F.cmp_isNaN_int64 a1).bind fun r3=>(if r1=true then(if r3=true then(some 0)else(some (-1)))else(if r3=true then(some 1)else(if a0<a1 then(some (-1))else(if a1<a0 then(some 1)else(some 0))))))
theorem cmp_Compare_int64_ok (a0:Int)(a1:Int)(h0_:IntKind.i64.has a0)(h1_:IntKind.i64.has a1)(r:Int)(hF:F.cmp_Compare_int64 a0 a1=some r):
    A.Ct Tryd.prog 41 [.int .i64 a0,.int .i64 a1] [] [] (fun v H'=>v=.int .i64 r∧H'=[]∧IntKind.i64.has r):=by
 refine A.Ct.enter Tryd.func41 rfl Tryd.ntmps41 rfl fun w0 F0=>?_
 rw[F.cmp_Compare_int64]at hF
 refine A.xl 1 ?_
 refine A.q0 [] [] [.n] [] ?_
 refine A.dl 2 ?_
 refine A.q0 [] [] [.n] [(7,.int .i64 a0)] ?_
 obtain⟨r1,hv2,hF⟩:=A.bd_some hF
 refine A.AL.call 0 [] (first:=[]) (cap:=[]) cf62 (cmp_isNaN_int64_ok a0 h0_ r1 hv2) .nil ?_
 rintro _ _ ⟨rfl,rfl⟩
 refine⟨by kernel_rfl,?_⟩
 refine A.q0 [] [] [.n] [(5,.bool r1)] ?_
 refine A.dl 2 ?_
 refine A.q0 [] [] [.n] [(9,.int .i64 a1)] ?_
 obtain⟨r3,hv4,hF⟩:=A.bd_some hF
 refine A.AL.call 40 [] (first:=[]) (cap:=[]) cf62 (cmp_isNaN_int64_ok a1 h1_ r3 hv4) .nil ?_
 rintro _ _ ⟨rfl,rfl⟩
 refine⟨by kernel_rfl,?_⟩
 refine A.q0 [] [] [.n] [(6,.bool r3)] ?_
 refine A.dl 3 ?_
 refine A.q0 [] [] [.n] [(11,.bool r1)] ?_
 refine A.dx 1 ?_
 refine A.AX.cnb rfl hF (fun hb hF=>?_) (fun hb hF=>?_)
 ·refine A.xl 2 ?_
  refine A.q0 [] [] [.n] [(12,.bool r3)] ?_
  refine A.dx 1 ?_
  refine A.AX.cnb rfl hF (fun hb hF=>?_) (fun hb hF=>?_)
  ·refine A.xl 1 ?_
   refine A.q0 [] [] [.n] [(4,.int .i64 0)] ?_
   refine A.dx 1 ?_
   obtain rfl:=Option.some.inj hF
   exact A.rt1 [] ⟨rfl,rfl,(A.hasl .i64 (0) rfl)⟩
  refine A.xl 3 ?_
  refine A.q0 [] [] [.n] [(4,.int .i64 (-1))] ?_
  refine A.dx 1 ?_
  obtain rfl:=Option.some.inj hF
  exact A.rt1 [] ⟨rfl,rfl,(A.hasl .i64 (-1) rfl)⟩
 refine A.xl 4 ?_
 refine A.q0 [] [] [.n] [(13,.bool r3)] ?_
 refine A.dx 1 ?_
 refine A.AX.cnb rfl hF (fun hb hF=>?_) (fun hb hF=>?_)
 ·refine A.xl 1 ?_
  refine A.q0 [] [] [.n] [(4,.int .i64 1)] ?_
  refine A.dx 1 ?_
  obtain rfl:=Option.some.inj hF
  exact A.rt1 [] ⟨rfl,rfl,(A.hasl .i64 (1) rfl)⟩
 refine A.xl 4 ?_
 refine A.q0 [] [] [.n,.n,.n] [(16,.bool (decide (a0<a1)))] ?_
 refine A.dx 1 ?_
 refine A.AX.cnd rfl hF (fun hb hF=>?_) (fun hb hF=>?_)
 ·refine A.xl 1 ?_
  refine A.q0 [] [] [.n] [(4,.int .i64 (-1))] ?_
  refine A.dx 1 ?_
  obtain rfl:=Option.some.inj hF
  exact A.rt1 [] ⟨rfl,rfl,(A.hasl .i64 (-1) rfl)⟩
 refine A.xl 4 ?_
 refine A.q0 [] [] [.n,.n,.n] [(19,.bool (decide (a1<a0)))] ?_
 refine A.dx 1 ?_
 refine A.AX.cnd rfl hF (fun hb hF=>?_) (fun hb hF=>?_)
 ·refine A.xl 1 ?_
  refine A.q0 [] [] [.n] [(4,.int .i64 1)] ?_
  refine A.dx 1 ?_
  obtain rfl:=Option.some.inj hF
  exact A.rt1 [] ⟨rfl,rfl,(A.hasl .i64 (1) rfl)⟩
 refine A.xl 3 ?_
 refine A.q0 [] [] [.n] [(4,.int .i64 0)] ?_
 refine A.dx 1 ?_
 obtain rfl:=Option.some.inj hF
 exact A.rt1 [] ⟨rfl,rfl,(A.hasl .i64 (0) rfl)⟩
def F.cmp_Or_int_l1 (a0:(List Int)):Nat→Int→Option Int
 |0,_=>none
 |f+1,y1=>if y1<((a0).length:Int)then((A.ix a0 y1).bind fun x4=>(if x4≠0 then(some x4)else(A.gd (Z.R64 (y1+1)) ((F.cmp_Or_int_l1 a0 f) (y1+1)))))else(some 0)
def F.cmp_Or_int (a0:(List Int)):Option Int:=F.cmp_Or_int_l1 a0 A.FU 0
theorem cmp_Or_int_ok (a0:(List Int))(A0_:Option Addr)(c1_:Nat)(r:Int)(hF:F.cmp_Or_int a0=some r):
    A.Ct Tryd.prog 39 [.slice A0_ ((a0).length) c1_] [(0,.ln (Z.Ty.int .i64) A0_ c1_ a0)] [] (fun v H'=>v=.int .i64 r∧H'=[]∧IntKind.i64.has r):=by
 refine A.Ct.enter Tryd.func39 rfl Tryd.ntmps39 rfl fun w0 F0=>?_
 rw[F.cmp_Or_int]at hF
 refine A.xl 1 ?_
 refine A.q0 [] [] [.n] [] ?_
 refine A.dl 2 ?_
 refine A.q0 [] [] [.n] [(3,.int .i64 0)] ?_
 refine A.dl 3 ?_
 refine A.q0 [] [] [.n,.n,.n] [(6,.slice A0_ ((a0).length) c1_),(7,.int .i64 ((a0).length:Int)),(8,.int .i64 0)] ?_
 refine A.dx 2 ?_
 refine A.lp_ [3,6,7] [0] (fun f nl nh=>∃(y1:Int),nl=[(8,.int .i64 y1)]∧nh=[]∧IntKind.i64.has y1∧F.cmp_Or_int_l1 a0 f y1=some r) ⟨0,rfl,rfl,(A.hasl .i64 (0) rfl),hF⟩ ?_
 rintro f3 _ _ ⟨y1,rfl,rfl,hy2,hF⟩
 rcases f3 with _|f3
 ·exact A.no0 hF
 rw[F.cmp_Or_int_l1]at hF
 refine A.xl 1 ?_
 refine A.q0 [] [] [.n] [(9,.bool (decide (y1<((a0).length:Int))))] ?_
 refine A.dx 2 ?_
 refine A.AX.cnd rfl hF (fun hb hF=>?_) (fun hb hF=>?_)
 ·refine A.xl 5 ?_
  obtain⟨x4,hv5,hF⟩:=A.bd_some hF
  refine A.AL.ixl 0 3 hv5 fun ho6=>?_
  intro b7 o8
  refine A.q0 [] [3] [.e 0 0,.n] [(5,.int .i64 x4)] ?_
  refine A.dl 2 ?_
  refine A.q0 [] [] [.n,.n,.n] [(14,.bool (decide (x4≠0)))] ?_
  refine A.dx 1 ?_
  refine A.AX.cnd rfl hF (fun hb hF=>?_) (fun hb hF=>?_)
  ·refine A.xl 1 ?_
   refine A.q0 [] [] [.n,.n] [(2,.int .i64 x4)] ?_
   refine A.dx 1 ?_
   obtain rfl:=Option.some.inj hF
   exact A.rt1 [] ⟨rfl,rfl,ho6⟩
  refine A.xl 3 ?_
  obtain⟨hc9,hF⟩:=A.gd_some hF
  refine A.q [] [] [.n,.n] [Z.R64 (y1+1)] [(8,.int .i64 (y1+1))] hc9 ?_
  refine A.AL.done ?_
  exact A.j ⟨_,Nat.lt_succ_self _,⟨(y1+1),rfl,rfl,(Z.i64_has hc9),hF⟩⟩
 refine A.xl 3 ?_
 refine A.q0 [] [] [.n,.n] [(2,.int .i64 0)] ?_
 refine A.dx 1 ?_
 obtain rfl:=Option.some.inj hF
 exact A.rt1 [] ⟨rfl,rfl,(A.hasl .i64 (0) rfl)⟩
def F.oper_ahead (a0:D38)(a1:D38):Option Bool:=(F.cmp_Compare_int64 a0.2.1 a1.2.1).bind fun r3=>((F.strings_Compare a0.2.2.1 a1.2.2.1).bind fun r6=>((F.cmp_Or_int [r3,r6]).bind fun r10=>(some (decide (r10<0)))))
theorem oper_ahead_ok (a0:D38)(a1:D38)(h0_:IntKind.i64.has a0.1)(h1_:IntKind.i64.has a0.2.1)(h2_:a0.2.2.1.size≤maxLen)(h3_:IntKind.i64.has a0.2.2.2)(h4_:IntKind.i64.has a1.1)(h5_:IntKind.i64.has a1.2.1)(h6_:a1.2.2.1.size≤maxLen)(h7_:IntKind.i64.has a1.2.2.2)(r:Bool)(hF:F.oper_ahead a0 a1=some r):
    A.Ct Tryd.prog 34 [.agg #[.int .i64 a0.1,.int .i64 a0.2.1,.string a0.2.2.1,.int .i64 a0.2.2.2],.agg #[.int .i64 a1.1,.int .i64 a1.2.1,.string a1.2.2.1,.int .i64 a1.2.2.2]] [] [] (fun v H'=>v=.bool r∧H'=[]):=by
 refine A.Ct.enter Tryd.func34 rfl Tryd.ntmps34 rfl fun w0 F0=>?_
 rw[F.oper_ahead]at hF
 refine A.xl 1 ?_
 refine A.AL.box 0 (cs:=[.int .i64 a0.1,.int .i64 a0.2.1,.string a0.2.2.1,.int .i64 a0.2.2.2]) fun g1=>?_
 refine A.AL.box 1 (cs:=[.int .i64 a1.1,.int .i64 a1.2.1,.string a1.2.2.1,.int .i64 a1.2.2.2]) fun g2=>?_
 refine A.q0 [] [] [.n] [] ?_
 refine A.dx 2 ?_
 refine A.AX.dr mixed 14 14 (A.mb 14 0) ?_
 refine A.hq A.pb [] [0,1] [0,1] [] (A.mb 14 495) 6 [(0,.n),(2,.n),(5,.n),(7,.n),(1,.b 0 1),(3,.b 1 1),(6,.b 0 2),(8,.b 1 2)] [(6,.int .i64 a0.2.1),(8,.int .i64 a1.2.1),(11,.string a0.2.2.1),(13,.string a1.2.2.1)] ?_
 refine A.AH.one 4 ?_
 obtain⟨r3,hv4,hF⟩:=A.bd_some hF
 refine A.AL.call 2 [] (first:=[]) (cap:=[]) cf41 (cmp_Compare_int64_ok a0.2.1 a1.2.1 h1_ h5_ r3 hv4) .nil ?_
 rintro _ _ ⟨rfl,rfl,hr5⟩
 refine⟨by kernel_rfl,?_⟩
 refine A.AH.nx (A.mb 14 511) [0,1] ?_
 refine A.AH.one 9 ?_
 obtain⟨r6,hv7,hF⟩:=A.bd_some hF
 refine A.AL.call 42 [] (first:=[]) (cap:=[]) cf52 (strings_Compare_ok a0.2.2.1 a1.2.2.1 h2_ h6_ r6 hv7) .nil ?_
 rintro _ _ ⟨rfl,rfl,hr8⟩
 refine⟨by kernel_rfl,?_⟩
 refine A.AH.nx (A.mb 14 1023) [0,1] ?_
 refine A.AH.one 10 ?_
 refine A.AL.bsl 82 (ty:=(Z.Ty.int .i64)) (cs:=[.int .i64 r3,.int .i64 r6]) [r3,r6] ⟨⟨rfl,hr5⟩,⟨⟨rfl,hr8⟩,rfl⟩⟩ (fun g9=>?_) Tryd.zeroValue3 Tryd.sizeOf3
 refine A.AH.nx (A.mb 14 2047) [0,1] ?_
 refine A.AH.one 11 ?_
 obtain⟨r10,hv11,hF⟩:=A.bd_some hF
 refine A.AL.call 83 [] (first:=[]) (cap:=[]) cf39 (cmp_Or_int_ok [r3,r6] (some ⟨g9,0,none⟩) 2 r10 hv11) (.o 82 .nil) ?_
 rintro _ _ ⟨rfl,rfl,hr12⟩
 refine⟨by kernel_rfl,?_⟩
 refine A.AH.nx (A.mb 14 4095) [0,1] ?_
 refine A.hq A.pb [0,1] [0,1,82] [] [] (A.mb 14 16383) 0 [(12,.n),(13,.n)] [(4,.bool (decide (r10<0)))] ?_
 refine A.AH.done ?_
 refine A.ex 1 ?_
 obtain rfl:=Option.some.inj hF
 exact A.rt1 [] ⟨rfl,rfl⟩
def F.oper_CheckState_j1 (k1:Int→Option Int)(y2:Int)(y11:Bool):Option Int:=if y11=true then(some 171)else(A.gd (Z.R64 (y2+1)) (k1 (y2+1)))
def F.oper_CheckState_l2 (a0:D25)(a1:(List D38)):Nat→Int→Option Int
 |0,_=>none
 |f+1,y2=>if y2<((a1).length:Int)then((A.ix a1 y2).bind fun x5=>((F.oper_entry (a0.1,a0.2.1,a0.2.2.1,(a0.2.2.2.1.1,a0.2.2.2.1.2.1,a0.2.2.2.1.2.2),a0.2.2.2.2.1,a0.2.2.2.2.2.1,a0.2.2.2.2.2.2) (x5.1,x5.2.1,x5.2.2.1,x5.2.2.2)).bind fun r13=>(if(!r13)=true then(F.oper_CheckState_j1 (F.oper_CheckState_l2 a0 a1 f) y2 true)else(if(0:Int)<y2 then(A.gd (Z.R64 (y2-1)) ((A.ix a1 (y2-1)).bind fun x16=>((F.oper_ahead (x16.1,x16.2.1,x16.2.2.1,x16.2.2.2) (x5.1,x5.2.1,x5.2.2.1,x5.2.2.2)).bind fun r22=>(F.oper_CheckState_j1 (F.oper_CheckState_l2 a0 a1 f) y2 (!r22)))))else(F.oper_CheckState_j1 (F.oper_CheckState_l2 a0 a1 f) y2 false)))))else(some 0)
def F.oper_CheckState (a0:D25)(a1:(List D38)):Option Int:=F.oper_CheckState_l2 a0 a1 A.FU 0
theorem oper_CheckState_ok (a0:D25)(a1:(List D38))(A2_:Option Addr)(c3_:Nat)(A10_:Option Addr)(c11_:Nat)(h0_:IntKind.i64.has a0.1)(h1_:IntKind.i64.has a0.2.1)(h4_:IntKind.i64.has a0.2.2.2.1.1)(h5_:IntKind.i64.has a0.2.2.2.1.2.1)(h6_:a0.2.2.2.1.2.2.size≤maxLen)(h7_:a0.2.2.2.2.1.size≤maxLen)(h8_:IntKind.i64.has a0.2.2.2.2.2.1)(h9_:IntKind.i64.has a0.2.2.2.2.2.2)(r:Int)(hF:F.oper_CheckState a0 a1=some r):
    A.Ct Tryd.prog 20 [.agg #[.int .i64 a0.1,.int .i64 a0.2.1,.slice A2_ ((a0.2.2.1).length) c3_,.int .i64 a0.2.2.2.1.1,.int .i64 a0.2.2.2.1.2.1,.string a0.2.2.2.1.2.2,.string a0.2.2.2.2.1,.int .i64 a0.2.2.2.2.2.1,.int .i64 a0.2.2.2.2.2.2],.slice A10_ ((a1).length) c11_] [(0,.sh (.slice (Z.Ty.int .i64)) [.slice A2_ (a0.2.2.1).length c3_] a0.2.2.1),(1,.ln T38 A10_ c11_ a1),(2,.el none 0 0 A.tabF),(3,.el none 1 0 A.tabA)] [] (fun v H'=>v=.int .i64 r∧H'=[]∧IntKind.i64.has r):=by
 refine A.Ct.enter Tryd.func20 rfl Tryd.ntmps20 rfl fun w0 F0=>?_
 rw[F.oper_CheckState]at hF
 refine A.xl 1 ?_
 refine A.AL.box 4 (cs:=[.int .i64 a0.1,.int .i64 a0.2.1,.slice A2_ ((a0.2.2.1).length) c3_,.int .i64 a0.2.2.2.1.1,.int .i64 a0.2.2.2.1.2.1,.string a0.2.2.2.1.2.2,.string a0.2.2.2.2.1,.int .i64 a0.2.2.2.2.2.1,.int .i64 a0.2.2.2.2.2.2]) fun g1=>?_
 refine A.q0 [] [] [.n] [] ?_
 refine A.dl 3 ?_
 refine A.q0 [] [] [.n,.n,.n] [(7,.slice A10_ ((a1).length) c11_),(8,.int .i64 ((a1).length:Int)),(9,.int .i64 0)] ?_
 refine A.dx 2 ?_
 refine A.lp_ [1,2,7,8] [0,1,2,3,4] (fun f nl nh=>∃(y2:Int),nl=[(9,.int .i64 y2)]∧nh=[]∧IntKind.i64.has y2∧F.oper_CheckState_l2 a0 a1 f y2=some r) ⟨0,rfl,rfl,(A.hasl .i64 (0) rfl),hF⟩ ?_
 rintro f4 _ _ ⟨y2,rfl,rfl,hy3,hF⟩
 rcases f4 with _|f4
 ·exact A.no0 hF
 rw[F.oper_CheckState_l2]at hF
 refine A.xl 1 ?_
 refine A.q0 [] [] [.n] [(10,.bool (decide (y2<((a1).length:Int))))] ?_
 refine A.dx 2 ?_
 refine A.AX.cnd rfl hF (fun hb hF=>?_) (fun hb hF=>?_)
 ·refine A.xl 5 ?_
  refine A.q0 [] [] [.n] [(11,.int .i64 y2)] ?_
  obtain⟨x5,hv6,hF⟩:=A.bd_some hF
  refine A.AL.ixl 1 171 hv6 fun ho7=>?_
  intro b8 o9
  refine A.q0 [] [171] [.e 0 0] [(13,.agg #[.int .i64 x5.1,.int .i64 x5.2.1,.string x5.2.2.1,.int .i64 x5.2.2.2])] ?_
  refine A.AL.alloc 172 (cs:=[.int .i64 0,.int .i64 0,.string (ByteArray.mk #[]),.int .i64 0]) Tryd.zeroValue39 fun g10=>?_
  refine A.q0 [] [] [.n] [(5,.int .i64 y2)] ?_
  refine A.sw 172 [] [.int .i64 x5.1,.int .i64 x5.2.1,.string x5.2.2.1,.int .i64 x5.2.2.2] ?_
  refine A.dx 1 ?_
  refine A.AX.join [1,2,7,8,9] [0,1,2,3,4] (fun nl nh=>∃(y11:Bool),nl=[(31,.bool y11)]∧nh=[]∧F.oper_CheckState_j1 (F.oper_CheckState_l2 a0 a1 f4) y2 y11=some r) ?_ ?_
  ·refine A.AX.dr mixed 18 18 (A.mb 18 0) ?_
   refine A.hq A.pb [] [0,1,2,3,4,171,172] [4,172] [] (A.mb 18 3) 16 [(0,.b 0 0),(1,.b 1 0)] [(14,.agg #[.int .i64 a0.1,.int .i64 a0.2.1,.slice A2_ ((a0.2.2.1).length) c3_,.int .i64 a0.2.2.2.1.1,.int .i64 a0.2.2.2.1.2.1,.string a0.2.2.2.1.2.2,.string a0.2.2.2.2.1,.int .i64 a0.2.2.2.2.2.1,.int .i64 a0.2.2.2.2.2.2]),(15,.agg #[.int .i64 x5.1,.int .i64 x5.2.1,.string x5.2.2.1,.int .i64 x5.2.2.2])] ?_
   refine A.AH.one 2 ?_
   obtain⟨r13,hv14,hF⟩:=A.bd_some hF
   refine A.AL.call 173 [] (first:=[]) (cap:=[]) cf33 (oper_entry_ok (a0.1,a0.2.1,a0.2.2.1,(a0.2.2.2.1.1,a0.2.2.2.1.2.1,a0.2.2.2.1.2.2),a0.2.2.2.2.1,a0.2.2.2.2.2.1,a0.2.2.2.2.2.2) (x5.1,x5.2.1,x5.2.2.1,x5.2.2.2) A2_ c3_ h0_ h1_ h4_ h5_ h6_ h7_ h8_ h9_ ho7.1 ho7.2.1 ho7.2.2.1 ho7.2.2.2 r13 hv14) (.s 0 (.s 2 (.s 3 .nil))) ?_
   rintro _ _ ⟨rfl,rfl⟩
   refine⟨by kernel_rfl,?_⟩
   refine A.AH.nx (A.mb 18 7) [0,1,2,3,4,171,172] ?_
   refine A.hq A.pb [0,1,2,3,4,171,172] [0,1,2,3,4,171,172] [] [] (A.mb 18 31) 13 [(3,.n),(4,.n)] [(18,.bool (!r13))] ?_
   refine A.AH.cnd (j:=18) rfl hF (fun hF=>?_) (fun hF=>?_)
   ·refine A.hq A.pb [0,1,2,3,4,171,172] [0,1,2,3,4,171,172] [] [] (A.mb 18 262143) 0 [(5,.off),(6,.off),(7,.off),(8,.off),(9,.off),(13,.off),(10,.off),(11,.off),(12,.off),(14,.off),(15,.off),(16,.off),(17,.n)] [(31,.bool true)] ?_
    refine A.AH.done ?_
    exact A.j ⟨true,rfl,rfl,hF⟩
   refine A.hq A.pb [0,1,2,3,4,171,172] [0,1,2,3,4,171,172] [] [] (A.mb 18 255) 10 [(5,.on .n),(6,.on .n),(7,.on .n)] [(21,.bool (decide ((0:Int)<y2)))] ?_
   refine A.AH.cnp (j:=21) rfl hF (fun hb hF=>?_) (fun hb hF=>?_)
   ·obtain⟨hc15,hF⟩:=A.gd_some hF
    refine A.AH.q A.pb [0,1,2,3,4,171,172] [0,1,2,3,4,171,172] [172] [] (A.mb 18 10239) 6 [(8,.on .n),(9,.on .n),(13,.on (.b 0 0)),(10,.on .n)] [22,27,24] [Z.R64 (y2-1)] [(22,.slice A10_ ((a1).length) c11_),(27,.agg #[.int .i64 x5.1,.int .i64 x5.2.1,.string x5.2.2.1,.int .i64 x5.2.2.2]),(24,.int .i64 (y2-1))] hc15 ?_
    obtain⟨x16,hv17,hF⟩:=A.bd_some hF
    refine A.AH.pkl 1 213 hv17 fun ho18=>?_
    intro b20 o21 hA19
    refine A.AH.vg A.pb [0,1,2,3,4,171,172] [0,1,2,3,4,171,172,213] 11 (A.mb 18 12287) (dj:=21) rfl (fun a w hf hh=>A.r_ixa (t:=T38) hv17 hA19 hf) ?_
    refine A.hq A.pb [0,1,2,3,4,171,172,213] [0,1,2,3,4,171,172,213] [] [213] (A.mb 18 16383) 4 [(12,.on (.e 0 0))] [(26,.agg #[.int .i64 x16.1,.int .i64 x16.2.1,.string x16.2.2.1,.int .i64 x16.2.2.2])] ?_
    refine A.AH.one 14 ?_
    refine A.AL.on (dj:=21) rfl rfl ?_
    obtain⟨r22,hv23,hF⟩:=A.bd_some hF
    refine A.AL.call 214 [] (first:=[]) (cap:=[]) cf34 (oper_ahead_ok (x16.1,x16.2.1,x16.2.2.1,x16.2.2.2) (x5.1,x5.2.1,x5.2.2.1,x5.2.2.2) ho18.1 ho18.2.1 ho18.2.2.1 ho18.2.2.2 ho7.1 ho7.2.1 ho7.2.2.1 ho7.2.2.2 r22 hv23) .nil ?_
    rintro _ _ ⟨rfl,rfl⟩
    refine⟨by kernel_rfl,?_⟩
    refine A.AH.nx (A.mb 18 32767) [0,1,2,3,4,171,172,213] ?_
    refine A.hq A.pb [0,1,2,3,4,171,172,213] [0,1,2,3,4,171,172,213] [] [] (A.mb 18 262143) 0 [(15,.on .n),(16,.on .n),(17,.n)] [(31,.bool (!r22))] ?_
    refine A.AH.done ?_
    exact A.j ⟨(!r22),rfl,rfl,hF⟩
   refine A.hq A.pb [0,1,2,3,4,171,172] [0,1,2,3,4,171,172] [] [] (A.mb 18 262143) 0 [(8,.off),(9,.off),(13,.off),(10,.off),(11,.off),(12,.off),(14,.off),(15,.off),(16,.on .n),(17,.n)] [(31,.bool false)] ?_
   refine A.AH.done ?_
   exact A.j ⟨false,rfl,rfl,hF⟩
  rintro _ _ ⟨y11,rfl,rfl,hF⟩
  rw[F.oper_CheckState_j1]at hF
  refine A.AX.cnb rfl hF (fun hb hF=>?_) (fun hb hF=>?_)
  ·refine A.xl 1 ?_
   refine A.q0 [] [] [.n] [(4,.int .i64 171)] ?_
   refine A.dx 1 ?_
   obtain rfl:=Option.some.inj hF
   exact A.rt1 [] ⟨rfl,rfl,(A.hasl .i64 (171) rfl)⟩
  refine A.xl 3 ?_
  obtain⟨hc12,hF⟩:=A.gd_some hF
  refine A.q [] [] [.n,.n] [Z.R64 (y2+1)] [(9,.int .i64 (y2+1))] hc12 ?_
  refine A.AL.done ?_
  exact A.j ⟨_,Nat.lt_succ_self _,⟨(y2+1),rfl,rfl,(Z.i64_has hc12),hF⟩⟩
 refine A.xl 3 ?_
 refine A.q0 [] [] [.n] [(4,.int .i64 0)] ?_
 refine A.dx 1 ?_
 obtain rfl:=Option.some.inj hF
 exact A.rt1 [] ⟨rfl,rfl,(A.hasl .i64 (0) rfl)⟩
def F.schema_state_add (a0:(List (D67×Int)))(a1:Int)(a2:D38):Option (List (D67×Int)):=if a1=11 then(A.lt (Z.mget (0:Int) a0 (a2.1,(a2.2.1,a2.2.2.1))) fun x3=>(A.gd (Z.R64 (x3+a2.2.2.2)) (some (Z.mins a0 (a2.1,(a2.2.1,a2.2.2.1)) (min 1099511627776 (x3+a2.2.2.2))))))else(some (Z.mins a0 (a2.1,(a2.2.1,a2.2.2.1)) a2.2.2.2))
theorem schema_state_add_ok (a0:(List (D67×Int)))(a1:Int)(a2:D38)(b0_:Nat)(h1_:IntKind.i64.has a1)(h2_:IntKind.i64.has a2.1)(h3_:IntKind.i64.has a2.2.1)(h4_:a2.2.2.1.size≤maxLen)(h5_:IntKind.i64.has a2.2.2.2)(r:(List (D67×Int)))(hF:F.schema_state_add a0 a1 a2=some r):
    A.Ct Tryd.prog 21 [.map (some b0_),.int .i64 a1,.agg #[.int .i64 a2.1,.int .i64 a2.2.1,.string a2.2.2.1,.int .i64 a2.2.2.2]] [(0,.mp D67 (fun x:D67=>.agg #[.int .i64 x.1,.int .i64 x.2.1,.string x.2.2]) (Z.Ty.int .i64) false b0_ a0)] ([b0_]++[]) (fun v H'=>v=.tuple #[]∧H'=[(0,.mp D67 (fun x:D67=>.agg #[.int .i64 x.1,.int .i64 x.2.1,.string x.2.2]) (Z.Ty.int .i64) false b0_ r)]):=by
 refine A.Ct.enter Tryd.func21 rfl Tryd.ntmps21 rfl fun w0 F0=>?_
 rw[F.schema_state_add]at hF
 refine A.xl 1 ?_
 refine A.AL.box 1 (cs:=[.int .i64 a2.1,.int .i64 a2.2.1,.string a2.2.2.1,.int .i64 a2.2.2.2]) fun g1=>?_
 refine A.dl 2 ?_
 refine A.q0 [1] [] [.n,.b 0 0,.n,.b 0 1,.n,.b 0 2,.n,.n] [(14,.agg #[.int .i64 a2.1,.int .i64 a2.2.1,.string a2.2.2.1])] ?_
 refine A.AL.alloc 2 (cs:=[.int .i64 0,.int .i64 0,.string (ByteArray.mk #[])]) Tryd.zeroValue68 fun g2=>?_
 refine A.sw 2 [] [.int .i64 a2.1,.int .i64 a2.2.1,.string a2.2.2.1] ?_
 refine A.dl 3 ?_
 refine A.q0 [] [] [.n,.n] [(16,.bool (decide (a1=11)))] ?_
 refine A.dx 1 ?_
 refine A.AX.cnd rfl hF (fun hb hF=>?_) (fun hb hF=>?_)
 ·refine A.xx 1 ?_
  refine A.AX.dr mixed 9 10 (A.mb 10 0) ?_
  refine A.hq A.pb [] [0,1,2] [2,1] [] (A.mb 10 111) 4 [(0,.n),(1,.b 0 0),(2,.n),(3,.b 0 0),(5,.n),(6,.b 1 3)] [(17,.map (some b0_)),(18,.agg #[.int .i64 a2.1,.int .i64 a2.2.1,.string a2.2.2.1]),(19,.map (some b0_)),(20,.agg #[.int .i64 a2.1,.int .i64 a2.2.1,.string a2.2.2.1]),(23,.int .i64 a2.2.2.2)] ?_
  obtain⟨x3,hv4,hF⟩:=A.lt_some hF
  refine A.okm (t:=(Z.Ty.int .i64)) 0 (a2.1,(a2.2.1,a2.2.2.1)) (z:=(0:Int)) (zs:=[.int .i64 0]) ⟨rfl,by decide⟩ hv4 fun ho5=>?_
  refine A.AH.v A.pb [0,1,2] [0,1,2] 4 (A.mb 10 127) rfl (fun a w hf hh=>A.r_lkf (t:=(Z.Ty.int .i64)) (ok:=false) (z:=(0:Int)) (zs:=[.int .i64 0]) 0 ky68 (a2.1,(a2.2.1,a2.2.2.1)) Tryd.zeroValue2 ⟨rfl,by decide⟩ hv4 rfl hf hh) ?_
  obtain⟨hc6,hF⟩:=A.gd_some hF
  refine A.AH.q A.pb [0,1,2] [0,1,2] [] [] (A.mb 10 511) 1 [(7,.n),(8,.n)] [25] [Z.R64 (x3+a2.2.2.2)] [(25,.int .i64 (min 1099511627776 (x3+a2.2.2.2)))] hc6 ?_
  refine A.AH.one 9 ?_
  refine A.AL.mup (t:=(Z.Ty.int .i64)) 0 [] (cs:=[.int .i64 (min 1099511627776 (x3+a2.2.2.2))]) (u:=min 1099511627776 (x3+a2.2.2.2)) ky68 (a2.1,(a2.2.1,a2.2.2.1)) ⟨rfl,(A.has_min (A.hasl .i64 (1099511627776) rfl) (Z.i64_has hc6))⟩ ?_
  refine A.AH.nm (A.mb 10 1023) ?_
  refine A.AH.done ?_
  refine A.ex 1 ?_
  obtain rfl:=Option.some.inj hF
  exact A.AX.ret [(0,0)] (.tuple #[]) (fun a w hf hh=>Z.res0 rfl w) (⟨rfl,rfl⟩)
 refine A.xl 2 ?_
 refine A.q0 [2,1] [] [.n,.b 0 0,.n,.b 1 3] [(26,.map (some b0_)),(27,.agg #[.int .i64 a2.1,.int .i64 a2.2.1,.string a2.2.2.1]),(29,.int .i64 a2.2.2.2)] ?_
 refine A.AL.mup (t:=(Z.Ty.int .i64)) 0 [] (cs:=[.int .i64 a2.2.2.2]) (u:=a2.2.2.2) ky68 (a2.1,(a2.2.1,a2.2.2.1)) ⟨rfl,h5_⟩ ?_
 refine A.AL.done ?_
 obtain rfl:=Option.some.inj hF
 exact A.AE.ret [(0,0)] (.tuple #[]) (fun a w hf hh=>Z.res0 rfl w) (⟨rfl,rfl⟩)
def F.schema_scaled (a0:Int)(a1:Int):Option Int:=A.gd (((decide ((0:Int)<a0))=true→a0≠0)∧((decide ((0:Int)<a0))=true→Z.R64 (Int.tdiv 1099511627776 a0))) (if(bif decide ((0:Int)<a0)then decide (Int.tdiv 1099511627776 a0<a1)else false)=true then(some 1099511627776)else(A.gd (Z.R64 (a0*a1)) (some (a0*a1))))
theorem schema_scaled_ok (a0:Int)(a1:Int)(h0_:IntKind.i64.has a0)(h1_:IntKind.i64.has a1)(r:Int)(hF:F.schema_scaled a0 a1=some r):
    A.Ct Tryd.prog 35 [.int .i64 a0,.int .i64 a1] [] [] (fun v H'=>v=.int .i64 r∧H'=[]∧IntKind.i64.has r):=by
 refine A.Ct.enter Tryd.func35 rfl Tryd.ntmps35 rfl fun w0 F0=>?_
 rw[F.schema_scaled]at hF
 refine A.xl 1 ?_
 refine A.q0 [] [] [.n] [] ?_
 refine A.dl 3 ?_
 obtain⟨hc1,hF⟩:=A.gd_some hF
 refine A.q [] [] [.n,.n,.n,.sy .n,.sy .n,.sy .n,.sy .n,.pk] [(decide ((0:Int)<a0))=true→a0≠0,(decide ((0:Int)<a0))=true→Z.R64 (Int.tdiv 1099511627776 a0)] [(12,.bool (bif decide ((0:Int)<a0)then decide (Int.tdiv 1099511627776 a0<a1)else false))] hc1 ?_
 refine A.dx 1 ?_
 refine A.AX.cnb rfl hF (fun hb hF=>?_) (fun hb hF=>?_)
 ·refine A.xl 1 ?_
  refine A.q0 [] [] [.n] [(4,.int .i64 1099511627776)] ?_
  refine A.dx 1 ?_
  obtain rfl:=Option.some.inj hF
  exact A.rt1 [] ⟨rfl,rfl,(A.hasl .i64 (1099511627776) rfl)⟩
 refine A.xl 3 ?_
 obtain⟨hc2,hF⟩:=A.gd_some hF
 refine A.q [] [] [.n,.n,.n,.n] [Z.R64 (a0*a1)] [(4,.int .i64 (a0*a1))] hc2 ?_
 refine A.dx 1 ?_
 obtain rfl:=Option.some.inj hF
 exact A.rt1 [] ⟨rfl,rfl,(Z.i64_has hc2)⟩
def F.fn_both (a0:Int)(a1:D23)(a2:D59):Option Int:=(F.fn_Check a0 (a1.1,a1.2.1,a1.2.2)).bind fun r3=>(if r3≠0 then(some r3)else((F.rec_Check (a2.1,a2.2)).bind fun r6=>(some r6)))
theorem fn_both_ok (a0:Int)(a1:D23)(a2:D59)(h0_:IntKind.i64.has a0)(h1_:IntKind.i64.has a1.1)(h2_:IntKind.i64.has a1.2.1)(h3_:a1.2.2.size≤maxLen)(h4_:IntKind.i64.has a2.1)(h5_:a2.2.size≤maxLen)(r:Int)(hF:F.fn_both a0 a1 a2=some r):
    A.Ct Tryd.prog 53 [.int .i64 a0,.agg #[.int .i64 a1.1,.int .i64 a1.2.1,.string a1.2.2],.agg #[.int .i64 a2.1,.string a2.2]] [(0,.el none 0 0 A.tabF),(1,.el none 1 0 A.tabA)] [] (fun v H'=>v=.int .i64 r∧H'=[]∧IntKind.i64.has r):=by
 refine A.Ct.enter Tryd.func53 rfl Tryd.ntmps53 rfl fun w0 F0=>?_
 rw[F.fn_both]at hF
 refine A.xl 1 ?_
 refine A.AL.box 2 (cs:=[.int .i64 a1.1,.int .i64 a1.2.1,.string a1.2.2]) fun g1=>?_
 refine A.AL.box 3 (cs:=[.int .i64 a2.1,.string a2.2]) fun g2=>?_
 refine A.q0 [] [] [.n] [] ?_
 refine A.dl 3 ?_
 refine A.q0 [2] [] [.n,.b 0 0] [(8,.int .i64 a0),(9,.agg #[.int .i64 a1.1,.int .i64 a1.2.1,.string a1.2.2])] ?_
 obtain⟨r3,hv4,hF⟩:=A.bd_some hF
 refine A.AL.call 4 [] (first:=[]) (cap:=[]) cf50 (fn_Check_ok a0 (a1.1,a1.2.1,a1.2.2) h0_ h1_ h2_ h3_ r3 hv4) (.s 0 (.s 1 .nil)) ?_
 rintro _ _ ⟨rfl,rfl,hr5⟩
 refine⟨by kernel_rfl,?_⟩
 refine A.q0 [] [] [.n] [(7,.int .i64 r3)] ?_
 refine A.dl 2 ?_
 refine A.q0 [] [] [.n,.n] [(12,.bool (decide (r3≠0)))] ?_
 refine A.dx 1 ?_
 refine A.AX.cnd rfl hF (fun hb hF=>?_) (fun hb hF=>?_)
 ·refine A.xl 1 ?_
  refine A.q0 [] [] [.n,.n] [(6,.int .i64 r3)] ?_
  refine A.dx 1 ?_
  obtain rfl:=Option.some.inj hF
  exact A.rt1 [] ⟨rfl,rfl,hr5⟩
 refine A.xl 3 ?_
 refine A.q0 [3] [] [.b 0 0] [(14,.agg #[.int .i64 a2.1,.string a2.2])] ?_
 obtain⟨r6,hv7,hF⟩:=A.bd_some hF
 refine A.AL.call 44 [] (first:=[]) (cap:=[]) cf51 (rec_Check_ok (a2.1,a2.2) h4_ h5_ r6 hv7) (.s 0 (.s 1 .nil)) ?_
 rintro _ _ ⟨rfl,rfl,hr8⟩
 refine⟨by kernel_rfl,?_⟩
 refine A.q0 [] [] [.n] [(6,.int .i64 r6)] ?_
 refine A.dx 1 ?_
 obtain rfl:=Option.some.inj hF
 exact A.rt1 [] ⟨rfl,rfl,hr8⟩
end Go.Proofs.YtfpemeeadiigcaaDoor
end
section
set_option linter.unusedVariables false
set_option linter.unusedSimpArgs false
namespace Go.A
open Go.RowKit Go.Z
def SeqUk (P:Program)(gf:FuncId)(cap:List Value)(N:Nat)(E:Nat→Nat→World→World→List Value→Prop)(D0:World→Prop)(Dat:Nat→Nat→World→Prop):Prop:=
 ∀(lid:Nat) (w:World) (J0:World→Prop) (J:Nat→Nat→World→Prop) (Jx:World→Prop),(∀W W',J0 W→Ch [] W W'→J0 W')→(∀g k W W',J g k W→Ch [g] W W'→J g k W')→(∀W W',Jx W→Ch [] W W'→Jx W')→
  (∀W,J0 W→D0 W)→(∀g W W',J0 W→Ch [] W W'→W.heap.size≤g→g<W'.heap.size→J g 0 W')→(∀g k W,J g k W→Dat g k W)→J0 w→
  (∀g k W0 W args,k<N→J g k W0→Ch [g] W0 W→E g k W0 W args→YieldAt (FW none) 0 P lid args.toArray W fun e W'=>(e=.returned (.bool true)∧J g (k+1) W'∧W'.heap[g]?=W.heap[g]?)∨(e=.returned (.bool false)∧Jx W'))→
  Calls P gf (.func (.yield lid) #[] #[]::cap).toArray w fun e W'=>e=.returned (.tuple #[])∧((∃g,J g N W')∨Jx W')
section
variable {P:Program}{Q:Exit→Act→World→Prop}{a:Act}{w:World}{n:Nat}{ds:List Deferred}{l:List (Nat×Value)}
theorem rangeKU {g:Operand}{ps:List Nat}{assign body:Code}{gf:FuncId}{cap:List Value}(hf:Fr a n ds l)(hg:ev l g=some (.func (.func gf) #[] cap.toArray))
  (hcf: ∀args w,(callFunc gf args).run P w=.ok (.enter gf args) w) (N:Nat) (E:Nat→Nat→World→World→List Value→Prop) (D0:World→Prop) (Dat:Nat→Nat→World→Prop) (I0:World→Prop) (I:Nat→Nat→World→Prop) (X:Exit→World→Prop) (hseq:SeqUk P gf cap N E D0 Dat)
  (hlen: ∀g k W0 W args,E g k W0 W args→args.length=ps.length) (hps: ∀p,p∈ps→p<n)
  (hI0: ∀W1,(∃W',Ch [] w W'∧W'.heap.size=w.heap.size+1∧Dfr W' w.heap.size∧Ch [] W' W1∧W1.heap.size=W'.heap.size+1)→(∃o,W1.heap[w.heap.size+1]?=some o)→I0 W1)
  (hst0: ∀W W',I0 W→Ch [w.heap.size+1] W W'→I0 W') (hst: ∀g k W W',w.heap.size+1<g→I g k W→Ch [w.heap.size+1] W W'→I g k W') (hsg: ∀g k W W',w.heap.size+1<g→I g k W→Ch [g] W W'→I g k W') (hcv: ∀g W W',I0 W→Ch [] W W'→W.heap.size≤g→g<W'.heap.size→I g 0 W') (hxt: ∀e W W',X e W→Ch [w.heap.size+1] W W'→X e W') (hdat0: ∀W,I0 W→D0 W) (hdat: ∀g k W,w.heap.size+1<g→I g k W→Dat g k W)
  (hround: ∀g k W0 W args a o,k<N→w.heap.size+1<g→g<W.heap.size→I g k W0→Ch [g] W0 W→w.heap.size+1<W0.heap.size→E g k W0 W args→args.length=ps.length→W.heap[w.heap.size+1]?=some o→Dfr W w.heap.size→Fr a n [] (bindl ps args l)→
   WP (some (w.heap.size+1)) P assign (fun e a1 W1=>e=.normal∧W1.heap[w.heap.size+1]?=some o∧Dfr W1 w.heap.size∧∀W2 o2,Ch [w.heap.size+1] W1 W2→W2.heap[w.heap.size+1]?=some o2→Dfr W2 w.heap.size→
    WP (some (w.heap.size+1)) P body (RQ w.heap.size (w.heap.size+1) o2 (fun k W'=>I g k W'∧W'.heap[g]?=W.heap[g]?) X k) a1 W2) a W)
  (hdone: ∀g W a',w.heap.size+1<g→I g N W→Dfr W w.heap.size→Fr a' n (mkD w.heap.size::ds) l→Q .normal a' W)
  (hret: ∀W a',X .ret W→Dfr W w.heap.size→Fr a' n (mkD w.heap.size::ds) l→Q .ret a' W)
  (hexit: ∀id W a',X (.exit id) W→Dfr W w.heap.size→Fr a' n (mkD w.heap.size::ds) l→Q (.exit id) a' W):WP none P (Code.rangeFunc g ps.toArray assign body) Q a w:=by
 refine wpIn_rangeFunc fun fn hfn=>?_
 obtain⟨rec,hrec⟩: ∃rec:LoopState→Option Code→Loop,rec=fun st pe=>{state:=st,pending:=pe,fn,tmps:=a.tmps,params:=ps.toArray,assign,body,defers:=w.heap.size}:=⟨_,rfl⟩
 obtain⟨W1,hW1⟩: ∃W1,(w.alloc (.deferred (some []))).alloc (.loop (rec .ready none))=W1:=⟨_,rfl⟩
 have hL1:W1.heap[w.heap.size+1]?=some (.loop (rec .ready none)):=by
  rw[←hW1];have:=World.alloc_heap_new (w.alloc (.deferred (some []))) (.loop (rec .ready none));rwa[World.size_alloc]at this
 have hK1:Dfr W1 w.heap.size:=by
  rw[←hW1];exact(Below.heap_alloc _ _ _ (by simp)).trans (World.alloc_heap_new w _)
 have up: ∀{W W':World},Ch [] W W'→Ch [w.heap.size+1] W W':=fun h=>h.mono (by simp)
 have hI1:I0 W1:=hI0 W1 ⟨_,Ch.alloc w _,World.size_alloc ..,World.alloc_heap_new w _,by rw[←hW1];exact Ch.alloc _ _,by rw[←hW1];exact World.size_alloc ..⟩ ⟨_,hL1⟩
 have hfr:a.eval g=.func (.func gf) #[] cap.toArray:=hf.eval hg
 have hcall:=hseq (w.heap.size+1) W1
  (fun W=>I0 W∧W.heap[w.heap.size+1]?=some (.loop (rec .ready none))∧Dfr W w.heap.size)
  (fun g k W=>I g k W∧(w.heap.size+1<g∧g<W.heap.size)∧W.heap[w.heap.size+1]?=some (.loop (rec .ready none))∧Dfr W w.heap.size)
  (fun W=>∃e c,X e W∧((e=.ret∧c=Code.ret)∨∃id,e=.exit id∧c=Code.exit id)∧W.heap[w.heap.size+1]?=some (.loop (rec .done (some c)))∧Dfr W w.heap.size)
  (fun W W' ⟨h1,h2,h3⟩ hc=>⟨hst0 W W' h1 (up hc),(hc.block _ (Array.getElem?_eq_some_iff.1 h2).1 (by simp)).trans h2,h3.ch hc (by simp)⟩)
  (fun g k W W' ⟨h1,h0,h2,h3⟩ hc=>⟨hsg g k W W' h0.1 h1 hc,⟨h0.1,Nat.lt_of_lt_of_le h0.2 hc.size⟩,(hc.block _ (Array.getElem?_eq_some_iff.1 h2).1 (by simp;omega)).trans h2,h3.ch hc (by simp;omega)⟩)
  (fun W W' ⟨e,c,h1,h0,h2,h3⟩ hc=>⟨e,c,hxt e W W' h1 (up hc),h0,(hc.block _ (Array.getElem?_eq_some_iff.1 h2).1 (by simp)).trans h2,h3.ch hc (by simp)⟩)
  (fun W h=>hdat0 W h.1) (fun g W W' ⟨h1,h2,h3⟩ hc hg hg'=>⟨hcv g W W' h1 hc hg hg',⟨Nat.lt_of_lt_of_le (Array.getElem?_eq_some_iff.1 h2).1 hg,hg'⟩,(hc.block _ (Array.getElem?_eq_some_iff.1 h2).1 (by simp)).trans h2,h3.ch hc (by simp)⟩) (fun g k W h=>hdat g k W h.2.1.1 h.1) ⟨hI1,hL1,hK1⟩ ?_
 ·refine⟨w.heap.size+1,[mkD w.heap.size],W1,{target:=.fn (.func gf) cap.toArray,args:=#[.func (.yield (w.heap.size+1)) #[] #[]]},W1,gf,
   (.func (.yield (w.heap.size+1)) #[] #[]::cap).toArray,W1,?_,?_,fun _ _=>trivial,?_,(fun h=>by cases h),(callsFW hcall).mono ?_⟩
  ·rw[←hW1,hrec];exact run_enterLoop_outer _ _ _ _ _
  ·simp only[resolve,hfr]
   simp[go_sem]
  ·simp[invoke,go_sem,hcf]
  ·have fin: ∀(W:World) (st:LoopState) (pe:Option Code),W.heap[w.heap.size+1]?=some (.loop (rec st pe))→st≠ .busy→Dfr W w.heap.size→
     ∃W',(Instr.endLoop (w.heap.size+1)).run P W=.ok pe W'∧Ch [w.heap.size+1] W W'∧Dfr W' w.heap.size:=fun W st pe hl hb hk=>by
    have:=run_endLoop (P:=P) hl (by rw[hrec];exact hb)
    rw[hrec]at this
    exact⟨_,this,Ch.putObj _ _ _,hk.ch (Ch.putObj _ _ _) (by simp)⟩
   rintro e W ⟨rfl,⟨g,h1,h0,h2,h3⟩|⟨e,c,h1,h0,h2,h3⟩⟩
   ·obtain⟨W',hr,hc,hk⟩:=fin W .ready none h2 (by simp) h3
    exact⟨none,W',hr,hdone g W' _ h0.1 (hst g N W W' h0.1 h1 hc) hk ⟨hf.size,by show [mkD w.heap.size]++a.defers=_;rw[hf.defs];rfl,hf.get⟩⟩
   ·obtain⟨W',hr,hc,hk⟩:=fin W .done (some c) h2 (by simp) h3
    have hfr':Fr {a with defers:=[mkD w.heap.size]++a.defers} n (mkD w.heap.size::ds) l:=⟨hf.size,by show [mkD w.heap.size]++a.defers=_;rw[hf.defs];rfl,hf.get⟩
    refine⟨some c,W',hr,?_⟩
    rcases h0 with⟨rfl,rfl⟩|⟨id,rfl,rfl⟩
    ·exact wpIn_ret (hret W' _ (hxt _ W W' h1 hc) hk hfr')
    ·exact wpIn_exit (hexit id W' _ (hxt _ W W' h1 hc) hk hfr')
 ·rintro g k W0 W args hk ⟨h1,h0,h2,h3⟩ hc hEk
  have hlt:w.heap.size+1<W0.heap.size:=(Array.getElem?_eq_some_iff.1 h2).1
  have hl:W.heap[w.heap.size+1]?=some (.loop (rec .ready none)):=(hc.block _ hlt (by have:=h0.1;simp;omega)).trans h2
  have hkk:Dfr W w.heap.size:=h3.ch hc (by have:=h0.1;simp;omega)
  have hlen':=hlen g k W0 W args hEk
  have hy:=run_yield (P:=P) (args:=args.toArray) hl (by rw[hrec];simpa using hlen')
  refine⟨fn,_,assign,body,by rw[hrec]at hy;exact hy,roundIn_of_wpIn hfn ?_⟩
  have hfr0:Fr ⟨(ps.zip args).foldl (fun t (p,v)=>t.setIfInBounds p v) a.tmps,[]⟩ n [] (bindl ps args l):=bind_fr ps args hps ⟨hf.size,rfl,hf.get⟩
  have hzip:((rec .ready none).params.zip args.toArray).foldl (fun t (p,v)=>t.setIfInBounds p v) (rec .ready none).tmps=(ps.zip args).foldl (fun t (p,v)=>t.setIfInBounds p v) a.tmps:=by
   rw[hrec];simp
  rw[hrec]at hzip
  simp only at hzip
  rw[hzip]
  refine wpIn_mono (hround g k W0 W args _ _ hk h0.1 (Nat.lt_of_lt_of_le h0.2 hc.size) h1 hc hlt hEk hlen' hl hkk hfr0) ?_
  rintro e a1 W' ⟨rfl,hl',hk',hbody⟩
  refine⟨_,run_beginRound hl' (by rw[hrec]),?_⟩
  have hltW:w.heap.size+1<W'.heap.size:=(Array.getElem?_eq_some_iff.1 hl').1
  have hc2:Ch [w.heap.size+1] W' (W'.putObj (w.heap.size+1) (.loop {rec .ready none with state:=.busy})):=Ch.putObj _ _ _
  have hl2:(W'.putObj (w.heap.size+1) (.loop {rec .ready none with state:=.busy})).heap[w.heap.size+1]?=some (.loop {rec .ready none with state:=.busy}):=World.putObj_heap_same hltW
  have hk2:=hk'.ch hc2 (by simp)
  refine wpIn_mono (hbody _ _ hc2 hl2 hk2) ?_
  have fin: ∀(jump:Option Code) (W3:World),W3.heap[w.heap.size+1]?=some (.loop {rec .ready none with state:=.busy})→Dfr W3 w.heap.size→
    ∃W4,(Instr.endRound (w.heap.size+1) jump).run P W3=.ok (.bool jump.isNone) W4∧Ch [w.heap.size+1] W3 W4∧W4.heap[w.heap.size+1]?=some (.loop (rec (if jump.isNone then .ready else .done) jump))∧Dfr W4 w.heap.size:=fun jump W3 hl3 hk3=>by
   have hend:=run_endRound (P:=P) jump hl3
   rw[hrec]at hend ⊢
   exact⟨_,hend,Ch.putObj _ _ _,World.putObj_heap_same (Array.getElem?_eq_some_iff.1 hl3).1,hk3.ch (Ch.putObj _ _ _) (by simp)⟩
  rintro e a3 W3 ⟨hl3,hk3,hp⟩
  cases e with
  |normal=>
   obtain⟨W4,hr,hc4,hl4,hk4⟩:=fin none W3 hl3 hk3
   have hg3:g<W3.heap.size:=Classical.byContradiction fun hn=>by
    have h5:=hp.2
    rw[Array.getElem?_eq_none_iff.2 (Nat.le_of_not_lt hn)]at h5
    have:=Array.getElem?_eq_none_iff.1 h5.symm
    have:=Nat.lt_of_lt_of_le h0.2 hc.size
    omega
   refine⟨_,W4,hr,.inl ⟨rfl,⟨hst _ _ _ _ h0.1 hp.1 hc4,⟨h0.1,Nat.lt_of_lt_of_le hg3 hc4.size⟩,hl4,hk4⟩,?_⟩⟩
   rw[hc4.block g hg3 (by have:=h0.1;simp;omega)]
   exact hp.2
  |ret=>
   obtain⟨W4,hr,hc4,hl4,hk4⟩:=fin (some .ret) W3 hl3 hk3
   exact⟨_,W4,hr,.inr ⟨rfl,.ret,.ret,hxt _ _ _ hp hc4,.inl ⟨rfl,rfl⟩,hl4,hk4⟩⟩
  |exit id=>
   obtain⟨W4,hr,hc4,hl4,hk4⟩:=fin (some (.exit id)) W3 hl3 hk3
   exact⟨_,W4,hr,.inr ⟨rfl,.exit id,.exit id,hxt _ _ _ hp hc4,.inr ⟨id,rfl,rfl⟩,hl4,hk4⟩⟩
  |goto t=>exact hp.elim
  |panic ch=>exact hp.elim
  |outgrown=>exact hp.elim
end
def ElU (t:Ty)(ag:List Value→List Value)(xs:List t.den)(Φ:Nat→Nat→World→Nat→Prop):Nat→Nat→World→World→List Value→Prop:=fun g k W0 W args=>
 ∃x cs,xs[k]?=some x∧args=ag cs∧t.rep W (fun b=>Φ g k W0 b∨W0.heap.size≤b) cs x
abbrev kU:Nat:=4711
def SqU (P:Program)(gf:FuncId)(cap:List Value)(Hc:List (Nat×Res))(t:Ty)(ag:List Value→List Value)(xs:List t.den):Prop:=
 ∀(Φ0:World→Nat→Prop) (Φ:Nat→Nat→World→Nat→Prop),SeqUk P gf cap xs.length (ElU t ag xs Φ) (fun W=>Hp ⟨0,[],W,[],Φ0 W⟩ Hc W) (fun g k W=>Hp ⟨0,[],W,[g],Φ g k W⟩ ((kU,.ob g lpT)::Hc) W)
def JU (ku g:Nat)(q:Obj→Prop)(J:Nat→List (Nat×Res)→Prop):Nat→List (Nat×Res)→Prop:=fun k nh=>∃nh0,nh=(ku,.ob g q)::nh0∧J k nh0
theorem Hp.swap {C:Cx}{H:List (Nat×Res)}{w:World}{k j:Nat}{r s:Res}(h:Hp C ((k,r)::(j,s)::H) w)(hn:k≠j):Hp C ((j,s)::(k,r)::H) w:=h.ext fun i=>.inl (by
 rw[hk_cons,hk_cons,hk_cons,hk_cons]
 by_cases h1:j=i
 ·rw[if_pos h1,if_neg (fun e=>hn (e.trans h1.symm)),if_pos h1]
 ·rw[if_neg h1,if_neg h1])
theorem nrf_cons {k j:Nat}{g:Nat}{p:Obj→Prop}{H:List (Nat×Res)}(h:nrf k H=true):nrf k ((j,.ob g p)::H)=true:=by
 unfold nrf at h ⊢;rw[List.all_cons,h];rfl
theorem Hp.ob2 {C:Cx}{H:List (Nat×Res)}{w w':World}{kl ku L g:Nat}{p q:Obj→Prop}{s:Obj→Prop}{o:Obj}(h:Hp C ((kl,.ob L s)::(ku,.ob g p)::H) w)(hn:kl≠ku)(hr:nrf ku H=true)(hc:Ch [g] w w')(ho:w'.heap[g]?=some o)(hq:q o):Hp C ((kl,.ob L s)::(ku,.ob g q)::H) w':=
 ((h.swap hn).ob (nrf_cons hr) hc ho hq).swap (Ne.symm hn)
section
variable {P:Program}{Y:Exit→Act→World→Prop}{K:List Kx}{C:Cx}{l:List (Nat×Value)}{H:List (Nat×Res)}
abbrev HX (kd kl ku D L g:Nat) (p q:Obj→Prop) (nh H:List (Nat×Res)):List (Nat×Res):=HK kd kl D L p ((ku,.ob g q)::nh) H
theorem AX.rgfU {g:Operand}{ps:List Nat}{assign body:Code}{gf:FuncId}{cap:List Value}{Hc:List (Nat×Res)}{t:Ty}{ag:List Value→List Value}{xs:List t.den}
  (kd kl ku kn:Nat) (hs gs bs:List Nat) (J:Nat→List (Nat×Res)→Prop) (nh:List (Nat×Res)) (hcf: ∀args w,(callFunc gf args).run P w=.ok (.enter gf args) w) (hseq:SqU P gf cap Hc t ag xs) (hag: ∀cs,(ag cs).length=ps.length) (hJ0:J 0 nh)
  (hsub: ∀k nh D L u,J k nh→(∃ls,Sub (HX kd kl ku D L u lpT lpT nh (kpH H hs hs)) Hc [] ls∧ls.all (fun k=> !(Nat.beq k ku))=true)∧(nrf kl (hcat nh (kpH H hs hs))&&nrf ku (hcat nh (kpH H hs hs))&&(match hk (hcat nh (kpH H hs hs)) ku with|none=>true|_=>false))=true∧∀o p,nok (kpH (HX kd kl ku D L u (fun x=>x=o) p nh (kpH H hs hs)) [] bs) kn (lv t)=true)
  (hsub0: ∀D L,∃ls,Sub (HK kd kl D L lpT nh (kpH H hs hs)) Hc [] ls)
  (hround: ∀u ou k nh x D L W o,J k nh→xs[k]?=some x→t.ok x→Hp C (HX kd kl ku D L u (fun x=>x=o) (fun x=>x=ou) nh (kpH H hs hs)) W→tele (lv t) fun pl=>
   AX (some L) P (fun _ _ _=>False) [.m (MF P D L o (fun o2=>RQ D L o2 (IK C kd kl D L (JU ku u (fun x=>x=ou) J) (kpH H hs hs)) (XK P Y K C l D L) k) body)] assign
    ⟨C.n,[],W,blks (HX kd kl ku D L u (fun x=>x=o) (fun x=>x=ou) nh (kpH H hs hs)) (mvl (HX kd kl ku D L u (fun x=>x=o) (fun x=>x=ou) nh (kpH H hs hs)) bs),Fh C (HX kd kl ku D L u (fun x=>x=o) (fun x=>x=ou) nh (kpH H hs hs))⟩ (bindl ps (ag (cl t x pl)) l)
    (hcat (kx kn (rs t x pl)) (kpH (HX kd kl ku D L u (fun x=>x=o) (fun x=>x=ou) nh (kpH H hs hs)) [] bs)))
  (hdone: ∀u nh D L,J xs.length nh→AE none P Y K .normal ⟨C.n,mkD D::C.ds,C.w0,C.S,C.F⟩ l (HX kd kl ku D L u lpT lpT nh (kpH H hs hs)))
  (hg:ev l g=some (.func (.func gf) #[] cap.toArray):=by rfl) (hps:ps.all (fun p=>Nat.ble (p+1) C.n)=true:=by rfl) (h0:kpH H gs gs=hcat nh (kpH H hs hs):=by kernel_rfl)
  (hn1:hk (hcat nh (kpH H hs hs)) kd=none:=by kernel_rfl) (hn2:hk (hcat nh (kpH H hs hs)) kl=none:=by kernel_rfl) (hne:Nat.beq kd kl=false:=by rfl) (hne1:Nat.beq kl ku=false:=by rfl) (hne2:Nat.beq kd ku=false:=by rfl) (hbs:nod bs=true:=by rfl) (hHc:nod (kU::Hc.map (·.1))=true:=by rfl):
  AX none P Y K (.rangeFunc g ps.toArray assign body) C l H:=fun a w hf hh=>by
 have hne:kd≠kl:=fun e=>by rw[e,Nat.beq_refl]at hne;cases hne
 have hlu:kl≠ku:=fun e=>by rw[e,Nat.beq_refl]at hne1;cases hne1
 have hdu:kd≠ku:=fun e=>by rw[e,Nat.beq_refl]at hne2;cases hne2
 have hHc0:nod (Hc.map (·.1))=true:=by unfold nod at hHc;rw[Bool.and_eq_true]at hHc;exact hHc.2
 obtain⟨I,hI⟩: ∃I:Nat→Nat→World→Prop,I=fun g k W=>∃nh,J k nh∧Hp C (HX kd kl ku w.heap.size (w.heap.size+1) g lpT lpT nh (kpH H hs hs)) W:=⟨_,rfl⟩
 obtain⟨Φ,hΦ⟩: ∃Φ:Nat→Nat→World→Nat→Prop,Φ=fun g k W b=>∃h:(∃nh,J k nh∧Hp C (HX kd kl ku w.heap.size (w.heap.size+1) g lpT lpT nh (kpH H hs hs)) W),Fh C (HX kd kl ku w.heap.size (w.heap.size+1) g lpT lpT (Classical.choose h) (kpH H hs hs)) b:=⟨_,rfl⟩
 have hΦe: ∀g k W (h: ∃nh,J k nh∧Hp C (HX kd kl ku w.heap.size (w.heap.size+1) g lpT lpT nh (kpH H hs hs)) W),Φ g k W=Fh C (HX kd kl ku w.heap.size (w.heap.size+1) g lpT lpT (Classical.choose h) (kpH H hs hs)):=fun g k W h=>by
  subst hΦ;funext b;exact propext ⟨fun⟨_,h2⟩=>h2,fun h2=>⟨h,h2⟩⟩
 have hch: ∀{k:Nat} {nh:List (Nat×Res)},J k nh→nrf kl (hcat nh (kpH H hs hs))=true∧nrf ku (hcat nh (kpH H hs hs))=true∧hk (hcat nh (kpH H hs hs)) ku=none:=fun h=>by
  have:=(hsub _ _ 0 0 0 h).2.1
  rw[Bool.and_eq_true,Bool.and_eq_true]at this
  refine⟨this.1.1,this.1.2,?_⟩
  have h2:=this.2
  split at h2
  ·assumption
  ·cases h2
 have hlast: ∀{k g D:Nat} {q:Obj→Prop} {nh:List (Nat×Res)},J k nh→nrf kl ((kd,.ob D dfT)::hcat ((ku,.ob g q)::nh) (kpH H hs hs))=true:=fun h=>nrf_cons (nrf_cons (hch h).1)
 have hlast0: ∀{k D:Nat} {nh:List (Nat×Res)},J k nh→nrf kl ((kd,.ob D dfT)::hcat nh (kpH H hs hs))=true:=fun h=>nrf_cons (hch h).1
 have hext: ∀{g D L:Nat} {p q:Obj→Prop} {nh:List (Nat×Res)} {W:World},Hp C (HX kd kl ku D L g p q nh (kpH H hs hs)) W↔Hp C ((kl,.ob L p)::(ku,.ob g q)::(kd,.ob D dfT)::hcat nh (kpH H hs hs)) W:=by
  intro g D L p q nh W
  have e: ∀i,hk (HX kd kl ku D L g p q nh (kpH H hs hs)) i=hk ((kl,.ob L p)::(ku,.ob g q)::(kd,.ob D dfT)::hcat nh (kpH H hs hs)) i:=fun i=>by
   show hk ((kl,.ob L p)::(kd,.ob D dfT)::(ku,.ob g q)::hcat nh (kpH H hs hs)) i=_
   simp only[hk_cons]
   by_cases h1:kl=i
   ·rw[if_pos h1,if_pos h1]
   ·rw[if_neg h1,if_neg h1]
    by_cases h2:kd=i
    ·rw[if_pos h2,if_neg (fun e=>hdu (h2.trans e.symm)),if_pos h2]
    ·rw[if_neg h2,if_neg h2]
  exact⟨fun h=>h.ext fun i=>.inl (e i).symm,fun h=>h.ext fun i=>.inl (e i)⟩
 have htu: ∀{k g D L:Nat} {p q q':Obj→Prop} {nh:List (Nat×Res)} {W W':World} {o:Obj},J k nh→Hp C (HX kd kl ku D L g p q nh (kpH H hs hs)) W→Ch [g] W W'→W'.heap[g]?=some o→q' o→Hp C (HX kd kl ku D L g p q' nh (kpH H hs hs)) W':=fun hJ h hc ho hq=>hext.2 ((hext.1 h).ob2 hlu (nrf_cons (hch hJ).2.1) hc ho hq)
 have hgo: ∀{g D L:Nat} {p q:Obj→Prop} {nh:List (Nat×Res)} {W:World},Hp C (HX kd kl ku D L g p q nh (kpH H hs hs)) W→∃o,W.heap[g]?=some o∧q o:=fun h=>(hext.1 h).hold ku (.ob _ _) (by rw[hk_cons,if_neg hlu,hk_cons,if_pos rfl])
 have hlo: ∀{g D L:Nat} {p q:Obj→Prop} {nh:List (Nat×Res)} {W:World},Hp C (HX kd kl ku D L g p q nh (kpH H hs hs)) W→∃o,W.heap[L]?=some o∧p o:=fun h=>(hext.1 h).hold kl (.ob _ _) (by rw[hk_cons,if_pos rfl])
 have grow: ∀{b:Nat} {o:Obj} {S:List Nat} {W W':World},W.heap[b]?=some o→Ch S W W'→∃o',W'.heap[b]?=some o':=fun ho hc=>⟨_,Array.getElem?_eq_getElem (Nat.lt_of_lt_of_le (Array.getElem?_eq_some_iff.1 ho).1 hc.size)⟩
 refine rangeKU hf hg hcf xs.length _ _ _ (IK C kd kl w.heap.size (w.heap.size+1) (fun _ x=>x=nh) (kpH H hs hs) 0) I (XK P Y K C l w.heap.size (w.heap.size+1)) (hseq (fun W=>Fh C (HK kd kl w.heap.size (w.heap.size+1) lpT nh (kpH H hs hs))) Φ) (fun g k W0 W args ⟨x,cs,_,h2,_⟩=>by rw[h2];exact hag cs) (fun p hp=>Nat.le_of_ble_eq_true (List.all_eq_true.1 hps p hp)) ?_ ?_ ?_ ?_ ?_ ?_ ?_ ?_ ?_ ?_ ?_ ?_
 ·rintro W1 ⟨W',hc1,hz1,hd,hc2,hz2⟩ ⟨o,ho⟩
  refine⟨nh,rfl,?_⟩
  have h1:Hp C (hcat nh (kpH H hs hs)) w:=hh.cov gs h0
  have h2:Hp C ((kd,.ob w.heap.size dfT)::hcat nh (kpH H hs hs)) W':=h1.new hn1 hc1 (fun b hb=>by simp only[Res.bl,List.mem_singleton]at hb;omega) (fun j hj=>by cases hj) fun F B _ _ _=>⟨_,hd,rfl⟩
  refine h2.new (by rw[hk_cons,if_neg hne];exact hn2) hc2 (fun b hb=>by simp only[Res.bl,List.mem_singleton]at hb;omega) (fun j hj=>by cases hj) fun F B _ _ _=>⟨o,ho,trivial⟩
 ·rintro W W' ⟨nh',rfl,hW⟩ hc
  obtain⟨o,ho,_⟩: ∃o,W.heap[w.heap.size+1]?=some o∧lpT o:=hW.hold kl (.ob (w.heap.size+1) lpT) (by rw[hk_cons,if_pos rfl])
  obtain⟨o',ho'⟩:=grow ho hc
  exact⟨nh',rfl,hW.ob (hlast0 hJ0) hc ho' trivial⟩
 ·rintro u k W W' _ hIk hc
  subst hI
  obtain⟨nh',hJ,hW⟩:=hIk
  obtain⟨o,ho,_⟩:=hlo hW
  obtain⟨o',ho'⟩:=grow ho hc
  exact⟨nh',hJ,hW.ob (hlast hJ) hc ho' trivial⟩
 ·rintro u k W W' _ hIk hc
  subst hI
  obtain⟨nh',hJ,hW⟩:=hIk
  obtain⟨o,ho,_⟩:=hgo hW
  obtain⟨o',ho'⟩:=grow ho hc
  exact⟨nh',hJ,htu hJ hW hc ho' trivial⟩
 ·rintro u W W' ⟨nh',rfl,hW⟩ hc hu hu'
  subst hI
  refine⟨nh',hJ0,hext.2 ?_⟩
  have h1:Hp C ((kl,.ob (w.heap.size+1) lpT)::(kd,.ob w.heap.size dfT)::hcat nh' (kpH H hs hs)) W:=hW
  have h2:hk ((kl,.ob (w.heap.size+1) lpT)::(kd,.ob w.heap.size dfT)::hcat nh' (kpH H hs hs)) ku=none:=by
   rw[hk_cons,if_neg hlu,hk_cons,if_neg hdu];exact(hch hJ0).2.2
  exact(h1.new (r':=.ob u lpT) h2 hc (fun b hb=>by simp only[Res.bl,List.mem_singleton]at hb;omega) (fun j hj=>by cases hj) fun F B _ _ _=>⟨_,Array.getElem?_eq_getElem hu',trivial⟩).swap (Ne.symm hlu)
 ·exact fun e W W' h hc W2 hc2=>h W2 (Ch.then (U:=[w.heap.size+1]) hc hc2 (by simp) (by simp))
 ·rintro W ⟨nh',rfl,hW⟩
  obtain⟨ls,hS⟩:=hsub0 w.heap.size (w.heap.size+1)
  exact hS.hp hW hHc0 rfl (by simp)
 ·intro u k W _ h
  subst hI
  show Hp ⟨0,[],W,[u],Φ u k W⟩ _ W
  rw[hΦe u k W h]
  obtain⟨hJ,hW⟩:=Classical.choose_spec h
  obtain⟨ls,hS,hls⟩:=(hsub _ _ w.heap.size (w.heap.size+1) u hJ).1
  have hku:hk (HX kd kl ku w.heap.size (w.heap.size+1) u lpT lpT (Classical.choose h) (kpH H hs hs)) ku=some (.ob u lpT):=by
   rw[hk_cons,if_neg hlu,hk_cons,if_neg hdu]
   show hk ((ku,.ob u lpT)::hcat (Classical.choose h) (kpH H hs hs)) ku=_
   rw[hk_cons,if_pos rfl]
  have h3:=(Sub.m (k0:=kU) ku hS hku rfl).hp hW hHc rfl (by simpa using hls)
  have e:blks (HX kd kl ku w.heap.size (w.heap.size+1) u lpT lpT (Classical.choose h) (kpH H hs hs)) [(kU,ku)]=[u]:=by
   unfold blks;rw[hku];rfl
  rw[e]at h3
  exact h3
 ·intro u k W0 W args a1 o hk1 _ hgW hIk hc hlt ⟨x,cs,hx,hargs,hrep⟩ hlen ho hdf hfr
  subst hI
  rw[hΦe u k W0 hIk]at hrep
  obtain⟨hJ,hW⟩:=Classical.choose_spec hIk
  obtain⟨nh',hnh⟩: ∃nh',nh'=Classical.choose hIk:=⟨_,rfl⟩
  rw[←hnh]at hrep hJ hW
  obtain⟨ou,hou⟩: ∃ou,W.heap[u]?=some ou:=⟨_,Array.getElem?_eq_getElem hgW⟩
  have hWu:Hp C (HX kd kl ku w.heap.size (w.heap.size+1) u lpT (fun x=>x=ou) nh' (kpH H hs hs)) W:=htu hJ hW hc hou rfl
  have hW1:Hp C (HX kd kl ku w.heap.size (w.heap.size+1) u (fun x=>x=o) (fun x=>x=ou) nh' (kpH H hs hs)) W:=hWu.ob (hlast hJ) (Ch.refl' _ _) ho rfl
  have hb:=(sub_mvl (HX kd kl ku w.heap.size (w.heap.size+1) u (fun x=>x=o) (fun x=>x=ou) nh' (kpH H hs hs)) bs).hp hW1 (nod_nodup.2 ((kpH_sub _ _ bs).nodup (nod_nodup.1 hbs))) (nod_nodup.2 ((mvl_sub _ bs).nodup (nod_nodup.1 hbs))) (by simp)
  have hpq: ∀j b,Bk (HX kd kl ku w.heap.size (w.heap.size+1) u (fun x=>x=o) (fun x=>x=ou) nh' (kpH H hs hs)) j b→Bk (HX kd kl ku w.heap.size (w.heap.size+1) u lpT lpT nh' (kpH H hs hs)) j b:=fun j b ⟨r,h1,h2⟩=>by
   have h1':hk ((kl,.ob (w.heap.size+1) (fun x=>x=o))::(kd,.ob w.heap.size dfT)::(ku,.ob u (fun x=>x=ou))::hcat nh' (kpH H hs hs)) j=some r:=h1
   show Bk ((kl,.ob (w.heap.size+1) lpT)::(kd,.ob w.heap.size dfT)::(ku,.ob u lpT)::hcat nh' (kpH H hs hs)) j b
   unfold Bk
   simp only[hk_cons]at h1' ⊢
   by_cases e1:kl=j
   ·rw[if_pos e1]at h1' ⊢
    injection h1' with h1';subst h1'
    exact⟨_,rfl,h2⟩
   ·rw[if_neg e1]at h1' ⊢
    by_cases e2:kd=j
    ·rw[if_pos e2]at h1' ⊢
     exact⟨r,h1',h2⟩
    ·rw[if_neg e2]at h1' ⊢
     by_cases e3:ku=j
     ·rw[if_pos e3]at h1' ⊢
      injection h1' with h1';subst h1'
      exact⟨_,rfl,h2⟩
     ·rw[if_neg e3]at h1' ⊢
      exact⟨r,h1',h2⟩
  have hrep2:t.rep W (Fh ⟨C.n,[],W,blks (HX kd kl ku w.heap.size (w.heap.size+1) u (fun x=>x=o) (fun x=>x=ou) nh' (kpH H hs hs)) (mvl (HX kd kl ku w.heap.size (w.heap.size+1) u (fun x=>x=o) (fun x=>x=ou) nh' (kpH H hs hs)) bs),Fh C (HX kd kl ku w.heap.size (w.heap.size+1) u (fun x=>x=o) (fun x=>x=ou) nh' (kpH H hs hs))⟩ (kpH (HX kd kl ku w.heap.size (w.heap.size+1) u (fun x=>x=o) (fun x=>x=ou) nh' (kpH H hs hs)) [] bs)) cs x:=by
   have hnb: ∀b,(∀j,¬Bk (HX kd kl ku w.heap.size (w.heap.size+1) u (fun x=>x=o) (fun x=>x=ou) nh' (kpH H hs hs)) j b)→∀j,¬Bk (kpH (HX kd kl ku w.heap.size (w.heap.size+1) u (fun x=>x=o) (fun x=>x=ou) nh' (kpH H hs hs)) [] bs) j b:=fun b hB j ⟨r,h1,h2⟩=>hB j ⟨r,(hk_kpH h1).1,h2⟩
   refine rep_to hrep (S:=[]) (Ch.refl W) fun b hb hl=>⟨by simp,?_⟩
   have:Fh C (HX kd kl ku w.heap.size (w.heap.size+1) u (fun x=>x=o) (fun x=>x=ou) nh' (kpH H hs hs)) b:=by
    rcases hb with hb|hb
    ·exact⟨fun j hj=>hb.1 j (hpq j b hj),hb.2⟩
    ·exact⟨fun j hj=>by have:=(hW.bnd j b (hpq j b hj)).2;omega,.inr (.inl (Nat.le_trans hW.ch.size hb))⟩
   exact⟨hnb b this.1,.inl this⟩
  obtain⟨pl,hpl,hcs,hb2⟩:=put_dat hb.nds hrep2 kn ((hsub _ _ w.heap.size (w.heap.size+1) u hJ).2.2 o _)
  subst hcs
  rw[hargs]at hfr
  refine wpIn_mono (tele_at (hround u ou k nh' x w.heap.size (w.heap.size+1) W o hJ hx (rep_ok t hrep) hW1) pl hpl a1 W hfr hb2) fun e a2 W2 he=>?_
  cases e with
  |normal=>
   obtain⟨h1,h2,h3⟩:=he
   refine⟨rfl,h1,h2,fun W3 o2 hc3 ho3 hd3=>wpIn_mono (h3 W3 o2 hc3 ho3 hd3) fun e a4 W4 he4=>?_⟩
   obtain⟨h5,h6,h7⟩:=he4
   refine⟨h5,h6,?_⟩
   cases e with
   |normal=>
    obtain⟨nh2,⟨nh3,rfl,hJ3⟩,h8⟩:=h7
    obtain⟨o9,ho9,rfl⟩:=hgo (q:=fun x=>x=ou) h8
    exact⟨⟨nh3,hJ3,htu (q:=fun x=>x=o9) hJ3 h8 (Ch.refl' _ _) ho9 trivial⟩,ho9.trans hou.symm⟩
   |_=>exact h7
  |_=>exact False.elim he
 ·rintro u W a' _ hIk hd hf'
  subst hI
  obtain⟨nh',hJ,hW⟩:=hIk
  exact hdone u nh' _ _ hJ a' W hf' hW.nds
 ·exact fun W a' hX hd hf'=>hX W (Ch.refl' _ _) a' hf'
 ·exact fun id W a' hX hd hf'=>hX W (Ch.refl' _ _) a' hf'
end
structure YlU (P:Program) (lid:Nat) (J0:World→Prop) (J:Nat→Nat→World→Prop) (Jx:World→Prop) (Φ0:World→Nat→Prop) (Φ:Nat→Nat→World→Nat→Prop) (Hc:List (Nat×Res)) (t:Ty) (ag:List Value→List Value) (xs:List t.den):Prop where
 js0: ∀W W',J0 W→Ch [] W W'→J0 W'
 js: ∀g k W W',J g k W→Ch [g] W W'→J g k W'
 jx: ∀W W',Jx W→Ch [] W W'→Jx W'
 dat0: ∀W,J0 W→Hp ⟨0,[],W,[],Φ0 W⟩ Hc W
 cv: ∀g W W',J0 W→Ch [] W W'→W.heap.size≤g→g<W'.heap.size→J g 0 W'
 dat: ∀g k W,J g k W→Hp ⟨0,[],W,[g],Φ g k W⟩ ((kU,.ob g lpT)::Hc) W
 y: ∀g k W0 W args,k<xs.length→J g k W0→Ch [g] W0 W→ElU t ag xs Φ g k W0 W args→YieldAt (FW none) 0 P lid args.toArray W fun e W'=>(e=.returned (.bool true)∧J g (k+1) W'∧W'.heap[g]?=W.heap[g]?)∨(e=.returned (.bool false)∧Jx W')
abbrev CY0 (n:Nat) (Φ0:World→Nat→Prop) (w:World):Cx:=⟨n,[],w,[],Φ0 w⟩
abbrev CYU (n g:Nat) (Φ:Nat→Nat→World→Nat→Prop) (i:Nat×World):Cx:=⟨n,[],i.2,[g],Φ g i.1 i.2⟩
section
variable {P:Program}{lid:Nat}{J0:World→Prop}{J:Nat→Nat→World→Prop}{Jx:World→Prop}{Φ0:World→Nat→Prop}{Φ:Nat→Nat→World→Nat→Prop}{Hc:List (Nat×Res)}{t:Ty}{ag:List Value→List Value}{xs:List t.den}{n:Nat}
theorem SqU.enter {gf:FuncId}{fn:Func}{c:Code}{cap:List Value}(hf:P.funcs[gf]?=some fn)(hb:fn.body=some c)(hn:fn.ntmps=n)(hm:Nat.ble (cap.length+1) n=true)
  (h: ∀lid w J0 J Jx Φ0 Φ,YlU P lid J0 J Jx Φ0 Φ Hc t ag xs→J0 w→AX none P (bodyPost P fn fun e W'=>e=.returned (.tuple #[])∧((∃g,J g xs.length W')∨Jx W')) [] c (CY0 n Φ0 w) (argl (.func (.yield lid) #[] #[]::cap) 0) Hc):SqU P gf cap Hc t ag xs:=fun Φ0 Φ lid w J0 J Jx h1 h2 h3 h4 h5 h6 h7 h8=>
 Z.enter hf hb hn (Nat.le_of_ble_eq_true hm) fun a hf'=>h lid w J0 J Jx Φ0 Φ ⟨h1,h2,h3,h4,h5,h6,h8⟩ h7 a w hf' (h4 w h7).nds
theorem Hp.turn {C:Cx}{H:List (Nat×Res)}{w:World}{k g p:Nat}{s:ByteArray}{q:Obj→Prop}(h:Hp C ((k,.ob g q)::H) w)(hs:Si w g s p)(hr:nrf k H=true):Hp C ((k,.si g s p)::H) w:=by
 have h1:Hp C ((k,.si g s p)::drp k ((k,.ob g q)::H)) w:=h.upd (Ch.refl w) (fun b hb=>by cases hb) (fun b hb=>.inl (Bk.cons_eq.2 hb)) (fun j hj=>by cases hj) fun _ _ _ _ _ _ _=>hs
 refine h1.ext fun j=>.inl ?_
 rw[hk_cons,hk_cons]
 by_cases e:k=j
 ·rw[if_pos e,if_pos e]
 ·rw[if_neg e,if_neg e,hk_drp_eq,hk_cons,if_neg e]
  cases hj:hk H j with
  |none=>rfl
  |some v=>
   have:=nrf_spec hr hj
   cases hv:v.ref with
   |none=>simp[rin,hv]
   |some i=>
    have hi:i≠k:=fun e=>this (by rw[hv,e])
    have hb:Nat.beq i k=false:=by cases hb:Nat.beq i k with
     |false=>rfl
     |true=>exact absurd (Nat.eq_of_beq_eq_true hb) hi
    simp[rin,hv,hb]
theorem AL.rgsU {ops:Array Oper}{Q:Exit→Act→World→Prop}{rest:List Oper}{l:List (Nat×Value)}{H:List (Nat×Res)}{d:Nat}{T:TypeId}{pos:String}{af:Array Edge}{w0:World}{tt:TypeId}{x:Operand}{s:ByteArray}(hY:YlU P lid J0 J Jx Φ0 Φ Hc t ag xs)(hJ:J0 w0)
  (h: ∀g w',J g 0 w'→AL none P ops Q rest (CYU n g Φ (0,w')) ((d,.pointer (some ⟨g,0,none⟩))::l) ((kU,.si g s 0)::Hc))
  (ht:P.underlying tt=some .string:=by rfl) (hx:ev l x=some (.string s):=by rfl) (hd:Nat.ble (d+1) n=true:=by rfl) (hr:nrf kU Hc=true:=by kernel_rfl):AL none P ops Q (⟨some d,.range tt x,T,pos,af,none⟩::rest) (CY0 n Φ0 w0) l H:=fun a w hf hh=>
 Z.st_rangeStr hf hd ht hx fun g w' a' hg hs hb hch hf'=>by
  have hJ':J g 0 w':=hY.cv g w w' (hY.js0 _ _ hJ hh.ch) hch (by omega) hb.lt
  exact h g w' hJ' a' w' hf' ((hY.dat g 0 w' hJ').turn hb hr).nds
theorem AL.yieldU {ops:Array Oper}{Q:Exit→Act→World→Prop}{rest:List Oper}{l:List (Nat×Value)}{H:List (Nat×Res)}{d:Nat}{T:TypeId}{pos:String}{af:Array Edge}{c:Operand}{ass:List Operand}{ts:Array TypeId}{vs:List Value}{g k p:Nat}{w0:World}{s:ByteArray}{x:t.den}{rs:List t.den}
  (hY:YlU P lid J0 J Jx Φ0 Φ Hc t ag xs) (hJ:J g k w0) (hR:Rem xs k (x::rs)) (cs:List Value) (hD:Dat H t cs x)
  (ht: ∀w',J g (k+1) w'→Rem xs (k+1) rs→AL none P ops Q rest (CYU n g Φ (k+1,w')) ((d,.bool true)::l) ((kU,.si g s p)::Hc))
  (he: ∀w',Jx w'→AL none P ops Q rest ⟨n,[],w',[],no⟩ ((d,.bool false)::l) [])
  (hsi:hk H kU=some (.si g s p):=by rfl) (hr:nrf kU Hc=true:=by kernel_rfl)
  (hc:ev l c=some (.func (.yield lid) #[] #[]):=by rfl) (hx:evs l ass=some vs:=by rfl) (hv:ag cs=vs:=by rfl) (hd:Nat.ble (d+1) n=true:=by rfl):
  AL none P ops Q (⟨some d,.call {callee:=.value c,args:=ass.toArray,argTypes:=ts},T,pos,af,none⟩::rest) (CYU n g Φ (k,w0)) l H:=fun a w hf hh=>by
 subst hv
 have hlt:k<xs.length:=(List.getElem?_eq_some_iff.1 hR.at).1
 have hs:Si w g s p:=hh.hold kU _ hsi
 refine callY hf hd hc hx (hY.y g k w0 w _ hlt hJ hh.ch ⟨x,cs,hR.at,rfl,rep_as (Dat.rep hh t hD) fun b hb hl=>?_⟩) ?_
 ·rcases hb.2 with h1|h1|h1
  ·exact .inl h1
  ·exact .inr h1
  ·exact absurd (show Bk H kU b from⟨_,hsi,h1⟩) (hb.1 kU)
 ·rintro e w' (⟨rfl,h1,h2⟩|⟨rfl,h1⟩)
  ·exact⟨_,rfl,fun a' hf'=>ht w' h1 hR.next a' w' hf' ((hY.dat _ _ _ h1).turn (show Si w' g s p from h2.trans hs) hr).nds⟩
  ·exact⟨_,rfl,fun a' hf'=>he w' h1 a' w' hf' ⟨Ch.refl' _ _,fun k r h=>(by cases h),fun k b ⟨_,h,_⟩=>(by cases h),fun k k' b ⟨_,h,_⟩=>(by cases h),fun k r j h=>(by cases h)⟩⟩
theorem AX.rtYU {fn:Func}{K:List Kx}{l:List (Nat×Value)}{H:List (Nat×Res)}{g k:Nat}{w0:World}(hY:YlU P lid J0 J Jx Φ0 Φ Hc t ag xs)(hJ:J g k w0)(hR:Rem xs k [])(h:fn.results=#[]:=by rfl):AX none P (bodyPost P fn fun e W'=>e=.returned (.tuple #[])∧((∃g,J g xs.length W')∨Jx W')) K .ret (CYU n g Φ (k,w0)) l H:=AX.ret0 fun a w hf hh=>
 Z.retv hf (Z.res0 h w) ⟨rfl,.inl ⟨g,hR.nil▸hY.js _ _ _ _ hJ hh.ch⟩⟩
theorem AE.rtYU {fn:Func}{l:List (Nat×Value)}{H:List (Nat×Res)}{g k:Nat}{w0:World}(hY:YlU P lid J0 J Jx Φ0 Φ Hc t ag xs)(hJ:J g k w0)(hR:Rem xs k [])(h:fn.results=#[]:=by rfl):AE none P (bodyPost P fn fun e W'=>e=.returned (.tuple #[])∧((∃g,J g xs.length W')∨Jx W')) [] .normal (CYU n g Φ (k,w0)) l H:=fun a w hf hh=>
 Z.endv hf (Z.res0 h w) ⟨rfl,.inl ⟨g,hR.nil▸hY.js _ _ _ _ hJ hh.ch⟩⟩
theorem AX.rtXU {fn:Func}{K:List Kx}{l:List (Nat×Value)}{H:List (Nat×Res)}{w0:World}{F:Nat→Prop}(hY:YlU P lid J0 J Jx Φ0 Φ Hc t ag xs)(hJ:Jx w0)(h:fn.results=#[]:=by rfl):AX none P (bodyPost P fn fun e W'=>e=.returned (.tuple #[])∧((∃g,J g xs.length W')∨Jx W')) K .ret ⟨n,[],w0,[],F⟩ l H:=AX.ret0 fun a w hf hh=>
 Z.retv hf (Z.res0 h w) ⟨rfl,.inr (hY.jx _ _ hJ hh.ch)⟩
theorem AE.rtXU {fn:Func}{l:List (Nat×Value)}{H:List (Nat×Res)}{w0:World}{F:Nat→Prop}(hY:YlU P lid J0 J Jx Φ0 Φ Hc t ag xs)(hJ:Jx w0)(h:fn.results=#[]:=by rfl):AE none P (bodyPost P fn fun e W'=>e=.returned (.tuple #[])∧((∃g,J g xs.length W')∨Jx W')) [] .normal ⟨n,[],w0,[],F⟩ l H:=fun a w hf hh=>
 Z.endv hf (Z.res0 h w) ⟨rfl,.inr (hY.jx _ _ hJ hh.ch)⟩
end
end Go.A
end
section
set_option linter.unusedVariables false
set_option linter.unusedSimpArgs false
namespace Go.A
open Go.RowKit Go.Z
theorem cat_le {s u:ByteArray}(h:s.size+u.size≤9223372036854775807):(s++u).size≤maxLen:=by
 rw[ByteArray.size_append];simpa[maxLen] using h
theorem si_has {p:Nat}{s:ByteArray}(h:p<s.size)(hs:s.size≤maxLen):IntKind.i64.has (p:Int):=has_nat (by omega)
theorem le_max {n:Nat}(h:n≤9223372036854775807):n≤maxLen:=by simpa[maxLen] using h
theorem mk_le {xs:List UInt8}(h:xs.length≤maxLen):(ByteArray.mk xs.toArray).size≤maxLen:=by simpa[ByteArray.size] using h
def b8 (x:Int):UInt8:=UInt8.ofNat (x%256).toNat
theorem b8_wrap (x:Int):IntKind.u8.wrap x=((b8 x).toNat:Int):=by
 have h1:=Int.emod_nonneg x (show(256:Int)≠0 by decide)
 have h2:=Int.emod_lt_of_pos x (show(0:Int)<256 by decide)
 have h3:IntKind.u8.wrap x=x%256:=by simp[IntKind.wrap,IntKind.bits,IntKind.signed]
 have h4:(b8 x).toNat=(x%256).toNat:=by
  unfold b8
  rw[UInt8.toNat_ofNat']
  omega
 rw[h3,h4];omega
def Bs (e:TypeId)(c:Nat)(xs:List UInt8):Obj→Prop:=fun o=>∃cur:Array Value,o=.cells cur e (cur.size,cur.size+1)∧cur.size=c∧c≤maxLen∧xs.length≤c∧∀(j:Nat) (b:UInt8),xs[j]?=some b→cur[j]?=some (.int .u8 (b.toNat:Int))
theorem Bs.cell {w:World}{g:Nat}{e:TypeId}{c:Nat}{xs:List UInt8}{o:Obj}(ho:w.heap[g]?=some o)(h:Bs e c xs o){j:Nat}{b:UInt8}(hj:xs[j]?=some b):w.cell? ⟨g,j,none⟩=some (.int .u8 (b.toNat:Int)):=by
 obtain⟨cur,rfl,_,_,_,h5⟩:=h
 rw[cell_of_row w g j cur e _ ho]
 exact h5 j b hj
section
variable {r:Option Nat}{P:Program}{ops:Array Oper}{Q:Exit→Act→World→Prop}{rest:List Oper}{C:Cx}{l:List (Nat×Value)}{H:List (Nat×Res)}{d:Nat}{T:TypeId}{pos:String}{af:Array Edge}
theorem okB {X:Act→World→Prop}(k:Nat){g:Nat}{e:TypeId}{c:Nat}{xs:List UInt8}(h:xs.length≤maxLen→∀a w,Fr a C.n C.ds l→Hp C H w→X a w)(hk1:hk H k=some (.ob g (Bs e c xs)):=by rfl): ∀a w,Fr a C.n C.ds l→Hp C H w→X a w:=fun a w hf hh=>by
 obtain⟨o,ho,hb⟩: ∃o,w.heap[g]?=some o∧Bs e c xs o:=hh.hold k _ hk1
 obtain⟨cur,_,_,h3,h4,_⟩:=hb
 exact h (Nat.le_trans h4 h3) a w hf hh
theorem AL.cvb (k:Nat){src dst e:TypeId}{x:Operand}{s:ByteArray}(hs:s.size≤maxLen)(h: ∀g c,AL r P ops Q rest C ((d,.slice (some ⟨g,0,none⟩) s.data.toList.length c)::l) ((k,.ob g (Bs e c s.data.toList))::H))
  (h1:P.underlying src=some .string:=by rfl) (h2:P.underlying dst=some (.slice e):=by rfl) (h3:P.underlying e=some (.int .u8):=by rfl) (hx:ev l x=some (.string s):=by rfl) (hd:Nat.ble (d+1) C.n=true:=by rfl) (hn:hk H k=none:=by kernel_rfl):
  AL r P ops Q (⟨some d,.convert src dst x,T,pos,af,none⟩::rest) C l H:=fun a w hf hh=>by
 have hge:=grownCap_ge w s.size 0 e
 have hcm:grownCap w s.size 0 e≤maxLen:=grownCap_le_maxLen w s.size 0 e hs
 have hsz:(bytesRow s (grownCap w s.size 0 e)).size=grownCap w s.size 0 e:=by
  have:s.data.size=s.size:=rfl
  simp[bytesRow,this];omega
 refine Z.valw (w':=w.drew.alloc (.cells (bytesRow s (grownCap w s.size 0 e)) e ((bytesRow s (grownCap w s.size 0 e)).size,(bytesRow s (grownCap w s.size 0 e)).size+1))) (v:=.slice (some ⟨w.heap.size,0,none⟩) s.data.toList.length (grownCap w s.size 0 e)) hf hd ?_ fun a' hf'=>h _ _ a' _ hf' (hh.new hn ?_ (fun b hb'=>?_) (fun j hj=>by cases hj) fun _ _ _ _ _=>?_)
 ·simp[execOp,hf.eval hx,run_bytes_of_string w src dst e s h1 h2 h3]
 ·have hc:=Ch.alloc w.drew (.cells (bytesRow s (grownCap w s.size 0 e)) e ((bytesRow s (grownCap w s.size 0 e)).size,(bytesRow s (grownCap w s.size 0 e)).size+1))
  exact⟨hc.os,hc.tape,hc.output,hc.size,hc.block⟩
 ·simp only[Res.bl,List.mem_singleton]at hb'
  subst hb'
  exact⟨Nat.le_refl _,by rw[World.size_alloc];exact Nat.lt_succ_self _⟩
 ·refine⟨_,World.alloc_heap_new w.drew _,bytesRow s (grownCap w s.size 0 e),rfl,hsz,hcm,hge,fun j b hj=>?_⟩
  have hlt:=(List.getElem?_eq_some_iff.1 hj).1
  have hj2:s.data[j]?=some b:=by rw[←Array.getElem?_toList];exact hj
  unfold bytesRow
  rw[Array.getElem?_append_left (by simpa using hlt),Array.getElem?_map,hj2]
  rfl
theorem AL.ixB (k kn:Nat){e tt:TypeId}{c g n:Nat}{xs:List UInt8}{x y:Operand}{i:Int}{kd:IntKind}{v:UInt8}(hi:ix xs i=some v)(hlen:n=xs.length)
  (h:AL r P ops Q rest C ((d,.pointer (some ⟨g,i.toNat,none⟩))::l) ((kn,.el (some k) g i.toNat [.int .u8 (v.toNat:Int)])::H))
  (hk1:hk H k=some (.ob g (Bs e c xs)):=by rfl) (hx:ev l x=some (.slice (some ⟨g,0,none⟩) n c):=by rfl) (hy:ev l y=some (.int kd i):=by rfl) (ht:P.underlying tt=some (.slice e):=by rfl) (hs:szB P e=some 1:=by kernel_rfl)
  (hd:Nat.ble (d+1) C.n=true:=by rfl) (hn:hk H kn=none:=by kernel_rfl) (hne:Nat.beq k kn=false:=by rfl):AL r P ops Q (⟨some d,.indexAddr tt x y,T,pos,af,none⟩::rest) C l H:=fun a w hf hh=>by
 obtain⟨m,rfl,hm⟩:=ix_some hi
 have hlt:=(List.getElem?_eq_some_iff.1 hm).1
 have hne:k≠kn:=fun e=>by rw[e,Nat.beq_refl]at hne;cases hne
 obtain⟨o,ho,hb⟩: ∃o,w.heap[g]?=some o∧Bs e c xs o:=hh.hold k _ hk1
 refine Z.val (v:=.pointer (some ⟨g,m,none⟩)) hf hd ?_ fun a' hf'=>h a' w hf' ?_
 ·have:=r_indexAddrA (P:=P) (w:=w) (d:=some d) (T:=T) (pos:=pos) (af:=af) (gd:=none) ht (szB_run hs) (hf.eval hx) rfl (hf.eval hy) rfl (by omega:m<n)
  rw[Addr.add_lit,Nat.zero_add,Nat.mul_one]at this
  exact this
 ·exact hh.add hn rfl (fun j hj r hr=>by injection hj with hj;subst hj;rw[hk1]at hr;injection hr with hr;subst hr;rfl) ⟨fun j u hu=>by
   cases j with
   |zero=>injection hu with hu;subst hu;rw[Addr.add_lit];exact Bs.cell ho hb hm
   |succ j=>simp at hu,(Array.getElem?_eq_some_iff.1 ho).1,⟨_,hk1,by simp[Res.bl]⟩⟩
theorem AL.stB (k ke:Nat)(js:List Nat){e tt:TypeId}{c g:Nat}{xs:List UInt8}{px py:Operand}{i:Int}{v:UInt8}{n:Int}(y:UInt8)(hi:ix xs i=some v)(hn:n=(y.toNat:Int))
  (h:AL r P ops Q rest C l ((k,.ob g (Bs e c (xs.set i.toNat y)))::ded js H))
  (hk1:hk H k=some (.ob g (Bs e c xs)):=by rfl) (hx:ev l px=some (.pointer (some ⟨g,i.toNat,none⟩)):=by rfl) (hy:ev l py=some (.int .u8 n):=by rfl) (hS:szB P tt=some 1:=by kernel_rfl) (hj:hng [k] js H=true:=by kernel_rfl):
  AL r P ops Q (⟨none,.store tt px py,T,pos,af,none⟩::rest) C l H:=fun a w hf hh=>by
 subst hn
 obtain⟨m,rfl,hm⟩:=ix_some hi
 have hlt:=(List.getElem?_eq_some_iff.1 hm).1
 obtain⟨o,ho,hb⟩: ∃o,w.heap[g]?=some o∧Bs e c xs o:=hh.hold k _ hk1
 have hcell:=Bs.cell ho hb hm
 obtain⟨cur,rfl,h2,h3,h4,h5⟩:=hb
 have hmc:m<cur.size:=by omega
 have hfz:w.frozen? ⟨g,m,none⟩=false:=by
  unfold World.frozen?
  simp only[ho]
  simp;omega
 have hrun:=run_storeCells_cells (P:=P) g m [Value.int .u8 (y.toNat:Int)] 0 w (fun j hj=>by
  have:j=0:=by simpa using hj
  subst this;simp[hcell]) (fun j hj=>by
  have:j=0:=by simpa using hj
  subst this;simpa using hfz) (by simp[Value.oneCell'])
 have hw:w.setCells g (m+0) [Value.int .u8 (y.toNat:Int)]=w.setCell ⟨g,m,none⟩ (.int .u8 (y.toNat:Int)):=rfl
 rw[hw]at hrun
 have hg':(w.setCell ⟨g,m,none⟩ (.int .u8 (y.toNat:Int))).heap[g]?=some (.cells (cur.setIfInBounds m (.int .u8 (y.toNat:Int))) e (cur.size,cur.size+1)):=by
  unfold World.setCell
  simp[Array.getElem?_modify,ho]
 have hch:Ch [g] w (w.setCell ⟨g,m,none⟩ (.int .u8 (y.toNat:Int))):=⟨rfl,rfl,rfl,by simp[World.setCell],fun b hb hn=>by
  have:b≠g:=by simpa using hn
  simp[World.setCell,Array.getElem?_modify,Ne.symm this]⟩
 refine Z.skipw (w':=w.setCell ⟨g,m,none⟩ (.int .u8 (y.toNat:Int))) hf ?_ fun a' hf'=>h a' _ hf' (Hp.dd (hh.upd hch (fun b hb=>⟨_,hk1,hb⟩) (fun b hb=>.inl ⟨_,hk1,hb⟩) (fun j hj=>by cases hj) fun _ _ _ _ _ _ _=>⟨_,hg',cur.setIfInBounds m (.int .u8 (y.toNat:Int)),by simp,by simpa using h2,h3,by simpa using h4,fun j b hj2=>?_⟩) hj)
 ·have hx':=hf.eval hx
  have hy':=hf.eval hy
  simp only[execOp,hx',hy',Instr.storeAt,Instr.sureAddr,Sem.run_bind,Sem.run_pure,Result.andThen_ok,storeVar,szB_run hS,Int.toNat_natCast]
  have hc:(Value.int .u8 (y.toNat:Int)).cells=#[.int .u8 (y.toNat:Int)]:=rfl
  simp only[hc,List.size_toArray,List.length_singleton,ne_eq,not_true,if_false,hrun,Result.andThen_ok,Sem.run_pure]
 ·rw[Int.toNat_natCast,List.getElem?_set]at hj2
  rw[Array.getElem?_setIfInBounds]
  by_cases e1:m=j
  ·subst e1
   rw[if_pos rfl,if_pos hlt]at hj2
   injection hj2 with hj2;subst hj2
   rw[if_pos rfl,if_pos hmc]
  ·rw[if_neg e1]at hj2
   rw[if_neg e1]
   exact h5 j b hj2
theorem AL.cbs (k:Nat){src dst e:TypeId}{x:Operand}{c g n:Nat}{xs:List UInt8}(hlen:n=xs.length)(h:AL r P ops Q rest C ((d,.string ⟨xs.toArray⟩)::l) H)
  (hk1:hk H k=some (.ob g (Bs e c xs)):=by rfl) (hx:ev l x=some (.slice (some ⟨g,0,none⟩) n c):=by rfl)
  (h1:P.underlying src=some (.slice e):=by rfl) (h2:P.underlying e=some (.int .u8):=by rfl) (h3:P.underlying dst=some .string:=by rfl) (hd:Nat.ble (d+1) C.n=true:=by rfl):
  AL r P ops Q (⟨some d,.convert src dst x,T,pos,af,none⟩::rest) C l H:=fun a w hf hh=>by
 subst hlen
 obtain⟨o,ho,hb⟩: ∃o,w.heap[g]?=some o∧Bs e c xs o:=hh.hold k _ hk1
 refine Z.val hf hd ?_ fun a' hf'=>h a' w hf' hh
 have:=run_convert_bytes_back (P:=P) w src dst e ⟨g,0,none⟩ c xs h1 h2 h3 fun j hj=>by
  rw[Addr.add_lit,Nat.zero_add];exact Bs.cell ho hb (List.getElem?_eq_getElem hj)
 simp[execOp,hf.eval hx,this]
theorem AL.cvr {src dst e:TypeId}{x:Operand}{A:Option Addr}{c n:Nat}{xs:List Int}{kp':(Nat→Prop)→Prop}(hrow: ∀w,Hp C H w→∃G:Nat→Prop,Row (.int .i32) w (Fh C H) G A c xs∧kp' G)(hlen:n=xs.length)(h:AL r P ops Q rest C ((d,.string (runesBytes xs))::l) H)
  (hx:ev l x=some (.slice A n c):=by rfl) (h1:P.underlying src=some (.slice e):=by rfl) (h2:P.underlying e=some (.int .i32):=by rfl) (h3:P.underlying dst=some .string:=by rfl) (hd:Nat.ble (d+1) C.n=true:=by rfl):
  AL r P ops Q (⟨some d,.convert src dst x,T,pos,af,none⟩::rest) C l H:=fun a w hf hh=>by
 subst hlen
 obtain⟨G,hR,_⟩:=hrow w hh
 refine Z.val hf hd ?_ fun a' hf'=>h a' w hf' hh
 obtain⟨cells,p1,p2,p3,p4⟩:=hR.cells
 have h0nil: ∀c,(convert src dst (.slice none 0 c)).run P w=.ok (.string (runesBytes [])) w:=fun c=>run_convert_runes_nil w src dst e 0 c h1 h2 h3
 rcases p3 with h0|⟨ad,rfl,hcell⟩
 ·have:xs=[]:=List.eq_nil_of_length_eq_zero h0
  subst this
  cases A with
  |none=>simp[execOp,hf.eval hx,h0nil]
  |some ad=>
   have:=run_convert_runes (P:=P) w src dst e ad 0 c [] (Nat.le_refl _) h1 h2 h3 (fun j hj=>by simp at hj)
   simp[execOp,hf.eval hx,this]
 ·have:=run_convert_runes (P:=P) w src dst e ad xs.length c xs (Nat.le_refl _) h1 h2 h3 fun j hj=>by
   refine hcell j _ ?_
   have h4:=p4 j _ (List.getElem?_eq_getElem hj)
   have h5:(cells.drop (j*1)).take 1=[.int .i32 xs[j]]:=h4.1
   rw[Nat.mul_one]at h5
   have h6:((cells.drop j).take 1)[0]?=some (.int .i32 xs[j]):=by rw[h5];rfl
   rw[List.getElem?_take_of_lt (by omega),List.getElem?_drop,Nat.add_zero]at h6
   rw[h6,List.getD_eq_getElem?_getD,List.getElem?_eq_getElem hj];rfl
  simp[execOp,hf.eval hx,this,List.take_length]
end
end Go.A
end
section
set_option linter.unusedVariables false
set_option linter.unusedSimpArgs false
set_option maxRecDepth 20000
set_option maxHeartbeats 8000000
set_option synthInstance.maxSize 1000000
set_option synthInstance.maxHeartbeats 400000
namespace Go.Proofs.YtfpemeeadiigcaaDoor
open Go.RowKit
def F.fn_runes_l1 (a0:ByteArray):Nat→Nat→(List Int)→Option (List Int)
 |0,_,_=>none
 |f+1,p2,xs5=>if p2<a0.size then(A.gd ((List.length (α:=Int) xs5+List.length (α:=Int) [((Utf8.decode a0 p2).1:Int)])*4≤140737488355328) ((F.fn_runes_l1 a0 f) (p2+(Utf8.decode a0 p2).2) (xs5++[((Utf8.decode a0 p2).1:Int)])))else(some xs5)
def F.fn_runes (a0:ByteArray):Option (List Int):=F.fn_runes_l1 a0 A.FU 0 []
theorem fn_runes_ok (a0:ByteArray)(h0_:a0.size≤maxLen)(r:(List Int))(hF:F.fn_runes a0=some r):
    A.Ct Tryd.prog 54 [.string a0] [] [] (fun v H'=>∃(A0':Option Addr) (c1':Nat),v=.slice A0' ((r).length) c1'∧H'=[(0,.own (Z.Ty.int .i32) 21 A0' c1' r)]):=by
 refine A.Ct.enter Tryd.func54 rfl Tryd.ntmps54 rfl fun w0 F0=>?_
 rw[F.fn_runes]at hF
 refine A.xl 1 ?_
 refine A.q0 [] [] [.n] [] ?_
 refine A.dl 2 ?_
 refine A.q0 [] [] [.n] [(3,.slice none 0 0)] ?_
 refine A.dl 3 ?_
 refine A.q0 [] [] [.n] [(6,.string a0)] ?_
 refine A.AL.rgs 0 fun g1=>?_
 refine A.dx 2 ?_
 refine A.nil 4 (Z.Ty.int .i32) 21 ?_
 refine A.lp_ [7] [] (fun f nl nh=>∃(p2:Nat),∃(xs5:List Int),∃(A3:Option Addr),∃(c4:Nat),nl=[(3,.slice A3 ((xs5).length) c4)]∧nh=[(0,.si g1 a0 p2),(4,.own (Z.Ty.int .i32) 21 A3 c4 xs5)]∧F.fn_runes_l1 a0 f p2 xs5=some r) ⟨0,[],none,0,rfl,rfl,hF⟩ ?_
 rintro f6 _ _ ⟨p2,xs5,A3,c4,rfl,rfl,hF⟩
 rcases f6 with _|f6
 ·exact A.no0 hF
 rw[F.fn_runes_l1]at hF
 refine A.xl 1 ?_
 refine A.AL.nxs 0 [] hF (fun hb7 hF=>?_) (fun hb hF=>?_)
 ·refine A.q0 [] [] [.n] [(9,.bool true)] ?_
  refine A.dx 2 ?_
  refine A.AX.cnt rfl ?_
  refine A.xl 4 ?_
  refine A.q0 [] [] [.n,.n] [(5,.int .i32 ((Utf8.decode a0 p2).1:Int))] ?_
  refine A.dl 1 ?_
  refine A.q0 [] [] [.n,.n] [(11,.slice A3 ((xs5).length) c4),(12,.int .i32 ((Utf8.decode a0 p2).1:Int))] ?_
  refine A.AL.bsl 7 (ty:=(Z.Ty.int .i32)) (cs:=[.int .i32 ((Utf8.decode a0 p2).1:Int)]) [((Utf8.decode a0 p2).1:Int)] ⟨⟨rfl,A.dec_has⟩,rfl⟩ (fun g8=>?_) Tryd.zeroValue21 Tryd.sizeOf21
  obtain⟨hl11,hF⟩:=A.gd_some hF
  refine A.AL.app (k:=4) [] (A.rowO (k:=7) rfl) inf21 hl11 fun A9 c10=>?_
  refine A.q0 [] [] [.n] [(3,.slice A9 ((xs5++[((Utf8.decode a0 p2).1:Int)]).length) c10)] ?_
  refine A.de 1 ?_
  exact A.j ⟨_,Nat.lt_succ_self _,⟨(p2+(Utf8.decode a0 p2).2),(xs5++[((Utf8.decode a0 p2).1:Int)]),A9,c10,rfl,rfl,hF⟩⟩
 refine A.q0 [] [] [.n] [(9,.bool false)] ?_
 refine A.dx 2 ?_
 refine A.AX.cnf rfl ?_
 refine A.xl 3 ?_
 refine A.q0 [] [] [.n,.n] [(2,.slice A3 ((xs5).length) c4)] ?_
 refine A.dx 1 ?_
 obtain rfl:=Option.some.inj hF
 exact A.rt1 [(0,4)] ⟨A3,c4,rfl,rfl⟩
def F.fn_upper_j1 (k1:(List UInt8)→Int→Option ByteArray)(y5:Int)(xs8:List UInt8):Option ByteArray:=A.gd (Z.R64 (y5+1)) (k1 xs8 (y5+1))
def F.fn_upper_l2 (a0:ByteArray):Nat→(List UInt8)→Int→Option ByteArray
 |0,_,_=>none
 |f+1,xs3,y5=>if y5<((a0.data.toList).length:Int)then((A.ix xs3 y5).bind fun x11=>(if(bif decide ((97:Int)≤(x11.toNat:Int))then decide ((x11.toNat:Int)≤122)else false)=true then((A.ix xs3 y5).bind fun x13=>(F.fn_upper_j1 (F.fn_upper_l2 a0 f) y5 (xs3.set y5.toNat (A.b8 ((IntKind.u8.wrap ((x11.toNat:Int)-97))+65)))))else(F.fn_upper_j1 (F.fn_upper_l2 a0 f) y5 xs3)))else(some (ByteArray.mk (xs3).toArray))
def F.fn_upper (a0:ByteArray):Option ByteArray:=F.fn_upper_l2 a0 A.FU a0.data.toList 0
theorem fn_upper_ok (a0:ByteArray)(h0_:a0.size≤maxLen)(r:ByteArray)(hF:F.fn_upper a0=some r):
    A.Ct Tryd.prog 55 [.string a0] [] [] (fun v H'=>v=.string r∧H'=[]∧r.size≤maxLen):=by
 refine A.Ct.enter Tryd.func55 rfl Tryd.ntmps55 rfl fun w0 F0=>?_
 rw[F.fn_upper]at hF
 refine A.xl 1 ?_
 refine A.q0 [] [] [.n] [] ?_
 refine A.dl 2 ?_
 refine A.q0 [] [] [.n] [(6,.string a0)] ?_
 refine A.AL.cvb 0 h0_ fun g1 c2=>?_
 refine A.q0 [] [] [.n] [(3,.slice (some ⟨g1,0,none⟩) ((a0.data.toList).length) c2)] ?_
 refine A.dl 3 ?_
 refine A.q0 [] [] [.n,.n,.n] [(8,.slice (some ⟨g1,0,none⟩) ((a0.data.toList).length) c2),(9,.int .i64 ((a0.data.toList).length:Int)),(10,.int .i64 0)] ?_
 refine A.dx 2 ?_
 refine A.lp_ [3,8,9] [] (fun f nl nh=>∃(xs3:List UInt8),∃(y5:Int),nl=[(10,.int .i64 y5)]∧nh=[(0,.ob g1 (A.Bs 5 c2 xs3))]∧(a0.data.toList).length=xs3.length∧IntKind.i64.has y5∧F.fn_upper_l2 a0 f xs3 y5=some r) ⟨a0.data.toList,0,rfl,rfl,rfl,(A.hasl .i64 (0) rfl),hF⟩ ?_
 rintro f7 _ _ ⟨xs3,y5,rfl,rfl,hn4,hy6,hF⟩
 rcases f7 with _|f7
 ·exact A.no0 hF
 rw[F.fn_upper_l2]at hF
 refine A.xl 1 ?_
 refine A.q0 [] [] [.n] [(11,.bool (decide (y5<((a0.data.toList).length:Int))))] ?_
 refine A.dx 2 ?_
 refine A.AX.cnd rfl hF (fun hb hF=>?_) (fun hb hF=>?_)
 ·refine A.xx 2 ?_
  refine A.AX.join [3,8,9,10] [] (fun nl nh=>∃(xs8:List UInt8),nl=[]∧nh=[(0,.ob g1 (A.Bs 5 c2 xs8))]∧(a0.data.toList).length=xs8.length∧F.fn_upper_j1 (F.fn_upper_l2 a0 f7) y5 xs8=some r) ?_ ?_
  ·refine A.xl 2 ?_
   refine A.q0 [] [] [.n] [(12,.int .i64 y5)] ?_
   obtain⟨x11,hv12,hF⟩:=A.bd_some hF
   refine A.AL.ixB 0 5 hv12 hn4 ?_
   refine A.q0 [] [5] [.e 0 0,.n,.n] [(4,.int .i64 y5),(5,.int .u8 (x11.toNat:Int))] ?_
   refine A.dl 2 ?_
   refine A.q0 [] [] [.n,.n,.n,.sy .n,.sy .n,.pk] [(20,.bool (bif decide ((97:Int)≤(x11.toNat:Int))then decide ((x11.toNat:Int)≤122)else false))] ?_
   refine A.dx 1 ?_
   refine A.AX.cnb rfl hF (fun hb hF=>?_) (fun hb hF=>?_)
   ·refine A.xl 0 ?_
    refine A.q0 [] [] [.n,.n,.n,.n,.n] [(21,.slice (some ⟨g1,0,none⟩) ((a0.data.toList).length) c2),(22,.int .i64 y5),(25,.int .u8 (IntKind.u8.wrap ((IntKind.u8.wrap ((x11.toNat:Int)-97))+65)))] ?_
    obtain⟨x13,hv14,hF⟩:=A.bd_some hF
    refine A.AL.ixB 0 6 hv14 hn4 ?_
    refine A.AL.stB 0 6 [5,6] (A.b8 ((IntKind.u8.wrap ((x11.toNat:Int)-97))+65)) hv14 (A.b8_wrap _) ?_
    refine A.de 1 ?_
    exact A.j ⟨(xs3.set y5.toNat (A.b8 ((IntKind.u8.wrap ((x11.toNat:Int)-97))+65))),rfl,rfl,(by rw[List.length_set];exact hn4),hF⟩
   refine A.xe 2 ?_
   exact A.j ⟨xs3,rfl,rfl,hn4,hF⟩
  rintro _ _ ⟨xs8,rfl,rfl,hn9,hF⟩
  rw[F.fn_upper_j1]at hF
  refine A.xl 0 ?_
  obtain⟨hc10,hF⟩:=A.gd_some hF
  refine A.q [] [] [.n,.n] [Z.R64 (y5+1)] [(10,.int .i64 (y5+1))] hc10 ?_
  refine A.AL.done ?_
  exact A.j ⟨_,Nat.lt_succ_self _,⟨xs8,(y5+1),rfl,rfl,hn9,(Z.i64_has hc10),hF⟩⟩
 refine A.xl 3 ?_
 refine A.q0 [] [] [.n] [(28,.slice (some ⟨g1,0,none⟩) ((a0.data.toList).length) c2)] ?_
 refine A.okB 0 fun hl15=>?_
 refine A.AL.cbs 0 hn4 ?_
 refine A.q0 [] [] [.n] [(2,.string (ByteArray.mk (xs3).toArray))] ?_
 refine A.dx 1 ?_
 obtain rfl:=Option.some.inj hF
 exact A.rt1 [] ⟨rfl,rfl,(A.mk_le hl15)⟩
def F.slices_Reverse_rune_rune_l1:Nat→(List Int)→Int→Int→Option (List Int)
 |0,_,_,_=>none
 |f+1,xs4,y6,y8=>if y6<y8 then((A.ix xs4 y8).bind fun x11=>((A.ix xs4 y6).bind fun x16=>((A.ix xs4 y6).bind fun x21=>((A.ix (xs4.set y6.toNat x11) y8).bind fun x26=>(A.gd (Z.R64 (y6+1)∧Z.R64 (y8-1)) ((F.slices_Reverse_rune_rune_l1 f) ((xs4.set y6.toNat x11).set y8.toNat x16) (y6+1) (y8-1)))))))else(some xs4)
def F.slices_Reverse_rune_rune (a0:(List Int)):Option (List Int):=A.gd (Z.R64 (((a0).length:Int)-1)) (F.slices_Reverse_rune_rune_l1 A.FU a0 0 (((a0).length:Int)-1))
theorem slices_Reverse_rune_rune_ok (a0:(List Int))(A0_:Option Addr)(c1_:Nat)(r:(List Int))(hF:F.slices_Reverse_rune_rune a0=some r):
    A.Ct Tryd.prog 56 [.slice A0_ ((a0).length) c1_] [(0,.own (Z.Ty.int .i32) 21 A0_ c1_ a0)] (Z.obl A0_++[]) (fun v H'=>v=.tuple #[]∧H'=[(0,.own (Z.Ty.int .i32) 21 A0_ c1_ r)]∧(r).length=a0.length):=by
 refine A.Ct.enter Tryd.func56 rfl Tryd.ntmps56 rfl fun w0 F0=>?_
 rw[F.slices_Reverse_rune_rune]at hF
 refine A.xl 1 ?_
 obtain⟨hc1,hF⟩:=A.gd_some hF
 refine A.q [] [] [.n,.n,.n,.n,.n] [Z.R64 (((a0).length:Int)-1)] [(2,.int .i64 0),(3,.int .i64 (((a0).length:Int)-1))] hc1 ?_
 refine A.dx 2 ?_
 refine A.lp_ [0] [] (fun f nl nh=>∃(xs4:List Int),∃(y6:Int),∃(y8:Int),nl=[(2,.int .i64 y6),(3,.int .i64 y8)]∧nh=[(0,.own (Z.Ty.int .i32) 21 A0_ c1_ xs4)]∧(a0).length=xs4.length∧IntKind.i64.has y6∧IntKind.i64.has y8∧F.slices_Reverse_rune_rune_l1 f xs4 y6 y8=some r) ⟨a0,0,(((a0).length:Int)-1),rfl,rfl,rfl,(A.hasl .i64 (0) rfl),(Z.i64_has hc1),hF⟩ ?_
 rintro f10 _ _ ⟨xs4,y6,y8,rfl,rfl,hn5,hy7,hy9,hF⟩
 rcases f10 with _|f10
 ·exact A.no0 hF
 rw[F.slices_Reverse_rune_rune_l1]at hF
 refine A.xl 2 ?_
 refine A.q0 [] [] [.n,.n,.n] [(9,.bool (decide (y6<y8)))] ?_
 refine A.dx 1 ?_
 refine A.AX.cnd rfl hF (fun hb hF=>?_) (fun hb hF=>?_)
 ·refine A.xx 4 ?_
  refine A.AX.dr mixed 13 16 (A.mb 16 0) ?_
  refine A.hq A.pb [] [0] [] [] (A.mb 16 819) 10 [(0,.n),(1,.n),(4,.n),(5,.n),(8,.n),(9,.n)] [(14,.slice A0_ ((a0).length) c1_),(15,.int .i64 y6),(18,.slice A0_ ((a0).length) c1_),(19,.int .i64 y8),(22,.slice A0_ ((a0).length) c1_),(23,.int .i64 y6)] ?_
  refine A.AH.qp A.pb [0] (A.mb 16 831) 8 [(2,.n),(3,.n)] [(16,.slice A0_ ((a0).length) c1_),(17,.int .i64 y8)] ?_
  refine A.cst 18 (Z.slice_n (show(a0).length=(xs4).length from hn5)) ?_
  obtain⟨x11,hv12,hF⟩:=A.bd_some hF
  refine A.AH.pko 0 9 hv12 fun ho13=>?_
  intro g15 hA14
  refine A.AH.v A.pb [0] [0,9] 6 (A.mb 16 895) rfl (fun a w hf hh=>A.r_ixo (t:=(Z.Ty.int .i32)) hv12 hA14 hf) ?_
  refine A.hq A.pb [0,9] [0,9] [] [9] (A.mb 16 1023) 6 [(7,.e 0 0)] [(21,.int .i32 x11)] ?_
  refine A.cst 22 (Z.slice_n (show(a0).length=(xs4).length from hn5)) ?_
  obtain⟨x16,hv17,hF⟩:=A.bd_some hF
  refine A.AH.pko 0 10 hv17 fun ho18=>?_
  intro g20 hA19
  refine A.AH.v A.pb [0,9] [0,9,10] 10 (A.mb 16 2047) rfl (fun a w hf hh=>A.r_ixo (t:=(Z.Ty.int .i32)) hv17 hA19 hf) ?_
  refine A.hq A.pb [0,9,10] [0,9,10] [] [10] (A.mb 16 4095) 4 [(11,.e 0 0)] [(25,.int .i32 x16)] ?_
  refine A.cst 14 (Z.slice_n (show(a0).length=(xs4).length from hn5)) ?_
  obtain⟨x21,hv22,hF⟩:=A.bd_some hF
  refine A.AH.pko 0 11 hv22 fun ho23=>?_
  intro g25 hA24
  refine A.AH.v A.pb [0,9,10] [0,9,10,11] 12 (A.mb 16 8191) rfl (fun a w hf hh=>A.r_ixo (t:=(Z.Ty.int .i32)) hv22 hA24 hf) ?_
  refine A.AH.one 13 ?_
  refine A.AL.setel 0 11 [9,10,11] (o:=0) (m:=1) (t:=(Z.Ty.int .i32)) (new:=[.int .i32 x11]) (es:=[.int .i32 x21]) x11 hv22 hA24 ⟨rfl,ho13⟩ ?_
  refine A.AH.nm (A.mb 16 16383) ?_
  refine A.AH.bh 15 ?_
  refine A.cst 16 (Z.slice_n (show(a0).length=(xs4.set y6.toNat x11).length from(by rw[List.length_set];exact hn5))) ?_
  obtain⟨x26,hv27,hF⟩:=A.bd_some hF
  refine A.AH.pko 0 12 hv27 fun ho28=>?_
  intro g30 hA29
  refine A.AH.v A.pb [] [0,12] 14 (A.mb 16 32767) rfl (fun a w hf hh=>A.r_ixo (t:=(Z.Ty.int .i32)) hv27 hA29 hf) ?_
  refine A.AH.one 15 ?_
  refine A.AL.setel 0 12 [12] (o:=0) (m:=1) (t:=(Z.Ty.int .i32)) (new:=[.int .i32 x16]) (es:=[.int .i32 x26]) x16 hv27 hA29 ⟨rfl,ho18⟩ ?_
  refine A.AH.nm (A.mb 16 65535) ?_
  refine A.AH.done ?_
  refine A.el 2 ?_
  obtain⟨hc31,hF⟩:=A.gd_some hF
  refine A.q [] [] [.n,.n,.n,.n,.n,.n] [Z.R64 (y6+1),Z.R64 (y8-1)] [(2,.int .i64 (y6+1)),(3,.int .i64 (y8-1))] hc31 ?_
  refine A.AL.done ?_
  exact A.j ⟨_,Nat.lt_succ_self _,⟨((xs4.set y6.toNat x11).set y8.toNat x16),(y6+1),(y8-1),rfl,rfl,(by rw[List.length_set];exact(by rw[List.length_set];exact hn5)),(Z.i64_has hc31.1),(Z.i64_has hc31.2),hF⟩⟩
 refine A.xe 1 ?_
 obtain rfl:=Option.some.inj hF
 exact A.AE.ret [(0,0)] (.tuple #[]) (fun a w hf hh=>Z.res0 rfl w) (⟨rfl,rfl,(Eq.symm hn5)⟩)
def F.rec_Runes (a0:ByteArray):Option (ByteArray):=some a0
theorem rec_Runes_ok (a0:ByteArray)(h0_:a0.size≤maxLen)(r:(ByteArray))(hF:F.rec_Runes a0=some r):
    A.Ct Tryd.prog 78 [.string a0] [] [] (fun v H'=>∃(g0':Nat),v=.func (.func 97) #[] #[.pointer (some ⟨g0',0,none⟩)]∧H'=[(0,.blk g0' 9 [.string r])]∧r.size≤maxLen):=by
 refine A.Ct.enter Tryd.func78 rfl Tryd.ntmps78 rfl fun w0 F0=>?_
 rw[F.rec_Runes]at hF
 refine A.xl 1 ?_
 refine A.AL.box 0 (cs:=[.string a0]) fun g1=>?_
 refine A.q0 [] [] [.n] [] ?_
 refine A.dl 2 ?_
 refine A.q0 [] [] [.n,.n] [(2,.func (.func 97) #[] #[.pointer (some ⟨g1,0,none⟩)])] ?_
 refine A.dx 1 ?_
 obtain rfl:=Option.some.inj hF
 exact A.rt1 [(0,0)] ⟨g1,rfl,rfl,h0_⟩
def F.rec_Runes_1_it_l1 (b0:ByteArray):Nat→Nat→Option (List (Int×Int))
 |0,_=>none
 |f+1,p4=>if p4<b0.size then(A.cns ((p4:Int),((Utf8.decode b0 p4).1:Int)) ((F.rec_Runes_1_it_l1 b0 f) (p4+(Utf8.decode b0 p4).2)))else(some [])
def F.rec_Runes_1_it (b0:ByteArray):Option (List (Int×Int)):=F.rec_Runes_1_it_l1 b0 A.FU 0
theorem rec_Runes_1_it_sq (b0:ByteArray)(g0_:Nat)(h1_:b0.size≤maxLen)(xs:List (Int×Int))(hF:F.rec_Runes_1_it b0=some xs):
    A.SqU Tryd.prog 97 [.pointer (some ⟨g0_,0,none⟩)] [(0,.el none g0_ 0 [.string b0])] (Z.Ty.pair (Z.Ty.int .i64) (Z.Ty.int .i32)) (fun cs=>[Z.vof false (cs.take 1),Z.vof false (cs.drop 1)]) xs:=by
 refine A.SqU.enter Tryd.func97 rfl Tryd.ntmps97 rfl fun lid w0 J0 J Jx Φ0 Φ hY hJ0=>?_
 obtain⟨rs0,hrs⟩: ∃rs0,rs0=xs:=⟨_,rfl⟩
 have hR0:A.Rem xs 0 rs0:=hrs▸A.Rem.zero xs
 rw[F.rec_Runes_1_it,←hrs]at hF
 clear hrs
 refine A.xl 1 ?_
 refine A.q0 [] [0] [.e 0 0] [(5,.string b0)] ?_
 refine A.AL.rgsU hY hJ0 fun g1 w2 hJ3=>?_
 refine A.dx 2 ?_
 refine A.AX.loopC (A.CYU 16 g1 Φ) (0,w2) [0,6] [] [4711] (fun f i nl nh=>∃(p4:Nat),∃(rs:List (Int×Int)),nl=[]∧nh=[(4711,.si g1 b0 p4)]∧J g1 i.1 i.2∧A.Rem xs i.1 rs∧F.rec_Runes_1_it_l1 b0 f p4=some rs) A.FU [] [(4711,.si g1 b0 0)] ⟨0,_,rfl,rfl,hJ3,hR0,hF⟩ ?_
 rintro f5 ⟨k6,w7⟩ _ _ ⟨p4,rs10,rfl,rfl,hJ8,hR9,hF⟩
 rcases f5 with _|f5
 ·exact A.no0 hF
 rw[F.rec_Runes_1_it_l1]at hF
 refine A.xl 1 ?_
 refine A.AL.nxs 4711 [] hF (fun hb11 hF=>?_) (fun hb hF=>?_)
 ·refine A.q0 [] [] [.n] [(8,.bool true)] ?_
  refine A.dx 2 ?_
  refine A.AX.cnt rfl ?_
  refine A.xl 4 ?_
  refine A.q0 [] [] [.n,.n,.n,.n] [(3,.int .i64 (p4:Int)),(4,.int .i32 ((Utf8.decode b0 p4).1:Int))] ?_
  refine A.dl 2 ?_
  refine A.q0 [] [] [.n,.n,.n] [(11,.func (.yield lid) #[] #[]),(12,.int .i64 (p4:Int)),(13,.int .i32 ((Utf8.decode b0 p4).1:Int))] ?_
  obtain⟨rs12,hqrs12,hF⟩:=A.cns_some hF
  refine A.AL.yieldU (x:=((p4:Int),((Utf8.decode b0 p4).1:Int))) hY hJ8 (hqrs12▸hR9) [.int .i64 (p4:Int),.int .i32 ((Utf8.decode b0 p4).1:Int)] ⟨⟨rfl,(A.si_has hb11 h1_)⟩,⟨rfl,A.dec_has⟩⟩ (fun w13 hJ14 hR15=>?_) (fun w13 hX16=>?_)
  ·refine A.q0 [] [] [.n] [(15,.bool false)] ?_
   refine A.dx 1 ?_
   refine A.AX.cnf rfl ?_
   refine A.xe 2 ?_
   exact A.AE.jC (k6+1,w13) [4711] [] [(4711,.si g1 b0 (p4+(Utf8.decode b0 p4).2))] ⟨_,Nat.lt_succ_self _,⟨(p4+(Utf8.decode b0 p4).2),_,rfl,rfl,hJ14,hR15,hF⟩⟩
  refine A.q0 [] [] [.n] [(15,.bool true)] ?_
  refine A.dx 1 ?_
  refine A.AX.cnt rfl ?_
  exact A.AX.rtXU hY hX16
 refine A.q0 [] [] [.n] [(8,.bool false)] ?_
 refine A.dx 2 ?_
 refine A.AX.cnf rfl ?_
 refine A.xe 1 ?_
 obtain rfl:=Option.some.inj hF
 exact A.AE.rtYU hY hJ8 hR9
def F.rec_Cut_l1 (a0:ByteArray)(a1:Int):List (Int×Int)→Int→Option ByteArray
 | [],y23=>if(a0.size:Int)≤a1 then(some a0)else(A.gd (0≤y23∧y23≤(a0.size:Int)) (some (a0.extract 0 y23.toNat)))
 |y20::f,y23=>if a1<y20.1 then(A.gd (0≤y23∧y23≤(a0.size:Int)) (some (a0.extract 0 y23.toNat)))else((F.rec_Cut_l1 a0 a1 f) y20.1)
def F.rec_Cut (a0:ByteArray)(a1:Int):Option ByteArray:=(F.rec_Runes a0).bind fun r5=>((F.rec_Runes_1_it r5).bind fun xs9=>F.rec_Cut_l1 a0 a1 xs9 0)
theorem rec_Cut_ok (a0:ByteArray)(a1:Int)(h0_:a0.size≤maxLen)(h1_:IntKind.i64.has a1)(r:ByteArray)(hF:F.rec_Cut a0 a1=some r):
    A.Ct Tryd.prog 57 [.string a0,.int .i64 a1] [] [] (fun v H'=>v=.string r∧H'=[]∧r.size≤maxLen):=by
 refine A.Ct.enterM Tryd.func57 rfl Tryd.ntmps57 rfl fun w0 F0=>?_
 rw[F.rec_Cut]at hF
 refine A.xl 1 ?_
 refine A.AL.box 0 (cs:=[.string a0]) fun g1=>?_
 refine A.AL.box 1 (cs:=[.int .i64 a1]) fun g2=>?_
 refine A.AL.alloc 2 (cs:=[.string (ByteArray.mk #[])]) Tryd.zeroValue9 fun g3=>?_
 refine A.dl 2 ?_
 refine A.AL.alloc 3 (cs:=[.int .i64 0]) Tryd.zeroValue3 fun g4=>?_
 refine A.sw 3 [] [.int .i64 0] ?_
 refine A.dl 3 ?_
 refine A.q0 [0] [] [.b 0 0] [(7,.string a0)] ?_
 obtain⟨r5,hv6,hF⟩:=A.bd_some hF
 refine A.AL.call 4 [] (first:=[]) (cap:=[]) cf78 (rec_Runes_ok a0 h0_ r5 hv6) .nil ?_
 rintro _ _ ⟨g7,rfl,rfl,hr8⟩
 refine⟨by kernel_rfl,?_⟩
 refine A.dx 2 ?_
 obtain⟨xs9,hv10,hF⟩:=A.bd_some hF
 refine A.AX.rgfU 44 45 46 47 [0,1,2,4] [3,0,1,2,4] [45,44,3,0,1,2,4] (fun k nh=>∃(y23:Int),nh=[(3,.blk g4 3 [.int .i64 y23])]∧IntKind.i64.has y23∧F.rec_Cut_l1 a0 a1 (List.drop k xs9) y23=some r) [(3,.blk g4 3 [.int .i64 0])] cf97 (rec_Runes_1_it_sq r5 g7 hr8 xs9 hv10) (fun _=>rfl) ⟨0,rfl,(A.hasl .i64 (0) rfl),hF⟩ ?_ ?_ ?_ ?_
 ·rintro k19 _ D13 L14 u11 ⟨y23,rfl,hy24,hF⟩
  exact⟨⟨_,(.b 4 .nil),rfl⟩,by kernel_rfl,fun o p=>rfl⟩
 ·intro D13 L14
  exact⟨_,(.b 4 .nil)⟩
 ·rintro u11 ou12 k19 _ y20 D13 L14 w18 o15 ⟨y23,rfl,hy24,hF⟩ hx21 hxo22 hh17
  rw[A.drop_at hx21,F.rec_Cut_l1]at hF
  refine A.xl 0 ?_
  refine A.q0 [] [] [.n] [(6,.int .i64 y20.1)] ?_
  refine A.AL.done ?_
  refine A.AE.flip 44 45 fun o16=>?_
  refine A.xl 3 ?_
  refine A.q0 [1] [] [.n,.b 0 0,.n] [(13,.bool (decide (a1<y20.1)))] ?_
  refine A.dx 1 ?_
  refine A.AX.cnd rfl hF (fun hb hF=>?_) (fun hb hF=>?_)
  ·refine A.xl 1 ?_
   refine A.q0 [0,3] [] [.b 0 0,.b 1 0] [(14,.string a0),(15,.int .i64 y23)] ?_
   obtain⟨hc25,hF⟩:=A.gd_some hF
   refine A.AL.slh hc25 ?_
   refine A.sw 2 [] [.string (a0.extract 0 y23.toNat)] ?_
   refine A.dx 1 ?_
   refine A.AX.bret hh17 [45,0,1,2,3,4,44] 100000 [(45,100045),(0,100000),(1,100001),(2,100002),(3,100003),(4,100004),(44,100044)] [(0,.blk g1 9 [.string a0]),(1,.blk g2 3 [.int .i64 a1]),(2,.blk g3 9 [.string (a0.extract 0 y23.toNat)]),(3,.blk g4 3 [.int .i64 y23]),(4,.blk g7 9 [.string r5]),(44,.ob D13 A.dfT)] ?_ rfl rfl
   obtain rfl:=Option.some.inj hF
   exact A.AE.rtM (Ds:=[D13]) [44] [] (.string (a0.extract 0 y23.toNat)) (⟨rfl,trivial⟩) (fun a w hf hh=>Z.resv1 rfl (Z.rv_1 hf rfl Tryd.isAgg9 (A.Hp.blk hh 2))) (⟨rfl,rfl,(A.ext_le h0_)⟩)
  refine A.xl 2 ?_
  refine A.q0 [] [] [.n] [(17,.int .i64 y20.1)] ?_
  refine A.sw 3 [] [.int .i64 y20.1] ?_
  refine A.de 1 ?_
  exact A.AE.bn hh17 [45,44,3,0,1,2,4] 100000 [(45,100045),(44,100044),(46,46),(3,100003),(0,100000),(1,100001),(2,100002),(4,100004)] [(46,.ob u11 (fun x=>x=ou12)),(3,.blk g4 3 [.int .i64 y20.1])] ⟨_,rfl,y20.1,rfl,hxo22.1,hF⟩ rfl rfl
 rintro u11 _ D13 L14 ⟨y23,rfl,hy24,hF⟩
 rw[List.drop_length,F.rec_Cut_l1]at hF
 refine A.el 4 ?_
 refine A.q0 [0,1] [] [.b 0 0,.n,.b 1 0,.n] [(21,.bool (decide ((a0.size:Int)≤a1)))] ?_
 refine A.dx 1 ?_
 refine A.AX.cnd rfl hF (fun hb hF=>?_) (fun hb hF=>?_)
 ·refine A.xl 1 ?_
  refine A.q0 [0] [] [.b 0 0] [(22,.string a0)] ?_
  refine A.sw 2 [] [.string a0] ?_
  refine A.dx 1 ?_
  obtain rfl:=Option.some.inj hF
  exact A.AX.rtM (Ds:=[D13]) [44] [] (.string a0) (⟨rfl,trivial⟩) (fun a w hf hh=>Z.resv1 rfl (Z.rv_1 hf rfl Tryd.isAgg9 (A.Hp.blk hh 2))) (⟨rfl,rfl,h0_⟩)
 refine A.xl 3 ?_
 refine A.q0 [0,3] [] [.b 0 0,.b 1 0] [(23,.string a0),(24,.int .i64 y23)] ?_
 obtain⟨hc26,hF⟩:=A.gd_some hF
 refine A.AL.slh hc26 ?_
 refine A.sw 2 [] [.string (a0.extract 0 y23.toNat)] ?_
 refine A.dx 1 ?_
 obtain rfl:=Option.some.inj hF
 exact A.AX.rtM (Ds:=[D13]) [44] [] (.string (a0.extract 0 y23.toNat)) (⟨rfl,trivial⟩) (fun a w hf hh=>Z.resv1 rfl (Z.rv_1 hf rfl Tryd.isAgg9 (A.Hp.blk hh 2))) (⟨rfl,rfl,(A.ext_le h0_)⟩)
def F.fn_rest_j1 (y2:Int):Option Int:=some y2
def F.fn_rest (a0:Int)(a1:Int):Option Int:=A.gd (a1≠0) (if Int.tmod a0 a1<0 then(A.gd (Z.R64 ((Int.tmod a0 a1)+a1)) (F.fn_rest_j1 ((Int.tmod a0 a1)+a1)))else(F.fn_rest_j1 (Int.tmod a0 a1)))
theorem fn_rest_ok (a0:Int)(a1:Int)(h0_:IntKind.i64.has a0)(h1_:IntKind.i64.has a1)(r:Int)(hF:F.fn_rest a0 a1=some r):
    A.Ct Tryd.prog 58 [.int .i64 a0,.int .i64 a1] [] [] (fun v H'=>v=.int .i64 r∧H'=[]∧IntKind.i64.has r):=by
 refine A.Ct.enter Tryd.func58 rfl Tryd.ntmps58 rfl fun w0 F0=>?_
 rw[F.fn_rest]at hF
 refine A.xl 1 ?_
 refine A.q0 [] [] [.n] [] ?_
 refine A.dl 2 ?_
 obtain⟨hc1,hF⟩:=A.gd_some hF
 refine A.q [] [] [.n,.n,.n,.n] [a1≠0] [(0,.int .i64 (Int.tmod a0 a1))] hc1 ?_
 refine A.dx 1 ?_
 refine A.AX.join [] [] (fun nl nh=>∃(y2:Int),nl=[(0,.int .i64 y2)]∧nh=[]∧IntKind.i64.has y2∧F.fn_rest_j1 y2=some r) ?_ ?_
 ·refine A.xl 1 ?_
  refine A.q0 [] [] [.n,.n] [(9,.bool (decide (Int.tmod a0 a1<0)))] ?_
  refine A.dx 1 ?_
  refine A.AX.cnd rfl hF (fun hb hF=>?_) (fun hb hF=>?_)
  ·refine A.xl 0 ?_
   obtain⟨hc4,hF⟩:=A.gd_some hF
   refine A.q [] [] [.n,.n,.n,.n] [Z.R64 ((Int.tmod a0 a1)+a1)] [(0,.int .i64 ((Int.tmod a0 a1)+a1))] hc4 ?_
   refine A.AL.done ?_
   exact A.j ⟨((Int.tmod a0 a1)+a1),rfl,rfl,(Z.i64_has hc4),hF⟩
  refine A.xe 1 ?_
  exact A.j ⟨(Int.tmod a0 a1),rfl,rfl,(A.tmod_has h0_),hF⟩
 rintro _ _ ⟨y2,rfl,rfl,hy3,hF⟩
 rw[F.fn_rest_j1]at hF
 refine A.xl 1 ?_
 refine A.q0 [] [] [.n,.n] [(4,.int .i64 y2)] ?_
 refine A.dx 1 ?_
 obtain rfl:=Option.some.inj hF
 exact A.rt1 [] ⟨rfl,rfl,hy3⟩
end Go.Proofs.YtfpemeeadiigcaaDoor
end
section
set_option linter.unusedVariables false
set_option linter.unusedSimpArgs false
set_option maxRecDepth 20000
set_option maxHeartbeats 8000000
set_option synthInstance.maxSize 1000000
set_option synthInstance.maxHeartbeats 400000
namespace Go.Proofs.YtfpemeeadiigcaaDoor
open Go.RowKit
def F.fn_Map_j1 (y11:Int)(y13:ByteArray):Option (D59×Int):=some ((y11,y13),0)
def F.fn_Map (a0:D23)(a1:D59):Option (D59×Int):=(F.fn_both 2 (a0.1,a0.2.1,a0.2.2) (a1.1,a1.2)).bind fun r4=>(if r4≠0 then(some ((0,ByteArray.mk #[]),r4))else((F.fn_runes a1.2).bind fun r7=>(if a0.1=2 then((F.fn_upper a1.2).bind fun r15=>(F.fn_Map_j1 a1.1 r15))else(if a0.1=3 then(A.gd (0≤min ((r7).length:Int) a0.2.1∧(min ((r7).length:Int) a0.2.1).toNat≤(r7).length) (A.gd ((runesBytes (List.take ((min ((r7).length:Int) a0.2.1).toNat) r7)).size≤9223372036854775807) (F.fn_Map_j1 a1.1 (runesBytes (List.take ((min ((r7).length:Int) a0.2.1).toNat) r7)))))else(if a0.1=4 then((F.slices_Reverse_rune_rune r7).bind fun r22=>(A.gd ((runesBytes r22).size≤9223372036854775807) (F.fn_Map_j1 a1.1 (runesBytes r22))))else(if a0.1=5 then(A.gd (a1.2.size+a0.2.2.size≤9223372036854775807) ((F.rec_Cut (a1.2++a0.2.2) 64).bind fun r27=>(F.fn_Map_j1 a1.1 r27)))else(if a0.1=6 then((F.fn_rest a1.1 a0.2.1).bind fun r30=>(F.fn_Map_j1 r30 a1.2))else(if a0.1=7 then(F.fn_Map_j1 ((r7).length:Int) a1.2)else(if a0.1=8 then(if(0:Int)<((r7).length:Int)then((A.ix r7 0).bind fun x34=>(A.gd (Z.R64 (x34)) (F.fn_Map_j1 x34 a1.2)))else(F.fn_Map_j1 0 a1.2))else(F.fn_Map_j1 a1.1 a1.2))))))))))
theorem fn_Map_ok (a0:D23)(a1:D59)(h0_:IntKind.i64.has a0.1)(h1_:IntKind.i64.has a0.2.1)(h2_:a0.2.2.size≤maxLen)(h3_:IntKind.i64.has a1.1)(h4_:a1.2.size≤maxLen)(r:D59×Int)(hF:F.fn_Map a0 a1=some r):
    A.Ct Tryd.prog 36 [.agg #[.int .i64 a0.1,.int .i64 a0.2.1,.string a0.2.2],.agg #[.int .i64 a1.1,.string a1.2]] [(0,.el none 0 0 A.tabF),(1,.el none 1 0 A.tabA)] [] (fun v H'=>v=.tuple #[.agg #[.int .i64 r.1.1,.string r.1.2],.int .i64 r.2]∧H'=[]∧IntKind.i64.has r.1.1∧r.1.2.size≤maxLen∧IntKind.i64.has r.2):=by
 refine A.Ct.enter Tryd.func36 rfl Tryd.ntmps36 rfl fun w0 F0=>?_
 rw[F.fn_Map]at hF
 refine A.xl 1 ?_
 refine A.AL.box 2 (cs:=[.int .i64 a0.1,.int .i64 a0.2.1,.string a0.2.2]) fun g1=>?_
 refine A.AL.box 3 (cs:=[.int .i64 a1.1,.string a1.2]) fun g2=>?_
 refine A.AL.alloc 4 (cs:=[.int .i64 0,.string (ByteArray.mk #[])]) Tryd.zeroValue60 fun g3=>?_
 refine A.q0 [] [] [.n] [] ?_
 refine A.dl 3 ?_
 refine A.q0 [2,3] [] [.b 0 0,.b 1 0] [(8,.agg #[.int .i64 a0.1,.int .i64 a0.2.1,.string a0.2.2]),(9,.agg #[.int .i64 a1.1,.string a1.2])] ?_
 obtain⟨r4,hv5,hF⟩:=A.bd_some hF
 refine A.AL.call 5 [] (first:=[]) (cap:=[]) cf53 (fn_both_ok 2 (a0.1,a0.2.1,a0.2.2) (a1.1,a1.2) (A.hasl .i64 (2) rfl) h0_ h1_ h2_ h3_ h4_ r4 hv5) (.s 0 (.s 1 .nil)) ?_
 rintro _ _ ⟨rfl,rfl,hr6⟩
 refine⟨by kernel_rfl,?_⟩
 refine A.q0 [] [] [.n] [(6,.int .i64 r4)] ?_
 refine A.dl 2 ?_
 refine A.q0 [] [] [.n,.n] [(12,.bool (decide (r4≠0)))] ?_
 refine A.dx 1 ?_
 refine A.AX.cnd rfl hF (fun hb hF=>?_) (fun hb hF=>?_)
 ·refine A.xl 1 ?_
  refine A.q0 [] [] [.n,.n] [(13,.agg #[.int .i64 0,.string (ByteArray.mk #[])]),(14,.int .i64 r4)] ?_
  refine A.sw 4 [] [.int .i64 0,.string (ByteArray.mk #[])] ?_
  refine A.q0 [] [] [.n] [(5,.int .i64 r4)] ?_
  refine A.dx 1 ?_
  obtain rfl:=Option.some.inj hF
  exact A.AX.ret [] (.tuple #[.agg #[.int .i64 0,.string (ByteArray.mk #[])],.int .i64 r4]) (fun a w hf hh=>Z.resv2 rfl (Z.rv_n hf rfl Tryd.isAgg60 Tryd.sizeOf60 (A.Hp.blk hh 4) rfl) (Z.rv_t hf rfl)) (⟨rfl,rfl,(A.hasl .i64 (0) rfl),(A.szl (ByteArray.mk #[]) rfl),hr6⟩)
 refine A.xl 3 ?_
 refine A.q0 [3] [] [.n,.b 0 1] [(16,.string a1.2)] ?_
 obtain⟨r7,hv8,hF⟩:=A.bd_some hF
 refine A.AL.call 45 [] (first:=[]) (cap:=[]) cf54 (fn_runes_ok a1.2 h4_ r7 hv8) .nil ?_
 rintro _ _ ⟨A9,c10,rfl,rfl⟩
 refine⟨by kernel_rfl,?_⟩
 refine A.q0 [] [] [.n] [(7,.slice A9 ((r7).length) c10)] ?_
 refine A.dx 1 ?_
 refine A.AX.join [3,4] [0,1,4] (fun nl nh=>∃(y11:Int),∃(y13:ByteArray),nl=[]∧nh=[(3,.blk g2 60 [.int .i64 y11,.string y13])]∧IntKind.i64.has y11∧y13.size≤maxLen∧F.fn_Map_j1 y11 y13=some r) ?_ ?_
 ·refine A.xl 1 ?_
  refine A.q0 [2] [] [.n,.b 0 0] [(19,.int .i64 a0.1)] ?_
  refine A.dl 3 ?_
  refine A.q0 [] [] [.n,.n] [(20,.bool (decide (a0.1=2)))] ?_
  refine A.dx 1 ?_
  refine A.AX.cnd rfl hF (fun hb hF=>?_) (fun hb hF=>?_)
  ·refine A.xl 0 ?_
   refine A.q0 [3] [] [.n,.b 0 1] [(23,.string a1.2)] ?_
   obtain⟨r15,hv16,hF⟩:=A.bd_some hF
   refine A.AL.call 85 [] (first:=[]) (cap:=[]) cf55 (fn_upper_ok a1.2 h4_ r15 hv16) .nil ?_
   rintro _ _ ⟨rfl,rfl,hr17⟩
   refine⟨by kernel_rfl,?_⟩
   refine A.q0 [] [] [.n] [(25,.pointer (some ⟨g2,1,none⟩))] ?_
   refine A.AL.store 3 [] (new:=[.string r15]) (cs':=[.int .i64 a1.1,.string r15]) ?_
   refine A.de 1 ?_
   exact A.j ⟨a1.1,r15,rfl,rfl,h3_,hr17,hF⟩
  refine A.xl 1 ?_
  refine A.q0 [] [] [.n,.n] [(26,.bool (decide (a0.1=3)))] ?_
  refine A.dx 1 ?_
  refine A.AX.cnd rfl hF (fun hb hF=>?_) (fun hb hF=>?_)
  ·refine A.xl 0 ?_
   refine A.q0 [2] [] [.n,.n,.n,.n,.b 0 1,.n] [(28,.slice A9 ((r7).length) c10),(33,.int .i64 (min ((r7).length:Int) a0.2.1))] ?_
   obtain⟨hc18,hF⟩:=A.gd_some hF
   refine A.AL.cuto 45 [] (v:=(min ((r7).length:Int) a0.2.1).toNat) (Int.toNat_of_nonneg hc18.1).symm hc18.2 ?_
   obtain⟨hl21,hF⟩:=A.gd_some hF
   refine A.AL.cvr (A.rowO (k:=45) rfl) rfl ?_
   refine A.q0 [] [] [.n] [(36,.pointer (some ⟨g2,1,none⟩))] ?_
   refine A.AL.store 3 [] (new:=[.string (runesBytes (List.take ((min ((r7).length:Int) a0.2.1).toNat) r7))]) (cs':=[.int .i64 a1.1,.string (runesBytes (List.take ((min ((r7).length:Int) a0.2.1).toNat) r7))]) ?_
   refine A.de 1 ?_
   exact A.j ⟨a1.1,(runesBytes (List.take ((min ((r7).length:Int) a0.2.1).toNat) r7)),rfl,rfl,h3_,(A.le_max hl21),hF⟩
  refine A.xl 1 ?_
  refine A.q0 [] [] [.n,.n] [(37,.bool (decide (a0.1=4)))] ?_
  refine A.dx 1 ?_
  refine A.AX.cnd rfl hF (fun hb hF=>?_) (fun hb hF=>?_)
  ·refine A.xl 1 ?_
   refine A.q0 [] [] [.n] [(39,.slice A9 ((r7).length) c10)] ?_
   obtain⟨r22,hv23,hF⟩:=A.bd_some hF
   refine A.AL.call 126 [] (first:=[]) (cap:=[]) cf56 (slices_Reverse_rune_rune_ok r7 A9 c10 r22 hv23) (.m 45 .nil) ?_
   rintro _ _ ⟨rfl,rfl,hr24⟩
   refine⟨by kernel_rfl,?_⟩
   refine A.mvd 126 45 [] ?_
   refine A.dl 1 ?_
   refine A.q0 [] [] [.n] [(41,.slice A9 ((r7).length) c10)] ?_
   refine A.cst 41 (Z.slice_n (show(r7).length=(r22).length from(Eq.symm hr24))) ?_
   obtain⟨hl25,hF⟩:=A.gd_some hF
   refine A.AL.cvr (A.rowO (k:=45) rfl) rfl ?_
   refine A.q0 [] [] [.n] [(43,.pointer (some ⟨g2,1,none⟩))] ?_
   refine A.AL.store 3 [] (new:=[.string (runesBytes r22)]) (cs':=[.int .i64 a1.1,.string (runesBytes r22)]) ?_
   refine A.de 1 ?_
   exact A.j ⟨a1.1,(runesBytes r22),rfl,rfl,h3_,(A.le_max hl25),hF⟩
  refine A.xl 1 ?_
  refine A.q0 [] [] [.n,.n] [(44,.bool (decide (a0.1=5)))] ?_
  refine A.dx 1 ?_
  refine A.AX.cnd rfl hF (fun hb hF=>?_) (fun hb hF=>?_)
  ·refine A.xl 0 ?_
   obtain⟨hc26,hF⟩:=A.gd_some hF
   refine A.q [3,2] [] [.n,.b 0 1,.n,.b 1 2,.n] [a1.2.size+a0.2.2.size≤9223372036854775807] [(50,.string (a1.2++a0.2.2))] hc26 ?_
   obtain⟨r27,hv28,hF⟩:=A.bd_some hF
   refine A.AL.call 166 [] (first:=[]) (cap:=[]) cf57 (rec_Cut_ok (a1.2++a0.2.2) 64 (A.cat_le hc26) (A.hasl .i64 (64) rfl) r27 hv28) .nil ?_
   rintro _ _ ⟨rfl,rfl,hr29⟩
   refine⟨by kernel_rfl,?_⟩
   refine A.q0 [] [] [.n] [(52,.pointer (some ⟨g2,1,none⟩))] ?_
   refine A.AL.store 3 [] (new:=[.string r27]) (cs':=[.int .i64 a1.1,.string r27]) ?_
   refine A.de 1 ?_
   exact A.j ⟨a1.1,r27,rfl,rfl,h3_,hr29,hF⟩
  refine A.xl 1 ?_
  refine A.q0 [] [] [.n,.n] [(53,.bool (decide (a0.1=6)))] ?_
  refine A.dx 1 ?_
  refine A.AX.cnd rfl hF (fun hb hF=>?_) (fun hb hF=>?_)
  ·refine A.xl 0 ?_
   refine A.q0 [3,2] [] [.n,.b 0 0,.n,.b 1 1] [(56,.int .i64 a1.1),(58,.int .i64 a0.2.1)] ?_
   obtain⟨r30,hv31,hF⟩:=A.bd_some hF
   refine A.AL.call 206 [] (first:=[]) (cap:=[]) cf58 (fn_rest_ok a1.1 a0.2.1 h3_ h1_ r30 hv31) .nil ?_
   rintro _ _ ⟨rfl,rfl,hr32⟩
   refine⟨by kernel_rfl,?_⟩
   refine A.q0 [] [] [.n] [(60,.pointer (some ⟨g2,0,none⟩))] ?_
   refine A.AL.store 3 [] (new:=[.int .i64 r30]) (cs':=[.int .i64 r30,.string a1.2]) ?_
   refine A.de 1 ?_
   exact A.j ⟨r30,a1.2,rfl,rfl,hr32,h4_,hF⟩
  refine A.xl 1 ?_
  refine A.q0 [] [] [.n,.n] [(61,.bool (decide (a0.1=7)))] ?_
  refine A.dx 1 ?_
  refine A.AX.cnd rfl hF (fun hb hF=>?_) (fun hb hF=>?_)
  ·refine A.xl 0 ?_
   refine A.q0 [] [] [.n,.n,.n] [(64,.int .i64 ((r7).length:Int)),(65,.pointer (some ⟨g2,0,none⟩))] ?_
   refine A.AL.store 3 [] (new:=[.int .i64 ((r7).length:Int)]) (cs':=[.int .i64 ((r7).length:Int),.string a1.2]) ?_
   refine A.de 1 ?_
   refine A.oko 45 fun hl33=>?_
   exact A.j ⟨((r7).length:Int),a1.2,rfl,rfl,(A.has_len hl33.1),h4_,hF⟩
  refine A.xl 1 ?_
  refine A.q0 [] [] [.n,.n] [(66,.bool (decide (a0.1=8)))] ?_
  refine A.dx 1 ?_
  refine A.AX.cnd rfl hF (fun hb hF=>?_) (fun hb hF=>?_)
  ·refine A.xl 1 ?_
   refine A.q0 [] [] [.n] [(68,.pointer (some ⟨g2,0,none⟩))] ?_
   refine A.AL.store 3 [] (new:=[.int .i64 0]) (cs':=[.int .i64 0,.string a1.2]) ?_
   refine A.dl 2 ?_
   refine A.q0 [] [] [.n,.n,.n] [(71,.bool (decide ((0:Int)<((r7).length:Int))))] ?_
   refine A.dx 1 ?_
   refine A.AX.cnd rfl hF (fun hb hF=>?_) (fun hb hF=>?_)
   ·refine A.xl 0 ?_
    refine A.q0 [] [] [.n] [(72,.slice A9 ((r7).length) c10)] ?_
    obtain⟨x34,hv35,hF⟩:=A.bd_some hF
    refine A.AL.ixo 45 246 hv35 fun ho36=>?_
    intro g37 hA38
    obtain⟨hc39,hF⟩:=A.gd_some hF
    refine A.q [] [246] [.e 0 0,.n,.n] [Z.R64 (x34)] [(75,.int .i64 x34),(76,.pointer (some ⟨g2,0,none⟩))] hc39 ?_
    refine A.AL.store 3 [] (new:=[.int .i64 x34]) (cs':=[.int .i64 x34,.string a1.2]) ?_
    refine A.de 1 ?_
    exact A.j ⟨x34,a1.2,rfl,rfl,(Z.i64_has hc39),h4_,hF⟩
   refine A.xe 2 ?_
   exact A.j ⟨0,a1.2,rfl,rfl,(A.hasl .i64 (0) rfl),h4_,hF⟩
  refine A.xe 2 ?_
  exact A.j ⟨a1.1,a1.2,rfl,rfl,h3_,h4_,hF⟩
 rintro _ _ ⟨y11,y13,rfl,rfl,hy12,hy14,hF⟩
 rw[F.fn_Map_j1]at hF
 refine A.xl 1 ?_
 refine A.q0 [3] [] [.b 0 0] [(77,.agg #[.int .i64 y11,.string y13])] ?_
 refine A.sw 4 [] [.int .i64 y11,.string y13] ?_
 refine A.q0 [] [] [.n] [(5,.int .i64 0)] ?_
 refine A.dx 1 ?_
 obtain rfl:=Option.some.inj hF
 exact A.AX.ret [] (.tuple #[.agg #[.int .i64 y11,.string y13],.int .i64 0]) (fun a w hf hh=>Z.resv2 rfl (Z.rv_n hf rfl Tryd.isAgg60 Tryd.sizeOf60 (A.Hp.blk hh 4) rfl) (Z.rv_t hf rfl)) (⟨rfl,rfl,hy12,hy14,(A.hasl .i64 (0) rfl)⟩)
def F.schema_moved_j1 (a0:D25)(y5:Int)(y7:ByteArray)(y9:Int):Option D38:=some (a0.1,y5,y7,y9)
def F.schema_moved (a0:D25)(a1:D27)(a2:D38):Option D38:=if a1.2.2.1=2 then((F.schema_scaled a2.2.2.2 a1.2.2.2.1).bind fun r11=>(F.schema_moved_j1 a0 a2.2.1 a2.2.2.1 r11))else(if a1.2.2.1=3 then((F.fn_Map (a1.2.2.2.2.1,a1.2.2.2.2.2.1,a1.2.2.2.2.2.2) (a2.2.1,a2.2.2.1)).bind fun r14=>(if a0.2.1=16 then(F.schema_moved_j1 a0 r14.1.1 r14.1.2 a2.2.2.2)else(F.schema_moved_j1 a0 r14.1.1 a2.2.2.1 a2.2.2.2)))else(F.schema_moved_j1 a0 a2.2.1 a2.2.2.1 a2.2.2.2))
theorem schema_moved_ok (a0:D25)(a1:D27)(a2:D38)(A2_:Option Addr)(c3_:Nat)(h0_:IntKind.i64.has a0.1)(h1_:IntKind.i64.has a0.2.1)(h4_:IntKind.i64.has a0.2.2.2.1.1)(h5_:IntKind.i64.has a0.2.2.2.1.2.1)(h6_:a0.2.2.2.1.2.2.size≤maxLen)(h7_:a0.2.2.2.2.1.size≤maxLen)(h8_:IntKind.i64.has a0.2.2.2.2.2.1)(h9_:IntKind.i64.has a0.2.2.2.2.2.2)(h10_:IntKind.i64.has a1.1)(h11_:IntKind.i64.has a1.2.1)(h12_:IntKind.i64.has a1.2.2.1)(h13_:IntKind.i64.has a1.2.2.2.1)(h14_:IntKind.i64.has a1.2.2.2.2.1)(h15_:IntKind.i64.has a1.2.2.2.2.2.1)(h16_:a1.2.2.2.2.2.2.size≤maxLen)(h17_:IntKind.i64.has a2.1)(h18_:IntKind.i64.has a2.2.1)(h19_:a2.2.2.1.size≤maxLen)(h20_:IntKind.i64.has a2.2.2.2)(r:D38)(hF:F.schema_moved a0 a1 a2=some r):
    A.Ct Tryd.prog 22 [.agg #[.int .i64 a0.1,.int .i64 a0.2.1,.slice A2_ ((a0.2.2.1).length) c3_,.int .i64 a0.2.2.2.1.1,.int .i64 a0.2.2.2.1.2.1,.string a0.2.2.2.1.2.2,.string a0.2.2.2.2.1,.int .i64 a0.2.2.2.2.2.1,.int .i64 a0.2.2.2.2.2.2],.agg #[.int .i64 a1.1,.int .i64 a1.2.1,.int .i64 a1.2.2.1,.int .i64 a1.2.2.2.1,.int .i64 a1.2.2.2.2.1,.int .i64 a1.2.2.2.2.2.1,.string a1.2.2.2.2.2.2],.agg #[.int .i64 a2.1,.int .i64 a2.2.1,.string a2.2.2.1,.int .i64 a2.2.2.2]] [(0,.sh (.slice (Z.Ty.int .i64)) [.slice A2_ (a0.2.2.1).length c3_] a0.2.2.1),(1,.el none 0 0 A.tabF),(2,.el none 1 0 A.tabA)] [] (fun v H'=>v=.agg #[.int .i64 r.1,.int .i64 r.2.1,.string r.2.2.1,.int .i64 r.2.2.2]∧H'=[]∧IntKind.i64.has r.1∧IntKind.i64.has r.2.1∧r.2.2.1.size≤maxLen∧IntKind.i64.has r.2.2.2):=by
 refine A.Ct.enter Tryd.func22 rfl Tryd.ntmps22 rfl fun w0 F0=>?_
 rw[F.schema_moved]at hF
 refine A.xl 1 ?_
 refine A.AL.box 3 (cs:=[.int .i64 a0.1,.int .i64 a0.2.1,.slice A2_ ((a0.2.2.1).length) c3_,.int .i64 a0.2.2.2.1.1,.int .i64 a0.2.2.2.1.2.1,.string a0.2.2.2.1.2.2,.string a0.2.2.2.2.1,.int .i64 a0.2.2.2.2.2.1,.int .i64 a0.2.2.2.2.2.2]) fun g1=>?_
 refine A.AL.box 4 (cs:=[.int .i64 a1.1,.int .i64 a1.2.1,.int .i64 a1.2.2.1,.int .i64 a1.2.2.2.1,.int .i64 a1.2.2.2.2.1,.int .i64 a1.2.2.2.2.2.1,.string a1.2.2.2.2.2.2]) fun g2=>?_
 refine A.AL.box 5 (cs:=[.int .i64 a2.1,.int .i64 a2.2.1,.string a2.2.2.1,.int .i64 a2.2.2.2]) fun g3=>?_
 refine A.AL.alloc 6 (cs:=[.int .i64 0,.int .i64 0,.string (ByteArray.mk #[]),.int .i64 0]) Tryd.zeroValue39 fun g4=>?_
 refine A.dl 2 ?_
 refine A.q0 [3] [] [.n,.b 0 0,.n] [(10,.int .i64 a0.1),(11,.pointer (some ⟨g3,0,none⟩))] ?_
 refine A.AL.store 5 [] (new:=[.int .i64 a0.1]) (cs':=[.int .i64 a0.1,.int .i64 a2.2.1,.string a2.2.2.1,.int .i64 a2.2.2.2]) ?_
 refine A.dx 1 ?_
 refine A.AX.join [5,6] [1,2,6] (fun nl nh=>∃(y5:Int),∃(y7:ByteArray),∃(y9:Int),nl=[]∧nh=[(5,.blk g3 39 [.int .i64 a0.1,.int .i64 y5,.string y7,.int .i64 y9])]∧IntKind.i64.has y5∧y7.size≤maxLen∧IntKind.i64.has y9∧F.schema_moved_j1 a0 y5 y7 y9=some r) ?_ ?_
 ·refine A.xl 1 ?_
  refine A.q0 [4] [] [.n,.b 0 2] [(13,.int .i64 a1.2.2.1)] ?_
  refine A.dl 3 ?_
  refine A.q0 [] [] [.n,.n] [(14,.bool (decide (a1.2.2.1=2)))] ?_
  refine A.dx 1 ?_
  refine A.AX.cnd rfl hF (fun hb hF=>?_) (fun hb hF=>?_)
  ·refine A.xl 0 ?_
   refine A.q0 [5,4] [] [.n,.b 0 3,.n,.b 1 3] [(17,.int .i64 a2.2.2.2),(19,.int .i64 a1.2.2.2.1)] ?_
   obtain⟨r11,hv12,hF⟩:=A.bd_some hF
   refine A.AL.call 7 [] (first:=[]) (cap:=[]) cf35 (schema_scaled_ok a2.2.2.2 a1.2.2.2.1 h20_ h13_ r11 hv12) .nil ?_
   rintro _ _ ⟨rfl,rfl,hr13⟩
   refine⟨by kernel_rfl,?_⟩
   refine A.q0 [] [] [.n] [(21,.pointer (some ⟨g3,3,none⟩))] ?_
   refine A.AL.store 5 [] (new:=[.int .i64 r11]) (cs':=[.int .i64 a0.1,.int .i64 a2.2.1,.string a2.2.2.1,.int .i64 r11]) ?_
   refine A.de 1 ?_
   exact A.j ⟨a2.2.1,a2.2.2.1,r11,rfl,rfl,h18_,h19_,hr13,hF⟩
  refine A.xl 1 ?_
  refine A.q0 [] [] [.n,.n] [(22,.bool (decide (a1.2.2.1=3)))] ?_
  refine A.dx 1 ?_
  refine A.AX.cnd rfl hF (fun hb hF=>?_) (fun hb hF=>?_)
  ·refine A.xl 1 ?_
   refine A.q0 [4,5] [] [.n,.b 0 4,.n,.b 1 1,.n,.b 1 2,.n] [(26,.agg #[.int .i64 a1.2.2.2.2.1,.int .i64 a1.2.2.2.2.2.1,.string a1.2.2.2.2.2.2]),(31,.agg #[.int .i64 a2.2.1,.string a2.2.2.1])] ?_
   obtain⟨r14,hv15,hF⟩:=A.bd_some hF
   refine A.AL.call 47 [] (first:=[]) (cap:=[]) cf36 (fn_Map_ok (a1.2.2.2.2.1,a1.2.2.2.2.2.1,a1.2.2.2.2.2.2) (a2.2.1,a2.2.2.1) h14_ h15_ h16_ h18_ h19_ r14 hv15) (.s 1 (.s 2 .nil)) ?_
   rintro _ _ ⟨rfl,rfl,hr16,hr17,hr18⟩
   refine⟨by kernel_rfl,?_⟩
   refine A.q0 [] [] [.n,.n,.n] [(33,.agg #[.int .i64 r14.1.1,.string r14.1.2]),(34,.int .i64 r14.2)] ?_
   refine A.AL.alloc 87 (cs:=[.int .i64 0,.string (ByteArray.mk #[])]) Tryd.zeroValue60 fun g19=>?_
   refine A.sw 87 [] [.int .i64 r14.1.1,.string r14.1.2] ?_
   refine A.q0 [] [] [.n] [] ?_
   refine A.dl 2 ?_
   refine A.q0 [87] [] [.n,.b 0 0,.n] [(36,.int .i64 r14.1.1),(37,.pointer (some ⟨g3,1,none⟩))] ?_
   refine A.AL.store 5 [] (new:=[.int .i64 r14.1.1]) (cs':=[.int .i64 a0.1,.int .i64 r14.1.1,.string a2.2.2.1,.int .i64 a2.2.2.2]) ?_
   refine A.dl 2 ?_
   refine A.q0 [3] [] [.n,.b 0 1,.n] [(40,.bool (decide (a0.2.1=16)))] ?_
   refine A.dx 1 ?_
   refine A.AX.cnd rfl hF (fun hb hF=>?_) (fun hb hF=>?_)
   ·refine A.xl 0 ?_
    refine A.q0 [87] [] [.n,.b 0 1,.n] [(42,.string r14.1.2),(43,.pointer (some ⟨g3,2,none⟩))] ?_
    refine A.AL.store 5 [] (new:=[.string r14.1.2]) (cs':=[.int .i64 a0.1,.int .i64 r14.1.1,.string r14.1.2,.int .i64 a2.2.2.2]) ?_
    refine A.de 1 ?_
    exact A.j ⟨r14.1.1,r14.1.2,a2.2.2.2,rfl,rfl,hr16,hr17,h20_,hF⟩
   refine A.xe 2 ?_
   exact A.j ⟨r14.1.1,a2.2.2.1,a2.2.2.2,rfl,rfl,hr16,h19_,h20_,hF⟩
  refine A.xe 2 ?_
  exact A.j ⟨a2.2.1,a2.2.2.1,a2.2.2.2,rfl,rfl,h18_,h19_,h20_,hF⟩
 rintro _ _ ⟨y5,y7,y9,rfl,rfl,hy6,hy8,hy10,hF⟩
 rw[F.schema_moved_j1]at hF
 refine A.xl 1 ?_
 refine A.q0 [5] [] [.b 0 0] [(44,.agg #[.int .i64 a0.1,.int .i64 y5,.string y7,.int .i64 y9])] ?_
 refine A.sw 6 [] [.int .i64 a0.1,.int .i64 y5,.string y7,.int .i64 y9] ?_
 refine A.dx 1 ?_
 obtain rfl:=Option.some.inj hF
 exact A.AX.ret [] (.agg #[.int .i64 a0.1,.int .i64 y5,.string y7,.int .i64 y9]) (fun a w hf hh=>Z.resv1 rfl (Z.rv_n hf rfl Tryd.isAgg39 Tryd.sizeOf39 (A.Hp.blk hh 6) rfl)) (⟨rfl,rfl,h0_,hy6,hy8,hy10⟩)
def F.cmp_isNaN_int (a0:Int):Option Bool:=some (decide (a0≠a0))
theorem cmp_isNaN_int_ok (a0:Int)(h0_:IntKind.i64.has a0)(r:Bool)(hF:F.cmp_isNaN_int a0=some r):
    A.Ct Tryd.prog 61 [.int .i64 a0] [] [] (fun v H'=>v=.bool r∧H'=[]):=by
 refine A.Ct.enter Tryd.func61 rfl Tryd.ntmps61 rfl fun w0 F0=>?_
 rw[F.cmp_isNaN_int]at hF
 refine A.xl 1 ?_
 refine A.q0 [] [] [.n] [] ?_
 refine A.dl 2 ?_
 refine A.q0 [] [] [.n,.n,.n,.n] [(2,.bool (decide (a0≠a0)))] ?_
 refine A.dx 1 ?_
 obtain rfl:=Option.some.inj hF
 exact A.rt1 [] ⟨rfl,rfl⟩
def F.cmp_Compare_int (a0:Int)(a1:Int):Option Int:=(F.cmp_isNaN_int a0).bind fun r1=>((F.cmp_isNaN_int a1).bind fun r3=>(if r1=true then(if r3=true then(some 0)else(some (-1)))else(if r3=true then(some 1)else(if a0<a1 then(some (-1))else(if a1<a0 then(some 1)else(some 0))))))
theorem cmp_Compare_int_ok (a0:Int)(a1:Int)(h0_:IntKind.i64.has a0)(h1_:IntKind.i64.has a1)(r:Int)(hF:F.cmp_Compare_int a0 a1=some r):
    A.Ct Tryd.prog 40 [.int .i64 a0,.int .i64 a1] [] [] (fun v H'=>v=.int .i64 r∧H'=[]∧IntKind.i64.has r):=by
 refine A.Ct.enter Tryd.func40 rfl Tryd.ntmps40 rfl fun w0 F0=>?_
 rw[F.cmp_Compare_int]at hF
 refine A.xl 1 ?_
 refine A.q0 [] [] [.n] [] ?_
 refine A.dl 2 ?_
 refine A.q0 [] [] [.n] [(7,.int .i64 a0)] ?_
 obtain⟨r1,hv2,hF⟩:=A.bd_some hF
 refine A.AL.call 0 [] (first:=[]) (cap:=[]) cf61 (cmp_isNaN_int_ok a0 h0_ r1 hv2) .nil ?_
 rintro _ _ ⟨rfl,rfl⟩
 refine⟨by kernel_rfl,?_⟩
 refine A.q0 [] [] [.n] [(5,.bool r1)] ?_
 refine A.dl 2 ?_
 refine A.q0 [] [] [.n] [(9,.int .i64 a1)] ?_
 obtain⟨r3,hv4,hF⟩:=A.bd_some hF
 refine A.AL.call 40 [] (first:=[]) (cap:=[]) cf61 (cmp_isNaN_int_ok a1 h1_ r3 hv4) .nil ?_
 rintro _ _ ⟨rfl,rfl⟩
 refine⟨by kernel_rfl,?_⟩
 refine A.q0 [] [] [.n] [(6,.bool r3)] ?_
 refine A.dl 3 ?_
 refine A.q0 [] [] [.n] [(11,.bool r1)] ?_
 refine A.dx 1 ?_
 refine A.AX.cnb rfl hF (fun hb hF=>?_) (fun hb hF=>?_)
 ·refine A.xl 2 ?_
  refine A.q0 [] [] [.n] [(12,.bool r3)] ?_
  refine A.dx 1 ?_
  refine A.AX.cnb rfl hF (fun hb hF=>?_) (fun hb hF=>?_)
  ·refine A.xl 1 ?_
   refine A.q0 [] [] [.n] [(4,.int .i64 0)] ?_
   refine A.dx 1 ?_
   obtain rfl:=Option.some.inj hF
   exact A.rt1 [] ⟨rfl,rfl,(A.hasl .i64 (0) rfl)⟩
  refine A.xl 3 ?_
  refine A.q0 [] [] [.n] [(4,.int .i64 (-1))] ?_
  refine A.dx 1 ?_
  obtain rfl:=Option.some.inj hF
  exact A.rt1 [] ⟨rfl,rfl,(A.hasl .i64 (-1) rfl)⟩
 refine A.xl 4 ?_
 refine A.q0 [] [] [.n] [(13,.bool r3)] ?_
 refine A.dx 1 ?_
 refine A.AX.cnb rfl hF (fun hb hF=>?_) (fun hb hF=>?_)
 ·refine A.xl 1 ?_
  refine A.q0 [] [] [.n] [(4,.int .i64 1)] ?_
  refine A.dx 1 ?_
  obtain rfl:=Option.some.inj hF
  exact A.rt1 [] ⟨rfl,rfl,(A.hasl .i64 (1) rfl)⟩
 refine A.xl 4 ?_
 refine A.q0 [] [] [.n,.n,.n] [(16,.bool (decide (a0<a1)))] ?_
 refine A.dx 1 ?_
 refine A.AX.cnd rfl hF (fun hb hF=>?_) (fun hb hF=>?_)
 ·refine A.xl 1 ?_
  refine A.q0 [] [] [.n] [(4,.int .i64 (-1))] ?_
  refine A.dx 1 ?_
  obtain rfl:=Option.some.inj hF
  exact A.rt1 [] ⟨rfl,rfl,(A.hasl .i64 (-1) rfl)⟩
 refine A.xl 4 ?_
 refine A.q0 [] [] [.n,.n,.n] [(19,.bool (decide (a1<a0)))] ?_
 refine A.dx 1 ?_
 refine A.AX.cnd rfl hF (fun hb hF=>?_) (fun hb hF=>?_)
 ·refine A.xl 1 ?_
  refine A.q0 [] [] [.n] [(4,.int .i64 1)] ?_
  refine A.dx 1 ?_
  obtain rfl:=Option.some.inj hF
  exact A.rt1 [] ⟨rfl,rfl,(A.hasl .i64 (1) rfl)⟩
 refine A.xl 3 ?_
 refine A.q0 [] [] [.n] [(4,.int .i64 0)] ?_
 refine A.dx 1 ?_
 obtain rfl:=Option.some.inj hF
 exact A.rt1 [] ⟨rfl,rfl,(A.hasl .i64 (0) rfl)⟩
def F.cmp_isNaN_string (a0:ByteArray):Option Bool:=some (decide (a0≠a0))
theorem cmp_isNaN_string_ok (a0:ByteArray)(h0_:a0.size≤maxLen)(r:Bool)(hF:F.cmp_isNaN_string a0=some r):
    A.Ct Tryd.prog 63 [.string a0] [] [] (fun v H'=>v=.bool r∧H'=[]):=by
 refine A.Ct.enter Tryd.func63 rfl Tryd.ntmps63 rfl fun w0 F0=>?_
 rw[F.cmp_isNaN_string]at hF
 refine A.xl 1 ?_
 refine A.q0 [] [] [.n] [] ?_
 refine A.dl 2 ?_
 refine A.q0 [] [] [.n,.n,.n,.n] [(2,.bool (decide (a0≠a0)))] ?_
 refine A.dx 1 ?_
 obtain rfl:=Option.some.inj hF
 exact A.rt1 [] ⟨rfl,rfl⟩
def F.cmp_Compare_string (a0:ByteArray)(a1:ByteArray):Option Int:=(F.cmp_isNaN_string a0).bind fun r1=>((F.cmp_isNaN_string a1).bind fun r3=>(if r1=true then(if r3=true then(some 0)else(some (-1)))else(if r3=true then(some 1)else(if(Op.bytesLess a0.toList a1.toList)=true then(some (-1))else(if(!(Op.bytesLess a0.toList a1.toList||a0.toList==a1.toList))=true then(some 1)else(some 0))))))
theorem cmp_Compare_string_ok (a0:ByteArray)(a1:ByteArray)(h0_:a0.size≤maxLen)(h1_:a1.size≤maxLen)(r:Int)(hF:F.cmp_Compare_string a0 a1=some r):
    A.Ct Tryd.prog 42 [.string a0,.string a1] [] [] (fun v H'=>v=.int .i64 r∧H'=[]∧IntKind.i64.has r):=by
 refine A.Ct.enter Tryd.func42 rfl Tryd.ntmps42 rfl fun w0 F0=>?_
 rw[F.cmp_Compare_string]at hF
 refine A.xl 1 ?_
 refine A.q0 [] [] [.n] [] ?_
 refine A.dl 2 ?_
 refine A.q0 [] [] [.n] [(7,.string a0)] ?_
 obtain⟨r1,hv2,hF⟩:=A.bd_some hF
 refine A.AL.call 0 [] (first:=[]) (cap:=[]) cf63 (cmp_isNaN_string_ok a0 h0_ r1 hv2) .nil ?_
 rintro _ _ ⟨rfl,rfl⟩
 refine⟨by kernel_rfl,?_⟩
 refine A.q0 [] [] [.n] [(5,.bool r1)] ?_
 refine A.dl 2 ?_
 refine A.q0 [] [] [.n] [(9,.string a1)] ?_
 obtain⟨r3,hv4,hF⟩:=A.bd_some hF
 refine A.AL.call 40 [] (first:=[]) (cap:=[]) cf63 (cmp_isNaN_string_ok a1 h1_ r3 hv4) .nil ?_
 rintro _ _ ⟨rfl,rfl⟩
 refine⟨by kernel_rfl,?_⟩
 refine A.q0 [] [] [.n] [(6,.bool r3)] ?_
 refine A.dl 3 ?_
 refine A.q0 [] [] [.n] [(11,.bool r1)] ?_
 refine A.dx 1 ?_
 refine A.AX.cnb rfl hF (fun hb hF=>?_) (fun hb hF=>?_)
 ·refine A.xl 2 ?_
  refine A.q0 [] [] [.n] [(12,.bool r3)] ?_
  refine A.dx 1 ?_
  refine A.AX.cnb rfl hF (fun hb hF=>?_) (fun hb hF=>?_)
  ·refine A.xl 1 ?_
   refine A.q0 [] [] [.n] [(4,.int .i64 0)] ?_
   refine A.dx 1 ?_
   obtain rfl:=Option.some.inj hF
   exact A.rt1 [] ⟨rfl,rfl,(A.hasl .i64 (0) rfl)⟩
  refine A.xl 3 ?_
  refine A.q0 [] [] [.n] [(4,.int .i64 (-1))] ?_
  refine A.dx 1 ?_
  obtain rfl:=Option.some.inj hF
  exact A.rt1 [] ⟨rfl,rfl,(A.hasl .i64 (-1) rfl)⟩
 refine A.xl 4 ?_
 refine A.q0 [] [] [.n] [(13,.bool r3)] ?_
 refine A.dx 1 ?_
 refine A.AX.cnb rfl hF (fun hb hF=>?_) (fun hb hF=>?_)
 ·refine A.xl 1 ?_
  refine A.q0 [] [] [.n] [(4,.int .i64 1)] ?_
  refine A.dx 1 ?_
  obtain rfl:=Option.some.inj hF
  exact A.rt1 [] ⟨rfl,rfl,(A.hasl .i64 (1) rfl)⟩
 refine A.xl 4 ?_
 refine A.q0 [] [] [.n,.n,.n] [(16,.bool (Op.bytesLess a0.toList a1.toList))] ?_
 refine A.dx 1 ?_
 refine A.AX.cnb rfl hF (fun hb hF=>?_) (fun hb hF=>?_)
 ·refine A.xl 1 ?_
  refine A.q0 [] [] [.n] [(4,.int .i64 (-1))] ?_
  refine A.dx 1 ?_
  obtain rfl:=Option.some.inj hF
  exact A.rt1 [] ⟨rfl,rfl,(A.hasl .i64 (-1) rfl)⟩
 refine A.xl 4 ?_
 refine A.q0 [] [] [.n,.n,.n] [(19,.bool (!(Op.bytesLess a0.toList a1.toList||a0.toList==a1.toList)))] ?_
 refine A.dx 1 ?_
 refine A.AX.cnb rfl hF (fun hb hF=>?_) (fun hb hF=>?_)
 ·refine A.xl 1 ?_
  refine A.q0 [] [] [.n] [(4,.int .i64 1)] ?_
  refine A.dx 1 ?_
  obtain rfl:=Option.some.inj hF
  exact A.rt1 [] ⟨rfl,rfl,(A.hasl .i64 (1) rfl)⟩
 refine A.xl 3 ?_
 refine A.q0 [] [] [.n] [(4,.int .i64 0)] ?_
 refine A.dx 1 ?_
 obtain rfl:=Option.some.inj hF
 exact A.rt1 [] ⟨rfl,rfl,(A.hasl .i64 (0) rfl)⟩
def F.schema_state_list_1 (a0:D38)(a1:D38):Option Int:=(F.cmp_Compare_int a0.1 a1.1).bind fun r3=>((F.cmp_Compare_int64 a0.2.1 a1.2.1).bind fun r6=>((F.cmp_Compare_string a0.2.2.1 a1.2.2.1).bind fun r9=>((F.cmp_Or_int [r3,r6,r9]).bind fun r13=>(some r13))))
theorem schema_state_list_1_ok (a0:D38)(a1:D38)(h0_:IntKind.i64.has a0.1)(h1_:IntKind.i64.has a0.2.1)(h2_:a0.2.2.1.size≤maxLen)(h3_:IntKind.i64.has a0.2.2.2)(h4_:IntKind.i64.has a1.1)(h5_:IntKind.i64.has a1.2.1)(h6_:a1.2.2.1.size≤maxLen)(h7_:IntKind.i64.has a1.2.2.2)(r:Int)(hF:F.schema_state_list_1 a0 a1=some r):
    A.Ct Tryd.prog 38 [.agg #[.int .i64 a0.1,.int .i64 a0.2.1,.string a0.2.2.1,.int .i64 a0.2.2.2],.agg #[.int .i64 a1.1,.int .i64 a1.2.1,.string a1.2.2.1,.int .i64 a1.2.2.2]] [] [] (fun v H'=>v=.int .i64 r∧H'=[]∧IntKind.i64.has r):=by
 refine A.Ct.enter Tryd.func38 rfl Tryd.ntmps38 rfl fun w0 F0=>?_
 rw[F.schema_state_list_1]at hF
 refine A.xl 1 ?_
 refine A.AL.box 0 (cs:=[.int .i64 a0.1,.int .i64 a0.2.1,.string a0.2.2.1,.int .i64 a0.2.2.2]) fun g1=>?_
 refine A.AL.box 1 (cs:=[.int .i64 a1.1,.int .i64 a1.2.1,.string a1.2.2.1,.int .i64 a1.2.2.2]) fun g2=>?_
 refine A.q0 [] [] [.n] [] ?_
 refine A.dx 2 ?_
 refine A.AX.dr mixed 18 18 (A.mb 18 0) ?_
 refine A.hq A.pb [] [0,1] [0,1] [] (A.mb 18 15855) 6 [(0,.n),(2,.n),(5,.n),(7,.n),(10,.n),(12,.n),(1,.b 0 0),(3,.b 1 0),(6,.b 0 1),(8,.b 1 1),(11,.b 0 2),(13,.b 1 2)] [(6,.int .i64 a0.1),(8,.int .i64 a1.1),(11,.int .i64 a0.2.1),(13,.int .i64 a1.2.1),(16,.string a0.2.2.1),(18,.string a1.2.2.1)] ?_
 refine A.AH.one 4 ?_
 obtain⟨r3,hv4,hF⟩:=A.bd_some hF
 refine A.AL.call 2 [] (first:=[]) (cap:=[]) cf40 (cmp_Compare_int_ok a0.1 a1.1 h0_ h4_ r3 hv4) .nil ?_
 rintro _ _ ⟨rfl,rfl,hr5⟩
 refine⟨by kernel_rfl,?_⟩
 refine A.AH.nx (A.mb 18 15871) [0,1] ?_
 refine A.AH.one 9 ?_
 obtain⟨r6,hv7,hF⟩:=A.bd_some hF
 refine A.AL.call 42 [] (first:=[]) (cap:=[]) cf41 (cmp_Compare_int64_ok a0.2.1 a1.2.1 h1_ h5_ r6 hv7) .nil ?_
 rintro _ _ ⟨rfl,rfl,hr8⟩
 refine⟨by kernel_rfl,?_⟩
 refine A.AH.nx (A.mb 18 16383) [0,1] ?_
 refine A.AH.one 14 ?_
 obtain⟨r9,hv10,hF⟩:=A.bd_some hF
 refine A.AL.call 82 [] (first:=[]) (cap:=[]) cf42 (cmp_Compare_string_ok a0.2.2.1 a1.2.2.1 h2_ h6_ r9 hv10) .nil ?_
 rintro _ _ ⟨rfl,rfl,hr11⟩
 refine⟨by kernel_rfl,?_⟩
 refine A.AH.nx (A.mb 18 32767) [0,1] ?_
 refine A.AH.one 15 ?_
 refine A.AL.bsl 122 (ty:=(Z.Ty.int .i64)) (cs:=[.int .i64 r3,.int .i64 r6,.int .i64 r9]) [r3,r6,r9] ⟨⟨rfl,hr5⟩,⟨⟨rfl,hr8⟩,⟨⟨rfl,hr11⟩,rfl⟩⟩⟩ (fun g12=>?_) Tryd.zeroValue3 Tryd.sizeOf3
 refine A.AH.nx (A.mb 18 65535) [0,1] ?_
 refine A.AH.one 16 ?_
 obtain⟨r13,hv14,hF⟩:=A.bd_some hF
 refine A.AL.call 123 [] (first:=[]) (cap:=[]) cf39 (cmp_Or_int_ok [r3,r6,r9] (some ⟨g12,0,none⟩) 3 r13 hv14) (.o 122 .nil) ?_
 rintro _ _ ⟨rfl,rfl,hr15⟩
 refine⟨by kernel_rfl,?_⟩
 refine A.AH.nx (A.mb 18 131071) [0,1] ?_
 refine A.hq A.pb [0,1] [0,1,122] [] [] (A.mb 18 262143) 0 [(17,.n)] [(4,.int .i64 r13)] ?_
 refine A.AH.done ?_
 refine A.ex 1 ?_
 obtain rfl:=Option.some.inj hF
 exact A.rt1 [] ⟨rfl,rfl,hr15⟩
end Go.Proofs.YtfpemeeadiigcaaDoor
end
section
set_option linter.unusedVariables false
set_option linter.unusedSimpArgs false
set_option maxRecDepth 20000
set_option maxHeartbeats 8000000
set_option synthInstance.maxSize 1000000
set_option synthInstance.maxHeartbeats 400000
namespace Go.Proofs.YtfpemeeadiigcaaDoor
open Go.RowKit
def F.slices_SortFunc_api_Entry_api_Entry_schema_state_list_1 (a0:List D38):Option (List D38):=A.gd (a0.length<4611686018427387904) (A.srtF (fun x y=>F.schema_state_list_1 x y) a0)
theorem slices_SortFunc_api_Entry_api_Entry_schema_state_list_1_ok (a0:List D38)(A0_:Option Addr)(c1_:Nat)(r:List D38)(hF:F.slices_SortFunc_api_Entry_api_Entry_schema_state_list_1 a0=some r):
    A.Ct Tryd.prog 37 [.slice A0_ ((a0).length) c1_,.func (.func 38) #[] #[]] [(0,.own T38 39 A0_ c1_ a0)] (Z.obl A0_++[]) (fun v H'=>v=.tuple #[]∧H'=[(0,.own T38 39 A0_ c1_ r)]∧(r).length=(a0).length):=by
 obtain⟨hc,hF⟩:=A.gd_some hF
 rw[List.append_nil]
 exact A.Ct.sortF (t:=T38) (e:=39) Tryd.laysSortFunc37 rfl rfl Tryd.isAgg39 Tryd.sizeOf39 A0_ c1_ 38 (fun x y=>F.schema_state_list_1 x y) cf38 (fun x y r hx hy h=>⟨_,schema_state_list_1_ok x y hx.1 hx.2.1 hx.2.2.1 hx.2.2.2 hy.1 hy.2.1 hy.2.2.1 hy.2.2.2 r h,fun v H' h=>h.1⟩) a0 r hc hF
def F.schema_state_list_l1 (a0:(List (D67×Int))):Nat→(List Nat)→(List D38)→Option (List D38)
 |0,_,_=>none
 |f+1,sn19,xs23=>A.dem a0 sn19 ((F.slices_SortFunc_api_Entry_api_Entry_schema_state_list_1 xs23).bind fun r25=>(some r25)) fun i29 p28=>(A.gd (decide (IntKind.i64.has p28.1.1)=true∧decide (IntKind.i64.has p28.1.2.1)=true∧p28.1.2.2.size≤maxLen) (if p28.2≠0 then(A.gd ((List.length (α:=D38) xs23+List.length (α:=D38) [(p28.1.1,p28.1.2.1,p28.1.2.2,p28.2)])*40≤140737488355328) ((F.schema_state_list_l1 a0 f) (i29::sn19) (xs23++[(p28.1.1,p28.1.2.1,p28.1.2.2,p28.2)])))else((F.schema_state_list_l1 a0 f) (i29::sn19) xs23)))
def F.schema_state_list (a0:(List (D67×Int))):Option (List D38):=F.schema_state_list_l1 a0 A.FU [] []
theorem schema_state_list_ok (a0:(List (D67×Int)))(b0_:Nat)(r:(List D38))(hF:F.schema_state_list a0=some r):
    A.Ct Tryd.prog 23 [.map (some b0_)] [(0,.mp D67 (fun x:D67=>.agg #[.int .i64 x.1,.int .i64 x.2.1,.string x.2.2]) (Z.Ty.int .i64) false b0_ a0)] ([b0_]++[]) (fun v H'=>∃(A0':Option Addr) (c1':Nat),v=.slice A0' ((r).length) c1'∧H'=[(0,.own T38 39 A0' c1' r),(1,.mp D67 (fun x:D67=>.agg #[.int .i64 x.1,.int .i64 x.2.1,.string x.2.2]) (Z.Ty.int .i64) false b0_ a0)]):=by
 refine A.Ct.enter Tryd.func23 rfl Tryd.ntmps23 rfl fun w0 F0=>?_
 rw[F.schema_state_list]at hF
 refine A.xl 1 ?_
 refine A.q0 [] [] [.n] [] ?_
 refine A.dl 2 ?_
 refine A.q0 [] [] [.n] [(3,.slice none 0 0)] ?_
 refine A.dl 3 ?_
 refine A.q0 [] [] [.n] [(6,.map (some b0_))] ?_
 refine A.AL.rgm 0 1 fun g1=>?_
 refine A.dx 2 ?_
 refine A.nil 94 T38 39 ?_
 refine A.lp_ [7] [0] (fun f nl nh=>∃(sn19:List Nat),∃(xs23:List D38),∃(la20:Option (Value×Value)),∃(A21:Option Addr),∃(c22:Nat),nl=[(3,.slice A21 ((xs23).length) c22)]∧nh=[(1,.mit 0 g1 b0_ (a0).length sn19 la20),(94,.own T38 39 A21 c22 xs23)]∧F.schema_state_list_l1 a0 f sn19 xs23=some r) ⟨[],[],none,none,0,rfl,rfl,hF⟩ ?_
 rintro f24 _ _ ⟨sn19,xs23,la20,A21,c22,rfl,rfl,hF⟩
 rcases f24 with _|f24
 ·exact A.no0 hF
 rw[F.schema_state_list_l1]at hF
 refine A.xl 1 ?_
 obtain⟨hend39,hev40⟩:=A.dem_some hF
 refine A.AL.nxm 0 1 221 (fun hall=>?_) (fun i29 p28 hp30 hs31 ho32=>?_)
 ·replace hF:=hend39 hall
  refine A.q0 [] [] [.n] [(9,.bool false)] ?_
  refine A.dx 2 ?_
  refine A.AX.cnf rfl ?_
  refine A.xl 3 ?_
  refine A.q0 [] [] [.n] [(28,.slice A21 ((xs23).length) c22)] ?_
  obtain⟨r25,hv26,hF⟩:=A.bd_some hF
  refine A.AL.call 181 [] (first:=[]) (cap:=[]) cf37 (slices_SortFunc_api_Entry_api_Entry_schema_state_list_1_ok xs23 A21 c22 r25 hv26) (.m 94 .nil) ?_
  rintro _ _ ⟨rfl,rfl,hr27⟩
  refine⟨by kernel_rfl,?_⟩
  refine A.mvd 181 94 [] ?_
  refine A.dl 2 ?_
  refine A.q0 [] [] [.n,.n] [(2,.slice A21 ((xs23).length) c22)] ?_
  refine A.dx 1 ?_
  obtain rfl:=Option.some.inj hF
  refine A.cst 2 (Z.slice_n (show(xs23).length=(r25).length from(Eq.symm hr27))) ?_
  exact A.rt1 [(0,94),(1,0)] ⟨A21,c22,rfl,rfl⟩
 have hF:=hev40 i29 p28 hp30 hs31
 obtain⟨hkc33,hF⟩:=A.gd_some hF
 refine A.q0 [] [] [.n] [(9,.bool true)] ?_
 refine A.dx 2 ?_
 refine A.AX.cnt rfl ?_
 refine A.xl 4 ?_
 refine A.AL.ent 1 ?_
 refine A.q0 [] [] [.n,.n] [(11,.agg #[.int .i64 p28.1.1,.int .i64 p28.1.2.1,.string p28.1.2.2]),(12,.int .i64 p28.2)] ?_
 refine A.AL.alloc 222 (cs:=[.int .i64 0,.int .i64 0,.string (ByteArray.mk #[])]) Tryd.zeroValue68 fun g34=>?_
 refine A.sw 222 [] [.int .i64 p28.1.1,.int .i64 p28.1.2.1,.string p28.1.2.2] ?_
 refine A.q0 [] [] [.n] [(5,.int .i64 p28.2)] ?_
 refine A.dl 2 ?_
 refine A.q0 [] [] [.n,.n] [(14,.bool (decide (p28.2≠0)))] ?_
 refine A.dx 1 ?_
 refine A.AX.cnd rfl hF (fun hb hF=>?_) (fun hb hF=>?_)
 ·refine A.xl 0 ?_
  refine A.q0 [222] [] [.n,.n,.b 0 0,.n,.n,.b 0 1,.n,.n,.b 0 2,.n,.n] [(15,.slice A21 ((xs23).length) c22),(25,.agg #[.int .i64 p28.1.1,.int .i64 p28.1.2.1,.string p28.1.2.2,.int .i64 p28.2])] ?_
  refine A.AL.bsl 223 (ty:=T38) (cs:=[.int .i64 p28.1.1,.int .i64 p28.1.2.1,.string p28.1.2.2,.int .i64 p28.2]) [(p28.1.1,p28.1.2.1,p28.1.2.2,p28.2)] ⟨⟨⟨rfl,(of_decide_eq_true hkc33.1)⟩,⟨rfl,(of_decide_eq_true hkc33.2.1)⟩,⟨rfl,hkc33.2.2⟩,⟨rfl,ho32⟩⟩,rfl⟩ (fun g35=>?_) Tryd.zeroValue39 Tryd.sizeOf39
  obtain⟨hl38,hF⟩:=A.gd_some hF
  refine A.AL.app (k:=94) [] (A.rowO (k:=223) rfl) inf39 hl38 fun A36 c37=>?_
  refine A.q0 [] [] [.n] [(3,.slice A36 ((xs23++[(p28.1.1,p28.1.2.1,p28.1.2.2,p28.2)]).length) c37)] ?_
  refine A.de 1 ?_
  exact A.j ⟨_,Nat.lt_succ_self _,⟨(i29::sn19),(xs23++[(p28.1.1,p28.1.2.1,p28.1.2.2,p28.2)]),(some (.agg #[.int .i64 p28.1.1,.int .i64 p28.1.2.1,.string p28.1.2.2],.int .i64 p28.2)),A36,c37,rfl,rfl,hF⟩⟩
 refine A.xe 2 ?_
 exact A.j ⟨_,Nat.lt_succ_self _,⟨(i29::sn19),xs23,(some (.agg #[.int .i64 p28.1.1,.int .i64 p28.1.2.1,.string p28.1.2.2],.int .i64 p28.2)),A21,c22,rfl,rfl,hF⟩⟩
def F.schema_Migrate_l1 (a0:D25)(a1:D27)(a2:(List D38)):Nat→(List (D67×Int))→Int→Option ((List D38)×Int)
 |0,_,_=>none
 |f+1,m11,y12=>if y12<((a2).length:Int)then((A.ix a2 y12).bind fun x15=>((F.schema_moved (a0.1,a0.2.1,a0.2.2.1,(a0.2.2.2.1.1,a0.2.2.2.1.2.1,a0.2.2.2.1.2.2),a0.2.2.2.2.1,a0.2.2.2.2.2.1,a0.2.2.2.2.2.2) (a1.1,a1.2.1,a1.2.2.1,a1.2.2.2.1,(a1.2.2.2.2.1,a1.2.2.2.2.2.1,a1.2.2.2.2.2.2)) (x15.1,x15.2.1,x15.2.2.1,x15.2.2.2)).bind fun r21=>((F.schema_state_add m11 a0.2.1 (r21.1,r21.2.1,r21.2.2.1,r21.2.2.2)).bind fun r27=>(A.gd (Z.R64 (y12+1)) ((F.schema_Migrate_l1 a0 a1 a2 f) r27 (y12+1))))))else((F.schema_state_list m11).bind fun r30=>(some (r30,0)))
def F.schema_Migrate (a0:D25)(a1:D27)(a2:(List D38)):Option ((List D38)×Int):=if a1.2.1≠a0.1 then(some ([],180))else((F.schema_Fits (a1.1,a0.2.1,a0.2.2.1,(a0.2.2.2.1.1,a0.2.2.2.1.2.1,a0.2.2.2.1.2.2),a0.2.2.2.2.1,a0.2.2.2.2.2.1,a0.2.2.2.2.2.2) (a0.1,a0.2.1,a0.2.2.1,(a0.2.2.2.1.1,a0.2.2.2.1.2.1,a0.2.2.2.1.2.2),a0.2.2.2.2.1,a0.2.2.2.2.2.1,a0.2.2.2.2.2.2) (a1.1,a1.2.1,a1.2.2.1,a1.2.2.2.1,(a1.2.2.2.2.1,a1.2.2.2.2.2.1,a1.2.2.2.2.2.2))).bind fun r4=>(if r4≠0 then(some ([],180))else((F.oper_CheckState (a1.1,a0.2.1,a0.2.2.1,(a0.2.2.2.1.1,a0.2.2.2.1.2.1,a0.2.2.2.1.2.2),a0.2.2.2.2.1,a0.2.2.2.2.2.1,a0.2.2.2.2.2.2) a2).bind fun r7=>(if r7≠0 then(some ([],r7))else(F.schema_Migrate_l1 a0 a1 a2 A.FU [] 0)))))
theorem schema_Migrate_ok (a0:D25)(a1:D27)(a2:(List D38))(A2_:Option Addr)(c3_:Nat)(A17_:Option Addr)(c18_:Nat)(h0_:IntKind.i64.has a0.1)(h1_:IntKind.i64.has a0.2.1)(h4_:IntKind.i64.has a0.2.2.2.1.1)(h5_:IntKind.i64.has a0.2.2.2.1.2.1)(h6_:a0.2.2.2.1.2.2.size≤maxLen)(h7_:a0.2.2.2.2.1.size≤maxLen)(h8_:IntKind.i64.has a0.2.2.2.2.2.1)(h9_:IntKind.i64.has a0.2.2.2.2.2.2)(h10_:IntKind.i64.has a1.1)(h11_:IntKind.i64.has a1.2.1)(h12_:IntKind.i64.has a1.2.2.1)(h13_:IntKind.i64.has a1.2.2.2.1)(h14_:IntKind.i64.has a1.2.2.2.2.1)(h15_:IntKind.i64.has a1.2.2.2.2.2.1)(h16_:a1.2.2.2.2.2.2.size≤maxLen)(r:(List D38)×Int)(hF:F.schema_Migrate a0 a1 a2=some r):
    A.Ct Tryd.prog 9 [.agg #[.int .i64 a0.1,.int .i64 a0.2.1,.slice A2_ ((a0.2.2.1).length) c3_,.int .i64 a0.2.2.2.1.1,.int .i64 a0.2.2.2.1.2.1,.string a0.2.2.2.1.2.2,.string a0.2.2.2.2.1,.int .i64 a0.2.2.2.2.2.1,.int .i64 a0.2.2.2.2.2.2],.agg #[.int .i64 a1.1,.int .i64 a1.2.1,.int .i64 a1.2.2.1,.int .i64 a1.2.2.2.1,.int .i64 a1.2.2.2.2.1,.int .i64 a1.2.2.2.2.2.1,.string a1.2.2.2.2.2.2],.slice A17_ ((a2).length) c18_] [(0,.sh (.slice (Z.Ty.int .i64)) [.slice A2_ (a0.2.2.1).length c3_] a0.2.2.1),(1,.ln T38 A17_ c18_ a2),(2,.el none 0 0 A.tabF),(3,.el none 1 0 A.tabA)] [] (fun v H'=>∃(A0':Option Addr) (c1':Nat),v=.tuple #[.slice A0' ((r.1).length) c1',.int .i64 r.2]∧H'=[(0,.own T38 39 A0' c1' r.1)]∧IntKind.i64.has r.2):=by
 refine A.Ct.enter Tryd.func9 rfl Tryd.ntmps9 rfl fun w0 F0=>?_
 rw[F.schema_Migrate]at hF
 refine A.xl 1 ?_
 refine A.AL.box 4 (cs:=[.int .i64 a0.1,.int .i64 a0.2.1,.slice A2_ ((a0.2.2.1).length) c3_,.int .i64 a0.2.2.2.1.1,.int .i64 a0.2.2.2.1.2.1,.string a0.2.2.2.1.2.2,.string a0.2.2.2.2.1,.int .i64 a0.2.2.2.2.2.1,.int .i64 a0.2.2.2.2.2.2]) fun g1=>?_
 refine A.AL.box 5 (cs:=[.int .i64 a1.1,.int .i64 a1.2.1,.int .i64 a1.2.2.1,.int .i64 a1.2.2.2.1,.int .i64 a1.2.2.2.2.1,.int .i64 a1.2.2.2.2.2.1,.string a1.2.2.2.2.2.2]) fun g2=>?_
 refine A.q0 [] [] [.n,.n] [] ?_
 refine A.dl 2 ?_
 refine A.q0 [4] [] [.b 0 0] [(14,.agg #[.int .i64 a0.1,.int .i64 a0.2.1,.slice A2_ ((a0.2.2.1).length) c3_,.int .i64 a0.2.2.2.1.1,.int .i64 a0.2.2.2.1.2.1,.string a0.2.2.2.1.2.2,.string a0.2.2.2.2.1,.int .i64 a0.2.2.2.2.2.1,.int .i64 a0.2.2.2.2.2.2])] ?_
 refine A.AL.alloc 6 (cs:=[.int .i64 0,.int .i64 0,.slice none 0 0,.int .i64 0,.int .i64 0,.string (ByteArray.mk #[]),.string (ByteArray.mk #[]),.int .i64 0,.int .i64 0]) Tryd.zeroValue26 fun g3=>?_
 refine A.sw 6 [] [.int .i64 a0.1,.int .i64 a0.2.1,.slice A2_ ((a0.2.2.1).length) c3_,.int .i64 a0.2.2.2.1.1,.int .i64 a0.2.2.2.1.2.1,.string a0.2.2.2.1.2.2,.string a0.2.2.2.2.1,.int .i64 a0.2.2.2.2.2.1,.int .i64 a0.2.2.2.2.2.2] ?_
 refine A.dl 2 ?_
 refine A.q0 [5] [] [.n,.b 0 0,.n] [(16,.int .i64 a1.1),(17,.pointer (some ⟨g3,0,none⟩))] ?_
 refine A.AL.store 6 [] (new:=[.int .i64 a1.1]) (cs':=[.int .i64 a1.1,.int .i64 a0.2.1,.slice A2_ ((a0.2.2.1).length) c3_,.int .i64 a0.2.2.2.1.1,.int .i64 a0.2.2.2.1.2.1,.string a0.2.2.2.1.2.2,.string a0.2.2.2.2.1,.int .i64 a0.2.2.2.2.2.1,.int .i64 a0.2.2.2.2.2.2]) ?_
 refine A.dl 3 ?_
 refine A.q0 [5,4] [] [.n,.b 0 1,.n,.b 1 0,.n] [(22,.bool (decide (a1.2.1≠a0.1)))] ?_
 refine A.dx 1 ?_
 refine A.AX.cnd rfl hF (fun hb hF=>?_) (fun hb hF=>?_)
 ·refine A.xl 1 ?_
  refine A.q0 [] [] [.n,.n] [(6,.slice none 0 0),(7,.int .i64 180)] ?_
  refine A.dx 1 ?_
  obtain rfl:=Option.some.inj hF
  refine A.nil 7 T38 39 ?_
  exact A.rt2 [(0,7)] ⟨none,0,rfl,rfl,(A.hasl .i64 (180) rfl)⟩
 refine A.xl 4 ?_
 refine A.q0 [6,4,5] [] [.b 0 0,.b 1 0,.b 2 0] [(23,.agg #[.int .i64 a1.1,.int .i64 a0.2.1,.slice A2_ ((a0.2.2.1).length) c3_,.int .i64 a0.2.2.2.1.1,.int .i64 a0.2.2.2.1.2.1,.string a0.2.2.2.1.2.2,.string a0.2.2.2.2.1,.int .i64 a0.2.2.2.2.2.1,.int .i64 a0.2.2.2.2.2.2]),(24,.agg #[.int .i64 a0.1,.int .i64 a0.2.1,.slice A2_ ((a0.2.2.1).length) c3_,.int .i64 a0.2.2.2.1.1,.int .i64 a0.2.2.2.1.2.1,.string a0.2.2.2.1.2.2,.string a0.2.2.2.2.1,.int .i64 a0.2.2.2.2.2.1,.int .i64 a0.2.2.2.2.2.2]),(25,.agg #[.int .i64 a1.1,.int .i64 a1.2.1,.int .i64 a1.2.2.1,.int .i64 a1.2.2.2.1,.int .i64 a1.2.2.2.2.1,.int .i64 a1.2.2.2.2.2.1,.string a1.2.2.2.2.2.2])] ?_
 obtain⟨r4,hv5,hF⟩:=A.bd_some hF
 refine A.AL.call 8 [] (first:=[]) (cap:=[]) cf19 (schema_Fits_ok (a1.1,a0.2.1,a0.2.2.1,(a0.2.2.2.1.1,a0.2.2.2.1.2.1,a0.2.2.2.1.2.2),a0.2.2.2.2.1,a0.2.2.2.2.2.1,a0.2.2.2.2.2.2) (a0.1,a0.2.1,a0.2.2.1,(a0.2.2.2.1.1,a0.2.2.2.1.2.1,a0.2.2.2.1.2.2),a0.2.2.2.2.1,a0.2.2.2.2.2.1,a0.2.2.2.2.2.2) (a1.1,a1.2.1,a1.2.2.1,a1.2.2.2.1,(a1.2.2.2.2.1,a1.2.2.2.2.2.1,a1.2.2.2.2.2.2)) A2_ c3_ A2_ c3_ h10_ h1_ h4_ h5_ h6_ h7_ h8_ h9_ h0_ h1_ h4_ h5_ h6_ h7_ h8_ h9_ h10_ h11_ h12_ h13_ h14_ h15_ h16_ r4 hv5) (.s 0 (.s 0 (.s 2 (.s 3 .nil)))) ?_
 rintro _ _ ⟨rfl,rfl,hr6⟩
 refine⟨by kernel_rfl,?_⟩
 refine A.q0 [] [] [.n] [(9,.int .i64 r4)] ?_
 refine A.dl 2 ?_
 refine A.q0 [] [] [.n,.n] [(28,.bool (decide (r4≠0)))] ?_
 refine A.dx 1 ?_
 refine A.AX.cnd rfl hF (fun hb hF=>?_) (fun hb hF=>?_)
 ·refine A.xl 1 ?_
  refine A.q0 [] [] [.n,.n] [(6,.slice none 0 0),(7,.int .i64 180)] ?_
  refine A.dx 1 ?_
  obtain rfl:=Option.some.inj hF
  refine A.nil 48 T38 39 ?_
  exact A.rt2 [(0,48)] ⟨none,0,rfl,rfl,(A.hasl .i64 (180) rfl)⟩
 refine A.xl 4 ?_
 refine A.q0 [6] [] [.b 0 0,.n] [(29,.agg #[.int .i64 a1.1,.int .i64 a0.2.1,.slice A2_ ((a0.2.2.1).length) c3_,.int .i64 a0.2.2.2.1.1,.int .i64 a0.2.2.2.1.2.1,.string a0.2.2.2.1.2.2,.string a0.2.2.2.2.1,.int .i64 a0.2.2.2.2.2.1,.int .i64 a0.2.2.2.2.2.2]),(30,.slice A17_ ((a2).length) c18_)] ?_
 obtain⟨r7,hv8,hF⟩:=A.bd_some hF
 refine A.AL.call 49 [] (first:=[]) (cap:=[]) cf20 (oper_CheckState_ok (a1.1,a0.2.1,a0.2.2.1,(a0.2.2.2.1.1,a0.2.2.2.1.2.1,a0.2.2.2.1.2.2),a0.2.2.2.2.1,a0.2.2.2.2.2.1,a0.2.2.2.2.2.2) a2 A2_ c3_ A17_ c18_ h10_ h1_ h4_ h5_ h6_ h7_ h8_ h9_ r7 hv8) (.s 0 (.s 1 (.s 2 (.s 3 .nil)))) ?_
 rintro _ _ ⟨rfl,rfl,hr9⟩
 refine⟨by kernel_rfl,?_⟩
 refine A.q0 [] [] [.n] [(10,.int .i64 r7)] ?_
 refine A.dl 2 ?_
 refine A.q0 [] [] [.n,.n] [(33,.bool (decide (r7≠0)))] ?_
 refine A.dx 1 ?_
 refine A.AX.cnd rfl hF (fun hb hF=>?_) (fun hb hF=>?_)
 ·refine A.xl 1 ?_
  refine A.q0 [] [] [.n,.n,.n] [(6,.slice none 0 0),(7,.int .i64 r7)] ?_
  refine A.dx 1 ?_
  obtain rfl:=Option.some.inj hF
  refine A.nil 89 T38 39 ?_
  exact A.rt2 [(0,89)] ⟨none,0,rfl,rfl,hr9⟩
 refine A.xl 3 ?_
 refine A.AL.mkm 90 D67 (fun x:D67=>.agg #[.int .i64 x.1,.int .i64 x.2.1,.string x.2.2]) (Z.Ty.int .i64) false fun b10=>?_
 refine A.q0 [] [] [.n] [(11,.map (some b10))] ?_
 refine A.dl 3 ?_
 refine A.q0 [] [] [.n,.n,.n] [(36,.slice A17_ ((a2).length) c18_),(37,.int .i64 ((a2).length:Int)),(38,.int .i64 0)] ?_
 refine A.dx 2 ?_
 refine A.lp_ [3,4,11,36,37] [0,1,2,3,4,5] (fun f nl nh=>∃(m11:List (D67×Int)),∃(y12:Int),nl=[(38,.int .i64 y12)]∧nh=[(90,.mp D67 (fun x:D67=>.agg #[.int .i64 x.1,.int .i64 x.2.1,.string x.2.2]) (Z.Ty.int .i64) false b10 m11)]∧IntKind.i64.has y12∧F.schema_Migrate_l1 a0 a1 a2 f m11 y12=some r) ⟨[],0,rfl,rfl,(A.hasl .i64 (0) rfl),hF⟩ ?_
 rintro f14 _ _ ⟨m11,y12,rfl,rfl,hy13,hF⟩
 rcases f14 with _|f14
 ·exact A.no0 hF
 rw[F.schema_Migrate_l1]at hF
 refine A.xl 1 ?_
 refine A.q0 [] [] [.n] [(39,.bool (decide (y12<((a2).length:Int))))] ?_
 refine A.dx 2 ?_
 refine A.AX.cnd rfl hF (fun hb hF=>?_) (fun hb hF=>?_)
 ·refine A.xl 5 ?_
  obtain⟨x15,hv16,hF⟩:=A.bd_some hF
  refine A.AL.ixl 1 335 hv16 fun ho17=>?_
  intro b18 o19
  refine A.q0 [] [335] [.e 0 0] [(41,.agg #[.int .i64 x15.1,.int .i64 x15.2.1,.string x15.2.2.1,.int .i64 x15.2.2.2])] ?_
  refine A.AL.alloc 336 (cs:=[.int .i64 0,.int .i64 0,.string (ByteArray.mk #[]),.int .i64 0]) Tryd.zeroValue39 fun g20=>?_
  refine A.sw 336 [] [.int .i64 x15.1,.int .i64 x15.2.1,.string x15.2.2.1,.int .i64 x15.2.2.2] ?_
  refine A.dx 1 ?_
  refine A.AX.dr mixed 7 8 (A.mb 8 0) ?_
  refine A.hq A.pb [] [0,1,2,3,4,5,90,335,336] [4,5,336] [] (A.mb 8 63) 2 [(0,.n),(1,.n),(3,.b 0 0),(4,.b 1 0),(5,.b 2 0),(2,.b 0 1)] [(42,.map (some b10)),(45,.agg #[.int .i64 a0.1,.int .i64 a0.2.1,.slice A2_ ((a0.2.2.1).length) c3_,.int .i64 a0.2.2.2.1.1,.int .i64 a0.2.2.2.1.2.1,.string a0.2.2.2.1.2.2,.string a0.2.2.2.2.1,.int .i64 a0.2.2.2.2.2.1,.int .i64 a0.2.2.2.2.2.2]),(46,.agg #[.int .i64 a1.1,.int .i64 a1.2.1,.int .i64 a1.2.2.1,.int .i64 a1.2.2.2.1,.int .i64 a1.2.2.2.2.1,.int .i64 a1.2.2.2.2.2.1,.string a1.2.2.2.2.2.2]),(47,.agg #[.int .i64 x15.1,.int .i64 x15.2.1,.string x15.2.2.1,.int .i64 x15.2.2.2]),(44,.int .i64 a0.2.1)] ?_
  refine A.AH.one 6 ?_
  obtain⟨r21,hv22,hF⟩:=A.bd_some hF
  refine A.AL.call 337 [] (first:=[]) (cap:=[]) cf22 (schema_moved_ok (a0.1,a0.2.1,a0.2.2.1,(a0.2.2.2.1.1,a0.2.2.2.1.2.1,a0.2.2.2.1.2.2),a0.2.2.2.2.1,a0.2.2.2.2.2.1,a0.2.2.2.2.2.2) (a1.1,a1.2.1,a1.2.2.1,a1.2.2.2.1,(a1.2.2.2.2.1,a1.2.2.2.2.2.1,a1.2.2.2.2.2.2)) (x15.1,x15.2.1,x15.2.2.1,x15.2.2.2) A2_ c3_ h0_ h1_ h4_ h5_ h6_ h7_ h8_ h9_ h10_ h11_ h12_ h13_ h14_ h15_ h16_ ho17.1 ho17.2.1 ho17.2.2.1 ho17.2.2.2 r21 hv22) (.s 0 (.s 2 (.s 3 .nil))) ?_
  rintro _ _ ⟨rfl,rfl,hr23,hr24,hr25,hr26⟩
  refine⟨by kernel_rfl,?_⟩
  refine A.AH.nx (A.mb 8 127) [0,1,2,3,4,5,90,335,336] ?_
  refine A.AH.one 7 ?_
  obtain⟨r27,hv28,hF⟩:=A.bd_some hF
  refine A.AL.call 377 [] (first:=[]) (cap:=[]) cf21 (schema_state_add_ok m11 a0.2.1 (r21.1,r21.2.1,r21.2.2.1,r21.2.2.2) b10 h1_ hr23 hr24 hr25 hr26 r27 hv28) (.m 90 .nil) ?_
  rintro _ _ ⟨rfl,rfl⟩
  refine⟨by kernel_rfl,?_⟩
  refine A.mvd 377 90 [] ?_
  refine A.AH.nm (A.mb 8 255) ?_
  refine A.AH.done ?_
  refine A.el 2 ?_
  obtain⟨hc29,hF⟩:=A.gd_some hF
  refine A.q [] [] [.n,.n] [Z.R64 (y12+1)] [(38,.int .i64 (y12+1))] hc29 ?_
  refine A.AL.done ?_
  exact A.j ⟨_,Nat.lt_succ_self _,⟨r27,(y12+1),rfl,rfl,(Z.i64_has hc29),hF⟩⟩
 refine A.xl 3 ?_
 refine A.q0 [] [] [.n] [(51,.map (some b10))] ?_
 obtain⟨r30,hv31,hF⟩:=A.bd_some hF
 refine A.AL.call 417 [] (first:=[]) (cap:=[]) cf23 (schema_state_list_ok m11 b10 r30 hv31) (.m 90 .nil) ?_
 rintro _ _ ⟨A32,c33,rfl,rfl⟩
 refine⟨by kernel_rfl,?_⟩
 refine A.mvd 418 90 [] ?_
 refine A.q0 [] [] [.n,.n] [(6,.slice A32 ((r30).length) c33),(7,.int .i64 0)] ?_
 refine A.dx 1 ?_
 obtain rfl:=Option.some.inj hF
 exact A.rt2 [(0,417)] ⟨A32,c33,rfl,rfl,(A.hasl .i64 (0) rfl)⟩
end Go.Proofs.YtfpemeeadiigcaaDoor
end
section
set_option linter.unusedVariables false
set_option linter.unusedSimpArgs false
set_option maxRecDepth 20000
set_option maxHeartbeats 8000000
set_option synthInstance.maxSize 1000000
set_option synthInstance.maxHeartbeats 400000
namespace Go.Proofs.YtfpemeeadiigcaaDoor
open Go.RowKit
def F.L18_total (a0:Int):Option D25:=some (a0,11,[],(41,0,ByteArray.mk #[]),ByteArray.mk #[],0,0)
theorem L18_total_ok (a0:Int)(h0_:IntKind.i64.has a0)(r:D25)(hF:F.L18_total a0=some r):
    A.Ct Tryd.prog 18 [.int .i64 a0] [] [] (fun v H'=>∃(A0':Option Addr) (c1':Nat),v=.agg #[.int .i64 r.1,.int .i64 r.2.1,.slice A0' ((r.2.2.1).length) c1',.int .i64 r.2.2.2.1.1,.int .i64 r.2.2.2.1.2.1,.string r.2.2.2.1.2.2,.string r.2.2.2.2.1,.int .i64 r.2.2.2.2.2.1,.int .i64 r.2.2.2.2.2.2]∧H'=[(0,.sh (.slice (Z.Ty.int .i64)) [.slice A0' (r.2.2.1).length c1'] r.2.2.1)]∧IntKind.i64.has r.1∧IntKind.i64.has r.2.1∧IntKind.i64.has r.2.2.2.1.1∧IntKind.i64.has r.2.2.2.1.2.1∧r.2.2.2.1.2.2.size≤maxLen∧r.2.2.2.2.1.size≤maxLen∧IntKind.i64.has r.2.2.2.2.2.1∧IntKind.i64.has r.2.2.2.2.2.2):=by
 refine A.Ct.enter Tryd.func18 rfl Tryd.ntmps18 rfl fun w0 F0=>?_
 rw[F.L18_total]at hF
 refine A.xl 1 ?_
 refine A.AL.alloc 0 (cs:=[.int .i64 0,.int .i64 0,.slice none 0 0,.int .i64 0,.int .i64 0,.string (ByteArray.mk #[]),.string (ByteArray.mk #[]),.int .i64 0,.int .i64 0]) Tryd.zeroValue26 fun g1=>?_
 refine A.dl 2 ?_
 refine A.q0 [] [] [.n,.n,.n] [(5,.agg #[.int .i64 a0,.int .i64 11,.slice none 0 0,.int .i64 41,.int .i64 0,.string (ByteArray.mk #[]),.string (ByteArray.mk #[]),.int .i64 0,.int .i64 0])] ?_
 refine A.sw 0 [] [.int .i64 a0,.int .i64 11,.slice none 0 0,.int .i64 41,.int .i64 0,.string (ByteArray.mk #[]),.string (ByteArray.mk #[]),.int .i64 0,.int .i64 0] ?_
 refine A.dx 1 ?_
 obtain rfl:=Option.some.inj hF
 refine A.snil 1 (Z.Ty.int .i64) ?_
 exact A.AX.ret [(0,1)] (.agg #[.int .i64 a0,.int .i64 11,.slice none 0 0,.int .i64 41,.int .i64 0,.string (ByteArray.mk #[]),.string (ByteArray.mk #[]),.int .i64 0,.int .i64 0]) (fun a w hf hh=>Z.resv1 rfl (Z.rv_n hf rfl Tryd.isAgg26 Tryd.sizeOf26 (A.Hp.blk hh 0) rfl)) (⟨none,0,rfl,rfl,h0_,(A.hasl .i64 (11) rfl),(A.hasl .i64 (41) rfl),(A.hasl .i64 (0) rfl),(A.szl (ByteArray.mk #[]) rfl),(A.szl (ByteArray.mk #[]) rfl),(A.hasl .i64 (0) rfl),(A.hasl .i64 (0) rfl)⟩)
end Go.Proofs.YtfpemeeadiigcaaDoor
end
section
set_option linter.unusedVariables false
set_option linter.unusedSimpArgs false
set_option maxRecDepth 20000
set_option maxHeartbeats 8000000
set_option synthInstance.maxSize 1000000
set_option synthInstance.maxHeartbeats 400000
namespace Go.Proofs.YtfpemeeadiigcaaDoor
open Go.RowKit
def F.slices_Equal_api_Entry_api_Entry_l1 (a0:(List D38))(a1:(List D38)):Nat→Int→Option Bool
 |0,_=>none
 |f+1,y1=>if y1<((a0).length:Int)then((A.ix a0 y1).bind fun x4=>((A.ix a1 y1).bind fun x10=>(if(x4.1,x4.2.1,x4.2.2.1,x4.2.2.2)≠(x10.1,x10.2.1,x10.2.2.1,x10.2.2.2)then(some false)else(A.gd (Z.R64 (y1+1)) ((F.slices_Equal_api_Entry_api_Entry_l1 a0 a1 f) (y1+1))))))else(some true)
def F.slices_Equal_api_Entry_api_Entry (a0:(List D38))(a1:(List D38)):Option Bool:=if((a0).length:Int)≠((a1).length:Int)then(some false)else(F.slices_Equal_api_Entry_api_Entry_l1 a0 a1 A.FU 0)
theorem slices_Equal_api_Entry_api_Entry_ok (a0:(List D38))(a1:(List D38))(A0_:Option Addr)(c1_:Nat)(A2_:Option Addr)(c3_:Nat)(r:Bool)(hF:F.slices_Equal_api_Entry_api_Entry a0 a1=some r):
    A.Ct Tryd.prog 15 [.slice A0_ ((a0).length) c1_,.slice A2_ ((a1).length) c3_] [(0,.ln T38 A0_ c1_ a0),(1,.ln T38 A2_ c3_ a1)] [] (fun v H'=>v=.bool r∧H'=[]):=by
 refine A.Ct.enter Tryd.func15 rfl Tryd.ntmps15 rfl fun w0 F0=>?_
 rw[F.slices_Equal_api_Entry_api_Entry]at hF
 refine A.xl 1 ?_
 refine A.q0 [] [] [.n] [] ?_
 refine A.dl 3 ?_
 refine A.q0 [] [] [.n,.n,.n,.n,.n] [(10,.bool (decide (((a0).length:Int)≠((a1).length:Int))))] ?_
 refine A.dx 1 ?_
 refine A.AX.cnd rfl hF (fun hb hF=>?_) (fun hb hF=>?_)
 ·refine A.xl 1 ?_
  refine A.q0 [] [] [.n] [(4,.bool false)] ?_
  refine A.dx 1 ?_
  obtain rfl:=Option.some.inj hF
  exact A.rt1 [] ⟨rfl,rfl⟩
 refine A.xl 4 ?_
 refine A.q0 [] [] [.n,.n,.n] [(12,.int .i64 ((a0).length:Int)),(13,.int .i64 0)] ?_
 refine A.dx 2 ?_
 refine A.lp_ [0,1,12] [0,1] (fun f nl nh=>∃(y1:Int),nl=[(13,.int .i64 y1)]∧nh=[]∧IntKind.i64.has y1∧F.slices_Equal_api_Entry_api_Entry_l1 a0 a1 f y1=some r) ⟨0,rfl,rfl,(A.hasl .i64 (0) rfl),hF⟩ ?_
 rintro f3 _ _ ⟨y1,rfl,rfl,hy2,hF⟩
 rcases f3 with _|f3
 ·exact A.no0 hF
 rw[F.slices_Equal_api_Entry_api_Entry_l1]at hF
 refine A.xl 1 ?_
 refine A.q0 [] [] [.n] [(14,.bool (decide (y1<((a0).length:Int))))] ?_
 refine A.dx 2 ?_
 refine A.AX.cnd rfl hF (fun hb hF=>?_) (fun hb hF=>?_)
 ·refine A.xl 5 ?_
  refine A.q0 [] [] [.n,.n] [(5,.int .i64 y1)] ?_
  refine A.dx 2 ?_
  refine A.AX.dr mixed 9 9 (A.mb 9 0) ?_
  refine A.hq A.pb [] [0,1] [] [] (A.mb 9 51) 5 [(0,.n),(1,.n),(4,.n),(5,.n)] [(16,.slice A0_ ((a0).length) c1_),(17,.int .i64 y1),(20,.slice A2_ ((a1).length) c3_),(21,.int .i64 y1)] ?_
  obtain⟨x4,hv5,hF⟩:=A.bd_some hF
  refine A.AH.pkl 0 6 hv5 fun ho6=>?_
  intro b8 o9 hA7
  refine A.AH.v A.pb [0,1] [0,1,6] 2 (A.mb 9 55) rfl (fun a w hf hh=>A.r_ixa (t:=T38) hv5 hA7 hf) ?_
  refine A.hq A.pb [0,1,6] [0,1,6] [] [6] (A.mb 9 63) 3 [(3,.e 0 0)] [(19,.agg #[.int .i64 x4.1,.int .i64 x4.2.1,.string x4.2.2.1,.int .i64 x4.2.2.2])] ?_
  obtain⟨x10,hv11,hF⟩:=A.bd_some hF
  refine A.AH.pkl 1 7 hv11 fun ho12=>?_
  intro b14 o15 hA13
  refine A.AH.v A.pb [0,1,6] [0,1,6,7] 6 (A.mb 9 127) rfl (fun a w hf hh=>A.r_ixa (t:=T38) hv11 hA13 hf) ?_
  refine A.hq A.pb [0,1,6,7] [0,1,6,7] [] [7] (A.mb 9 255) 1 [(7,.e 0 0)] [(23,.agg #[.int .i64 x10.1,.int .i64 x10.2.1,.string x10.2.2.1,.int .i64 x10.2.2.2])] ?_
  refine A.AH.v A.pb [0,1,6,7] [0,1,6,7] 8 (A.mb 9 511) rfl (fun a w hf hh=>eqagg_neq39 (x:=(x4.1,x4.2.1,x4.2.2.1,x4.2.2.2)) (y:=(x10.1,x10.2.1,x10.2.2.1,x10.2.2.2)) (hf.eval rfl) (hf.eval rfl)) ?_
  refine A.AH.done ?_
  refine A.ex 1 ?_
  refine A.AX.cnd rfl hF (fun hb hF=>?_) (fun hb hF=>?_)
  ·refine A.xl 1 ?_
   refine A.q0 [] [] [.n] [(4,.bool false)] ?_
   refine A.dx 1 ?_
   obtain rfl:=Option.some.inj hF
   exact A.rt1 [] ⟨rfl,rfl⟩
  refine A.xl 3 ?_
  obtain⟨hc16,hF⟩:=A.gd_some hF
  refine A.q [] [] [.n,.n] [Z.R64 (y1+1)] [(13,.int .i64 (y1+1))] hc16 ?_
  refine A.AL.done ?_
  exact A.j ⟨_,Nat.lt_succ_self _,⟨(y1+1),rfl,rfl,(Z.i64_has hc16),hF⟩⟩
 refine A.xl 3 ?_
 refine A.q0 [] [] [.n] [(4,.bool true)] ?_
 refine A.dx 1 ?_
 obtain rfl:=Option.some.inj hF
 exact A.rt1 [] ⟨rfl,rfl⟩
def F.L18_begun_j1 (y24:Bool):Option Bool:=some y24
def F.L18_begun_j2 (xs4:List D38)(y5:Int):Option Bool:=(F.L18_total 4).bind fun r7=>((F.schema_Migrate (r7.1,r7.2.1,r7.2.2.1,(r7.2.2.2.1.1,r7.2.2.2.1.2.1,r7.2.2.2.1.2.2),r7.2.2.2.2.1,r7.2.2.2.2.2.1,r7.2.2.2.2.2.2) (3,4,3,0,(6,2,ByteArray.mk #[])) [(3,1,ByteArray.mk #[],5),(3,2,ByteArray.mk #[],7),(3,3,ByteArray.mk #[],1)]).bind fun r19=>(if y5=0 then((F.slices_Equal_api_Entry_api_Entry xs4 [(4,1,ByteArray.mk #[],15)]).bind fun r26=>(if(bif r26 then decide (r19.2=0)else false)=true then((F.slices_Equal_api_Entry_api_Entry r19.1 [(4,0,ByteArray.mk #[],7),(4,1,ByteArray.mk #[],6)]).bind fun r29=>(F.L18_begun_j1 r29))else(F.L18_begun_j1 false)))else(F.L18_begun_j1 false)))
def F.L18_begun:Option Bool:=(A.ix [(3,1,ByteArray.mk #[],5),(3,2,ByteArray.mk #[],7),(3,3,ByteArray.mk #[],1)] 0).bind fun x31=>((F.L18_total 4).bind fun r36=>((F.schema_Migrate (r36.1,r36.2.1,r36.2.2.1,(r36.2.2.2.1.1,r36.2.2.2.1.2.1,r36.2.2.2.1.2.2),r36.2.2.2.2.1,r36.2.2.2.2.2.1,r36.2.2.2.2.2.2) (3,4,2,3,(0,0,ByteArray.mk #[])) [(x31.1,x31.2.1,x31.2.2.1,x31.2.2.2)]).bind fun r396=>(F.L18_begun_j2 r396.1 r396.2)))
theorem L18_begun_ok (r:Bool)(hF:F.L18_begun=some r):
    A.Ct Tryd.prog 7 [] [(0,.el none 0 0 A.tabF),(1,.el none 1 0 A.tabA)] [] (fun v H'=>v=.bool r∧H'=[]):=by
 refine A.Ct.enter Tryd.func7 rfl Tryd.ntmps7 rfl fun w0 F0=>?_
 rw[F.L18_begun]at hF
 refine A.xl 1 ?_
 refine A.q0 [] [] [.n] [] ?_
 refine A.dl 2 ?_
 refine A.q0 [] [] [.n,.n,.n] [(6,.agg #[.int .i64 3,.int .i64 1,.string (ByteArray.mk #[]),.int .i64 5]),(7,.agg #[.int .i64 3,.int .i64 2,.string (ByteArray.mk #[]),.int .i64 7]),(8,.agg #[.int .i64 3,.int .i64 3,.string (ByteArray.mk #[]),.int .i64 1])] ?_
 refine A.AL.bsl 2 (ty:=T38) (cs:=[.int .i64 3,.int .i64 1,.string (ByteArray.mk #[]),.int .i64 5,.int .i64 3,.int .i64 2,.string (ByteArray.mk #[]),.int .i64 7,.int .i64 3,.int .i64 3,.string (ByteArray.mk #[]),.int .i64 1]) [(3,1,ByteArray.mk #[],5),(3,2,ByteArray.mk #[],7),(3,3,ByteArray.mk #[],1)] ⟨⟨⟨rfl,(A.hasl .i64 (3) rfl)⟩,⟨rfl,(A.hasl .i64 (1) rfl)⟩,⟨rfl,(A.szl (ByteArray.mk #[]) rfl)⟩,⟨rfl,(A.hasl .i64 (5) rfl)⟩⟩,⟨⟨⟨rfl,(A.hasl .i64 (3) rfl)⟩,⟨rfl,(A.hasl .i64 (2) rfl)⟩,⟨rfl,(A.szl (ByteArray.mk #[]) rfl)⟩,⟨rfl,(A.hasl .i64 (7) rfl)⟩⟩,⟨⟨⟨rfl,(A.hasl .i64 (3) rfl)⟩,⟨rfl,(A.hasl .i64 (3) rfl)⟩,⟨rfl,(A.szl (ByteArray.mk #[]) rfl)⟩,⟨rfl,(A.hasl .i64 (1) rfl)⟩⟩,rfl⟩⟩⟩ (fun g1=>?_) Tryd.zeroValue39 Tryd.sizeOf39
 refine A.q0 [] [] [.n] [(1,.slice (some ⟨g1,0,none⟩) 3 3)] ?_
 refine A.dx 1 ?_
 refine A.AX.join [1] [0,1,2] (fun nl nh=>∃(xs4:List D38),∃(y5:Int),∃(A2:Option Addr),∃(c3:Nat),nl=[(2,.slice A2 ((xs4).length) c3),(3,.int .i64 y5)]∧nh=[(184,.own T38 39 A2 c3 xs4)]∧IntKind.i64.has y5∧F.L18_begun_j2 xs4 y5=some r) ?_ ?_
 ·refine A.AX.dr mixed 12 12 (A.mb 12 0) ?_
  refine A.hq A.pb [] [0,1,2] [] [] (A.mb 12 6) 10 [(1,.n),(2,.n)] [(12,.agg #[.int .i64 3,.int .i64 4,.int .i64 2,.int .i64 3,.int .i64 0,.int .i64 0,.string (ByteArray.mk #[])]),(13,.slice (some ⟨g1,0,none⟩) 3 3)] ?_
  obtain⟨x31,hv32,hF⟩:=A.bd_some hF
  refine A.AH.pko 2 3 hv32 fun ho33=>?_
  intro g35 hA34
  refine A.AH.v A.pb [0,1,2] [0,1,2,3] 3 (A.mb 12 14) rfl (fun a w hf hh=>A.r_ixo (t:=T38) hv32 hA34 hf) ?_
  refine A.hq A.pb [0,1,2,3] [0,1,2,3] [] [3] (A.mb 12 30) 8 [(4,.e 0 0)] [(15,.agg #[.int .i64 x31.1,.int .i64 x31.2.1,.string x31.2.2.1,.int .i64 x31.2.2.2])] ?_
  refine A.AH.two 0 5 ?_ ?_
  ·obtain⟨r36,hv37,hF⟩:=A.bd_some hF
   refine A.AL.call 4 [] (first:=[]) (cap:=[]) cf18 (L18_total_ok 4 (A.hasl .i64 (4) rfl) r36 hv37) .nil ?_
   rintro _ _ ⟨A40,c41,rfl,rfl,hr38,hr39,hr42,hr43,hr44,hr45,hr46,hr47⟩
   refine⟨by kernel_rfl,?_⟩
   refine A.AH.nx (A.mb 12 31) [0,1,2,3] ?_
   refine A.AH.one 5 ?_
   refine A.AL.bsl 154 (ty:=T38) (cs:=[.int .i64 x31.1,.int .i64 x31.2.1,.string x31.2.2.1,.int .i64 x31.2.2.2]) [(x31.1,x31.2.1,x31.2.2.1,x31.2.2.2)] ⟨⟨⟨rfl,ho33.1⟩,⟨rfl,ho33.2.1⟩,⟨rfl,ho33.2.2.1⟩,⟨rfl,ho33.2.2.2⟩⟩,rfl⟩ (fun g336=>?_) Tryd.zeroValue39 Tryd.sizeOf39
   refine A.AH.nx (A.mb 12 63) [0,1,2,3] ?_
   refine A.AH.one 6 ?_
   obtain⟨r396,hv397,hF⟩:=A.bd_some hF
   refine A.AL.call 184 [] (first:=[]) (cap:=[]) cf9 (schema_Migrate_ok (r36.1,r36.2.1,r36.2.2.1,(r36.2.2.2.1.1,r36.2.2.2.1.2.1,r36.2.2.2.1.2.2),r36.2.2.2.2.1,r36.2.2.2.2.2.1,r36.2.2.2.2.2.2) (3,4,2,3,(0,0,ByteArray.mk #[])) [(x31.1,x31.2.1,x31.2.2.1,x31.2.2.2)] A40 c41 (some ⟨g336,0,none⟩) 1 hr38 hr39 hr42 hr43 hr44 hr45 hr46 hr47 (A.hasl .i64 (3) rfl) (A.hasl .i64 (4) rfl) (A.hasl .i64 (2) rfl) (A.hasl .i64 (3) rfl) (A.hasl .i64 (0) rfl) (A.hasl .i64 (0) rfl) (A.szl (ByteArray.mk #[]) rfl) r396 hv397) (.s 4 (.o 154 (.s 0 (.s 1 .nil)))) ?_
   rintro _ _ ⟨A398,c399,rfl,rfl,hr400⟩
   refine⟨by kernel_rfl,?_⟩
   refine A.AH.nx (A.mb 12 127) [0,1,2,3] ?_
   refine A.hq A.pb [0,1,2,3] [0,1,2,3,4,154,184] [] [] (A.mb 12 4095) 0 [(7,.n),(8,.n),(9,.n),(10,.n),(11,.n)] [(2,.slice A398 ((r396.1).length) c399),(3,.int .i64 r396.2)] ?_
   refine A.AH.done ?_
   exact A.j ⟨r396.1,r396.2,A398,c399,rfl,rfl,hr400,hF⟩
  refine A.AL.bsl 154 (ty:=T38) (cs:=[.int .i64 x31.1,.int .i64 x31.2.1,.string x31.2.2.1,.int .i64 x31.2.2.2]) [(x31.1,x31.2.1,x31.2.2.1,x31.2.2.2)] ⟨⟨⟨rfl,ho33.1⟩,⟨rfl,ho33.2.1⟩,⟨rfl,ho33.2.2.1⟩,⟨rfl,ho33.2.2.2⟩⟩,rfl⟩ (fun g336=>?_) Tryd.zeroValue39 Tryd.sizeOf39
  refine A.AH.nx (A.mb 12 62) [0,1,2,3] ?_
  refine A.AH.one 0 ?_
  obtain⟨r36,hv37,hF⟩:=A.bd_some hF
  refine A.AL.call 4 [] (first:=[]) (cap:=[]) cf18 (L18_total_ok 4 (A.hasl .i64 (4) rfl) r36 hv37) .nil ?_
  rintro _ _ ⟨A40,c41,rfl,rfl,hr38,hr39,hr42,hr43,hr44,hr45,hr46,hr47⟩
  refine⟨by kernel_rfl,?_⟩
  refine A.AH.nx (A.mb 12 63) [0,1,2,3] ?_
  refine A.AH.one 6 ?_
  obtain⟨r396,hv397,hF⟩:=A.bd_some hF
  refine A.AL.call 184 [] (first:=[]) (cap:=[]) cf9 (schema_Migrate_ok (r36.1,r36.2.1,r36.2.2.1,(r36.2.2.2.1.1,r36.2.2.2.1.2.1,r36.2.2.2.1.2.2),r36.2.2.2.2.1,r36.2.2.2.2.2.1,r36.2.2.2.2.2.2) (3,4,2,3,(0,0,ByteArray.mk #[])) [(x31.1,x31.2.1,x31.2.2.1,x31.2.2.2)] A40 c41 (some ⟨g336,0,none⟩) 1 hr38 hr39 hr42 hr43 hr44 hr45 hr46 hr47 (A.hasl .i64 (3) rfl) (A.hasl .i64 (4) rfl) (A.hasl .i64 (2) rfl) (A.hasl .i64 (3) rfl) (A.hasl .i64 (0) rfl) (A.hasl .i64 (0) rfl) (A.szl (ByteArray.mk #[]) rfl) r396 hv397) (.s 4 (.o 154 (.s 0 (.s 1 .nil)))) ?_
  rintro _ _ ⟨A398,c399,rfl,rfl,hr400⟩
  refine⟨by kernel_rfl,?_⟩
  refine A.AH.nx (A.mb 12 127) [0,1,2,3] ?_
  refine A.hq A.pb [0,1,2,3] [0,1,2,3,4,154,184] [] [] (A.mb 12 4095) 0 [(7,.n),(8,.n),(9,.n),(10,.n),(11,.n)] [(2,.slice A398 ((r396.1).length) c399),(3,.int .i64 r396.2)] ?_
  refine A.AH.done ?_
  exact A.j ⟨r396.1,r396.2,A398,c399,rfl,rfl,hr400,hF⟩
 rintro _ _ ⟨xs4,y5,A2,c3,rfl,rfl,hy6,hF⟩
 rw[F.L18_begun_j2]at hF
 refine A.xl 1 ?_
 obtain⟨r7,hv8,hF⟩:=A.bd_some hF
 refine A.AL.call 364 [] (first:=[]) (cap:=[]) cf18 (L18_total_ok 4 (A.hasl .i64 (4) rfl) r7 hv8) .nil ?_
 rintro _ _ ⟨A11,c12,rfl,rfl,hr9,hr10,hr13,hr14,hr15,hr16,hr17,hr18⟩
 refine⟨by kernel_rfl,?_⟩
 refine A.q0 [] [] [.n,.n,.n] [(23,.agg #[.int .i64 3,.int .i64 4,.int .i64 3,.int .i64 0,.int .i64 6,.int .i64 2,.string (ByteArray.mk #[])]),(24,.slice (some ⟨g1,0,none⟩) 3 3)] ?_
 obtain⟨r19,hv20,hF⟩:=A.bd_some hF
 refine A.AL.call 404 [] (first:=[]) (cap:=[]) cf9 (schema_Migrate_ok (r7.1,r7.2.1,r7.2.2.1,(r7.2.2.2.1.1,r7.2.2.2.1.2.1,r7.2.2.2.1.2.2),r7.2.2.2.2.1,r7.2.2.2.2.2.1,r7.2.2.2.2.2.2) (3,4,3,0,(6,2,ByteArray.mk #[])) [(3,1,ByteArray.mk #[],5),(3,2,ByteArray.mk #[],7),(3,3,ByteArray.mk #[],1)] A11 c12 (some ⟨g1,0,none⟩) 3 hr9 hr10 hr13 hr14 hr15 hr16 hr17 hr18 (A.hasl .i64 (3) rfl) (A.hasl .i64 (4) rfl) (A.hasl .i64 (3) rfl) (A.hasl .i64 (0) rfl) (A.hasl .i64 (6) rfl) (A.hasl .i64 (2) rfl) (A.szl (ByteArray.mk #[]) rfl) r19 hv20) (.s 364 (.o 2 (.s 0 (.s 1 .nil)))) ?_
 rintro _ _ ⟨A21,c22,rfl,rfl,hr23⟩
 refine⟨by kernel_rfl,?_⟩
 refine A.q0 [] [] [.n,.n,.n,.n,.n] [(4,.slice A21 ((r19.1).length) c22),(5,.int .i64 r19.2)] ?_
 refine A.dx 1 ?_
 refine A.AX.join [] [0,1] (fun nl nh=>∃(y24:Bool),nl=[(0,.bool y24)]∧nh=[]∧F.L18_begun_j1 y24=some r) ?_ ?_
 ·refine A.xl 0 ?_
  refine A.q0 [] [] [.n,.n,.n] [(30,.bool (decide (y5=0)))] ?_
  refine A.AL.cnp (j:=30) rfl hF (fun hb hF=>?_) (fun hb hF=>?_)
  ·refine A.q0 [] [] [.on .n,.on .n] [(31,.slice A2 ((xs4).length) c3),(32,.agg #[.int .i64 4,.int .i64 1,.string (ByteArray.mk #[]),.int .i64 15])] ?_
   refine A.AL.on (dj:=30) rfl rfl ?_
   refine A.AL.bsl 444 (ty:=T38) (cs:=[.int .i64 4,.int .i64 1,.string (ByteArray.mk #[]),.int .i64 15]) [(4,1,ByteArray.mk #[],15)] ⟨⟨⟨rfl,(A.hasl .i64 (4) rfl)⟩,⟨rfl,(A.hasl .i64 (1) rfl)⟩,⟨rfl,(A.szl (ByteArray.mk #[]) rfl)⟩,⟨rfl,(A.hasl .i64 (15) rfl)⟩⟩,rfl⟩ (fun g25=>?_) Tryd.zeroValue39 Tryd.sizeOf39
   refine A.AL.on (dj:=30) rfl rfl ?_
   obtain⟨r26,hv27,hF⟩:=A.bd_some hF
   refine A.AL.call 445 [] (first:=[]) (cap:=[]) cf15 (slices_Equal_api_Entry_api_Entry_ok xs4 [(4,1,ByteArray.mk #[],15)] A2 c3 (some ⟨g25,0,none⟩) 1 r26 hv27) (.o 184 (.o 444 .nil)) ?_
   rintro _ _ ⟨rfl,rfl⟩
   refine⟨by kernel_rfl,?_⟩
   refine A.q0 [] [] [.n,.n,.sy .n,.sy .n,.pk,.n] [(40,.bool (bif r26 then decide (r19.2=0)else false))] ?_
   refine A.AL.cnd (j:=40) rfl hF (fun hF=>?_) (fun hF=>?_)
   ·refine A.q0 [] [] [.on .n,.on .n,.on .n] [(41,.slice A21 ((r19.1).length) c22),(42,.agg #[.int .i64 4,.int .i64 0,.string (ByteArray.mk #[]),.int .i64 7]),(43,.agg #[.int .i64 4,.int .i64 1,.string (ByteArray.mk #[]),.int .i64 6])] ?_
    refine A.AL.on (dj:=40) rfl rfl ?_
    refine A.AL.bsl 485 (ty:=T38) (cs:=[.int .i64 4,.int .i64 0,.string (ByteArray.mk #[]),.int .i64 7,.int .i64 4,.int .i64 1,.string (ByteArray.mk #[]),.int .i64 6]) [(4,0,ByteArray.mk #[],7),(4,1,ByteArray.mk #[],6)] ⟨⟨⟨rfl,(A.hasl .i64 (4) rfl)⟩,⟨rfl,(A.hasl .i64 (0) rfl)⟩,⟨rfl,(A.szl (ByteArray.mk #[]) rfl)⟩,⟨rfl,(A.hasl .i64 (7) rfl)⟩⟩,⟨⟨⟨rfl,(A.hasl .i64 (4) rfl)⟩,⟨rfl,(A.hasl .i64 (1) rfl)⟩,⟨rfl,(A.szl (ByteArray.mk #[]) rfl)⟩,⟨rfl,(A.hasl .i64 (6) rfl)⟩⟩,rfl⟩⟩ (fun g28=>?_) Tryd.zeroValue39 Tryd.sizeOf39
    refine A.AL.on (dj:=40) rfl rfl ?_
    obtain⟨r29,hv30,hF⟩:=A.bd_some hF
    refine A.AL.call 486 [] (first:=[]) (cap:=[]) cf15 (slices_Equal_api_Entry_api_Entry_ok r19.1 [(4,0,ByteArray.mk #[],7),(4,1,ByteArray.mk #[],6)] A21 c22 (some ⟨g28,0,none⟩) 2 r29 hv30) (.o 404 (.o 485 .nil)) ?_
    rintro _ _ ⟨rfl,rfl⟩
    refine⟨by kernel_rfl,?_⟩
    refine A.q0 [] [] [.n,.n] [(0,.bool r29)] ?_
    refine A.AL.done ?_
    exact A.j ⟨r29,rfl,rfl,hF⟩
   refine A.q0 [] [] [.off,.off,.off,.off,.off,.n,.n] [(0,.bool false)] ?_
   refine A.AL.done ?_
   exact A.j ⟨false,rfl,rfl,hF⟩
  refine A.q0 [] [] [.off,.off,.off,.off,.n,.n,.off,.off,.n,.n,.off,.off,.off,.off,.off,.n,.n] [(0,.bool false)] ?_
  refine A.AL.done ?_
  exact A.j ⟨false,rfl,rfl,hF⟩
 rintro _ _ ⟨y24,rfl,rfl,hF⟩
 rw[F.L18_begun_j1]at hF
 obtain rfl:=Option.some.inj hF
 exact A.rt1 [] ⟨rfl,rfl⟩
end Go.Proofs.YtfpemeeadiigcaaDoor
end
section
set_option linter.unusedVariables false
set_option linter.unusedSimpArgs false
set_option maxRecDepth 20000
set_option maxHeartbeats 8000000
set_option synthInstance.maxSize 1000000
set_option synthInstance.maxHeartbeats 400000
namespace Go.Proofs.YtfpemeeadiigcaaDoor
open Go.RowKit
end Go.Proofs.YtfpemeeadiigcaaDoor
end
section
set_option linter.unusedVariables false
set_option linter.unusedSimpArgs false
set_option maxRecDepth 20000
set_option maxHeartbeats 8000000
set_option synthInstance.maxSize 1000000
set_option synthInstance.maxHeartbeats 400000
namespace Go.Proofs.YtfpemeeadiigcaaDoor
open Go.RowKit
end Go.Proofs.YtfpemeeadiigcaaDoor
end
section
set_option linter.unusedVariables false
set_option linter.unusedSimpArgs false
set_option maxRecDepth 20000
set_option maxHeartbeats 8000000
set_option synthInstance.maxSize 1000000
set_option synthInstance.maxHeartbeats 400000
namespace Go.Proofs.YtfpemeeadiigcaaDoor
open Go.RowKit
end Go.Proofs.YtfpemeeadiigcaaDoor
end
section
set_option linter.unusedVariables false
set_option linter.unusedSimpArgs false
set_option maxRecDepth 20000
set_option maxHeartbeats 8000000
set_option synthInstance.maxSize 1000000
set_option synthInstance.maxHeartbeats 400000
namespace Go.Proofs.YtfpemeeadiigcaaDoor
open Go.RowKit
end Go.Proofs.YtfpemeeadiigcaaDoor
end
section
set_option linter.unusedVariables false
set_option linter.unusedSimpArgs false
set_option maxRecDepth 20000
set_option maxHeartbeats 8000000
set_option synthInstance.maxSize 1000000
set_option synthInstance.maxHeartbeats 400000
namespace Go.Proofs.YtfpemeeadiigcaaDoor
open Go.RowKit
end Go.Proofs.YtfpemeeadiigcaaDoor
end
section
set_option linter.unusedVariables false
set_option linter.unusedSimpArgs false
set_option maxRecDepth 20000
set_option maxHeartbeats 8000000
set_option synthInstance.maxSize 1000000
set_option synthInstance.maxHeartbeats 400000
namespace Go.Proofs.YtfpemeeadiigcaaDoor
open Go.RowKit
def F.L18_SchemaAsWas_1 (a0:D38):Option Bool:=some (decide (a0.2.2.2=0))
theorem L18_SchemaAsWas_1_ok (a0:D38)(h0_:IntKind.i64.has a0.1)(h1_:IntKind.i64.has a0.2.1)(h2_:a0.2.2.1.size≤maxLen)(h3_:IntKind.i64.has a0.2.2.2)(r:Bool)(hF:F.L18_SchemaAsWas_1 a0=some r):
    A.Ct Tryd.prog 17 [.agg #[.int .i64 a0.1,.int .i64 a0.2.1,.string a0.2.2.1,.int .i64 a0.2.2.2]] [] [] (fun v H'=>v=.bool r∧H'=[]):=by
 refine A.Ct.enter Tryd.func17 rfl Tryd.ntmps17 rfl fun w0 F0=>?_
 rw[F.L18_SchemaAsWas_1]at hF
 refine A.xl 1 ?_
 refine A.AL.box 0 (cs:=[.int .i64 a0.1,.int .i64 a0.2.1,.string a0.2.2.1,.int .i64 a0.2.2.2]) fun g1=>?_
 refine A.q0 [] [] [.n] [] ?_
 refine A.dl 2 ?_
 refine A.q0 [0] [] [.n,.b 0 3,.n,.n] [(2,.bool (decide (a0.2.2.2=0)))] ?_
 refine A.dx 1 ?_
 obtain rfl:=Option.some.inj hF
 exact A.rt1 [] ⟨rfl,rfl⟩
end Go.Proofs.YtfpemeeadiigcaaDoor
end
section
set_option linter.unusedVariables false
set_option linter.unusedSimpArgs false
set_option maxRecDepth 20000
set_option maxHeartbeats 8000000
set_option synthInstance.maxSize 1000000
set_option synthInstance.maxHeartbeats 400000
namespace Go.Proofs.YtfpemeeadiigcaaDoor
open Go.RowKit
def F.slices_IndexFunc_api_Entry_api_Entry_L18_SchemaAsWas_1_l1 (a0:(List D38)):Nat→Int→Option Int
 |0,_=>none
 |f+1,y1=>if y1<((a0).length:Int)then((A.ix a0 y1).bind fun x4=>((F.L18_SchemaAsWas_1 (x4.1,x4.2.1,x4.2.2.1,x4.2.2.2)).bind fun r9=>(if r9=true then(some y1)else(A.gd (Z.R64 (y1+1)) ((F.slices_IndexFunc_api_Entry_api_Entry_L18_SchemaAsWas_1_l1 a0 f) (y1+1))))))else(some (-1))
def F.slices_IndexFunc_api_Entry_api_Entry_L18_SchemaAsWas_1 (a0:(List D38)):Option Int:=F.slices_IndexFunc_api_Entry_api_Entry_L18_SchemaAsWas_1_l1 a0 A.FU 0
theorem slices_IndexFunc_api_Entry_api_Entry_L18_SchemaAsWas_1_ok (a0:(List D38))(A0_:Option Addr)(c1_:Nat)(r:Int)(hF:F.slices_IndexFunc_api_Entry_api_Entry_L18_SchemaAsWas_1 a0=some r):
    A.Ct Tryd.prog 30 [.slice A0_ ((a0).length) c1_,.func (.func 17) #[] #[]] [(0,.ln T38 A0_ c1_ a0)] [] (fun v H'=>v=.int .i64 r∧H'=[]∧IntKind.i64.has r):=by
 refine A.Ct.enter Tryd.func30 rfl Tryd.ntmps30 rfl fun w0 F0=>?_
 rw[F.slices_IndexFunc_api_Entry_api_Entry_L18_SchemaAsWas_1]at hF
 refine A.xl 1 ?_
 refine A.q0 [] [] [.n] [] ?_
 refine A.dl 3 ?_
 refine A.q0 [] [] [.n,.n,.n] [(7,.int .i64 ((a0).length:Int)),(8,.int .i64 0)] ?_
 refine A.dx 2 ?_
 refine A.lp_ [0,1,7] [0] (fun f nl nh=>∃(y1:Int),nl=[(8,.int .i64 y1)]∧nh=[]∧IntKind.i64.has y1∧F.slices_IndexFunc_api_Entry_api_Entry_L18_SchemaAsWas_1_l1 a0 f y1=some r) ⟨0,rfl,rfl,(A.hasl .i64 (0) rfl),hF⟩ ?_
 rintro f3 _ _ ⟨y1,rfl,rfl,hy2,hF⟩
 rcases f3 with _|f3
 ·exact A.no0 hF
 rw[F.slices_IndexFunc_api_Entry_api_Entry_L18_SchemaAsWas_1_l1]at hF
 refine A.xl 1 ?_
 refine A.q0 [] [] [.n] [(9,.bool (decide (y1<((a0).length:Int))))] ?_
 refine A.dx 2 ?_
 refine A.AX.cnd rfl hF (fun hb hF=>?_) (fun hb hF=>?_)
 ·refine A.xl 5 ?_
  refine A.q0 [] [] [.n,.n] [(5,.int .i64 y1)] ?_
  refine A.dl 2 ?_
  refine A.q0 [] [] [.n,.n,.n] [(11,.func (.func 17) #[] #[]),(12,.slice A0_ ((a0).length) c1_),(13,.int .i64 y1)] ?_
  obtain⟨x4,hv5,hF⟩:=A.bd_some hF
  refine A.AL.ixl 0 83 hv5 fun ho6=>?_
  intro b7 o8
  refine A.q0 [] [83] [.e 0 0] [(15,.agg #[.int .i64 x4.1,.int .i64 x4.2.1,.string x4.2.2.1,.int .i64 x4.2.2.2])] ?_
  obtain⟨r9,hv10,hF⟩:=A.bd_some hF
  refine A.AL.call 84 [] (first:=[]) (cap:=[]) cf17 (L18_SchemaAsWas_1_ok (x4.1,x4.2.1,x4.2.2.1,x4.2.2.2) ho6.1 ho6.2.1 ho6.2.2.1 ho6.2.2.2 r9 hv10) .nil ?_
  rintro _ _ ⟨rfl,rfl⟩
  refine⟨by kernel_rfl,?_⟩
  refine A.dx 1 ?_
  refine A.AX.cnb rfl hF (fun hb hF=>?_) (fun hb hF=>?_)
  ·refine A.xl 1 ?_
   refine A.q0 [] [] [.n,.n] [(4,.int .i64 y1)] ?_
   refine A.dx 1 ?_
   obtain rfl:=Option.some.inj hF
   exact A.rt1 [] ⟨rfl,rfl,hy2⟩
  refine A.xl 3 ?_
  obtain⟨hc11,hF⟩:=A.gd_some hF
  refine A.q [] [] [.n,.n] [Z.R64 (y1+1)] [(8,.int .i64 (y1+1))] hc11 ?_
  refine A.AL.done ?_
  exact A.j ⟨_,Nat.lt_succ_self _,⟨(y1+1),rfl,rfl,(Z.i64_has hc11),hF⟩⟩
 refine A.xl 3 ?_
 refine A.q0 [] [] [.n] [(4,.int .i64 (-1))] ?_
 refine A.dx 1 ?_
 obtain rfl:=Option.some.inj hF
 exact A.rt1 [] ⟨rfl,rfl,(A.hasl .i64 (-1) rfl)⟩
def F.slices_ContainsFunc_api_Entry_api_Entry_L18_SchemaAsWas_1 (a0:(List D38)):Option Bool:=(F.slices_IndexFunc_api_Entry_api_Entry_L18_SchemaAsWas_1 a0).bind fun r1=>(some (decide ((0:Int)≤r1)))
theorem slices_ContainsFunc_api_Entry_api_Entry_L18_SchemaAsWas_1_ok (a0:(List D38))(A0_:Option Addr)(c1_:Nat)(r:Bool)(hF:F.slices_ContainsFunc_api_Entry_api_Entry_L18_SchemaAsWas_1 a0=some r):
    A.Ct Tryd.prog 16 [.slice A0_ ((a0).length) c1_,.func (.func 17) #[] #[]] [(0,.ln T38 A0_ c1_ a0)] [] (fun v H'=>v=.bool r∧H'=[]):=by
 refine A.Ct.enter Tryd.func16 rfl Tryd.ntmps16 rfl fun w0 F0=>?_
 rw[F.slices_ContainsFunc_api_Entry_api_Entry_L18_SchemaAsWas_1]at hF
 refine A.xl 1 ?_
 refine A.q0 [] [] [.n] [] ?_
 refine A.dl 2 ?_
 refine A.q0 [] [] [.n,.n] [(5,.slice A0_ ((a0).length) c1_),(6,.func (.func 17) #[] #[])] ?_
 obtain⟨r1,hv2,hF⟩:=A.bd_some hF
 refine A.AL.call 1 [] (first:=[]) (cap:=[]) cf30 (slices_IndexFunc_api_Entry_api_Entry_L18_SchemaAsWas_1_ok a0 A0_ c1_ r1 hv2) (.s 0 .nil) ?_
 rintro _ _ ⟨rfl,rfl,hr3⟩
 refine⟨by kernel_rfl,?_⟩
 refine A.q0 [] [] [.n,.n] [(4,.bool (decide ((0:Int)≤r1)))] ?_
 refine A.dx 1 ?_
 obtain rfl:=Option.some.inj hF
 exact A.rt1 [] ⟨rfl,rfl⟩
def F.L18_SchemaAsWas_l1 (a0:D25)(a2:(List D38))(r9:(List D38)×Int):Nat→Int→Option Bool
 |0,_=>none
 |f+1,y17=>if y17<((a2).length:Int)then((A.ix a2 y17).bind fun x20=>((A.ix r9.1 y17).bind fun x26=>(if(x26.1,x26.2.1,x26.2.2.1,x26.2.2.2)≠(a0.1,x20.2.1,x20.2.2.1,x20.2.2.2)then(some false)else(A.gd (Z.R64 (y17+1)) ((F.L18_SchemaAsWas_l1 a0 a2 r9 f) (y17+1))))))else(some true)
def F.L18_SchemaAsWas_j2 (a0:D25)(a2:(List D38))(r9:(List D38)×Int)(y14:Bool):Option Bool:=if y14=true then((F.L18_begun).bind fun r15=>(some r15))else(if((r9.1).length:Int)≠((a2).length:Int)then(some false)else(F.L18_SchemaAsWas_l1 a0 a2 r9 A.FU 0))
def F.L18_SchemaAsWas_j3 (a0:D25)(a1:Int)(a2:(List D38))(y3:Int)(y5:Int)(y7:Int):Option Bool:=(F.schema_Migrate (a0.1,a0.2.1,a0.2.2.1,(a0.2.2.2.1.1,a0.2.2.2.1.2.1,a0.2.2.2.1.2.2),a0.2.2.2.2.1,a0.2.2.2.2.2.1,a0.2.2.2.2.2.2) (a1,a0.1,y3,y5,(y7,0,ByteArray.mk #[])) a2).bind fun r9=>((F.L18_begun).bind fun r32=>(if(!r32)=true then(F.L18_SchemaAsWas_j2 a0 a2 r9 true)else((F.L18_few a2).bind fun r34=>(if(bif !r34 then true else decide (r9.2≠0))=true then(F.L18_SchemaAsWas_j2 a0 a2 r9 true)else((F.slices_ContainsFunc_api_Entry_api_Entry_L18_SchemaAsWas_1 a2).bind fun r36=>(F.L18_SchemaAsWas_j2 a0 a2 r9 r36))))))
def F.L18_SchemaAsWas (a0:D25)(a1:Int)(a2:(List D38))(a3:UInt8):Option Bool:=A.gd ((3:Int)≠0) (if Int.tmod (a3.toNat:Int) 3=1 then(F.L18_SchemaAsWas_j3 a0 a1 a2 2 1 0)else(if Int.tmod (a3.toNat:Int) 3=2 then(F.L18_SchemaAsWas_j3 a0 a1 a2 3 0 1)else(F.L18_SchemaAsWas_j3 a0 a1 a2 1 0 0)))
theorem L18_SchemaAsWas_ok (a0:D25)(a1:Int)(a2:(List D38))(a3:UInt8)(A2_:Option Addr)(c3_:Nat)(A11_:Option Addr)(c12_:Nat)(h0_:IntKind.i64.has a0.1)(h1_:IntKind.i64.has a0.2.1)(h4_:IntKind.i64.has a0.2.2.2.1.1)(h5_:IntKind.i64.has a0.2.2.2.1.2.1)(h6_:a0.2.2.2.1.2.2.size≤maxLen)(h7_:a0.2.2.2.2.1.size≤maxLen)(h8_:IntKind.i64.has a0.2.2.2.2.2.1)(h9_:IntKind.i64.has a0.2.2.2.2.2.2)(h10_:IntKind.i64.has a1)(r:Bool)(hF:F.L18_SchemaAsWas a0 a1 a2 a3=some r):
    A.Ct Tryd.prog 6 [.agg #[.int .i64 a0.1,.int .i64 a0.2.1,.slice A2_ ((a0.2.2.1).length) c3_,.int .i64 a0.2.2.2.1.1,.int .i64 a0.2.2.2.1.2.1,.string a0.2.2.2.1.2.2,.string a0.2.2.2.2.1,.int .i64 a0.2.2.2.2.2.1,.int .i64 a0.2.2.2.2.2.2],.int .i64 a1,.slice A11_ ((a2).length) c12_,.int .u8 (a3.toNat:Int)] [(0,.sh (.slice (Z.Ty.int .i64)) [.slice A2_ (a0.2.2.1).length c3_] a0.2.2.1),(1,.sh (.slice T38) [.slice A11_ (a2).length c12_] a2),(2,.el none 0 0 A.tabF),(3,.el none 1 0 A.tabA)] [] (fun v H'=>v=.bool r∧H'=[]):=by
 refine A.Ct.enter Tryd.func6 rfl Tryd.ntmps6 rfl fun w0 F0=>?_
 rw[F.L18_SchemaAsWas]at hF
 refine A.xl 1 ?_
 refine A.AL.box 4 (cs:=[.int .i64 a0.1,.int .i64 a0.2.1,.slice A2_ ((a0.2.2.1).length) c3_,.int .i64 a0.2.2.2.1.1,.int .i64 a0.2.2.2.1.2.1,.string a0.2.2.2.1.2.2,.string a0.2.2.2.2.1,.int .i64 a0.2.2.2.2.2.1,.int .i64 a0.2.2.2.2.2.2]) fun g1=>?_
 refine A.q0 [] [] [.n] [] ?_
 refine A.dl 2 ?_
 refine A.q0 [4] [] [.n,.n,.b 0 0,.n] [(17,.agg #[.int .i64 a1,.int .i64 a0.1,.int .i64 1,.int .i64 0,.int .i64 0,.int .i64 0,.string (ByteArray.mk #[])])] ?_
 refine A.AL.alloc 5 (cs:=[.int .i64 0,.int .i64 0,.int .i64 0,.int .i64 0,.int .i64 0,.int .i64 0,.string (ByteArray.mk #[])]) Tryd.zeroValue28 fun g2=>?_
 refine A.sw 5 [] [.int .i64 a1,.int .i64 a0.1,.int .i64 1,.int .i64 0,.int .i64 0,.int .i64 0,.string (ByteArray.mk #[])] ?_
 refine A.dx 1 ?_
 refine A.AX.join [2,4,9] [0,1,2,3,4] (fun nl nh=>∃(y3:Int),∃(y5:Int),∃(y7:Int),nl=[]∧nh=[(5,.blk g2 28 [.int .i64 a1,.int .i64 a0.1,.int .i64 y3,.int .i64 y5,.int .i64 y7,.int .i64 0,.string (ByteArray.mk #[])])]∧IntKind.i64.has y3∧IntKind.i64.has y5∧IntKind.i64.has y7∧F.L18_SchemaAsWas_j3 a0 a1 a2 y3 y5 y7=some r) ?_ ?_
 ·refine A.xl 1 ?_
  obtain⟨hc38,hF⟩:=A.gd_some hF
  refine A.q [] [] [.n,.n] [(3:Int)≠0] [(19,.int .u8 (Int.tmod (a3.toNat:Int) 3))] hc38 ?_
  refine A.dl 3 ?_
  refine A.q0 [] [] [.n,.n] [(20,.bool (decide (Int.tmod (a3.toNat:Int) 3=1)))] ?_
  refine A.dx 1 ?_
  refine A.AX.cnd rfl hF (fun hb hF=>?_) (fun hb hF=>?_)
  ·refine A.xl 0 ?_
   refine A.q0 [] [] [.n] [(22,.pointer (some ⟨g2,2,none⟩))] ?_
   refine A.AL.store 5 [] (new:=[.int .i64 2]) (cs':=[.int .i64 a1,.int .i64 a0.1,.int .i64 2,.int .i64 0,.int .i64 0,.int .i64 0,.string (ByteArray.mk #[])]) ?_
   refine A.q0 [] [] [.n] [(23,.pointer (some ⟨g2,3,none⟩))] ?_
   refine A.AL.store 5 [] (new:=[.int .i64 1]) (cs':=[.int .i64 a1,.int .i64 a0.1,.int .i64 2,.int .i64 1,.int .i64 0,.int .i64 0,.string (ByteArray.mk #[])]) ?_
   refine A.de 1 ?_
   exact A.j ⟨2,1,0,rfl,rfl,(A.hasl .i64 (2) rfl),(A.hasl .i64 (1) rfl),(A.hasl .i64 (0) rfl),hF⟩
  refine A.xl 1 ?_
  refine A.q0 [] [] [.n,.n] [(24,.bool (decide (Int.tmod (a3.toNat:Int) 3=2)))] ?_
  refine A.dx 1 ?_
  refine A.AX.cnd rfl hF (fun hb hF=>?_) (fun hb hF=>?_)
  ·refine A.xl 0 ?_
   refine A.q0 [] [] [.n,.n] [(26,.agg #[.int .i64 1,.int .i64 0,.string (ByteArray.mk #[])]),(27,.pointer (some ⟨g2,2,none⟩))] ?_
   refine A.AL.store 5 [] (new:=[.int .i64 3]) (cs':=[.int .i64 a1,.int .i64 a0.1,.int .i64 3,.int .i64 0,.int .i64 0,.int .i64 0,.string (ByteArray.mk #[])]) ?_
   refine A.q0 [] [] [.n] [(28,.pointer (some ⟨g2,4,none⟩))] ?_
   refine A.AL.store 5 [] (new:=[.int .i64 1,.int .i64 0,.string (ByteArray.mk #[])]) (cs':=[.int .i64 a1,.int .i64 a0.1,.int .i64 3,.int .i64 0,.int .i64 1,.int .i64 0,.string (ByteArray.mk #[])]) ?_
   refine A.de 1 ?_
   exact A.j ⟨3,0,1,rfl,rfl,(A.hasl .i64 (3) rfl),(A.hasl .i64 (0) rfl),(A.hasl .i64 (1) rfl),hF⟩
  refine A.xe 2 ?_
  exact A.j ⟨1,0,0,rfl,rfl,(A.hasl .i64 (1) rfl),(A.hasl .i64 (0) rfl),(A.hasl .i64 (0) rfl),hF⟩
 rintro _ _ ⟨y3,y5,y7,rfl,rfl,hy4,hy6,hy8,hF⟩
 rw[F.L18_SchemaAsWas_j3]at hF
 refine A.xl 1 ?_
 refine A.q0 [4,5] [] [.b 0 0,.b 1 0,.n] [(30,.agg #[.int .i64 a0.1,.int .i64 a0.2.1,.slice A2_ ((a0.2.2.1).length) c3_,.int .i64 a0.2.2.2.1.1,.int .i64 a0.2.2.2.1.2.1,.string a0.2.2.2.1.2.2,.string a0.2.2.2.2.1,.int .i64 a0.2.2.2.2.2.1,.int .i64 a0.2.2.2.2.2.2]),(31,.agg #[.int .i64 a1,.int .i64 a0.1,.int .i64 y3,.int .i64 y5,.int .i64 y7,.int .i64 0,.string (ByteArray.mk #[])]),(32,.slice A11_ ((a2).length) c12_)] ?_
 obtain⟨r9,hv10,hF⟩:=A.bd_some hF
 refine A.AL.call 6 [] (first:=[]) (cap:=[]) cf9 (schema_Migrate_ok (a0.1,a0.2.1,a0.2.2.1,(a0.2.2.2.1.1,a0.2.2.2.1.2.1,a0.2.2.2.1.2.2),a0.2.2.2.2.1,a0.2.2.2.2.2.1,a0.2.2.2.2.2.2) (a1,a0.1,y3,y5,(y7,0,ByteArray.mk #[])) a2 A2_ c3_ A11_ c12_ h0_ h1_ h4_ h5_ h6_ h7_ h8_ h9_ h10_ h0_ hy4 hy6 hy8 (A.hasl .i64 (0) rfl) (A.szl (ByteArray.mk #[]) rfl) r9 hv10) (.s 0 (.l 1 (.s 2 (.s 3 .nil)))) ?_
 rintro _ _ ⟨A11,c12,rfl,rfl,hr13⟩
 refine⟨by kernel_rfl,?_⟩
 refine A.q0 [] [] [.n,.n,.n,.n,.n] [(10,.slice A11 ((r9.1).length) c12),(11,.int .i64 r9.2)] ?_
 refine A.dx 2 ?_
 refine A.AX.join [2,4,10] [0,1,2,3,4,6] (fun nl nh=>∃(y14:Bool),nl=[(50,.bool y14)]∧nh=[]∧F.L18_SchemaAsWas_j2 a0 a2 r9 y14=some r) ?_ ?_
 ·refine A.xl 0 ?_
  obtain⟨r32,hv33,hF⟩:=A.bd_some hF
  refine A.AL.call 46 [] (first:=[]) (cap:=[]) cf7 (L18_begun_ok r32 hv33) (.s 2 (.s 3 .nil)) ?_
  rintro _ _ ⟨rfl,rfl⟩
  refine⟨by kernel_rfl,?_⟩
  refine A.q0 [] [] [.n,.n] [(38,.bool (!r32))] ?_
  refine A.AL.cnd (j:=38) rfl hF (fun hF=>?_) (fun hF=>?_)
  ·refine A.q0 [] [] [.off,.off,.off,.n,.n,.off,.off,.n,.n,.off,.off,.n] [(50,.bool true)] ?_
   refine A.AL.done ?_
   exact A.j ⟨true,rfl,rfl,hF⟩
  refine A.q0 [] [] [.on .n] [(39,.slice A11_ ((a2).length) c12_)] ?_
  refine A.AL.on (dj:=38) rfl rfl ?_
  obtain⟨r34,hv35,hF⟩:=A.bd_some hF
  refine A.AL.call 86 [] (first:=[]) (cap:=[]) cf8 (L18_few_ok a2 A11_ c12_ r34 hv35) (.s 1 .nil) ?_
  rintro _ _ ⟨rfl,rfl⟩
  refine⟨by kernel_rfl,?_⟩
  refine A.q0 [] [] [.on .n,.n,.n,.sy .n,.sy .n,.pk,.n] [(47,.bool (bif !r34 then true else decide (r9.2≠0)))] ?_
  refine A.AL.cnd (j:=47) rfl hF (fun hF=>?_) (fun hF=>?_)
  ·refine A.q0 [] [] [.off,.off,.n] [(50,.bool true)] ?_
   refine A.AL.done ?_
   exact A.j ⟨true,rfl,rfl,hF⟩
  refine A.q0 [] [] [.on .n] [(48,.slice A11_ ((a2).length) c12_)] ?_
  refine A.AL.on (dj:=47) rfl rfl ?_
  obtain⟨r36,hv37,hF⟩:=A.bd_some hF
  refine A.AL.call 126 [] (first:=[]) (cap:=[]) cf16 (slices_ContainsFunc_api_Entry_api_Entry_L18_SchemaAsWas_1_ok a2 A11_ c12_ r36 hv37) (.l 1 .nil) ?_
  rintro _ _ ⟨rfl,rfl⟩
  refine⟨by kernel_rfl,?_⟩
  refine A.q0 [] [] [.n] [(50,.bool r36)] ?_
  refine A.AL.done ?_
  exact A.j ⟨r36,rfl,rfl,hF⟩
 rintro _ _ ⟨y14,rfl,rfl,hF⟩
 rw[F.L18_SchemaAsWas_j2]at hF
 refine A.AX.cnb rfl hF (fun hb hF=>?_) (fun hb hF=>?_)
 ·refine A.xl 1 ?_
  obtain⟨r15,hv16,hF⟩:=A.bd_some hF
  refine A.AL.call 166 [] (first:=[]) (cap:=[]) cf7 (L18_begun_ok r15 hv16) (.s 2 (.s 3 .nil)) ?_
  rintro _ _ ⟨rfl,rfl⟩
  refine⟨by kernel_rfl,?_⟩
  refine A.q0 [] [] [.n] [(8,.bool r15)] ?_
  refine A.dx 1 ?_
  obtain rfl:=Option.some.inj hF
  exact A.rt1 [] ⟨rfl,rfl⟩
 refine A.xl 4 ?_
 refine A.q0 [] [] [.n,.n,.n,.n,.n] [(56,.bool (decide (((r9.1).length:Int)≠((a2).length:Int))))] ?_
 refine A.dx 1 ?_
 refine A.AX.cnd rfl hF (fun hb hF=>?_) (fun hb hF=>?_)
 ·refine A.xl 1 ?_
  refine A.q0 [] [] [.n] [(8,.bool false)] ?_
  refine A.dx 1 ?_
  obtain rfl:=Option.some.inj hF
  exact A.rt1 [] ⟨rfl,rfl⟩
 refine A.xl 4 ?_
 refine A.q0 [] [] [.n,.n,.n] [(57,.slice A11_ ((a2).length) c12_),(58,.int .i64 ((a2).length:Int)),(59,.int .i64 0)] ?_
 refine A.dx 2 ?_
 refine A.lp_ [4,10,57,58] [0,1,2,3,4,6] (fun f nl nh=>∃(y17:Int),nl=[(59,.int .i64 y17)]∧nh=[]∧IntKind.i64.has y17∧F.L18_SchemaAsWas_l1 a0 a2 r9 f y17=some r) ⟨0,rfl,rfl,(A.hasl .i64 (0) rfl),hF⟩ ?_
 rintro f19 _ _ ⟨y17,rfl,rfl,hy18,hF⟩
 rcases f19 with _|f19
 ·exact A.no0 hF
 rw[F.L18_SchemaAsWas_l1]at hF
 refine A.xl 1 ?_
 refine A.q0 [] [] [.n] [(60,.bool (decide (y17<((a2).length:Int))))] ?_
 refine A.dx 2 ?_
 refine A.AX.cnd rfl hF (fun hb hF=>?_) (fun hb hF=>?_)
 ·refine A.xl 5 ?_
  refine A.q0 [] [] [.n] [(61,.int .i64 y17)] ?_
  obtain⟨x20,hv21,hF⟩:=A.bd_some hF
  refine A.AL.ixs 1 212 hv21 fun ho22=>?_
  intro b23 o24
  refine A.q0 [] [212] [.e 0 0] [(63,.agg #[.int .i64 x20.1,.int .i64 x20.2.1,.string x20.2.2.1,.int .i64 x20.2.2.2])] ?_
  refine A.AL.alloc 213 (cs:=[.int .i64 0,.int .i64 0,.string (ByteArray.mk #[]),.int .i64 0]) Tryd.zeroValue39 fun g25=>?_
  refine A.q0 [] [] [.n] [(12,.int .i64 y17)] ?_
  refine A.sw 213 [] [.int .i64 x20.1,.int .i64 x20.2.1,.string x20.2.2.1,.int .i64 x20.2.2.2] ?_
  refine A.dl 2 ?_
  refine A.q0 [4] [] [.n,.b 0 0,.n] [(65,.int .i64 a0.1),(66,.pointer (some ⟨g25,0,none⟩))] ?_
  refine A.AL.store 213 [] (new:=[.int .i64 a0.1]) (cs':=[.int .i64 a0.1,.int .i64 x20.2.1,.string x20.2.2.1,.int .i64 x20.2.2.2]) ?_
  refine A.dx 2 ?_
  refine A.AX.dr mixed 6 6 (A.mb 6 0) ?_
  refine A.hq A.pb [] [0,1,2,3,4,6,212,213] [213] [] (A.mb 6 19) 3 [(0,.n),(1,.n),(4,.b 0 0)] [(67,.slice A11 ((r9.1).length) c12),(68,.int .i64 y17),(71,.agg #[.int .i64 a0.1,.int .i64 x20.2.1,.string x20.2.2.1,.int .i64 x20.2.2.2])] ?_
  obtain⟨x26,hv27,hF⟩:=A.bd_some hF
  refine A.AH.pko 6 214 hv27 fun ho28=>?_
  intro g30 hA29
  refine A.AH.v A.pb [0,1,2,3,4,6,212,213] [0,1,2,3,4,6,212,213,214] 2 (A.mb 6 23) rfl (fun a w hf hh=>A.r_ixo (t:=T38) hv27 hA29 hf) ?_
  refine A.hq A.pb [0,1,2,3,4,6,212,213,214] [0,1,2,3,4,6,212,213,214] [] [214] (A.mb 6 31) 1 [(3,.e 0 0)] [(70,.agg #[.int .i64 x26.1,.int .i64 x26.2.1,.string x26.2.2.1,.int .i64 x26.2.2.2])] ?_
  refine A.AH.v A.pb [0,1,2,3,4,6,212,213,214] [0,1,2,3,4,6,212,213,214] 5 (A.mb 6 63) rfl (fun a w hf hh=>eqagg_neq39 (x:=(x26.1,x26.2.1,x26.2.2.1,x26.2.2.2)) (y:=(a0.1,x20.2.1,x20.2.2.1,x20.2.2.2)) (hf.eval rfl) (hf.eval rfl)) ?_
  refine A.AH.done ?_
  refine A.ex 1 ?_
  refine A.AX.cnd rfl hF (fun hb hF=>?_) (fun hb hF=>?_)
  ·refine A.xl 1 ?_
   refine A.q0 [] [] [.n] [(8,.bool false)] ?_
   refine A.dx 1 ?_
   obtain rfl:=Option.some.inj hF
   exact A.rt1 [] ⟨rfl,rfl⟩
  refine A.xl 3 ?_
  obtain⟨hc31,hF⟩:=A.gd_some hF
  refine A.q [] [] [.n,.n] [Z.R64 (y17+1)] [(59,.int .i64 (y17+1))] hc31 ?_
  refine A.AL.done ?_
  exact A.j ⟨_,Nat.lt_succ_self _,⟨(y17+1),rfl,rfl,(Z.i64_has hc31),hF⟩⟩
 refine A.xl 3 ?_
 refine A.q0 [] [] [.n] [(8,.bool true)] ?_
 refine A.dx 1 ?_
 obtain rfl:=Option.some.inj hF
 exact A.rt1 [] ⟨rfl,rfl⟩
end Go.Proofs.YtfpemeeadiigcaaDoor
end
section
end
section
set_option linter.unusedVariables false
namespace Go.A
open Go.RowKit Go.Z Go.Shelf Go.Proofs Go.Lib
def Hall (W:World):List (Nat×Res)→Prop
 | []=>True
 |p::H=>(p.2.bl=[]∧p.2.ref=none∧p.2.holds W (fun _=>True) (fun _ _=>False))∧Hall W H
theorem Hall.at {W:World}: ∀{H:List (Nat×Res)} {k:Nat} {r:Res},Hall W H→hk H k=some r→r.bl=[]∧r.ref=none∧r.holds W (fun _=>True) (fun _ _=>False)
 | [],_,_,_,h=>by cases h
 |(d,u)::H,k,r,ha,h=>by
  rw[hk_cons]at h
  split at h
  ·injection h with h;subst h;exact ha.1
  ·exact ha.2.at h
theorem Hp.start {W:World}{H:List (Nat×Res)}(h:Hall W H):Hp ⟨0,[],W,[],fun _=>True⟩ H W:=by
 have hb: ∀k b,¬Bk H k b:=fun k b ⟨r,h1,h2⟩=>by rw[(h.at h1).1]at h2;cases h2
 refine⟨Ch.refl W,fun k r hk=>?_,fun k b hB=>(hb k b hB).elim,fun k k' b hB=>(hb k b hB).elim,fun k r j hk hr=>?_⟩
 ·exact Res.to (S:=[]) (h.at hk).2.2 (Ch.refl W) (fun b _ _=>⟨by simp,fun k=>hb k b,.inl trivial⟩) (fun b _ _=>⟨by simp,fun k=>hb k b⟩) (fun i b _ hf=>hf.elim) (by simp)
 ·rw[(h.at hk).2.1]at hr;cases hr
theorem Hall.sh {W:World}{t:Ty}{cs:List Value}{x:t.den}{F:Nat→Prop}(h:t.rep W F cs x):(Res.sh t cs x).bl=[]∧(Res.sh t cs x).ref=none∧(Res.sh t cs x).holds W (fun _=>True) (fun _ _=>False):=
 ⟨rfl,rfl,rep_as h fun _ _ _=>trivial⟩
theorem Hall.ln {W:World}{t:Ty}{A:Option Addr}{c n:Nat}{xs:List t.den}{F:Nat→Prop}(h:(Ty.slice t).rep W F [.slice A xs.length c] xs):(Res.ln t A c xs).bl=[]∧(Res.ln t A c xs).ref=none∧(Res.ln t A c xs).holds W (fun _=>True) (fun _ _=>False):=
 ⟨rfl,rfl,Row.to (S:=[]) (Row.of h) (Ch.refl W) (fun _ _ _=>⟨by simp,trivial⟩) (fun _ _ _=>⟨by simp,fun _ h=>h⟩)⟩
def putCells (cs:List Value):Obj→Obj
 | .cells _ t frozen=>.cells cs.toArray t frozen
 |o=>o
theorem tab_cells {w:World}{g3 g4:Nat}(h:Lib.Utf8Tabs g3 g4 w):Cells w ⟨g3,0,none⟩ tabF∧Cells w ⟨g4,0,none⟩ tabA:=by
 constructor
 ·intro j u hu
  rw[Addr.add_lit,Nat.zero_add]
  have hj:j<256:=by have:=(List.getElem?_eq_some_iff.1 hu).1;simpa[tabF] using this
  have e:tabF[j]?=some (.int .u8 (firstT j)):=by simp[tabF,hj]
  rw[e]at hu;injection hu with hu;subst hu
  exact h.1 j hj
 ·intro j u hu
  rw[Addr.add_lit,Nat.zero_add]
  have hj:j<32:=by have:=(List.getElem?_eq_some_iff.1 hu).1;simpa[tabA] using this
  have e:tabA[j]?=some (.int .u8 (if j%2=0 then accLo (j / 2)else accHi (j / 2))):=by simp[tabA,hj]
  rw[e]at hu;injection hu with hu;subst hu
  have:=h.2 (j / 2) (by omega)
  by_cases he:j%2=0
  ·rw[if_pos he]
   have hj2:j=2*(j / 2):=by omega
   rw[hj2];simpa using this.1
  ·rw[if_neg he]
   have hj2:j=2*(j / 2)+1:=by omega
   have h3:(2*(j / 2)+1) / 2=j / 2:=by omega
   rw[hj2,h3];exact this.2
theorem Hall.tabs {w:World}{g3 g4 i j:Nat}(h:Lib.Utf8Tabs g3 g4 w):Hall w [(i,.el none g3 0 tabF),(j,.el none g4 0 tabA)]:=by
 obtain⟨h1,h2⟩:=tab_cells h
 exact⟨⟨rfl,rfl,h1,World.block_lt_of_cell? w _ (h1 0 (.int .u8 (firstT 0)) (by simp[tabF])),fun _ h=>h⟩,⟨rfl,rfl,h2,World.block_lt_of_cell? w _ (h2 0 (.int .u8 (accLo 0)) (by simp[tabA])),fun _ h=>h⟩,trivial⟩
end Go.A
end
section
namespace Go.Graph
abbrev Fun:=Int×Int×ByteArray
abbrev Nd:=Int×Int×List Int×Fun×ByteArray×Int×Int
abbrev id (x:Nd):Int:=x.1
abbrev kind (x:Nd):Int:=x.2.1
abbrev fn (x:Nd):Fun:=x.2.2.2.1
abbrev name (x:Nd):ByteArray:=x.2.2.2.2.1
abbrev cap (x:Nd):Int:=x.2.2.2.2.2.1
def Few (g:List Nd):Prop:=g.length≤40∧∀x,x∈g→x.2.2.1.length≤5000∧x.2.2.2.2.1.size≤5000∧x.2.2.2.1.2.2.size≤5000
theorem Few.in {g:List Nd}{k:Nat}{x:Nd}(h:Few g)(hx:g[k]?=some x):x.2.2.1.length≤5000:=(h.2 x (List.mem_of_getElem? hx)).1
def insK (k:Int):Int:=if k<1∨16<k then-1 else if k=1 then 0 else if k=5∨k=9 then 2 else 1
def letter (c:UInt8):Bool:=decide ((97:Int)≤(c.toNat:Int)∧(c.toNat:Int)≤122∨(65:Int)≤(c.toNat:Int)∧(c.toNat:Int)≤90)
def digit (c:UInt8):Bool:=decide ((48:Int)≤(c.toNat:Int)∧(c.toNat:Int)≤57)
def wordy (l:List UInt8):Bool:=l.all fun c=>letter c||digit c
def named (s:ByteArray):Bool:=decide (s≠ByteArray.mk #[])&&decide ((s.size:Int)≤16)&&letter (Z.bat s 0)&&wordy s.data.toList
theorem drop_bat {s:ByteArray}{i:Nat}(h:i<s.size):s.data.toList.drop i=Z.bat s i::s.data.toList.drop (i+1):=by
 have h':i<s.data.toList.length:=by simpa using h
 rw[List.drop_eq_getElem_cons h']
 have h2:i<s.data.size:=h
 congr 1
 simp[Z.bat,Array.getElem?_eq_getElem h2]
theorem drop_end {s:ByteArray}{i:Nat}(h: ¬i<s.size):s.data.toList.drop i=[]:=
 List.drop_eq_nil_of_le (by have h1:s.data.toList.length=s.size:=rfl;omega)
def idxF (id:Int):Nat→List Nd→Int
 |_,[]=> -1
 |k,x::r=>if x.1=id then(k:Int)else idxF id (k+1) r
def idx (g:List Nd)(id:Int):Int:=idxF id 0 g
def namedF (kd:Int)(s:ByteArray):List Nd→Int×Bool
 | []=>(0,false)
 |x::r=>if kind x=kd∧name x=s then(x.1,true)else namedF kd s r
def z0:Nd:=(0,0,[],(0,0,ByteArray.mk #[]),ByteArray.mk #[],0,0)
def at_ (g:List Nd)(i:Int):Nd:=(g[i.toNat]?).getD z0
def ownT (g:List Nd)(n:Nd):Bool:=if n.2.1≠1∧n.2.1≠15 then decide (n.2.2.2.2.1=ByteArray.mk #[])else named n.2.2.2.2.1&&decide ((namedF n.2.1 n.2.2.2.2.1 g).1=n.1)
def ownC (n:Nd):Prop:=n.2.1=14∧(n.2.2.2.2.2.1<1∨8<n.2.2.2.2.2.1∨n.2.2.2.2.2.2<1∨4<n.2.2.2.2.2.2)∨n.2.1≠14∧(n.2.2.2.2.2.1≠0∨n.2.2.2.2.2.2≠0)
instance (n:Nd):Decidable (ownC n):=by unfold ownC;infer_instance
def own (g:List Nd)(i:Int)(n:Nd):Bool:=
 if n.1<1∨255<n.1∨0<i∧n.1≤(at_ g (i-1)).1∨insK n.2.1<0∨(n.2.2.1.length:Int)≠insK n.2.1 then false else if ownC n then false else ownT g n
def bget (l:List Bool)(i:Int):Bool:=(l[i.toNat]?).getD false
def iget (l:List Int)(i:Int):Int:=(l[i.toNat]?).getD 0
def readyF (g:List Nd)(done:List Bool)(kd:Int):List Int→Bool
 | []=>true
 |k::r=>if kd≠14∧bget done (idx g k)=false then false else readyF g done kd r
def ready (g:List Nd)(done:List Bool)(n:Nd):Bool:=readyF g done n.2.1 n.2.2.1
def firstF (g:List Nd)(done:List Bool):Nat→List Nd→Int→Int
 |_,[],a=>a
 |i,x::r,a=>firstF g done (i+1) r (if(a<0∧bget done i=false)∧ready g done x=true then i else a)
def orderF (g:List Nd):Nat→List Bool→List Int→Option (List Int)
 |0,_,l=>some l
 |f+1,done,l=>if firstF g done 0 g (-1)<0 then none else orderF g f (done.set (firstF g done 0 g (-1)).toNat true) (l++[firstF g done 0 g (-1)])
def order (g:List Nd):List Int×Bool:=match orderF g g.length (List.replicate g.length false) []with
 |some l=>(l,true)
 |none=>([],false)
def d0:List Int→Int
 | []=>0
 |a::_=>a
abbrev inD (g:List Nd) (d:List Int) (l:List Int):List Int:=l.map fun k=>iget d (idx g k)
def InB (d:List Int):Prop:=∀i,0≤iget d i∧iget d i≤4
theorem InB.rep (n:Nat):InB (List.replicate n 0):=fun i=>by
 unfold iget;rw[List.getElem?_replicate];split<;>simp
theorem InB.set {d:List Int}(h:InB d)(p:Nat){v:Int}(h0:0≤v)(h1:v≤4):InB (d.set p v):=fun i=>by
 unfold iget;rw[List.getElem?_set]
 have:=h i
 unfold iget at this
 split
 ·split<;>simp<;>omega
 ·exact this
theorem InB.d0 {d:List Int}(h:InB d)(g:List Nd)(l:List Int): -1≤Graph.d0 (inD g d l)∧Graph.d0 (inD g d l)≤4:=by
 cases l with
 |nil=>simp[Graph.d0]
 |cons k r=>have:=h (idx g k);simp only[inD,List.map_cons,Graph.d0];omega
theorem width_pos (s:ByteArray)(pos:Nat):1≤(Utf8.decode s pos).2:=by
 unfold Utf8.decode;simp only[];repeat' split
 all_goals first|exact Nat.le_refl 1|(simp;done)|omega
def numberF (f:Fun):Bool:=if f.1=3∨f.1=13 then decide (0≤f.2.1∧f.2.1≤64)else if f.1=6∨f.1=11 then decide (1≤f.2.1∧f.2.1≤1048576)else decide (f.2.1=0)
end Go.Graph
end
section
set_option linter.unusedVariables false
set_option linter.unusedSimpArgs false
namespace Go.A
open Go.Z
theorem gd1 {α:Type}{p:Prop}[Decidable p](h:p)(x:Option α):gd p x=x:=if_pos h
theorem ixn {α:Type}{xs:List α}{k:Nat}{x:α}(h:xs[k]?=some x):ix xs (k:Int)=some x:=by rw[ix_nat];exact h
theorem dropx {α:Type}{xs:List α}{k:Nat}{x:α}(h:xs[k]?=some x):xs.drop k=x::xs.drop (k+1):=by
 obtain⟨h1,h2⟩:=List.getElem?_eq_some_iff.1 h
 rw[List.drop_eq_getElem_cons h1,h2]
theorem ba {p q:Prop}[Decidable p][Decidable q]:(bif decide p then decide q else false)=decide (p∧q):=by by_cases h:p<;>simp[h]
theorem bo {p q:Prop}[Decidable p][Decidable q]:(bif decide p then true else decide q)=decide (p∨q):=by by_cases h:p<;>simp[h]
theorem bn {p:Prop}[Decidable p]:(!decide p)=decide (¬p):=by by_cases h:p<;>simp[h]
theorem lp {α σ ρ:Type}(xs:List α)(L:Nat→σ→Int→Option ρ)(G:Nat→List α→σ→Option ρ)(P:Nat→σ→Prop)
  (h0: ∀f s,P xs.length s→L (f+1) s (xs.length:Int)=G xs.length [] s)
  (h1: ∀f s (k:Nat) x,xs[k]?=some x→k<xs.length→P k s→(∀s',P (k+1) s'→L f s' ((k:Int)+1)=G (k+1) (xs.drop (k+1)) s')→L (f+1) s k=G k (x::xs.drop (k+1)) s)
  (hl:xs.length<FU) (s:σ) (hs:P 0 s):L FU s 0=G 0 xs s:=by
 have main: ∀(n k f:Nat) (s:σ),k+n=xs.length→n<f→P k s→L f s (k:Int)=G k (xs.drop k) s:=by
  intro n
  induction n with
  |zero=>
   intro k f s hk hf hp
   obtain⟨f,rfl⟩: ∃f',f=f'+1:=⟨f-1,by omega⟩
   obtain rfl:k=xs.length:=by omega
   rw[List.drop_eq_nil_of_le (Nat.le_refl _)];exact h0 f s hp
  |succ n ih=>
   intro k f s hk hf hp
   obtain⟨f,rfl⟩: ∃f',f=f'+1:=⟨f-1,by omega⟩
   have hx:xs[k]?=some xs[k]:=List.getElem?_eq_getElem (by omega)
   rw[dropx hx]
   exact h1 f s k _ hx (by omega) hp fun s' hp'=>ih (k+1) f s' (by omega) (by omega) hp'
 have:=main xs.length 0 FU s (by omega) hl hs
 simpa using this
theorem lp0 {α ρ:Type}(xs:List α)(L:Nat→Int→Option ρ)(G:Nat→List α→Option ρ)
  (h0: ∀f,L (f+1) (xs.length:Int)=G xs.length [])
  (h1: ∀f (k:Nat) x,xs[k]?=some x→k<xs.length→L f ((k:Int)+1)=G (k+1) (xs.drop (k+1))→L (f+1) k=G k (x::xs.drop (k+1)))
  (hl:xs.length<FU):L FU 0=G 0 xs:=
 lp xs (fun f (_:Unit) y=>L f y) (fun k l _=>G k l) (fun _ _=>True) (fun f s _=>h0 f) (fun f s k x hx hk _ ih=>h1 f k x hx hk (ih () trivial)) hl () trivial
end Go.A
namespace Go.Proofs.YtfpemeeadiigcaaDoor
open Go.RowKit Go.Graph
theorem FU_big:(18446744073709551616:Nat)<A.FU:=by decide
theorem size_list (s:ByteArray):s.data.toList.length=s.size:=rfl
end Go.Proofs.YtfpemeeadiigcaaDoor
end
section
set_option linter.unusedVariables false
set_option linter.unusedSimpArgs false
namespace Go.Proofs.YtfpemeeadiigcaaDoor
open Go.RowKit Go.Graph
end Go.Proofs.YtfpemeeadiigcaaDoor
end
section
set_option maxRecDepth 20000
set_option linter.unusedVariables false
set_option linter.unusedSimpArgs false
namespace Go.Proofs.YtfpemeeadiigcaaDoor
open Go.RowKit Go.Graph
def wid (s:ByteArray)(p:Nat):Nat:=if Utf8.decode s p=(65533,1)then 0 else(Utf8.decode s p).2
theorem cnd {α:Type}{p:Prop}[Decidable p](x y:α):(bif decide p then x else y)=if p then x else y:=by by_cases h:p<;>simp[h]
def vld (s:ByteArray):Nat→Nat→Bool
 |0,_=>true
 |n+1,p=>if p<s.size then(if wid s p=0 then false else vld s n (p+wid s p))else true
def cnt (s:ByteArray):Nat→Nat→Nat
 |0,_=>0
 |n+1,p=>if p<s.size then 1+cnt s n (p+(Utf8.decode s p).2)else 0
theorem validD_eq (s:ByteArray):Lib.validD s.data.toList=vld s s.size 0:=by
 have loop: ∀(n p:Nat),Lib.validGoD n (s.data.toList.drop p)=vld s n p:=by
  intro n
  induction n with
  |zero=>intro p;rfl
  |succ n ih=>
   intro p
   rw[Lib.validGoD,vld]
   by_cases h:p<s.size
   ·have hne:s.data.toList.drop p≠[]:=by rw[drop_bat h];simp
    rw[if_neg hne,if_pos h,Lib.decodeL_drop,List.drop_drop]
    by_cases hw:Utf8.decode s p=(65533,1)
    ·rw[if_pos (by rw[hw];exact⟨rfl,rfl⟩),if_pos (by unfold wid;rw[if_pos hw])]
    ·have e:wid s p=(Utf8.decode s p).2:=by unfold wid;rw[if_neg hw]
     rw[if_neg (fun h2=>hw (Prod.ext h2.1 h2.2)),if_neg (by rw[e];have:=width_pos s p;omega),ih,e]
   ·rw[if_pos (drop_end h),if_neg h]
 have:=loop s.size 0
 rw[List.drop_zero]at this
 exact this
theorem single_eq (s:ByteArray)(hs:s.size≤9223372036854775807):F.fn_single s=some (if cnt s s.size 0=1 then vld s s.size 0 else false):=by
 have loop: ∀(n p f:Nat) (y:Int),s.size-p≤n→n<f→0≤y→y+n≤9223372036854775807→F.fn_single_l2 s f p y=some (if y+(cnt s n p:Int)=1 then vld s s.size 0 else false):=by
  intro n
  induction n with
  |zero=>
   intro p f y hp hf _ _
   obtain⟨f,rfl⟩: ∃f',f=f'+1:=⟨f-1,by omega⟩
   rw[F.fn_single_l2,if_neg (by omega),F.utf8_ValidString,validD_eq,Option.bind_some]
   simp only[F.fn_single_j1]
   have e:y+(cnt s 0 p:Int)=y:=by rw[cnt];omega
   by_cases h:y=1
   ·rw[if_pos h,if_pos (by omega)]
   ·rw[if_neg h,if_neg (by omega)]
  |succ n ih=>
   intro p f y hp hf h0 h2
   obtain⟨f,rfl⟩: ∃f',f=f'+1:=⟨f-1,by omega⟩
   rw[F.fn_single_l2,cnt]
   by_cases h:p<s.size
   ·rw[if_pos h,if_pos h,A.gd1 ⟨by omega,by omega⟩]
    have hw:=width_pos s p
    rw[ih _ f (y+1) (by omega) (by omega) (by omega) (by omega)]
    congr 2
    exact propext ⟨fun h=>by omega,fun h=>by omega⟩
   ·rw[if_neg h,if_neg h,F.utf8_ValidString,validD_eq,Option.bind_some]
    simp only[F.fn_single_j1]
    by_cases h:y=1
    ·rw[if_pos h,if_pos (by omega)]
    ·rw[if_neg h,if_neg (by omega)]
 unfold F.fn_single
 rw[loop s.size 0 A.FU 0 (by omega) (by have:=FU_big;omega) (by omega) (by omega)]
 congr 2
 exact propext ⟨fun h=>by omega,fun h=>by omega⟩
end Go.Proofs.YtfpemeeadiigcaaDoor
end
section
set_option linter.unusedVariables false
set_option linter.unusedSimpArgs false
namespace Go.Proofs.YtfpemeeadiigcaaDoor
open Go.RowKit Go.Graph
def textP (f:Fun):Bool:=if f.1=5 then decide (f.2.2≠ByteArray.mk #[])&&decide ((f.2.2.size:Int)≤16)&&vld f.2.2 f.2.2.size 0 else if f.1=12∨f.1=22 then decide (cnt f.2.2 f.2.2.size 0=1)&&vld f.2.2 f.2.2.size 0 else decide (f.2.2=ByteArray.mk #[])
theorem number_eq (f:Fun):F.fn_number f=some (numberF f):=by
 unfold F.fn_number F.fn_number_j2 F.fn_number_j1 numberF
 simp only[A.ba,decide_eq_true_eq]
 by_cases h3:f.1=3
 ·simp[h3]
 ·by_cases h13:f.1=13
  ·simp[h13]
  ·by_cases h6:f.1=6
   ·simp[h6]
   ·by_cases h11:f.1=11<;>simp[h3,h13,h6,h11]
theorem text_eq (f:Fun)(hs:f.2.2.size≤9223372036854775807):F.fn_text f=some (textP f):=by
 unfold F.fn_text textP
 simp only[F.fn_text_j1,F.fn_text_j2,A.ba,single_eq _ hs,F.utf8_ValidString,validD_eq,Option.bind_some,decide_eq_true_eq]
 by_cases h5:f.1=5
 ·simp only[h5,if_true]
  by_cases h1:f.2.2=ByteArray.mk #[]<;>by_cases h2:(f.2.2.size:Int)≤16<;>simp[h1,h2]
 ·by_cases h12:f.1=12
  ·simp[h12]
  ·by_cases h22:f.1=22<;>simp[h5,h12,h22]
def anyF (f:Fun)(l:List Int):Int:=if l.any (fun y=>decide (y=f.1)&&(numberF f&&textP f))=true then 0 else 60
def kinds (k:Int):List Int:=if k=2 then [1,2,3,4,5,6,7,8]else if k=3 then [11,12,13]else if k=4 then [21,22]else if k=8 then [31,32,33,34]else if k=11 then [41,42]else []
def chk (k:Int)(f:Fun):Int:=if kinds k=[]then(if f=(0,0,ByteArray.mk #[])then 0 else 60)else anyF f (kinds k)
theorem chk_l (f:Fun)(hs:f.2.2.size≤9223372036854775807): ∀l,F.fn_Check_l2 f l=some (anyF f l)
 | []=>rfl
 |y::l=>by
  have ih:=chk_l f hs l
  unfold F.fn_Check_l2
  simp only[F.fn_Check_j1,number_eq,text_eq _ hs,Option.bind_some,ih,anyF,List.any_cons]
  by_cases h:y=f.1
  ·subst h
   cases hn:numberF f<;>cases ht:textP f<;>simp
  ·simp[h]
theorem fn_Check_eq (k:Int)(f:Fun)(hs:f.2.2.size≤9223372036854775807):F.fn_Check k f=some (chk k f):=by
 have u2:F.fn_Uses_1_it 1 8=some [1,2,3,4,5,6,7,8]:=by kernel_rfl
 have u3:F.fn_Uses_1_it 11 13=some [11,12,13]:=by kernel_rfl
 have u4:F.fn_Uses_1_it 21 22=some [21,22]:=by kernel_rfl
 have u8:F.fn_Uses_1_it 31 34=some [31,32,33,34]:=by kernel_rfl
 have u11:F.fn_Uses_1_it 41 42=some [41,42]:=by kernel_rfl
 unfold F.fn_Check F.fn_Uses F.fn_uses chk kinds
 by_cases h2:k=2
 ·simp[h2,u2,chk_l f hs]
 ·by_cases h3:k=3
  ·simp[h3,u3,chk_l f hs]
  ·by_cases h4:k=4
   ·simp[h4,u4,chk_l f hs]
   ·by_cases h8:k=8
    ·simp[h8,u8,chk_l f hs]
    ·by_cases h11:k=11
     ·simp[h11,u11,chk_l f hs]
     ·simp only[h2,h3,h4,h8,h11,if_false,Option.bind_some]
      rw[if_pos (by decide),if_pos trivial]
      by_cases hz:f=(0,0,ByteArray.mk #[])
      ·rw[if_neg (fun h=>h hz),if_pos hz]
      ·rw[if_pos hz,if_neg hz]
end Go.Proofs.YtfpemeeadiigcaaDoor
end
