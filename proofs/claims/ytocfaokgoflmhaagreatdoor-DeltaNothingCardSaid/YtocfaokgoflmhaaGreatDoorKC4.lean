/- Functions on data, and that the code computes them. * A layer over the small logic, continued: where a law's walk begins. No program in sight. * Plain law of graphs: what the reference and the program say of graphs, as functions on data (no program in sight). * Plain: rounds by a count of steps are recursion over a list; small functions of graphs. * Plain: names, rune by rune; functions of nodes. -/
import Derived.Test.YtocfaokgoflmhaaGreatDoorKC0
import Derived.Test.YtocfaokgoflmhaaGreatDoorKC1
import Derived.Test.YtocfaokgoflmhaaGreatDoorKC3
import Derived.Test.YtocfaokgoflmhaaGreatDoorKC2
import Derived.Lib.TrimUEq
section
set_option linter.unusedVariables false
set_option linter.unusedSimpArgs false
set_option maxRecDepth 20000
set_option maxHeartbeats 8000000
set_option synthInstance.maxSize 1000000
set_option synthInstance.maxHeartbeats 400000
namespace Go.Proofs.YtocfaokgoflmhaaGreatDoor
open Go.RowKit
def F.R08_Find (a0:D23)(a1:Int):Option (D69×Bool):=(F.R08_index a0 a1).bind fun r3=>(if r3<0 then(some ((0,0,[],(0,0,ByteArray.mk #[]),ByteArray.mk #[],0,0),false))else((A.ix a0 r3).bind fun x6=>(A.gd ((List.length (α:=Int) []+List.length (α:=Int) x6.2.2.1)*8≤140737488355328) (some ((x6.1,x6.2.1,[]++x6.2.2.1,(x6.2.2.2.1.1,x6.2.2.2.1.2.1,x6.2.2.2.1.2.2),x6.2.2.2.2.1,x6.2.2.2.2.2.1,x6.2.2.2.2.2.2),true)))))
theorem R08_Find_ok (a0:D23)(a1:Int)(A0_:Option Addr)(c1_:Nat)(h2_:IntKind.i64.has a1)(r:D69×Bool)(hF:F.R08_Find a0 a1=some r):
    A.Ct Tryz.prog 113 [.agg #[.slice A0_ ((a0).length) c1_],.int .i64 a1] [(0,.sh (.slice T69) [.slice A0_ (a0).length c1_] a0)] [] (fun v H'=>∃(A0':Option Addr) (c1':Nat),v=.tuple #[.agg #[.int .i64 r.1.1,.int .i64 r.1.2.1,.slice A0' ((r.1.2.2.1).length) c1',.int .i64 r.1.2.2.2.1.1,.int .i64 r.1.2.2.2.1.2.1,.string r.1.2.2.2.1.2.2,.string r.1.2.2.2.2.1,.int .i64 r.1.2.2.2.2.2.1,.int .i64 r.1.2.2.2.2.2.2],.bool r.2]∧H'=[(0,.sh (.slice (Z.Ty.int .i64)) [.slice A0' (r.1.2.2.1).length c1'] r.1.2.2.1)]∧IntKind.i64.has r.1.1∧IntKind.i64.has r.1.2.1∧IntKind.i64.has r.1.2.2.2.1.1∧IntKind.i64.has r.1.2.2.2.1.2.1∧r.1.2.2.2.1.2.2.size≤maxLen∧r.1.2.2.2.2.1.size≤maxLen∧IntKind.i64.has r.1.2.2.2.2.2.1∧IntKind.i64.has r.1.2.2.2.2.2.2):=by
 refine A.Ct.enter Tryz.func113 rfl Tryz.ntmps113 rfl fun w0 F0=>?_
 rw[F.R08_Find]at hF
 refine A.xl 1 ?_
 refine A.AL.box 1 (cs:=[.slice A0_ ((a0).length) c1_]) fun g1=>?_
 refine A.AL.alloc 2 (cs:=[.int .i64 0,.int .i64 0,.slice none 0 0,.int .i64 0,.int .i64 0,.string (ByteArray.mk #[]),.string (ByteArray.mk #[]),.int .i64 0,.int .i64 0]) Tryz.zeroValue70 fun g2=>?_
 refine A.q0 [] [] [.n] [] ?_
 refine A.dl 2 ?_
 refine A.q0 [1] [] [.b 0 0,.n] [(8,.agg #[.slice A0_ ((a0).length) c1_]),(9,.int .i64 a1)] ?_
 obtain⟨r3,hv4,hF⟩:=A.bd_some hF
 refine A.AL.call 3 [] (first:=[]) (cap:=[]) cf110 (R08_index_ok a0 a1 A0_ c1_ h2_ r3 hv4) (.s 0 .nil) ?_
 rintro _ _ ⟨rfl,rfl,hr5⟩
 refine⟨by kernel_rfl,?_⟩
 refine A.q0 [] [] [.n] [(6,.int .i64 r3)] ?_
 refine A.dl 3 ?_
 refine A.q0 [] [] [.n,.n] [(12,.bool (decide (r3<0)))] ?_
 refine A.dx 1 ?_
 refine A.AX.cnd rfl hF (fun hb hF=>?_) (fun hb hF=>?_)
 ·refine A.xl 1 ?_
  refine A.q0 [] [] [.n] [(13,.agg #[.int .i64 0,.int .i64 0,.slice none 0 0,.int .i64 0,.int .i64 0,.string (ByteArray.mk #[]),.string (ByteArray.mk #[]),.int .i64 0,.int .i64 0])] ?_
  refine A.sw 2 [] [.int .i64 0,.int .i64 0,.slice none 0 0,.int .i64 0,.int .i64 0,.string (ByteArray.mk #[]),.string (ByteArray.mk #[]),.int .i64 0,.int .i64 0] ?_
  refine A.q0 [] [] [.n] [(5,.bool false)] ?_
  refine A.dx 1 ?_
  obtain rfl:=Option.some.inj hF
  refine A.snil 43 (Z.Ty.int .i64) ?_
  exact A.AX.ret [(0,43)] (.tuple #[.agg #[.int .i64 0,.int .i64 0,.slice none 0 0,.int .i64 0,.int .i64 0,.string (ByteArray.mk #[]),.string (ByteArray.mk #[]),.int .i64 0,.int .i64 0],.bool false]) (fun a w hf hh=>Z.resv2 rfl (Z.rv_n hf rfl Tryz.isAgg70 Tryz.sizeOf70 (A.Hp.blk hh 2) rfl) (Z.rv_t hf rfl)) (⟨none,0,rfl,rfl,(A.hasl .i64 (0) rfl),(A.hasl .i64 (0) rfl),(A.hasl .i64 (0) rfl),(A.hasl .i64 (0) rfl),(A.szl (ByteArray.mk #[]) rfl),(A.szl (ByteArray.mk #[]) rfl),(A.hasl .i64 (0) rfl),(A.hasl .i64 (0) rfl)⟩)
 refine A.xl 3 ?_
 refine A.q0 [1] [] [.n,.b 0 0,.n] [(15,.slice A0_ ((a0).length) c1_),(16,.int .i64 r3)] ?_
 obtain⟨x6,hv7,hF⟩:=A.bd_some hF
 refine A.AL.ixs 0 44 hv7 fun ho8=>?_
 intro A9 c10 b11 o12
 refine A.q0 [] [44] [.e 0 0] [(18,.agg #[.int .i64 x6.1,.int .i64 x6.2.1,.slice A9 ((x6.2.2.1).length) c10,.int .i64 x6.2.2.2.1.1,.int .i64 x6.2.2.2.1.2.1,.string x6.2.2.2.1.2.2,.string x6.2.2.2.2.1,.int .i64 x6.2.2.2.2.2.1,.int .i64 x6.2.2.2.2.2.2])] ?_
 refine A.AL.alloc 46 (cs:=[.int .i64 0,.int .i64 0,.slice none 0 0,.int .i64 0,.int .i64 0,.string (ByteArray.mk #[]),.string (ByteArray.mk #[]),.int .i64 0,.int .i64 0]) Tryz.zeroValue70 fun g13=>?_
 refine A.sw 46 [] [.int .i64 x6.1,.int .i64 x6.2.1,.slice A9 ((x6.2.2.1).length) c10,.int .i64 x6.2.2.2.1.1,.int .i64 x6.2.2.2.1.2.1,.string x6.2.2.2.1.2.2,.string x6.2.2.2.2.1,.int .i64 x6.2.2.2.2.2.1,.int .i64 x6.2.2.2.2.2.2] ?_
 refine A.dl 2 ?_
 refine A.q0 [46] [] [.n,.b 0 2] [(20,.slice A9 ((x6.2.2.1).length) c10)] ?_
 refine A.nil 47 (Z.Ty.int .i64) 3 ?_
 obtain⟨hl16,hF⟩:=A.gd_some hF
 refine A.AL.app (k:=47) [] (A.rowS (k:=45) rfl) inf3 hl16 fun A14 c15=>?_
 refine A.q0 [] [] [.n] [(22,.pointer (some ⟨g13,2,none⟩))] ?_
 refine A.AL.store 46 [] (new:=[.slice A14 (([]++x6.2.2.1).length) c15]) (cs':=[.int .i64 x6.1,.int .i64 x6.2.1,.slice A14 (([]++x6.2.2.1).length) c15,.int .i64 x6.2.2.2.1.1,.int .i64 x6.2.2.2.1.2.1,.string x6.2.2.2.1.2.2,.string x6.2.2.2.2.1,.int .i64 x6.2.2.2.2.2.1,.int .i64 x6.2.2.2.2.2.2]) ?_
 refine A.dl 2 ?_
 refine A.q0 [46] [] [.b 0 0] [(23,.agg #[.int .i64 x6.1,.int .i64 x6.2.1,.slice A14 (([]++x6.2.2.1).length) c15,.int .i64 x6.2.2.2.1.1,.int .i64 x6.2.2.2.1.2.1,.string x6.2.2.2.1.2.2,.string x6.2.2.2.2.1,.int .i64 x6.2.2.2.2.2.1,.int .i64 x6.2.2.2.2.2.2])] ?_
 refine A.sw 2 [] [.int .i64 x6.1,.int .i64 x6.2.1,.slice A14 (([]++x6.2.2.1).length) c15,.int .i64 x6.2.2.2.1.1,.int .i64 x6.2.2.2.1.2.1,.string x6.2.2.2.1.2.2,.string x6.2.2.2.2.1,.int .i64 x6.2.2.2.2.2.1,.int .i64 x6.2.2.2.2.2.2] ?_
 refine A.q0 [] [] [.n] [(5,.bool true)] ?_
 refine A.dx 1 ?_
 obtain rfl:=Option.some.inj hF
 refine A.frz 47 [] ?_
 exact A.AX.ret [(0,47)] (.tuple #[.agg #[.int .i64 x6.1,.int .i64 x6.2.1,.slice A14 (([]++x6.2.2.1).length) c15,.int .i64 x6.2.2.2.1.1,.int .i64 x6.2.2.2.1.2.1,.string x6.2.2.2.1.2.2,.string x6.2.2.2.2.1,.int .i64 x6.2.2.2.2.2.1,.int .i64 x6.2.2.2.2.2.2],.bool true]) (fun a w hf hh=>Z.resv2 rfl (Z.rv_n hf rfl Tryz.isAgg70 Tryz.sizeOf70 (A.Hp.blk hh 2) rfl) (Z.rv_t hf rfl)) (⟨A14,c15,rfl,rfl,ho8.1,ho8.2.1,ho8.2.2.2.1.1,ho8.2.2.2.1.2.1,ho8.2.2.2.1.2.2,ho8.2.2.2.2.1,ho8.2.2.2.2.2.1,ho8.2.2.2.2.2.2⟩)
def F.R02_Check_j1 (k1:Int→Option Int)(y3:Int)(y6:Bool):Option Int:=if y6=true then(some 20)else(A.gd (Z.R64 (y3+1)) (k1 (y3+1)))
def F.R02_Check_l2 (a0:D154):Nat→Int→Option Int
 |0,_=>none
 |f+1,y3=>if y3<4 then((A.ix [a0.2.2.2.2.1,a0.2.2.2.2.2.1,a0.2.2.2.2.2.2.1,a0.2.2.2.2.2.2.2] y3).bind fun x8=>(if x8<0 then(F.R02_Check_j1 (F.R02_Check_l2 a0 f) y3 true)else((A.ix [a0.2.2.2.2.1,a0.2.2.2.2.2.1,a0.2.2.2.2.2.2.1,a0.2.2.2.2.2.2.2] y3).bind fun x10=>(if(1048576:Int)<x10 then(F.R02_Check_j1 (F.R02_Check_l2 a0 f) y3 true)else(if a0.2.2.2.1≤y3 then((A.ix [a0.2.2.2.2.1,a0.2.2.2.2.2.1,a0.2.2.2.2.2.2.1,a0.2.2.2.2.2.2.2] y3).bind fun x12=>(F.R02_Check_j1 (F.R02_Check_l2 a0 f) y3 (decide (x12≠0))))else(F.R02_Check_j1 (F.R02_Check_l2 a0 f) y3 false))))))else(some 0)
def F.R02_Check (a0:D154):Option Int:=A.gd (((bif bif bif bif bif decide (a0.1<0)then true else decide ((4:Int)<a0.1)then true else decide (a0.2.2.2.1<0)then true else decide ((4:Int)<a0.2.2.2.1)then true else decide (a0.2.1<0)then true else decide (a0.1<a0.2.1))=false→Z.R64 (a0.2.1+a0.2.2.2.1))) (if(bif bif bif bif bif bif bif bif decide (a0.1<0)then true else decide ((4:Int)<a0.1)then true else decide (a0.2.2.2.1<0)then true else decide ((4:Int)<a0.2.2.2.1)then true else decide (a0.2.1<0)then true else decide (a0.1<a0.2.1)then true else decide ((4:Int)<a0.2.1+a0.2.2.2.1)then true else decide (a0.2.2.1<0)then true else decide ((1048576:Int)<a0.2.2.1))=true then(some 20)else(if(bif decide (a0.2.1=0)then decide (a0.2.2.1≠0)else false)=true then(some 20)else(F.R02_Check_l2 a0 A.FU 0)))
theorem R02_Check_ok (a0:D154)(h0_:IntKind.i64.has a0.1)(h1_:IntKind.i64.has a0.2.1)(h2_:IntKind.i64.has a0.2.2.1)(h3_:IntKind.i64.has a0.2.2.2.1)(h4_:IntKind.i64.has a0.2.2.2.2.1)(h5_:IntKind.i64.has a0.2.2.2.2.2.1)(h6_:IntKind.i64.has a0.2.2.2.2.2.2.1)(h7_:IntKind.i64.has a0.2.2.2.2.2.2.2)(r:Int)(hF:F.R02_Check a0=some r):
    A.Ct Tryz.prog 152 [.agg #[.int .i64 a0.1,.int .i64 a0.2.1,.int .i64 a0.2.2.1,.int .i64 a0.2.2.2.1,.int .i64 a0.2.2.2.2.1,.int .i64 a0.2.2.2.2.2.1,.int .i64 a0.2.2.2.2.2.2.1,.int .i64 a0.2.2.2.2.2.2.2]] [] [] (fun v H'=>v=.int .i64 r∧H'=[]∧IntKind.i64.has r):=by
 refine A.Ct.enter Tryz.func152 rfl Tryz.ntmps152 rfl fun w0 F0=>?_
 rw[F.R02_Check]at hF
 refine A.xl 1 ?_
 refine A.AL.box 0 (cs:=[.int .i64 a0.1,.int .i64 a0.2.1,.int .i64 a0.2.2.1,.int .i64 a0.2.2.2.1,.int .i64 a0.2.2.2.2.1,.int .i64 a0.2.2.2.2.2.1,.int .i64 a0.2.2.2.2.2.2.1,.int .i64 a0.2.2.2.2.2.2.2]) fun g1=>?_
 refine A.q0 [] [] [.n] [] ?_
 refine A.dl 3 ?_
 obtain⟨hc2,hF⟩:=A.gd_some hF
 refine A.q [0] [] [.n,.b 0 0,.n,.n,.sy .n,.sy (.b 0 0),.sy .n,.pk,.n,.sy .n,.sy (.b 0 3),.sy .n,.pk,.n,.sy .n,.sy (.b 0 3),.sy .n,.pk,.n,.sy .n,.sy (.b 0 1),.sy .n,.pk,.n,.sy .n,.sy (.b 0 1),.sy .n,.sy (.b 0 0),.sy .n,.pk,.n,.sy .n,.sy (.b 0 1),.sy .n,.sy (.b 0 3),.sy .n,.sy .n,.pk,.n,.sy .n,.sy (.b 0 2),.sy .n,.pk,.n,.sy .n,.sy (.b 0 2),.sy .n,.pk,.n] [(bif bif bif bif bif decide (a0.1<0)then true else decide ((4:Int)<a0.1)then true else decide (a0.2.2.2.1<0)then true else decide ((4:Int)<a0.2.2.2.1)then true else decide (a0.2.1<0)then true else decide (a0.1<a0.2.1))=false→Z.R64 (a0.2.1+a0.2.2.2.1)] [(52,.bool (bif bif bif bif bif bif bif bif decide (a0.1<0)then true else decide ((4:Int)<a0.1)then true else decide (a0.2.2.2.1<0)then true else decide ((4:Int)<a0.2.2.2.1)then true else decide (a0.2.1<0)then true else decide (a0.1<a0.2.1)then true else decide ((4:Int)<a0.2.1+a0.2.2.2.1)then true else decide (a0.2.2.1<0)then true else decide ((1048576:Int)<a0.2.2.1)))] hc2 ?_
 refine A.AL.cnd (j:=52) rfl hF (fun hF=>?_) (fun hF=>?_)
 ·refine A.q0 [] [] [.off,.off,.off,.off,.off,.off,.off,.off,.n] [(61,.bool true)] ?_
  refine A.dx 1 ?_
  refine A.AX.cnt rfl ?_
  refine A.xl 1 ?_
  refine A.q0 [] [] [.n] [(2,.int .i64 20)] ?_
  refine A.dx 1 ?_
  obtain rfl:=Option.some.inj hF
  exact A.rt1 [] ⟨rfl,rfl,(A.hasl .i64 (20) rfl)⟩
 refine A.q0 [0] [] [.on .n,.on (.b 0 1),.on .n,.on .n,.sy .n,.sy (.b 0 2),.sy .n,.on .pk,.n] [(61,.bool (bif decide (a0.2.1=0)then decide (a0.2.2.1≠0)else false))] ?_
 refine A.dx 1 ?_
 refine A.AX.cnb rfl hF (fun hb hF=>?_) (fun hb hF=>?_)
 ·refine A.xl 1 ?_
  refine A.q0 [] [] [.n] [(2,.int .i64 20)] ?_
  refine A.dx 1 ?_
  obtain rfl:=Option.some.inj hF
  exact A.rt1 [] ⟨rfl,rfl,(A.hasl .i64 (20) rfl)⟩
 refine A.xl 4 ?_
 refine A.q0 [] [] [.n] [(3,.int .i64 0)] ?_
 refine A.dx 2 ?_
 refine A.lp_ [1] [0] (fun f nl nh=>∃(y3:Int),nl=[(3,.int .i64 y3)]∧nh=[]∧IntKind.i64.has y3∧F.R02_Check_l2 a0 f y3=some r) ⟨0,rfl,rfl,(A.hasl .i64 (0) rfl),hF⟩ ?_
 rintro f5 _ _ ⟨y3,rfl,rfl,hy4,hF⟩
 rcases f5 with _|f5
 ·exact A.no0 hF
 rw[F.R02_Check_l2]at hF
 refine A.xl 2 ?_
 refine A.q0 [] [] [.n,.n] [(63,.bool (decide (y3<4)))] ?_
 refine A.dx 1 ?_
 refine A.AX.cnd rfl hF (fun hb hF=>?_) (fun hb hF=>?_)
 ·refine A.xx 4 ?_
  refine A.AX.join [1,3] [0] (fun nl nh=>∃(y6:Bool),nl=[(90,.bool y6)]∧nh=[]∧F.R02_Check_j1 (F.R02_Check_l2 a0 f5) y3 y6=some r) ?_ ?_
  ·refine A.xl 0 ?_
   refine A.q0 [] [] [.n,.n] [(66,.int .i64 y3),(67,.pointer (some ⟨g1,4,none⟩))] ?_
   obtain⟨x8,hv9,hF⟩:=A.bd_some hF
   refine A.AL.ixb 0 4 (fun v:Int=>.int .i64 v) [a0.2.2.2.2.1,a0.2.2.2.2.2.1,a0.2.2.2.2.2.2.1,a0.2.2.2.2.2.2.2] hv9 ?_
   refine A.q0 [] [4] [.e 0 0,.n,.n] [(71,.bool (decide (x8<0)))] ?_
   refine A.AL.cnp (j:=71) rfl hF (fun hb hF=>?_) (fun hb hF=>?_)
   ·refine A.q0 [] [] [.off,.off,.off,.off,.off,.n,.n,.off,.off,.off,.off,.off,.off,.off,.off,.off,.off,.off,.n] [(90,.bool true)] ?_
    refine A.AL.done ?_
    exact A.j ⟨true,rfl,rfl,hF⟩
   refine A.q0 [] [] [.on .n,.on .n] [(72,.int .i64 y3),(73,.pointer (some ⟨g1,4,none⟩))] ?_
   refine A.AL.on (dj:=71) rfl rfl ?_
   obtain⟨x10,hv11,hF⟩:=A.bd_some hF
   refine A.AL.ixb 0 5 (fun v:Int=>.int .i64 v) [a0.2.2.2.2.1,a0.2.2.2.2.2.1,a0.2.2.2.2.2.2.1,a0.2.2.2.2.2.2.2] hv11 ?_
   refine A.q0 [] [5] [.on (.e 0 0),.on .n,.n,.n] [(78,.bool (decide ((1048576:Int)<x10)))] ?_
   refine A.AL.cnp (j:=78) rfl hF (fun hb hF=>?_) (fun hb hF=>?_)
   ·refine A.q0 [] [] [.off,.off,.off,.off,.off,.off,.off,.off,.off,.off,.off,.n] [(90,.bool true)] ?_
    refine A.AL.done ?_
    exact A.j ⟨true,rfl,rfl,hF⟩
   refine A.q0 [0] [] [.on .n,.on .n,.on (.b 0 3),.on .n,.on .n] [(83,.bool (decide (a0.2.2.2.1≤y3)))] ?_
   refine A.AL.cnp (j:=83) rfl hF (fun hb hF=>?_) (fun hb hF=>?_)
   ·refine A.q0 [] [] [.on .n,.on .n] [(84,.int .i64 y3),(85,.pointer (some ⟨g1,4,none⟩))] ?_
    refine A.AL.on (dj:=83) rfl rfl ?_
    obtain⟨x12,hv13,hF⟩:=A.bd_some hF
    refine A.AL.ixb 0 6 (fun v:Int=>.int .i64 v) [a0.2.2.2.2.1,a0.2.2.2.2.2.1,a0.2.2.2.2.2.2.1,a0.2.2.2.2.2.2.2] hv13 ?_
    refine A.q0 [] [6] [.on (.e 0 0),.on .n,.on .n,.n] [(90,.bool (decide (x12≠0)))] ?_
    refine A.AL.done ?_
    exact A.j ⟨(decide (x12≠0)),rfl,rfl,hF⟩
   refine A.q0 [] [] [.off,.off,.off,.off,.off,.on .n,.n] [(90,.bool false)] ?_
   refine A.AL.done ?_
   exact A.j ⟨false,rfl,rfl,hF⟩
  rintro _ _ ⟨y6,rfl,rfl,hF⟩
  rw[F.R02_Check_j1]at hF
  refine A.AX.cnb rfl hF (fun hb hF=>?_) (fun hb hF=>?_)
  ·refine A.xl 1 ?_
   refine A.q0 [] [] [.n] [(2,.int .i64 20)] ?_
   refine A.dx 1 ?_
   obtain rfl:=Option.some.inj hF
   exact A.rt1 [] ⟨rfl,rfl,(A.hasl .i64 (20) rfl)⟩
  refine A.xl 3 ?_
  obtain⟨hc7,hF⟩:=A.gd_some hF
  refine A.q [] [] [.n,.n,.n] [Z.R64 (y3+1)] [(3,.int .i64 (y3+1))] hc7 ?_
  refine A.AL.done ?_
  exact A.j ⟨_,Nat.lt_succ_self _,⟨(y3+1),rfl,rfl,(Z.i64_has hc7),hF⟩⟩
 refine A.xl 3 ?_
 refine A.q0 [] [] [.n] [(2,.int .i64 0)] ?_
 refine A.dx 1 ?_
 obtain rfl:=Option.some.inj hF
 exact A.rt1 [] ⟨rfl,rfl,(A.hasl .i64 (0) rfl)⟩
def F.R02_step (a0:Int)(a1:Int)(a2:Int)(a3:Int):Option (D154×Int):=(F.R02_Check (a0,a1,a2,a3,(0,0,0,0))).bind fun r3=>(if r3≠0 then(some ((0,0,0,0,(0,0,0,0)),11))else(some ((a0,a1,a2,a3,(0,0,0,0)),0)))
theorem R02_step_ok (a0:Int)(a1:Int)(a2:Int)(a3:Int)(h0_:IntKind.i64.has a0)(h1_:IntKind.i64.has a1)(h2_:IntKind.i64.has a2)(h3_:IntKind.i64.has a3)(r:D154×Int)(hF:F.R02_step a0 a1 a2 a3=some r):
    A.Ct Tryz.prog 139 [.int .i64 a0,.int .i64 a1,.int .i64 a2,.int .i64 a3] [] [] (fun v H'=>v=.tuple #[.agg #[.int .i64 r.1.1,.int .i64 r.1.2.1,.int .i64 r.1.2.2.1,.int .i64 r.1.2.2.2.1,.int .i64 r.1.2.2.2.2.1,.int .i64 r.1.2.2.2.2.2.1,.int .i64 r.1.2.2.2.2.2.2.1,.int .i64 r.1.2.2.2.2.2.2.2],.int .i64 r.2]∧H'=[]∧IntKind.i64.has r.1.1∧IntKind.i64.has r.1.2.1∧IntKind.i64.has r.1.2.2.1∧IntKind.i64.has r.1.2.2.2.1∧IntKind.i64.has r.1.2.2.2.2.1∧IntKind.i64.has r.1.2.2.2.2.2.1∧IntKind.i64.has r.1.2.2.2.2.2.2.1∧IntKind.i64.has r.1.2.2.2.2.2.2.2∧IntKind.i64.has r.2):=by
 refine A.Ct.enter Tryz.func139 rfl Tryz.ntmps139 rfl fun w0 F0=>?_
 rw[F.R02_step]at hF
 refine A.xl 1 ?_
 refine A.AL.alloc 0 (cs:=[.int .i64 0,.int .i64 0,.int .i64 0,.int .i64 0,.int .i64 0,.int .i64 0,.int .i64 0,.int .i64 0]) Tryz.zeroValue155 fun g1=>?_
 refine A.q0 [] [] [.n] [] ?_
 refine A.dl 2 ?_
 refine A.q0 [] [] [.n,.n,.n,.n,.n] [(15,.agg #[.int .i64 a0,.int .i64 a1,.int .i64 a2,.int .i64 a3,.int .i64 0,.int .i64 0,.int .i64 0,.int .i64 0])] ?_
 refine A.AL.alloc 1 (cs:=[.int .i64 0,.int .i64 0,.int .i64 0,.int .i64 0,.int .i64 0,.int .i64 0,.int .i64 0,.int .i64 0]) Tryz.zeroValue155 fun g2=>?_
 refine A.sw 1 [] [.int .i64 a0,.int .i64 a1,.int .i64 a2,.int .i64 a3,.int .i64 0,.int .i64 0,.int .i64 0,.int .i64 0] ?_
 refine A.dl 3 ?_
 refine A.q0 [1] [] [.b 0 0] [(16,.agg #[.int .i64 a0,.int .i64 a1,.int .i64 a2,.int .i64 a3,.int .i64 0,.int .i64 0,.int .i64 0,.int .i64 0])] ?_
 obtain⟨r3,hv4,hF⟩:=A.bd_some hF
 refine A.AL.call 2 [] (first:=[]) (cap:=[]) cf152 (R02_Check_ok (a0,a1,a2,a3,(0,0,0,0)) h0_ h1_ h2_ h3_ (A.hasl .i64 (0) rfl) (A.hasl .i64 (0) rfl) (A.hasl .i64 (0) rfl) (A.hasl .i64 (0) rfl) r3 hv4) .nil ?_
 rintro _ _ ⟨rfl,rfl,hr5⟩
 refine⟨by kernel_rfl,?_⟩
 refine A.q0 [] [] [.n] [(18,.bool (decide (r3≠0)))] ?_
 refine A.dx 1 ?_
 refine A.AX.cnd rfl hF (fun hb hF=>?_) (fun hb hF=>?_)
 ·refine A.xl 1 ?_
  refine A.q0 [] [] [.n] [(19,.agg #[.int .i64 0,.int .i64 0,.int .i64 0,.int .i64 0,.int .i64 0,.int .i64 0,.int .i64 0,.int .i64 0])] ?_
  refine A.sw 0 [] [.int .i64 0,.int .i64 0,.int .i64 0,.int .i64 0,.int .i64 0,.int .i64 0,.int .i64 0,.int .i64 0] ?_
  refine A.q0 [] [] [.n] [(9,.int .i64 11)] ?_
  refine A.dx 1 ?_
  obtain rfl:=Option.some.inj hF
  exact A.AX.ret [] (.tuple #[.agg #[.int .i64 0,.int .i64 0,.int .i64 0,.int .i64 0,.int .i64 0,.int .i64 0,.int .i64 0,.int .i64 0],.int .i64 11]) (fun a w hf hh=>Z.resv2 rfl (Z.rv_n hf rfl Tryz.isAgg155 Tryz.sizeOf155 (A.Hp.blk hh 0) rfl) (Z.rv_t hf rfl)) (⟨rfl,rfl,(A.hasl .i64 (0) rfl),(A.hasl .i64 (0) rfl),(A.hasl .i64 (0) rfl),(A.hasl .i64 (0) rfl),(A.hasl .i64 (0) rfl),(A.hasl .i64 (0) rfl),(A.hasl .i64 (0) rfl),(A.hasl .i64 (0) rfl),(A.hasl .i64 (11) rfl)⟩)
 refine A.xl 3 ?_
 refine A.q0 [1] [] [.b 0 0] [(20,.agg #[.int .i64 a0,.int .i64 a1,.int .i64 a2,.int .i64 a3,.int .i64 0,.int .i64 0,.int .i64 0,.int .i64 0])] ?_
 refine A.sw 0 [] [.int .i64 a0,.int .i64 a1,.int .i64 a2,.int .i64 a3,.int .i64 0,.int .i64 0,.int .i64 0,.int .i64 0] ?_
 refine A.q0 [] [] [.n] [(9,.int .i64 0)] ?_
 refine A.dx 1 ?_
 obtain rfl:=Option.some.inj hF
 exact A.AX.ret [] (.tuple #[.agg #[.int .i64 a0,.int .i64 a1,.int .i64 a2,.int .i64 a3,.int .i64 0,.int .i64 0,.int .i64 0,.int .i64 0],.int .i64 0]) (fun a w hf hh=>Z.resv2 rfl (Z.rv_n hf rfl Tryz.isAgg155 Tryz.sizeOf155 (A.Hp.blk hh 0) rfl) (Z.rv_t hf rfl)) (⟨rfl,rfl,h0_,h1_,h2_,h3_,(A.hasl .i64 (0) rfl),(A.hasl .i64 (0) rfl),(A.hasl .i64 (0) rfl),(A.hasl .i64 (0) rfl),(A.hasl .i64 (0) rfl)⟩)
def F.R02_Enter (a0:Int):Option (D154×Int):=(F.R02_step a0 a0 0 1).bind fun r2=>(some ((r2.1.1,r2.1.2.1,r2.1.2.2.1,r2.1.2.2.2.1,(r2.1.2.2.2.2.1,r2.1.2.2.2.2.2.1,r2.1.2.2.2.2.2.2.1,r2.1.2.2.2.2.2.2.2)),r2.2))
theorem R02_Enter_ok (a0:Int)(h0_:IntKind.i64.has a0)(r:D154×Int)(hF:F.R02_Enter a0=some r):
    A.Ct Tryz.prog 136 [.int .i64 a0] [] [] (fun v H'=>v=.tuple #[.agg #[.int .i64 r.1.1,.int .i64 r.1.2.1,.int .i64 r.1.2.2.1,.int .i64 r.1.2.2.2.1,.int .i64 r.1.2.2.2.2.1,.int .i64 r.1.2.2.2.2.2.1,.int .i64 r.1.2.2.2.2.2.2.1,.int .i64 r.1.2.2.2.2.2.2.2],.int .i64 r.2]∧H'=[]∧IntKind.i64.has r.1.1∧IntKind.i64.has r.1.2.1∧IntKind.i64.has r.1.2.2.1∧IntKind.i64.has r.1.2.2.2.1∧IntKind.i64.has r.1.2.2.2.2.1∧IntKind.i64.has r.1.2.2.2.2.2.1∧IntKind.i64.has r.1.2.2.2.2.2.2.1∧IntKind.i64.has r.1.2.2.2.2.2.2.2∧IntKind.i64.has r.2):=by
 refine A.Ct.enter Tryz.func136 rfl Tryz.ntmps136 rfl fun w0 F0=>?_
 rw[F.R02_Enter]at hF
 refine A.xl 1 ?_
 refine A.AL.alloc 0 (cs:=[.int .i64 0,.int .i64 0,.int .i64 0,.int .i64 0,.int .i64 0,.int .i64 0,.int .i64 0,.int .i64 0]) Tryz.zeroValue155 fun g1=>?_
 refine A.q0 [] [] [.n] [] ?_
 refine A.dl 2 ?_
 refine A.q0 [] [] [.n,.n] [(4,.int .i64 a0),(5,.int .i64 a0)] ?_
 obtain⟨r2,hv3,hF⟩:=A.bd_some hF
 refine A.AL.call 1 [] (first:=[]) (cap:=[]) cf139 (R02_step_ok a0 a0 0 1 h0_ h0_ (A.hasl .i64 (0) rfl) (A.hasl .i64 (1) rfl) r2 hv3) .nil ?_
 rintro _ _ ⟨rfl,rfl,hr4,hr5,hr6,hr7,hr8,hr9,hr10,hr11,hr12⟩
 refine⟨by kernel_rfl,?_⟩
 refine A.q0 [] [] [.n,.n] [(7,.agg #[.int .i64 r2.1.1,.int .i64 r2.1.2.1,.int .i64 r2.1.2.2.1,.int .i64 r2.1.2.2.2.1,.int .i64 r2.1.2.2.2.2.1,.int .i64 r2.1.2.2.2.2.2.1,.int .i64 r2.1.2.2.2.2.2.2.1,.int .i64 r2.1.2.2.2.2.2.2.2]),(8,.int .i64 r2.2)] ?_
 refine A.sw 0 [] [.int .i64 r2.1.1,.int .i64 r2.1.2.1,.int .i64 r2.1.2.2.1,.int .i64 r2.1.2.2.2.1,.int .i64 r2.1.2.2.2.2.1,.int .i64 r2.1.2.2.2.2.2.1,.int .i64 r2.1.2.2.2.2.2.2.1,.int .i64 r2.1.2.2.2.2.2.2.2] ?_
 refine A.q0 [] [] [.n] [(3,.int .i64 r2.2)] ?_
 refine A.dx 1 ?_
 obtain rfl:=Option.some.inj hF
 exact A.AX.ret [] (.tuple #[.agg #[.int .i64 r2.1.1,.int .i64 r2.1.2.1,.int .i64 r2.1.2.2.1,.int .i64 r2.1.2.2.2.1,.int .i64 r2.1.2.2.2.2.1,.int .i64 r2.1.2.2.2.2.2.1,.int .i64 r2.1.2.2.2.2.2.2.1,.int .i64 r2.1.2.2.2.2.2.2.2],.int .i64 r2.2]) (fun a w hf hh=>Z.resv2 rfl (Z.rv_n hf rfl Tryz.isAgg155 Tryz.sizeOf155 (A.Hp.blk hh 0) rfl) (Z.rv_t hf rfl)) (⟨rfl,rfl,hr4,hr5,hr6,hr7,hr8,hr9,hr10,hr11,hr12⟩)
def F.R02_Leave (a0:Int):Option (D154×Int):=if a0<1 then(some ((0,0,0,0,(0,0,0,0)),11))else(A.gd (Z.R64 (a0-1)) ((F.R02_step a0 (a0-1) 0 0).bind fun r3=>(some ((r3.1.1,r3.1.2.1,r3.1.2.2.1,r3.1.2.2.2.1,(r3.1.2.2.2.2.1,r3.1.2.2.2.2.2.1,r3.1.2.2.2.2.2.2.1,r3.1.2.2.2.2.2.2.2)),r3.2))))
theorem R02_Leave_ok (a0:Int)(h0_:IntKind.i64.has a0)(r:D154×Int)(hF:F.R02_Leave a0=some r):
    A.Ct Tryz.prog 137 [.int .i64 a0] [] [] (fun v H'=>v=.tuple #[.agg #[.int .i64 r.1.1,.int .i64 r.1.2.1,.int .i64 r.1.2.2.1,.int .i64 r.1.2.2.2.1,.int .i64 r.1.2.2.2.2.1,.int .i64 r.1.2.2.2.2.2.1,.int .i64 r.1.2.2.2.2.2.2.1,.int .i64 r.1.2.2.2.2.2.2.2],.int .i64 r.2]∧H'=[]∧IntKind.i64.has r.1.1∧IntKind.i64.has r.1.2.1∧IntKind.i64.has r.1.2.2.1∧IntKind.i64.has r.1.2.2.2.1∧IntKind.i64.has r.1.2.2.2.2.1∧IntKind.i64.has r.1.2.2.2.2.2.1∧IntKind.i64.has r.1.2.2.2.2.2.2.1∧IntKind.i64.has r.1.2.2.2.2.2.2.2∧IntKind.i64.has r.2):=by
 refine A.Ct.enter Tryz.func137 rfl Tryz.ntmps137 rfl fun w0 F0=>?_
 rw[F.R02_Leave]at hF
 refine A.xl 1 ?_
 refine A.AL.alloc 0 (cs:=[.int .i64 0,.int .i64 0,.int .i64 0,.int .i64 0,.int .i64 0,.int .i64 0,.int .i64 0,.int .i64 0]) Tryz.zeroValue155 fun g1=>?_
 refine A.q0 [] [] [.n] [] ?_
 refine A.dl 3 ?_
 refine A.q0 [] [] [.n,.n] [(5,.bool (decide (a0<1)))] ?_
 refine A.dx 1 ?_
 refine A.AX.cnd rfl hF (fun hb hF=>?_) (fun hb hF=>?_)
 ·refine A.xl 1 ?_
  refine A.q0 [] [] [.n] [(6,.agg #[.int .i64 0,.int .i64 0,.int .i64 0,.int .i64 0,.int .i64 0,.int .i64 0,.int .i64 0,.int .i64 0])] ?_
  refine A.sw 0 [] [.int .i64 0,.int .i64 0,.int .i64 0,.int .i64 0,.int .i64 0,.int .i64 0,.int .i64 0,.int .i64 0] ?_
  refine A.q0 [] [] [.n] [(3,.int .i64 11)] ?_
  refine A.dx 1 ?_
  obtain rfl:=Option.some.inj hF
  exact A.AX.ret [] (.tuple #[.agg #[.int .i64 0,.int .i64 0,.int .i64 0,.int .i64 0,.int .i64 0,.int .i64 0,.int .i64 0,.int .i64 0],.int .i64 11]) (fun a w hf hh=>Z.resv2 rfl (Z.rv_n hf rfl Tryz.isAgg155 Tryz.sizeOf155 (A.Hp.blk hh 0) rfl) (Z.rv_t hf rfl)) (⟨rfl,rfl,(A.hasl .i64 (0) rfl),(A.hasl .i64 (0) rfl),(A.hasl .i64 (0) rfl),(A.hasl .i64 (0) rfl),(A.hasl .i64 (0) rfl),(A.hasl .i64 (0) rfl),(A.hasl .i64 (0) rfl),(A.hasl .i64 (0) rfl),(A.hasl .i64 (11) rfl)⟩)
 refine A.xl 3 ?_
 obtain⟨hc2,hF⟩:=A.gd_some hF
 refine A.q [] [] [.n,.n,.n] [Z.R64 (a0-1)] [(7,.int .i64 a0),(9,.int .i64 (a0-1))] hc2 ?_
 obtain⟨r3,hv4,hF⟩:=A.bd_some hF
 refine A.AL.call 1 [] (first:=[]) (cap:=[]) cf139 (R02_step_ok a0 (a0-1) 0 0 h0_ (Z.i64_has hc2) (A.hasl .i64 (0) rfl) (A.hasl .i64 (0) rfl) r3 hv4) .nil ?_
 rintro _ _ ⟨rfl,rfl,hr5,hr6,hr7,hr8,hr9,hr10,hr11,hr12,hr13⟩
 refine⟨by kernel_rfl,?_⟩
 refine A.q0 [] [] [.n,.n] [(11,.agg #[.int .i64 r3.1.1,.int .i64 r3.1.2.1,.int .i64 r3.1.2.2.1,.int .i64 r3.1.2.2.2.1,.int .i64 r3.1.2.2.2.2.1,.int .i64 r3.1.2.2.2.2.2.1,.int .i64 r3.1.2.2.2.2.2.2.1,.int .i64 r3.1.2.2.2.2.2.2.2]),(12,.int .i64 r3.2)] ?_
 refine A.sw 0 [] [.int .i64 r3.1.1,.int .i64 r3.1.2.1,.int .i64 r3.1.2.2.1,.int .i64 r3.1.2.2.2.1,.int .i64 r3.1.2.2.2.2.1,.int .i64 r3.1.2.2.2.2.2.1,.int .i64 r3.1.2.2.2.2.2.2.1,.int .i64 r3.1.2.2.2.2.2.2.2] ?_
 refine A.q0 [] [] [.n] [(3,.int .i64 r3.2)] ?_
 refine A.dx 1 ?_
 obtain rfl:=Option.some.inj hF
 exact A.AX.ret [] (.tuple #[.agg #[.int .i64 r3.1.1,.int .i64 r3.1.2.1,.int .i64 r3.1.2.2.1,.int .i64 r3.1.2.2.2.1,.int .i64 r3.1.2.2.2.2.1,.int .i64 r3.1.2.2.2.2.2.1,.int .i64 r3.1.2.2.2.2.2.2.1,.int .i64 r3.1.2.2.2.2.2.2.2],.int .i64 r3.2]) (fun a w hf hh=>Z.resv2 rfl (Z.rv_n hf rfl Tryz.isAgg155 Tryz.sizeOf155 (A.Hp.blk hh 0) rfl) (Z.rv_t hf rfl)) (⟨rfl,rfl,hr5,hr6,hr7,hr8,hr9,hr10,hr11,hr12,hr13⟩)
def F.R02_Next (a0:Int):Option (D154×Int):=(F.R02_step a0 a0 1 0).bind fun r2=>(some ((r2.1.1,r2.1.2.1,r2.1.2.2.1,r2.1.2.2.2.1,(r2.1.2.2.2.2.1,r2.1.2.2.2.2.2.1,r2.1.2.2.2.2.2.2.1,r2.1.2.2.2.2.2.2.2)),r2.2))
theorem R02_Next_ok (a0:Int)(h0_:IntKind.i64.has a0)(r:D154×Int)(hF:F.R02_Next a0=some r):
    A.Ct Tryz.prog 138 [.int .i64 a0] [] [] (fun v H'=>v=.tuple #[.agg #[.int .i64 r.1.1,.int .i64 r.1.2.1,.int .i64 r.1.2.2.1,.int .i64 r.1.2.2.2.1,.int .i64 r.1.2.2.2.2.1,.int .i64 r.1.2.2.2.2.2.1,.int .i64 r.1.2.2.2.2.2.2.1,.int .i64 r.1.2.2.2.2.2.2.2],.int .i64 r.2]∧H'=[]∧IntKind.i64.has r.1.1∧IntKind.i64.has r.1.2.1∧IntKind.i64.has r.1.2.2.1∧IntKind.i64.has r.1.2.2.2.1∧IntKind.i64.has r.1.2.2.2.2.1∧IntKind.i64.has r.1.2.2.2.2.2.1∧IntKind.i64.has r.1.2.2.2.2.2.2.1∧IntKind.i64.has r.1.2.2.2.2.2.2.2∧IntKind.i64.has r.2):=by
 refine A.Ct.enter Tryz.func138 rfl Tryz.ntmps138 rfl fun w0 F0=>?_
 rw[F.R02_Next]at hF
 refine A.xl 1 ?_
 refine A.AL.alloc 0 (cs:=[.int .i64 0,.int .i64 0,.int .i64 0,.int .i64 0,.int .i64 0,.int .i64 0,.int .i64 0,.int .i64 0]) Tryz.zeroValue155 fun g1=>?_
 refine A.q0 [] [] [.n] [] ?_
 refine A.dl 2 ?_
 refine A.q0 [] [] [.n,.n] [(4,.int .i64 a0),(5,.int .i64 a0)] ?_
 obtain⟨r2,hv3,hF⟩:=A.bd_some hF
 refine A.AL.call 1 [] (first:=[]) (cap:=[]) cf139 (R02_step_ok a0 a0 1 0 h0_ h0_ (A.hasl .i64 (1) rfl) (A.hasl .i64 (0) rfl) r2 hv3) .nil ?_
 rintro _ _ ⟨rfl,rfl,hr4,hr5,hr6,hr7,hr8,hr9,hr10,hr11,hr12⟩
 refine⟨by kernel_rfl,?_⟩
 refine A.q0 [] [] [.n,.n] [(7,.agg #[.int .i64 r2.1.1,.int .i64 r2.1.2.1,.int .i64 r2.1.2.2.1,.int .i64 r2.1.2.2.2.1,.int .i64 r2.1.2.2.2.2.1,.int .i64 r2.1.2.2.2.2.2.1,.int .i64 r2.1.2.2.2.2.2.2.1,.int .i64 r2.1.2.2.2.2.2.2.2]),(8,.int .i64 r2.2)] ?_
 refine A.sw 0 [] [.int .i64 r2.1.1,.int .i64 r2.1.2.1,.int .i64 r2.1.2.2.1,.int .i64 r2.1.2.2.2.1,.int .i64 r2.1.2.2.2.2.1,.int .i64 r2.1.2.2.2.2.2.1,.int .i64 r2.1.2.2.2.2.2.2.1,.int .i64 r2.1.2.2.2.2.2.2.2] ?_
 refine A.q0 [] [] [.n] [(3,.int .i64 r2.2)] ?_
 refine A.dx 1 ?_
 obtain rfl:=Option.some.inj hF
 exact A.AX.ret [] (.tuple #[.agg #[.int .i64 r2.1.1,.int .i64 r2.1.2.1,.int .i64 r2.1.2.2.1,.int .i64 r2.1.2.2.2.1,.int .i64 r2.1.2.2.2.2.1,.int .i64 r2.1.2.2.2.2.2.1,.int .i64 r2.1.2.2.2.2.2.2.1,.int .i64 r2.1.2.2.2.2.2.2.2],.int .i64 r2.2]) (fun a w hf hh=>Z.resv2 rfl (Z.rv_n hf rfl Tryz.isAgg155 Tryz.sizeOf155 (A.Hp.blk hh 0) rfl) (Z.rv_t hf rfl)) (⟨rfl,rfl,hr4,hr5,hr6,hr7,hr8,hr9,hr10,hr11,hr12⟩)
end Go.Proofs.YtocfaokgoflmhaaGreatDoor
end
section
set_option linter.unusedVariables false
set_option linter.unusedSimpArgs false
set_option maxRecDepth 20000
set_option maxHeartbeats 8000000
set_option synthInstance.maxSize 1000000
set_option synthInstance.maxHeartbeats 400000
namespace Go.Proofs.YtocfaokgoflmhaaGreatDoor
open Go.RowKit
def F.R02_Id (a0:Int):Option (D154×Int):=(F.R02_step a0 a0 0 0).bind fun r2=>(some ((r2.1.1,r2.1.2.1,r2.1.2.2.1,r2.1.2.2.2.1,(r2.1.2.2.2.2.1,r2.1.2.2.2.2.2.1,r2.1.2.2.2.2.2.2.1,r2.1.2.2.2.2.2.2.2)),r2.2))
theorem R02_Id_ok (a0:Int)(h0_:IntKind.i64.has a0)(r:D154×Int)(hF:F.R02_Id a0=some r):
    A.Ct Tryz.prog 115 [.int .i64 a0] [] [] (fun v H'=>v=.tuple #[.agg #[.int .i64 r.1.1,.int .i64 r.1.2.1,.int .i64 r.1.2.2.1,.int .i64 r.1.2.2.2.1,.int .i64 r.1.2.2.2.2.1,.int .i64 r.1.2.2.2.2.2.1,.int .i64 r.1.2.2.2.2.2.2.1,.int .i64 r.1.2.2.2.2.2.2.2],.int .i64 r.2]∧H'=[]∧IntKind.i64.has r.1.1∧IntKind.i64.has r.1.2.1∧IntKind.i64.has r.1.2.2.1∧IntKind.i64.has r.1.2.2.2.1∧IntKind.i64.has r.1.2.2.2.2.1∧IntKind.i64.has r.1.2.2.2.2.2.1∧IntKind.i64.has r.1.2.2.2.2.2.2.1∧IntKind.i64.has r.1.2.2.2.2.2.2.2∧IntKind.i64.has r.2):=by
 refine A.Ct.enter Tryz.func115 rfl Tryz.ntmps115 rfl fun w0 F0=>?_
 rw[F.R02_Id]at hF
 refine A.xl 1 ?_
 refine A.AL.alloc 0 (cs:=[.int .i64 0,.int .i64 0,.int .i64 0,.int .i64 0,.int .i64 0,.int .i64 0,.int .i64 0,.int .i64 0]) Tryz.zeroValue155 fun g1=>?_
 refine A.q0 [] [] [.n] [] ?_
 refine A.dl 2 ?_
 refine A.q0 [] [] [.n,.n] [(4,.int .i64 a0),(5,.int .i64 a0)] ?_
 obtain⟨r2,hv3,hF⟩:=A.bd_some hF
 refine A.AL.call 1 [] (first:=[]) (cap:=[]) cf139 (R02_step_ok a0 a0 0 0 h0_ h0_ (A.hasl .i64 (0) rfl) (A.hasl .i64 (0) rfl) r2 hv3) .nil ?_
 rintro _ _ ⟨rfl,rfl,hr4,hr5,hr6,hr7,hr8,hr9,hr10,hr11,hr12⟩
 refine⟨by kernel_rfl,?_⟩
 refine A.q0 [] [] [.n,.n] [(7,.agg #[.int .i64 r2.1.1,.int .i64 r2.1.2.1,.int .i64 r2.1.2.2.1,.int .i64 r2.1.2.2.2.1,.int .i64 r2.1.2.2.2.2.1,.int .i64 r2.1.2.2.2.2.2.1,.int .i64 r2.1.2.2.2.2.2.2.1,.int .i64 r2.1.2.2.2.2.2.2.2]),(8,.int .i64 r2.2)] ?_
 refine A.sw 0 [] [.int .i64 r2.1.1,.int .i64 r2.1.2.1,.int .i64 r2.1.2.2.1,.int .i64 r2.1.2.2.2.1,.int .i64 r2.1.2.2.2.2.1,.int .i64 r2.1.2.2.2.2.2.1,.int .i64 r2.1.2.2.2.2.2.2.1,.int .i64 r2.1.2.2.2.2.2.2.2] ?_
 refine A.q0 [] [] [.n] [(3,.int .i64 r2.2)] ?_
 refine A.dx 1 ?_
 obtain rfl:=Option.some.inj hF
 exact A.AX.ret [] (.tuple #[.agg #[.int .i64 r2.1.1,.int .i64 r2.1.2.1,.int .i64 r2.1.2.2.1,.int .i64 r2.1.2.2.2.1,.int .i64 r2.1.2.2.2.2.1,.int .i64 r2.1.2.2.2.2.2.1,.int .i64 r2.1.2.2.2.2.2.2.1,.int .i64 r2.1.2.2.2.2.2.2.2],.int .i64 r2.2]) (fun a w hf hh=>Z.resv2 rfl (Z.rv_n hf rfl Tryz.isAgg155 Tryz.sizeOf155 (A.Hp.blk hh 0) rfl) (Z.rv_t hf rfl)) (⟨rfl,rfl,hr4,hr5,hr6,hr7,hr8,hr9,hr10,hr11,hr12⟩)
def F.R08_within_j1 (y15:Int)(y17:Int)(y19:Int)(y21:Int)(y23:Int)(y25:Int)(y27:Int)(y29:Int):Option D154:=some (y15,y17,y19,y21,(y23,y25,y27,y29))
def F.R08_within (a0:D69)(a1:Int):Option D154:=(F.R02_Id a1).bind fun r3=>(if a0.2.1=12 then((F.R02_Enter a1).bind fun r31=>(F.R08_within_j1 r31.1.1 r31.1.2.1 r31.1.2.2.1 r31.1.2.2.2.1 r31.1.2.2.2.2.1 r31.1.2.2.2.2.2.1 r31.1.2.2.2.2.2.2.1 r31.1.2.2.2.2.2.2.2))else(if a0.2.1=13 then((F.R02_Leave a1).bind fun r42=>(F.R08_within_j1 r42.1.1 r42.1.2.1 r42.1.2.2.1 r42.1.2.2.2.1 r42.1.2.2.2.2.1 r42.1.2.2.2.2.2.1 r42.1.2.2.2.2.2.2.1 r42.1.2.2.2.2.2.2.2))else(if a0.2.1=14 then((F.R02_Next a1).bind fun r53=>(F.R08_within_j1 r53.1.1 r53.1.2.1 r53.1.2.2.1 r53.1.2.2.2.1 r53.1.2.2.2.2.1 r53.1.2.2.2.2.2.1 r53.1.2.2.2.2.2.2.1 r53.1.2.2.2.2.2.2.2))else(F.R08_within_j1 r3.1.1 r3.1.2.1 r3.1.2.2.1 r3.1.2.2.2.1 r3.1.2.2.2.2.1 r3.1.2.2.2.2.2.1 r3.1.2.2.2.2.2.2.1 r3.1.2.2.2.2.2.2.2))))
theorem R08_within_ok (a0:D69)(a1:Int)(A2_:Option Addr)(c3_:Nat)(h0_:IntKind.i64.has a0.1)(h1_:IntKind.i64.has a0.2.1)(h4_:IntKind.i64.has a0.2.2.2.1.1)(h5_:IntKind.i64.has a0.2.2.2.1.2.1)(h6_:a0.2.2.2.1.2.2.size≤maxLen)(h7_:a0.2.2.2.2.1.size≤maxLen)(h8_:IntKind.i64.has a0.2.2.2.2.2.1)(h9_:IntKind.i64.has a0.2.2.2.2.2.2)(h10_:IntKind.i64.has a1)(r:D154)(hF:F.R08_within a0 a1=some r):
    A.Ct Tryz.prog 114 [.agg #[.int .i64 a0.1,.int .i64 a0.2.1,.slice A2_ ((a0.2.2.1).length) c3_,.int .i64 a0.2.2.2.1.1,.int .i64 a0.2.2.2.1.2.1,.string a0.2.2.2.1.2.2,.string a0.2.2.2.2.1,.int .i64 a0.2.2.2.2.2.1,.int .i64 a0.2.2.2.2.2.2],.int .i64 a1] [(0,.sh (.slice (Z.Ty.int .i64)) [.slice A2_ (a0.2.2.1).length c3_] a0.2.2.1)] [] (fun v H'=>v=.agg #[.int .i64 r.1,.int .i64 r.2.1,.int .i64 r.2.2.1,.int .i64 r.2.2.2.1,.int .i64 r.2.2.2.2.1,.int .i64 r.2.2.2.2.2.1,.int .i64 r.2.2.2.2.2.2.1,.int .i64 r.2.2.2.2.2.2.2]∧H'=[]∧IntKind.i64.has r.1∧IntKind.i64.has r.2.1∧IntKind.i64.has r.2.2.1∧IntKind.i64.has r.2.2.2.1∧IntKind.i64.has r.2.2.2.2.1∧IntKind.i64.has r.2.2.2.2.2.1∧IntKind.i64.has r.2.2.2.2.2.2.1∧IntKind.i64.has r.2.2.2.2.2.2.2):=by
 refine A.Ct.enter Tryz.func114 rfl Tryz.ntmps114 rfl fun w0 F0=>?_
 rw[F.R08_within]at hF
 refine A.xl 1 ?_
 refine A.AL.box 1 (cs:=[.int .i64 a0.1,.int .i64 a0.2.1,.slice A2_ ((a0.2.2.1).length) c3_,.int .i64 a0.2.2.2.1.1,.int .i64 a0.2.2.2.1.2.1,.string a0.2.2.2.1.2.2,.string a0.2.2.2.2.1,.int .i64 a0.2.2.2.2.2.1,.int .i64 a0.2.2.2.2.2.2]) fun g1=>?_
 refine A.AL.alloc 2 (cs:=[.int .i64 0,.int .i64 0,.int .i64 0,.int .i64 0,.int .i64 0,.int .i64 0,.int .i64 0,.int .i64 0]) Tryz.zeroValue155 fun g2=>?_
 refine A.dl 2 ?_
 refine A.q0 [] [] [.n] [(8,.int .i64 a1)] ?_
 obtain⟨r3,hv4,hF⟩:=A.bd_some hF
 refine A.AL.call 3 [] (first:=[]) (cap:=[]) cf115 (R02_Id_ok a1 h10_ r3 hv4) .nil ?_
 rintro _ _ ⟨rfl,rfl,hr5,hr6,hr7,hr8,hr9,hr10,hr11,hr12,hr13⟩
 refine⟨by kernel_rfl,?_⟩
 refine A.q0 [] [] [.n,.n,.n] [(10,.agg #[.int .i64 r3.1.1,.int .i64 r3.1.2.1,.int .i64 r3.1.2.2.1,.int .i64 r3.1.2.2.2.1,.int .i64 r3.1.2.2.2.2.1,.int .i64 r3.1.2.2.2.2.2.1,.int .i64 r3.1.2.2.2.2.2.2.1,.int .i64 r3.1.2.2.2.2.2.2.2]),(11,.int .i64 r3.2)] ?_
 refine A.AL.alloc 43 (cs:=[.int .i64 0,.int .i64 0,.int .i64 0,.int .i64 0,.int .i64 0,.int .i64 0,.int .i64 0,.int .i64 0]) Tryz.zeroValue155 fun g14=>?_
 refine A.sw 43 [] [.int .i64 r3.1.1,.int .i64 r3.1.2.1,.int .i64 r3.1.2.2.1,.int .i64 r3.1.2.2.2.1,.int .i64 r3.1.2.2.2.2.1,.int .i64 r3.1.2.2.2.2.2.1,.int .i64 r3.1.2.2.2.2.2.2.1,.int .i64 r3.1.2.2.2.2.2.2.2] ?_
 refine A.q0 [] [] [.n] [] ?_
 refine A.dx 1 ?_
 refine A.AX.join [4,5] [2] (fun nl nh=>∃(y15:Int),∃(y17:Int),∃(y19:Int),∃(y21:Int),∃(y23:Int),∃(y25:Int),∃(y27:Int),∃(y29:Int),nl=[]∧nh=[(43,.blk g14 155 [.int .i64 y15,.int .i64 y17,.int .i64 y19,.int .i64 y21,.int .i64 y23,.int .i64 y25,.int .i64 y27,.int .i64 y29])]∧IntKind.i64.has y15∧IntKind.i64.has y17∧IntKind.i64.has y19∧IntKind.i64.has y21∧IntKind.i64.has y23∧IntKind.i64.has y25∧IntKind.i64.has y27∧IntKind.i64.has y29∧F.R08_within_j1 y15 y17 y19 y21 y23 y25 y27 y29=some r) ?_ ?_
 ·refine A.xl 1 ?_
  refine A.q0 [1] [] [.n,.b 0 1] [(13,.int .i64 a0.2.1)] ?_
  refine A.dl 3 ?_
  refine A.q0 [] [] [.n,.n] [(14,.bool (decide (a0.2.1=12)))] ?_
  refine A.dx 1 ?_
  refine A.AX.cnd rfl hF (fun hb hF=>?_) (fun hb hF=>?_)
  ·refine A.xl 0 ?_
   refine A.q0 [] [] [.n] [(17,.int .i64 a1)] ?_
   obtain⟨r31,hv32,hF⟩:=A.bd_some hF
   refine A.AL.call 44 [] (first:=[]) (cap:=[]) cf136 (R02_Enter_ok a1 h10_ r31 hv32) .nil ?_
   rintro _ _ ⟨rfl,rfl,hr33,hr34,hr35,hr36,hr37,hr38,hr39,hr40,hr41⟩
   refine⟨by kernel_rfl,?_⟩
   refine A.q0 [] [] [.n,.n,.n] [(19,.agg #[.int .i64 r31.1.1,.int .i64 r31.1.2.1,.int .i64 r31.1.2.2.1,.int .i64 r31.1.2.2.2.1,.int .i64 r31.1.2.2.2.2.1,.int .i64 r31.1.2.2.2.2.2.1,.int .i64 r31.1.2.2.2.2.2.2.1,.int .i64 r31.1.2.2.2.2.2.2.2])] ?_
   refine A.sw 43 [] [.int .i64 r31.1.1,.int .i64 r31.1.2.1,.int .i64 r31.1.2.2.1,.int .i64 r31.1.2.2.2.1,.int .i64 r31.1.2.2.2.2.1,.int .i64 r31.1.2.2.2.2.2.1,.int .i64 r31.1.2.2.2.2.2.2.1,.int .i64 r31.1.2.2.2.2.2.2.2] ?_
   refine A.de 1 ?_
   exact A.j ⟨r31.1.1,r31.1.2.1,r31.1.2.2.1,r31.1.2.2.2.1,r31.1.2.2.2.2.1,r31.1.2.2.2.2.2.1,r31.1.2.2.2.2.2.2.1,r31.1.2.2.2.2.2.2.2,rfl,rfl,hr33,hr34,hr35,hr36,hr37,hr38,hr39,hr40,hF⟩
  refine A.xl 1 ?_
  refine A.q0 [] [] [.n,.n] [(21,.bool (decide (a0.2.1=13)))] ?_
  refine A.dx 1 ?_
  refine A.AX.cnd rfl hF (fun hb hF=>?_) (fun hb hF=>?_)
  ·refine A.xl 0 ?_
   refine A.q0 [] [] [.n] [(24,.int .i64 a1)] ?_
   obtain⟨r42,hv43,hF⟩:=A.bd_some hF
   refine A.AL.call 84 [] (first:=[]) (cap:=[]) cf137 (R02_Leave_ok a1 h10_ r42 hv43) .nil ?_
   rintro _ _ ⟨rfl,rfl,hr44,hr45,hr46,hr47,hr48,hr49,hr50,hr51,hr52⟩
   refine⟨by kernel_rfl,?_⟩
   refine A.q0 [] [] [.n,.n,.n] [(26,.agg #[.int .i64 r42.1.1,.int .i64 r42.1.2.1,.int .i64 r42.1.2.2.1,.int .i64 r42.1.2.2.2.1,.int .i64 r42.1.2.2.2.2.1,.int .i64 r42.1.2.2.2.2.2.1,.int .i64 r42.1.2.2.2.2.2.2.1,.int .i64 r42.1.2.2.2.2.2.2.2])] ?_
   refine A.sw 43 [] [.int .i64 r42.1.1,.int .i64 r42.1.2.1,.int .i64 r42.1.2.2.1,.int .i64 r42.1.2.2.2.1,.int .i64 r42.1.2.2.2.2.1,.int .i64 r42.1.2.2.2.2.2.1,.int .i64 r42.1.2.2.2.2.2.2.1,.int .i64 r42.1.2.2.2.2.2.2.2] ?_
   refine A.de 1 ?_
   exact A.j ⟨r42.1.1,r42.1.2.1,r42.1.2.2.1,r42.1.2.2.2.1,r42.1.2.2.2.2.1,r42.1.2.2.2.2.2.1,r42.1.2.2.2.2.2.2.1,r42.1.2.2.2.2.2.2.2,rfl,rfl,hr44,hr45,hr46,hr47,hr48,hr49,hr50,hr51,hF⟩
  refine A.xl 1 ?_
  refine A.q0 [] [] [.n,.n] [(28,.bool (decide (a0.2.1=14)))] ?_
  refine A.dx 1 ?_
  refine A.AX.cnd rfl hF (fun hb hF=>?_) (fun hb hF=>?_)
  ·refine A.xl 0 ?_
   refine A.q0 [] [] [.n] [(31,.int .i64 a1)] ?_
   obtain⟨r53,hv54,hF⟩:=A.bd_some hF
   refine A.AL.call 124 [] (first:=[]) (cap:=[]) cf138 (R02_Next_ok a1 h10_ r53 hv54) .nil ?_
   rintro _ _ ⟨rfl,rfl,hr55,hr56,hr57,hr58,hr59,hr60,hr61,hr62,hr63⟩
   refine⟨by kernel_rfl,?_⟩
   refine A.q0 [] [] [.n,.n,.n] [(33,.agg #[.int .i64 r53.1.1,.int .i64 r53.1.2.1,.int .i64 r53.1.2.2.1,.int .i64 r53.1.2.2.2.1,.int .i64 r53.1.2.2.2.2.1,.int .i64 r53.1.2.2.2.2.2.1,.int .i64 r53.1.2.2.2.2.2.2.1,.int .i64 r53.1.2.2.2.2.2.2.2])] ?_
   refine A.sw 43 [] [.int .i64 r53.1.1,.int .i64 r53.1.2.1,.int .i64 r53.1.2.2.1,.int .i64 r53.1.2.2.2.1,.int .i64 r53.1.2.2.2.2.1,.int .i64 r53.1.2.2.2.2.2.1,.int .i64 r53.1.2.2.2.2.2.2.1,.int .i64 r53.1.2.2.2.2.2.2.2] ?_
   refine A.de 1 ?_
   exact A.j ⟨r53.1.1,r53.1.2.1,r53.1.2.2.1,r53.1.2.2.2.1,r53.1.2.2.2.2.1,r53.1.2.2.2.2.2.1,r53.1.2.2.2.2.2.2.1,r53.1.2.2.2.2.2.2.2,rfl,rfl,hr55,hr56,hr57,hr58,hr59,hr60,hr61,hr62,hF⟩
  refine A.xe 2 ?_
  exact A.j ⟨r3.1.1,r3.1.2.1,r3.1.2.2.1,r3.1.2.2.2.1,r3.1.2.2.2.2.1,r3.1.2.2.2.2.2.1,r3.1.2.2.2.2.2.2.1,r3.1.2.2.2.2.2.2.2,rfl,rfl,hr5,hr6,hr7,hr8,hr9,hr10,hr11,hr12,hF⟩
 rintro _ _ ⟨y15,y17,y19,y21,y23,y25,y27,y29,rfl,rfl,hy16,hy18,hy20,hy22,hy24,hy26,hy28,hy30,hF⟩
 rw[F.R08_within_j1]at hF
 refine A.xl 1 ?_
 refine A.q0 [43] [] [.b 0 0] [(35,.agg #[.int .i64 y15,.int .i64 y17,.int .i64 y19,.int .i64 y21,.int .i64 y23,.int .i64 y25,.int .i64 y27,.int .i64 y29])] ?_
 refine A.sw 2 [] [.int .i64 y15,.int .i64 y17,.int .i64 y19,.int .i64 y21,.int .i64 y23,.int .i64 y25,.int .i64 y27,.int .i64 y29] ?_
 refine A.dx 1 ?_
 obtain rfl:=Option.some.inj hF
 exact A.AX.ret [] (.agg #[.int .i64 y15,.int .i64 y17,.int .i64 y19,.int .i64 y21,.int .i64 y23,.int .i64 y25,.int .i64 y27,.int .i64 y29]) (fun a w hf hh=>Z.resv1 rfl (Z.rv_n hf rfl Tryz.isAgg155 Tryz.sizeOf155 (A.Hp.blk hh 2) rfl)) (⟨rfl,rfl,hy16,hy18,hy20,hy22,hy24,hy26,hy28,hy30⟩)
end Go.Proofs.YtocfaokgoflmhaaGreatDoor
end
section
set_option linter.unusedVariables false
set_option linter.unusedSimpArgs false
set_option maxRecDepth 20000
set_option maxHeartbeats 8000000
set_option synthInstance.maxSize 1000000
set_option synthInstance.maxHeartbeats 400000
namespace Go.Proofs.YtocfaokgoflmhaaGreatDoor
open Go.RowKit
def F.R08_edges_j1 (k30:(List D157)→Int→Option (List D157))(y5:Int)(xs10:List D157):Option (List D157):=A.gd (Z.R64 (y5+1)) (k30 xs10 (y5+1))
def F.R08_edges_j2 (k30:(List D157)→Int→Option (List D157))(y5:Int)(xs33:List D157):Option (List D157):=F.R08_edges_j1 k30 y5 xs33
def F.R08_edges_j3 (k38:(List D157)→Int→Option (List D157))(y80:Int)(xs92:List D157):Option (List D157):=A.gd (Z.R64 (y80+1)) (k38 xs92 (y80+1))
def F.R08_edges_l4 (k37:(List D157)→Int→Option (List D157))(a0:D23)(x12:D130)(r18:D69×Bool)(r59:D154×Int)(y74:Int):Nat→(List D157)→Int→Option (List D157)
 |0,_,_=>none
 |f+1,xs79,y80=>(A.ix a0 y74).bind fun x83=>(if y80<((x83.2.2.1).length:Int)then((A.ix a0 y74).bind fun x94=>((A.ix x94.2.2.1 y80).bind fun x102=>(if x102=r18.1.1 then((A.ix a0 y74).bind fun x108=>(A.gd ((List.length (α:=D157) xs79+List.length (α:=D157) [((x12.1.1,x12.1.2),(x108.1,y80),(r59.1.1,r59.1.2.1,r59.1.2.2.1,r59.1.2.2.2.1,(r59.1.2.2.2.2.1,r59.1.2.2.2.2.2.1,r59.1.2.2.2.2.2.2.1,r59.1.2.2.2.2.2.2.2)))])*96≤140737488355328) (F.R08_edges_j3 (F.R08_edges_l4 k37 a0 x12 r18 r59 y74 f) y80 (xs79++[((x12.1.1,x12.1.2),(x108.1,y80),(r59.1.1,r59.1.2.1,r59.1.2.2.1,r59.1.2.2.2.1,(r59.1.2.2.2.2.1,r59.1.2.2.2.2.2.1,r59.1.2.2.2.2.2.2.1,r59.1.2.2.2.2.2.2.2)))]))))else(F.R08_edges_j3 (F.R08_edges_l4 k37 a0 x12 r18 r59 y74 f) y80 xs79))))else(A.gd (Z.R64 (y74+1)) (k37 xs79 (y74+1))))
def F.R08_edges_l5 (k30:(List D157)→Int→Option (List D157))(a0:D23)(y5:Int)(x12:D130)(r18:D69×Bool)(r59:D154×Int):Nat→(List D157)→Int→Option (List D157)
 |0,_,_=>none
 |f+1,xs73,y74=>if y74<((a0).length:Int)then(F.R08_edges_l4 (F.R08_edges_l5 k30 a0 y5 x12 r18 r59 f) a0 x12 r18 r59 y74 A.FU xs73 0)else(F.R08_edges_j1 k30 y5 xs73)
def F.R08_edges_l6 (a0:D23)(a1:(List D130)):Nat→(List D157)→Int→Option (List D157)
 |0,_,_=>none
 |f+1,xs4,y5=>if y5<((a1).length:Int)then((A.ix a1 y5).bind fun x12=>((F.R08_Find a0 x12.1.1).bind fun r18=>(if x12.1.2≠2 then(if r18.1.2.1≠15 then((A.ix a1 y5).bind fun x34=>((F.R08_within (r18.1.1,r18.1.2.1,r18.1.2.2.1,(r18.1.2.2.2.1.1,r18.1.2.2.2.1.2.1,r18.1.2.2.2.1.2.2),r18.1.2.2.2.2.1,r18.1.2.2.2.2.2.1,r18.1.2.2.2.2.2.2) x34.2).bind fun r40=>(A.gd ((List.length (α:=D157) xs4+List.length (α:=D157) [((x12.1.1,x12.1.2),(r18.1.1,2),(r40.1,r40.2.1,r40.2.2.1,r40.2.2.2.1,(r40.2.2.2.2.1,r40.2.2.2.2.2.1,r40.2.2.2.2.2.2.1,r40.2.2.2.2.2.2.2)))])*96≤140737488355328) (F.R08_edges_j2 (F.R08_edges_l6 a0 a1 f) y5 (xs4++[((x12.1.1,x12.1.2),(r18.1.1,2),(r40.1,r40.2.1,r40.2.2.1,r40.2.2.2.1,(r40.2.2.2.2.1,r40.2.2.2.2.2.1,r40.2.2.2.2.2.2.1,r40.2.2.2.2.2.2.2)))])))))else(F.R08_edges_j2 (F.R08_edges_l6 a0 a1 f) y5 xs4))else((A.ix a1 y5).bind fun x54=>((F.R02_Id x54.2).bind fun r59=>(F.R08_edges_l5 (F.R08_edges_l6 a0 a1 f) a0 y5 x12 r18 r59 A.FU xs4 0))))))else(some xs4)
def F.R08_edges (a0:D23)(a1:(List D130)):Option (List D157):=F.R08_edges_l6 a0 a1 A.FU [] 0
theorem R08_edges_ok (a0:D23)(a1:(List D130))(A0_:Option Addr)(c1_:Nat)(A2_:Option Addr)(c3_:Nat)(r:(List D157))(hF:F.R08_edges a0 a1=some r):
    A.Ct Tryz.prog 86 [.agg #[.slice A0_ ((a0).length) c1_],.slice A2_ ((a1).length) c3_] [(0,.sh (.slice T69) [.slice A0_ (a0).length c1_] a0),(1,.ln T130 A2_ c3_ a1)] [] (fun v H'=>∃(A0':Option Addr) (c1':Nat),v=.slice A0' ((r).length) c1'∧H'=[(0,.own T157 158 A0' c1' r)]):=by
 refine A.Ct.enter Tryz.func86 rfl Tryz.ntmps86 rfl fun w0 F0=>?_
 rw[F.R08_edges]at hF
 refine A.xl 1 ?_
 refine A.AL.box 2 (cs:=[.slice A0_ ((a0).length) c1_]) fun g1=>?_
 refine A.q0 [] [] [.n] [] ?_
 refine A.dl 2 ?_
 refine A.q0 [] [] [.n] [(5,.slice none 0 0)] ?_
 refine A.dl 3 ?_
 refine A.q0 [] [] [.n] [(6,.int .i64 0)] ?_
 refine A.dx 2 ?_
 refine A.nil 489 T157 158 ?_
 refine A.lp_ [1,2] [0,1,2] (fun f nl nh=>∃(xs4:List D157),∃(y5:Int),∃(A2:Option Addr),∃(c3:Nat),nl=[(5,.slice A2 ((xs4).length) c3),(6,.int .i64 y5)]∧nh=[(489,.own T157 158 A2 c3 xs4)]∧IntKind.i64.has y5∧F.R08_edges_l6 a0 a1 f xs4 y5=some r) ⟨[],0,none,0,rfl,rfl,(A.hasl .i64 (0) rfl),hF⟩ ?_
 rintro f7 _ _ ⟨xs4,y5,A2,c3,rfl,rfl,hy6,hF⟩
 rcases f7 with _|f7
 ·exact A.no0 hF
 rw[F.R08_edges_l6]at hF
 refine A.xl 2 ?_
 refine A.q0 [] [] [.n,.n,.n,.n] [(17,.bool (decide (y5<((a1).length:Int))))] ?_
 refine A.dx 1 ?_
 refine A.AX.cnd rfl hF (fun hb hF=>?_) (fun hb hF=>?_)
 ·refine A.xx 2 ?_
  refine A.AX.join [1,2,6] [0,1,2] (fun nl nh=>∃(xs10:List D157),∃(A8:Option Addr),∃(c9:Nat),nl=[(5,.slice A8 ((xs10).length) c9)]∧nh=[(489,.own T157 158 A8 c9 xs10)]∧F.R08_edges_j1 (F.R08_edges_l6 a0 a1 f7) y5 xs10=some r) ?_ ?_
  ·refine A.xl 2 ?_
   refine A.q0 [] [] [.n,.n] [(20,.slice A2_ ((a1).length) c3_),(21,.int .i64 y5)] ?_
   obtain⟨x12,hv13,hF⟩:=A.bd_some hF
   refine A.AL.ixl 1 888 hv13 fun ho14=>?_
   intro b15 o16
   refine A.q0 [] [888] [.n,.e 0 0] [(24,.agg #[.int .i64 x12.1.1,.int .i64 x12.1.2])] ?_
   refine A.AL.alloc 889 (cs:=[.int .i64 0,.int .i64 0]) Tryz.zeroValue129 fun g17=>?_
   refine A.sw 889 [] [.int .i64 x12.1.1,.int .i64 x12.1.2] ?_
   refine A.dl 2 ?_
   refine A.q0 [2,889] [] [.b 0 0,.n,.b 1 0] [(26,.agg #[.slice A0_ ((a0).length) c1_]),(28,.int .i64 x12.1.1)] ?_
   obtain⟨r18,hv19,hF⟩:=A.bd_some hF
   refine A.AL.call 890 [] (first:=[]) (cap:=[]) cf113 (R08_Find_ok a0 x12.1.1 A0_ c1_ ho14.1.1 r18 hv19) (.s 0 .nil) ?_
   rintro _ _ ⟨A22,c23,rfl,rfl,hr20,hr21,hr24,hr25,hr26,hr27,hr28,hr29⟩
   refine⟨by kernel_rfl,?_⟩
   refine A.q0 [] [] [.n,.n,.n] [(30,.agg #[.int .i64 r18.1.1,.int .i64 r18.1.2.1,.slice A22 ((r18.1.2.2.1).length) c23,.int .i64 r18.1.2.2.2.1.1,.int .i64 r18.1.2.2.2.1.2.1,.string r18.1.2.2.2.1.2.2,.string r18.1.2.2.2.2.1,.int .i64 r18.1.2.2.2.2.2.1,.int .i64 r18.1.2.2.2.2.2.2]),(31,.bool r18.2)] ?_
   refine A.AL.alloc 930 (cs:=[.int .i64 0,.int .i64 0,.slice none 0 0,.int .i64 0,.int .i64 0,.string (ByteArray.mk #[]),.string (ByteArray.mk #[]),.int .i64 0,.int .i64 0]) Tryz.zeroValue70 fun g30=>?_
   refine A.sw 930 [] [.int .i64 r18.1.1,.int .i64 r18.1.2.1,.slice A22 ((r18.1.2.2.1).length) c23,.int .i64 r18.1.2.2.2.1.1,.int .i64 r18.1.2.2.2.1.2.1,.string r18.1.2.2.2.1.2.2,.string r18.1.2.2.2.2.1,.int .i64 r18.1.2.2.2.2.2.1,.int .i64 r18.1.2.2.2.2.2.2] ?_
   refine A.q0 [] [] [.n] [] ?_
   refine A.dl 3 ?_
   refine A.q0 [889] [] [.n,.b 0 1,.n] [(34,.bool (decide (x12.1.2≠2)))] ?_
   refine A.dx 1 ?_
   refine A.AX.cnd rfl hF (fun hb hF=>?_) (fun hb hF=>?_)
   ·refine A.AX.join [1,2,6] [0,1,2] (fun nl nh=>∃(xs33:List D157),∃(A31:Option Addr),∃(c32:Nat),nl=[(5,.slice A31 ((xs33).length) c32)]∧nh=[(489,.own T157 158 A31 c32 xs33)]∧F.R08_edges_j2 (F.R08_edges_l6 a0 a1 f7) y5 xs33=some r) ?_ ?_
    ·refine A.xl 1 ?_
     refine A.q0 [930] [] [.n,.b 0 1,.n] [(37,.bool (decide (r18.1.2.1≠15)))] ?_
     refine A.dx 1 ?_
     refine A.AX.cnd rfl hF (fun hb hF=>?_) (fun hb hF=>?_)
     ·refine A.AX.dr mixed 16 16 (A.mb 16 0) ?_
      refine A.hq A.pb [] [0,1,2,888,889,890,930] [889,930] [] (A.mb 16 255) 8 [(0,.n),(1,.b 0 0),(2,.n),(5,.b 1 0),(6,.n),(7,.n),(3,.b 1 0),(4,.n)] [(38,.slice A2 ((xs4).length) c3),(39,.agg #[.int .i64 x12.1.1,.int .i64 x12.1.2]),(43,.agg #[.int .i64 r18.1.1,.int .i64 r18.1.2.1,.slice A22 ((r18.1.2.2.1).length) c23,.int .i64 r18.1.2.2.2.1.1,.int .i64 r18.1.2.2.2.1.2.1,.string r18.1.2.2.2.1.2.2,.string r18.1.2.2.2.2.1,.int .i64 r18.1.2.2.2.2.2.1,.int .i64 r18.1.2.2.2.2.2.2]),(44,.slice A2_ ((a1).length) c3_),(45,.int .i64 y5),(42,.agg #[.int .i64 r18.1.1,.int .i64 2])] ?_
      obtain⟨x34,hv35,hF⟩:=A.bd_some hF
      refine A.AH.pkl 1 931 hv35 fun ho36=>?_
      intro b38 o39 hA37
      refine A.AH.v A.pb [0,1,2,888,889,890,930] [0,1,2,888,889,890,930,931] 8 (A.mb 16 511) rfl (fun a w hf hh=>A.r_ixa (t:=T130) hv35 hA37 hf) ?_
      refine A.hq A.pb [0,1,2,888,889,890,930,931] [0,1,2,888,889,890,930,931] [] [931] (A.mb 16 2047) 5 [(9,.n),(10,.e 0 2)] [(48,.int .i64 x34.2)] ?_
      refine A.AH.one 11 ?_
      obtain⟨r40,hv41,hF⟩:=A.bd_some hF
      refine A.AL.call 932 [] (first:=[]) (cap:=[]) cf114 (R08_within_ok (r18.1.1,r18.1.2.1,r18.1.2.2.1,(r18.1.2.2.2.1.1,r18.1.2.2.2.1.2.1,r18.1.2.2.2.1.2.2),r18.1.2.2.2.2.1,r18.1.2.2.2.2.2.1,r18.1.2.2.2.2.2.2) x34.2 A22 c23 hr20 hr21 hr24 hr25 hr26 hr27 hr28 hr29 ho36.2 r40 hv41) (.s 890 .nil) ?_
      rintro _ _ ⟨rfl,rfl,hr42,hr43,hr44,hr45,hr46,hr47,hr48,hr49⟩
      refine⟨by kernel_rfl,?_⟩
      refine A.AH.nx (A.mb 16 4095) [0,1,2,888,889,890,930,931] ?_
      refine A.hq A.pb [0,1,2,888,889,890,930,931] [0,1,2,888,889,890,930,931] [] [] (A.mb 16 8191) 3 [(12,.n)] [(50,.agg #[.int .i64 x12.1.1,.int .i64 x12.1.2,.int .i64 r18.1.1,.int .i64 2,.int .i64 r40.1,.int .i64 r40.2.1,.int .i64 r40.2.2.1,.int .i64 r40.2.2.2.1,.int .i64 r40.2.2.2.2.1,.int .i64 r40.2.2.2.2.2.1,.int .i64 r40.2.2.2.2.2.2.1,.int .i64 r40.2.2.2.2.2.2.2])] ?_
      refine A.AH.one 13 ?_
      refine A.AL.bsl 972 (ty:=T157) (cs:=[.int .i64 x12.1.1,.int .i64 x12.1.2,.int .i64 r18.1.1,.int .i64 2,.int .i64 r40.1,.int .i64 r40.2.1,.int .i64 r40.2.2.1,.int .i64 r40.2.2.2.1,.int .i64 r40.2.2.2.2.1,.int .i64 r40.2.2.2.2.2.1,.int .i64 r40.2.2.2.2.2.2.1,.int .i64 r40.2.2.2.2.2.2.2]) [((x12.1.1,x12.1.2),(r18.1.1,2),(r40.1,r40.2.1,r40.2.2.1,r40.2.2.2.1,(r40.2.2.2.2.1,r40.2.2.2.2.2.1,r40.2.2.2.2.2.2.1,r40.2.2.2.2.2.2.2)))] ⟨⟨⟨⟨rfl,ho14.1.1⟩,⟨rfl,ho14.1.2⟩⟩,⟨⟨rfl,hr20⟩,⟨rfl,(A.hasl .i64 (2) rfl)⟩⟩,⟨⟨rfl,hr42⟩,⟨rfl,hr43⟩,⟨rfl,hr44⟩,⟨rfl,hr45⟩,⟨⟨rfl,hr46⟩,⟨rfl,hr47⟩,⟨rfl,hr48⟩,⟨rfl,hr49⟩⟩⟩⟩,rfl⟩ (fun g50=>?_) Tryz.zeroValue158 Tryz.sizeOf158
      refine A.AH.nx (A.mb 16 16383) [0,1,2,888,889,890,930,931] ?_
      refine A.AH.one 14 ?_
      obtain⟨hl53,hF⟩:=A.gd_some hF
      refine A.AL.app (k:=489) [] (A.rowO (k:=972) rfl) inf158 hl53 fun A51 c52=>?_
      refine A.AH.nx (A.mb 16 32767) [0,1,2,888,889,890,930,931] ?_
      refine A.hq A.pb [0,1,2,888,889,890,930,931] [0,1,2,489,888,889,890,930,931,972] [] [] (A.mb 16 65535) 0 [(15,.n)] [(5,.slice A51 ((xs4++[((x12.1.1,x12.1.2),(r18.1.1,2),(r40.1,r40.2.1,r40.2.2.1,r40.2.2.2.1,(r40.2.2.2.2.1,r40.2.2.2.2.2.1,r40.2.2.2.2.2.2.1,r40.2.2.2.2.2.2.2)))]).length) c52)] ?_
      refine A.AH.done ?_
      exact A.j ⟨(xs4++[((x12.1.1,x12.1.2),(r18.1.1,2),(r40.1,r40.2.1,r40.2.2.1,r40.2.2.2.1,(r40.2.2.2.2.1,r40.2.2.2.2.2.1,r40.2.2.2.2.2.2.1,r40.2.2.2.2.2.2.2)))]),A51,c52,rfl,rfl,hF⟩
     refine A.xe 1 ?_
     exact A.j ⟨xs4,A2,c3,rfl,rfl,hF⟩
    rintro _ _ ⟨xs33,A31,c32,rfl,rfl,hF⟩
    rw[F.R08_edges_j2]at hF
    refine A.xe 1 ?_
    exact A.j ⟨xs33,A31,c32,rfl,rfl,hF⟩
   refine A.xl 3 ?_
   refine A.q0 [] [] [.n,.n] [(54,.slice A2_ ((a1).length) c3_),(55,.int .i64 y5)] ?_
   obtain⟨x54,hv55,hF⟩:=A.bd_some hF
   refine A.AL.ixl 1 973 hv55 fun ho56=>?_
   intro b57 o58
   refine A.q0 [] [973] [.n,.e 0 2] [(58,.int .i64 x54.2)] ?_
   obtain⟨r59,hv60,hF⟩:=A.bd_some hF
   refine A.AL.call 974 [] (first:=[]) (cap:=[]) cf115 (R02_Id_ok x54.2 ho56.2 r59 hv60) .nil ?_
   rintro _ _ ⟨rfl,rfl,hr61,hr62,hr63,hr64,hr65,hr66,hr67,hr68,hr69⟩
   refine⟨by kernel_rfl,?_⟩
   refine A.q0 [] [] [.n,.n,.n] [(60,.agg #[.int .i64 r59.1.1,.int .i64 r59.1.2.1,.int .i64 r59.1.2.2.1,.int .i64 r59.1.2.2.2.1,.int .i64 r59.1.2.2.2.2.1,.int .i64 r59.1.2.2.2.2.2.1,.int .i64 r59.1.2.2.2.2.2.2.1,.int .i64 r59.1.2.2.2.2.2.2.2]),(61,.int .i64 r59.2)] ?_
   refine A.AL.alloc 1014 (cs:=[.int .i64 0,.int .i64 0,.int .i64 0,.int .i64 0,.int .i64 0,.int .i64 0,.int .i64 0,.int .i64 0]) Tryz.zeroValue155 fun g70=>?_
   refine A.sw 1014 [] [.int .i64 r59.1.1,.int .i64 r59.1.2.1,.int .i64 r59.1.2.2.1,.int .i64 r59.1.2.2.2.1,.int .i64 r59.1.2.2.2.2.1,.int .i64 r59.1.2.2.2.2.2.1,.int .i64 r59.1.2.2.2.2.2.2.1,.int .i64 r59.1.2.2.2.2.2.2.2] ?_
   refine A.q0 [] [] [.n] [] ?_
   refine A.dl 2 ?_
   refine A.q0 [] [] [.n] [(12,.int .i64 0)] ?_
   refine A.dx 2 ?_
   refine A.lp_ [1,2,6,7,8,10] [0,1,2,889,890,930,1014] (fun f nl nh=>∃(xs73:List D157),∃(y74:Int),∃(A71:Option Addr),∃(c72:Nat),nl=[(5,.slice A71 ((xs73).length) c72),(12,.int .i64 y74)]∧nh=[(489,.own T157 158 A71 c72 xs73)]∧IntKind.i64.has y74∧F.R08_edges_l5 (F.R08_edges_l6 a0 a1 f7) a0 y5 x12 r18 r59 f xs73 y74=some r) ⟨xs4,0,A2,c3,rfl,rfl,(A.hasl .i64 (0) rfl),hF⟩ ?_
   rintro f76 _ _ ⟨xs73,y74,A71,c72,rfl,rfl,hy75,hF⟩
   rcases f76 with _|f76
   ·exact A.no0 hF
   rw[F.R08_edges_l5]at hF
   refine A.xl 2 ?_
   refine A.q0 [2] [] [.n,.n,.b 0 0,.n,.n] [(66,.bool (decide (y74<((a0).length:Int))))] ?_
   refine A.dx 1 ?_
   refine A.AX.cnd rfl hF (fun hb hF=>?_) (fun hb hF=>?_)
   ·refine A.xl 5 ?_
    refine A.q0 [] [] [.n] [(13,.int .i64 0)] ?_
    refine A.dx 2 ?_
    refine A.lp_ [1,2,6,7,8,10,12] [0,1,2,889,890,930,1014] (fun f nl nh=>∃(xs79:List D157),∃(y80:Int),∃(A77:Option Addr),∃(c78:Nat),nl=[(5,.slice A77 ((xs79).length) c78),(13,.int .i64 y80)]∧nh=[(489,.own T157 158 A77 c78 xs79)]∧IntKind.i64.has y80∧F.R08_edges_l4 (F.R08_edges_l5 (F.R08_edges_l6 a0 a1 f7) a0 y5 x12 r18 r59 f76) a0 x12 r18 r59 y74 f xs79 y80=some r) ⟨xs73,0,A71,c72,rfl,rfl,(A.hasl .i64 (0) rfl),hF⟩ ?_
    rintro f82 _ _ ⟨xs79,y80,A77,c78,rfl,rfl,hy81,hF⟩
    rcases f82 with _|f82
    ·exact A.no0 hF
    rw[F.R08_edges_l4]at hF
    refine A.xl 2 ?_
    refine A.q0 [2] [] [.n,.n,.b 0 0,.n] [(69,.int .i64 y80),(71,.slice A0_ ((a0).length) c1_),(72,.int .i64 y74)] ?_
    obtain⟨x83,hv84,hF⟩:=A.bd_some hF
    refine A.AL.ixs 0 1079 hv84 fun ho85=>?_
    intro A86 c87 b88 o89
    refine A.q0 [] [1079] [.n,.e 0 2,.n,.n] [(77,.bool (decide (y80<((x83.2.2.1).length:Int))))] ?_
    refine A.dx 1 ?_
    refine A.AX.cnd rfl hF (fun hb hF=>?_) (fun hb hF=>?_)
    ·refine A.xx 2 ?_
     refine A.AX.join [1,2,6,7,8,10,12,13] [0,1,2,889,890,930,1014] (fun nl nh=>∃(xs92:List D157),∃(A90:Option Addr),∃(c91:Nat),nl=[(5,.slice A90 ((xs92).length) c91)]∧nh=[(489,.own T157 158 A90 c91 xs92)]∧F.R08_edges_j3 (F.R08_edges_l4 (F.R08_edges_l5 (F.R08_edges_l6 a0 a1 f7) a0 y5 x12 r18 r59 f76) a0 x12 r18 r59 y74 f82) y80 xs92=some r) ?_ ?_
     ·refine A.xx 2 ?_
      refine A.AX.dr mixed 12 12 (A.mb 12 0) ?_
      refine A.hq A.pb [] [0,1,2,489,889,890,930,1014,1079,1080] [2,930] [] (A.mb 12 1607) 6 [(0,.n),(2,.n),(6,.n),(9,.n),(1,.b 0 0),(10,.b 1 0)] [(82,.int .i64 y74),(86,.int .i64 y80),(81,.slice A0_ ((a0).length) c1_),(90,.int .i64 r18.1.1)] ?_
      obtain⟨x94,hv95,hF⟩:=A.bd_some hF
      refine A.AH.pks 0 1081 hv95 fun ho96=>?_
      intro A98 c99 b100 o101 hA97
      refine A.AH.v A.pb [0,1,2,489,889,890,930,1014,1079,1080] [0,1,2,489,889,890,930,1014,1079,1080,1081,1082] 3 (A.mb 12 1615) rfl (fun a w hf hh=>A.r_ixa (t:=T69) hv95 hA97 hf) ?_
      refine A.hq A.pb [0,1,2,489,889,890,930,1014,1079,1080,1081,1082] [0,1,2,489,889,890,930,1014,1079,1080,1081,1082] [] [1081] (A.mb 12 1663) 3 [(4,.n),(5,.e 0 2)] [(85,.slice A98 ((x94.2.2.1).length) c99)] ?_
      obtain⟨x102,hv103,hF⟩:=A.bd_some hF
      refine A.AH.pks 1082 1083 hv103 fun ho104=>?_
      intro b106 o107 hA105
      refine A.AH.v A.pb [0,1,2,489,889,890,930,1014,1079,1080,1081,1082] [0,1,2,489,889,890,930,1014,1079,1080,1081,1082,1083] 7 (A.mb 12 1791) rfl (fun a w hf hh=>A.r_ixa (t:=(Z.Ty.int .i64)) hv103 hA105 hf) ?_
      refine A.hq A.pb [0,1,2,489,889,890,930,1014,1079,1080,1081,1082,1083] [0,1,2,489,889,890,930,1014,1079,1080,1081,1082,1083] [] [1083] (A.mb 12 4095) 0 [(8,.e 0 0),(11,.n)] [(91,.bool (decide (x102=r18.1.1)))] ?_
      refine A.AH.done ?_
      refine A.ex 1 ?_
      refine A.AX.cnd rfl hF (fun hb hF=>?_) (fun hb hF=>?_)
      ·refine A.AX.dr mixed 15 15 (A.mb 15 0) ?_
       refine A.hq A.pb [] [0,1,2,889,890,930,1014,1079,1080,1081,1082,1083] [889,1014,2] [] (A.mb 15 1311) 8 [(0,.n),(1,.b 0 0),(2,.n),(4,.n),(8,.n),(10,.b 1 0),(3,.b 2 0)] [(92,.slice A77 ((xs79).length) c78),(93,.agg #[.int .i64 x12.1.1,.int .i64 x12.1.2]),(96,.int .i64 y74),(100,.int .i64 y80),(102,.agg #[.int .i64 r59.1.1,.int .i64 r59.1.2.1,.int .i64 r59.1.2.2.1,.int .i64 r59.1.2.2.2.1,.int .i64 r59.1.2.2.2.2.1,.int .i64 r59.1.2.2.2.2.2.1,.int .i64 r59.1.2.2.2.2.2.2.1,.int .i64 r59.1.2.2.2.2.2.2.2]),(95,.slice A0_ ((a0).length) c1_)] ?_
       obtain⟨x108,hv109,hF⟩:=A.bd_some hF
       refine A.AH.pks 0 1084 hv109 fun ho110=>?_
       intro A112 c113 b114 o115 hA111
       refine A.AH.v A.pb [0,1,2,889,890,930,1014,1079,1080,1081,1082,1083] [0,1,2,889,890,930,1014,1079,1080,1081,1082,1083,1084,1085] 5 (A.mb 15 1343) rfl (fun a w hf hh=>A.r_ixa (t:=T69) hv109 hA111 hf) ?_
       refine A.hq A.pb [0,1,2,889,890,930,1014,1079,1080,1081,1082,1083,1084,1085] [0,1,2,889,890,930,1014,1079,1080,1081,1082,1083,1084,1085] [] [1084] (A.mb 15 4095) 3 [(6,.n),(7,.e 0 0),(9,.n),(11,.n)] [(103,.agg #[.int .i64 x12.1.1,.int .i64 x12.1.2,.int .i64 x108.1,.int .i64 y80,.int .i64 r59.1.1,.int .i64 r59.1.2.1,.int .i64 r59.1.2.2.1,.int .i64 r59.1.2.2.2.1,.int .i64 r59.1.2.2.2.2.1,.int .i64 r59.1.2.2.2.2.2.1,.int .i64 r59.1.2.2.2.2.2.2.1,.int .i64 r59.1.2.2.2.2.2.2.2])] ?_
       refine A.AH.one 12 ?_
       refine A.AL.bsl 1086 (ty:=T157) (cs:=[.int .i64 x12.1.1,.int .i64 x12.1.2,.int .i64 x108.1,.int .i64 y80,.int .i64 r59.1.1,.int .i64 r59.1.2.1,.int .i64 r59.1.2.2.1,.int .i64 r59.1.2.2.2.1,.int .i64 r59.1.2.2.2.2.1,.int .i64 r59.1.2.2.2.2.2.1,.int .i64 r59.1.2.2.2.2.2.2.1,.int .i64 r59.1.2.2.2.2.2.2.2]) [((x12.1.1,x12.1.2),(x108.1,y80),(r59.1.1,r59.1.2.1,r59.1.2.2.1,r59.1.2.2.2.1,(r59.1.2.2.2.2.1,r59.1.2.2.2.2.2.1,r59.1.2.2.2.2.2.2.1,r59.1.2.2.2.2.2.2.2)))] ⟨⟨⟨⟨rfl,ho14.1.1⟩,⟨rfl,ho14.1.2⟩⟩,⟨⟨rfl,ho110.1⟩,⟨rfl,hy81⟩⟩,⟨⟨rfl,hr61⟩,⟨rfl,hr62⟩,⟨rfl,hr63⟩,⟨rfl,hr64⟩,⟨⟨rfl,hr65⟩,⟨rfl,hr66⟩,⟨rfl,hr67⟩,⟨rfl,hr68⟩⟩⟩⟩,rfl⟩ (fun g116=>?_) Tryz.zeroValue158 Tryz.sizeOf158
       refine A.AH.nx (A.mb 15 8191) [0,1,2,889,890,930,1014,1079,1080,1081,1082,1083,1084,1085] ?_
       refine A.AH.one 13 ?_
       obtain⟨hl119,hF⟩:=A.gd_some hF
       refine A.AL.app (k:=489) [] (A.rowO (k:=1086) rfl) inf158 hl119 fun A117 c118=>?_
       refine A.AH.nx (A.mb 15 16383) [0,1,2,889,890,930,1014,1079,1080,1081,1082,1083,1084,1085] ?_
       refine A.hq A.pb [0,1,2,889,890,930,1014,1079,1080,1081,1082,1083,1084,1085] [0,1,2,489,889,890,930,1014,1079,1080,1081,1082,1083,1084,1085,1086] [] [] (A.mb 15 32767) 0 [(14,.n)] [(5,.slice A117 ((xs79++[((x12.1.1,x12.1.2),(x108.1,y80),(r59.1.1,r59.1.2.1,r59.1.2.2.1,r59.1.2.2.2.1,(r59.1.2.2.2.2.1,r59.1.2.2.2.2.2.1,r59.1.2.2.2.2.2.2.1,r59.1.2.2.2.2.2.2.2)))]).length) c118)] ?_
       refine A.AH.done ?_
       refine A.ee 1 ?_
       exact A.j ⟨(xs79++[((x12.1.1,x12.1.2),(x108.1,y80),(r59.1.1,r59.1.2.1,r59.1.2.2.1,r59.1.2.2.2.1,(r59.1.2.2.2.2.1,r59.1.2.2.2.2.2.1,r59.1.2.2.2.2.2.2.1,r59.1.2.2.2.2.2.2.2)))]),A117,c118,rfl,rfl,hF⟩
      refine A.xe 2 ?_
      exact A.j ⟨xs79,A77,c78,rfl,rfl,hF⟩
     rintro _ _ ⟨xs92,A90,c91,rfl,rfl,hF⟩
     rw[F.R08_edges_j3]at hF
     refine A.xl 0 ?_
     obtain⟨hc93,hF⟩:=A.gd_some hF
     refine A.q [] [] [.n,.n,.n] [Z.R64 (y80+1)] [(13,.int .i64 (y80+1))] hc93 ?_
     refine A.AL.done ?_
     exact A.j ⟨_,Nat.lt_succ_self _,⟨xs92,(y80+1),A90,c91,rfl,rfl,(Z.i64_has hc93),hF⟩⟩
    refine A.xl 3 ?_
    obtain⟨hc120,hF⟩:=A.gd_some hF
    refine A.q [] [] [.n,.n,.n] [Z.R64 (y74+1)] [(12,.int .i64 (y74+1))] hc120 ?_
    refine A.AL.done ?_
    exact A.j ⟨_,Nat.lt_succ_self _,⟨xs79,(y74+1),A77,c78,rfl,rfl,(Z.i64_has hc120),hF⟩⟩
   refine A.xe 2 ?_
   exact A.j ⟨xs73,A71,c72,rfl,rfl,hF⟩
  rintro _ _ ⟨xs10,A8,c9,rfl,rfl,hF⟩
  rw[F.R08_edges_j1]at hF
  refine A.xl 0 ?_
  obtain⟨hc11,hF⟩:=A.gd_some hF
  refine A.q [] [] [.n,.n,.n] [Z.R64 (y5+1)] [(6,.int .i64 (y5+1))] hc11 ?_
  refine A.AL.done ?_
  exact A.j ⟨_,Nat.lt_succ_self _,⟨xs10,(y5+1),A8,c9,rfl,rfl,(Z.i64_has hc11),hF⟩⟩
 refine A.xl 3 ?_
 refine A.q0 [] [] [.n,.n] [(4,.slice A2 ((xs4).length) c3)] ?_
 refine A.dx 1 ?_
 obtain rfl:=Option.some.inj hF
 exact A.rt1 [(0,489)] ⟨A2,c3,rfl,rfl⟩
def F.R08_at_l1 (a0:(List D130))(a1:D128):Nat→Int→Option Int
 |0,_=>none
 |f+1,y2=>if y2<((a0).length:Int)then((A.ix a0 y2).bind fun x5=>(if(x5.1.1,x5.1.2)=(a1.1,a1.2)then((A.ix a0 y2).bind fun x11=>(some x11.2))else(A.gd (Z.R64 (y2+1)) ((F.R08_at_l1 a0 a1 f) (y2+1)))))else(some (-1))
def F.R08_at (a0:(List D130))(a1:D128):Option Int:=F.R08_at_l1 a0 a1 A.FU 0
theorem R08_at_ok (a0:(List D130))(a1:D128)(A0_:Option Addr)(c1_:Nat)(h2_:IntKind.i64.has a1.1)(h3_:IntKind.i64.has a1.2)(r:Int)(hF:F.R08_at a0 a1=some r):
    A.Ct Tryz.prog 140 [.slice A0_ ((a0).length) c1_,.agg #[.int .i64 a1.1,.int .i64 a1.2]] [(0,.ln T130 A0_ c1_ a0)] [] (fun v H'=>v=.int .i64 r∧H'=[]∧IntKind.i64.has r):=by
 refine A.Ct.enter Tryz.func140 rfl Tryz.ntmps140 rfl fun w0 F0=>?_
 rw[F.R08_at]at hF
 refine A.xl 1 ?_
 refine A.AL.box 1 (cs:=[.int .i64 a1.1,.int .i64 a1.2]) fun g1=>?_
 refine A.q0 [] [] [.n] [] ?_
 refine A.dl 3 ?_
 refine A.q0 [] [] [.n] [(5,.int .i64 0)] ?_
 refine A.dx 2 ?_
 refine A.lp_ [0,3] [0,1] (fun f nl nh=>∃(y2:Int),nl=[(5,.int .i64 y2)]∧nh=[]∧IntKind.i64.has y2∧F.R08_at_l1 a0 a1 f y2=some r) ⟨0,rfl,rfl,(A.hasl .i64 (0) rfl),hF⟩ ?_
 rintro f4 _ _ ⟨y2,rfl,rfl,hy3,hF⟩
 rcases f4 with _|f4
 ·exact A.no0 hF
 rw[F.R08_at_l1]at hF
 refine A.xl 2 ?_
 refine A.q0 [] [] [.n,.n,.n,.n] [(9,.bool (decide (y2<((a0).length:Int))))] ?_
 refine A.dx 1 ?_
 refine A.AX.cnd rfl hF (fun hb hF=>?_) (fun hb hF=>?_)
 ·refine A.xx 5 ?_
  refine A.AX.dr mixed 7 7 (A.mb 7 0) ?_
  refine A.hq A.pb [] [0,1] [1] [] (A.mb 7 35) 4 [(0,.n),(1,.n),(5,.b 0 0)] [(12,.slice A0_ ((a0).length) c1_),(13,.int .i64 y2),(17,.agg #[.int .i64 a1.1,.int .i64 a1.2])] ?_
  obtain⟨x5,hv6,hF⟩:=A.bd_some hF
  refine A.AH.pkl 0 6 hv6 fun ho7=>?_
  intro b9 o10 hA8
  refine A.AH.v A.pb [0,1] [0,1,6] 2 (A.mb 7 39) rfl (fun a w hf hh=>A.r_ixa (t:=T130) hv6 hA8 hf) ?_
  refine A.hq A.pb [0,1,6] [0,1,6] [] [6] (A.mb 7 63) 1 [(3,.n),(4,.e 0 0)] [(16,.agg #[.int .i64 x5.1.1,.int .i64 x5.1.2])] ?_
  refine A.AH.v A.pb [0,1,6] [0,1,6] 6 (A.mb 7 127) rfl (fun a w hf hh=>eqagg_eql129 (x:=(x5.1.1,x5.1.2)) (y:=(a1.1,a1.2)) (hf.eval rfl) (hf.eval rfl)) ?_
  refine A.AH.done ?_
  refine A.ex 1 ?_
  refine A.AX.cnd rfl hF (fun hb hF=>?_) (fun hb hF=>?_)
  ·refine A.xl 1 ?_
   refine A.q0 [] [] [.n,.n] [(19,.slice A0_ ((a0).length) c1_),(20,.int .i64 y2)] ?_
   obtain⟨x11,hv12,hF⟩:=A.bd_some hF
   refine A.AL.ixl 0 7 hv12 fun ho13=>?_
   intro b14 o15
   refine A.q0 [] [7] [.n,.e 0 2,.n] [(4,.int .i64 x11.2)] ?_
   refine A.dx 1 ?_
   obtain rfl:=Option.some.inj hF
   exact A.rt1 [] ⟨rfl,rfl,ho13.2⟩
  refine A.xl 3 ?_
  obtain⟨hc16,hF⟩:=A.gd_some hF
  refine A.q [] [] [.n,.n,.n] [Z.R64 (y2+1)] [(5,.int .i64 (y2+1))] hc16 ?_
  refine A.AL.done ?_
  exact A.j ⟨_,Nat.lt_succ_self _,⟨(y2+1),rfl,rfl,(Z.i64_has hc16),hF⟩⟩
 refine A.xl 3 ?_
 refine A.q0 [] [] [.n] [(4,.int .i64 (-1))] ?_
 refine A.dx 1 ?_
 obtain rfl:=Option.some.inj hF
 exact A.rt1 [] ⟨rfl,rfl,(A.hasl .i64 (-1) rfl)⟩
def F.R08_open (a0:D23)(a1:(List D130))(a2:D157)(a3:Int):Option Bool:=(F.R08_Find a0 a2.1.1).bind fun r3=>((F.R08_at a1 (a2.2.1.1,a2.2.1.2)).bind fun r16=>(if a3≤r16 then(some (bif bif decide (r3.1.2.1≠14)then true else decide (r3.1.2.2.2.2.2.2≠a3)then true else decide (a2.1.2=2)))else(some false)))
theorem R08_open_ok (a0:D23)(a1:(List D130))(a2:D157)(a3:Int)(A0_:Option Addr)(c1_:Nat)(A2_:Option Addr)(c3_:Nat)(h4_:IntKind.i64.has a2.1.1)(h5_:IntKind.i64.has a2.1.2)(h6_:IntKind.i64.has a2.2.1.1)(h7_:IntKind.i64.has a2.2.1.2)(h8_:IntKind.i64.has a2.2.2.1)(h9_:IntKind.i64.has a2.2.2.2.1)(h10_:IntKind.i64.has a2.2.2.2.2.1)(h11_:IntKind.i64.has a2.2.2.2.2.2.1)(h12_:IntKind.i64.has a2.2.2.2.2.2.2.1)(h13_:IntKind.i64.has a2.2.2.2.2.2.2.2.1)(h14_:IntKind.i64.has a2.2.2.2.2.2.2.2.2.1)(h15_:IntKind.i64.has a2.2.2.2.2.2.2.2.2.2)(h16_:IntKind.i64.has a3)(r:Bool)(hF:F.R08_open a0 a1 a2 a3=some r):
    A.Ct Tryz.prog 116 [.agg #[.slice A0_ ((a0).length) c1_],.slice A2_ ((a1).length) c3_,.agg #[.int .i64 a2.1.1,.int .i64 a2.1.2,.int .i64 a2.2.1.1,.int .i64 a2.2.1.2,.int .i64 a2.2.2.1,.int .i64 a2.2.2.2.1,.int .i64 a2.2.2.2.2.1,.int .i64 a2.2.2.2.2.2.1,.int .i64 a2.2.2.2.2.2.2.1,.int .i64 a2.2.2.2.2.2.2.2.1,.int .i64 a2.2.2.2.2.2.2.2.2.1,.int .i64 a2.2.2.2.2.2.2.2.2.2],.int .i64 a3] [(0,.sh (.slice T69) [.slice A0_ (a0).length c1_] a0),(1,.ln T130 A2_ c3_ a1)] [] (fun v H'=>v=.bool r∧H'=[]):=by
 refine A.Ct.enter Tryz.func116 rfl Tryz.ntmps116 rfl fun w0 F0=>?_
 rw[F.R08_open]at hF
 refine A.xl 1 ?_
 refine A.AL.box 2 (cs:=[.slice A0_ ((a0).length) c1_]) fun g1=>?_
 refine A.AL.box 3 (cs:=[.int .i64 a2.1.1,.int .i64 a2.1.2,.int .i64 a2.2.1.1,.int .i64 a2.2.1.2,.int .i64 a2.2.2.1,.int .i64 a2.2.2.2.1,.int .i64 a2.2.2.2.2.1,.int .i64 a2.2.2.2.2.2.1,.int .i64 a2.2.2.2.2.2.2.1,.int .i64 a2.2.2.2.2.2.2.2.1,.int .i64 a2.2.2.2.2.2.2.2.2.1,.int .i64 a2.2.2.2.2.2.2.2.2.2]) fun g2=>?_
 refine A.q0 [] [] [.n] [] ?_
 refine A.dl 2 ?_
 refine A.q0 [2,3] [] [.b 0 0,.n,.n,.b 1 0] [(12,.agg #[.slice A0_ ((a0).length) c1_]),(15,.int .i64 a2.1.1)] ?_
 obtain⟨r3,hv4,hF⟩:=A.bd_some hF
 refine A.AL.call 4 [] (first:=[]) (cap:=[]) cf113 (R08_Find_ok a0 a2.1.1 A0_ c1_ h4_ r3 hv4) (.s 0 .nil) ?_
 rintro _ _ ⟨A7,c8,rfl,rfl,hr5,hr6,hr9,hr10,hr11,hr12,hr13,hr14⟩
 refine⟨by kernel_rfl,?_⟩
 refine A.q0 [] [] [.n,.n,.n] [(17,.agg #[.int .i64 r3.1.1,.int .i64 r3.1.2.1,.slice A7 ((r3.1.2.2.1).length) c8,.int .i64 r3.1.2.2.2.1.1,.int .i64 r3.1.2.2.2.1.2.1,.string r3.1.2.2.2.1.2.2,.string r3.1.2.2.2.2.1,.int .i64 r3.1.2.2.2.2.2.1,.int .i64 r3.1.2.2.2.2.2.2]),(18,.bool r3.2)] ?_
 refine A.AL.alloc 44 (cs:=[.int .i64 0,.int .i64 0,.slice none 0 0,.int .i64 0,.int .i64 0,.string (ByteArray.mk #[]),.string (ByteArray.mk #[]),.int .i64 0,.int .i64 0]) Tryz.zeroValue70 fun g15=>?_
 refine A.sw 44 [] [.int .i64 r3.1.1,.int .i64 r3.1.2.1,.slice A7 ((r3.1.2.2.1).length) c8,.int .i64 r3.1.2.2.2.1.1,.int .i64 r3.1.2.2.2.1.2.1,.string r3.1.2.2.2.1.2.2,.string r3.1.2.2.2.2.1,.int .i64 r3.1.2.2.2.2.2.1,.int .i64 r3.1.2.2.2.2.2.2] ?_
 refine A.q0 [] [] [.n] [] ?_
 refine A.dl 2 ?_
 refine A.q0 [3] [] [.n,.n,.b 0 2] [(19,.slice A2_ ((a1).length) c3_),(21,.agg #[.int .i64 a2.2.1.1,.int .i64 a2.2.1.2])] ?_
 obtain⟨r16,hv17,hF⟩:=A.bd_some hF
 refine A.AL.call 45 [] (first:=[]) (cap:=[]) cf140 (R08_at_ok a1 (a2.2.1.1,a2.2.1.2) A2_ c3_ h6_ h7_ r16 hv17) (.s 1 .nil) ?_
 rintro _ _ ⟨rfl,rfl,hr18⟩
 refine⟨by kernel_rfl,?_⟩
 refine A.q0 [] [] [.n,.n,.n] [(25,.bool (decide (a3≤r16)))] ?_
 refine A.AL.cnp (j:=25) rfl hF (fun hb hF=>?_) (fun hb hF=>?_)
 ·refine A.q0 [44,3] [] [.on .n,.on (.b 0 1),.on .n,.on .n,.sy .n,.sy (.b 0 8),.sy .n,.sy .n,.on .pk,.on .n,.sy .n,.sy .n,.sy (.b 1 1),.sy .n,.on .pk,.n,.n] [(8,.bool (bif bif decide (r3.1.2.1≠14)then true else decide (r3.1.2.2.2.2.2.2≠a3)then true else decide (a2.1.2=2)))] ?_
  refine A.dx 1 ?_
  obtain rfl:=Option.some.inj hF
  exact A.rt1 [] ⟨rfl,rfl⟩
 refine A.q0 [] [] [.off,.off,.off,.off,.off,.off,.off,.off,.off,.off,.off,.off,.off,.off,.off,.n,.n] [(8,.bool false)] ?_
 refine A.dx 1 ?_
 obtain rfl:=Option.some.inj hF
 exact A.rt1 [] ⟨rfl,rfl⟩
end Go.Proofs.YtocfaokgoflmhaaGreatDoor
end
section
set_option linter.unusedVariables false
set_option linter.unusedSimpArgs false
set_option maxRecDepth 20000
set_option maxHeartbeats 8000000
set_option synthInstance.maxSize 1000000
set_option synthInstance.maxHeartbeats 400000
namespace Go.Proofs.YtocfaokgoflmhaaGreatDoor
open Go.RowKit
def F.R08_on_l1 (a0:(List D128))(a1:D128):Nat→Int→Option Bool
 |0,_=>none
 |f+1,y2=>if y2<((a0).length:Int)then((A.ix a0 y2).bind fun x5=>(if(x5.1,x5.2)=(a1.1,a1.2)then(some true)else(A.gd (Z.R64 (y2+1)) ((F.R08_on_l1 a0 a1 f) (y2+1)))))else(some false)
def F.R08_on (a0:(List D128))(a1:D128):Option Bool:=F.R08_on_l1 a0 a1 A.FU 0
theorem R08_on_ok (a0:(List D128))(a1:D128)(A0_:Option Addr)(c1_:Nat)(h2_:IntKind.i64.has a1.1)(h3_:IntKind.i64.has a1.2)(r:Bool)(hF:F.R08_on a0 a1=some r):
    A.Ct Tryz.prog 117 [.slice A0_ ((a0).length) c1_,.agg #[.int .i64 a1.1,.int .i64 a1.2]] [(0,.ln T128 A0_ c1_ a0)] [] (fun v H'=>v=.bool r∧H'=[]):=by
 refine A.Ct.enter Tryz.func117 rfl Tryz.ntmps117 rfl fun w0 F0=>?_
 rw[F.R08_on]at hF
 refine A.xl 1 ?_
 refine A.AL.box 1 (cs:=[.int .i64 a1.1,.int .i64 a1.2]) fun g1=>?_
 refine A.q0 [] [] [.n] [] ?_
 refine A.dl 3 ?_
 refine A.q0 [] [] [.n] [(5,.int .i64 0)] ?_
 refine A.dx 2 ?_
 refine A.lp_ [0,3] [0,1] (fun f nl nh=>∃(y2:Int),nl=[(5,.int .i64 y2)]∧nh=[]∧IntKind.i64.has y2∧F.R08_on_l1 a0 a1 f y2=some r) ⟨0,rfl,rfl,(A.hasl .i64 (0) rfl),hF⟩ ?_
 rintro f4 _ _ ⟨y2,rfl,rfl,hy3,hF⟩
 rcases f4 with _|f4
 ·exact A.no0 hF
 rw[F.R08_on_l1]at hF
 refine A.xl 2 ?_
 refine A.q0 [] [] [.n,.n,.n,.n] [(9,.bool (decide (y2<((a0).length:Int))))] ?_
 refine A.dx 1 ?_
 refine A.AX.cnd rfl hF (fun hb hF=>?_) (fun hb hF=>?_)
 ·refine A.xx 5 ?_
  refine A.AX.dr mixed 6 6 (A.mb 6 0) ?_
  refine A.hq A.pb [] [0,1] [1] [] (A.mb 6 19) 3 [(0,.n),(1,.n),(4,.b 0 0)] [(12,.slice A0_ ((a0).length) c1_),(13,.int .i64 y2),(16,.agg #[.int .i64 a1.1,.int .i64 a1.2])] ?_
  obtain⟨x5,hv6,hF⟩:=A.bd_some hF
  refine A.AH.pkl 0 4 hv6 fun ho7=>?_
  intro b9 o10 hA8
  refine A.AH.v A.pb [0,1] [0,1,4] 2 (A.mb 6 23) rfl (fun a w hf hh=>A.r_ixa (t:=T128) hv6 hA8 hf) ?_
  refine A.hq A.pb [0,1,4] [0,1,4] [] [4] (A.mb 6 31) 1 [(3,.e 0 0)] [(15,.agg #[.int .i64 x5.1,.int .i64 x5.2])] ?_
  refine A.AH.v A.pb [0,1,4] [0,1,4] 5 (A.mb 6 63) rfl (fun a w hf hh=>eqagg_eql129 (x:=(x5.1,x5.2)) (y:=(a1.1,a1.2)) (hf.eval rfl) (hf.eval rfl)) ?_
  refine A.AH.done ?_
  refine A.ex 1 ?_
  refine A.AX.cnd rfl hF (fun hb hF=>?_) (fun hb hF=>?_)
  ·refine A.xl 1 ?_
   refine A.q0 [] [] [.n] [(4,.bool true)] ?_
   refine A.dx 1 ?_
   obtain rfl:=Option.some.inj hF
   exact A.rt1 [] ⟨rfl,rfl⟩
  refine A.xl 3 ?_
  obtain⟨hc11,hF⟩:=A.gd_some hF
  refine A.q [] [] [.n,.n,.n] [Z.R64 (y2+1)] [(5,.int .i64 (y2+1))] hc11 ?_
  refine A.AL.done ?_
  exact A.j ⟨_,Nat.lt_succ_self _,⟨(y2+1),rfl,rfl,(Z.i64_has hc11),hF⟩⟩
 refine A.xl 3 ?_
 refine A.q0 [] [] [.n] [(4,.bool false)] ?_
 refine A.dx 1 ?_
 obtain rfl:=Option.some.inj hF
 exact A.rt1 [] ⟨rfl,rfl⟩
def F.R08_round_j1 (k4:(List D128)→(List D128)→Int→Option Bool)(y20:Int)(xs25:List D128)(xs28:List D128):Option Bool:=A.gd (Z.R64 (y20+1)) (k4 xs25 xs28 (y20+1))
def F.R08_round_j2 (k4:(List D128)→(List D128)→Int→Option Bool)(a2:(List D157))(xs16:List D128)(xs19:List D128)(y20:Int)(y30:Bool):Option Bool:=if y30=true then((A.ix a2 y20).bind fun x31=>(A.gd ((List.length (α:=D128) xs16+List.length (α:=D128) [(x31.2.1.1,x31.2.1.2)])*16≤140737488355328) ((A.ix a2 y20).bind fun x40=>(A.gd ((List.length (α:=D128) xs19+List.length (α:=D128) [(x40.2.1.1,x40.2.1.2)])*16≤140737488355328) (F.R08_round_j1 k4 y20 (xs16++[(x31.2.1.1,x31.2.1.2)]) (xs19++[(x40.2.1.1,x40.2.1.2)]))))))else(F.R08_round_j1 k4 y20 xs16 xs19)
def F.R08_round_l3 (k3:(List D128)→(List D128)→Int→Option Bool)(a0:D23)(a1:(List D130))(a2:(List D157))(a3:D130)(y11:Int):Nat→(List D128)→(List D128)→Int→Option Bool
 |0,_,_,_=>none
 |f+1,xs16,xs19,y20=>if y20<((a2).length:Int)then((A.ix a2 y20).bind fun x49=>((A.ix xs19 y11).bind fun x55=>(if(x49.1.1,x49.1.2)=(x55.1,x55.2)then((A.ix a2 y20).bind fun x60=>((F.R08_open a0 a1 ((x60.1.1,x60.1.2),(x60.2.1.1,x60.2.1.2),(x60.2.2.1,x60.2.2.2.1,x60.2.2.2.2.1,x60.2.2.2.2.2.1,(x60.2.2.2.2.2.2.1,x60.2.2.2.2.2.2.2.1,x60.2.2.2.2.2.2.2.2.1,x60.2.2.2.2.2.2.2.2.2))) a3.2).bind fun r66=>(if r66=true then((A.ix a2 y20).bind fun x68=>((F.R08_on xs16 (x68.2.1.1,x68.2.1.2)).bind fun r74=>(F.R08_round_j2 (F.R08_round_l3 k3 a0 a1 a2 a3 y11 f) a2 xs16 xs19 y20 (!r74))))else(F.R08_round_j2 (F.R08_round_l3 k3 a0 a1 a2 a3 y11 f) a2 xs16 xs19 y20 false))))else(F.R08_round_j2 (F.R08_round_l3 k3 a0 a1 a2 a3 y11 f) a2 xs16 xs19 y20 false))))else(A.gd (Z.R64 (y11+1)) (k3 xs16 xs19 (y11+1)))
def F.R08_round_l4 (a0:D23)(a1:(List D130))(a2:(List D157))(a3:D130):Nat→(List D128)→(List D128)→Int→Option Bool
 |0,_,_,_=>none
 |f+1,xs7,xs10,y11=>if y11<((xs10).length:Int)then(F.R08_round_l3 (F.R08_round_l4 a0 a1 a2 a3 f) a0 a1 a2 a3 y11 A.FU xs7 xs10 0)else((F.R08_on xs7 (a3.1.1,a3.1.2)).bind fun r77=>(some r77))
def F.R08_round (a0:D23)(a1:(List D130))(a2:(List D157))(a3:D130):Option Bool:=F.R08_round_l4 a0 a1 a2 a3 A.FU [] [(a3.1.1,a3.1.2)] 0
theorem R08_round_ok (a0:D23)(a1:(List D130))(a2:(List D157))(a3:D130)(A0_:Option Addr)(c1_:Nat)(A2_:Option Addr)(c3_:Nat)(A4_:Option Addr)(c5_:Nat)(h6_:IntKind.i64.has a3.1.1)(h7_:IntKind.i64.has a3.1.2)(h8_:IntKind.i64.has a3.2)(r:Bool)(hF:F.R08_round a0 a1 a2 a3=some r):
    A.Ct Tryz.prog 87 [.agg #[.slice A0_ ((a0).length) c1_],.slice A2_ ((a1).length) c3_,.slice A4_ ((a2).length) c5_,.agg #[.int .i64 a3.1.1,.int .i64 a3.1.2,.int .i64 a3.2]] [(0,.sh (.slice T69) [.slice A0_ (a0).length c1_] a0),(1,.ln T130 A2_ c3_ a1),(2,.ln T157 A4_ c5_ a2)] [] (fun v H'=>v=.bool r∧H'=[]):=by
 refine A.Ct.enter Tryz.func87 rfl Tryz.ntmps87 rfl fun w0 F0=>?_
 rw[F.R08_round]at hF
 refine A.xl 1 ?_
 refine A.AL.box 3 (cs:=[.slice A0_ ((a0).length) c1_]) fun g1=>?_
 refine A.AL.box 4 (cs:=[.int .i64 a3.1.1,.int .i64 a3.1.2,.int .i64 a3.2]) fun g2=>?_
 refine A.q0 [] [] [.n] [] ?_
 refine A.dl 2 ?_
 refine A.AL.bs0 5 T128 (fun g3=>?_) Tryz.sizeOf129
 refine A.q0 [] [] [.n] [(9,.slice (some ⟨g3,0,none⟩) 0 0)] ?_
 refine A.dl 2 ?_
 refine A.q0 [4] [] [.n,.b 0 0] [(15,.agg #[.int .i64 a3.1.1,.int .i64 a3.1.2])] ?_
 refine A.AL.bsl 6 (ty:=T128) (cs:=[.int .i64 a3.1.1,.int .i64 a3.1.2]) [(a3.1.1,a3.1.2)] ⟨⟨⟨rfl,h6_⟩,⟨rfl,h7_⟩⟩,rfl⟩ (fun g4=>?_) Tryz.zeroValue129 Tryz.sizeOf129
 refine A.q0 [] [] [.n] [(10,.slice (some ⟨g4,0,none⟩) 1 1)] ?_
 refine A.dl 3 ?_
 refine A.q0 [] [] [.n] [(11,.int .i64 0)] ?_
 refine A.dx 2 ?_
 refine A.lp_ [1,2,4,7] [0,1,2,3,4] (fun f nl nh=>∃(xs7:List D128),∃(xs10:List D128),∃(y11:Int),∃(A5:Option Addr),∃(c6:Nat),∃(A8:Option Addr),∃(c9:Nat),nl=[(9,.slice A5 ((xs7).length) c6),(10,.slice A8 ((xs10).length) c9),(11,.int .i64 y11)]∧nh=[(5,.own T128 129 A5 c6 xs7),(6,.own T128 129 A8 c9 xs10)]∧IntKind.i64.has y11∧F.R08_round_l4 a0 a1 a2 a3 f xs7 xs10 y11=some r) ⟨[],[(a3.1.1,a3.1.2)],0,(some ⟨g3,0,none⟩),0,(some ⟨g4,0,none⟩),1,rfl,rfl,(A.hasl .i64 (0) rfl),hF⟩ ?_
 rintro f13 _ _ ⟨xs7,xs10,y11,A5,c6,A8,c9,rfl,rfl,hy12,hF⟩
 rcases f13 with _|f13
 ·exact A.no0 hF
 rw[F.R08_round_l4]at hF
 refine A.xl 2 ?_
 refine A.q0 [] [] [.n,.n,.n,.n] [(20,.bool (decide (y11<((xs10).length:Int))))] ?_
 refine A.dx 1 ?_
 refine A.AX.cnd rfl hF (fun hb hF=>?_) (fun hb hF=>?_)
 ·refine A.xl 5 ?_
  refine A.q0 [] [] [.n] [(12,.int .i64 0)] ?_
  refine A.dx 2 ?_
  refine A.lp_ [1,2,4,7,11] [0,1,2,3,4] (fun f nl nh=>∃(xs16:List D128),∃(xs19:List D128),∃(y20:Int),∃(A14:Option Addr),∃(c15:Nat),∃(A17:Option Addr),∃(c18:Nat),nl=[(9,.slice A14 ((xs16).length) c15),(10,.slice A17 ((xs19).length) c18),(12,.int .i64 y20)]∧nh=[(5,.own T128 129 A14 c15 xs16),(6,.own T128 129 A17 c18 xs19)]∧IntKind.i64.has y20∧F.R08_round_l3 (F.R08_round_l4 a0 a1 a2 a3 f13) a0 a1 a2 a3 y11 f xs16 xs19 y20=some r) ⟨xs7,xs10,0,A5,c6,A8,c9,rfl,rfl,(A.hasl .i64 (0) rfl),hF⟩ ?_
  rintro f22 _ _ ⟨xs16,xs19,y20,A14,c15,A17,c18,rfl,rfl,hy21,hF⟩
  rcases f22 with _|f22
  ·exact A.no0 hF
  rw[F.R08_round_l3]at hF
  refine A.xl 2 ?_
  refine A.q0 [] [] [.n,.n,.n,.n] [(26,.bool (decide (y20<((a2).length:Int))))] ?_
  refine A.dx 1 ?_
  refine A.AX.cnd rfl hF (fun hb hF=>?_) (fun hb hF=>?_)
  ·refine A.xx 2 ?_
   refine A.AX.join [1,2,4,7,11,12] [0,1,2,3,4] (fun nl nh=>∃(xs25:List D128),∃(xs28:List D128),∃(A23:Option Addr),∃(c24:Nat),∃(A26:Option Addr),∃(c27:Nat),nl=[(9,.slice A23 ((xs25).length) c24),(10,.slice A26 ((xs28).length) c27)]∧nh=[(5,.own T128 129 A23 c24 xs25),(6,.own T128 129 A26 c27 xs28)]∧F.R08_round_j1 (F.R08_round_l3 (F.R08_round_l4 a0 a1 a2 a3 f13) a0 a1 a2 a3 y11 f22) y20 xs25 xs28=some r) ?_ ?_
   ·refine A.xx 1 ?_
    refine A.AX.join [1,2,4,7,9,10,11,12] [0,1,2,3,4,5,6] (fun nl nh=>∃(y30:Bool),nl=[(59,.bool y30)]∧nh=[]∧F.R08_round_j2 (F.R08_round_l3 (F.R08_round_l4 a0 a1 a2 a3 f13) a0 a1 a2 a3 y11 f22) a2 xs16 xs19 y20 y30=some r) ?_ ?_
    ·refine A.AX.dr mixed 31 31 (A.mb 31 0) ?_
     refine A.hq A.pb [] [0,1,2,3,4,5,6] [] [] (A.mb 31 99) 27 [(0,.n),(1,.n),(5,.n),(6,.n)] [(29,.slice A4_ ((a2).length) c5_),(30,.int .i64 y20),(34,.slice A17 ((xs19).length) c18),(35,.int .i64 y11)] ?_
     obtain⟨x49,hv50,hF⟩:=A.bd_some hF
     refine A.AH.pkl 2 791 hv50 fun ho51=>?_
     intro b53 o54 hA52
     refine A.AH.v A.pb [0,1,2,3,4,5,6] [0,1,2,3,4,5,6,791] 2 (A.mb 31 103) rfl (fun a w hf hh=>A.r_ixa (t:=T157) hv50 hA52 hf) ?_
     refine A.hq A.pb [0,1,2,3,4,5,6,791] [0,1,2,3,4,5,6,791] [] [791] (A.mb 31 127) 24 [(3,.n),(4,.e 0 0)] [(33,.agg #[.int .i64 x49.1.1,.int .i64 x49.1.2])] ?_
     obtain⟨x55,hv56,hF⟩:=A.bd_some hF
     refine A.AH.pko 6 792 hv56 fun ho57=>?_
     intro g59 hA58
     refine A.AH.v A.pb [0,1,2,3,4,5,6,791] [0,1,2,3,4,5,6,791,792] 7 (A.mb 31 255) rfl (fun a w hf hh=>A.r_ixo (t:=T128) hv56 hA58 hf) ?_
     refine A.hq A.pb [0,1,2,3,4,5,6,791,792] [0,1,2,3,4,5,6,791,792] [] [792] (A.mb 31 511) 22 [(8,.e 0 0)] [(37,.agg #[.int .i64 x55.1,.int .i64 x55.2])] ?_
     refine A.AH.v A.pb [0,1,2,3,4,5,6,791,792] [0,1,2,3,4,5,6,791,792] 9 (A.mb 31 1023) rfl (fun a w hf hh=>eqagg_eql129 (x:=(x49.1.1,x49.1.2)) (y:=(x55.1,x55.2)) (hf.eval rfl) (hf.eval rfl)) ?_
     refine A.hq A.pb [0,1,2,3,4,5,6,791,792] [0,1,2,3,4,5,6,791,792] [] [] (A.mb 31 2047) 20 [(10,.n)] [(39,.bool (decide ((x49.1.1,x49.1.2)=(x55.1,x55.2))))] ?_
     refine A.AH.cnp (j:=39) rfl hF (fun hb hF=>?_) (fun hb hF=>?_)
     ·refine A.hq A.pb [0,1,2,3,4,5,6,791,792] [0,1,2,3,4,5,6,791,792] [3,4] [] (A.mb 31 425983) 14 [(11,.on (.b 0 0)),(12,.on .n),(13,.on .n),(14,.on .n),(17,.on .n),(18,.on (.b 1 2))] [(40,.agg #[.slice A0_ ((a0).length) c1_]),(41,.slice A2_ ((a1).length) c3_),(42,.slice A4_ ((a2).length) c5_),(43,.int .i64 y20),(47,.int .i64 a3.2)] ?_
      obtain⟨x60,hv61,hF⟩:=A.bd_some hF
      refine A.AH.pkl 2 793 hv61 fun ho62=>?_
      intro b64 o65 hA63
      refine A.AH.vg A.pb [0,1,2,3,4,5,6,791,792] [0,1,2,3,4,5,6,791,792,793] 15 (A.mb 31 458751) (dj:=39) rfl (fun a w hf hh=>A.r_ixa (t:=T157) hv61 hA63 hf) ?_
      refine A.hq A.pb [0,1,2,3,4,5,6,791,792,793] [0,1,2,3,4,5,6,791,792,793] [] [793] (A.mb 31 524287) 12 [(16,.on (.e 0 0))] [(45,.agg #[.int .i64 x60.1.1,.int .i64 x60.1.2,.int .i64 x60.2.1.1,.int .i64 x60.2.1.2,.int .i64 x60.2.2.1,.int .i64 x60.2.2.2.1,.int .i64 x60.2.2.2.2.1,.int .i64 x60.2.2.2.2.2.1,.int .i64 x60.2.2.2.2.2.2.1,.int .i64 x60.2.2.2.2.2.2.2.1,.int .i64 x60.2.2.2.2.2.2.2.2.1,.int .i64 x60.2.2.2.2.2.2.2.2.2])] ?_
      refine A.AH.one 19 ?_
      refine A.AL.on (dj:=39) rfl rfl ?_
      obtain⟨r66,hv67,hF⟩:=A.bd_some hF
      refine A.AL.call 794 [] (first:=[]) (cap:=[]) cf116 (R08_open_ok a0 a1 ((x60.1.1,x60.1.2),(x60.2.1.1,x60.2.1.2),(x60.2.2.1,x60.2.2.2.1,x60.2.2.2.2.1,x60.2.2.2.2.2.1,(x60.2.2.2.2.2.2.1,x60.2.2.2.2.2.2.2.1,x60.2.2.2.2.2.2.2.2.1,x60.2.2.2.2.2.2.2.2.2))) a3.2 A0_ c1_ A2_ c3_ ho62.1.1 ho62.1.2 ho62.2.1.1 ho62.2.1.2 ho62.2.2.1 ho62.2.2.2.1 ho62.2.2.2.2.1 ho62.2.2.2.2.2.1 ho62.2.2.2.2.2.2.1 ho62.2.2.2.2.2.2.2.1 ho62.2.2.2.2.2.2.2.2.1 ho62.2.2.2.2.2.2.2.2.2 h8_ r66 hv67) (.s 0 (.s 1 .nil)) ?_
      rintro _ _ ⟨rfl,rfl⟩
      refine⟨by kernel_rfl,?_⟩
      refine A.AH.nx (A.mb 31 1048575) [0,1,2,3,4,5,6,791,792,793] ?_
      refine A.hq A.pb [0,1,2,3,4,5,6,791,792,793] [0,1,2,3,4,5,6,791,792,793] [] [] (A.mb 31 4194303) 9 [(20,.n),(21,.n)] [(50,.bool r66)] ?_
      refine A.AH.cnd (j:=50) rfl hF (fun hF=>?_) (fun hF=>?_)
      ·refine A.hq A.pb [0,1,2,3,4,5,6,791,792,793] [0,1,2,3,4,5,6,791,792,793] [] [] (A.mb 31 33554431) 6 [(22,.on .n),(23,.on .n),(24,.on .n)] [(51,.slice A14 ((xs16).length) c15),(52,.slice A4_ ((a2).length) c5_),(53,.int .i64 y20)] ?_
       obtain⟨x68,hv69,hF⟩:=A.bd_some hF
       refine A.AH.pkl 2 834 hv69 fun ho70=>?_
       intro b72 o73 hA71
       refine A.AH.vg A.pb [0,1,2,3,4,5,6,791,792,793] [0,1,2,3,4,5,6,791,792,793,834] 25 (A.mb 31 67108863) (dj:=50) rfl (fun a w hf hh=>A.r_ixa (t:=T157) hv69 hA71 hf) ?_
       refine A.hq A.pb [0,1,2,3,4,5,6,791,792,793,834] [0,1,2,3,4,5,6,791,792,793,834] [] [834] (A.mb 31 268435455) 3 [(26,.on .n),(27,.on (.e 0 2))] [(56,.agg #[.int .i64 x68.2.1.1,.int .i64 x68.2.1.2])] ?_
       refine A.AH.one 28 ?_
       refine A.AL.on (dj:=50) rfl rfl ?_
       obtain⟨r74,hv75,hF⟩:=A.bd_some hF
       refine A.AL.call 835 [] (first:=[]) (cap:=[]) cf117 (R08_on_ok xs16 (x68.2.1.1,x68.2.1.2) A14 c15 ho70.2.1.1 ho70.2.1.2 r74 hv75) (.o 5 .nil) ?_
       rintro _ _ ⟨rfl,rfl⟩
       refine⟨by kernel_rfl,?_⟩
       refine A.AH.nx (A.mb 31 536870911) [0,1,2,3,4,5,6,791,792,793,834] ?_
       refine A.hq A.pb [0,1,2,3,4,5,6,791,792,793,834] [0,1,2,3,4,5,6,791,792,793,834] [] [] (A.mb 31 2147483647) 0 [(29,.on .n),(30,.n)] [(59,.bool (!r74))] ?_
       refine A.AH.done ?_
       exact A.j ⟨(!r74),rfl,rfl,hF⟩
      refine A.hq A.pb [0,1,2,3,4,5,6,791,792,793] [0,1,2,3,4,5,6,791,792,793] [] [] (A.mb 31 2147483647) 0 [(22,.off),(23,.off),(24,.off),(25,.off),(26,.off),(27,.off),(28,.off),(29,.off),(30,.n)] [(59,.bool false)] ?_
      refine A.AH.done ?_
      exact A.j ⟨false,rfl,rfl,hF⟩
     refine A.hq A.pb [0,1,2,3,4,5,6,791,792] [0,1,2,3,4,5,6,791,792] [] [] (A.mb 31 2147483647) 0 [(11,.off),(12,.off),(13,.off),(14,.off),(17,.off),(15,.off),(18,.off),(16,.off),(19,.off),(20,.n),(21,.n),(22,.off),(23,.off),(24,.off),(25,.off),(26,.off),(27,.off),(28,.off),(29,.off),(30,.n)] [(59,.bool false)] ?_
     refine A.AH.done ?_
     exact A.j ⟨false,rfl,rfl,hF⟩
    rintro _ _ ⟨y30,rfl,rfl,hF⟩
    rw[F.R08_round_j2]at hF
    refine A.AX.cnb rfl hF (fun hb hF=>?_) (fun hb hF=>?_)
    ·refine A.xl 1 ?_
     refine A.q0 [] [] [.n,.n,.n] [(60,.slice A14 ((xs16).length) c15),(61,.slice A4_ ((a2).length) c5_),(62,.int .i64 y20)] ?_
     obtain⟨x31,hv32,hF⟩:=A.bd_some hF
     refine A.AL.ixl 2 875 hv32 fun ho33=>?_
     intro b34 o35
     refine A.q0 [] [875] [.n,.e 0 2] [(65,.agg #[.int .i64 x31.2.1.1,.int .i64 x31.2.1.2])] ?_
     refine A.AL.bsl 876 (ty:=T128) (cs:=[.int .i64 x31.2.1.1,.int .i64 x31.2.1.2]) [(x31.2.1.1,x31.2.1.2)] ⟨⟨⟨rfl,ho33.2.1.1⟩,⟨rfl,ho33.2.1.2⟩⟩,rfl⟩ (fun g36=>?_) Tryz.zeroValue129 Tryz.sizeOf129
     obtain⟨hl39,hF⟩:=A.gd_some hF
     refine A.AL.app (k:=5) [] (A.rowO (k:=876) rfl) inf129 hl39 fun A37 c38=>?_
     refine A.q0 [] [] [.n] [(9,.slice A37 ((xs16++[(x31.2.1.1,x31.2.1.2)]).length) c38)] ?_
     refine A.dl 1 ?_
     refine A.q0 [] [] [.n,.n,.n] [(68,.slice A17 ((xs19).length) c18),(69,.slice A4_ ((a2).length) c5_),(70,.int .i64 y20)] ?_
     obtain⟨x40,hv41,hF⟩:=A.bd_some hF
     refine A.AL.ixl 2 877 hv41 fun ho42=>?_
     intro b43 o44
     refine A.q0 [] [877] [.n,.e 0 2] [(73,.agg #[.int .i64 x40.2.1.1,.int .i64 x40.2.1.2])] ?_
     refine A.AL.bsl 878 (ty:=T128) (cs:=[.int .i64 x40.2.1.1,.int .i64 x40.2.1.2]) [(x40.2.1.1,x40.2.1.2)] ⟨⟨⟨rfl,ho42.2.1.1⟩,⟨rfl,ho42.2.1.2⟩⟩,rfl⟩ (fun g45=>?_) Tryz.zeroValue129 Tryz.sizeOf129
     obtain⟨hl48,hF⟩:=A.gd_some hF
     refine A.AL.app (k:=6) [] (A.rowO (k:=878) rfl) inf129 hl48 fun A46 c47=>?_
     refine A.q0 [] [] [.n] [(10,.slice A46 ((xs19++[(x40.2.1.1,x40.2.1.2)]).length) c47)] ?_
     refine A.de 1 ?_
     exact A.j ⟨(xs16++[(x31.2.1.1,x31.2.1.2)]),(xs19++[(x40.2.1.1,x40.2.1.2)]),A37,c38,A46,c47,rfl,rfl,hF⟩
    refine A.xe 2 ?_
    exact A.j ⟨xs16,xs19,A14,c15,A17,c18,rfl,rfl,hF⟩
   rintro _ _ ⟨xs25,xs28,A23,c24,A26,c27,rfl,rfl,hF⟩
   rw[F.R08_round_j1]at hF
   refine A.xl 0 ?_
   obtain⟨hc29,hF⟩:=A.gd_some hF
   refine A.q [] [] [.n,.n,.n] [Z.R64 (y20+1)] [(12,.int .i64 (y20+1))] hc29 ?_
   refine A.AL.done ?_
   exact A.j ⟨_,Nat.lt_succ_self _,⟨xs25,xs28,(y20+1),A23,c24,A26,c27,rfl,rfl,(Z.i64_has hc29),hF⟩⟩
  refine A.xl 3 ?_
  obtain⟨hc76,hF⟩:=A.gd_some hF
  refine A.q [] [] [.n,.n,.n] [Z.R64 (y11+1)] [(11,.int .i64 (y11+1))] hc76 ?_
  refine A.AL.done ?_
  exact A.j ⟨_,Nat.lt_succ_self _,⟨xs16,xs19,(y11+1),A14,c15,A17,c18,rfl,rfl,(Z.i64_has hc76),hF⟩⟩
 refine A.xl 3 ?_
 refine A.q0 [4] [] [.n,.n,.b 0 0] [(76,.slice A5 ((xs7).length) c6),(78,.agg #[.int .i64 a3.1.1,.int .i64 a3.1.2])] ?_
 obtain⟨r77,hv78,hF⟩:=A.bd_some hF
 refine A.AL.call 879 [] (first:=[]) (cap:=[]) cf117 (R08_on_ok xs7 (a3.1.1,a3.1.2) A5 c6 h6_ h7_ r77 hv78) (.o 5 .nil) ?_
 rintro _ _ ⟨rfl,rfl⟩
 refine⟨by kernel_rfl,?_⟩
 refine A.q0 [] [] [.n] [(8,.bool r77)] ?_
 refine A.dx 1 ?_
 obtain rfl:=Option.some.inj hF
 exact A.rt1 [] ⟨rfl,rfl⟩
def F.R08_whole_l1 (a0:D23)(r5:(List Int)×Bool)(r9:(List Int)×Bool)(r13:(List D130))(r17:(List D157)):Nat→Int→Option ((List Int)×(List Int)×Int)
 |0,_=>none
 |f+1,y21=>if y21<((r13).length:Int)then((A.ix r13 y21).bind fun x24=>((F.R08_round a0 r13 r17 ((x24.1.1,x24.1.2),x24.2)).bind fun r29=>(if r29=true then(some ([],[],81))else(A.gd (Z.R64 (y21+1)) ((F.R08_whole_l1 a0 r5 r9 r13 r17 f) (y21+1))))))else(some (r5.1,r9.1,0))
def F.R08_whole (a0:D23):Option ((List Int)×(List Int)×Int):=(F.R08_parts a0).bind fun r2=>(if r2≠0 then(some ([],[],r2))else((F.R08_order a0).bind fun r5=>(if(!r5.2)=true then(some ([],[],81))else((F.R08_depths a0 r5.1).bind fun r9=>(if(!r9.2)=true then(some ([],[],80))else((F.R08_spots a0 r9.1).bind fun r13=>((F.R08_edges a0 r13).bind fun r17=>(F.R08_whole_l1 a0 r5 r9 r13 r17 A.FU 0))))))))
theorem R08_whole_ok (a0:D23)(A0_:Option Addr)(c1_:Nat)(r:(List Int)×(List Int)×Int)(hF:F.R08_whole a0=some r):
    A.Ct Tryz.prog 51 [.agg #[.slice A0_ ((a0).length) c1_]] [(0,.sh (.slice T69) [.slice A0_ (a0).length c1_] a0)] [] (fun v H'=>∃(A0':Option Addr) (c1':Nat) (A2':Option Addr) (c3':Nat),v=.tuple #[.slice A0' ((r.1).length) c1',.slice A2' ((r.2.1).length) c3',.int .i64 r.2.2]∧H'=[(0,.own (Z.Ty.int .i64) 3 A0' c1' r.1),(1,.own (Z.Ty.int .i64) 3 A2' c3' r.2.1)]∧IntKind.i64.has r.2.2):=by
 refine A.Ct.enter Tryz.func51 rfl Tryz.ntmps51 rfl fun w0 F0=>?_
 rw[F.R08_whole]at hF
 refine A.xl 1 ?_
 refine A.AL.box 1 (cs:=[.slice A0_ ((a0).length) c1_]) fun g1=>?_
 refine A.q0 [] [] [.n,.n,.n] [] ?_
 refine A.dl 3 ?_
 refine A.q0 [1] [] [.b 0 0] [(12,.agg #[.slice A0_ ((a0).length) c1_])] ?_
 obtain⟨r2,hv3,hF⟩:=A.bd_some hF
 refine A.AL.call 2 [] (first:=[]) (cap:=[]) cf82 (R08_parts_ok a0 A0_ c1_ r2 hv3) (.s 0 .nil) ?_
 rintro _ _ ⟨rfl,rfl,hr4⟩
 refine⟨by kernel_rfl,?_⟩
 refine A.q0 [] [] [.n] [(5,.int .i64 r2)] ?_
 refine A.dl 2 ?_
 refine A.q0 [] [] [.n,.n] [(15,.bool (decide (r2≠0)))] ?_
 refine A.dx 1 ?_
 refine A.AX.cnd rfl hF (fun hb hF=>?_) (fun hb hF=>?_)
 ·refine A.xl 1 ?_
  refine A.q0 [] [] [.n,.n,.n,.n] [(2,.slice none 0 0),(3,.slice none 0 0),(4,.int .i64 r2)] ?_
  refine A.dx 1 ?_
  obtain rfl:=Option.some.inj hF
  refine A.nil 42 (Z.Ty.int .i64) 3 ?_
  refine A.nil 43 (Z.Ty.int .i64) 3 ?_
  exact A.AX.ret [(0,42),(1,43)] (.tuple #[.slice none 0 0,.slice none 0 0,.int .i64 r2]) (fun a w hf hh=>Z.resv3 rfl (Z.rv_t hf rfl) (Z.rv_t hf rfl) (Z.rv_t hf rfl)) (⟨none,0,none,0,rfl,rfl,hr4⟩)
 refine A.xl 3 ?_
 refine A.q0 [1] [] [.b 0 0] [(18,.agg #[.slice A0_ ((a0).length) c1_])] ?_
 obtain⟨r5,hv6,hF⟩:=A.bd_some hF
 refine A.AL.call 44 [] (first:=[]) (cap:=[]) cf83 (R08_order_ok a0 A0_ c1_ r5 hv6) (.s 0 .nil) ?_
 rintro _ _ ⟨A7,c8,rfl,rfl⟩
 refine⟨by kernel_rfl,?_⟩
 refine A.q0 [] [] [.n,.n,.n,.n,.n] [(6,.slice A7 ((r5.1).length) c8),(7,.bool r5.2)] ?_
 refine A.dl 3 ?_
 refine A.q0 [] [] [.n,.n] [(23,.bool (!r5.2))] ?_
 refine A.dx 1 ?_
 refine A.AX.cnb rfl hF (fun hb hF=>?_) (fun hb hF=>?_)
 ·refine A.xl 1 ?_
  refine A.q0 [] [] [.n,.n,.n] [(2,.slice none 0 0),(3,.slice none 0 0),(4,.int .i64 81)] ?_
  refine A.dx 1 ?_
  obtain rfl:=Option.some.inj hF
  refine A.nil 84 (Z.Ty.int .i64) 3 ?_
  refine A.nil 85 (Z.Ty.int .i64) 3 ?_
  exact A.AX.ret [(0,84),(1,85)] (.tuple #[.slice none 0 0,.slice none 0 0,.int .i64 81]) (fun a w hf hh=>Z.resv3 rfl (Z.rv_t hf rfl) (Z.rv_t hf rfl) (Z.rv_t hf rfl)) (⟨none,0,none,0,rfl,rfl,(A.hasl .i64 (81) rfl)⟩)
 refine A.xl 3 ?_
 refine A.q0 [1] [] [.b 0 0,.n] [(25,.agg #[.slice A0_ ((a0).length) c1_]),(26,.slice A7 ((r5.1).length) c8)] ?_
 obtain⟨r9,hv10,hF⟩:=A.bd_some hF
 refine A.AL.call 86 [] (first:=[]) (cap:=[]) cf84 (R08_depths_ok a0 r5.1 A0_ c1_ A7 c8 r9 hv10) (.s 0 (.o 44 .nil)) ?_
 rintro _ _ ⟨A11,c12,rfl,rfl⟩
 refine⟨by kernel_rfl,?_⟩
 refine A.q0 [] [] [.n,.n,.n,.n,.n] [(8,.slice A11 ((r9.1).length) c12),(7,.bool r9.2)] ?_
 refine A.dl 3 ?_
 refine A.q0 [] [] [.n,.n] [(31,.bool (!r9.2))] ?_
 refine A.dx 1 ?_
 refine A.AX.cnb rfl hF (fun hb hF=>?_) (fun hb hF=>?_)
 ·refine A.xl 1 ?_
  refine A.q0 [] [] [.n,.n,.n] [(2,.slice none 0 0),(3,.slice none 0 0),(4,.int .i64 80)] ?_
  refine A.dx 1 ?_
  obtain rfl:=Option.some.inj hF
  refine A.nil 126 (Z.Ty.int .i64) 3 ?_
  refine A.nil 127 (Z.Ty.int .i64) 3 ?_
  exact A.AX.ret [(0,126),(1,127)] (.tuple #[.slice none 0 0,.slice none 0 0,.int .i64 80]) (fun a w hf hh=>Z.resv3 rfl (Z.rv_t hf rfl) (Z.rv_t hf rfl) (Z.rv_t hf rfl)) (⟨none,0,none,0,rfl,rfl,(A.hasl .i64 (80) rfl)⟩)
 refine A.xl 3 ?_
 refine A.q0 [1] [] [.b 0 0,.n] [(32,.agg #[.slice A0_ ((a0).length) c1_]),(33,.slice A11 ((r9.1).length) c12)] ?_
 obtain⟨r13,hv14,hF⟩:=A.bd_some hF
 refine A.AL.call 128 [] (first:=[]) (cap:=[]) cf85 (R08_spots_ok a0 r9.1 A0_ c1_ A11 c12 r13 hv14) (.s 0 (.o 86 .nil)) ?_
 rintro _ _ ⟨A15,c16,rfl,rfl⟩
 refine⟨by kernel_rfl,?_⟩
 refine A.q0 [] [] [.n] [(9,.slice A15 ((r13).length) c16)] ?_
 refine A.dl 2 ?_
 refine A.q0 [1] [] [.b 0 0,.n] [(35,.agg #[.slice A0_ ((a0).length) c1_]),(36,.slice A15 ((r13).length) c16)] ?_
 obtain⟨r17,hv18,hF⟩:=A.bd_some hF
 refine A.AL.call 168 [] (first:=[]) (cap:=[]) cf86 (R08_edges_ok a0 r13 A0_ c1_ A15 c16 r17 hv18) (.s 0 (.o 128 .nil)) ?_
 rintro _ _ ⟨A19,c20,rfl,rfl⟩
 refine⟨by kernel_rfl,?_⟩
 refine A.q0 [] [] [.n] [(10,.slice A19 ((r17).length) c20)] ?_
 refine A.dl 3 ?_
 refine A.q0 [] [] [.n] [(11,.int .i64 0)] ?_
 refine A.dx 2 ?_
 refine A.lp_ [1,6,8,9,10] [0,1,44,86,128,168] (fun f nl nh=>∃(y21:Int),nl=[(11,.int .i64 y21)]∧nh=[]∧IntKind.i64.has y21∧F.R08_whole_l1 a0 r5 r9 r13 r17 f y21=some r) ⟨0,rfl,rfl,(A.hasl .i64 (0) rfl),hF⟩ ?_
 rintro f23 _ _ ⟨y21,rfl,rfl,hy22,hF⟩
 rcases f23 with _|f23
 ·exact A.no0 hF
 rw[F.R08_whole_l1]at hF
 refine A.xl 2 ?_
 refine A.q0 [] [] [.n,.n,.n,.n] [(41,.bool (decide (y21<((r13).length:Int))))] ?_
 refine A.dx 1 ?_
 refine A.AX.cnd rfl hF (fun hb hF=>?_) (fun hb hF=>?_)
 ·refine A.xx 5 ?_
  refine A.AX.dr mixed 7 8 (A.mb 8 0) ?_
  refine A.hq A.pb [] [0,1,44,86,128,168] [1] [] (A.mb 8 31) 3 [(0,.b 0 0),(1,.n),(2,.n),(3,.n),(4,.n)] [(44,.agg #[.slice A0_ ((a0).length) c1_]),(45,.slice A15 ((r13).length) c16),(46,.slice A19 ((r17).length) c20),(47,.slice A15 ((r13).length) c16),(48,.int .i64 y21)] ?_
  obtain⟨x24,hv25,hF⟩:=A.bd_some hF
  refine A.AH.pko 128 294 hv25 fun ho26=>?_
  intro g28 hA27
  refine A.AH.v A.pb [0,1,44,86,128,168] [0,1,44,86,128,168,294] 5 (A.mb 8 63) rfl (fun a w hf hh=>A.r_ixo (t:=T130) hv25 hA27 hf) ?_
  refine A.hq A.pb [0,1,44,86,128,168,294] [0,1,44,86,128,168,294] [] [294] (A.mb 8 127) 1 [(6,.e 0 0)] [(50,.agg #[.int .i64 x24.1.1,.int .i64 x24.1.2,.int .i64 x24.2])] ?_
  refine A.AH.one 7 ?_
  obtain⟨r29,hv30,hF⟩:=A.bd_some hF
  refine A.AL.call 295 [] (first:=[]) (cap:=[]) cf87 (R08_round_ok a0 r13 r17 ((x24.1.1,x24.1.2),x24.2) A0_ c1_ A15 c16 A19 c20 ho26.1.1 ho26.1.2 ho26.2 r29 hv30) (.s 0 (.o 128 (.o 168 .nil))) ?_
  rintro _ _ ⟨rfl,rfl⟩
  refine⟨by kernel_rfl,?_⟩
  refine A.AH.nm (A.mb 8 255) ?_
  refine A.AH.done ?_
  refine A.ex 1 ?_
  refine A.AX.cnb rfl hF (fun hb hF=>?_) (fun hb hF=>?_)
  ·refine A.xl 1 ?_
   refine A.q0 [] [] [.n,.n,.n] [(2,.slice none 0 0),(3,.slice none 0 0),(4,.int .i64 81)] ?_
   refine A.dx 1 ?_
   obtain rfl:=Option.some.inj hF
   refine A.nil 335 (Z.Ty.int .i64) 3 ?_
   refine A.nil 336 (Z.Ty.int .i64) 3 ?_
   exact A.AX.ret [(0,335),(1,336)] (.tuple #[.slice none 0 0,.slice none 0 0,.int .i64 81]) (fun a w hf hh=>Z.resv3 rfl (Z.rv_t hf rfl) (Z.rv_t hf rfl) (Z.rv_t hf rfl)) (⟨none,0,none,0,rfl,rfl,(A.hasl .i64 (81) rfl)⟩)
  refine A.xl 3 ?_
  obtain⟨hc31,hF⟩:=A.gd_some hF
  refine A.q [] [] [.n,.n,.n] [Z.R64 (y21+1)] [(11,.int .i64 (y21+1))] hc31 ?_
  refine A.AL.done ?_
  exact A.j ⟨_,Nat.lt_succ_self _,⟨(y21+1),rfl,rfl,(Z.i64_has hc31),hF⟩⟩
 refine A.xl 3 ?_
 refine A.q0 [] [] [.n,.n,.n,.n,.n] [(2,.slice A7 ((r5.1).length) c8),(3,.slice A11 ((r9.1).length) c12),(4,.int .i64 0)] ?_
 refine A.dx 1 ?_
 obtain rfl:=Option.some.inj hF
 exact A.AX.ret [(0,44),(1,86)] (.tuple #[.slice A7 ((r5.1).length) c8,.slice A11 ((r9.1).length) c12,.int .i64 0]) (fun a w hf hh=>Z.resv3 rfl (Z.rv_t hf rfl) (Z.rv_t hf rfl) (Z.rv_t hf rfl)) (⟨A7,c8,A11,c12,rfl,rfl,(A.hasl .i64 (0) rfl)⟩)
def F.R08_Check (a0:D23):Option Int:=(F.R08_whole a0).bind fun r2=>(some r2.2.2)
theorem R08_Check_ok (a0:D23)(A0_:Option Addr)(c1_:Nat)(r:Int)(hF:F.R08_Check a0=some r):
    A.Ct Tryz.prog 18 [.agg #[.slice A0_ ((a0).length) c1_]] [(0,.sh (.slice T69) [.slice A0_ (a0).length c1_] a0)] [] (fun v H'=>v=.int .i64 r∧H'=[]∧IntKind.i64.has r):=by
 refine A.Ct.enter Tryz.func18 rfl Tryz.ntmps18 rfl fun w0 F0=>?_
 rw[F.R08_Check]at hF
 refine A.xl 1 ?_
 refine A.AL.box 1 (cs:=[.slice A0_ ((a0).length) c1_]) fun g1=>?_
 refine A.q0 [] [] [.n] [] ?_
 refine A.dl 2 ?_
 refine A.q0 [1] [] [.b 0 0] [(7,.agg #[.slice A0_ ((a0).length) c1_])] ?_
 obtain⟨r2,hv3,hF⟩:=A.bd_some hF
 refine A.AL.call 2 [] (first:=[]) (cap:=[]) cf51 (R08_whole_ok a0 A0_ c1_ r2 hv3) (.s 0 .nil) ?_
 rintro _ _ ⟨A4,c5,A6,c7,rfl,rfl,hr8⟩
 refine⟨by kernel_rfl,?_⟩
 refine A.q0 [] [] [.n,.n,.n,.n,.n,.n,.n] [(5,.int .i64 r2.2.2)] ?_
 refine A.dl 2 ?_
 refine A.q0 [] [] [.n,.n] [(2,.int .i64 r2.2.2)] ?_
 refine A.dx 1 ?_
 obtain rfl:=Option.some.inj hF
 exact A.rt1 [] ⟨rfl,rfl,hr8⟩
end Go.Proofs.YtocfaokgoflmhaaGreatDoor
end
section
set_option linter.unusedVariables false
set_option linter.unusedSimpArgs false
set_option maxRecDepth 20000
set_option maxHeartbeats 8000000
set_option synthInstance.maxSize 1000000
set_option synthInstance.maxHeartbeats 400000
namespace Go.Proofs.YtocfaokgoflmhaaGreatDoor
open Go.RowKit
def F.R09_clone (a0:D69):Option D69:=A.gd ((List.length (α:=Int) []+List.length (α:=Int) a0.2.2.1)*8≤140737488355328) (some (a0.1,a0.2.1,[]++a0.2.2.1,(a0.2.2.2.1.1,a0.2.2.2.1.2.1,a0.2.2.2.1.2.2),a0.2.2.2.2.1,a0.2.2.2.2.2.1,a0.2.2.2.2.2.2))
def F.R09_has_l1 (a0:(List Int))(a1:Int):Nat→Int→Option Bool
 |0,_=>none
 |f+1,y1=>if y1<((a0).length:Int)then((A.ix a0 y1).bind fun x4=>(if x4=a1 then(some true)else(A.gd (Z.R64 (y1+1)) ((F.R09_has_l1 a0 a1 f) (y1+1)))))else(some false)
def F.R09_has (a0:(List Int))(a1:Int):Option Bool:=F.R09_has_l1 a0 a1 A.FU 0
def F.R09_makes_j1 (k1:(List D69)→Int→Int→Option D23)(y8:Int)(y10:Int)(xs16:List D69):Option D23:=A.gd (Z.R64 (y8+1)) (k1 xs16 (y8+1) y10)
def F.R09_makes_j2 (k1:(List D69)→Int→Int→Option D23)(a1:D27)(xs7:List D69)(y10:Int)(y52:Int):Option D23:=(A.ix a1.2.1 y10).bind fun x54=>((F.R09_clone (x54.1,x54.2.1,x54.2.2.1,(x54.2.2.2.1.1,x54.2.2.2.1.2.1,x54.2.2.2.1.2.2),x54.2.2.2.2.1,x54.2.2.2.2.2.1,x54.2.2.2.2.2.2)).bind fun r62=>(A.gd ((List.length (α:=D69) xs7+List.length (α:=D69) [(r62.1,r62.2.1,r62.2.2.1,(r62.2.2.2.1.1,r62.2.2.2.1.2.1,r62.2.2.2.1.2.2),r62.2.2.2.2.1,r62.2.2.2.2.2.1,r62.2.2.2.2.2.2)])*104≤140737488355328) (A.gd (Z.R64 (y10+1)) (k1 (xs7++[(r62.1,r62.2.1,r62.2.2.1,(r62.2.2.2.1.1,r62.2.2.2.1.2.1,r62.2.2.2.1.2.2),r62.2.2.2.2.1,r62.2.2.2.2.2.1,r62.2.2.2.2.2.2)]) y52 (y10+1)))))
def F.R09_makes_j3 (k1:(List D69)→Int→Int→Option D23)(a1:D27)(xs7:List D69)(y8:Int)(y10:Int)(y79:Bool):Option D23:=if y79=true then(A.gd (Z.R64 (y8+1)) (F.R09_makes_j2 k1 a1 xs7 y10 (y8+1)))else(F.R09_makes_j2 k1 a1 xs7 y10 y8)
def F.R09_makes_j4 (k1:(List D69)→Int→Int→Option D23)(a0:D23)(a1:D27)(xs7:List D69)(y8:Int)(y10:Int)(y13:Bool):Option D23:=if y13=true then((A.ix a0 y8).bind fun x18=>((F.R09_has a1.1 x18.1).bind fun r26=>(if(!r26)=true then((A.ix a0 y8).bind fun x28=>((F.R09_clone (x28.1,x28.2.1,x28.2.2.1,(x28.2.2.2.1.1,x28.2.2.2.1.2.1,x28.2.2.2.1.2.2),x28.2.2.2.2.1,x28.2.2.2.2.2.1,x28.2.2.2.2.2.2)).bind fun r36=>(A.gd ((List.length (α:=D69) xs7+List.length (α:=D69) [(r36.1,r36.2.1,r36.2.2.1,(r36.2.2.2.1.1,r36.2.2.2.1.2.1,r36.2.2.2.1.2.2),r36.2.2.2.2.1,r36.2.2.2.2.2.1,r36.2.2.2.2.2.2)])*104≤140737488355328) (F.R09_makes_j1 k1 y8 y10 (xs7++[(r36.1,r36.2.1,r36.2.2.1,(r36.2.2.2.1.1,r36.2.2.2.1.2.1,r36.2.2.2.1.2.2),r36.2.2.2.2.1,r36.2.2.2.2.2.1,r36.2.2.2.2.2.2)])))))else(F.R09_makes_j1 k1 y8 y10 xs7))))else(if y8<((a0).length:Int)then((A.ix a0 y8).bind fun x81=>((A.ix a1.2.1 y10).bind fun x89=>(F.R09_makes_j3 k1 a1 xs7 y8 y10 (decide (x81.1=x89.1)))))else(F.R09_makes_j3 k1 a1 xs7 y8 y10 false))
def F.R09_makes_l5 (a0:D23)(a1:D27):Nat→(List D69)→Int→Int→Option D23
 |0,_,_,_=>none
 |f+1,xs7,y8,y10=>if(bif decide (y8<((a0).length:Int))then true else decide (y10<((a1.2.1).length:Int)))=true then(if y10=((a1.2.1).length:Int)then(F.R09_makes_j4 (F.R09_makes_l5 a0 a1 f) a0 a1 xs7 y8 y10 true)else(if y8<((a0).length:Int)then((A.ix a0 y8).bind fun x97=>((A.ix a1.2.1 y10).bind fun x105=>(F.R09_makes_j4 (F.R09_makes_l5 a0 a1 f) a0 a1 xs7 y8 y10 (decide (x97.1<x105.1)))))else(F.R09_makes_j4 (F.R09_makes_l5 a0 a1 f) a0 a1 xs7 y8 y10 false)))else(some xs7)
def F.R09_makes (a0:D23)(a1:D27):Option D23:=F.R09_makes_l5 a0 a1 A.FU [] 0 0
end Go.Proofs.YtocfaokgoflmhaaGreatDoor
end
section
set_option linter.unusedVariables false
set_option linter.unusedSimpArgs false
set_option maxRecDepth 20000
set_option maxHeartbeats 8000000
set_option synthInstance.maxSize 1000000
set_option synthInstance.maxHeartbeats 400000
namespace Go.Proofs.YtocfaokgoflmhaaGreatDoor
open Go.RowKit
def F.R09_Get_l1 (a0:D23)(a1:Int):Nat→Int→Option (D69×Bool)
 |0,_=>none
 |f+1,y3=>if y3<((a0).length:Int)then((A.ix a0 y3).bind fun x6=>(if x6.1=a1 then((A.ix a0 y3).bind fun x13=>(some ((x13.1,x13.2.1,x13.2.2.1,(x13.2.2.2.1.1,x13.2.2.2.1.2.1,x13.2.2.2.1.2.2),x13.2.2.2.2.1,x13.2.2.2.2.2.1,x13.2.2.2.2.2.2),true)))else(A.gd (Z.R64 (y3+1)) ((F.R09_Get_l1 a0 a1 f) (y3+1)))))else(some ((0,0,[],(0,0,ByteArray.mk #[]),ByteArray.mk #[],0,0),false))
def F.R09_Get (a0:D23)(a1:Int):Option (D69×Bool):=F.R09_Get_l1 a0 a1 A.FU 0
def F.R09_drops_j1 (k1:Int→Option Bool)(y2:Int)(y26:Bool):Option Bool:=if y26=true then(some false)else(A.gd (Z.R64 (y2+1)) (k1 (y2+1)))
def F.R09_drops_j2 (k1:Int→Option Bool)(a1:(List Int))(y2:Int)(xs7:List Int)(y8:Int)(y10:Int)(y12:Int)(y14:Int)(y16:ByteArray)(y18:ByteArray)(y20:Int)(y22:Int)(y25:Bool):Option Bool:=if(bif !y25 then true else decide (y10=1))=true then(F.R09_drops_j1 k1 y2 true)else(if(0:Int)<y2 then(A.gd (Z.R64 (y2-1)) ((A.ix a1 y2).bind fun x29=>((A.ix a1 (y2-1)).bind fun x35=>(F.R09_drops_j1 k1 y2 (decide (x29≤x35))))))else(F.R09_drops_j1 k1 y2 false))
def F.R09_drops_l3 (a0:D23)(a1:(List Int)):Nat→Int→Option Bool
 |0,_=>none
 |f+1,y2=>if y2<((a1).length:Int)then((A.ix a1 y2).bind fun x41=>((F.R09_Get a0 x41).bind fun r347=>(F.R09_drops_j2 (F.R09_drops_l3 a0 a1 f) a1 y2 r347.1.2.2.1 r347.1.1 r347.1.2.1 r347.1.2.2.2.1.1 r347.1.2.2.2.1.2.1 r347.1.2.2.2.1.2.2 r347.1.2.2.2.2.1 r347.1.2.2.2.2.2.1 r347.1.2.2.2.2.2.2 r347.2)))else(some (decide (((a1).length:Int)≤32)))
def F.R09_drops (a0:D23)(a1:(List Int)):Option Bool:=F.R09_drops_l3 a0 a1 A.FU 0
end Go.Proofs.YtocfaokgoflmhaaGreatDoor
end
section
set_option linter.unusedVariables false
set_option linter.unusedSimpArgs false
set_option maxRecDepth 20000
set_option maxHeartbeats 8000000
set_option synthInstance.maxSize 1000000
set_option synthInstance.maxHeartbeats 400000
namespace Go.Proofs.YtocfaokgoflmhaaGreatDoor
open Go.RowKit
def F.R09_puts_j1 (k1:Int→Option Bool)(y3:Int)(y27:Bool):Option Bool:=if y27=true then(some false)else(A.gd (Z.R64 (y3+1)) (k1 (y3+1)))
def F.R09_puts_j2 (k1:Int→Option Bool)(a1:D27)(y3:Int)(xs8:List Int)(y9:Int)(y11:Int)(y13:Int)(y15:Int)(y17:ByteArray)(y19:ByteArray)(y21:Int)(y23:Int)(y26:Bool):Option Bool:=(A.ix a1.2.1 y3).bind fun x29=>(if x29.2.1=1 then(F.R09_puts_j1 k1 y3 true)else(if(bif y26 then decide (y11=1)else false)=true then(F.R09_puts_j1 k1 y3 true)else((A.ix a1.2.1 y3).bind fun x37=>((F.R09_has a1.1 x37.1).bind fun r45=>(if r45=true then(F.R09_puts_j1 k1 y3 true)else(if(0:Int)<y3 then(A.gd (Z.R64 (y3-1)) ((A.ix a1.2.1 y3).bind fun x48=>((A.ix a1.2.1 (y3-1)).bind fun x56=>(F.R09_puts_j1 k1 y3 (decide (x48.1≤x56.1))))))else(F.R09_puts_j1 k1 y3 false)))))))
def F.R09_puts_l3 (a0:D23)(a1:D27):Nat→Int→Option Bool
 |0,_=>none
 |f+1,y3=>if y3<((a1.2.1).length:Int)then((A.ix a1.2.1 y3).bind fun x64=>((F.R09_Get a0 x64.1).bind fun r492=>(F.R09_puts_j2 (F.R09_puts_l3 a0 a1 f) a1 y3 r492.1.2.2.1 r492.1.1 r492.1.2.1 r492.1.2.2.2.1.1 r492.1.2.2.2.1.2.1 r492.1.2.2.2.1.2.2 r492.1.2.2.2.2.1 r492.1.2.2.2.2.2.1 r492.1.2.2.2.2.2.2 r492.2)))else(some (decide (((a1.2.1).length:Int)≤32)))
def F.R09_puts (a0:D23)(a1:D27):Option Bool:=F.R09_puts_l3 a0 a1 A.FU 0
def F.R09_Holds (a0:Int):Option Bool:=some (bif decide (a0=11)then true else decide (a0=16))
def F.R09_move_j1 (y31:Bool):Option Bool:=some y31
def F.R09_move_j2 (y32:Bool):Option Bool:=some y32
def F.R09_move_j3 (a2:D82)(r4:D69×Bool)(y30:Bool):Option Bool:=if y30=true then(some false)else(if a2.2.2.1=1 then(if a2.2.2.2.1=0 then(F.R09_move_j1 (decide ((a2.2.2.2.2.1,a2.2.2.2.2.2.1,a2.2.2.2.2.2.2)=(0,0,ByteArray.mk #[]))))else(F.R09_move_j1 false))else(if a2.2.2.1=2 then(if(bif bif decide (r4.1.2.1=11)then decide ((0:Int)≤a2.2.2.2.1)else false then decide (a2.2.2.2.1≤1048576)else false)=true then(F.R09_move_j2 (decide ((a2.2.2.2.2.1,a2.2.2.2.2.2.1,a2.2.2.2.2.2.2)=(0,0,ByteArray.mk #[]))))else(F.R09_move_j2 false))else(if a2.2.2.1=3 then(some (decide (a2.2.2.2.1=0)))else(some false))))
def F.R09_move (a0:D23)(a1:D27)(a2:D82):Option Bool:=(F.R09_Get a0 a2.1).bind fun r4=>((F.R09_Get a1.2.1 a2.2.1).bind fun r17=>(if(bif !r4.2 then true else !r17.2)=true then(F.R09_move_j3 a2 r4 true)else((F.R09_Holds r4.1.2.1).bind fun r33=>(F.R09_move_j3 a2 r4 (bif !r33 then true else decide (r4.1.2.1≠r17.1.2.1))))))
end Go.Proofs.YtocfaokgoflmhaaGreatDoor
end
section
set_option linter.unusedVariables false
set_option linter.unusedSimpArgs false
set_option maxRecDepth 20000
set_option maxHeartbeats 8000000
set_option synthInstance.maxSize 1000000
set_option synthInstance.maxHeartbeats 400000
namespace Go.Proofs.YtocfaokgoflmhaaGreatDoor
open Go.RowKit
def F.R09_may_l1 (k3:Int→Option Bool)(a1:D27)(y4:Int):Nat→Int→Option Bool
 |0,_=>none
 |f+1,y15=>if y15<y4 then((A.ix a1.2.2 y15).bind fun x18=>((A.ix a1.2.2 y4).bind fun x24=>(if x18.2.1=x24.2.1 then(some false)else(A.gd (Z.R64 (y15+1)) ((F.R09_may_l1 k3 a1 y4 f) (y15+1))))))else(A.gd (Z.R64 (y4+1)) (k3 (y4+1)))
def F.R09_may_l2 (a0:D23)(a1:D27):Nat→Int→Option Bool
 |0,_=>none
 |f+1,y4=>if y4<((a1.2.2).length:Int)then((A.ix a1.2.2 y4).bind fun x7=>((F.R09_move a0 (a1.1,a1.2.1,a1.2.2) (x7.1,x7.2.1,x7.2.2.1,x7.2.2.2.1,(x7.2.2.2.2.1,x7.2.2.2.2.2.1,x7.2.2.2.2.2.2))).bind fun r13=>(if(!r13)=true then(some false)else(F.R09_may_l1 (F.R09_may_l2 a0 a1 f) a1 y4 A.FU 0))))else(some true)
def F.R09_may_j3 (a0:D23)(a1:D27)(y3:Bool):Option Bool:=if y3=true then(some false)else(F.R09_may_l2 a0 a1 A.FU 0)
def F.R09_may (a0:D23)(a1:D27):Option Bool:=(F.R09_drops a0 a1.1).bind fun r32=>(if(!r32)=true then(F.R09_may_j3 a0 a1 true)else((F.R09_puts a0 (a1.1,a1.2.1,a1.2.2)).bind fun r34=>(F.R09_may_j3 a0 a1 (bif !r34 then true else decide ((16:Int)<((a1.2.2).length:Int))))))
def F.R09_Check (a0:D23)(a1:D27):Option Int:=(F.R08_Check a0).bind fun r3=>(if r3≠0 then(some r3)else((F.R09_may a0 (a1.1,a1.2.1,a1.2.2)).bind fun r6=>(if(!r6)=true then(some 90)else((F.R09_makes a0 (a1.1,a1.2.1,a1.2.2)).bind fun r8=>((F.R08_Check r8).bind fun r12=>(some r12))))))
def F.R09_Apply (a0:D23)(a1:D27):Option (D23×Int):=(F.R09_Check a0 (a1.1,a1.2.1,a1.2.2)).bind fun r4=>(if r4≠0 then(some ([],r4))else((F.R09_makes a0 (a1.1,a1.2.1,a1.2.2)).bind fun r7=>(some (r7,0))))
end Go.Proofs.YtocfaokgoflmhaaGreatDoor
end
section
set_option linter.unusedVariables false
set_option linter.unusedSimpArgs false
set_option maxRecDepth 20000
set_option maxHeartbeats 8000000
set_option synthInstance.maxSize 1000000
set_option synthInstance.maxHeartbeats 400000
namespace Go.Proofs.YtocfaokgoflmhaaGreatDoor
open Go.RowKit
def F.R08_Same_l1 (k3:Int→Option Bool)(y3:Int)(xs8:List Int)(xs11:List Int):Nat→Int→Option Bool
 |0,_=>none
 |f+1,y47=>if y47<((xs8).length:Int)then((A.ix xs8 y47).bind fun x50=>((A.ix xs11 y47).bind fun x56=>(if x50≠x56 then(some false)else(A.gd (Z.R64 (y47+1)) ((F.R08_Same_l1 k3 y3 xs8 xs11 f) (y47+1))))))else(A.gd (Z.R64 (y3+1)) (k3 (y3+1)))
def F.R08_Same_j2 (k3:Int→Option Bool)(y3:Int)(xs8:List Int)(xs11:List Int)(y46:Bool):Option Bool:=if y46=true then(some false)else(F.R08_Same_l1 k3 y3 xs8 xs11 A.FU 0)
def F.R08_Same_j3 (k3:Int→Option Bool)(y3:Int)(xs8:List Int)(xs11:List Int)(y12:Int)(y14:Int)(y16:Int)(y18:Int)(y20:ByteArray)(y22:ByteArray)(y24:Int)(y26:Int)(y29:Int)(y31:Int)(y33:Int)(y35:Int)(y37:ByteArray)(y39:ByteArray)(y41:Int)(y43:Int):Option Bool:=if(bif decide (y12≠y29)then true else decide (y14≠y31))=true then(F.R08_Same_j2 k3 y3 xs8 xs11 true)else(F.R08_Same_j2 k3 y3 xs8 xs11 (bif bif bif bif decide ((y16,y18,y20)≠(y33,y35,y37))then true else decide (y22≠y39)then true else decide (y24≠y41)then true else decide (y26≠y43)then true else decide (((xs8).length:Int)≠((xs11).length:Int))))
def F.R08_Same_l4 (a0:D23)(a1:D23):Nat→Int→Option Bool
 |0,_=>none
 |f+1,y3=>if y3<((a0).length:Int)then((A.ix a0 y3).bind fun x64=>((A.ix a1 y3).bind fun x72=>(F.R08_Same_j3 (F.R08_Same_l4 a0 a1 f) y3 x64.2.2.1 x72.2.2.1 x64.1 x64.2.1 x64.2.2.2.1.1 x64.2.2.2.1.2.1 x64.2.2.2.1.2.2 x64.2.2.2.2.1 x64.2.2.2.2.2.1 x64.2.2.2.2.2.2 x72.1 x72.2.1 x72.2.2.2.1.1 x72.2.2.2.1.2.1 x72.2.2.2.1.2.2 x72.2.2.2.2.1 x72.2.2.2.2.2.1 x72.2.2.2.2.2.2)))else(some true)
def F.R08_Same (a0:D23)(a1:D23):Option Bool:=if((a0).length:Int)≠((a1).length:Int)then(some false)else(F.R08_Same_l4 a0 a1 A.FU 0)
theorem R08_Same_ok (a0:D23)(a1:D23)(A0_:Option Addr)(c1_:Nat)(A2_:Option Addr)(c3_:Nat)(r:Bool)(hF:F.R08_Same a0 a1=some r):
    A.Ct Tryz.prog 13 [.agg #[.slice A0_ ((a0).length) c1_],.agg #[.slice A2_ ((a1).length) c3_]] [(0,.sh (.slice T69) [.slice A0_ (a0).length c1_] a0),(1,.sh (.slice T69) [.slice A2_ (a1).length c3_] a1)] [] (fun v H'=>v=.bool r∧H'=[]):=by
 refine A.Ct.enter Tryz.func13 rfl Tryz.ntmps13 rfl fun w0 F0=>?_
 rw[F.R08_Same]at hF
 refine A.xl 1 ?_
 refine A.AL.box 2 (cs:=[.slice A0_ ((a0).length) c1_]) fun g1=>?_
 refine A.AL.box 3 (cs:=[.slice A2_ ((a1).length) c3_]) fun g2=>?_
 refine A.q0 [] [] [.n] [] ?_
 refine A.dl 3 ?_
 refine A.q0 [2,3] [] [.n,.b 0 0,.n,.n,.b 1 0,.n,.n] [(15,.bool (decide (((a0).length:Int)≠((a1).length:Int))))] ?_
 refine A.dx 1 ?_
 refine A.AX.cnd rfl hF (fun hb hF=>?_) (fun hb hF=>?_)
 ·refine A.xl 1 ?_
  refine A.q0 [] [] [.n] [(4,.bool false)] ?_
  refine A.dx 1 ?_
  obtain rfl:=Option.some.inj hF
  exact A.rt1 [] ⟨rfl,rfl⟩
 refine A.xl 4 ?_
 refine A.q0 [] [] [.n] [(5,.int .i64 0)] ?_
 refine A.dx 2 ?_
 refine A.lp_ [2,3] [0,1,2,3] (fun f nl nh=>∃(y3:Int),nl=[(5,.int .i64 y3)]∧nh=[]∧IntKind.i64.has y3∧F.R08_Same_l4 a0 a1 f y3=some r) ⟨0,rfl,rfl,(A.hasl .i64 (0) rfl),hF⟩ ?_
 rintro f5 _ _ ⟨y3,rfl,rfl,hy4,hF⟩
 rcases f5 with _|f5
 ·exact A.no0 hF
 rw[F.R08_Same_l4]at hF
 refine A.xl 2 ?_
 refine A.q0 [2] [] [.n,.n,.b 0 0,.n,.n] [(20,.bool (decide (y3<((a0).length:Int))))] ?_
 refine A.dx 1 ?_
 refine A.AX.cnd rfl hF (fun hb hF=>?_) (fun hb hF=>?_)
 ·refine A.xx 4 ?_
  refine A.AX.join [2,3,5] [0,1,2,3] (fun nl nh=>∃(xs8:List Int),∃(xs11:List Int),∃(y12:Int),∃(y14:Int),∃(y16:Int),∃(y18:Int),∃(y20:ByteArray),∃(y22:ByteArray),∃(y24:Int),∃(y26:Int),∃(y29:Int),∃(y31:Int),∃(y33:Int),∃(y35:Int),∃(y37:ByteArray),∃(y39:ByteArray),∃(y41:Int),∃(y43:Int),∃(A6:Option Addr),∃(c7:Nat),∃(A9:Option Addr),∃(c10:Nat),∃(g28:Nat),∃(g45:Nat),nl=[(6,.pointer (some ⟨g28,0,none⟩)),(7,.pointer (some ⟨g45,0,none⟩))]∧nh=[(865,.sh (.slice (Z.Ty.int .i64)) [.slice A6 (xs8).length c7] xs8),(867,.sh (.slice (Z.Ty.int .i64)) [.slice A9 (xs11).length c10] xs11),(1168,.blk g28 70 [.int .i64 y12,.int .i64 y14,.slice A6 ((xs8).length) c7,.int .i64 y16,.int .i64 y18,.string y20,.string y22,.int .i64 y24,.int .i64 y26]),(1198,.blk g45 70 [.int .i64 y29,.int .i64 y31,.slice A9 ((xs11).length) c10,.int .i64 y33,.int .i64 y35,.string y37,.string y39,.int .i64 y41,.int .i64 y43])]∧IntKind.i64.has y12∧IntKind.i64.has y14∧IntKind.i64.has y16∧IntKind.i64.has y18∧y20.size≤maxLen∧y22.size≤maxLen∧IntKind.i64.has y24∧IntKind.i64.has y26∧IntKind.i64.has y29∧IntKind.i64.has y31∧IntKind.i64.has y33∧IntKind.i64.has y35∧y37.size≤maxLen∧y39.size≤maxLen∧IntKind.i64.has y41∧IntKind.i64.has y43∧F.R08_Same_j3 (F.R08_Same_l4 a0 a1 f5) y3 xs8 xs11 y12 y14 y16 y18 y20 y22 y24 y26 y29 y31 y33 y35 y37 y39 y41 y43=some r) ?_ ?_
  ·refine A.AX.dr mixed 13 14 (A.mb 14 0) ?_
   refine A.hq A.pb [] [0,1,2,3] [2,3] [] (A.mb 14 231) 8 [(0,.n),(2,.n),(5,.n),(7,.n),(1,.b 0 0),(6,.b 1 0)] [(25,.int .i64 y3),(30,.int .i64 y3),(24,.slice A0_ ((a0).length) c1_),(29,.slice A2_ ((a1).length) c3_)] ?_
   obtain⟨x64,hv65,hF⟩:=A.bd_some hF
   refine A.AH.pks 0 864 hv65 fun ho66=>?_
   intro A68 c69 b70 o71 hA67
   refine A.AH.v A.pb [0,1,2,3] [0,1,2,3,864,865] 3 (A.mb 14 239) rfl (fun a w hf hh=>A.r_ixa (t:=T69) hv65 hA67 hf) ?_
   refine A.hq A.pb [0,1,2,3,864,865] [0,1,2,3,864,865] [] [864] (A.mb 14 255) 6 [(4,.e 0 0)] [(27,.agg #[.int .i64 x64.1,.int .i64 x64.2.1,.slice A68 ((x64.2.2.1).length) c69,.int .i64 x64.2.2.2.1.1,.int .i64 x64.2.2.2.1.2.1,.string x64.2.2.2.1.2.2,.string x64.2.2.2.2.1,.int .i64 x64.2.2.2.2.2.1,.int .i64 x64.2.2.2.2.2.2])] ?_
   obtain⟨x72,hv73,hF⟩:=A.bd_some hF
   refine A.AH.pks 1 866 hv73 fun ho74=>?_
   intro A76 c77 b78 o79 hA75
   refine A.AH.v A.pb [0,1,2,3,864,865] [0,1,2,3,864,865,866,867] 8 (A.mb 14 511) rfl (fun a w hf hh=>A.r_ixa (t:=T69) hv73 hA75 hf) ?_
   refine A.hq A.pb [0,1,2,3,864,865,866,867] [0,1,2,3,864,865,866,867] [] [866] (A.mb 14 1023) 4 [(9,.e 0 0)] [(32,.agg #[.int .i64 x72.1,.int .i64 x72.2.1,.slice A76 ((x72.2.2.1).length) c77,.int .i64 x72.2.2.2.1.1,.int .i64 x72.2.2.2.1.2.1,.string x72.2.2.2.1.2.2,.string x72.2.2.2.2.1,.int .i64 x72.2.2.2.2.2.1,.int .i64 x72.2.2.2.2.2.2])] ?_
   refine A.AH.two 10 11 ?_ ?_
   ·refine A.AL.alloc 1168 (cs:=[.int .i64 0,.int .i64 0,.slice none 0 0,.int .i64 0,.int .i64 0,.string (ByteArray.mk #[]),.string (ByteArray.mk #[]),.int .i64 0,.int .i64 0]) Tryz.zeroValue70 fun g680=>?_
    refine A.AH.nx (A.mb 14 2047) [0,1,2,3,864,865,866,867] ?_
    refine A.AH.one 11 ?_
    refine A.AL.alloc 1198 (cs:=[.int .i64 0,.int .i64 0,.slice none 0 0,.int .i64 0,.int .i64 0,.string (ByteArray.mk #[]),.string (ByteArray.mk #[]),.int .i64 0,.int .i64 0]) Tryz.zeroValue70 fun g740=>?_
    refine A.AH.nx (A.mb 14 4095) [0,1,2,3,864,865,866,867] ?_
    refine A.AH.one 12 ?_
    refine A.sw 1168 [] [.int .i64 x64.1,.int .i64 x64.2.1,.slice A68 ((x64.2.2.1).length) c69,.int .i64 x64.2.2.2.1.1,.int .i64 x64.2.2.2.1.2.1,.string x64.2.2.2.1.2.2,.string x64.2.2.2.2.1,.int .i64 x64.2.2.2.2.2.1,.int .i64 x64.2.2.2.2.2.2] ?_
    refine A.AH.nx (A.mb 14 8191) [0,1,2,3,864,865,866,867] ?_
    refine A.AH.one 13 ?_
    refine A.sw 1198 [] [.int .i64 x72.1,.int .i64 x72.2.1,.slice A76 ((x72.2.2.1).length) c77,.int .i64 x72.2.2.2.1.1,.int .i64 x72.2.2.2.1.2.1,.string x72.2.2.2.1.2.2,.string x72.2.2.2.2.1,.int .i64 x72.2.2.2.2.2.1,.int .i64 x72.2.2.2.2.2.2] ?_
    refine A.AH.nm (A.mb 14 16383) ?_
    refine A.AH.done ?_
    exact A.j ⟨x64.2.2.1,x72.2.2.1,x64.1,x64.2.1,x64.2.2.2.1.1,x64.2.2.2.1.2.1,x64.2.2.2.1.2.2,x64.2.2.2.2.1,x64.2.2.2.2.2.1,x64.2.2.2.2.2.2,x72.1,x72.2.1,x72.2.2.2.1.1,x72.2.2.2.1.2.1,x72.2.2.2.1.2.2,x72.2.2.2.2.1,x72.2.2.2.2.2.1,x72.2.2.2.2.2.2,A68,c69,A76,c77,g680,g740,rfl,rfl,ho66.1,ho66.2.1,ho66.2.2.2.1.1,ho66.2.2.2.1.2.1,ho66.2.2.2.1.2.2,ho66.2.2.2.2.1,ho66.2.2.2.2.2.1,ho66.2.2.2.2.2.2,ho74.1,ho74.2.1,ho74.2.2.2.1.1,ho74.2.2.2.1.2.1,ho74.2.2.2.1.2.2,ho74.2.2.2.2.1,ho74.2.2.2.2.2.1,ho74.2.2.2.2.2.2,hF⟩
   refine A.AL.alloc 1198 (cs:=[.int .i64 0,.int .i64 0,.slice none 0 0,.int .i64 0,.int .i64 0,.string (ByteArray.mk #[]),.string (ByteArray.mk #[]),.int .i64 0,.int .i64 0]) Tryz.zeroValue70 fun g740=>?_
   refine A.AH.nx (A.mb 14 3071) [0,1,2,3,864,865,866,867] ?_
   refine A.AH.one 10 ?_
   refine A.AL.alloc 1168 (cs:=[.int .i64 0,.int .i64 0,.slice none 0 0,.int .i64 0,.int .i64 0,.string (ByteArray.mk #[]),.string (ByteArray.mk #[]),.int .i64 0,.int .i64 0]) Tryz.zeroValue70 fun g680=>?_
   refine A.AH.nx (A.mb 14 4095) [0,1,2,3,864,865,866,867] ?_
   refine A.AH.one 12 ?_
   refine A.sw 1168 [] [.int .i64 x64.1,.int .i64 x64.2.1,.slice A68 ((x64.2.2.1).length) c69,.int .i64 x64.2.2.2.1.1,.int .i64 x64.2.2.2.1.2.1,.string x64.2.2.2.1.2.2,.string x64.2.2.2.2.1,.int .i64 x64.2.2.2.2.2.1,.int .i64 x64.2.2.2.2.2.2] ?_
   refine A.AH.nx (A.mb 14 8191) [0,1,2,3,864,865,866,867] ?_
   refine A.AH.one 13 ?_
   refine A.sw 1198 [] [.int .i64 x72.1,.int .i64 x72.2.1,.slice A76 ((x72.2.2.1).length) c77,.int .i64 x72.2.2.2.1.1,.int .i64 x72.2.2.2.1.2.1,.string x72.2.2.2.1.2.2,.string x72.2.2.2.2.1,.int .i64 x72.2.2.2.2.2.1,.int .i64 x72.2.2.2.2.2.2] ?_
   refine A.AH.nm (A.mb 14 16383) ?_
   refine A.AH.done ?_
   exact A.j ⟨x64.2.2.1,x72.2.2.1,x64.1,x64.2.1,x64.2.2.2.1.1,x64.2.2.2.1.2.1,x64.2.2.2.1.2.2,x64.2.2.2.2.1,x64.2.2.2.2.2.1,x64.2.2.2.2.2.2,x72.1,x72.2.1,x72.2.2.2.1.1,x72.2.2.2.1.2.1,x72.2.2.2.1.2.2,x72.2.2.2.2.1,x72.2.2.2.2.2.1,x72.2.2.2.2.2.2,A68,c69,A76,c77,g680,g740,rfl,rfl,ho66.1,ho66.2.1,ho66.2.2.2.1.1,ho66.2.2.2.1.2.1,ho66.2.2.2.1.2.2,ho66.2.2.2.2.1,ho66.2.2.2.2.2.1,ho66.2.2.2.2.2.2,ho74.1,ho74.2.1,ho74.2.2.2.1.1,ho74.2.2.2.1.2.1,ho74.2.2.2.1.2.2,ho74.2.2.2.2.1,ho74.2.2.2.2.2.1,ho74.2.2.2.2.2.2,hF⟩
  rintro _ _ ⟨xs8,xs11,y12,y14,y16,y18,y20,y22,y24,y26,y29,y31,y33,y35,y37,y39,y41,y43,A6,c7,A9,c10,g28,g45,rfl,rfl,hy13,hy15,hy17,hy19,hy21,hy23,hy25,hy27,hy30,hy32,hy34,hy36,hy38,hy40,hy42,hy44,hF⟩
  rw[F.R08_Same_j3]at hF
  refine A.xx 1 ?_
  refine A.AX.join [2,3,5,6,7] [0,1,2,3,865,867,1168,1198] (fun nl nh=>∃(y46:Bool),nl=[(81,.bool y46)]∧nh=[]∧F.R08_Same_j2 (F.R08_Same_l4 a0 a1 f5) y3 xs8 xs11 y46=some r) ?_ ?_
  ·refine A.xl 0 ?_
   refine A.q0 [1168,1198] [] [.n,.b 0 0,.n,.b 1 0,.n,.n,.sy .n,.sy (.b 0 1),.sy .n,.sy (.b 1 1),.sy .n,.pk,.n] [(45,.bool (bif decide (y12≠y29)then true else decide (y14≠y31)))] ?_
   refine A.AL.cnd (j:=45) rfl hF (fun hF=>?_) (fun hF=>?_)
   ·refine A.q0 [] [] [.off,.off,.off,.off,.off,.n,.n,.off,.off,.off,.off,.off,.n,.n,.off,.off,.off,.off,.off,.n,.n,.off,.off,.off,.off,.off,.n,.n,.off,.off,.off,.off,.off,.off,.off,.n] [(81,.bool true)] ?_
    refine A.AL.done ?_
    exact A.j ⟨true,rfl,rfl,hF⟩
   refine A.q0 [1168,1198] [] [.on .n,.on (.b 0 3),.on .n,.on (.b 1 3)] [(47,.agg #[.int .i64 y16,.int .i64 y18,.string y20]),(49,.agg #[.int .i64 y33,.int .i64 y35,.string y37])] ?_
   refine A.AL.on (dj:=45) rfl rfl ?_
   refine A.AL.val rfl (fun a w hf hh=>eqagg_neq68 (x:=(y16,y18,y20)) (y:=(y33,y35,y37)) (hf.eval rfl) (hf.eval rfl)) ?_
   refine A.q0 [1168,1198] [] [.n,.n,.sy .n,.sy (.b 0 6),.sy .n,.sy (.b 1 6),.sy .n,.pk,.n,.sy .n,.sy (.b 0 7),.sy .n,.sy (.b 1 7),.sy .n,.pk,.n,.sy .n,.sy (.b 0 8),.sy .n,.sy (.b 1 8),.sy .n,.pk,.n,.sy .n,.sy (.b 0 2),.sy .n,.sy .n,.sy (.b 1 2),.sy .n,.sy .n,.pk] [(81,.bool (bif bif bif bif decide ((y16,y18,y20)≠(y33,y35,y37))then true else decide (y22≠y39)then true else decide (y24≠y41)then true else decide (y26≠y43)then true else decide (((xs8).length:Int)≠((xs11).length:Int))))] ?_
   refine A.AL.done ?_
   exact A.j ⟨(bif bif bif bif decide ((y16,y18,y20)≠(y33,y35,y37))then true else decide (y22≠y39)then true else decide (y24≠y41)then true else decide (y26≠y43)then true else decide (((xs8).length:Int)≠((xs11).length:Int))),rfl,rfl,hF⟩
  rintro _ _ ⟨y46,rfl,rfl,hF⟩
  rw[F.R08_Same_j2]at hF
  refine A.AX.cnb rfl hF (fun hb hF=>?_) (fun hb hF=>?_)
  ·refine A.xl 1 ?_
   refine A.q0 [] [] [.n] [(4,.bool false)] ?_
   refine A.dx 1 ?_
   obtain rfl:=Option.some.inj hF
   exact A.rt1 [] ⟨rfl,rfl⟩
  refine A.xl 3 ?_
  refine A.q0 [] [] [.n] [(8,.int .i64 0)] ?_
  refine A.dx 2 ?_
  refine A.lp_ [2,3,5,6,7] [0,1,2,3,865,867,1168,1198] (fun f nl nh=>∃(y47:Int),nl=[(8,.int .i64 y47)]∧nh=[]∧IntKind.i64.has y47∧F.R08_Same_l1 (F.R08_Same_l4 a0 a1 f5) y3 xs8 xs11 f y47=some r) ⟨0,rfl,rfl,(A.hasl .i64 (0) rfl),hF⟩ ?_
  rintro f49 _ _ ⟨y47,rfl,rfl,hy48,hF⟩
  rcases f49 with _|f49
  ·exact A.no0 hF
  rw[F.R08_Same_l1]at hF
  refine A.xl 2 ?_
  refine A.q0 [1168] [] [.n,.n,.b 0 2,.n,.n] [(86,.bool (decide (y47<((xs8).length:Int))))] ?_
  refine A.dx 1 ?_
  refine A.AX.cnd rfl hF (fun hb hF=>?_) (fun hb hF=>?_)
  ·refine A.xx 5 ?_
   refine A.AX.dr mixed 11 11 (A.mb 11 0) ?_
   refine A.hq A.pb [] [0,1,2,3,865,867,1168,1198] [1168,1198] [] (A.mb 11 231) 5 [(0,.n),(2,.n),(5,.n),(7,.n),(1,.b 0 2),(6,.b 1 2)] [(91,.int .i64 y47),(96,.int .i64 y47),(90,.slice A6 ((xs8).length) c7),(95,.slice A9 ((xs11).length) c10)] ?_
   obtain⟨x50,hv51,hF⟩:=A.bd_some hF
   refine A.AH.pks 865 1292 hv51 fun ho52=>?_
   intro b54 o55 hA53
   refine A.AH.v A.pb [0,1,2,3,865,867,1168,1198] [0,1,2,3,865,867,1168,1198,1292] 3 (A.mb 11 239) rfl (fun a w hf hh=>A.r_ixa (t:=(Z.Ty.int .i64)) hv51 hA53 hf) ?_
   refine A.hq A.pb [0,1,2,3,865,867,1168,1198,1292] [0,1,2,3,865,867,1168,1198,1292] [] [1292] (A.mb 11 255) 3 [(4,.e 0 0)] [(93,.int .i64 x50)] ?_
   obtain⟨x56,hv57,hF⟩:=A.bd_some hF
   refine A.AH.pks 867 1293 hv57 fun ho58=>?_
   intro b60 o61 hA59
   refine A.AH.v A.pb [0,1,2,3,865,867,1168,1198,1292] [0,1,2,3,865,867,1168,1198,1292,1293] 8 (A.mb 11 511) rfl (fun a w hf hh=>A.r_ixa (t:=(Z.Ty.int .i64)) hv57 hA59 hf) ?_
   refine A.hq A.pb [0,1,2,3,865,867,1168,1198,1292,1293] [0,1,2,3,865,867,1168,1198,1292,1293] [] [1293] (A.mb 11 2047) 0 [(9,.e 0 0),(10,.n)] [(99,.bool (decide (x50≠x56)))] ?_
   refine A.AH.done ?_
   refine A.ex 1 ?_
   refine A.AX.cnd rfl hF (fun hb hF=>?_) (fun hb hF=>?_)
   ·refine A.xl 1 ?_
    refine A.q0 [] [] [.n] [(4,.bool false)] ?_
    refine A.dx 1 ?_
    obtain rfl:=Option.some.inj hF
    exact A.rt1 [] ⟨rfl,rfl⟩
   refine A.xl 3 ?_
   obtain⟨hc62,hF⟩:=A.gd_some hF
   refine A.q [] [] [.n,.n,.n] [Z.R64 (y47+1)] [(8,.int .i64 (y47+1))] hc62 ?_
   refine A.AL.done ?_
   exact A.j ⟨_,Nat.lt_succ_self _,⟨(y47+1),rfl,rfl,(Z.i64_has hc62),hF⟩⟩
  refine A.xl 3 ?_
  obtain⟨hc63,hF⟩:=A.gd_some hF
  refine A.q [] [] [.n,.n,.n] [Z.R64 (y3+1)] [(5,.int .i64 (y3+1))] hc63 ?_
  refine A.AL.done ?_
  exact A.j ⟨_,Nat.lt_succ_self _,⟨(y3+1),rfl,rfl,(Z.i64_has hc63),hF⟩⟩
 refine A.xl 3 ?_
 refine A.q0 [] [] [.n] [(4,.bool true)] ?_
 refine A.dx 1 ?_
 obtain rfl:=Option.some.inj hF
 exact A.rt1 [] ⟨rfl,rfl⟩
end Go.Proofs.YtocfaokgoflmhaaGreatDoor
end
section
set_option linter.unusedVariables false
set_option linter.unusedSimpArgs false
set_option maxRecDepth 20000
set_option maxHeartbeats 8000000
set_option synthInstance.maxSize 1000000
set_option synthInstance.maxHeartbeats 400000
namespace Go.Proofs.YtocfaokgoflmhaaGreatDoor
open Go.RowKit
def F.graph_same_j1 (y3:Bool):Option Bool:=some y3
def F.graph_same (a0:D69)(a1:D69):Option Bool:=if(bif decide (a0.1=a1.1)then decide (a0.2.1=a1.2.1)else false)=true then((F.slices_Equal_int_int a0.2.2.1 a1.2.2.1).bind fun r4=>(if r4=true then(F.graph_same_j1 (bif bif bif decide ((a0.2.2.2.1.1,a0.2.2.2.1.2.1,a0.2.2.2.1.2.2)=(a1.2.2.2.1.1,a1.2.2.2.1.2.1,a1.2.2.2.1.2.2))then decide (a0.2.2.2.2.1=a1.2.2.2.2.1)else false then decide (a0.2.2.2.2.2.1=a1.2.2.2.2.2.1)else false then decide (a0.2.2.2.2.2.2=a1.2.2.2.2.2.2)else false))else(F.graph_same_j1 false)))else(F.graph_same_j1 false)
theorem graph_same_ok (a0:D69)(a1:D69)(A2_:Option Addr)(c3_:Nat)(A12_:Option Addr)(c13_:Nat)(h0_:IntKind.i64.has a0.1)(h1_:IntKind.i64.has a0.2.1)(h4_:IntKind.i64.has a0.2.2.2.1.1)(h5_:IntKind.i64.has a0.2.2.2.1.2.1)(h6_:a0.2.2.2.1.2.2.size≤maxLen)(h7_:a0.2.2.2.2.1.size≤maxLen)(h8_:IntKind.i64.has a0.2.2.2.2.2.1)(h9_:IntKind.i64.has a0.2.2.2.2.2.2)(h10_:IntKind.i64.has a1.1)(h11_:IntKind.i64.has a1.2.1)(h14_:IntKind.i64.has a1.2.2.2.1.1)(h15_:IntKind.i64.has a1.2.2.2.1.2.1)(h16_:a1.2.2.2.1.2.2.size≤maxLen)(h17_:a1.2.2.2.2.1.size≤maxLen)(h18_:IntKind.i64.has a1.2.2.2.2.2.1)(h19_:IntKind.i64.has a1.2.2.2.2.2.2)(r:Bool)(hF:F.graph_same a0 a1=some r):
    A.Ct Tryz.prog 79 [.agg #[.int .i64 a0.1,.int .i64 a0.2.1,.slice A2_ ((a0.2.2.1).length) c3_,.int .i64 a0.2.2.2.1.1,.int .i64 a0.2.2.2.1.2.1,.string a0.2.2.2.1.2.2,.string a0.2.2.2.2.1,.int .i64 a0.2.2.2.2.2.1,.int .i64 a0.2.2.2.2.2.2],.agg #[.int .i64 a1.1,.int .i64 a1.2.1,.slice A12_ ((a1.2.2.1).length) c13_,.int .i64 a1.2.2.2.1.1,.int .i64 a1.2.2.2.1.2.1,.string a1.2.2.2.1.2.2,.string a1.2.2.2.2.1,.int .i64 a1.2.2.2.2.2.1,.int .i64 a1.2.2.2.2.2.2]] [(0,.sh (.slice (Z.Ty.int .i64)) [.slice A2_ (a0.2.2.1).length c3_] a0.2.2.1),(1,.sh (.slice (Z.Ty.int .i64)) [.slice A12_ (a1.2.2.1).length c13_] a1.2.2.1)] [] (fun v H'=>v=.bool r∧H'=[]):=by
 refine A.Ct.enter Tryz.func79 rfl Tryz.ntmps79 rfl fun w0 F0=>?_
 rw[F.graph_same]at hF
 refine A.xl 1 ?_
 refine A.AL.box 2 (cs:=[.int .i64 a0.1,.int .i64 a0.2.1,.slice A2_ ((a0.2.2.1).length) c3_,.int .i64 a0.2.2.2.1.1,.int .i64 a0.2.2.2.1.2.1,.string a0.2.2.2.1.2.2,.string a0.2.2.2.2.1,.int .i64 a0.2.2.2.2.2.1,.int .i64 a0.2.2.2.2.2.2]) fun g1=>?_
 refine A.AL.box 3 (cs:=[.int .i64 a1.1,.int .i64 a1.2.1,.slice A12_ ((a1.2.2.1).length) c13_,.int .i64 a1.2.2.2.1.1,.int .i64 a1.2.2.2.1.2.1,.string a1.2.2.2.1.2.2,.string a1.2.2.2.2.1,.int .i64 a1.2.2.2.2.2.1,.int .i64 a1.2.2.2.2.2.2]) fun g2=>?_
 refine A.q0 [] [] [.n] [] ?_
 refine A.dx 1 ?_
 refine A.AX.join [] [] (fun nl nh=>∃(y3:Bool),nl=[(4,.bool y3)]∧nh=[]∧F.graph_same_j1 y3=some r) ?_ ?_
 ·refine A.xl 0 ?_
  refine A.q0 [2,3] [] [.n,.b 0 0,.n,.b 1 0,.n,.n,.sy .n,.sy (.b 0 1),.sy .n,.sy (.b 1 1),.sy .n,.pk,.n] [(17,.bool (bif decide (a0.1=a1.1)then decide (a0.2.1=a1.2.1)else false))] ?_
  refine A.AL.cnd (j:=17) rfl hF (fun hF=>?_) (fun hF=>?_)
  ·refine A.q0 [2,3] [] [.on .n,.on (.b 0 2),.on .n,.on (.b 1 2)] [(19,.slice A2_ ((a0.2.2.1).length) c3_),(21,.slice A12_ ((a1.2.2.1).length) c13_)] ?_
   refine A.AL.on (dj:=17) rfl rfl ?_
   obtain⟨r4,hv5,hF⟩:=A.bd_some hF
   refine A.AL.call 4 [] (first:=[]) (cap:=[]) cf24 (slices_Equal_int_int_ok a0.2.2.1 a1.2.2.1 A2_ c3_ A12_ c13_ r4 hv5) (.l 0 (.l 1 .nil)) ?_
   rintro _ _ ⟨rfl,rfl⟩
   refine⟨by kernel_rfl,?_⟩
   refine A.q0 [] [] [.n,.n] [(24,.bool r4)] ?_
   refine A.AL.cnd (j:=24) rfl hF (fun hF=>?_) (fun hF=>?_)
   ·refine A.q0 [2,3] [] [.on .n,.on (.b 0 3),.on .n,.on (.b 1 3)] [(26,.agg #[.int .i64 a0.2.2.2.1.1,.int .i64 a0.2.2.2.1.2.1,.string a0.2.2.2.1.2.2]),(28,.agg #[.int .i64 a1.2.2.2.1.1,.int .i64 a1.2.2.2.1.2.1,.string a1.2.2.2.1.2.2])] ?_
    refine A.AL.on (dj:=24) rfl rfl ?_
    refine A.AL.val rfl (fun a w hf hh=>eqagg_eql68 (x:=(a0.2.2.2.1.1,a0.2.2.2.1.2.1,a0.2.2.2.1.2.2)) (y:=(a1.2.2.2.1.1,a1.2.2.2.1.2.1,a1.2.2.2.1.2.2)) (hf.eval rfl) (hf.eval rfl)) ?_
    refine A.q0 [2,3] [] [.n,.n,.sy .n,.sy (.b 0 6),.sy .n,.sy (.b 1 6),.sy .n,.pk,.n,.sy .n,.sy (.b 0 7),.sy .n,.sy (.b 1 7),.sy .n,.pk,.n,.sy .n,.sy (.b 0 8),.sy .n,.sy (.b 1 8),.sy .n,.pk,.n] [(4,.bool (bif bif bif decide ((a0.2.2.2.1.1,a0.2.2.2.1.2.1,a0.2.2.2.1.2.2)=(a1.2.2.2.1.1,a1.2.2.2.1.2.1,a1.2.2.2.1.2.2))then decide (a0.2.2.2.2.1=a1.2.2.2.2.1)else false then decide (a0.2.2.2.2.2.1=a1.2.2.2.2.2.1)else false then decide (a0.2.2.2.2.2.2=a1.2.2.2.2.2.2)else false))] ?_
    refine A.AL.done ?_
    exact A.j ⟨(bif bif bif decide ((a0.2.2.2.1.1,a0.2.2.2.1.2.1,a0.2.2.2.1.2.2)=(a1.2.2.2.1.1,a1.2.2.2.1.2.1,a1.2.2.2.1.2.2))then decide (a0.2.2.2.2.1=a1.2.2.2.2.1)else false then decide (a0.2.2.2.2.2.1=a1.2.2.2.2.2.1)else false then decide (a0.2.2.2.2.2.2=a1.2.2.2.2.2.2)else false),rfl,rfl,hF⟩
   refine A.q0 [] [] [.off,.off,.off,.off,.off,.n,.n,.off,.off,.off,.off,.off,.n,.n,.off,.off,.off,.off,.off,.n,.n,.off,.off,.off,.off,.off,.n,.n] [(4,.bool false)] ?_
   refine A.AL.done ?_
   exact A.j ⟨false,rfl,rfl,hF⟩
  refine A.q0 [] [] [.off,.off,.off,.off,.off,.n,.n,.off,.off,.off,.off,.off,.n,.n,.off,.off,.off,.off,.off,.n,.n,.off,.off,.off,.off,.off,.n,.n,.off,.off,.off,.off,.off,.n,.n] [(4,.bool false)] ?_
  refine A.AL.done ?_
  exact A.j ⟨false,rfl,rfl,hF⟩
 rintro _ _ ⟨y3,rfl,rfl,hF⟩
 rw[F.graph_same_j1]at hF
 obtain rfl:=Option.some.inj hF
 exact A.rt1 [] ⟨rfl,rfl⟩
def F.slices_EqualFunc_api_Node_api_Node_api_Node_api_Node_graph_same_l1 (a0:(List D69))(a1:(List D69)):Nat→Int→Option Bool
 |0,_=>none
 |f+1,y1=>if y1<((a0).length:Int)then((A.ix a0 y1).bind fun x4=>((A.ix a1 y1).bind fun x12=>((F.graph_same (x4.1,x4.2.1,x4.2.2.1,(x4.2.2.2.1.1,x4.2.2.2.1.2.1,x4.2.2.2.1.2.2),x4.2.2.2.2.1,x4.2.2.2.2.2.1,x4.2.2.2.2.2.2) (x12.1,x12.2.1,x12.2.2.1,(x12.2.2.2.1.1,x12.2.2.2.1.2.1,x12.2.2.2.1.2.2),x12.2.2.2.2.1,x12.2.2.2.2.2.1,x12.2.2.2.2.2.2)).bind fun r20=>(if(!r20)=true then(some false)else(A.gd (Z.R64 (y1+1)) ((F.slices_EqualFunc_api_Node_api_Node_api_Node_api_Node_graph_same_l1 a0 a1 f) (y1+1)))))))else(some true)
def F.slices_EqualFunc_api_Node_api_Node_api_Node_api_Node_graph_same (a0:(List D69))(a1:(List D69)):Option Bool:=if((a0).length:Int)≠((a1).length:Int)then(some false)else(F.slices_EqualFunc_api_Node_api_Node_api_Node_api_Node_graph_same_l1 a0 a1 A.FU 0)
theorem slices_EqualFunc_api_Node_api_Node_api_Node_api_Node_graph_same_ok (a0:(List D69))(a1:(List D69))(A0_:Option Addr)(c1_:Nat)(A2_:Option Addr)(c3_:Nat)(r:Bool)(hF:F.slices_EqualFunc_api_Node_api_Node_api_Node_api_Node_graph_same a0 a1=some r):
    A.Ct Tryz.prog 78 [.slice A0_ ((a0).length) c1_,.slice A2_ ((a1).length) c3_,.func (.func 79) #[] #[]] [(0,.ln T69 A0_ c1_ a0),(1,.ln T69 A2_ c3_ a1)] [] (fun v H'=>v=.bool r∧H'=[]):=by
 refine A.Ct.enter Tryz.func78 rfl Tryz.ntmps78 rfl fun w0 F0=>?_
 rw[F.slices_EqualFunc_api_Node_api_Node_api_Node_api_Node_graph_same]at hF
 refine A.xl 1 ?_
 refine A.q0 [] [] [.n] [] ?_
 refine A.dl 3 ?_
 refine A.q0 [] [] [.n,.n,.n,.n,.n] [(14,.bool (decide (((a0).length:Int)≠((a1).length:Int))))] ?_
 refine A.dx 1 ?_
 refine A.AX.cnd rfl hF (fun hb hF=>?_) (fun hb hF=>?_)
 ·refine A.xl 1 ?_
  refine A.q0 [] [] [.n] [(6,.bool false)] ?_
  refine A.dx 1 ?_
  obtain rfl:=Option.some.inj hF
  exact A.rt1 [] ⟨rfl,rfl⟩
 refine A.xl 4 ?_
 refine A.q0 [] [] [.n,.n,.n] [(15,.slice A0_ ((a0).length) c1_),(16,.int .i64 ((a0).length:Int)),(17,.int .i64 0)] ?_
 refine A.dx 2 ?_
 refine A.lp_ [1,2,15,16] [0,1] (fun f nl nh=>∃(y1:Int),nl=[(17,.int .i64 y1)]∧nh=[]∧IntKind.i64.has y1∧F.slices_EqualFunc_api_Node_api_Node_api_Node_api_Node_graph_same_l1 a0 a1 f y1=some r) ⟨0,rfl,rfl,(A.hasl .i64 (0) rfl),hF⟩ ?_
 rintro f3 _ _ ⟨y1,rfl,rfl,hy2,hF⟩
 rcases f3 with _|f3
 ·exact A.no0 hF
 rw[F.slices_EqualFunc_api_Node_api_Node_api_Node_api_Node_graph_same_l1]at hF
 refine A.xl 1 ?_
 refine A.q0 [] [] [.n] [(18,.bool (decide (y1<((a0).length:Int))))] ?_
 refine A.dx 2 ?_
 refine A.AX.cnd rfl hF (fun hb hF=>?_) (fun hb hF=>?_)
 ·refine A.xl 5 ?_
  refine A.q0 [] [] [.n] [(19,.int .i64 y1)] ?_
  obtain⟨x4,hv5,hF⟩:=A.bd_some hF
  refine A.AL.ixl 0 94 hv5 fun ho6=>?_
  intro A7 c8 b9 o10
  refine A.q0 [] [94] [.e 0 0] [(21,.agg #[.int .i64 x4.1,.int .i64 x4.2.1,.slice A7 ((x4.2.2.1).length) c8,.int .i64 x4.2.2.2.1.1,.int .i64 x4.2.2.2.1.2.1,.string x4.2.2.2.1.2.2,.string x4.2.2.2.2.1,.int .i64 x4.2.2.2.2.2.1,.int .i64 x4.2.2.2.2.2.2])] ?_
  refine A.AL.alloc 96 (cs:=[.int .i64 0,.int .i64 0,.slice none 0 0,.int .i64 0,.int .i64 0,.string (ByteArray.mk #[]),.string (ByteArray.mk #[]),.int .i64 0,.int .i64 0]) Tryz.zeroValue70 fun g11=>?_
  refine A.q0 [] [] [.n] [(7,.int .i64 y1)] ?_
  refine A.sw 96 [] [.int .i64 x4.1,.int .i64 x4.2.1,.slice A7 ((x4.2.2.1).length) c8,.int .i64 x4.2.2.2.1.1,.int .i64 x4.2.2.2.1.2.1,.string x4.2.2.2.1.2.2,.string x4.2.2.2.2.1,.int .i64 x4.2.2.2.2.2.1,.int .i64 x4.2.2.2.2.2.2] ?_
  refine A.dl 2 ?_
  refine A.q0 [] [] [.n,.n] [(22,.slice A2_ ((a1).length) c3_),(23,.int .i64 y1)] ?_
  obtain⟨x12,hv13,hF⟩:=A.bd_some hF
  refine A.AL.ixl 1 97 hv13 fun ho14=>?_
  intro A15 c16 b17 o18
  refine A.q0 [] [97] [.e 0 0] [(25,.agg #[.int .i64 x12.1,.int .i64 x12.2.1,.slice A15 ((x12.2.2.1).length) c16,.int .i64 x12.2.2.2.1.1,.int .i64 x12.2.2.2.1.2.1,.string x12.2.2.2.1.2.2,.string x12.2.2.2.2.1,.int .i64 x12.2.2.2.2.2.1,.int .i64 x12.2.2.2.2.2.2])] ?_
  refine A.AL.alloc 99 (cs:=[.int .i64 0,.int .i64 0,.slice none 0 0,.int .i64 0,.int .i64 0,.string (ByteArray.mk #[]),.string (ByteArray.mk #[]),.int .i64 0,.int .i64 0]) Tryz.zeroValue70 fun g19=>?_
  refine A.sw 99 [] [.int .i64 x12.1,.int .i64 x12.2.1,.slice A15 ((x12.2.2.1).length) c16,.int .i64 x12.2.2.2.1.1,.int .i64 x12.2.2.2.1.2.1,.string x12.2.2.2.1.2.2,.string x12.2.2.2.2.1,.int .i64 x12.2.2.2.2.2.1,.int .i64 x12.2.2.2.2.2.2] ?_
  refine A.dl 2 ?_
  refine A.q0 [96,99] [] [.n,.b 0 0,.b 1 0] [(26,.func (.func 79) #[] #[]),(27,.agg #[.int .i64 x4.1,.int .i64 x4.2.1,.slice A7 ((x4.2.2.1).length) c8,.int .i64 x4.2.2.2.1.1,.int .i64 x4.2.2.2.1.2.1,.string x4.2.2.2.1.2.2,.string x4.2.2.2.2.1,.int .i64 x4.2.2.2.2.2.1,.int .i64 x4.2.2.2.2.2.2]),(28,.agg #[.int .i64 x12.1,.int .i64 x12.2.1,.slice A15 ((x12.2.2.1).length) c16,.int .i64 x12.2.2.2.1.1,.int .i64 x12.2.2.2.1.2.1,.string x12.2.2.2.1.2.2,.string x12.2.2.2.2.1,.int .i64 x12.2.2.2.2.2.1,.int .i64 x12.2.2.2.2.2.2])] ?_
  obtain⟨r20,hv21,hF⟩:=A.bd_some hF
  refine A.AL.call 100 [] (first:=[]) (cap:=[]) cf79 (graph_same_ok (x4.1,x4.2.1,x4.2.2.1,(x4.2.2.2.1.1,x4.2.2.2.1.2.1,x4.2.2.2.1.2.2),x4.2.2.2.2.1,x4.2.2.2.2.2.1,x4.2.2.2.2.2.2) (x12.1,x12.2.1,x12.2.2.1,(x12.2.2.2.1.1,x12.2.2.2.1.2.1,x12.2.2.2.1.2.2),x12.2.2.2.2.1,x12.2.2.2.2.2.1,x12.2.2.2.2.2.2) A7 c8 A15 c16 ho6.1 ho6.2.1 ho6.2.2.2.1.1 ho6.2.2.2.1.2.1 ho6.2.2.2.1.2.2 ho6.2.2.2.2.1 ho6.2.2.2.2.2.1 ho6.2.2.2.2.2.2 ho14.1 ho14.2.1 ho14.2.2.2.1.1 ho14.2.2.2.1.2.1 ho14.2.2.2.1.2.2 ho14.2.2.2.2.1 ho14.2.2.2.2.2.1 ho14.2.2.2.2.2.2 r20 hv21) (.s 95 (.s 98 .nil)) ?_
  rintro _ _ ⟨rfl,rfl⟩
  refine⟨by kernel_rfl,?_⟩
  refine A.q0 [] [] [.n] [(30,.bool (!r20))] ?_
  refine A.dx 1 ?_
  refine A.AX.cnb rfl hF (fun hb hF=>?_) (fun hb hF=>?_)
  ·refine A.xl 1 ?_
   refine A.q0 [] [] [.n] [(6,.bool false)] ?_
   refine A.dx 1 ?_
   obtain rfl:=Option.some.inj hF
   exact A.rt1 [] ⟨rfl,rfl⟩
  refine A.xl 3 ?_
  obtain⟨hc22,hF⟩:=A.gd_some hF
  refine A.q [] [] [.n,.n] [Z.R64 (y1+1)] [(17,.int .i64 (y1+1))] hc22 ?_
  refine A.AL.done ?_
  exact A.j ⟨_,Nat.lt_succ_self _,⟨(y1+1),rfl,rfl,(Z.i64_has hc22),hF⟩⟩
 refine A.xl 3 ?_
 refine A.q0 [] [] [.n] [(6,.bool true)] ?_
 refine A.dx 1 ?_
 obtain rfl:=Option.some.inj hF
 exact A.rt1 [] ⟨rfl,rfl⟩
def F.graph_Same (a0:D23)(a1:D23):Option Bool:=(F.slices_EqualFunc_api_Node_api_Node_api_Node_api_Node_graph_same a0 a1).bind fun r3=>(some r3)
theorem graph_Same_ok (a0:D23)(a1:D23)(A0_:Option Addr)(c1_:Nat)(A2_:Option Addr)(c3_:Nat)(r:Bool)(hF:F.graph_Same a0 a1=some r):
    A.Ct Tryz.prog 43 [.agg #[.slice A0_ ((a0).length) c1_],.agg #[.slice A2_ ((a1).length) c3_]] [(0,.sh (.slice T69) [.slice A0_ (a0).length c1_] a0),(1,.sh (.slice T69) [.slice A2_ (a1).length c3_] a1)] [] (fun v H'=>v=.bool r∧H'=[]):=by
 refine A.Ct.enter Tryz.func43 rfl Tryz.ntmps43 rfl fun w0 F0=>?_
 rw[F.graph_Same]at hF
 refine A.xl 1 ?_
 refine A.AL.box 2 (cs:=[.slice A0_ ((a0).length) c1_]) fun g1=>?_
 refine A.AL.box 3 (cs:=[.slice A2_ ((a1).length) c3_]) fun g2=>?_
 refine A.q0 [] [] [.n] [] ?_
 refine A.dl 2 ?_
 refine A.q0 [2,3] [] [.n,.b 0 0,.n,.b 1 0] [(6,.slice A0_ ((a0).length) c1_),(8,.slice A2_ ((a1).length) c3_)] ?_
 obtain⟨r3,hv4,hF⟩:=A.bd_some hF
 refine A.AL.call 4 [] (first:=[]) (cap:=[]) cf78 (slices_EqualFunc_api_Node_api_Node_api_Node_api_Node_graph_same_ok a0 a1 A0_ c1_ A2_ c3_ r3 hv4) (.l 0 (.l 1 .nil)) ?_
 rintro _ _ ⟨rfl,rfl⟩
 refine⟨by kernel_rfl,?_⟩
 refine A.q0 [] [] [.n] [(4,.bool r3)] ?_
 refine A.dx 1 ?_
 obtain rfl:=Option.some.inj hF
 exact A.rt1 [] ⟨rfl,rfl⟩
def F.delta_inputs_1 (a0:D69):Option Bool:=some (decide (a0.2.1≠1))
theorem delta_inputs_1_ok (a0:D69)(A2_:Option Addr)(c3_:Nat)(h0_:IntKind.i64.has a0.1)(h1_:IntKind.i64.has a0.2.1)(h4_:IntKind.i64.has a0.2.2.2.1.1)(h5_:IntKind.i64.has a0.2.2.2.1.2.1)(h6_:a0.2.2.2.1.2.2.size≤maxLen)(h7_:a0.2.2.2.2.1.size≤maxLen)(h8_:IntKind.i64.has a0.2.2.2.2.2.1)(h9_:IntKind.i64.has a0.2.2.2.2.2.2)(r:Bool)(hF:F.delta_inputs_1 a0=some r):
    A.Ct Tryz.prog 81 [.agg #[.int .i64 a0.1,.int .i64 a0.2.1,.slice A2_ ((a0.2.2.1).length) c3_,.int .i64 a0.2.2.2.1.1,.int .i64 a0.2.2.2.1.2.1,.string a0.2.2.2.1.2.2,.string a0.2.2.2.2.1,.int .i64 a0.2.2.2.2.2.1,.int .i64 a0.2.2.2.2.2.2]] [(0,.sh (.slice (Z.Ty.int .i64)) [.slice A2_ (a0.2.2.1).length c3_] a0.2.2.1)] [] (fun v H'=>v=.bool r∧H'=[]):=by
 refine A.Ct.enter Tryz.func81 rfl Tryz.ntmps81 rfl fun w0 F0=>?_
 rw[F.delta_inputs_1]at hF
 refine A.xl 1 ?_
 refine A.AL.box 1 (cs:=[.int .i64 a0.1,.int .i64 a0.2.1,.slice A2_ ((a0.2.2.1).length) c3_,.int .i64 a0.2.2.2.1.1,.int .i64 a0.2.2.2.1.2.1,.string a0.2.2.2.1.2.2,.string a0.2.2.2.2.1,.int .i64 a0.2.2.2.2.2.1,.int .i64 a0.2.2.2.2.2.2]) fun g1=>?_
 refine A.q0 [] [] [.n] [] ?_
 refine A.dl 2 ?_
 refine A.q0 [1] [] [.n,.b 0 1,.n,.n] [(2,.bool (decide (a0.2.1≠1)))] ?_
 refine A.dx 1 ?_
 obtain rfl:=Option.some.inj hF
 exact A.rt1 [] ⟨rfl,rfl⟩
end Go.Proofs.YtocfaokgoflmhaaGreatDoor
end
section
set_option linter.unusedVariables false
set_option linter.unusedSimpArgs false
set_option maxRecDepth 20000
set_option maxHeartbeats 8000000
set_option synthInstance.maxSize 1000000
set_option synthInstance.maxHeartbeats 400000
namespace Go.Proofs.YtocfaokgoflmhaaGreatDoor
open Go.RowKit
def F.slices_IndexFunc_api_Node_api_Node_delta_inputs_1_l1 (a0:(List D69)):Nat→Int→Option Int
 |0,_=>none
 |f+1,y1=>if y1<((a0).length:Int)then((A.ix a0 y1).bind fun x4=>((F.delta_inputs_1 (x4.1,x4.2.1,x4.2.2.1,(x4.2.2.2.1.1,x4.2.2.2.1.2.1,x4.2.2.2.1.2.2),x4.2.2.2.2.1,x4.2.2.2.2.2.1,x4.2.2.2.2.2.2)).bind fun r11=>(if r11=true then(some y1)else(A.gd (Z.R64 (y1+1)) ((F.slices_IndexFunc_api_Node_api_Node_delta_inputs_1_l1 a0 f) (y1+1))))))else(some (-1))
def F.slices_IndexFunc_api_Node_api_Node_delta_inputs_1 (a0:(List D69)):Option Int:=F.slices_IndexFunc_api_Node_api_Node_delta_inputs_1_l1 a0 A.FU 0
theorem slices_IndexFunc_api_Node_api_Node_delta_inputs_1_ok (a0:(List D69))(A0_:Option Addr)(c1_:Nat)(r:Int)(hF:F.slices_IndexFunc_api_Node_api_Node_delta_inputs_1 a0=some r):
    A.Ct Tryz.prog 107 [.slice A0_ ((a0).length) c1_,.func (.func 81) #[] #[]] [(0,.ln T69 A0_ c1_ a0)] [] (fun v H'=>v=.int .i64 r∧H'=[]∧IntKind.i64.has r):=by
 refine A.Ct.enter Tryz.func107 rfl Tryz.ntmps107 rfl fun w0 F0=>?_
 rw[F.slices_IndexFunc_api_Node_api_Node_delta_inputs_1]at hF
 refine A.xl 1 ?_
 refine A.q0 [] [] [.n] [] ?_
 refine A.dl 3 ?_
 refine A.q0 [] [] [.n,.n,.n] [(7,.int .i64 ((a0).length:Int)),(8,.int .i64 0)] ?_
 refine A.dx 2 ?_
 refine A.lp_ [0,1,7] [0] (fun f nl nh=>∃(y1:Int),nl=[(8,.int .i64 y1)]∧nh=[]∧IntKind.i64.has y1∧F.slices_IndexFunc_api_Node_api_Node_delta_inputs_1_l1 a0 f y1=some r) ⟨0,rfl,rfl,(A.hasl .i64 (0) rfl),hF⟩ ?_
 rintro f3 _ _ ⟨y1,rfl,rfl,hy2,hF⟩
 rcases f3 with _|f3
 ·exact A.no0 hF
 rw[F.slices_IndexFunc_api_Node_api_Node_delta_inputs_1_l1]at hF
 refine A.xl 1 ?_
 refine A.q0 [] [] [.n] [(9,.bool (decide (y1<((a0).length:Int))))] ?_
 refine A.dx 2 ?_
 refine A.AX.cnd rfl hF (fun hb hF=>?_) (fun hb hF=>?_)
 ·refine A.xl 5 ?_
  refine A.q0 [] [] [.n,.n] [(5,.int .i64 y1)] ?_
  refine A.dl 2 ?_
  refine A.q0 [] [] [.n,.n,.n] [(11,.func (.func 81) #[] #[]),(12,.slice A0_ ((a0).length) c1_),(13,.int .i64 y1)] ?_
  obtain⟨x4,hv5,hF⟩:=A.bd_some hF
  refine A.AL.ixl 0 85 hv5 fun ho6=>?_
  intro A7 c8 b9 o10
  refine A.q0 [] [85] [.e 0 0] [(15,.agg #[.int .i64 x4.1,.int .i64 x4.2.1,.slice A7 ((x4.2.2.1).length) c8,.int .i64 x4.2.2.2.1.1,.int .i64 x4.2.2.2.1.2.1,.string x4.2.2.2.1.2.2,.string x4.2.2.2.2.1,.int .i64 x4.2.2.2.2.2.1,.int .i64 x4.2.2.2.2.2.2])] ?_
  obtain⟨r11,hv12,hF⟩:=A.bd_some hF
  refine A.AL.call 87 [] (first:=[]) (cap:=[]) cf81 (delta_inputs_1_ok (x4.1,x4.2.1,x4.2.2.1,(x4.2.2.2.1.1,x4.2.2.2.1.2.1,x4.2.2.2.1.2.2),x4.2.2.2.2.1,x4.2.2.2.2.2.1,x4.2.2.2.2.2.2) A7 c8 ho6.1 ho6.2.1 ho6.2.2.2.1.1 ho6.2.2.2.1.2.1 ho6.2.2.2.1.2.2 ho6.2.2.2.2.1 ho6.2.2.2.2.2.1 ho6.2.2.2.2.2.2 r11 hv12) (.s 86 .nil) ?_
  rintro _ _ ⟨rfl,rfl⟩
  refine⟨by kernel_rfl,?_⟩
  refine A.dx 1 ?_
  refine A.AX.cnb rfl hF (fun hb hF=>?_) (fun hb hF=>?_)
  ·refine A.xl 1 ?_
   refine A.q0 [] [] [.n,.n] [(4,.int .i64 y1)] ?_
   refine A.dx 1 ?_
   obtain rfl:=Option.some.inj hF
   exact A.rt1 [] ⟨rfl,rfl,hy2⟩
  refine A.xl 3 ?_
  obtain⟨hc13,hF⟩:=A.gd_some hF
  refine A.q [] [] [.n,.n] [Z.R64 (y1+1)] [(8,.int .i64 (y1+1))] hc13 ?_
  refine A.AL.done ?_
  exact A.j ⟨_,Nat.lt_succ_self _,⟨(y1+1),rfl,rfl,(Z.i64_has hc13),hF⟩⟩
 refine A.xl 3 ?_
 refine A.q0 [] [] [.n] [(4,.int .i64 (-1))] ?_
 refine A.dx 1 ?_
 obtain rfl:=Option.some.inj hF
 exact A.rt1 [] ⟨rfl,rfl,(A.hasl .i64 (-1) rfl)⟩
def F.slices_DeleteFunc_api_Node_api_Node_delta_inputs_1_j1 (k1:(List D69)→Int→Int→Option (List D69))(y11:Int)(xs16:List D69)(y18:Int):Option (List D69):=A.gd (Z.R64 (y11+1)) (k1 xs16 y18 (y11+1))
def F.slices_DeleteFunc_api_Node_api_Node_delta_inputs_1_l2 (a0:(List D69)):Nat→(List D69)→Int→Int→Option (List D69)
 |0,_,_,_=>none
 |f+1,xs7,y9,y11=>if y11<((a0).length:Int)then((A.ix xs7 y11).bind fun x21=>((F.delta_inputs_1 (x21.1,x21.2.1,x21.2.2.1,(x21.2.2.2.1.1,x21.2.2.2.1.2.1,x21.2.2.2.1.2.2),x21.2.2.2.2.1,x21.2.2.2.2.2.1,x21.2.2.2.2.2.2)).bind fun r29=>(if(!r29)=true then((A.ix xs7 y9).bind fun x31=>(A.gd (Z.R64 (y9+1)) (F.slices_DeleteFunc_api_Node_api_Node_delta_inputs_1_j1 (F.slices_DeleteFunc_api_Node_api_Node_delta_inputs_1_l2 a0 f) y11 (xs7.set y9.toNat (x21.1,x21.2.1,x21.2.2.1,(x21.2.2.2.1.1,x21.2.2.2.1.2.1,x21.2.2.2.1.2.2),x21.2.2.2.2.1,x21.2.2.2.2.2.1,x21.2.2.2.2.2.2)) (y9+1))))else(F.slices_DeleteFunc_api_Node_api_Node_delta_inputs_1_j1 (F.slices_DeleteFunc_api_Node_api_Node_delta_inputs_1_l2 a0 f) y11 xs7 y9))))else(A.gd (0≤y9∧y9.toNat≤(xs7).length) (A.gd (0≤y9∧y9.toNat≤(List.take y9.toNat xs7++List.replicate ((xs7).length -y9.toNat) ((0,0,[],(0,0,(ByteArray.mk #[])),(ByteArray.mk #[]),0,0):D69)).length) (some (List.take y9.toNat (List.take y9.toNat xs7++List.replicate ((xs7).length -y9.toNat) ((0,0,[],(0,0,(ByteArray.mk #[])),(ByteArray.mk #[]),0,0):D69))))))
def F.slices_DeleteFunc_api_Node_api_Node_delta_inputs_1 (a0:(List D69)):Option (List D69):=(F.slices_IndexFunc_api_Node_api_Node_delta_inputs_1 a0).bind fun r1=>(if r1= -1 then(some a0)else(A.gd (Z.R64 (r1+1)) (F.slices_DeleteFunc_api_Node_api_Node_delta_inputs_1_l2 a0 A.FU a0 r1 (r1+1))))
theorem slices_DeleteFunc_api_Node_api_Node_delta_inputs_1_ok (a0:(List D69))(A0_:Option Addr)(c1_:Nat)(r:(List D69))(hF:F.slices_DeleteFunc_api_Node_api_Node_delta_inputs_1 a0=some r):
    A.Ct Tryz.prog 80 [.slice A0_ ((a0).length) c1_,.func (.func 81) #[] #[]] [(0,.own T69 70 A0_ c1_ a0)] (Z.obl A0_++[]) (fun v H'=>∃(A0':Option Addr) (c1':Nat),v=.slice A0' ((r).length) c1'∧H'=[(0,.sh (.slice T69) [.slice A0' (r).length c1'] r)]):=by
 refine A.Ct.enter Tryz.func80 rfl Tryz.ntmps80 rfl fun w0 F0=>?_
 rw[F.slices_DeleteFunc_api_Node_api_Node_delta_inputs_1]at hF
 refine A.xl 1 ?_
 refine A.q0 [] [] [.n] [] ?_
 refine A.dl 2 ?_
 refine A.q0 [] [] [.n,.n] [(8,.slice A0_ ((a0).length) c1_),(9,.func (.func 81) #[] #[])] ?_
 obtain⟨r1,hv2,hF⟩:=A.bd_some hF
 refine A.AL.call 1 [] (first:=[]) (cap:=[]) cf107 (slices_IndexFunc_api_Node_api_Node_delta_inputs_1_ok a0 A0_ c1_ r1 hv2) (.o 0 .nil) ?_
 rintro _ _ ⟨rfl,rfl,hr3⟩
 refine⟨by kernel_rfl,?_⟩
 refine A.q0 [] [] [.n] [(5,.int .i64 r1)] ?_
 refine A.dl 3 ?_
 refine A.q0 [] [] [.n,.n] [(12,.bool (decide (r1= -1)))] ?_
 refine A.dx 1 ?_
 refine A.AX.cnd rfl hF (fun hb hF=>?_) (fun hb hF=>?_)
 ·refine A.xl 1 ?_
  refine A.q0 [] [] [.n,.n] [(4,.slice A0_ ((a0).length) c1_)] ?_
  refine A.dx 1 ?_
  obtain rfl:=Option.some.inj hF
  refine A.frz 0 [] ?_
  exact A.rt1 [(0,0)] ⟨A0_,c1_,rfl,rfl⟩
 refine A.xl 4 ?_
 obtain⟨hc4,hF⟩:=A.gd_some hF
 refine A.q [] [] [.n,.n,.n] [Z.R64 (r1+1)] [(6,.int .i64 (r1+1))] hc4 ?_
 refine A.dx 2 ?_
 refine A.lp_ [0,1] [] (fun f nl nh=>∃(xs7:List D69),∃(y9:Int),∃(y11:Int),nl=[(5,.int .i64 y9),(6,.int .i64 y11)]∧nh=[(0,.own T69 70 A0_ c1_ xs7)]∧(a0).length=xs7.length∧IntKind.i64.has y9∧IntKind.i64.has y11∧F.slices_DeleteFunc_api_Node_api_Node_delta_inputs_1_l2 a0 f xs7 y9 y11=some r) ⟨a0,r1,(r1+1),rfl,rfl,rfl,hr3,(Z.i64_has hc4),hF⟩ ?_
 rintro f13 _ _ ⟨xs7,y9,y11,rfl,rfl,hn8,hy10,hy12,hF⟩
 rcases f13 with _|f13
 ·exact A.no0 hF
 rw[F.slices_DeleteFunc_api_Node_api_Node_delta_inputs_1_l2]at hF
 refine A.xl 2 ?_
 refine A.q0 [] [] [.n,.n,.n,.n] [(19,.bool (decide (y11<((a0).length:Int))))] ?_
 refine A.dx 1 ?_
 refine A.AX.cnd rfl hF (fun hb hF=>?_) (fun hb hF=>?_)
 ·refine A.xx 2 ?_
  refine A.AX.join [0,1,6] [] (fun nl nh=>∃(xs16:List D69),∃(y18:Int),nl=[(5,.int .i64 y18)]∧nh=[(0,.own T69 70 A0_ c1_ xs16)]∧(a0).length=xs16.length∧IntKind.i64.has y18∧F.slices_DeleteFunc_api_Node_api_Node_delta_inputs_1_j1 (F.slices_DeleteFunc_api_Node_api_Node_delta_inputs_1_l2 a0 f13) y11 xs16 y18=some r) ?_ ?_
  ·refine A.xl 2 ?_
   refine A.q0 [] [] [.n,.n] [(22,.slice A0_ ((a0).length) c1_),(23,.int .i64 y11)] ?_
   refine A.cst 22 (Z.slice_n (show(a0).length=(xs7).length from hn8)) ?_
   obtain⟨x21,hv22,hF⟩:=A.bd_some hF
   refine A.AL.ixo 0 133 hv22 fun ho23=>?_
   intro A24 c25 g26 hA27
   refine A.q0 [] [133] [.e 0 0] [(25,.agg #[.int .i64 x21.1,.int .i64 x21.2.1,.slice A24 ((x21.2.2.1).length) c25,.int .i64 x21.2.2.2.1.1,.int .i64 x21.2.2.2.1.2.1,.string x21.2.2.2.1.2.2,.string x21.2.2.2.2.1,.int .i64 x21.2.2.2.2.2.1,.int .i64 x21.2.2.2.2.2.2])] ?_
   refine A.AL.alloc 135 (cs:=[.int .i64 0,.int .i64 0,.slice none 0 0,.int .i64 0,.int .i64 0,.string (ByteArray.mk #[]),.string (ByteArray.mk #[]),.int .i64 0,.int .i64 0]) Tryz.zeroValue70 fun g28=>?_
   refine A.sw 135 [] [.int .i64 x21.1,.int .i64 x21.2.1,.slice A24 ((x21.2.2.1).length) c25,.int .i64 x21.2.2.2.1.1,.int .i64 x21.2.2.2.1.2.1,.string x21.2.2.2.1.2.2,.string x21.2.2.2.2.1,.int .i64 x21.2.2.2.2.2.1,.int .i64 x21.2.2.2.2.2.2] ?_
   refine A.dl 2 ?_
   refine A.q0 [135] [] [.n,.b 0 0] [(26,.func (.func 81) #[] #[]),(27,.agg #[.int .i64 x21.1,.int .i64 x21.2.1,.slice A24 ((x21.2.2.1).length) c25,.int .i64 x21.2.2.2.1.1,.int .i64 x21.2.2.2.1.2.1,.string x21.2.2.2.1.2.2,.string x21.2.2.2.2.1,.int .i64 x21.2.2.2.2.2.1,.int .i64 x21.2.2.2.2.2.2])] ?_
   obtain⟨r29,hv30,hF⟩:=A.bd_some hF
   refine A.AL.call 136 [] (first:=[]) (cap:=[]) cf81 (delta_inputs_1_ok (x21.1,x21.2.1,x21.2.2.1,(x21.2.2.2.1.1,x21.2.2.2.1.2.1,x21.2.2.2.1.2.2),x21.2.2.2.2.1,x21.2.2.2.2.2.1,x21.2.2.2.2.2.2) A24 c25 ho23.1 ho23.2.1 ho23.2.2.2.1.1 ho23.2.2.2.1.2.1 ho23.2.2.2.1.2.2 ho23.2.2.2.2.1 ho23.2.2.2.2.2.1 ho23.2.2.2.2.2.2 r29 hv30) (.s 134 .nil) ?_
   rintro _ _ ⟨rfl,rfl⟩
   refine⟨by kernel_rfl,?_⟩
   refine A.q0 [] [] [.n] [(29,.bool (!r29))] ?_
   refine A.dx 1 ?_
   refine A.AX.cnb rfl hF (fun hb hF=>?_) (fun hb hF=>?_)
   ·refine A.xl 1 ?_
    refine A.q0 [135] [] [.n,.n,.b 0 0] [(30,.slice A0_ ((a0).length) c1_),(31,.int .i64 y9),(32,.agg #[.int .i64 x21.1,.int .i64 x21.2.1,.slice A24 ((x21.2.2.1).length) c25,.int .i64 x21.2.2.2.1.1,.int .i64 x21.2.2.2.1.2.1,.string x21.2.2.2.1.2.2,.string x21.2.2.2.2.1,.int .i64 x21.2.2.2.2.2.1,.int .i64 x21.2.2.2.2.2.2])] ?_
    refine A.cst 30 (Z.slice_n (show(a0).length=(xs7).length from hn8)) ?_
    obtain⟨x31,hv32,hF⟩:=A.bd_some hF
    refine A.AL.ixo 0 176 hv32 fun ho33=>?_
    intro A34 c35 g36 hA37
    refine A.AL.setel 0 176 [133,176] (o:=0) (m:=9) (t:=T69) (new:=[.int .i64 x21.1,.int .i64 x21.2.1,.slice A24 ((x21.2.2.1).length) c25,.int .i64 x21.2.2.2.1.1,.int .i64 x21.2.2.2.1.2.1,.string x21.2.2.2.1.2.2,.string x21.2.2.2.2.1,.int .i64 x21.2.2.2.2.2.1,.int .i64 x21.2.2.2.2.2.2]) (es:=[.int .i64 x31.1,.int .i64 x31.2.1,.slice A34 ((x31.2.2.1).length) c35,.int .i64 x31.2.2.2.1.1,.int .i64 x31.2.2.2.1.2.1,.string x31.2.2.2.1.2.2,.string x31.2.2.2.2.1,.int .i64 x31.2.2.2.2.2.1,.int .i64 x31.2.2.2.2.2.2]) (x21.1,x21.2.1,x21.2.2.1,(x21.2.2.2.1.1,x21.2.2.2.1.2.1,x21.2.2.2.1.2.2),x21.2.2.2.2.1,x21.2.2.2.2.2.1,x21.2.2.2.2.2.2) hv32 hA37 ⟨⟨rfl,ho23.1⟩,⟨rfl,ho23.2.1⟩,.inl ⟨134,rfl⟩,⟨⟨rfl,ho23.2.2.2.1.1⟩,⟨rfl,ho23.2.2.2.1.2.1⟩,⟨rfl,ho23.2.2.2.1.2.2⟩⟩,⟨rfl,ho23.2.2.2.2.1⟩,⟨rfl,ho23.2.2.2.2.2.1⟩,⟨rfl,ho23.2.2.2.2.2.2⟩⟩ ?_
    refine A.dl 1 ?_
    obtain⟨hc38,hF⟩:=A.gd_some hF
    refine A.q [] [] [.n,.n,.n] [Z.R64 (y9+1)] [(5,.int .i64 (y9+1))] hc38 ?_
    refine A.de 1 ?_
    exact A.j ⟨(xs7.set y9.toNat (x21.1,x21.2.1,x21.2.2.1,(x21.2.2.2.1.1,x21.2.2.2.1.2.1,x21.2.2.2.1.2.2),x21.2.2.2.2.1,x21.2.2.2.2.2.1,x21.2.2.2.2.2.2)),(y9+1),rfl,rfl,(by rw[List.length_set];exact hn8),(Z.i64_has hc38),hF⟩
   refine A.xe 2 ?_
   exact A.j ⟨xs7,y9,rfl,rfl,hn8,hy10,hF⟩
  rintro _ _ ⟨xs16,y18,rfl,rfl,hn17,hy19,hF⟩
  rw[F.slices_DeleteFunc_api_Node_api_Node_delta_inputs_1_j1]at hF
  refine A.xl 0 ?_
  obtain⟨hc20,hF⟩:=A.gd_some hF
  refine A.q [] [] [.n,.n,.n] [Z.R64 (y11+1)] [(6,.int .i64 (y11+1))] hc20 ?_
  refine A.AL.done ?_
  exact A.j ⟨_,Nat.lt_succ_self _,⟨xs16,y18,(y11+1),rfl,rfl,hn17,hy19,(Z.i64_has hc20),hF⟩⟩
 refine A.xl 3 ?_
 refine A.q0 [] [] [.n,.n] [(36,.slice A0_ ((a0).length) c1_),(37,.int .i64 y9)] ?_
 refine A.cst 36 (Z.slice_n (show(a0).length=(xs7).length from hn8)) ?_
 obtain⟨hc39,hF⟩:=A.gd_some hF
 refine A.AL.clr 0 [] (t:=T69) (u:=y9.toNat) (zs:=[.int .i64 0,.int .i64 0,.slice none 0 0,.int .i64 0,.int .i64 0,.string (ByteArray.mk #[]),.string (ByteArray.mk #[]),.int .i64 0,.int .i64 0]) ((0,0,[],(0,0,(ByteArray.mk #[])),(ByteArray.mk #[]),0,0):D69) (Int.toNat_of_nonneg hc39.1).symm hc39.2 Tryz.zeroValue70 ⟨⟨rfl,by decide⟩,⟨rfl,by decide⟩,(.inr ⟨rfl,rfl⟩),⟨⟨rfl,by decide⟩,⟨rfl,by decide⟩,⟨rfl,by decide⟩⟩,⟨rfl,by decide⟩,⟨rfl,by decide⟩,⟨rfl,by decide⟩⟩ ?_ Tryz.sizeOf70
 refine A.dl 2 ?_
 refine A.q0 [] [] [.n,.n] [(39,.slice A0_ ((a0).length) c1_),(40,.int .i64 y9)] ?_
 refine A.cst 39 (Z.slice_n (show(a0).length=(List.take y9.toNat xs7++List.replicate ((xs7).length -y9.toNat) ((0,0,[],(0,0,(ByteArray.mk #[])),(ByteArray.mk #[]),0,0):D69)).length from(Eq.trans hn8 (by rw[List.length_append,List.length_take,List.length_replicate];omega)))) ?_
 obtain⟨hc40,hF⟩:=A.gd_some hF
 refine A.AL.cuto 0 [] (v:=y9.toNat) (Int.toNat_of_nonneg hc40.1).symm hc40.2 ?_
 refine A.q0 [] [] [.n] [(4,.slice A0_ ((List.take y9.toNat (List.take y9.toNat xs7++List.replicate ((xs7).length -y9.toNat) ((0,0,[],(0,0,(ByteArray.mk #[])),(ByteArray.mk #[]),0,0):D69))).length) c1_)] ?_
 refine A.dx 1 ?_
 obtain rfl:=Option.some.inj hF
 refine A.frz 0 [] ?_
 exact A.rt1 [(0,0)] ⟨A0_,c1_,rfl,rfl⟩
def F.delta_inputs (a0:D23):Option (List D69):=(F.slices_Clone_api_Node_api_Node a0).bind fun r2=>((F.slices_DeleteFunc_api_Node_api_Node_delta_inputs_1 r2).bind fun r6=>(some r6))
theorem delta_inputs_ok (a0:D23)(A0_:Option Addr)(c1_:Nat)(r:(List D69))(hF:F.delta_inputs a0=some r):
    A.Ct Tryz.prog 44 [.agg #[.slice A0_ ((a0).length) c1_]] [(0,.sh (.slice T69) [.slice A0_ (a0).length c1_] a0)] [] (fun v H'=>∃(A0':Option Addr) (c1':Nat),v=.slice A0' ((r).length) c1'∧H'=[(0,.sh (.slice T69) [.slice A0' (r).length c1'] r)]):=by
 refine A.Ct.enter Tryz.func44 rfl Tryz.ntmps44 rfl fun w0 F0=>?_
 rw[F.delta_inputs]at hF
 refine A.xl 1 ?_
 refine A.AL.box 1 (cs:=[.slice A0_ ((a0).length) c1_]) fun g1=>?_
 refine A.q0 [] [] [.n] [] ?_
 refine A.dl 2 ?_
 refine A.q0 [1] [] [.n,.b 0 0] [(4,.slice A0_ ((a0).length) c1_)] ?_
 obtain⟨r2,hv3,hF⟩:=A.bd_some hF
 refine A.AL.call 2 [] (first:=[]) (cap:=[]) cf75 (slices_Clone_api_Node_api_Node_ok a0 A0_ c1_ r2 hv3) (.l 0 .nil) ?_
 rintro _ _ ⟨A4,c5,rfl,rfl⟩
 refine⟨by kernel_rfl,?_⟩
 obtain⟨r6,hv7,hF⟩:=A.bd_some hF
 refine A.AL.call 42 [] (first:=[]) (cap:=[]) cf80 (slices_DeleteFunc_api_Node_api_Node_delta_inputs_1_ok r2 A4 c5 r6 hv7) (.m 2 .nil) ?_
 rintro _ _ ⟨A8,c9,rfl,rfl⟩
 refine⟨by kernel_rfl,?_⟩
 refine A.q0 [] [] [.n] [(2,.slice A8 ((r6).length) c9)] ?_
 refine A.dx 1 ?_
 obtain rfl:=Option.some.inj hF
 exact A.rt1 [(0,42)] ⟨A8,c9,rfl,rfl⟩
def F.delta_sameNode (a0:D69)(a1:D69):Option Bool:=(F.graph_Same [(a0.1,a0.2.1,a0.2.2.1,(a0.2.2.2.1.1,a0.2.2.2.1.2.1,a0.2.2.2.1.2.2),a0.2.2.2.2.1,a0.2.2.2.2.2.1,a0.2.2.2.2.2.2)] [(a1.1,a1.2.1,a1.2.2.1,(a1.2.2.2.1.1,a1.2.2.2.1.2.1,a1.2.2.2.1.2.2),a1.2.2.2.2.1,a1.2.2.2.2.2.1,a1.2.2.2.2.2.2)]).bind fun r5=>(some r5)
theorem delta_sameNode_ok (a0:D69)(a1:D69)(A2_:Option Addr)(c3_:Nat)(A12_:Option Addr)(c13_:Nat)(h0_:IntKind.i64.has a0.1)(h1_:IntKind.i64.has a0.2.1)(h4_:IntKind.i64.has a0.2.2.2.1.1)(h5_:IntKind.i64.has a0.2.2.2.1.2.1)(h6_:a0.2.2.2.1.2.2.size≤maxLen)(h7_:a0.2.2.2.2.1.size≤maxLen)(h8_:IntKind.i64.has a0.2.2.2.2.2.1)(h9_:IntKind.i64.has a0.2.2.2.2.2.2)(h10_:IntKind.i64.has a1.1)(h11_:IntKind.i64.has a1.2.1)(h14_:IntKind.i64.has a1.2.2.2.1.1)(h15_:IntKind.i64.has a1.2.2.2.1.2.1)(h16_:a1.2.2.2.1.2.2.size≤maxLen)(h17_:a1.2.2.2.2.1.size≤maxLen)(h18_:IntKind.i64.has a1.2.2.2.2.2.1)(h19_:IntKind.i64.has a1.2.2.2.2.2.2)(r:Bool)(hF:F.delta_sameNode a0 a1=some r):
    A.Ct Tryz.prog 45 [.agg #[.int .i64 a0.1,.int .i64 a0.2.1,.slice A2_ ((a0.2.2.1).length) c3_,.int .i64 a0.2.2.2.1.1,.int .i64 a0.2.2.2.1.2.1,.string a0.2.2.2.1.2.2,.string a0.2.2.2.2.1,.int .i64 a0.2.2.2.2.2.1,.int .i64 a0.2.2.2.2.2.2],.agg #[.int .i64 a1.1,.int .i64 a1.2.1,.slice A12_ ((a1.2.2.1).length) c13_,.int .i64 a1.2.2.2.1.1,.int .i64 a1.2.2.2.1.2.1,.string a1.2.2.2.1.2.2,.string a1.2.2.2.2.1,.int .i64 a1.2.2.2.2.2.1,.int .i64 a1.2.2.2.2.2.2]] [(0,.sh (.slice (Z.Ty.int .i64)) [.slice A2_ (a0.2.2.1).length c3_] a0.2.2.1),(1,.sh (.slice (Z.Ty.int .i64)) [.slice A12_ (a1.2.2.1).length c13_] a1.2.2.1)] [] (fun v H'=>v=.bool r∧H'=[]):=by
 refine A.Ct.enter Tryz.func45 rfl Tryz.ntmps45 rfl fun w0 F0=>?_
 rw[F.delta_sameNode]at hF
 refine A.xl 1 ?_
 refine A.AL.box 2 (cs:=[.int .i64 a0.1,.int .i64 a0.2.1,.slice A2_ ((a0.2.2.1).length) c3_,.int .i64 a0.2.2.2.1.1,.int .i64 a0.2.2.2.1.2.1,.string a0.2.2.2.1.2.2,.string a0.2.2.2.2.1,.int .i64 a0.2.2.2.2.2.1,.int .i64 a0.2.2.2.2.2.2]) fun g1=>?_
 refine A.AL.box 3 (cs:=[.int .i64 a1.1,.int .i64 a1.2.1,.slice A12_ ((a1.2.2.1).length) c13_,.int .i64 a1.2.2.2.1.1,.int .i64 a1.2.2.2.1.2.1,.string a1.2.2.2.1.2.2,.string a1.2.2.2.2.1,.int .i64 a1.2.2.2.2.2.1,.int .i64 a1.2.2.2.2.2.2]) fun g2=>?_
 refine A.q0 [] [] [.n] [] ?_
 refine A.dl 2 ?_
 refine A.q0 [2] [] [.b 0 0] [(5,.agg #[.int .i64 a0.1,.int .i64 a0.2.1,.slice A2_ ((a0.2.2.1).length) c3_,.int .i64 a0.2.2.2.1.1,.int .i64 a0.2.2.2.1.2.1,.string a0.2.2.2.1.2.2,.string a0.2.2.2.2.1,.int .i64 a0.2.2.2.2.2.1,.int .i64 a0.2.2.2.2.2.2])] ?_
 refine A.AL.bsl 4 (ty:=T69) (cs:=[.int .i64 a0.1,.int .i64 a0.2.1,.slice A2_ ((a0.2.2.1).length) c3_,.int .i64 a0.2.2.2.1.1,.int .i64 a0.2.2.2.1.2.1,.string a0.2.2.2.1.2.2,.string a0.2.2.2.2.1,.int .i64 a0.2.2.2.2.2.1,.int .i64 a0.2.2.2.2.2.2]) [(a0.1,a0.2.1,a0.2.2.1,(a0.2.2.2.1.1,a0.2.2.2.1.2.1,a0.2.2.2.1.2.2),a0.2.2.2.2.1,a0.2.2.2.2.2.1,a0.2.2.2.2.2.2)] ⟨⟨⟨rfl,h0_⟩,⟨rfl,h1_⟩,.inl ⟨0,rfl⟩,⟨⟨rfl,h4_⟩,⟨rfl,h5_⟩,⟨rfl,h6_⟩⟩,⟨rfl,h7_⟩,⟨rfl,h8_⟩,⟨rfl,h9_⟩⟩,rfl⟩ (fun g3=>?_) Tryz.zeroValue70 Tryz.sizeOf70
 refine A.q0 [3] [] [.n,.b 0 0] [(7,.agg #[.slice (some ⟨g3,0,none⟩) 1 1]),(8,.agg #[.int .i64 a1.1,.int .i64 a1.2.1,.slice A12_ ((a1.2.2.1).length) c13_,.int .i64 a1.2.2.2.1.1,.int .i64 a1.2.2.2.1.2.1,.string a1.2.2.2.1.2.2,.string a1.2.2.2.2.1,.int .i64 a1.2.2.2.2.2.1,.int .i64 a1.2.2.2.2.2.2])] ?_
 refine A.AL.bsl 5 (ty:=T69) (cs:=[.int .i64 a1.1,.int .i64 a1.2.1,.slice A12_ ((a1.2.2.1).length) c13_,.int .i64 a1.2.2.2.1.1,.int .i64 a1.2.2.2.1.2.1,.string a1.2.2.2.1.2.2,.string a1.2.2.2.2.1,.int .i64 a1.2.2.2.2.2.1,.int .i64 a1.2.2.2.2.2.2]) [(a1.1,a1.2.1,a1.2.2.1,(a1.2.2.2.1.1,a1.2.2.2.1.2.1,a1.2.2.2.1.2.2),a1.2.2.2.2.1,a1.2.2.2.2.2.1,a1.2.2.2.2.2.2)] ⟨⟨⟨rfl,h10_⟩,⟨rfl,h11_⟩,.inl ⟨1,rfl⟩,⟨⟨rfl,h14_⟩,⟨rfl,h15_⟩,⟨rfl,h16_⟩⟩,⟨rfl,h17_⟩,⟨rfl,h18_⟩,⟨rfl,h19_⟩⟩,rfl⟩ (fun g4=>?_) Tryz.zeroValue70 Tryz.sizeOf70
 refine A.q0 [] [] [.n] [(10,.agg #[.slice (some ⟨g4,0,none⟩) 1 1])] ?_
 refine A.frz 4 [] ?_
 refine A.frz 5 [] ?_
 obtain⟨r5,hv6,hF⟩:=A.bd_some hF
 refine A.AL.call 6 [] (first:=[]) (cap:=[]) cf43 (graph_Same_ok [(a0.1,a0.2.1,a0.2.2.1,(a0.2.2.2.1.1,a0.2.2.2.1.2.1,a0.2.2.2.1.2.2),a0.2.2.2.2.1,a0.2.2.2.2.2.1,a0.2.2.2.2.2.2)] [(a1.1,a1.2.1,a1.2.2.1,(a1.2.2.2.1.1,a1.2.2.2.1.2.1,a1.2.2.2.1.2.2),a1.2.2.2.2.1,a1.2.2.2.2.2.1,a1.2.2.2.2.2.2)] (some ⟨g3,0,none⟩) 1 (some ⟨g4,0,none⟩) 1 r5 hv6) (.s 4 (.s 5 .nil)) ?_
 rintro _ _ ⟨rfl,rfl⟩
 refine⟨by kernel_rfl,?_⟩
 refine A.q0 [] [] [.n] [(4,.bool r5)] ?_
 refine A.dx 1 ?_
 obtain rfl:=Option.some.inj hF
 exact A.rt1 [] ⟨rfl,rfl⟩
end Go.Proofs.YtocfaokgoflmhaaGreatDoor
end
section
set_option linter.unusedVariables false
set_option linter.unusedSimpArgs false
set_option maxRecDepth 20000
set_option maxHeartbeats 8000000
set_option synthInstance.maxSize 1000000
set_option synthInstance.maxHeartbeats 400000
namespace Go.Proofs.YtocfaokgoflmhaaGreatDoor
open Go.RowKit
def F.delta_Diff_j1 (k4:(List Int)→Int→Option (D27×Int))(y30:Int)(xs35:List Int):Option (D27×Int):=A.gd (Z.R64 (y30+1)) (k4 xs35 (y30+1))
def F.delta_Diff_j2 (k5:(List D69)→Int→Option (D27×Int))(y62:Int)(xs67:List D69):Option (D27×Int):=A.gd (Z.R64 (y62+1)) (k5 xs67 (y62+1))
def F.delta_Diff_j3 (k5:(List D69)→Int→Option (D27×Int))(xs61:List D69)(y62:Int)(x69:D69)(y83:Bool):Option (D27×Int):=if y83=true then(A.gd ((List.length (α:=D69) xs61+List.length (α:=D69) [(x69.1,x69.2.1,x69.2.2.1,(x69.2.2.2.1.1,x69.2.2.2.1.2.1,x69.2.2.2.1.2.2),x69.2.2.2.2.1,x69.2.2.2.2.2.1,x69.2.2.2.2.2.2)])*104≤140737488355328) (F.delta_Diff_j2 k5 y62 (xs61++[(x69.1,x69.2.1,x69.2.2.1,(x69.2.2.2.1.1,x69.2.2.2.1.2.1,x69.2.2.2.1.2.2),x69.2.2.2.2.1,x69.2.2.2.2.2.1,x69.2.2.2.2.2.2)])))else(F.delta_Diff_j2 k5 y62 xs61)
def F.delta_Diff_l4 (r20:(List (Int×D69)))(xs29:List Int)(r55:D23):Nat→(List D69)→Int→Option (D27×Int)
 |0,_,_=>none
 |f+1,xs61,y62=>if y62<((r55).length:Int)then((A.ix r55 y62).bind fun x69=>(A.lt (Z.mget ((0,0,[],(0,0,(ByteArray.mk #[])),(ByteArray.mk #[]),0,0):D69) r20 x69.1) fun x77=>(if(!(Z.mhas r20 x69.1))=true then(F.delta_Diff_j3 (F.delta_Diff_l4 r20 xs29 r55 f) xs61 y62 x69 true)else((F.delta_sameNode (x77.1,x77.2.1,x77.2.2.1,(x77.2.2.2.1.1,x77.2.2.2.1.2.1,x77.2.2.2.1.2.2),x77.2.2.2.2.1,x77.2.2.2.2.2.1,x77.2.2.2.2.2.2) (x69.1,x69.2.1,x69.2.2.1,(x69.2.2.2.1.1,x69.2.2.2.1.2.1,x69.2.2.2.1.2.2),x69.2.2.2.2.1,x69.2.2.2.2.2.1,x69.2.2.2.2.2.2)).bind fun r88=>(F.delta_Diff_j3 (F.delta_Diff_l4 r20 xs29 r55 f) xs61 y62 x69 (!r88))))))else(some ((xs29,xs61,[]),0))
def F.delta_Diff_l5 (a0:D23)(a1:D23)(r20:(List (Int×D69)))(r23:(List (Int×D69))):Nat→(List Int)→Int→Option (D27×Int)
 |0,_,_=>none
 |f+1,xs29,y30=>if y30<((a0).length:Int)then((A.ix a0 y30).bind fun x37=>(A.lt (Z.mget ((0,0,[],(0,0,(ByteArray.mk #[])),(ByteArray.mk #[]),0,0):D69) r23 x37.1) fun x45=>(if(!(Z.mhas r23 x37.1))=true then(A.gd ((List.length (α:=Int) xs29+List.length (α:=Int) [x37.1])*8≤140737488355328) (F.delta_Diff_j1 (F.delta_Diff_l5 a0 a1 r20 r23 f) y30 (xs29++[x37.1])))else(F.delta_Diff_j1 (F.delta_Diff_l5 a0 a1 r20 r23 f) y30 xs29))))else((F.graph_Clone a1).bind fun r55=>(F.delta_Diff_l4 r20 xs29 r55 A.FU [] 0))
def F.delta_Diff (a0:D23)(a1:D23):Option (D27×Int):=(F.graph_Check a0).bind fun r4=>(if r4≠0 then(some (([],[],[]),r4))else((F.graph_Check a1).bind fun r7=>(if r7≠0 then(some (([],[],[]),r7))else((F.delta_inputs a0).bind fun r10=>((F.delta_inputs a1).bind fun r14=>((F.graph_Same r10 r14).bind fun r18=>(if(!r18)=true then(some (([],[],[]),90))else((F.delta_byId a0).bind fun r20=>((F.delta_byId a1).bind fun r23=>(F.delta_Diff_l5 a0 a1 r20 r23 A.FU [] 0))))))))))
theorem delta_Diff_ok (a0:D23)(a1:D23)(A0_:Option Addr)(c1_:Nat)(A2_:Option Addr)(c3_:Nat)(r:D27×Int)(hF:F.delta_Diff a0 a1=some r):
    A.Ct Tryz.prog 15 [.agg #[.slice A0_ ((a0).length) c1_],.agg #[.slice A2_ ((a1).length) c3_]] [(0,.sh (.slice T69) [.slice A0_ (a0).length c1_] a0),(1,.sh (.slice T69) [.slice A2_ (a1).length c3_] a1),(2,.el none 0 0 A.tabF),(3,.el none 1 0 A.tabA)] [] (fun v H'=>∃(A0':Option Addr) (c1':Nat) (A2':Option Addr) (c3':Nat) (A4':Option Addr) (c5':Nat),v=.tuple #[.agg #[.slice A0' ((r.1.1).length) c1',.slice A2' ((r.1.2.1).length) c3',.slice A4' ((r.1.2.2).length) c5'],.int .i64 r.2]∧H'=[(0,.sh (.slice (Z.Ty.int .i64)) [.slice A0' (r.1.1).length c1'] r.1.1),(1,.sh (.slice T69) [.slice A2' (r.1.2.1).length c3'] r.1.2.1),(2,.sh (.slice T82) [.slice A4' (r.1.2.2).length c5'] r.1.2.2)]∧IntKind.i64.has r.2):=by
 refine A.Ct.enter Tryz.func15 rfl Tryz.ntmps15 rfl fun w0 F0=>?_
 rw[F.delta_Diff]at hF
 refine A.xl 1 ?_
 refine A.AL.box 4 (cs:=[.slice A0_ ((a0).length) c1_]) fun g1=>?_
 refine A.AL.box 5 (cs:=[.slice A2_ ((a1).length) c3_]) fun g2=>?_
 refine A.AL.alloc 6 (cs:=[.slice none 0 0,.slice none 0 0,.slice none 0 0]) Tryz.zeroValue28 fun g3=>?_
 refine A.q0 [] [] [.n] [] ?_
 refine A.dl 3 ?_
 refine A.q0 [4] [] [.b 0 0] [(19,.agg #[.slice A0_ ((a0).length) c1_])] ?_
 obtain⟨r4,hv5,hF⟩:=A.bd_some hF
 refine A.AL.call 7 [] (first:=[]) (cap:=[]) cf36 (graph_Check_ok a0 A0_ c1_ r4 hv5) (.s 0 (.s 2 (.s 3 .nil))) ?_
 rintro _ _ ⟨rfl,rfl,hr6⟩
 refine⟨by kernel_rfl,?_⟩
 refine A.q0 [] [] [.n] [(6,.int .i64 r4)] ?_
 refine A.dl 2 ?_
 refine A.q0 [] [] [.n,.n] [(22,.bool (decide (r4≠0)))] ?_
 refine A.dx 1 ?_
 refine A.AX.cnd rfl hF (fun hb hF=>?_) (fun hb hF=>?_)
 ·refine A.xl 1 ?_
  refine A.q0 [] [] [.n,.n] [(23,.agg #[.slice none 0 0,.slice none 0 0,.slice none 0 0]),(24,.int .i64 r4)] ?_
  refine A.sw 6 [] [.slice none 0 0,.slice none 0 0,.slice none 0 0] ?_
  refine A.q0 [] [] [.n] [(5,.int .i64 r4)] ?_
  refine A.dx 1 ?_
  obtain rfl:=Option.some.inj hF
  refine A.snil 47 (Z.Ty.int .i64) ?_
  refine A.snil 48 T69 ?_
  refine A.snil 49 T82 ?_
  exact A.AX.ret [(0,47),(1,48),(2,49)] (.tuple #[.agg #[.slice none 0 0,.slice none 0 0,.slice none 0 0],.int .i64 r4]) (fun a w hf hh=>Z.resv2 rfl (Z.rv_n hf rfl Tryz.isAgg28 Tryz.sizeOf28 (A.Hp.blk hh 6) rfl) (Z.rv_t hf rfl)) (⟨none,0,none,0,none,0,rfl,rfl,hr6⟩)
 refine A.xl 4 ?_
 refine A.q0 [5] [] [.b 0 0] [(25,.agg #[.slice A2_ ((a1).length) c3_])] ?_
 obtain⟨r7,hv8,hF⟩:=A.bd_some hF
 refine A.AL.call 50 [] (first:=[]) (cap:=[]) cf36 (graph_Check_ok a1 A2_ c3_ r7 hv8) (.s 1 (.s 2 (.s 3 .nil))) ?_
 rintro _ _ ⟨rfl,rfl,hr9⟩
 refine⟨by kernel_rfl,?_⟩
 refine A.q0 [] [] [.n] [(7,.int .i64 r7)] ?_
 refine A.dl 2 ?_
 refine A.q0 [] [] [.n,.n] [(28,.bool (decide (r7≠0)))] ?_
 refine A.dx 1 ?_
 refine A.AX.cnd rfl hF (fun hb hF=>?_) (fun hb hF=>?_)
 ·refine A.xl 1 ?_
  refine A.q0 [] [] [.n,.n] [(29,.agg #[.slice none 0 0,.slice none 0 0,.slice none 0 0]),(30,.int .i64 r7)] ?_
  refine A.sw 6 [] [.slice none 0 0,.slice none 0 0,.slice none 0 0] ?_
  refine A.q0 [] [] [.n] [(5,.int .i64 r7)] ?_
  refine A.dx 1 ?_
  obtain rfl:=Option.some.inj hF
  refine A.snil 90 (Z.Ty.int .i64) ?_
  refine A.snil 91 T69 ?_
  refine A.snil 92 T82 ?_
  exact A.AX.ret [(0,90),(1,91),(2,92)] (.tuple #[.agg #[.slice none 0 0,.slice none 0 0,.slice none 0 0],.int .i64 r7]) (fun a w hf hh=>Z.resv2 rfl (Z.rv_n hf rfl Tryz.isAgg28 Tryz.sizeOf28 (A.Hp.blk hh 6) rfl) (Z.rv_t hf rfl)) (⟨none,0,none,0,none,0,rfl,rfl,hr9⟩)
 refine A.xx 4 ?_
 refine A.AX.dr mixed 8 8 (A.mb 8 0) ?_
 refine A.hq A.pb [] [0,1,2,3,4,5,6] [4,5] [] (A.mb 8 9) 6 [(0,.b 0 0),(3,.b 1 0)] [(31,.agg #[.slice A0_ ((a0).length) c1_]),(34,.agg #[.slice A2_ ((a1).length) c3_])] ?_
 refine A.AH.one 1 ?_
 obtain⟨r10,hv11,hF⟩:=A.bd_some hF
 refine A.AL.call 93 [] (first:=[]) (cap:=[]) cf44 (delta_inputs_ok a0 A0_ c1_ r10 hv11) (.s 0 .nil) ?_
 rintro _ _ ⟨A12,c13,rfl,rfl⟩
 refine⟨by kernel_rfl,?_⟩
 refine A.AH.nx (A.mb 8 11) [0,1,2,3,4,5,6] ?_
 refine A.hq A.pb [0,1,2,3,4,5,6] [0,1,2,3,4,5,6,93] [] [] (A.mb 8 15) 4 [(2,.n)] [(33,.agg #[.slice A12 ((r10).length) c13])] ?_
 refine A.AH.one 4 ?_
 obtain⟨r14,hv15,hF⟩:=A.bd_some hF
 refine A.AL.call 133 [] (first:=[]) (cap:=[]) cf44 (delta_inputs_ok a1 A2_ c3_ r14 hv15) (.s 1 .nil) ?_
 rintro _ _ ⟨A16,c17,rfl,rfl⟩
 refine⟨by kernel_rfl,?_⟩
 refine A.AH.nx (A.mb 8 31) [0,1,2,3,4,5,6,93] ?_
 refine A.hq A.pb [0,1,2,3,4,5,6,93] [0,1,2,3,4,5,6,93,133] [] [] (A.mb 8 63) 2 [(5,.n)] [(36,.agg #[.slice A16 ((r14).length) c17])] ?_
 refine A.AH.one 6 ?_
 obtain⟨r18,hv19,hF⟩:=A.bd_some hF
 refine A.AL.call 173 [] (first:=[]) (cap:=[]) cf43 (graph_Same_ok r10 r14 A12 c13 A16 c17 r18 hv19) (.s 93 (.s 133 .nil)) ?_
 rintro _ _ ⟨rfl,rfl⟩
 refine⟨by kernel_rfl,?_⟩
 refine A.AH.nx (A.mb 8 127) [0,1,2,3,4,5,6,93,133] ?_
 refine A.hq A.pb [0,1,2,3,4,5,6,93,133] [0,1,2,3,4,5,6,93,133] [] [] (A.mb 8 255) 0 [(7,.n)] [(38,.bool (!r18))] ?_
 refine A.AH.done ?_
 refine A.ex 1 ?_
 refine A.AX.cnb rfl hF (fun hb hF=>?_) (fun hb hF=>?_)
 ·refine A.xl 1 ?_
  refine A.q0 [] [] [.n] [(39,.agg #[.slice none 0 0,.slice none 0 0,.slice none 0 0])] ?_
  refine A.sw 6 [] [.slice none 0 0,.slice none 0 0,.slice none 0 0] ?_
  refine A.q0 [] [] [.n] [(5,.int .i64 90)] ?_
  refine A.dx 1 ?_
  obtain rfl:=Option.some.inj hF
  refine A.snil 213 (Z.Ty.int .i64) ?_
  refine A.snil 214 T69 ?_
  refine A.snil 215 T82 ?_
  exact A.AX.ret [(0,213),(1,214),(2,215)] (.tuple #[.agg #[.slice none 0 0,.slice none 0 0,.slice none 0 0],.int .i64 90]) (fun a w hf hh=>Z.resv2 rfl (Z.rv_n hf rfl Tryz.isAgg28 Tryz.sizeOf28 (A.Hp.blk hh 6) rfl) (Z.rv_t hf rfl)) (⟨none,0,none,0,none,0,rfl,rfl,(A.hasl .i64 (90) rfl)⟩)
 refine A.xx 3 ?_
 refine A.AX.dr mixed 8 8 (A.mb 8 0) ?_
 refine A.hq A.pb [] [0,1,2,3,4,5,6,93,133] [4,5] [] (A.mb 8 27) 4 [(0,.n),(3,.n),(1,.b 0 0),(4,.b 1 0)] [(41,.slice A0_ ((a0).length) c1_),(44,.slice A2_ ((a1).length) c3_)] ?_
 refine A.AH.one 2 ?_
 obtain⟨r20,hv21,hF⟩:=A.bd_some hF
 refine A.AL.call 216 [] (first:=[]) (cap:=[]) cf38 (delta_byId_ok a0 A0_ c1_ r20 hv21) (.l 0 .nil) ?_
 rintro _ _ ⟨b22,rfl,rfl⟩
 refine⟨by kernel_rfl,?_⟩
 refine A.AH.nx (A.mb 8 31) [0,1,2,3,4,5,6,93,133] ?_
 refine A.AH.one 5 ?_
 obtain⟨r23,hv24,hF⟩:=A.bd_some hF
 refine A.AL.call 256 [] (first:=[]) (cap:=[]) cf38 (delta_byId_ok a1 A2_ c3_ r23 hv24) (.l 1 .nil) ?_
 rintro _ _ ⟨b25,rfl,rfl⟩
 refine⟨by kernel_rfl,?_⟩
 refine A.AH.nx (A.mb 8 63) [0,1,2,3,4,5,6,93,133] ?_
 refine A.hq A.pb [0,1,2,3,4,5,6,93,133] [0,1,2,3,4,5,6,93,133,216,256] [] [] (A.mb 8 255) 0 [(6,.n),(7,.n)] [(8,.map (some b22)),(9,.map (some b25))] ?_
 refine A.AH.done ?_
 refine A.el 2 ?_
 refine A.AL.alloc 296 (cs:=[.slice none 0 0,.slice none 0 0,.slice none 0 0]) Tryz.zeroValue28 fun g26=>?_
 refine A.dl 3 ?_
 refine A.q0 [4] [] [.n,.b 0 0,.n,.n] [(47,.slice A0_ ((a0).length) c1_),(48,.int .i64 ((a0).length:Int)),(49,.int .i64 0)] ?_
 refine A.dx 2 ?_
 refine A.nil 593 (Z.Ty.int .i64) 3 ?_
 refine A.lp_ [3,4,8,9,10,47,48] [0,1,2,3,5,6,216,256] (fun f nl nh=>∃(xs29:List Int),∃(y30:Int),∃(A27:Option Addr),∃(c28:Nat),nl=[(49,.int .i64 y30)]∧nh=[(296,.blk g26 28 [.slice A27 ((xs29).length) c28,.slice none 0 0,.slice none 0 0]),(593,.own (Z.Ty.int .i64) 3 A27 c28 xs29)]∧IntKind.i64.has y30∧F.delta_Diff_l5 a0 a1 r20 r23 f xs29 y30=some r) ⟨[],0,none,0,rfl,rfl,(A.hasl .i64 (0) rfl),hF⟩ ?_
 rintro f32 _ _ ⟨xs29,y30,A27,c28,rfl,rfl,hy31,hF⟩
 rcases f32 with _|f32
 ·exact A.no0 hF
 rw[F.delta_Diff_l5]at hF
 refine A.xl 1 ?_
 refine A.q0 [] [] [.n] [(50,.bool (decide (y30<((a0).length:Int))))] ?_
 refine A.dx 2 ?_
 refine A.AX.cnd rfl hF (fun hb hF=>?_) (fun hb hF=>?_)
 ·refine A.xx 2 ?_
  refine A.AX.join [3,4,8,9,10,47,48,49] [0,1,2,3,5,6,216,256] (fun nl nh=>∃(xs35:List Int),∃(A33:Option Addr),∃(c34:Nat),nl=[]∧nh=[(296,.blk g26 28 [.slice A33 ((xs35).length) c34,.slice none 0 0,.slice none 0 0]),(593,.own (Z.Ty.int .i64) 3 A33 c34 xs35)]∧F.delta_Diff_j1 (F.delta_Diff_l5 a0 a1 r20 r23 f32) y30 xs35=some r) ?_ ?_
  ·refine A.xl 2 ?_
   obtain⟨x37,hv38,hF⟩:=A.bd_some hF
   refine A.AL.ixs 0 1162 hv38 fun ho39=>?_
   intro A40 c41 b42 o43
   refine A.q0 [] [1162] [.e 0 0] [(52,.agg #[.int .i64 x37.1,.int .i64 x37.2.1,.slice A40 ((x37.2.2.1).length) c41,.int .i64 x37.2.2.2.1.1,.int .i64 x37.2.2.2.1.2.1,.string x37.2.2.2.1.2.2,.string x37.2.2.2.2.1,.int .i64 x37.2.2.2.2.2.1,.int .i64 x37.2.2.2.2.2.2])] ?_
   refine A.AL.alloc 1164 (cs:=[.int .i64 0,.int .i64 0,.slice none 0 0,.int .i64 0,.int .i64 0,.string (ByteArray.mk #[]),.string (ByteArray.mk #[]),.int .i64 0,.int .i64 0]) Tryz.zeroValue70 fun g44=>?_
   refine A.sw 1164 [] [.int .i64 x37.1,.int .i64 x37.2.1,.slice A40 ((x37.2.2.1).length) c41,.int .i64 x37.2.2.2.1.1,.int .i64 x37.2.2.2.1.2.1,.string x37.2.2.2.1.2.2,.string x37.2.2.2.2.1,.int .i64 x37.2.2.2.2.2.1,.int .i64 x37.2.2.2.2.2.2] ?_
   refine A.dl 2 ?_
   refine A.q0 [1164] [] [.n,.n,.b 0 0] [(54,.map (some b25)),(56,.int .i64 x37.1)] ?_
   obtain⟨x45,hv46,hF⟩:=A.lt_some hF
   refine A.AL.lk2 (t:=T69) 256 1165 (z:=((0,0,[],(0,0,(ByteArray.mk #[])),(ByteArray.mk #[]),0,0):D69)) (zs:=[.int .i64 0,.int .i64 0,.slice none 0 0,.int .i64 0,.int .i64 0,.string (ByteArray.mk #[]),.string (ByteArray.mk #[]),.int .i64 0,.int .i64 0]) ky3 x37.1 Tryz.zeroValue70 ⟨⟨rfl,by decide⟩,⟨rfl,by decide⟩,(.inr ⟨rfl,rfl⟩),⟨⟨rfl,by decide⟩,⟨rfl,by decide⟩,⟨rfl,by decide⟩⟩,⟨rfl,by decide⟩,⟨rfl,by decide⟩,⟨rfl,by decide⟩⟩ hv46 fun ho47=>?_
   intro A48 c49
   refine A.q0 [] [] [.n,.n,.n] [(58,.agg #[.int .i64 x45.1,.int .i64 x45.2.1,.slice A48 ((x45.2.2.1).length) c49,.int .i64 x45.2.2.2.1.1,.int .i64 x45.2.2.2.1.2.1,.string x45.2.2.2.1.2.2,.string x45.2.2.2.2.1,.int .i64 x45.2.2.2.2.2.1,.int .i64 x45.2.2.2.2.2.2]),(59,.bool (Z.mhas r23 x37.1))] ?_
   refine A.AL.alloc 1166 (cs:=[.int .i64 0,.int .i64 0,.slice none 0 0,.int .i64 0,.int .i64 0,.string (ByteArray.mk #[]),.string (ByteArray.mk #[]),.int .i64 0,.int .i64 0]) Tryz.zeroValue70 fun g50=>?_
   refine A.sw 1166 [] [.int .i64 x45.1,.int .i64 x45.2.1,.slice A48 ((x45.2.2.1).length) c49,.int .i64 x45.2.2.2.1.1,.int .i64 x45.2.2.2.1.2.1,.string x45.2.2.2.1.2.2,.string x45.2.2.2.2.1,.int .i64 x45.2.2.2.2.2.1,.int .i64 x45.2.2.2.2.2.2] ?_
   refine A.q0 [] [] [.n] [(14,.bool (Z.mhas r23 x37.1))] ?_
   refine A.dl 2 ?_
   refine A.q0 [] [] [.n,.n] [(61,.bool (!(Z.mhas r23 x37.1)))] ?_
   refine A.dx 1 ?_
   refine A.AX.cnb rfl hF (fun hb hF=>?_) (fun hb hF=>?_)
   ·refine A.xl 0 ?_
    refine A.q0 [296,1164] [] [.n,.b 0 0,.n,.b 1 0] [(63,.slice A27 ((xs29).length) c28),(65,.int .i64 x37.1)] ?_
    refine A.AL.bsl 1167 (ty:=(Z.Ty.int .i64)) (cs:=[.int .i64 x37.1]) [x37.1] ⟨⟨rfl,ho39.1⟩,rfl⟩ (fun g51=>?_) Tryz.zeroValue3 Tryz.sizeOf3
    obtain⟨hl54,hF⟩:=A.gd_some hF
    refine A.AL.app (k:=593) [] (A.rowO (k:=1167) rfl) inf3 hl54 fun A52 c53=>?_
    refine A.q0 [] [] [.n] [(68,.pointer (some ⟨g26,0,none⟩))] ?_
    refine A.AL.store 296 [] (new:=[.slice A52 ((xs29++[x37.1]).length) c53]) (cs':=[.slice A52 ((xs29++[x37.1]).length) c53,.slice none 0 0,.slice none 0 0]) ?_
    refine A.de 1 ?_
    exact A.j ⟨(xs29++[x37.1]),A52,c53,rfl,rfl,hF⟩
   refine A.xe 2 ?_
   exact A.j ⟨xs29,A27,c28,rfl,rfl,hF⟩
  rintro _ _ ⟨xs35,A33,c34,rfl,rfl,hF⟩
  rw[F.delta_Diff_j1]at hF
  refine A.xl 0 ?_
  obtain⟨hc36,hF⟩:=A.gd_some hF
  refine A.q [] [] [.n,.n] [Z.R64 (y30+1)] [(49,.int .i64 (y30+1))] hc36 ?_
  refine A.AL.done ?_
  exact A.j ⟨_,Nat.lt_succ_self _,⟨xs35,(y30+1),A33,c34,rfl,rfl,(Z.i64_has hc36),hF⟩⟩
 refine A.xl 4 ?_
 refine A.q0 [5] [] [.b 0 0] [(70,.agg #[.slice A2_ ((a1).length) c3_])] ?_
 obtain⟨r55,hv56,hF⟩:=A.bd_some hF
 refine A.AL.call 1168 [] (first:=[]) (cap:=[]) cf40 (graph_Clone_ok a1 A2_ c3_ r55 hv56) (.s 1 .nil) ?_
 rintro _ _ ⟨A57,c58,rfl,rfl⟩
 refine⟨by kernel_rfl,?_⟩
 refine A.q0 [] [] [.n,.n,.n] [(72,.slice A57 ((r55).length) c58),(73,.int .i64 ((r55).length:Int)),(74,.int .i64 0)] ?_
 refine A.dx 2 ?_
 refine A.nil 1304 T69 70 ?_
 refine A.lp_ [4,8,10,72,73] [2,3,6,216,593,1168] (fun f nl nh=>∃(xs61:List D69),∃(y62:Int),∃(A59:Option Addr),∃(c60:Nat),nl=[(74,.int .i64 y62)]∧nh=[(296,.blk g26 28 [.slice A27 ((xs29).length) c28,.slice A59 ((xs61).length) c60,.slice none 0 0]),(1304,.own T69 70 A59 c60 xs61)]∧IntKind.i64.has y62∧F.delta_Diff_l4 r20 xs29 r55 f xs61 y62=some r) ⟨[],0,none,0,rfl,rfl,(A.hasl .i64 (0) rfl),hF⟩ ?_
 rintro f64 _ _ ⟨xs61,y62,A59,c60,rfl,rfl,hy63,hF⟩
 rcases f64 with _|f64
 ·exact A.no0 hF
 rw[F.delta_Diff_l4]at hF
 refine A.xl 1 ?_
 refine A.q0 [] [] [.n] [(75,.bool (decide (y62<((r55).length:Int))))] ?_
 refine A.dx 2 ?_
 refine A.AX.cnd rfl hF (fun hb hF=>?_) (fun hb hF=>?_)
 ·refine A.xx 2 ?_
  refine A.AX.join [4,8,10,72,73,74] [2,3,6,216,593,1168] (fun nl nh=>∃(xs67:List D69),∃(A65:Option Addr),∃(c66:Nat),nl=[]∧nh=[(296,.blk g26 28 [.slice A27 ((xs29).length) c28,.slice A65 ((xs67).length) c66,.slice none 0 0]),(1304,.own T69 70 A65 c66 xs67)]∧F.delta_Diff_j2 (F.delta_Diff_l4 r20 xs29 r55 f64) y62 xs67=some r) ?_ ?_
  ·refine A.xl 2 ?_
   obtain⟨x69,hv70,hF⟩:=A.bd_some hF
   refine A.AL.ixs 1168 1399 hv70 fun ho71=>?_
   intro A72 c73 b74 o75
   refine A.q0 [] [1399] [.e 0 0] [(77,.agg #[.int .i64 x69.1,.int .i64 x69.2.1,.slice A72 ((x69.2.2.1).length) c73,.int .i64 x69.2.2.2.1.1,.int .i64 x69.2.2.2.1.2.1,.string x69.2.2.2.1.2.2,.string x69.2.2.2.2.1,.int .i64 x69.2.2.2.2.2.1,.int .i64 x69.2.2.2.2.2.2])] ?_
   refine A.AL.alloc 1401 (cs:=[.int .i64 0,.int .i64 0,.slice none 0 0,.int .i64 0,.int .i64 0,.string (ByteArray.mk #[]),.string (ByteArray.mk #[]),.int .i64 0,.int .i64 0]) Tryz.zeroValue70 fun g76=>?_
   refine A.sw 1401 [] [.int .i64 x69.1,.int .i64 x69.2.1,.slice A72 ((x69.2.2.1).length) c73,.int .i64 x69.2.2.2.1.1,.int .i64 x69.2.2.2.1.2.1,.string x69.2.2.2.1.2.2,.string x69.2.2.2.2.1,.int .i64 x69.2.2.2.2.2.1,.int .i64 x69.2.2.2.2.2.2] ?_
   refine A.dl 2 ?_
   refine A.q0 [1401] [] [.n,.n,.b 0 0] [(79,.map (some b22)),(81,.int .i64 x69.1)] ?_
   obtain⟨x77,hv78,hF⟩:=A.lt_some hF
   refine A.AL.lk2 (t:=T69) 216 1402 (z:=((0,0,[],(0,0,(ByteArray.mk #[])),(ByteArray.mk #[]),0,0):D69)) (zs:=[.int .i64 0,.int .i64 0,.slice none 0 0,.int .i64 0,.int .i64 0,.string (ByteArray.mk #[]),.string (ByteArray.mk #[]),.int .i64 0,.int .i64 0]) ky3 x69.1 Tryz.zeroValue70 ⟨⟨rfl,by decide⟩,⟨rfl,by decide⟩,(.inr ⟨rfl,rfl⟩),⟨⟨rfl,by decide⟩,⟨rfl,by decide⟩,⟨rfl,by decide⟩⟩,⟨rfl,by decide⟩,⟨rfl,by decide⟩,⟨rfl,by decide⟩⟩ hv78 fun ho79=>?_
   intro A80 c81
   refine A.q0 [] [] [.n,.n,.n] [(83,.agg #[.int .i64 x77.1,.int .i64 x77.2.1,.slice A80 ((x77.2.2.1).length) c81,.int .i64 x77.2.2.2.1.1,.int .i64 x77.2.2.2.1.2.1,.string x77.2.2.2.1.2.2,.string x77.2.2.2.2.1,.int .i64 x77.2.2.2.2.2.1,.int .i64 x77.2.2.2.2.2.2]),(84,.bool (Z.mhas r20 x69.1))] ?_
   refine A.AL.alloc 1403 (cs:=[.int .i64 0,.int .i64 0,.slice none 0 0,.int .i64 0,.int .i64 0,.string (ByteArray.mk #[]),.string (ByteArray.mk #[]),.int .i64 0,.int .i64 0]) Tryz.zeroValue70 fun g82=>?_
   refine A.sw 1403 [] [.int .i64 x77.1,.int .i64 x77.2.1,.slice A80 ((x77.2.2.1).length) c81,.int .i64 x77.2.2.2.1.1,.int .i64 x77.2.2.2.1.2.1,.string x77.2.2.2.1.2.2,.string x77.2.2.2.2.1,.int .i64 x77.2.2.2.2.2.1,.int .i64 x77.2.2.2.2.2.2] ?_
   refine A.q0 [] [] [.n] [(18,.bool (Z.mhas r20 x69.1))] ?_
   refine A.dx 1 ?_
   refine A.AX.join [4,8,10,16,72,73,74] [2,3,6,216,296,593,1168,1304,1400,1401] (fun nl nh=>∃(y83:Bool),nl=[(92,.bool y83)]∧nh=[]∧F.delta_Diff_j3 (F.delta_Diff_l4 r20 xs29 r55 f64) xs61 y62 x69 y83=some r) ?_ ?_
   ·refine A.xl 0 ?_
    refine A.q0 [] [] [.n,.n,.n] [(87,.bool (!(Z.mhas r20 x69.1)))] ?_
    refine A.AL.cnd (j:=87) rfl hF (fun hF=>?_) (fun hF=>?_)
    ·refine A.q0 [] [] [.off,.off,.off,.off,.n] [(92,.bool true)] ?_
     refine A.AL.done ?_
     exact A.j ⟨true,rfl,rfl,hF⟩
    refine A.q0 [1403,1401] [] [.on (.b 0 0),.on (.b 1 0)] [(88,.agg #[.int .i64 x77.1,.int .i64 x77.2.1,.slice A80 ((x77.2.2.1).length) c81,.int .i64 x77.2.2.2.1.1,.int .i64 x77.2.2.2.1.2.1,.string x77.2.2.2.1.2.2,.string x77.2.2.2.2.1,.int .i64 x77.2.2.2.2.2.1,.int .i64 x77.2.2.2.2.2.2]),(89,.agg #[.int .i64 x69.1,.int .i64 x69.2.1,.slice A72 ((x69.2.2.1).length) c73,.int .i64 x69.2.2.2.1.1,.int .i64 x69.2.2.2.1.2.1,.string x69.2.2.2.1.2.2,.string x69.2.2.2.2.1,.int .i64 x69.2.2.2.2.2.1,.int .i64 x69.2.2.2.2.2.2])] ?_
    refine A.AL.on (dj:=87) rfl rfl ?_
    obtain⟨r88,hv89,hF⟩:=A.bd_some hF
    refine A.AL.call 1404 [] (first:=[]) (cap:=[]) cf45 (delta_sameNode_ok (x77.1,x77.2.1,x77.2.2.1,(x77.2.2.2.1.1,x77.2.2.2.1.2.1,x77.2.2.2.1.2.2),x77.2.2.2.2.1,x77.2.2.2.2.2.1,x77.2.2.2.2.2.2) (x69.1,x69.2.1,x69.2.2.1,(x69.2.2.2.1.1,x69.2.2.2.1.2.1,x69.2.2.2.1.2.2),x69.2.2.2.2.1,x69.2.2.2.2.2.1,x69.2.2.2.2.2.2) A80 c81 A72 c73 ho79.1 ho79.2.1 ho79.2.2.2.1.1 ho79.2.2.2.1.2.1 ho79.2.2.2.1.2.2 ho79.2.2.2.2.1 ho79.2.2.2.2.2.1 ho79.2.2.2.2.2.2 ho71.1 ho71.2.1 ho71.2.2.2.1.1 ho71.2.2.2.1.2.1 ho71.2.2.2.1.2.2 ho71.2.2.2.2.1 ho71.2.2.2.2.2.1 ho71.2.2.2.2.2.2 r88 hv89) (.s 1402 (.s 1400 .nil)) ?_
    rintro _ _ ⟨rfl,rfl⟩
    refine⟨by kernel_rfl,?_⟩
    refine A.q0 [] [] [.on .n,.n] [(92,.bool (!r88))] ?_
    refine A.AL.done ?_
    exact A.j ⟨(!r88),rfl,rfl,hF⟩
   rintro _ _ ⟨y83,rfl,rfl,hF⟩
   rw[F.delta_Diff_j3]at hF
   refine A.AX.cnb rfl hF (fun hb hF=>?_) (fun hb hF=>?_)
   ·refine A.xl 0 ?_
    refine A.q0 [296,1401] [] [.n,.b 0 1,.b 1 0] [(94,.slice A59 ((xs61).length) c60),(95,.agg #[.int .i64 x69.1,.int .i64 x69.2.1,.slice A72 ((x69.2.2.1).length) c73,.int .i64 x69.2.2.2.1.1,.int .i64 x69.2.2.2.1.2.1,.string x69.2.2.2.1.2.2,.string x69.2.2.2.2.1,.int .i64 x69.2.2.2.2.2.1,.int .i64 x69.2.2.2.2.2.2])] ?_
    refine A.AL.bsl 1444 (ty:=T69) (cs:=[.int .i64 x69.1,.int .i64 x69.2.1,.slice A72 ((x69.2.2.1).length) c73,.int .i64 x69.2.2.2.1.1,.int .i64 x69.2.2.2.1.2.1,.string x69.2.2.2.1.2.2,.string x69.2.2.2.2.1,.int .i64 x69.2.2.2.2.2.1,.int .i64 x69.2.2.2.2.2.2]) [(x69.1,x69.2.1,x69.2.2.1,(x69.2.2.2.1.1,x69.2.2.2.1.2.1,x69.2.2.2.1.2.2),x69.2.2.2.2.1,x69.2.2.2.2.2.1,x69.2.2.2.2.2.2)] ⟨⟨⟨rfl,ho71.1⟩,⟨rfl,ho71.2.1⟩,.inl ⟨1400,rfl⟩,⟨⟨rfl,ho71.2.2.2.1.1⟩,⟨rfl,ho71.2.2.2.1.2.1⟩,⟨rfl,ho71.2.2.2.1.2.2⟩⟩,⟨rfl,ho71.2.2.2.2.1⟩,⟨rfl,ho71.2.2.2.2.2.1⟩,⟨rfl,ho71.2.2.2.2.2.2⟩⟩,rfl⟩ (fun g84=>?_) Tryz.zeroValue70 Tryz.sizeOf70
    obtain⟨hl87,hF⟩:=A.gd_some hF
    refine A.AL.app (k:=1304) [] (A.rowO (k:=1444) rfl) inf70 hl87 fun A85 c86=>?_
    refine A.q0 [] [] [.n] [(98,.pointer (some ⟨g26,1,none⟩))] ?_
    refine A.AL.store 296 [] (new:=[.slice A85 ((xs61++[(x69.1,x69.2.1,x69.2.2.1,(x69.2.2.2.1.1,x69.2.2.2.1.2.1,x69.2.2.2.1.2.2),x69.2.2.2.2.1,x69.2.2.2.2.2.1,x69.2.2.2.2.2.2)]).length) c86]) (cs':=[.slice A27 ((xs29).length) c28,.slice A85 ((xs61++[(x69.1,x69.2.1,x69.2.2.1,(x69.2.2.2.1.1,x69.2.2.2.1.2.1,x69.2.2.2.1.2.2),x69.2.2.2.2.1,x69.2.2.2.2.2.1,x69.2.2.2.2.2.2)]).length) c86,.slice none 0 0]) ?_
    refine A.de 1 ?_
    exact A.j ⟨(xs61++[(x69.1,x69.2.1,x69.2.2.1,(x69.2.2.2.1.1,x69.2.2.2.1.2.1,x69.2.2.2.1.2.2),x69.2.2.2.2.1,x69.2.2.2.2.2.1,x69.2.2.2.2.2.2)]),A85,c86,rfl,rfl,hF⟩
   refine A.xe 2 ?_
   exact A.j ⟨xs61,A59,c60,rfl,rfl,hF⟩
  rintro _ _ ⟨xs67,A65,c66,rfl,rfl,hF⟩
  rw[F.delta_Diff_j2]at hF
  refine A.xl 0 ?_
  obtain⟨hc68,hF⟩:=A.gd_some hF
  refine A.q [] [] [.n,.n] [Z.R64 (y62+1)] [(74,.int .i64 (y62+1))] hc68 ?_
  refine A.AL.done ?_
  exact A.j ⟨_,Nat.lt_succ_self _,⟨xs67,(y62+1),A65,c66,rfl,rfl,(Z.i64_has hc68),hF⟩⟩
 refine A.xl 3 ?_
 refine A.q0 [296] [] [.b 0 0] [(100,.agg #[.slice A27 ((xs29).length) c28,.slice A59 ((xs61).length) c60,.slice none 0 0])] ?_
 refine A.sw 6 [] [.slice A27 ((xs29).length) c28,.slice A59 ((xs61).length) c60,.slice none 0 0] ?_
 refine A.q0 [] [] [.n] [(5,.int .i64 0)] ?_
 refine A.dx 1 ?_
 obtain rfl:=Option.some.inj hF
 refine A.frz 593 [] ?_
 refine A.frz 1304 [] ?_
 refine A.snil 1445 T82 ?_
 exact A.AX.ret [(0,593),(1,1304),(2,1445)] (.tuple #[.agg #[.slice A27 ((xs29).length) c28,.slice A59 ((xs61).length) c60,.slice none 0 0],.int .i64 0]) (fun a w hf hh=>Z.resv2 rfl (Z.rv_n hf rfl Tryz.isAgg28 Tryz.sizeOf28 (A.Hp.blk hh 6) rfl) (Z.rv_t hf rfl)) (⟨A27,c28,A59,c60,none,0,rfl,rfl,(A.hasl .i64 (0) rfl)⟩)
end Go.Proofs.YtocfaokgoflmhaaGreatDoor
end
section
set_option linter.unusedVariables false
set_option linter.unusedSimpArgs false
set_option maxRecDepth 20000
set_option maxHeartbeats 8000000
set_option synthInstance.maxSize 1000000
set_option synthInstance.maxHeartbeats 400000
namespace Go.Proofs.YtocfaokgoflmhaaGreatDoor
open Go.RowKit
end Go.Proofs.YtocfaokgoflmhaaGreatDoor
end
section
set_option linter.unusedVariables false
set_option linter.unusedSimpArgs false
set_option maxRecDepth 20000
set_option maxHeartbeats 8000000
set_option synthInstance.maxSize 1000000
set_option synthInstance.maxHeartbeats 400000
namespace Go.Proofs.YtocfaokgoflmhaaGreatDoor
open Go.RowKit
end Go.Proofs.YtocfaokgoflmhaaGreatDoor
end
section
set_option linter.unusedVariables false
set_option linter.unusedSimpArgs false
set_option maxRecDepth 20000
set_option maxHeartbeats 8000000
set_option synthInstance.maxSize 1000000
set_option synthInstance.maxHeartbeats 400000
namespace Go.Proofs.YtocfaokgoflmhaaGreatDoor
open Go.RowKit
def F.R09_sameInts_l1 (a0:(List Int))(a1:(List Int)):Nat→Int→Option Bool
 |0,_=>none
 |f+1,y1=>if y1<((a0).length:Int)then((A.ix a0 y1).bind fun x4=>((A.ix a1 y1).bind fun x10=>(if x4≠x10 then(some false)else(A.gd (Z.R64 (y1+1)) ((F.R09_sameInts_l1 a0 a1 f) (y1+1))))))else(some true)
def F.R09_sameInts (a0:(List Int))(a1:(List Int)):Option Bool:=if((a0).length:Int)≠((a1).length:Int)then(some false)else(F.R09_sameInts_l1 a0 a1 A.FU 0)
theorem R09_sameInts_ok (a0:(List Int))(a1:(List Int))(A0_:Option Addr)(c1_:Nat)(A2_:Option Addr)(c3_:Nat)(r:Bool)(hF:F.R09_sameInts a0 a1=some r):
    A.Ct Tryz.prog 50 [.slice A0_ ((a0).length) c1_,.slice A2_ ((a1).length) c3_] [(0,.ln (Z.Ty.int .i64) A0_ c1_ a0),(1,.ln (Z.Ty.int .i64) A2_ c3_ a1)] [] (fun v H'=>v=.bool r∧H'=[]):=by
 refine A.Ct.enter Tryz.func50 rfl Tryz.ntmps50 rfl fun w0 F0=>?_
 rw[F.R09_sameInts]at hF
 refine A.xl 1 ?_
 refine A.q0 [] [] [.n] [] ?_
 refine A.dl 3 ?_
 refine A.q0 [] [] [.n,.n,.n,.n,.n] [(10,.bool (decide (((a0).length:Int)≠((a1).length:Int))))] ?_
 refine A.dx 1 ?_
 refine A.AX.cnd rfl hF (fun hb hF=>?_) (fun hb hF=>?_)
 ·refine A.xl 1 ?_
  refine A.q0 [] [] [.n] [(4,.bool false)] ?_
  refine A.dx 1 ?_
  obtain rfl:=Option.some.inj hF
  exact A.rt1 [] ⟨rfl,rfl⟩
 refine A.xl 4 ?_
 refine A.q0 [] [] [.n] [(5,.int .i64 0)] ?_
 refine A.dx 2 ?_
 refine A.lp_ [0,1] [0,1] (fun f nl nh=>∃(y1:Int),nl=[(5,.int .i64 y1)]∧nh=[]∧IntKind.i64.has y1∧F.R09_sameInts_l1 a0 a1 f y1=some r) ⟨0,rfl,rfl,(A.hasl .i64 (0) rfl),hF⟩ ?_
 rintro f3 _ _ ⟨y1,rfl,rfl,hy2,hF⟩
 rcases f3 with _|f3
 ·exact A.no0 hF
 rw[F.R09_sameInts_l1]at hF
 refine A.xl 2 ?_
 refine A.q0 [] [] [.n,.n,.n,.n] [(14,.bool (decide (y1<((a0).length:Int))))] ?_
 refine A.dx 1 ?_
 refine A.AX.cnd rfl hF (fun hb hF=>?_) (fun hb hF=>?_)
 ·refine A.xx 5 ?_
  refine A.AX.dr mixed 9 9 (A.mb 9 0) ?_
  refine A.hq A.pb [] [0,1] [] [] (A.mb 9 51) 5 [(0,.n),(1,.n),(4,.n),(5,.n)] [(17,.slice A0_ ((a0).length) c1_),(18,.int .i64 y1),(21,.slice A2_ ((a1).length) c3_),(22,.int .i64 y1)] ?_
  obtain⟨x4,hv5,hF⟩:=A.bd_some hF
  refine A.AH.pkl 0 6 hv5 fun ho6=>?_
  intro b8 o9 hA7
  refine A.AH.v A.pb [0,1] [0,1,6] 2 (A.mb 9 55) rfl (fun a w hf hh=>A.r_ixa (t:=(Z.Ty.int .i64)) hv5 hA7 hf) ?_
  refine A.hq A.pb [0,1,6] [0,1,6] [] [6] (A.mb 9 63) 3 [(3,.e 0 0)] [(20,.int .i64 x4)] ?_
  obtain⟨x10,hv11,hF⟩:=A.bd_some hF
  refine A.AH.pkl 1 7 hv11 fun ho12=>?_
  intro b14 o15 hA13
  refine A.AH.v A.pb [0,1,6] [0,1,6,7] 6 (A.mb 9 127) rfl (fun a w hf hh=>A.r_ixa (t:=(Z.Ty.int .i64)) hv11 hA13 hf) ?_
  refine A.hq A.pb [0,1,6,7] [0,1,6,7] [] [7] (A.mb 9 511) 0 [(7,.e 0 0),(8,.n)] [(25,.bool (decide (x4≠x10)))] ?_
  refine A.AH.done ?_
  refine A.ex 1 ?_
  refine A.AX.cnd rfl hF (fun hb hF=>?_) (fun hb hF=>?_)
  ·refine A.xl 1 ?_
   refine A.q0 [] [] [.n] [(4,.bool false)] ?_
   refine A.dx 1 ?_
   obtain rfl:=Option.some.inj hF
   exact A.rt1 [] ⟨rfl,rfl⟩
  refine A.xl 3 ?_
  obtain⟨hc16,hF⟩:=A.gd_some hF
  refine A.q [] [] [.n,.n,.n] [Z.R64 (y1+1)] [(5,.int .i64 (y1+1))] hc16 ?_
  refine A.AL.done ?_
  exact A.j ⟨_,Nat.lt_succ_self _,⟨(y1+1),rfl,rfl,(Z.i64_has hc16),hF⟩⟩
 refine A.xl 3 ?_
 refine A.q0 [] [] [.n] [(4,.bool true)] ?_
 refine A.dx 1 ?_
 obtain rfl:=Option.some.inj hF
 exact A.rt1 [] ⟨rfl,rfl⟩
def F.R09_Same_l1 (a0:D27)(a1:D27):Nat→Int→Option Bool
 |0,_=>none
 |f+1,y4=>if y4<((a0.2.2).length:Int)then((A.ix a0.2.2 y4).bind fun x7=>((A.ix a1.2.2 y4).bind fun x13=>(if(x7.1,x7.2.1,x7.2.2.1,x7.2.2.2.1,(x7.2.2.2.2.1,x7.2.2.2.2.2.1,x7.2.2.2.2.2.2))≠(x13.1,x13.2.1,x13.2.2.1,x13.2.2.2.1,(x13.2.2.2.2.1,x13.2.2.2.2.2.1,x13.2.2.2.2.2.2))then(some false)else(A.gd (Z.R64 (y4+1)) ((F.R09_Same_l1 a0 a1 f) (y4+1))))))else(some true)
def F.R09_Same_j2 (a0:D27)(a1:D27)(y3:Bool):Option Bool:=if y3=true then(some false)else(F.R09_Same_l1 a0 a1 A.FU 0)
def F.R09_Same (a0:D27)(a1:D27):Option Bool:=(F.R09_sameInts a0.1 a1.1).bind fun r20=>(if(!r20)=true then(F.R09_Same_j2 a0 a1 true)else((F.R08_Same a0.2.1 a1.2.1).bind fun r22=>(F.R09_Same_j2 a0 a1 (bif !r22 then true else decide (((a0.2.2).length:Int)≠((a1.2.2).length:Int))))))
theorem R09_Same_ok (a0:D27)(a1:D27)(A0_:Option Addr)(c1_:Nat)(A2_:Option Addr)(c3_:Nat)(A4_:Option Addr)(c5_:Nat)(A6_:Option Addr)(c7_:Nat)(A8_:Option Addr)(c9_:Nat)(A10_:Option Addr)(c11_:Nat)(r:Bool)(hF:F.R09_Same a0 a1=some r):
    A.Ct Tryz.prog 17 [.agg #[.slice A0_ ((a0.1).length) c1_,.slice A2_ ((a0.2.1).length) c3_,.slice A4_ ((a0.2.2).length) c5_],.agg #[.slice A6_ ((a1.1).length) c7_,.slice A8_ ((a1.2.1).length) c9_,.slice A10_ ((a1.2.2).length) c11_]] [(0,.sh (.slice (Z.Ty.int .i64)) [.slice A0_ (a0.1).length c1_] a0.1),(1,.sh (.slice T69) [.slice A2_ (a0.2.1).length c3_] a0.2.1),(2,.sh (.slice T82) [.slice A4_ (a0.2.2).length c5_] a0.2.2),(3,.sh (.slice (Z.Ty.int .i64)) [.slice A6_ (a1.1).length c7_] a1.1),(4,.sh (.slice T69) [.slice A8_ (a1.2.1).length c9_] a1.2.1),(5,.sh (.slice T82) [.slice A10_ (a1.2.2).length c11_] a1.2.2)] [] (fun v H'=>v=.bool r∧H'=[]):=by
 refine A.Ct.enter Tryz.func17 rfl Tryz.ntmps17 rfl fun w0 F0=>?_
 rw[F.R09_Same]at hF
 refine A.xl 1 ?_
 refine A.AL.box 6 (cs:=[.slice A0_ ((a0.1).length) c1_,.slice A2_ ((a0.2.1).length) c3_,.slice A4_ ((a0.2.2).length) c5_]) fun g1=>?_
 refine A.AL.box 7 (cs:=[.slice A6_ ((a1.1).length) c7_,.slice A8_ ((a1.2.1).length) c9_,.slice A10_ ((a1.2.2).length) c11_]) fun g2=>?_
 refine A.q0 [] [] [.n] [] ?_
 refine A.dx 2 ?_
 refine A.AX.join [2,3] [0,1,2,3,4,5,6,7] (fun nl nh=>∃(y3:Bool),nl=[(30,.bool y3)]∧nh=[]∧F.R09_Same_j2 a0 a1 y3=some r) ?_ ?_
 ·refine A.xl 0 ?_
  refine A.q0 [6,7] [] [.n,.b 0 0,.n,.b 1 0] [(7,.slice A0_ ((a0.1).length) c1_),(9,.slice A6_ ((a1.1).length) c7_)] ?_
  obtain⟨r20,hv21,hF⟩:=A.bd_some hF
  refine A.AL.call 8 [] (first:=[]) (cap:=[]) cf50 (R09_sameInts_ok a0.1 a1.1 A0_ c1_ A6_ c7_ r20 hv21) (.l 0 (.l 3 .nil)) ?_
  rintro _ _ ⟨rfl,rfl⟩
  refine⟨by kernel_rfl,?_⟩
  refine A.q0 [] [] [.n,.n] [(12,.bool (!r20))] ?_
  refine A.AL.cnd (j:=12) rfl hF (fun hF=>?_) (fun hF=>?_)
  ·refine A.q0 [] [] [.off,.off,.off,.off,.off,.off,.off,.off,.n,.n,.off,.off,.off,.off,.off,.off,.off,.n] [(30,.bool true)] ?_
   refine A.AL.done ?_
   exact A.j ⟨true,rfl,rfl,hF⟩
  refine A.q0 [6,7] [] [.on .n,.on (.b 0 1),.on .n,.on .n,.on (.b 1 1),.on .n] [(15,.agg #[.slice A2_ ((a0.2.1).length) c3_]),(18,.agg #[.slice A8_ ((a1.2.1).length) c9_])] ?_
  refine A.AL.on (dj:=12) rfl rfl ?_
  obtain⟨r22,hv23,hF⟩:=A.bd_some hF
  refine A.AL.call 48 [] (first:=[]) (cap:=[]) cf13 (R08_Same_ok a0.2.1 a1.2.1 A2_ c3_ A8_ c9_ r22 hv23) (.s 1 (.s 4 .nil)) ?_
  rintro _ _ ⟨rfl,rfl⟩
  refine⟨by kernel_rfl,?_⟩
  refine A.q0 [6,7] [] [.on .n,.n,.n,.sy .n,.sy (.b 0 2),.sy .n,.sy .n,.sy (.b 1 2),.sy .n,.sy .n,.pk] [(30,.bool (bif !r22 then true else decide (((a0.2.2).length:Int)≠((a1.2.2).length:Int))))] ?_
  refine A.AL.done ?_
  exact A.j ⟨(bif !r22 then true else decide (((a0.2.2).length:Int)≠((a1.2.2).length:Int))),rfl,rfl,hF⟩
 rintro _ _ ⟨y3,rfl,rfl,hF⟩
 rw[F.R09_Same_j2]at hF
 refine A.AX.cnb rfl hF (fun hb hF=>?_) (fun hb hF=>?_)
 ·refine A.xl 1 ?_
  refine A.q0 [] [] [.n] [(4,.bool false)] ?_
  refine A.dx 1 ?_
  obtain rfl:=Option.some.inj hF
  exact A.rt1 [] ⟨rfl,rfl⟩
 refine A.xl 4 ?_
 refine A.q0 [] [] [.n] [(5,.int .i64 0)] ?_
 refine A.dx 2 ?_
 refine A.lp_ [2,3] [0,1,2,3,4,5,6,7] (fun f nl nh=>∃(y4:Int),nl=[(5,.int .i64 y4)]∧nh=[]∧IntKind.i64.has y4∧F.R09_Same_l1 a0 a1 f y4=some r) ⟨0,rfl,rfl,(A.hasl .i64 (0) rfl),hF⟩ ?_
 rintro f6 _ _ ⟨y4,rfl,rfl,hy5,hF⟩
 rcases f6 with _|f6
 ·exact A.no0 hF
 rw[F.R09_Same_l1]at hF
 refine A.xl 2 ?_
 refine A.q0 [6] [] [.n,.n,.b 0 2,.n,.n] [(35,.bool (decide (y4<((a0.2.2).length:Int))))] ?_
 refine A.dx 1 ?_
 refine A.AX.cnd rfl hF (fun hb hF=>?_) (fun hb hF=>?_)
 ·refine A.xx 5 ?_
  refine A.AX.dr mixed 11 11 (A.mb 11 0) ?_
  refine A.hq A.pb [] [0,1,2,3,4,5,6,7] [6,7] [] (A.mb 11 231) 5 [(0,.n),(2,.n),(5,.n),(7,.n),(1,.b 0 2),(6,.b 1 2)] [(40,.int .i64 y4),(45,.int .i64 y4),(39,.slice A4_ ((a0.2.2).length) c5_),(44,.slice A10_ ((a1.2.2).length) c11_)] ?_
  obtain⟨x7,hv8,hF⟩:=A.bd_some hF
  refine A.AH.pks 2 92 hv8 fun ho9=>?_
  intro b11 o12 hA10
  refine A.AH.v A.pb [0,1,2,3,4,5,6,7] [0,1,2,3,4,5,6,7,92] 3 (A.mb 11 239) rfl (fun a w hf hh=>A.r_ixa (t:=T82) hv8 hA10 hf) ?_
  refine A.hq A.pb [0,1,2,3,4,5,6,7,92] [0,1,2,3,4,5,6,7,92] [] [92] (A.mb 11 255) 3 [(4,.e 0 0)] [(42,.agg #[.int .i64 x7.1,.int .i64 x7.2.1,.int .i64 x7.2.2.1,.int .i64 x7.2.2.2.1,.int .i64 x7.2.2.2.2.1,.int .i64 x7.2.2.2.2.2.1,.string x7.2.2.2.2.2.2])] ?_
  obtain⟨x13,hv14,hF⟩:=A.bd_some hF
  refine A.AH.pks 5 93 hv14 fun ho15=>?_
  intro b17 o18 hA16
  refine A.AH.v A.pb [0,1,2,3,4,5,6,7,92] [0,1,2,3,4,5,6,7,92,93] 8 (A.mb 11 511) rfl (fun a w hf hh=>A.r_ixa (t:=T82) hv14 hA16 hf) ?_
  refine A.hq A.pb [0,1,2,3,4,5,6,7,92,93] [0,1,2,3,4,5,6,7,92,93] [] [93] (A.mb 11 1023) 1 [(9,.e 0 0)] [(47,.agg #[.int .i64 x13.1,.int .i64 x13.2.1,.int .i64 x13.2.2.1,.int .i64 x13.2.2.2.1,.int .i64 x13.2.2.2.2.1,.int .i64 x13.2.2.2.2.2.1,.string x13.2.2.2.2.2.2])] ?_
  refine A.AH.v A.pb [0,1,2,3,4,5,6,7,92,93] [0,1,2,3,4,5,6,7,92,93] 10 (A.mb 11 2047) rfl (fun a w hf hh=>eqagg_neq83 (x:=(x7.1,x7.2.1,x7.2.2.1,x7.2.2.2.1,(x7.2.2.2.2.1,x7.2.2.2.2.2.1,x7.2.2.2.2.2.2))) (y:=(x13.1,x13.2.1,x13.2.2.1,x13.2.2.2.1,(x13.2.2.2.2.1,x13.2.2.2.2.2.1,x13.2.2.2.2.2.2))) (hf.eval rfl) (hf.eval rfl)) ?_
  refine A.AH.done ?_
  refine A.ex 1 ?_
  refine A.AX.cnd rfl hF (fun hb hF=>?_) (fun hb hF=>?_)
  ·refine A.xl 1 ?_
   refine A.q0 [] [] [.n] [(4,.bool false)] ?_
   refine A.dx 1 ?_
   obtain rfl:=Option.some.inj hF
   exact A.rt1 [] ⟨rfl,rfl⟩
  refine A.xl 3 ?_
  obtain⟨hc19,hF⟩:=A.gd_some hF
  refine A.q [] [] [.n,.n,.n] [Z.R64 (y4+1)] [(5,.int .i64 (y4+1))] hc19 ?_
  refine A.AL.done ?_
  exact A.j ⟨_,Nat.lt_succ_self _,⟨(y4+1),rfl,rfl,(Z.i64_has hc19),hF⟩⟩
 refine A.xl 3 ?_
 refine A.q0 [] [] [.n] [(4,.bool true)] ?_
 refine A.dx 1 ?_
 obtain rfl:=Option.some.inj hF
 exact A.rt1 [] ⟨rfl,rfl⟩
def F.L09_DeltaNothing_j1 (y26:Bool):Option Bool:=some y26
def F.L09_DeltaNothing_j2 (a0:D23)(y4:Bool):Option Bool:=if y4=true then(some true)else((F.delta_Apply a0 ([],[],[])).bind fun r5=>((F.delta_Diff a0 a0).bind fun r11=>((F.delta_Touched a0 ([],[],[])).bind fun r21=>(if(bif bif decide (r5.2=0)then decide (r11.2=0)else false then decide (r21.2=0)else false)=true then((F.R08_Same r5.1 a0).bind fun r27=>(if r27=true then((F.R09_Same (r11.1.1,r11.1.2.1,r11.1.2.2) ([],[],[])).bind fun r29=>(F.L09_DeltaNothing_j1 (bif r29 then decide (((r21.1).length:Int)=0)else false)))else(F.L09_DeltaNothing_j1 false)))else(F.L09_DeltaNothing_j1 false)))))
def F.L09_DeltaNothing (a0:D23):Option Bool:=(F.L09_live).bind fun r2=>(if(!r2)=true then(some false)else((F.L09_few [a0]).bind fun r32=>(if(!r32)=true then(F.L09_DeltaNothing_j2 a0 true)else((F.R08_Check a0).bind fun r34=>(F.L09_DeltaNothing_j2 a0 (decide (r34≠0)))))))
theorem L09_DeltaNothing_ok (a0:D23)(A0_:Option Addr)(c1_:Nat)(r:Bool)(hF:F.L09_DeltaNothing a0=some r):
    A.Ct Tryz.prog 5 [.agg #[.slice A0_ ((a0).length) c1_]] [(0,.sh (.slice T69) [.slice A0_ (a0).length c1_] a0),(1,.el none 0 0 A.tabF),(2,.el none 1 0 A.tabA)] [] (fun v H'=>v=.bool r∧H'=[]):=by
 refine A.Ct.enter Tryz.func5 rfl Tryz.ntmps5 rfl fun w0 F0=>?_
 rw[F.L09_DeltaNothing]at hF
 refine A.xl 1 ?_
 refine A.AL.box 3 (cs:=[.slice A0_ ((a0).length) c1_]) fun g1=>?_
 refine A.q0 [] [] [.n] [] ?_
 refine A.dl 3 ?_
 obtain⟨r2,hv3,hF⟩:=A.bd_some hF
 refine A.AL.call 4 [] (first:=[]) (cap:=[]) cf8 (L09_live_ok r2 hv3) (.s 1 (.s 2 .nil)) ?_
 rintro _ _ ⟨rfl,rfl⟩
 refine⟨by kernel_rfl,?_⟩
 refine A.q0 [] [] [.n] [(10,.bool (!r2))] ?_
 refine A.dx 1 ?_
 refine A.AX.cnb rfl hF (fun hb hF=>?_) (fun hb hF=>?_)
 ·refine A.xl 1 ?_
  refine A.q0 [] [] [.n] [(2,.bool false)] ?_
  refine A.dx 1 ?_
  obtain rfl:=Option.some.inj hF
  exact A.rt1 [] ⟨rfl,rfl⟩
 refine A.xx 3 ?_
 refine A.AX.join [1] [0,1,2,3] (fun nl nh=>∃(y4:Bool),nl=[(20,.bool y4)]∧nh=[]∧F.L09_DeltaNothing_j2 a0 y4=some r) ?_ ?_
 ·refine A.xl 0 ?_
  refine A.q0 [3] [] [.n,.b 0 0] [(12,.slice A0_ ((a0).length) c1_)] ?_
  refine A.AL.bsl 44 (ty:=(Z.Ty.slice T69)) (cs:=[.slice A0_ ((a0).length) c1_]) [a0] ⟨.inl ⟨0,rfl⟩,rfl⟩ (fun g31=>?_) Tryz.zeroValue22 Tryz.sizeOf22
  obtain⟨r32,hv33,hF⟩:=A.bd_some hF
  refine A.AL.call 45 [] (first:=[]) (cap:=[]) cf9 (L09_few_ok [a0] (some ⟨g31,0,none⟩) 1 r32 hv33) (.o 44 .nil) ?_
  rintro _ _ ⟨rfl,rfl⟩
  refine⟨by kernel_rfl,?_⟩
  refine A.q0 [] [] [.n,.n] [(16,.bool (!r32))] ?_
  refine A.AL.cnd (j:=16) rfl hF (fun hF=>?_) (fun hF=>?_)
  ·refine A.q0 [] [] [.off,.off,.off,.n] [(20,.bool true)] ?_
   refine A.AL.done ?_
   exact A.j ⟨true,rfl,rfl,hF⟩
  refine A.q0 [3] [] [.on (.b 0 0)] [(17,.agg #[.slice A0_ ((a0).length) c1_])] ?_
  refine A.AL.on (dj:=16) rfl rfl ?_
  obtain⟨r34,hv35,hF⟩:=A.bd_some hF
  refine A.AL.call 85 [] (first:=[]) (cap:=[]) cf18 (R08_Check_ok a0 A0_ c1_ r34 hv35) (.s 0 .nil) ?_
  rintro _ _ ⟨rfl,rfl,hr36⟩
  refine⟨by kernel_rfl,?_⟩
  refine A.q0 [] [] [.on .n,.n] [(20,.bool (decide (r34≠0)))] ?_
  refine A.AL.done ?_
  exact A.j ⟨(decide (r34≠0)),rfl,rfl,hF⟩
 rintro _ _ ⟨y4,rfl,rfl,hF⟩
 rw[F.L09_DeltaNothing_j2]at hF
 refine A.AX.cnb rfl hF (fun hb hF=>?_) (fun hb hF=>?_)
 ·refine A.xl 1 ?_
  refine A.q0 [] [] [.n] [(2,.bool true)] ?_
  refine A.dx 1 ?_
  obtain rfl:=Option.some.inj hF
  exact A.rt1 [] ⟨rfl,rfl⟩
 refine A.xl 3 ?_
 refine A.q0 [3] [] [.b 0 0,.n] [(22,.agg #[.slice A0_ ((a0).length) c1_]),(23,.agg #[.slice none 0 0,.slice none 0 0,.slice none 0 0])] ?_
 obtain⟨r5,hv6,hF⟩:=A.bd_some hF
 refine A.AL.call 125 [] (first:=[]) (cap:=[]) cf11 (delta_Apply_ok a0 ([],[],[]) A0_ c1_ none 0 none 0 none 0 r5 hv6) (.s 0 (.ns (.ns (.ns (.s 1 (.s 2 .nil)))))) ?_
 rintro _ _ ⟨A7,c8,rfl,rfl,hr9⟩
 refine⟨by kernel_rfl,?_⟩
 refine A.q0 [] [] [.n,.n,.n] [(25,.agg #[.slice A7 ((r5.1).length) c8]),(26,.int .i64 r5.2)] ?_
 refine A.AL.alloc 165 (cs:=[.slice none 0 0]) Tryz.zeroValue24 fun g10=>?_
 refine A.sw 165 [] [.slice A7 ((r5.1).length) c8] ?_
 refine A.q0 [] [] [.n] [(4,.int .i64 r5.2)] ?_
 refine A.dl 2 ?_
 refine A.q0 [3] [] [.b 0 0,.b 0 0] [(28,.agg #[.slice A0_ ((a0).length) c1_]),(29,.agg #[.slice A0_ ((a0).length) c1_])] ?_
 obtain⟨r11,hv12,hF⟩:=A.bd_some hF
 refine A.AL.call 166 [] (first:=[]) (cap:=[]) cf15 (delta_Diff_ok a0 a0 A0_ c1_ A0_ c1_ r11 hv12) (.s 0 (.s 0 (.s 1 (.s 2 .nil)))) ?_
 rintro _ _ ⟨A13,c14,A15,c16,A17,c18,rfl,rfl,hr19⟩
 refine⟨by kernel_rfl,?_⟩
 refine A.q0 [] [] [.n,.n,.n] [(31,.agg #[.slice A13 ((r11.1.1).length) c14,.slice A15 ((r11.1.2.1).length) c16,.slice A17 ((r11.1.2.2).length) c18]),(32,.int .i64 r11.2)] ?_
 refine A.AL.alloc 206 (cs:=[.slice none 0 0,.slice none 0 0,.slice none 0 0]) Tryz.zeroValue28 fun g20=>?_
 refine A.sw 206 [] [.slice A13 ((r11.1.1).length) c14,.slice A15 ((r11.1.2.1).length) c16,.slice A17 ((r11.1.2.2).length) c18] ?_
 refine A.q0 [] [] [.n] [(6,.int .i64 r11.2)] ?_
 refine A.dl 2 ?_
 refine A.q0 [3] [] [.b 0 0,.n] [(34,.agg #[.slice A0_ ((a0).length) c1_]),(35,.agg #[.slice none 0 0,.slice none 0 0,.slice none 0 0])] ?_
 obtain⟨r21,hv22,hF⟩:=A.bd_some hF
 refine A.AL.call 207 [] (first:=[]) (cap:=[]) cf19 (delta_Touched_ok a0 ([],[],[]) A0_ c1_ none 0 none 0 none 0 r21 hv22) (.s 0 (.ns (.ns (.ns (.s 1 (.s 2 .nil)))))) ?_
 rintro _ _ ⟨A23,c24,rfl,rfl,hr25⟩
 refine⟨by kernel_rfl,?_⟩
 refine A.q0 [] [] [.n,.n,.n,.n,.n] [(7,.slice A23 ((r21.1).length) c24),(8,.int .i64 r21.2)] ?_
 refine A.dx 1 ?_
 refine A.AX.join [] [1,2] (fun nl nh=>∃(y26:Bool),nl=[(2,.bool y26)]∧nh=[]∧F.L09_DeltaNothing_j1 y26=some r) ?_ ?_
 ·refine A.xl 0 ?_
  refine A.q0 [] [] [.n,.n,.n,.sy .n,.sy .n,.pk,.n,.sy .n,.sy .n,.pk,.n] [(49,.bool (bif bif decide (r5.2=0)then decide (r11.2=0)else false then decide (r21.2=0)else false))] ?_
  refine A.AL.cnd (j:=49) rfl hF (fun hF=>?_) (fun hF=>?_)
  ·refine A.q0 [165,3] [] [.on (.b 0 0),.on (.b 1 0)] [(50,.agg #[.slice A7 ((r5.1).length) c8]),(51,.agg #[.slice A0_ ((a0).length) c1_])] ?_
   refine A.AL.on (dj:=49) rfl rfl ?_
   obtain⟨r27,hv28,hF⟩:=A.bd_some hF
   refine A.AL.call 247 [] (first:=[]) (cap:=[]) cf13 (R08_Same_ok r5.1 a0 A7 c8 A0_ c1_ r27 hv28) (.s 125 (.s 0 .nil)) ?_
   rintro _ _ ⟨rfl,rfl⟩
   refine⟨by kernel_rfl,?_⟩
   refine A.q0 [] [] [.n,.n] [(54,.bool r27)] ?_
   refine A.AL.cnd (j:=54) rfl hF (fun hF=>?_) (fun hF=>?_)
   ·refine A.q0 [206] [] [.on (.b 0 0),.on .n] [(55,.agg #[.slice A13 ((r11.1.1).length) c14,.slice A15 ((r11.1.2.1).length) c16,.slice A17 ((r11.1.2.2).length) c18]),(56,.agg #[.slice none 0 0,.slice none 0 0,.slice none 0 0])] ?_
    refine A.AL.on (dj:=54) rfl rfl ?_
    obtain⟨r29,hv30,hF⟩:=A.bd_some hF
    refine A.AL.call 287 [] (first:=[]) (cap:=[]) cf17 (R09_Same_ok (r11.1.1,r11.1.2.1,r11.1.2.2) ([],[],[]) A13 c14 A15 c16 A17 c18 none 0 none 0 none 0 r29 hv30) (.s 166 (.s 167 (.s 168 (.ns (.ns (.ns .nil)))))) ?_
    rintro _ _ ⟨rfl,rfl⟩
    refine⟨by kernel_rfl,?_⟩
    refine A.q0 [] [] [.n,.n,.sy .n,.sy .n,.sy .n,.pk,.n] [(2,.bool (bif r29 then decide (((r21.1).length:Int)=0)else false))] ?_
    refine A.AL.done ?_
    exact A.j ⟨(bif r29 then decide (((r21.1).length:Int)=0)else false),rfl,rfl,hF⟩
   refine A.q0 [] [] [.off,.off,.off,.n,.n,.off,.off,.off,.n,.n] [(2,.bool false)] ?_
   refine A.AL.done ?_
   exact A.j ⟨false,rfl,rfl,hF⟩
  refine A.q0 [] [] [.off,.off,.off,.n,.n,.off,.off,.off,.n,.n,.off,.off,.off,.n,.n] [(2,.bool false)] ?_
  refine A.AL.done ?_
  exact A.j ⟨false,rfl,rfl,hF⟩
 rintro _ _ ⟨y26,rfl,rfl,hF⟩
 rw[F.L09_DeltaNothing_j1]at hF
 obtain rfl:=Option.some.inj hF
 exact A.rt1 [] ⟨rfl,rfl⟩
end Go.Proofs.YtocfaokgoflmhaaGreatDoor
end
section
set_option linter.unusedVariables false
set_option linter.unusedSimpArgs false
set_option maxRecDepth 20000
set_option maxHeartbeats 8000000
set_option synthInstance.maxSize 1000000
set_option synthInstance.maxHeartbeats 400000
namespace Go.Proofs.YtocfaokgoflmhaaGreatDoor
open Go.RowKit
end Go.Proofs.YtocfaokgoflmhaaGreatDoor
end
section
set_option linter.unusedVariables false
set_option linter.unusedSimpArgs false
set_option maxRecDepth 20000
set_option maxHeartbeats 8000000
set_option synthInstance.maxSize 1000000
set_option synthInstance.maxHeartbeats 400000
namespace Go.Proofs.YtocfaokgoflmhaaGreatDoor
open Go.RowKit
end Go.Proofs.YtocfaokgoflmhaaGreatDoor
end
section
set_option linter.unusedVariables false
set_option linter.unusedSimpArgs false
set_option maxRecDepth 20000
set_option maxHeartbeats 8000000
set_option synthInstance.maxSize 1000000
set_option synthInstance.maxHeartbeats 400000
namespace Go.Proofs.YtocfaokgoflmhaaGreatDoor
open Go.RowKit
end Go.Proofs.YtocfaokgoflmhaaGreatDoor
end
section
end
section
set_option linter.unusedVariables false
namespace Go.A
open Go.RowKit Go.Z Go.Shelf Go.Proofs Go.Lib
def Hall (W:World):List (Nat×Res)→Prop
 | []=>True
 |p::H=>(p.2.bl=[]∧p.2.ref=none∧p.2.holds W (fun _=>True) (fun _ _=>False))∧Hall W H
theorem Hall.at {W:World}: ∀{H:List (Nat×Res)} {k:Nat} {r:Res},Hall W H→hk H k=some r→r.bl=[]∧r.ref=none∧r.holds W (fun _=>True) (fun _ _=>False)
 | [],_,_,_,h=>by cases h
 |(d,u)::H,k,r,ha,h=>by
  rw[hk_cons]at h
  split at h
  ·injection h with h;subst h;exact ha.1
  ·exact ha.2.at h
theorem Hp.start {W:World}{H:List (Nat×Res)}(h:Hall W H):Hp ⟨0,[],W,[],fun _=>True⟩ H W:=by
 have hb: ∀k b,¬Bk H k b:=fun k b ⟨r,h1,h2⟩=>by rw[(h.at h1).1]at h2;cases h2
 refine⟨Ch.refl W,fun k r hk=>?_,fun k b hB=>(hb k b hB).elim,fun k k' b hB=>(hb k b hB).elim,fun k r j hk hr=>?_⟩
 ·exact Res.to (S:=[]) (h.at hk).2.2 (Ch.refl W) (fun b _ _=>⟨by simp,fun k=>hb k b,.inl trivial⟩) (fun b _ _=>⟨by simp,fun k=>hb k b⟩) (fun i b _ hf=>hf.elim) (by simp)
 ·rw[(h.at hk).2.1]at hr;cases hr
theorem Hall.sh {W:World}{t:Ty}{cs:List Value}{x:t.den}{F:Nat→Prop}(h:t.rep W F cs x):(Res.sh t cs x).bl=[]∧(Res.sh t cs x).ref=none∧(Res.sh t cs x).holds W (fun _=>True) (fun _ _=>False):=
 ⟨rfl,rfl,rep_as h fun _ _ _=>trivial⟩
theorem Hall.ln {W:World}{t:Ty}{A:Option Addr}{c n:Nat}{xs:List t.den}{F:Nat→Prop}(h:(Ty.slice t).rep W F [.slice A xs.length c] xs):(Res.ln t A c xs).bl=[]∧(Res.ln t A c xs).ref=none∧(Res.ln t A c xs).holds W (fun _=>True) (fun _ _=>False):=
 ⟨rfl,rfl,Row.to (S:=[]) (Row.of h) (Ch.refl W) (fun _ _ _=>⟨by simp,trivial⟩) (fun _ _ _=>⟨by simp,fun _ h=>h⟩)⟩
def putCells (cs:List Value):Obj→Obj
 | .cells _ t frozen=>.cells cs.toArray t frozen
 |o=>o
theorem tab_cells {w:World}{g3 g4:Nat}(h:Lib.Utf8Tabs g3 g4 w):Cells w ⟨g3,0,none⟩ tabF∧Cells w ⟨g4,0,none⟩ tabA:=by
 constructor
 ·intro j u hu
  rw[Addr.add_lit,Nat.zero_add]
  have hj:j<256:=by have:=(List.getElem?_eq_some_iff.1 hu).1;simpa[tabF] using this
  have e:tabF[j]?=some (.int .u8 (firstT j)):=by simp[tabF,hj]
  rw[e]at hu;injection hu with hu;subst hu
  exact h.1 j hj
 ·intro j u hu
  rw[Addr.add_lit,Nat.zero_add]
  have hj:j<32:=by have:=(List.getElem?_eq_some_iff.1 hu).1;simpa[tabA] using this
  have e:tabA[j]?=some (.int .u8 (if j%2=0 then accLo (j / 2)else accHi (j / 2))):=by simp[tabA,hj]
  rw[e]at hu;injection hu with hu;subst hu
  have:=h.2 (j / 2) (by omega)
  by_cases he:j%2=0
  ·rw[if_pos he]
   have hj2:j=2*(j / 2):=by omega
   rw[hj2];simpa using this.1
  ·rw[if_neg he]
   have hj2:j=2*(j / 2)+1:=by omega
   have h3:(2*(j / 2)+1) / 2=j / 2:=by omega
   rw[hj2,h3];exact this.2
theorem Hall.tabs {w:World}{g3 g4 i j:Nat}(h:Lib.Utf8Tabs g3 g4 w):Hall w [(i,.el none g3 0 tabF),(j,.el none g4 0 tabA)]:=by
 obtain⟨h1,h2⟩:=tab_cells h
 exact⟨⟨rfl,rfl,h1,World.block_lt_of_cell? w _ (h1 0 (.int .u8 (firstT 0)) (by simp[tabF])),fun _ h=>h⟩,⟨rfl,rfl,h2,World.block_lt_of_cell? w _ (h2 0 (.int .u8 (accLo 0)) (by simp[tabA])),fun _ h=>h⟩,trivial⟩
end Go.A
end
section
namespace Go.Graph
abbrev Fun:=Int×Int×ByteArray
abbrev Nd:=Int×Int×List Int×Fun×ByteArray×Int×Int
abbrev Pl:=Int×Int
abbrev Sp:=Pl×Int
abbrev id (x:Nd):Int:=x.1
abbrev kind (x:Nd):Int:=x.2.1
abbrev fn (x:Nd):Fun:=x.2.2.2.1
abbrev name (x:Nd):ByteArray:=x.2.2.2.2.1
abbrev cap (x:Nd):Int:=x.2.2.2.2.2.1
abbrev dep (x:Nd):Int:=x.2.2.2.2.2.2
def Few (g:List Nd):Prop:=g.length≤40∧∀x,x∈g→x.2.2.1.length≤5000∧x.2.2.2.2.1.size≤5000∧x.2.2.2.1.2.2.size≤5000
theorem Few.in {g:List Nd}{k:Nat}{x:Nd}(h:Few g)(hx:g[k]?=some x):x.2.2.1.length≤5000:=(h.2 x (List.mem_of_getElem? hx)).1
def insK (k:Int):Int:=if k<1∨16<k then-1 else if k=1 then 0 else if k=5∨k=9 then 2 else 1
def letter (c:UInt8):Bool:=decide ((97:Int)≤(c.toNat:Int)∧(c.toNat:Int)≤122∨(65:Int)≤(c.toNat:Int)∧(c.toNat:Int)≤90)
def digit (c:UInt8):Bool:=decide ((48:Int)≤(c.toNat:Int)∧(c.toNat:Int)≤57)
def wordy (l:List UInt8):Bool:=l.all fun c=>letter c||digit c
def named (s:ByteArray):Bool:=decide (s≠ByteArray.mk #[])&&decide ((s.size:Int)≤16)&&letter (Z.bat s 0)&&wordy s.data.toList
theorem drop_bat {s:ByteArray}{i:Nat}(h:i<s.size):s.data.toList.drop i=Z.bat s i::s.data.toList.drop (i+1):=by
 have h':i<s.data.toList.length:=by simpa using h
 rw[List.drop_eq_getElem_cons h']
 have h2:i<s.data.size:=h
 congr 1
 simp[Z.bat,Array.getElem?_eq_getElem h2]
theorem drop_end {s:ByteArray}{i:Nat}(h: ¬i<s.size):s.data.toList.drop i=[]:=
 List.drop_eq_nil_of_le (by have h1:s.data.toList.length=s.size:=rfl;omega)
theorem size_pos {s:ByteArray}(h:s≠ByteArray.mk #[]):0<s.size:=by
 rcases Nat.eq_zero_or_pos s.size with h0|h0
 ·have h1:s.data=#[]:=Array.eq_empty_of_size_eq_zero h0
  exact absurd (by cases s;simp_all) h
 ·exact h0
def idxF (id:Int):Nat→List Nd→Int
 |_,[]=> -1
 |k,x::r=>if x.1=id then(k:Int)else idxF id (k+1) r
def idx (g:List Nd)(id:Int):Int:=idxF id 0 g
def namedF (kd:Int)(s:ByteArray):List Nd→Int×Bool
 | []=>(0,false)
 |x::r=>if kind x=kd∧name x=s then(x.1,true)else namedF kd s r
def z0:Nd:=(0,0,[],(0,0,ByteArray.mk #[]),ByteArray.mk #[],0,0)
def at_ (g:List Nd)(i:Int):Nd:=(g[i.toNat]?).getD z0
def find (g:List Nd)(id:Int):Nd×Bool:=if idx g id<0 then(z0,false)else(at_ g (idx g id),true)
theorem idxF_le (id:Int): ∀(k:Nat) (g:List Nd),-1≤idxF id k g∧idxF id k g<k+g.length
 |k,[]=>by simp[idxF];omega
 |k,x::r=>by
  unfold idxF
  have:=idxF_le id (k+1) r
  by_cases h:x.1=id
  ·rw[if_pos h];simp only[List.length_cons];omega
  ·rw[if_neg h];simp only[List.length_cons];omega
theorem idx_le (g:List Nd)(id:Int): -1≤idx g id∧idx g id<g.length:=by
 have:=idxF_le id 0 g
 unfold idx;omega
theorem at_some {g:List Nd}{i:Int}{x:Nd}{k:Nat}(hk:i=(k:Int))(h:g[k]?=some x):at_ g i=x:=by
 subst hk;simp[at_,h]
def ownT (g:List Nd)(n:Nd):Bool:=if n.2.1≠1∧n.2.1≠15 then decide (n.2.2.2.2.1=ByteArray.mk #[])else named n.2.2.2.2.1&&decide ((namedF n.2.1 n.2.2.2.2.1 g).1=n.1)
def ownC (n:Nd):Prop:=n.2.1=14∧(n.2.2.2.2.2.1<1∨8<n.2.2.2.2.2.1∨n.2.2.2.2.2.2<1∨4<n.2.2.2.2.2.2)∨n.2.1≠14∧(n.2.2.2.2.2.1≠0∨n.2.2.2.2.2.2≠0)
instance (n:Nd):Decidable (ownC n):=by unfold ownC;infer_instance
def own (g:List Nd)(i:Int)(n:Nd):Bool:=
 if n.1<1∨255<n.1∨0<i∧n.1≤(at_ g (i-1)).1∨insK n.2.1<0∨(n.2.2.1.length:Int)≠insK n.2.1 then false else if ownC n then false else ownT g n
def bget (l:List Bool)(i:Int):Bool:=(l[i.toNat]?).getD false
def iget (l:List Int)(i:Int):Int:=(l[i.toNat]?).getD 0
def Fed (g:List Nd):Prop:=∀x,x∈g→∀k,k∈x.2.2.1→0≤idx g k
def readyF (g:List Nd)(done:List Bool)(kd:Int):List Int→Bool
 | []=>true
 |k::r=>if kd≠14∧bget done (idx g k)=false then false else readyF g done kd r
def ready (g:List Nd)(done:List Bool)(n:Nd):Bool:=readyF g done n.2.1 n.2.2.1
def firstF (g:List Nd)(done:List Bool):Nat→List Nd→Int→Int
 |_,[],a=>a
 |i,x::r,a=>firstF g done (i+1) r (if(a<0∧bget done i=false)∧ready g done x=true then i else a)
def orderF (g:List Nd):Nat→List Bool→List Int→Option (List Int)
 |0,_,l=>some l
 |f+1,done,l=>if firstF g done 0 g (-1)<0 then none else orderF g f (done.set (firstF g done 0 g (-1)).toNat true) (l++[firstF g done 0 g (-1)])
def d0:List Int→Int
 | []=>0
 |a::_=>a
def capd (d:Int):Int:=if 4<d then-1 else d
def depthA (n:Nd)(l:List Int):Int:=if n.2.1=14 then n.2.2.2.2.2.2 else if n.2.1=12 then d0 l+1 else if n.2.1=13 then d0 l-1 else
 if n.2.1=5∨n.2.1=9 then(if iget l 0≠iget l 1 then-1 else d0 l)else if n.2.1=11∨n.2.1=16∨n.2.1=15 then(if d0 l≠0 then-1 else d0 l)else d0 l
def depthOf (n:Nd)(l:List Int):Int:=capd (depthA n l)
theorem d0_iget {l:List Int}:iget l 0=d0 l:=by cases l<;>rfl
theorem d0_nil {l:List Int}(h:l.length=0):0=d0 l:=by cases l with
 |nil=>rfl
 |cons a r=>simp at h
def depthsF (g:List Nd):List Int→List Int→Option (List Int)
 | [],d=>some d
 |p::r,d=>if depthOf (at_ g p) ((at_ g p).2.2.1.map fun k=>iget d (idx g k))<0 then none else depthsF g r (d.set p.toNat (depthOf (at_ g p) ((at_ g p).2.2.1.map fun k=>iget d (idx g k))))
def loopsF (g:List Nd)(d:List Int):List Nd→Bool
 | []=>true
 |x::r=>if x.2.1=14∧iget d (idx g (iget x.2.2.1 0))≠x.2.2.2.2.2.2 then false else loopsF g d r
theorem firstF_le (g:List Nd)(done:List Bool): ∀(i:Nat) (l:List Nd) (a:Int),-1≤a→a<i+l.length→ -1≤firstF g done i l a∧firstF g done i l a<i+l.length
 |i,[],a,h1,h2=>by simp[firstF]at*;omega
 |i,x::r,a,h1,h2=>by
  unfold firstF
  simp only[List.length_cons]at h2 ⊢
  have:=firstF_le g done (i+1) r (if(a<0∧bget done i=false)∧ready g done x=true then i else a) (by split<;>omega) (by split<;>omega)
  omega
def depths (g:List Nd)(l:List Int):List Int×Bool:=match depthsF g l (List.replicate g.length 0)with
 |some d=>if loopsF g d g then(d,true)else([],false)
 |none=>([],false)
abbrev inD (g:List Nd) (d:List Int) (l:List Int):List Int:=l.map fun k=>iget d (idx g k)
def InB (d:List Int):Prop:=∀i,0≤iget d i∧iget d i≤4
theorem InB.rep (n:Nat):InB (List.replicate n 0):=fun i=>by
 unfold iget;rw[List.getElem?_replicate];split<;>simp
theorem depthOf_le (n:Nd)(l:List Int):depthOf n l≤4:=by unfold depthOf capd;split<;>omega
theorem InB.set {d:List Int}(h:InB d)(p:Nat){v:Int}(h0:0≤v)(h1:v≤4):InB (d.set p v):=fun i=>by
 unfold iget;rw[List.getElem?_set]
 have:=h i
 unfold iget at this
 split
 ·split<;>simp<;>omega
 ·exact this
theorem InB.d0 {d:List Int}(h:InB d)(g:List Nd)(l:List Int): -1≤Graph.d0 (inD g d l)∧Graph.d0 (inD g d l)≤4:=by
 cases l with
 |nil=>simp[Graph.d0]
 |cons k r=>have:=h (idx g k);simp only[inD,List.map_cons,Graph.d0];omega
theorem inD_take {g:List Nd}{d l:List Int}{k:Nat}{x:Int}(h:l[k]?=some x):inD g d (l.take k)++[iget d (idx g x)]=inD g d (l.take (k+1)):=by
 have h1:=(List.getElem?_eq_some_iff.1 h)
 rw[List.take_add_one,h];simp[inD]
def insS (g:List Nd)(d:List Int)(id:Int):Nat→List Int→List Sp
 |_,[]=>[]
 |k,x::r=>((id,(k:Int)),iget d (idx g x))::insS g d id (k+1) r
def outS (n:Nd)(v:Int):List Sp:=if n.2.1≠15 then [((n.1,2),v)]else []
def spotsF (g:List Nd)(d:List Int):Nat→List Nd→List Sp
 |_,[]=>[]
 |i,n::r=>insS g d n.1 0 n.2.2.1++(outS n (iget d i)++spotsF g d (i+1) r)
def spots (g:List Nd)(d:List Int):List Sp:=spotsF g d 0 g
def atS (p:Pl):List Sp→Int
 | []=> -1
 |x::r=>if x.1=p then x.2 else atS p r
abbrev Sm:=Int×Int×Int×Int×(Int×Int×Int×Int)
def z8:Sm:=(0,0,0,0,(0,0,0,0))
def stepP (d a b:Int)(s:Sm):Sm×Int:=if d<a∨b<d then(z8,11)else((d,s.2),0)
def idP (d:Int):Sm×Int:=stepP d 0 4 (0,d,0,0,(0,0,0,0))
def enterP (d:Int):Sm×Int:=stepP d 0 3 (0,d,0,1,(0,0,0,0))
def leaveP (d:Int):Sm×Int:=stepP d 1 4 (0,d-1,0,0,(0,0,0,0))
def nextP (d:Int):Sm×Int:=stepP d 1 4 (0,d,1,0,(0,0,0,0))
def withinP (n:Nd)(d:Int):Sm:=if n.2.1=12 then(enterP d).1 else if n.2.1=13 then(leaveP d).1 else if n.2.1=14 then(nextP d).1 else(idP d).1
theorem width_pos (s:ByteArray)(pos:Nat):1≤(Utf8.decode s pos).2:=by
 unfold Utf8.decode;simp only[];repeat' split
 all_goals first|exact Nat.le_refl 1|(simp;done)|omega
def numberF (f:Fun):Bool:=if f.1=3∨f.1=13 then decide (0≤f.2.1∧f.2.1≤64)else if f.1=6∨f.1=11 then decide (1≤f.2.1∧f.2.1≤1048576)else decide (f.2.1=0)
def tail5 (c:UInt8):Bool:=decide (128≤(c.toNat:Int)∧(c.toNat:Int)≤191)
end Go.Graph
end
section
set_option linter.unusedVariables false
set_option linter.unusedSimpArgs false
namespace Go.A
open Go.Z
theorem r64n {n:Nat}(h:n<4611686018427387904):R64 ((n:Int)+1):=⟨by omega,by omega⟩
theorem gd1 {α:Type}{p:Prop}[Decidable p](h:p)(x:Option α):gd p x=x:=if_pos h
theorem ixn {α:Type}{xs:List α}{k:Nat}{x:α}(h:xs[k]?=some x):ix xs (k:Int)=some x:=by rw[ix_nat];exact h
theorem ixg {α:Type}{xs:List α}{i:Int}{x:α}(h0:0≤i)(h:xs[i.toNat]?=some x):ix xs i=some x:=by unfold ix;rw[if_neg (by omega)];exact h
theorem dropx {α:Type}{xs:List α}{k:Nat}{x:α}(h:xs[k]?=some x):xs.drop k=x::xs.drop (k+1):=by
 obtain⟨h1,h2⟩:=List.getElem?_eq_some_iff.1 h
 rw[List.drop_eq_getElem_cons h1,h2]
theorem ba {p q:Prop}[Decidable p][Decidable q]:(bif decide p then decide q else false)=decide (p∧q):=by by_cases h:p<;>simp[h]
theorem bo {p q:Prop}[Decidable p][Decidable q]:(bif decide p then true else decide q)=decide (p∨q):=by by_cases h:p<;>simp[h]
theorem bn {p:Prop}[Decidable p]:(!decide p)=decide (¬p):=by by_cases h:p<;>simp[h]
theorem lp {α σ ρ:Type}(xs:List α)(L:Nat→σ→Int→Option ρ)(G:Nat→List α→σ→Option ρ)(P:Nat→σ→Prop)
  (h0: ∀f s,P xs.length s→L (f+1) s (xs.length:Int)=G xs.length [] s)
  (h1: ∀f s (k:Nat) x,xs[k]?=some x→k<xs.length→P k s→(∀s',P (k+1) s'→L f s' ((k:Int)+1)=G (k+1) (xs.drop (k+1)) s')→L (f+1) s k=G k (x::xs.drop (k+1)) s)
  (hl:xs.length<FU) (s:σ) (hs:P 0 s):L FU s 0=G 0 xs s:=by
 have main: ∀(n k f:Nat) (s:σ),k+n=xs.length→n<f→P k s→L f s (k:Int)=G k (xs.drop k) s:=by
  intro n
  induction n with
  |zero=>
   intro k f s hk hf hp
   obtain⟨f,rfl⟩: ∃f',f=f'+1:=⟨f-1,by omega⟩
   obtain rfl:k=xs.length:=by omega
   rw[List.drop_eq_nil_of_le (Nat.le_refl _)];exact h0 f s hp
  |succ n ih=>
   intro k f s hk hf hp
   obtain⟨f,rfl⟩: ∃f',f=f'+1:=⟨f-1,by omega⟩
   have hx:xs[k]?=some xs[k]:=List.getElem?_eq_getElem (by omega)
   rw[dropx hx]
   exact h1 f s k _ hx (by omega) hp fun s' hp'=>ih (k+1) f s' (by omega) (by omega) hp'
 have:=main xs.length 0 FU s (by omega) hl hs
 simpa using this
theorem lp0 {α ρ:Type}(xs:List α)(L:Nat→Int→Option ρ)(G:Nat→List α→Option ρ)
  (h0: ∀f,L (f+1) (xs.length:Int)=G xs.length [])
  (h1: ∀f (k:Nat) x,xs[k]?=some x→k<xs.length→L f ((k:Int)+1)=G (k+1) (xs.drop (k+1))→L (f+1) k=G k (x::xs.drop (k+1)))
  (hl:xs.length<FU):L FU 0=G 0 xs:=
 lp xs (fun f (_:Unit) y=>L f y) (fun k l _=>G k l) (fun _ _=>True) (fun f s _=>h0 f) (fun f s k x hx hk _ ih=>h1 f k x hx hk (ih () trivial)) hl () trivial
end Go.A
namespace Go.Proofs.YtocfaokgoflmhaaGreatDoor
open Go.RowKit Go.Graph
theorem FU_big:(1000000000000:Nat)<A.FU:=by decide
theorem Ins_eq (k:Int):F.graph_Ins k=F.R08_Ins k:=rfl
theorem R08_Ins_eq (k:Int):F.R08_Ins k=some (insK k):=by
 unfold F.R08_Ins insK
 simp only[Bool.cond_decide]
 by_cases h1:k<1<;>by_cases h2:16<k<;>simp[h1,h2]
 by_cases h3:k=1
 ·simp[h3]
 ·by_cases h4:k=5<;>by_cases h5:k=9<;>simp[h3,h4,h5]
theorem ixb {s:ByteArray}{k:Nat}(h:k<s.size):A.ix s.data.toList (k:Int)=some (Z.bat s k):=by
 refine A.ixn ?_
 have:=drop_bat h
 rw[←List.head?_drop,this];rfl
theorem size_list (s:ByteArray):s.data.toList.length=s.size:=rfl
theorem letter_eq (c:UInt8):F.R08_letter c=some (letter c):=by
 unfold F.R08_letter letter
 by_cases h1:(97:Int)≤(c.toNat:Int)<;>by_cases h2:(c.toNat:Int)≤122<;>simp[h1,h2]
theorem digit_eq (c:UInt8):F.R08_digit c=some (digit c):=by
 unfold F.R08_digit digit
 by_cases h1:(48:Int)≤(c.toNat:Int)<;>by_cases h2:(c.toNat:Int)≤57<;>simp[h1,h2]
theorem name_eq (s:ByteArray)(hs:s.size≤5000):F.R08_name s=some (named s):=by
 have loop:F.R08_name_l2 s A.FU 0=some (wordy s.data.toList):=A.lp0 s.data.toList (fun f y=>F.R08_name_l2 s f y) (fun _ l=>some (wordy l))
  (fun f=>by rw[F.R08_name_l2,if_neg (by rw[size_list];omega)];rfl)
  (fun f k x hx hk ih=>by
   have hk':k<s.size:=hk
   rw[F.R08_name_l2,if_pos (by omega),A.ixn hx,Option.bind_some,letter_eq,Option.bind_some]
   cases hl:letter x with
   |true=>
    simp only[Bool.not_true,Bool.false_eq_true,if_false,F.R08_name_j1]
    rw[A.gd1 (A.r64n (by omega)),ih];simp[wordy,hl]
   |false=>
    simp only[Bool.not_false,if_true,A.ixn hx,Option.bind_some,digit_eq,F.R08_name_j1]
    cases hd:digit x with
    |true=>simp only[Bool.not_true,Bool.false_eq_true,if_false];rw[A.gd1 (A.r64n (by omega)),ih];simp[wordy,hl,hd]
    |false=>simp[wordy,hl,hd])
  (by rw[size_list];have:=FU_big;omega)
 unfold F.R08_name named
 by_cases h1:s=ByteArray.mk #[]
 ·simp[h1,F.R08_name_j3]
 ·by_cases h2:(16:Int)<(s.size:Int)
  ·have h2': ¬(s.size:Int)≤16:=by omega
   simp[h1,h2,h2',F.R08_name_j3]
  ·have h2':(s.size:Int)≤16:=by omega
   have h0:=size_pos h1
   have e0:A.ix s.data.toList 0=some (Z.bat s 0):=ixb h0
   simp only[h1,h2,h2',decide_false,cond_false,Bool.false_eq_true,if_false,e0,Option.bind_some,letter_eq,F.R08_name_j3,loop,decide_true,ne_eq,not_false_eq_true,Bool.and_true,Bool.true_and]
   cases letter (Z.bat s 0)<;>simp
end Go.Proofs.YtocfaokgoflmhaaGreatDoor
end
section
set_option linter.unusedVariables false
set_option linter.unusedSimpArgs false
namespace Go.Proofs.YtocfaokgoflmhaaGreatDoor
open Go.RowKit Go.Graph
theorem bat_get (s:ByteArray)(i:Nat):(s.get! i)=Z.bat s i:=by
 cases s;simp[ByteArray.get!,Z.bat,getElem!_def,Option.getD]
 rfl
theorem dec_at (s:ByteArray)(i:Nat):Utf8.decode s i=Lib.decodeN (s.size-i) (Z.bat s i).toNat (Z.bat s (i+1)).toNat (Z.bat s (i+2)).toNat (Z.bat s (i+3)).toNat:=by
 rw[Lib.decode_at,bat_get,bat_get,bat_get,bat_get]
theorem dec_lt {s:ByteArray}{i:Nat}(h:(Z.bat s i).toNat <128):Utf8.decode s i=((Z.bat s i).toNat,1):=by
 rw[dec_at];unfold Lib.decodeN;rw[if_pos h]
theorem dec_ge {s:ByteArray}{i:Nat}(h:128≤(Z.bat s i).toNat):128≤(Utf8.decode s i).1:=by
 rw[dec_at];unfold Lib.decodeN;rw[if_neg (by omega)]
 repeat' split
 all_goals first|(simp only[];omega)|decide
theorem named_eq (s:ByteArray)(hs:s.size≤5000):F.graph_named s=some (named s):=by
 have loop: ∀(n p f:Nat),s.size-p≤n→n<f→F.graph_named_l1 s f p=some ((if p=0∧0<s.size then letter (Z.bat s 0)else true)&&wordy (s.data.toList.drop p)&&(decide (s≠ByteArray.mk #[])&&decide ((s.size:Int)≤16))):=by
  intro n
  induction n with
  |zero=>
   intro p f hp hf
   obtain⟨f,rfl⟩: ∃f',f=f'+1:=⟨f-1,by omega⟩
   rw[F.graph_named_l1,if_neg (by omega),drop_end (by omega),if_neg (by omega)]
   by_cases h1:s=ByteArray.mk #[]<;>simp[h1,wordy]
  |succ n ih=>
   intro p f hp hf
   obtain⟨f,rfl⟩: ∃f',f=f'+1:=⟨f-1,by omega⟩
   by_cases hp2:p<s.size
   ·rw[F.graph_named_l1,if_pos hp2,drop_bat hp2]
    rcases Nat.lt_or_ge (Z.bat s p).toNat 128 with hc|hc
    ·rw[dec_lt hc]
     have ih1:=ih (p+1) f (by omega) (by omega)
     rw[if_neg (fun h=>by omega)]at ih1
     simp only[ih1]
     have e1:(bif decide ((97:Int)≤((Z.bat s p).toNat:Int))then decide (((Z.bat s p).toNat:Int)≤122)else false)=decide ((97:Int)≤((Z.bat s p).toNat:Int)∧((Z.bat s p).toNat:Int)≤122):=by by_cases h:(97:Int)≤((Z.bat s p).toNat:Int)<;>simp[h]
     have e2:(bif decide ((65:Int)≤((Z.bat s p).toNat:Int))then decide (((Z.bat s p).toNat:Int)≤90)else false)=decide ((65:Int)≤((Z.bat s p).toNat:Int)∧((Z.bat s p).toNat:Int)≤90):=by by_cases h:(65:Int)≤((Z.bat s p).toNat:Int)<;>simp[h]
     rw[e1,e2]
     by_cases hL:letter (Z.bat s p)=true
     ·have hL':=hL
      simp only[letter,decide_eq_true_eq]at hL'
      have e3:(if p=0∧0<s.size then letter (Z.bat s 0)else true)=true:=by split;rename_i h;rw[←h.1];exact hL;rfl
      rw[e3]
      simp only[wordy,List.all_cons,hL,Bool.true_or,Bool.true_and]
      by_cases h1:(97:Int)≤((Z.bat s p).toNat:Int)∧((Z.bat s p).toNat:Int)≤122
      ·simp[h1]
      ·have h2:=hL'.resolve_left h1
       simp[h1,h2]
     ·have hL':=hL
      simp only[letter,decide_eq_true_eq,not_or]at hL'
      rw[Bool.not_eq_true]at hL
      simp only[hL'.1,hL'.2,decide_false,Bool.false_eq_true,if_false,Bool.not_false,if_true]
      simp only[wordy,List.all_cons,hL,Bool.false_or]
      by_cases h0:p=0
      ·subst h0;simp[hp2,hL]
      ·have h0': ¬(p:Int)=0:=by omega
       simp only[h0,h0',decide_false,cond_false,false_and,if_false,Bool.true_and]
       by_cases hd:digit (Z.bat s p)=true
       ·have hd':=hd
        simp only[digit,decide_eq_true_eq]at hd'
        have a1: ¬((Z.bat s p).toNat:Int)<48:=by omega
        have a2: ¬(57:Int)<((Z.bat s p).toNat:Int):=by omega
        simp[a1,a2,hd]
       ·have hd':=hd
        simp only[digit,decide_eq_true_eq]at hd'
        rw[Bool.not_eq_true]at hd
        by_cases a1:((Z.bat s p).toNat:Int)<48
        ·simp[a1,hd]
        ·have a2:(57:Int)<((Z.bat s p).toNat:Int):=by omega
         simp[a1,a2,hd]
    ·have hd:=dec_ge hc
     have hL:letter (Z.bat s p)=false:=by unfold letter;rw[decide_eq_false_iff_not];omega
     have hD:digit (Z.bat s p)=false:=by unfold digit;rw[decide_eq_false_iff_not];omega
     have b1: ¬((Utf8.decode s p).1:Int)≤122:=by omega
     have b2: ¬((Utf8.decode s p).1:Int)≤90:=by omega
     have b3:(57:Int)<((Utf8.decode s p).1:Int):=by omega
     have b4: ¬((Utf8.decode s p).1:Int)<48:=by omega
     simp[b1,b2,b3,b4,wordy,hL,hD]
   ·rw[F.graph_named_l1,if_neg hp2,drop_end hp2,if_neg (by omega)]
    by_cases h1:s=ByteArray.mk #[]<;>simp[h1,wordy]
 unfold F.graph_named
 rw[loop s.size 0 A.FU (by omega) (by have:=FU_big;omega)]
 unfold named
 by_cases h1:s=ByteArray.mk #[]
 ·simp[h1]
 ·have h0:=size_pos h1
  simp only[h0,and_self,if_true,List.drop_zero,ne_eq,h1,not_false_eq_true,decide_true,Bool.true_and]
  congr 1
  cases letter (Z.bat s 0)<;>cases wordy s.data.toList<;>simp
end Go.Proofs.YtocfaokgoflmhaaGreatDoor
end
