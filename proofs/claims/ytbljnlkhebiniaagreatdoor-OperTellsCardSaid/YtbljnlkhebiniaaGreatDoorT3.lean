/- Functions on data, and that the code computes them. * A layer over the small logic, continued: iterators that keep a block of their own from yield to yield. No program in sight. -/
import Derived.Test.YtbljnlkhebiniaaGreatDoorT0
import Derived.Test.YtbljnlkhebiniaaGreatDoorT1
import Derived.Test.YtbljnlkhebiniaaGreatDoorT2
section
set_option linter.unusedVariables false
set_option linter.unusedSimpArgs false
set_option maxRecDepth 20000
set_option maxHeartbeats 8000000
set_option synthInstance.maxSize 1000000
set_option synthInstance.maxHeartbeats 400000
namespace Go.Proofs.YtbljnlkhebiniaaGreatDoor
open Go.RowKit
def F.tstamp_Check_l1 (a0:D28):Nat→Int→Option Int
 |0,_=>none
 |f+1,y2=>if y2<4 then((A.ix [a0.2.2.1,a0.2.2.2.1,a0.2.2.2.2.1,a0.2.2.2.2.2] y2).bind fun x5=>(if(bif decide (x5<0)then true else decide ((1048576:Int)<x5))=true then(some 10)else(if(bif decide (a0.2.1≤y2)then decide (x5≠0)else false)=true then(some 10)else(A.gd (Z.R64 (y2+1)) ((F.tstamp_Check_l1 a0 f) (y2+1))))))else(some 0)
def F.tstamp_Check (a0:D28):Option Int:=if(bif bif bif decide (a0.1<0)then true else decide ((1073741824:Int)<a0.1)then true else decide (a0.2.1<0)then true else decide ((4:Int)<a0.2.1))=true then(some 10)else(F.tstamp_Check_l1 a0 A.FU 0)
theorem tstamp_Check_ok (a0:D28)(h0_:IntKind.i64.has a0.1)(h1_:IntKind.i64.has a0.2.1)(h2_:IntKind.i64.has a0.2.2.1)(h3_:IntKind.i64.has a0.2.2.2.1)(h4_:IntKind.i64.has a0.2.2.2.2.1)(h5_:IntKind.i64.has a0.2.2.2.2.2)(r:Int)(hF:F.tstamp_Check a0=some r):
    A.Ct Tryz.prog 58 [.agg #[.int .i64 a0.1,.int .i64 a0.2.1,.int .i64 a0.2.2.1,.int .i64 a0.2.2.2.1,.int .i64 a0.2.2.2.2.1,.int .i64 a0.2.2.2.2.2]] [] [] (fun v H'=>v=.int .i64 r∧H'=[]∧IntKind.i64.has r):=by
 refine A.Ct.enter Tryz.func58 rfl Tryz.ntmps58 rfl fun w0 F0=>?_
 rw[F.tstamp_Check]at hF
 refine A.xl 1 ?_
 refine A.AL.box 0 (cs:=[.int .i64 a0.1,.int .i64 a0.2.1,.int .i64 a0.2.2.1,.int .i64 a0.2.2.2.1,.int .i64 a0.2.2.2.2.1,.int .i64 a0.2.2.2.2.2]) fun g1=>?_
 refine A.q0 [] [] [.n] [] ?_
 refine A.dl 3 ?_
 refine A.q0 [0] [] [.n,.b 0 0,.n,.n,.sy .n,.sy (.b 0 0),.sy .n,.pk,.n,.sy .n,.sy (.b 0 1),.sy .n,.pk,.n,.sy .n,.sy (.b 0 1),.sy .n,.pk] [(22,.bool (bif bif bif decide (a0.1<0)then true else decide ((1073741824:Int)<a0.1)then true else decide (a0.2.1<0)then true else decide ((4:Int)<a0.2.1)))] ?_
 refine A.dx 1 ?_
 refine A.AX.cnb rfl hF (fun hb hF=>?_) (fun hb hF=>?_)
 ·refine A.xl 1 ?_
  refine A.q0 [] [] [.n] [(2,.int .i64 10)] ?_
  refine A.dx 1 ?_
  obtain rfl:=Option.some.inj hF
  exact A.rt1 [] ⟨rfl,rfl,(A.hasl .i64 (10) rfl)⟩
 refine A.xl 4 ?_
 refine A.q0 [0] [] [.n,.b 0 2,.n] [(24,.agg #[.int .i64 a0.2.2.1,.int .i64 a0.2.2.2.1,.int .i64 a0.2.2.2.2.1,.int .i64 a0.2.2.2.2.2]),(25,.int .i64 0)] ?_
 refine A.dx 2 ?_
 refine A.lp_ [1,24] [0] (fun f nl nh=>∃(y2:Int),nl=[(25,.int .i64 y2)]∧nh=[]∧IntKind.i64.has y2∧F.tstamp_Check_l1 a0 f y2=some r) ⟨0,rfl,rfl,(A.hasl .i64 (0) rfl),hF⟩ ?_
 rintro f4 _ _ ⟨y2,rfl,rfl,hy3,hF⟩
 rcases f4 with _|f4
 ·exact A.no0 hF
 rw[F.tstamp_Check_l1]at hF
 refine A.xl 1 ?_
 refine A.q0 [] [] [.n] [(26,.bool (decide (y2<4)))] ?_
 refine A.dx 2 ?_
 refine A.AX.cnd rfl hF (fun hb hF=>?_) (fun hb hF=>?_)
 ·refine A.xl 5 ?_
  refine A.q0 [] [] [.n] [(27,.int .i64 y2)] ?_
  obtain⟨x5,hv6,hF⟩:=A.bd_some hF
  refine A.AL.ixv (fun v:Int=>.int .i64 v) [a0.2.2.1,a0.2.2.2.1,a0.2.2.2.2.1,a0.2.2.2.2.2] hv6 ?_
  refine A.q0 [] [] [.n,.n] [(3,.int .i64 y2),(4,.int .i64 x5)] ?_
  refine A.dl 2 ?_
  refine A.q0 [] [] [.n,.n,.n,.sy .n,.sy .n,.pk,.n] [(35,.bool (bif decide (x5<0)then true else decide ((1048576:Int)<x5)))] ?_
  refine A.AL.cnd (j:=35) rfl hF (fun hF=>?_) (fun hF=>?_)
  ·refine A.q0 [] [] [.off,.off,.off,.off,.off,.off,.off,.off,.n] [(44,.bool true)] ?_
   refine A.dx 1 ?_
   refine A.AX.cnt rfl ?_
   refine A.xl 1 ?_
   refine A.q0 [] [] [.n] [(2,.int .i64 10)] ?_
   refine A.dx 1 ?_
   obtain rfl:=Option.some.inj hF
   exact A.rt1 [] ⟨rfl,rfl,(A.hasl .i64 (10) rfl)⟩
  refine A.q0 [0] [] [.on .n,.on .n,.on (.b 0 1),.on .n,.on .n,.sy .n,.sy .n,.on .pk,.n] [(44,.bool (bif decide (a0.2.1≤y2)then decide (x5≠0)else false))] ?_
  refine A.dx 1 ?_
  refine A.AX.cnb rfl hF (fun hb hF=>?_) (fun hb hF=>?_)
  ·refine A.xl 1 ?_
   refine A.q0 [] [] [.n] [(2,.int .i64 10)] ?_
   refine A.dx 1 ?_
   obtain rfl:=Option.some.inj hF
   exact A.rt1 [] ⟨rfl,rfl,(A.hasl .i64 (10) rfl)⟩
  refine A.xl 3 ?_
  obtain⟨hc7,hF⟩:=A.gd_some hF
  refine A.q [] [] [.n,.n] [Z.R64 (y2+1)] [(25,.int .i64 (y2+1))] hc7 ?_
  refine A.AL.done ?_
  exact A.j ⟨_,Nat.lt_succ_self _,⟨(y2+1),rfl,rfl,(Z.i64_has hc7),hF⟩⟩
 refine A.xl 3 ?_
 refine A.q0 [] [] [.n] [(2,.int .i64 0)] ?_
 refine A.dx 1 ?_
 obtain rfl:=Option.some.inj hF
 exact A.rt1 [] ⟨rfl,rfl,(A.hasl .i64 (0) rfl)⟩
def F.oper_may_l1 (a0:D25)(a3:(List D69))(a4:(List D46))(r5:Int)(r8:Int)(r11:Int)(r14:Int):Nat→Int→Option Int
 |0,_=>none
 |f+1,y17=>if y17<4 then((A.ix [r5,r8,r11,r14] y17).bind fun x20=>(if x20≠0 then(some x20)else(A.gd (Z.R64 (y17+1)) ((F.oper_may_l1 a0 a3 a4 r5 r8 r11 r14 f) (y17+1)))))else(if(bif decide ((0:Int)<((a3).length:Int))then decide (a0.2.1≠9)else false)=true then(some 1)else((F.oper_CheckState (a0.1,a0.2.1,a0.2.2.1,(a0.2.2.2.1.1,a0.2.2.2.1.2.1,a0.2.2.2.1.2.2),a0.2.2.2.2.1,a0.2.2.2.2.2.1,a0.2.2.2.2.2.2) a4).bind fun r23=>(some r23)))
def F.oper_may (a0:D25)(a1:D28)(a2:(List D69))(a3:(List D69))(a4:(List D46)):Option Int:=(F.oper_Holds a0.2.1).bind fun r3=>(if(!r3)=true then(some 170)else((F.fn_Check a0.2.1 (a0.2.2.2.1.1,a0.2.2.2.1.2.1,a0.2.2.2.1.2.2)).bind fun r5=>((F.tstamp_Check (a1.1,a1.2.1,(a1.2.2.1,a1.2.2.2.1,a1.2.2.2.2.1,a1.2.2.2.2.2))).bind fun r8=>((F.rec_CheckBag a2).bind fun r11=>((F.rec_CheckBag a3).bind fun r14=>(F.oper_may_l1 a0 a3 a4 r5 r8 r11 r14 A.FU 0))))))
theorem oper_may_ok (a0:D25)(a1:D28)(a2:(List D69))(a3:(List D69))(a4:(List D46))(A2_:Option Addr)(c3_:Nat)(A16_:Option Addr)(c17_:Nat)(A18_:Option Addr)(c19_:Nat)(A20_:Option Addr)(c21_:Nat)(h0_:IntKind.i64.has a0.1)(h1_:IntKind.i64.has a0.2.1)(h4_:IntKind.i64.has a0.2.2.2.1.1)(h5_:IntKind.i64.has a0.2.2.2.1.2.1)(h6_:a0.2.2.2.1.2.2.size≤maxLen)(h7_:a0.2.2.2.2.1.size≤maxLen)(h8_:IntKind.i64.has a0.2.2.2.2.2.1)(h9_:IntKind.i64.has a0.2.2.2.2.2.2)(h10_:IntKind.i64.has a1.1)(h11_:IntKind.i64.has a1.2.1)(h12_:IntKind.i64.has a1.2.2.1)(h13_:IntKind.i64.has a1.2.2.2.1)(h14_:IntKind.i64.has a1.2.2.2.2.1)(h15_:IntKind.i64.has a1.2.2.2.2.2)(r:Int)(hF:F.oper_may a0 a1 a2 a3 a4=some r):
    A.Ct Tryz.prog 28 [.agg #[.int .i64 a0.1,.int .i64 a0.2.1,.slice A2_ ((a0.2.2.1).length) c3_,.int .i64 a0.2.2.2.1.1,.int .i64 a0.2.2.2.1.2.1,.string a0.2.2.2.1.2.2,.string a0.2.2.2.2.1,.int .i64 a0.2.2.2.2.2.1,.int .i64 a0.2.2.2.2.2.2],.agg #[.int .i64 a1.1,.int .i64 a1.2.1,.int .i64 a1.2.2.1,.int .i64 a1.2.2.2.1,.int .i64 a1.2.2.2.2.1,.int .i64 a1.2.2.2.2.2],.slice A16_ ((a2).length) c17_,.slice A18_ ((a3).length) c19_,.slice A20_ ((a4).length) c21_] [(0,.sh (.slice (Z.Ty.int .i64)) [.slice A2_ (a0.2.2.1).length c3_] a0.2.2.1),(1,.ln T69 A16_ c17_ a2),(2,.ln T69 A18_ c19_ a3),(3,.ln T46 A20_ c21_ a4),(4,.el none 1 0 A.tabF),(5,.el none 2 0 A.tabA)] [] (fun v H'=>v=.int .i64 r∧H'=[]∧IntKind.i64.has r):=by
 refine A.Ct.enter Tryz.func28 rfl Tryz.ntmps28 rfl fun w0 F0=>?_
 rw[F.oper_may]at hF
 refine A.xl 1 ?_
 refine A.AL.box 6 (cs:=[.int .i64 a0.1,.int .i64 a0.2.1,.slice A2_ ((a0.2.2.1).length) c3_,.int .i64 a0.2.2.2.1.1,.int .i64 a0.2.2.2.1.2.1,.string a0.2.2.2.1.2.2,.string a0.2.2.2.2.1,.int .i64 a0.2.2.2.2.2.1,.int .i64 a0.2.2.2.2.2.2]) fun g1=>?_
 refine A.AL.box 7 (cs:=[.int .i64 a1.1,.int .i64 a1.2.1,.int .i64 a1.2.2.1,.int .i64 a1.2.2.2.1,.int .i64 a1.2.2.2.2.1,.int .i64 a1.2.2.2.2.2]) fun g2=>?_
 refine A.q0 [] [] [.n] [] ?_
 refine A.dl 3 ?_
 refine A.q0 [6] [] [.n,.b 0 1] [(14,.int .i64 a0.2.1)] ?_
 obtain⟨r3,hv4,hF⟩:=A.bd_some hF
 refine A.AL.call 8 [] (first:=[]) (cap:=[]) cf22 (oper_Holds_ok a0.2.1 h1_ r3 hv4) .nil ?_
 rintro _ _ ⟨rfl,rfl⟩
 refine⟨by kernel_rfl,?_⟩
 refine A.q0 [] [] [.n] [(16,.bool (!r3))] ?_
 refine A.dx 1 ?_
 refine A.AX.cnb rfl hF (fun hb hF=>?_) (fun hb hF=>?_)
 ·refine A.xl 1 ?_
  refine A.q0 [] [] [.n] [(10,.int .i64 170)] ?_
  refine A.dx 1 ?_
  obtain rfl:=Option.some.inj hF
  exact A.rt1 [] ⟨rfl,rfl,(A.hasl .i64 (170) rfl)⟩
 refine A.xx 4 ?_
 refine A.AX.dr mixed 13 13 (A.mb 13 0) ?_
 refine A.hq A.pb [] [0,1,2,3,4,5,6,7] [7,6] [] (A.mb 13 4783) 5 [(0,.n),(2,.n),(5,.b 0 0),(7,.n),(9,.n),(12,.n),(1,.b 1 1),(3,.b 1 3)] [(22,.agg #[.int .i64 a1.1,.int .i64 a1.2.1,.int .i64 a1.2.2.1,.int .i64 a1.2.2.2.1,.int .i64 a1.2.2.2.2.1,.int .i64 a1.2.2.2.2.2]),(24,.slice A16_ ((a2).length) c17_),(26,.slice A18_ ((a3).length) c19_),(29,.int .i64 0),(18,.int .i64 a0.2.1),(20,.agg #[.int .i64 a0.2.2.2.1.1,.int .i64 a0.2.2.2.1.2.1,.string a0.2.2.2.1.2.2])] ?_
 refine A.AH.one 4 ?_
 obtain⟨r5,hv6,hF⟩:=A.bd_some hF
 refine A.AL.call 48 [] (first:=[]) (cap:=[]) cf57 (fn_Check_ok a0.2.1 (a0.2.2.2.1.1,a0.2.2.2.1.2.1,a0.2.2.2.1.2.2) h1_ h4_ h5_ h6_ r5 hv6) (.s 4 (.s 5 .nil)) ?_
 rintro _ _ ⟨rfl,rfl,hr7⟩
 refine⟨by kernel_rfl,?_⟩
 refine A.AH.nx (A.mb 13 4799) [0,1,2,3,4,5,6,7] ?_
 refine A.AH.one 6 ?_
 obtain⟨r8,hv9,hF⟩:=A.bd_some hF
 refine A.AL.call 88 [] (first:=[]) (cap:=[]) cf58 (tstamp_Check_ok (a1.1,a1.2.1,(a1.2.2.1,a1.2.2.2.1,a1.2.2.2.2.1,a1.2.2.2.2.2)) h10_ h11_ h12_ h13_ h14_ h15_ r8 hv9) .nil ?_
 rintro _ _ ⟨rfl,rfl,hr10⟩
 refine⟨by kernel_rfl,?_⟩
 refine A.AH.nx (A.mb 13 4863) [0,1,2,3,4,5,6,7] ?_
 refine A.AH.one 8 ?_
 obtain⟨r11,hv12,hF⟩:=A.bd_some hF
 refine A.AL.call 128 [] (first:=[]) (cap:=[]) cf45 (rec_CheckBag_ok a2 A16_ c17_ r11 hv12) (.s 1 (.s 4 (.s 5 .nil))) ?_
 rintro _ _ ⟨rfl,rfl,hr13⟩
 refine⟨by kernel_rfl,?_⟩
 refine A.AH.nx (A.mb 13 5119) [0,1,2,3,4,5,6,7] ?_
 refine A.AH.one 10 ?_
 obtain⟨r14,hv15,hF⟩:=A.bd_some hF
 refine A.AL.call 168 [] (first:=[]) (cap:=[]) cf45 (rec_CheckBag_ok a3 A18_ c19_ r14 hv15) (.s 2 (.s 4 (.s 5 .nil))) ?_
 rintro _ _ ⟨rfl,rfl,hr16⟩
 refine⟨by kernel_rfl,?_⟩
 refine A.AH.nx (A.mb 13 6143) [0,1,2,3,4,5,6,7] ?_
 refine A.AH.v A.pb [0,1,2,3,4,5,6,7] [0,1,2,3,4,5,6,7] 11 (A.mb 13 8191) rfl (fun a w hf hh=>A.r_bldA (cs:=#[.int .i64 r5,.int .i64 r8,.int .i64 r11,.int .i64 r14]) hf Tryz.zeroValue102) ?_
 refine A.AH.done ?_
 refine A.ex 2 ?_
 refine A.lp_ [3,4,5,28] [0,2,3,4,5,6] (fun f nl nh=>∃(y17:Int),nl=[(29,.int .i64 y17)]∧nh=[]∧IntKind.i64.has y17∧F.oper_may_l1 a0 a3 a4 r5 r8 r11 r14 f y17=some r) ⟨0,rfl,rfl,(A.hasl .i64 (0) rfl),hF⟩ ?_
 rintro f19 _ _ ⟨y17,rfl,rfl,hy18,hF⟩
 rcases f19 with _|f19
 ·exact A.no0 hF
 rw[F.oper_may_l1]at hF
 refine A.xl 1 ?_
 refine A.q0 [] [] [.n] [(30,.bool (decide (y17<4)))] ?_
 refine A.dx 2 ?_
 refine A.AX.cnd rfl hF (fun hb hF=>?_) (fun hb hF=>?_)
 ·refine A.xl 5 ?_
  obtain⟨x20,hv21,hF⟩:=A.bd_some hF
  refine A.AL.ixv (fun v:Int=>.int .i64 v) [r5,r8,r11,r14] hv21 ?_
  refine A.q0 [] [] [.n] [(12,.int .i64 x20)] ?_
  refine A.dl 2 ?_
  refine A.q0 [] [] [.n,.n] [(33,.bool (decide (x20≠0)))] ?_
  refine A.dx 1 ?_
  refine A.AX.cnd rfl hF (fun hb hF=>?_) (fun hb hF=>?_)
  ·refine A.xl 1 ?_
   refine A.q0 [] [] [.n,.n] [(10,.int .i64 x20)] ?_
   refine A.dx 1 ?_
   obtain rfl:=Option.some.inj hF
   exact A.rt1 [] ⟨rfl,rfl,(A.has_ix hv21 (List.forall_mem_cons.2 ⟨hr7,(List.forall_mem_cons.2 ⟨hr10,(List.forall_mem_cons.2 ⟨hr13,(List.forall_mem_cons.2 ⟨hr16,(by simp)⟩)⟩)⟩)⟩))⟩
  refine A.xl 3 ?_
  obtain⟨hc22,hF⟩:=A.gd_some hF
  refine A.q [] [] [.n,.n] [Z.R64 (y17+1)] [(29,.int .i64 (y17+1))] hc22 ?_
  refine A.AL.done ?_
  exact A.j ⟨_,Nat.lt_succ_self _,⟨(y17+1),rfl,rfl,(Z.i64_has hc22),hF⟩⟩
 refine A.xl 4 ?_
 refine A.q0 [6] [] [.n,.n,.n,.n,.sy .n,.sy (.b 0 1),.sy .n,.pk] [(43,.bool (bif decide ((0:Int)<((a3).length:Int))then decide (a0.2.1≠9)else false))] ?_
 refine A.dx 1 ?_
 refine A.AX.cnb rfl hF (fun hb hF=>?_) (fun hb hF=>?_)
 ·refine A.xl 1 ?_
  refine A.q0 [] [] [.n] [(10,.int .i64 1)] ?_
  refine A.dx 1 ?_
  obtain rfl:=Option.some.inj hF
  exact A.rt1 [] ⟨rfl,rfl,(A.hasl .i64 (1) rfl)⟩
 refine A.xl 3 ?_
 refine A.q0 [6] [] [.b 0 0,.n] [(44,.agg #[.int .i64 a0.1,.int .i64 a0.2.1,.slice A2_ ((a0.2.2.1).length) c3_,.int .i64 a0.2.2.2.1.1,.int .i64 a0.2.2.2.1.2.1,.string a0.2.2.2.1.2.2,.string a0.2.2.2.2.1,.int .i64 a0.2.2.2.2.2.1,.int .i64 a0.2.2.2.2.2.2]),(45,.slice A20_ ((a4).length) c21_)] ?_
 obtain⟨r23,hv24,hF⟩:=A.bd_some hF
 refine A.AL.call 288 [] (first:=[]) (cap:=[]) cf14 (oper_CheckState_ok (a0.1,a0.2.1,a0.2.2.1,(a0.2.2.2.1.1,a0.2.2.2.1.2.1,a0.2.2.2.1.2.2),a0.2.2.2.2.1,a0.2.2.2.2.2.1,a0.2.2.2.2.2.2) a4 A2_ c3_ A20_ c21_ h0_ h1_ h4_ h5_ h6_ h7_ h8_ h9_ r23 hv24) (.s 0 (.s 3 (.s 4 (.s 5 .nil)))) ?_
 rintro _ _ ⟨rfl,rfl,hr25⟩
 refine⟨by kernel_rfl,?_⟩
 refine A.q0 [] [] [.n] [(10,.int .i64 r23)] ?_
 refine A.dx 1 ?_
 obtain rfl:=Option.some.inj hF
 exact A.rt1 [] ⟨rfl,rfl,hr25⟩
def F.oper_times_l1 (a0:(List D69)):Nat→Int→Int→Option Int
 |0,_,_=>none
 |f+1,y1,y3=>if y3<((a0).length:Int)then((A.ix a0 y3).bind fun x6=>(A.gd (Z.R64 (y1+x6.2)) (A.gd (Z.R64 (y3+1)) ((F.oper_times_l1 a0 f) (y1+x6.2) (y3+1)))))else(some y1)
def F.oper_times (a0:(List D69)):Option Int:=F.oper_times_l1 a0 A.FU 0 0
theorem oper_times_ok (a0:(List D69))(A0_:Option Addr)(c1_:Nat)(r:Int)(hF:F.oper_times a0=some r):
    A.Ct Tryz.prog 60 [.slice A0_ ((a0).length) c1_] [(0,.ln T69 A0_ c1_ a0)] [] (fun v H'=>v=.int .i64 r∧H'=[]∧IntKind.i64.has r):=by
 refine A.Ct.enter Tryz.func60 rfl Tryz.ntmps60 rfl fun w0 F0=>?_
 rw[F.oper_times]at hF
 refine A.xl 1 ?_
 refine A.q0 [] [] [.n] [] ?_
 refine A.dl 2 ?_
 refine A.q0 [] [] [.n] [(3,.int .i64 0)] ?_
 refine A.dl 3 ?_
 refine A.q0 [] [] [.n,.n,.n] [(6,.slice A0_ ((a0).length) c1_),(7,.int .i64 ((a0).length:Int)),(8,.int .i64 0)] ?_
 refine A.dx 2 ?_
 refine A.lp_ [6,7] [0] (fun f nl nh=>∃(y1:Int),∃(y3:Int),nl=[(3,.int .i64 y1),(8,.int .i64 y3)]∧nh=[]∧IntKind.i64.has y1∧IntKind.i64.has y3∧F.oper_times_l1 a0 f y1 y3=some r) ⟨0,0,rfl,rfl,(A.hasl .i64 (0) rfl),(A.hasl .i64 (0) rfl),hF⟩ ?_
 rintro f5 _ _ ⟨y1,y3,rfl,rfl,hy2,hy4,hF⟩
 rcases f5 with _|f5
 ·exact A.no0 hF
 rw[F.oper_times_l1]at hF
 refine A.xl 1 ?_
 refine A.q0 [] [] [.n] [(9,.bool (decide (y3<((a0).length:Int))))] ?_
 refine A.dx 2 ?_
 refine A.AX.cnd rfl hF (fun hb hF=>?_) (fun hb hF=>?_)
 ·refine A.xl 5 ?_
  obtain⟨x6,hv7,hF⟩:=A.bd_some hF
  refine A.AL.ixl 0 5 hv7 fun ho8=>?_
  intro b9 o10
  refine A.q0 [] [5] [.e 0 0] [(11,.agg #[.int .i64 x6.1.1,.string x6.1.2,.int .i64 x6.2])] ?_
  refine A.AL.alloc 6 (cs:=[.int .i64 0,.string (ByteArray.mk #[]),.int .i64 0]) Tryz.zeroValue70 fun g11=>?_
  refine A.sw 6 [] [.int .i64 x6.1.1,.string x6.1.2,.int .i64 x6.2] ?_
  refine A.dl 1 ?_
  obtain⟨hc12,hF⟩:=A.gd_some hF
  refine A.q [6] [] [.n,.n,.b 0 2,.n,.n] [Z.R64 (y1+x6.2)] [(3,.int .i64 (y1+x6.2))] hc12 ?_
  refine A.dl 2 ?_
  obtain⟨hc13,hF⟩:=A.gd_some hF
  refine A.q [] [] [.n,.n] [Z.R64 (y3+1)] [(8,.int .i64 (y3+1))] hc13 ?_
  refine A.AL.done ?_
  exact A.j ⟨_,Nat.lt_succ_self _,⟨(y1+x6.2),(y3+1),rfl,rfl,(Z.i64_has hc12),(Z.i64_has hc13),hF⟩⟩
 refine A.xl 3 ?_
 refine A.q0 [] [] [.n,.n] [(2,.int .i64 y1)] ?_
 refine A.dx 1 ?_
 obtain rfl:=Option.some.inj hF
 exact A.rt1 [] ⟨rfl,rfl,hy2⟩
def F.oper_teller_counts_l1 (a0:(D25×(List D43)×(List (D43×Int)))):List (Int×(List D69))→(List D43)→Int→Int→Int→Int→ByteArray→ByteArray→Int→Int→Option (D25×(List D43)×(List (D43×Int)))
 | [],xs23,y24,y26,y28,y30,y32,y34,y36,y38=>some ((y24,y26,a0.1.2.2.1,(y28,y30,y32),y34,y36,y38),xs23,a0.2.2)
 |y16::f,xs23,y24,y26,y28,y30,y32,y34,y36,y38=>(F.oper_times y16.2).bind fun r40=>((F.oper_number r40).bind fun r43=>(A.gd ((List.length (α:=D43) xs23+List.length (α:=D43) [(y16.1,r43)])*24≤140737488355328) ((F.oper_teller_counts_l1 a0 f) (xs23++[(y16.1,r43)]) y24 y26 y28 y30 y32 y34 y36 y38)))
def F.oper_teller_counts (a0:(D25×(List D43)×(List (D43×Int))))(a1:(List D69)):Option (D25×(List D43)×(List (D43×Int))):=(F.oper_Keys a1).bind fun r2=>((F.oper_Keys_1_it r2).bind fun xs7=>F.oper_teller_counts_l1 a0 xs7 a0.2.1 a0.1.1 a0.1.2.1 a0.1.2.2.2.1.1 a0.1.2.2.2.1.2.1 a0.1.2.2.2.1.2.2 a0.1.2.2.2.2.1 a0.1.2.2.2.2.2.1 a0.1.2.2.2.2.2.2)
theorem oper_teller_counts_ok (a0:(D25×(List D43)×(List (D43×Int))))(a1:(List D69))(g0_:Nat)(A3_:Option Addr)(c4_:Nat)(A11_:Option Addr)(c12_:Nat)(b13_:Nat)(A14_:Option Addr)(c15_:Nat)(h1_:IntKind.i64.has a0.1.1)(h2_:IntKind.i64.has a0.1.2.1)(h5_:IntKind.i64.has a0.1.2.2.2.1.1)(h6_:IntKind.i64.has a0.1.2.2.2.1.2.1)(h7_:a0.1.2.2.2.1.2.2.size≤maxLen)(h8_:a0.1.2.2.2.2.1.size≤maxLen)(h9_:IntKind.i64.has a0.1.2.2.2.2.2.1)(h10_:IntKind.i64.has a0.1.2.2.2.2.2.2)(r:(D25×(List D43)×(List (D43×Int))))(hF:F.oper_teller_counts a0 a1=some r):
    A.Ct Tryz.prog 29 [.pointer (some ⟨g0_,0,none⟩),.slice A14_ ((a1).length) c15_] [(0,.blk g0_ 78 [.int .i64 a0.1.1,.int .i64 a0.1.2.1,.slice A3_ ((a0.1.2.2.1).length) c4_,.int .i64 a0.1.2.2.2.1.1,.int .i64 a0.1.2.2.2.1.2.1,.string a0.1.2.2.2.1.2.2,.string a0.1.2.2.2.2.1,.int .i64 a0.1.2.2.2.2.2.1,.int .i64 a0.1.2.2.2.2.2.2,.slice A11_ ((a0.2.1).length) c12_,.map (some b13_)]),(1,.sh (.slice (Z.Ty.int .i64)) [.slice A3_ (a0.1.2.2.1).length c4_] a0.1.2.2.1),(2,.own T43 44 A11_ c12_ a0.2.1),(3,.mp D43 (fun x:D43=>.agg #[.int .i64 x.1,.string x.2]) (Z.Ty.int .i64) false b13_ a0.2.2),(4,.sh (.slice T69) [.slice A14_ (a1).length c15_] a1),(5,.el none 1 0 A.tabF),(6,.el none 2 0 A.tabA)] ([g0_]++(Z.obl A11_++([b13_]++[]))) (fun v H'=>∃(A0':Option Addr) (c1':Nat) (A2':Option Addr) (c3':Nat) (b4':Nat),v=.tuple #[]∧H'=[(0,.blk g0_ 78 [.int .i64 r.1.1,.int .i64 r.1.2.1,.slice A0' ((r.1.2.2.1).length) c1',.int .i64 r.1.2.2.2.1.1,.int .i64 r.1.2.2.2.1.2.1,.string r.1.2.2.2.1.2.2,.string r.1.2.2.2.2.1,.int .i64 r.1.2.2.2.2.2.1,.int .i64 r.1.2.2.2.2.2.2,.slice A2' ((r.2.1).length) c3',.map (some b4')]),(1,.sh (.slice (Z.Ty.int .i64)) [.slice A0' (r.1.2.2.1).length c1'] r.1.2.2.1),(2,.own T43 44 A2' c3' r.2.1),(3,.mp D43 (fun x:D43=>.agg #[.int .i64 x.1,.string x.2]) (Z.Ty.int .i64) false b4' r.2.2)]∧IntKind.i64.has r.1.1∧IntKind.i64.has r.1.2.1∧IntKind.i64.has r.1.2.2.2.1.1∧IntKind.i64.has r.1.2.2.2.1.2.1∧r.1.2.2.2.1.2.2.size≤maxLen∧r.1.2.2.2.2.1.size≤maxLen∧IntKind.i64.has r.1.2.2.2.2.2.1∧IntKind.i64.has r.1.2.2.2.2.2.2):=by
 refine A.Ct.enterM Tryz.func29 rfl Tryz.ntmps29 rfl fun w0 F0=>?_
 rw[F.oper_teller_counts]at hF
 refine A.xl 1 ?_
 refine A.AL.box 7 (cs:=[.pointer (some ⟨g0_,0,none⟩)]) fun g1=>?_
 refine A.dl 2 ?_
 refine A.q0 [] [] [.n] [(6,.slice A14_ ((a1).length) c15_)] ?_
 obtain⟨r2,hv3,hF⟩:=A.bd_some hF
 refine A.AL.call 8 [] (first:=[]) (cap:=[]) cf16 (oper_Keys_ok a1 A14_ c15_ r2 hv3) (.s 4 (.s 5 (.s 6 .nil))) ?_
 rintro _ _ ⟨g4,A5,c6,rfl,rfl⟩
 refine⟨by kernel_rfl,?_⟩
 refine A.dx 2 ?_
 obtain⟨xs7,hv8,hF⟩:=A.bd_some hF
 refine A.AX.rgf 48 49 50 [1,3,5,6,7,8,9] [0,2,1,3,5,6,7,8,9] [49,48,0,2,1,3,5,6,7,8,9] (fun k nh=>∃(xs23:List D43),∃(y24:Int),∃(y26:Int),∃(y28:Int),∃(y30:Int),∃(y32:ByteArray),∃(y34:ByteArray),∃(y36:Int),∃(y38:Int),∃(A21:Option Addr),∃(c22:Nat),nh=[(0,.blk g0_ 78 [.int .i64 y24,.int .i64 y26,.slice A3_ ((a0.1.2.2.1).length) c4_,.int .i64 y28,.int .i64 y30,.string y32,.string y34,.int .i64 y36,.int .i64 y38,.slice A21 ((xs23).length) c22,.map (some b13_)]),(2,.own T43 44 A21 c22 xs23)]∧IntKind.i64.has y24∧IntKind.i64.has y26∧IntKind.i64.has y28∧IntKind.i64.has y30∧y32.size≤maxLen∧y34.size≤maxLen∧IntKind.i64.has y36∧IntKind.i64.has y38∧F.oper_teller_counts_l1 a0 (List.drop k xs7) xs23 y24 y26 y28 y30 y32 y34 y36 y38=some r) [(0,.blk g0_ 78 [.int .i64 a0.1.1,.int .i64 a0.1.2.1,.slice A3_ ((a0.1.2.2.1).length) c4_,.int .i64 a0.1.2.2.2.1.1,.int .i64 a0.1.2.2.2.1.2.1,.string a0.1.2.2.2.1.2.2,.string a0.1.2.2.2.2.1,.int .i64 a0.1.2.2.2.2.2.1,.int .i64 a0.1.2.2.2.2.2.2,.slice A11_ ((a0.2.1).length) c12_,.map (some b13_)]),(2,.own T43 44 A11_ c12_ a0.2.1)] cf47 (oper_Keys_1_it_sq r2 g4 A5 c6 xs7 hv8) (fun _=>rfl) ⟨a0.2.1,a0.1.1,a0.1.2.1,a0.1.2.2.2.1.1,a0.1.2.2.2.1.2.1,a0.1.2.2.2.1.2.2,a0.1.2.2.2.2.1,a0.1.2.2.2.2.2.1,a0.1.2.2.2.2.2.2,A11_,c12_,rfl,h1_,h2_,h5_,h6_,h7_,h8_,h9_,h10_,hF⟩ ?_ ?_ ?_
 ·rintro k15 _ D9 L10 ⟨xs23,y24,y26,y28,y30,y32,y34,y36,y38,A21,c22,rfl,hy25,hy27,hy29,hy31,hy33,hy35,hy37,hy39,hF⟩
  exact⟨⟨_,(.b 8 (.s 9 .nil))⟩,rfl,fun o=>rfl⟩
 ·rintro k15 _ y16 D9 L10 w14 o11 ⟨xs23,y24,y26,y28,y30,y32,y34,y36,y38,A21,c22,rfl,hy25,hy27,hy29,hy31,hy33,hy35,hy37,hy39,hF⟩ hx19 hxo20 hh13
  intro A17 c18
  rw[A.drop_at hx19,F.oper_teller_counts_l1]at hF
  refine A.xl 1 ?_
  refine A.q0 [] [] [.n] [(4,.int .i64 y16.1)] ?_
  refine A.dl 1 ?_
  refine A.q0 [] [] [.n] [(5,.slice A17 ((y16.2).length) c18)] ?_
  refine A.AL.done ?_
  refine A.AE.flip 48 49 fun o12=>?_
  refine A.xx 1 ?_
  refine A.AX.dr mixed 14 15 (A.mb 15 0) ?_
  refine A.hq (A.pk_kont A.RQ.pq) [] [0,1,3,5,6,7,8,9,48,49,50] [7,0] [] (A.mb 15 127) 8 [(0,.b 0 0),(1,.b 0 0),(5,.n),(6,.n),(2,.n),(3,.n),(4,.b 1 9)] [(10,.pointer (some ⟨g0_,0,none⟩)),(15,.int .i64 y16.1),(16,.slice A17 ((y16.2).length) c18),(14,.slice A21 ((xs23).length) c22)] ?_
  refine A.AH.one 7 ?_
  obtain⟨r40,hv41,hF⟩:=A.bd_some hF
  refine A.AL.call 213 [] (first:=[]) (cap:=[]) cf60 (oper_times_ok y16.2 A17 c18 r40 hv41) (.l 50 .nil) ?_
  rintro _ _ ⟨rfl,rfl,hr42⟩
  refine⟨by kernel_rfl,?_⟩
  refine A.AH.nx (A.mb 15 255) [0,1,3,5,6,7,8,9,48,49,50] ?_
  refine A.AH.one 8 ?_
  obtain⟨r43,hv44,hF⟩:=A.bd_some hF
  refine A.AL.call 253 [] (first:=[]) (cap:=[]) cf59 (oper_number_ok r40 hr42 r43 hv44) .nil ?_
  rintro _ _ ⟨rfl,rfl,hr45⟩
  refine⟨by kernel_rfl,?_⟩
  refine A.AH.nx (A.mb 15 511) [0,1,3,5,6,7,8,9,48,49,50] ?_
  refine A.hq (A.pk_kont A.RQ.pq) [0,1,3,5,6,7,8,9,48,49,50] [0,1,3,5,6,7,8,9,48,49,50] [] [] (A.mb 15 1023) 5 [(9,.n)] [(19,.agg #[.int .i64 y16.1,.string r43])] ?_
  refine A.AH.one 10 ?_
  refine A.AL.bsl 293 (ty:=T43) (cs:=[.int .i64 y16.1,.string r43]) [(y16.1,r43)] ⟨⟨⟨rfl,hxo20.1⟩,⟨rfl,hr45⟩⟩,rfl⟩ (fun g46=>?_) Tryz.zeroValue44 Tryz.sizeOf44
  refine A.AH.nx (A.mb 15 2047) [0,1,3,5,6,7,8,9,48,49,50] ?_
  refine A.AH.one 11 ?_
  obtain⟨hl49,hF⟩:=A.gd_some hF
  refine A.AL.app (k:=2) [] (A.rowO (k:=293) rfl) inf44 hl49 fun A47 c48=>?_
  refine A.AH.nx (A.mb 15 4095) [0,1,3,5,6,7,8,9,48,49,50] ?_
  refine A.hq (A.pk_kont A.RQ.pq) [0,1,3,5,6,7,8,9,48,49,50] [0,1,2,3,5,6,7,8,9,48,49,50,293] [] [] (A.mb 15 16383) 1 [(12,.n),(13,.n)] [(23,.pointer (some ⟨g0_,9,none⟩))] ?_
  refine A.AH.one 14 ?_
  refine A.AL.store 0 [] (new:=[.slice A47 ((xs23++[(y16.1,r43)]).length) c48]) (cs':=[.int .i64 y24,.int .i64 y26,.slice A3_ ((a0.1.2.2.1).length) c4_,.int .i64 y28,.int .i64 y30,.string y32,.string y34,.int .i64 y36,.int .i64 y38,.slice A47 ((xs23++[(y16.1,r43)]).length) c48,.map (some b13_)]) ?_
  refine A.AH.nm (A.mb 15 32767) ?_
  refine A.AH.done ?_
  refine A.ee 1 ?_
  exact A.AE.bn hh13 [49,48,0,2,1,3,7,8,9] 100000 [(49,100049),(48,100048),(0,100000),(2,100002),(1,100001),(3,100003),(5,5),(6,6),(7,100007),(8,100008),(9,100009)] [(0,.blk g0_ 78 [.int .i64 y24,.int .i64 y26,.slice A3_ ((a0.1.2.2.1).length) c4_,.int .i64 y28,.int .i64 y30,.string y32,.string y34,.int .i64 y36,.int .i64 y38,.slice A47 ((xs23++[(y16.1,r43)]).length) c48,.map (some b13_)]),(2,.own T43 44 A47 c48 (xs23++[(y16.1,r43)]))] ⟨(xs23++[(y16.1,r43)]),y24,y26,y28,y30,y32,y34,y36,y38,A47,c48,rfl,hy25,hy27,hy29,hy31,hy33,hy35,hy37,hy39,hF⟩ rfl rfl
 rintro _ D9 L10 ⟨xs23,y24,y26,y28,y30,y32,y34,y36,y38,A21,c22,rfl,hy25,hy27,hy29,hy31,hy33,hy35,hy37,hy39,hF⟩
 rw[List.drop_length,F.oper_teller_counts_l1]at hF
 refine A.ee 1 ?_
 obtain rfl:=Option.some.inj hF
 exact A.AE.rtN (Ds:=[D9]) [48] [(0,0),(1,1),(2,2),(3,3)] (.tuple #[]) (⟨rfl,trivial⟩) (fun a w hf hh=>Z.res0 rfl w) (⟨A3_,c4_,A21,c22,b13_,rfl,rfl,hy25,hy27,hy29,hy31,hy33,hy35,hy37,hy39⟩)
def F.fn_ahead (a0:Int)(a1:ByteArray)(a2:ByteArray):Option Bool:=if a0=31 then(some (Op.bytesLess a1.toList a2.toList))else(if a0=32 then(some (!(Op.bytesLess a1.toList a2.toList||a1.toList==a2.toList)))else((F.fn_runes a1).bind fun r1=>((F.fn_runes a2).bind fun r5=>(if((r5).length:Int)<((r1).length:Int)then(some true)else(some (bif decide (((r1).length:Int)=((r5).length:Int))then Op.bytesLess a1.toList a2.toList else false))))))
theorem fn_ahead_ok (a0:Int)(a1:ByteArray)(a2:ByteArray)(h0_:IntKind.i64.has a0)(h1_:a1.size≤maxLen)(h2_:a2.size≤maxLen)(r:Bool)(hF:F.fn_ahead a0 a1 a2=some r):
    A.Ct Tryz.prog 100 [.int .i64 a0,.string a1,.string a2] [] [] (fun v H'=>v=.bool r∧H'=[]):=by
 refine A.Ct.enter Tryz.func100 rfl Tryz.ntmps100 rfl fun w0 F0=>?_
 rw[F.fn_ahead]at hF
 refine A.xl 1 ?_
 refine A.q0 [] [] [.n] [] ?_
 refine A.dl 3 ?_
 refine A.q0 [] [] [.n] [(9,.int .i64 a0)] ?_
 refine A.dl 3 ?_
 refine A.q0 [] [] [.n,.n] [(10,.bool (decide (a0=31)))] ?_
 refine A.dx 1 ?_
 refine A.AX.cnd rfl hF (fun hb hF=>?_) (fun hb hF=>?_)
 ·refine A.xl 1 ?_
  refine A.q0 [] [] [.n,.n,.n,.n] [(6,.bool (Op.bytesLess a1.toList a2.toList))] ?_
  refine A.dx 1 ?_
  obtain rfl:=Option.some.inj hF
  exact A.rt1 [] ⟨rfl,rfl⟩
 refine A.xl 1 ?_
 refine A.q0 [] [] [.n,.n] [(15,.bool (decide (a0=32)))] ?_
 refine A.dx 1 ?_
 refine A.AX.cnd rfl hF (fun hb hF=>?_) (fun hb hF=>?_)
 ·refine A.xl 1 ?_
  refine A.q0 [] [] [.n,.n,.n,.n] [(6,.bool (!(Op.bytesLess a1.toList a2.toList||a1.toList==a2.toList)))] ?_
  refine A.dx 1 ?_
  obtain rfl:=Option.some.inj hF
  exact A.rt1 [] ⟨rfl,rfl⟩
 refine A.xl 4 ?_
 refine A.q0 [] [] [.n] [(20,.string a1)] ?_
 obtain⟨r1,hv2,hF⟩:=A.bd_some hF
 refine A.AL.call 0 [] (first:=[]) (cap:=[]) cf103 (fn_runes_ok a1 h1_ r1 hv2) .nil ?_
 rintro _ _ ⟨A3,c4,rfl,rfl⟩
 refine⟨by kernel_rfl,?_⟩
 refine A.q0 [] [] [.n,.n] [(22,.int .i64 ((r1).length:Int)),(23,.string a2)] ?_
 obtain⟨r5,hv6,hF⟩:=A.bd_some hF
 refine A.AL.call 40 [] (first:=[]) (cap:=[]) cf103 (fn_runes_ok a2 h2_ r5 hv6) .nil ?_
 rintro _ _ ⟨A7,c8,rfl,rfl⟩
 refine⟨by kernel_rfl,?_⟩
 refine A.q0 [] [] [.n,.n,.n] [(7,.int .i64 ((r1).length:Int)),(8,.int .i64 ((r5).length:Int))] ?_
 refine A.dl 2 ?_
 refine A.q0 [] [] [.n,.n,.n,.n] [(29,.bool (decide (((r5).length:Int)<((r1).length:Int))))] ?_
 refine A.AL.cnp (j:=29) rfl hF (fun hb hF=>?_) (fun hb hF=>?_)
 ·refine A.q0 [] [] [.off,.off,.off,.off,.off,.off,.off,.off,.n,.n] [(6,.bool true)] ?_
  refine A.dx 1 ?_
  obtain rfl:=Option.some.inj hF
  exact A.rt1 [] ⟨rfl,rfl⟩
 refine A.q0 [] [] [.on .n,.on .n,.on .n,.on .n,.sy .n,.sy .n,.sy .n,.on .pk,.n,.n] [(6,.bool (bif decide (((r1).length:Int)=((r5).length:Int))then Op.bytesLess a1.toList a2.toList else false))] ?_
 refine A.dx 1 ?_
 obtain rfl:=Option.some.inj hF
 exact A.rt1 [] ⟨rfl,rfl⟩
def F.rec_Runes (a0:ByteArray):Option (ByteArray):=some a0
theorem rec_Runes_ok (a0:ByteArray)(h0_:a0.size≤maxLen)(r:(ByteArray))(hF:F.rec_Runes a0=some r):
    A.Ct Tryz.prog 101 [.string a0] [] [] (fun v H'=>∃(g0':Nat),v=.func (.func 137) #[] #[.pointer (some ⟨g0',0,none⟩)]∧H'=[(0,.blk g0' 9 [.string r])]∧r.size≤maxLen):=by
 refine A.Ct.enter Tryz.func101 rfl Tryz.ntmps101 rfl fun w0 F0=>?_
 rw[F.rec_Runes]at hF
 refine A.xl 1 ?_
 refine A.AL.box 0 (cs:=[.string a0]) fun g1=>?_
 refine A.q0 [] [] [.n] [] ?_
 refine A.dl 2 ?_
 refine A.q0 [] [] [.n,.n] [(2,.func (.func 137) #[] #[.pointer (some ⟨g1,0,none⟩)])] ?_
 refine A.dx 1 ?_
 obtain rfl:=Option.some.inj hF
 exact A.rt1 [(0,0)] ⟨g1,rfl,rfl,h0_⟩
end Go.Proofs.YtbljnlkhebiniaaGreatDoor
end
section
set_option linter.unusedVariables false
set_option linter.unusedSimpArgs false
namespace Go.A
open Go.RowKit Go.Z
def SeqUk (P:Program)(gf:FuncId)(cap:List Value)(N:Nat)(E:Nat→Nat→World→World→List Value→Prop)(D0:World→Prop)(Dat:Nat→Nat→World→Prop):Prop:=
 ∀(lid:Nat) (w:World) (J0:World→Prop) (J:Nat→Nat→World→Prop) (Jx:World→Prop),(∀W W',J0 W→Ch [] W W'→J0 W')→(∀g k W W',J g k W→Ch [g] W W'→J g k W')→(∀W W',Jx W→Ch [] W W'→Jx W')→
  (∀W,J0 W→D0 W)→(∀g W W',J0 W→Ch [] W W'→W.heap.size≤g→g<W'.heap.size→J g 0 W')→(∀g k W,J g k W→Dat g k W)→J0 w→
  (∀g k W0 W args,k<N→J g k W0→Ch [g] W0 W→E g k W0 W args→YieldAt (FW none) 0 P lid args.toArray W fun e W'=>(e=.returned (.bool true)∧J g (k+1) W'∧W'.heap[g]?=W.heap[g]?)∨(e=.returned (.bool false)∧Jx W'))→
  Calls P gf (.func (.yield lid) #[] #[]::cap).toArray w fun e W'=>e=.returned (.tuple #[])∧((∃g,J g N W')∨Jx W')
section
variable {P:Program}{Q:Exit→Act→World→Prop}{a:Act}{w:World}{n:Nat}{ds:List Deferred}{l:List (Nat×Value)}
theorem rangeKU {g:Operand}{ps:List Nat}{assign body:Code}{gf:FuncId}{cap:List Value}(hf:Fr a n ds l)(hg:ev l g=some (.func (.func gf) #[] cap.toArray))
  (hcf: ∀args w,(callFunc gf args).run P w=.ok (.enter gf args) w) (N:Nat) (E:Nat→Nat→World→World→List Value→Prop) (D0:World→Prop) (Dat:Nat→Nat→World→Prop) (I0:World→Prop) (I:Nat→Nat→World→Prop) (X:Exit→World→Prop) (hseq:SeqUk P gf cap N E D0 Dat)
  (hlen: ∀g k W0 W args,E g k W0 W args→args.length=ps.length) (hps: ∀p,p∈ps→p<n)
  (hI0: ∀W1,(∃W',Ch [] w W'∧W'.heap.size=w.heap.size+1∧Dfr W' w.heap.size∧Ch [] W' W1∧W1.heap.size=W'.heap.size+1)→(∃o,W1.heap[w.heap.size+1]?=some o)→I0 W1)
  (hst0: ∀W W',I0 W→Ch [w.heap.size+1] W W'→I0 W') (hst: ∀g k W W',w.heap.size+1<g→I g k W→Ch [w.heap.size+1] W W'→I g k W') (hsg: ∀g k W W',w.heap.size+1<g→I g k W→Ch [g] W W'→I g k W') (hcv: ∀g W W',I0 W→Ch [] W W'→W.heap.size≤g→g<W'.heap.size→I g 0 W') (hxt: ∀e W W',X e W→Ch [w.heap.size+1] W W'→X e W') (hdat0: ∀W,I0 W→D0 W) (hdat: ∀g k W,w.heap.size+1<g→I g k W→Dat g k W)
  (hround: ∀g k W0 W args a o,k<N→w.heap.size+1<g→g<W.heap.size→I g k W0→Ch [g] W0 W→w.heap.size+1<W0.heap.size→E g k W0 W args→args.length=ps.length→W.heap[w.heap.size+1]?=some o→Dfr W w.heap.size→Fr a n [] (bindl ps args l)→
   WP (some (w.heap.size+1)) P assign (fun e a1 W1=>e=.normal∧W1.heap[w.heap.size+1]?=some o∧Dfr W1 w.heap.size∧∀W2 o2,Ch [w.heap.size+1] W1 W2→W2.heap[w.heap.size+1]?=some o2→Dfr W2 w.heap.size→
    WP (some (w.heap.size+1)) P body (RQ w.heap.size (w.heap.size+1) o2 (fun k W'=>I g k W'∧W'.heap[g]?=W.heap[g]?) X k) a1 W2) a W)
  (hdone: ∀g W a',w.heap.size+1<g→I g N W→Dfr W w.heap.size→Fr a' n (mkD w.heap.size::ds) l→Q .normal a' W)
  (hret: ∀W a',X .ret W→Dfr W w.heap.size→Fr a' n (mkD w.heap.size::ds) l→Q .ret a' W)
  (hexit: ∀id W a',X (.exit id) W→Dfr W w.heap.size→Fr a' n (mkD w.heap.size::ds) l→Q (.exit id) a' W):WP none P (Code.rangeFunc g ps.toArray assign body) Q a w:=by
 refine wpIn_rangeFunc fun fn hfn=>?_
 obtain⟨rec,hrec⟩: ∃rec:LoopState→Option Code→Loop,rec=fun st pe=>{state:=st,pending:=pe,fn,tmps:=a.tmps,params:=ps.toArray,assign,body,defers:=w.heap.size}:=⟨_,rfl⟩
 obtain⟨W1,hW1⟩: ∃W1,(w.alloc (.deferred (some []))).alloc (.loop (rec .ready none))=W1:=⟨_,rfl⟩
 have hL1:W1.heap[w.heap.size+1]?=some (.loop (rec .ready none)):=by
  rw[←hW1];have:=World.alloc_heap_new (w.alloc (.deferred (some []))) (.loop (rec .ready none));rwa[World.size_alloc]at this
 have hK1:Dfr W1 w.heap.size:=by
  rw[←hW1];exact(Below.heap_alloc _ _ _ (by simp)).trans (World.alloc_heap_new w _)
 have up: ∀{W W':World},Ch [] W W'→Ch [w.heap.size+1] W W':=fun h=>h.mono (by simp)
 have hI1:I0 W1:=hI0 W1 ⟨_,Ch.alloc w _,World.size_alloc ..,World.alloc_heap_new w _,by rw[←hW1];exact Ch.alloc _ _,by rw[←hW1];exact World.size_alloc ..⟩ ⟨_,hL1⟩
 have hfr:a.eval g=.func (.func gf) #[] cap.toArray:=hf.eval hg
 have hcall:=hseq (w.heap.size+1) W1
  (fun W=>I0 W∧W.heap[w.heap.size+1]?=some (.loop (rec .ready none))∧Dfr W w.heap.size)
  (fun g k W=>I g k W∧(w.heap.size+1<g∧g<W.heap.size)∧W.heap[w.heap.size+1]?=some (.loop (rec .ready none))∧Dfr W w.heap.size)
  (fun W=>∃e c,X e W∧((e=.ret∧c=Code.ret)∨∃id,e=.exit id∧c=Code.exit id)∧W.heap[w.heap.size+1]?=some (.loop (rec .done (some c)))∧Dfr W w.heap.size)
  (fun W W' ⟨h1,h2,h3⟩ hc=>⟨hst0 W W' h1 (up hc),(hc.block _ (Array.getElem?_eq_some_iff.1 h2).1 (by simp)).trans h2,h3.ch hc (by simp)⟩)
  (fun g k W W' ⟨h1,h0,h2,h3⟩ hc=>⟨hsg g k W W' h0.1 h1 hc,⟨h0.1,Nat.lt_of_lt_of_le h0.2 hc.size⟩,(hc.block _ (Array.getElem?_eq_some_iff.1 h2).1 (by simp;omega)).trans h2,h3.ch hc (by simp;omega)⟩)
  (fun W W' ⟨e,c,h1,h0,h2,h3⟩ hc=>⟨e,c,hxt e W W' h1 (up hc),h0,(hc.block _ (Array.getElem?_eq_some_iff.1 h2).1 (by simp)).trans h2,h3.ch hc (by simp)⟩)
  (fun W h=>hdat0 W h.1) (fun g W W' ⟨h1,h2,h3⟩ hc hg hg'=>⟨hcv g W W' h1 hc hg hg',⟨Nat.lt_of_lt_of_le (Array.getElem?_eq_some_iff.1 h2).1 hg,hg'⟩,(hc.block _ (Array.getElem?_eq_some_iff.1 h2).1 (by simp)).trans h2,h3.ch hc (by simp)⟩) (fun g k W h=>hdat g k W h.2.1.1 h.1) ⟨hI1,hL1,hK1⟩ ?_
 ·refine⟨w.heap.size+1,[mkD w.heap.size],W1,{target:=.fn (.func gf) cap.toArray,args:=#[.func (.yield (w.heap.size+1)) #[] #[]]},W1,gf,
   (.func (.yield (w.heap.size+1)) #[] #[]::cap).toArray,W1,?_,?_,fun _ _=>trivial,?_,(fun h=>by cases h),(callsFW hcall).mono ?_⟩
  ·rw[←hW1,hrec];exact run_enterLoop_outer _ _ _ _ _
  ·simp only[resolve,hfr]
   simp[go_sem]
  ·simp[invoke,go_sem,hcf]
  ·have fin: ∀(W:World) (st:LoopState) (pe:Option Code),W.heap[w.heap.size+1]?=some (.loop (rec st pe))→st≠ .busy→Dfr W w.heap.size→
     ∃W',(Instr.endLoop (w.heap.size+1)).run P W=.ok pe W'∧Ch [w.heap.size+1] W W'∧Dfr W' w.heap.size:=fun W st pe hl hb hk=>by
    have:=run_endLoop (P:=P) hl (by rw[hrec];exact hb)
    rw[hrec]at this
    exact⟨_,this,Ch.putObj _ _ _,hk.ch (Ch.putObj _ _ _) (by simp)⟩
   rintro e W ⟨rfl,⟨g,h1,h0,h2,h3⟩|⟨e,c,h1,h0,h2,h3⟩⟩
   ·obtain⟨W',hr,hc,hk⟩:=fin W .ready none h2 (by simp) h3
    exact⟨none,W',hr,hdone g W' _ h0.1 (hst g N W W' h0.1 h1 hc) hk ⟨hf.size,by show [mkD w.heap.size]++a.defers=_;rw[hf.defs];rfl,hf.get⟩⟩
   ·obtain⟨W',hr,hc,hk⟩:=fin W .done (some c) h2 (by simp) h3
    have hfr':Fr {a with defers:=[mkD w.heap.size]++a.defers} n (mkD w.heap.size::ds) l:=⟨hf.size,by show [mkD w.heap.size]++a.defers=_;rw[hf.defs];rfl,hf.get⟩
    refine⟨some c,W',hr,?_⟩
    rcases h0 with⟨rfl,rfl⟩|⟨id,rfl,rfl⟩
    ·exact wpIn_ret (hret W' _ (hxt _ W W' h1 hc) hk hfr')
    ·exact wpIn_exit (hexit id W' _ (hxt _ W W' h1 hc) hk hfr')
 ·rintro g k W0 W args hk ⟨h1,h0,h2,h3⟩ hc hEk
  have hlt:w.heap.size+1<W0.heap.size:=(Array.getElem?_eq_some_iff.1 h2).1
  have hl:W.heap[w.heap.size+1]?=some (.loop (rec .ready none)):=(hc.block _ hlt (by have:=h0.1;simp;omega)).trans h2
  have hkk:Dfr W w.heap.size:=h3.ch hc (by have:=h0.1;simp;omega)
  have hlen':=hlen g k W0 W args hEk
  have hy:=run_yield (P:=P) (args:=args.toArray) hl (by rw[hrec];simpa using hlen')
  refine⟨fn,_,assign,body,by rw[hrec]at hy;exact hy,roundIn_of_wpIn hfn ?_⟩
  have hfr0:Fr ⟨(ps.zip args).foldl (fun t (p,v)=>t.setIfInBounds p v) a.tmps,[]⟩ n [] (bindl ps args l):=bind_fr ps args hps ⟨hf.size,rfl,hf.get⟩
  have hzip:((rec .ready none).params.zip args.toArray).foldl (fun t (p,v)=>t.setIfInBounds p v) (rec .ready none).tmps=(ps.zip args).foldl (fun t (p,v)=>t.setIfInBounds p v) a.tmps:=by
   rw[hrec];simp
  rw[hrec]at hzip
  simp only at hzip
  rw[hzip]
  refine wpIn_mono (hround g k W0 W args _ _ hk h0.1 (Nat.lt_of_lt_of_le h0.2 hc.size) h1 hc hlt hEk hlen' hl hkk hfr0) ?_
  rintro e a1 W' ⟨rfl,hl',hk',hbody⟩
  refine⟨_,run_beginRound hl' (by rw[hrec]),?_⟩
  have hltW:w.heap.size+1<W'.heap.size:=(Array.getElem?_eq_some_iff.1 hl').1
  have hc2:Ch [w.heap.size+1] W' (W'.putObj (w.heap.size+1) (.loop {rec .ready none with state:=.busy})):=Ch.putObj _ _ _
  have hl2:(W'.putObj (w.heap.size+1) (.loop {rec .ready none with state:=.busy})).heap[w.heap.size+1]?=some (.loop {rec .ready none with state:=.busy}):=World.putObj_heap_same hltW
  have hk2:=hk'.ch hc2 (by simp)
  refine wpIn_mono (hbody _ _ hc2 hl2 hk2) ?_
  have fin: ∀(jump:Option Code) (W3:World),W3.heap[w.heap.size+1]?=some (.loop {rec .ready none with state:=.busy})→Dfr W3 w.heap.size→
    ∃W4,(Instr.endRound (w.heap.size+1) jump).run P W3=.ok (.bool jump.isNone) W4∧Ch [w.heap.size+1] W3 W4∧W4.heap[w.heap.size+1]?=some (.loop (rec (if jump.isNone then .ready else .done) jump))∧Dfr W4 w.heap.size:=fun jump W3 hl3 hk3=>by
   have hend:=run_endRound (P:=P) jump hl3
   rw[hrec]at hend ⊢
   exact⟨_,hend,Ch.putObj _ _ _,World.putObj_heap_same (Array.getElem?_eq_some_iff.1 hl3).1,hk3.ch (Ch.putObj _ _ _) (by simp)⟩
  rintro e a3 W3 ⟨hl3,hk3,hp⟩
  cases e with
  |normal=>
   obtain⟨W4,hr,hc4,hl4,hk4⟩:=fin none W3 hl3 hk3
   have hg3:g<W3.heap.size:=Classical.byContradiction fun hn=>by
    have h5:=hp.2
    rw[Array.getElem?_eq_none_iff.2 (Nat.le_of_not_lt hn)]at h5
    have:=Array.getElem?_eq_none_iff.1 h5.symm
    have:=Nat.lt_of_lt_of_le h0.2 hc.size
    omega
   refine⟨_,W4,hr,.inl ⟨rfl,⟨hst _ _ _ _ h0.1 hp.1 hc4,⟨h0.1,Nat.lt_of_lt_of_le hg3 hc4.size⟩,hl4,hk4⟩,?_⟩⟩
   rw[hc4.block g hg3 (by have:=h0.1;simp;omega)]
   exact hp.2
  |ret=>
   obtain⟨W4,hr,hc4,hl4,hk4⟩:=fin (some .ret) W3 hl3 hk3
   exact⟨_,W4,hr,.inr ⟨rfl,.ret,.ret,hxt _ _ _ hp hc4,.inl ⟨rfl,rfl⟩,hl4,hk4⟩⟩
  |exit id=>
   obtain⟨W4,hr,hc4,hl4,hk4⟩:=fin (some (.exit id)) W3 hl3 hk3
   exact⟨_,W4,hr,.inr ⟨rfl,.exit id,.exit id,hxt _ _ _ hp hc4,.inr ⟨id,rfl,rfl⟩,hl4,hk4⟩⟩
  |goto t=>exact hp.elim
  |panic ch=>exact hp.elim
  |outgrown=>exact hp.elim
end
def ElU (t:Ty)(ag:List Value→List Value)(xs:List t.den)(Φ:Nat→Nat→World→Nat→Prop):Nat→Nat→World→World→List Value→Prop:=fun g k W0 W args=>
 ∃x cs,xs[k]?=some x∧args=ag cs∧t.rep W (fun b=>Φ g k W0 b∨W0.heap.size≤b) cs x
abbrev kU:Nat:=4711
def SqU (P:Program)(gf:FuncId)(cap:List Value)(Hc:List (Nat×Res))(t:Ty)(ag:List Value→List Value)(xs:List t.den):Prop:=
 ∀(Φ0:World→Nat→Prop) (Φ:Nat→Nat→World→Nat→Prop),SeqUk P gf cap xs.length (ElU t ag xs Φ) (fun W=>Hp ⟨0,[],W,[],Φ0 W⟩ Hc W) (fun g k W=>Hp ⟨0,[],W,[g],Φ g k W⟩ ((kU,.ob g lpT)::Hc) W)
def JU (ku g:Nat)(q:Obj→Prop)(J:Nat→List (Nat×Res)→Prop):Nat→List (Nat×Res)→Prop:=fun k nh=>∃nh0,nh=(ku,.ob g q)::nh0∧J k nh0
theorem Hp.swap {C:Cx}{H:List (Nat×Res)}{w:World}{k j:Nat}{r s:Res}(h:Hp C ((k,r)::(j,s)::H) w)(hn:k≠j):Hp C ((j,s)::(k,r)::H) w:=h.ext fun i=>.inl (by
 rw[hk_cons,hk_cons,hk_cons,hk_cons]
 by_cases h1:j=i
 ·rw[if_pos h1,if_neg (fun e=>hn (e.trans h1.symm)),if_pos h1]
 ·rw[if_neg h1,if_neg h1])
theorem nrf_cons {k j:Nat}{g:Nat}{p:Obj→Prop}{H:List (Nat×Res)}(h:nrf k H=true):nrf k ((j,.ob g p)::H)=true:=by
 unfold nrf at h ⊢;rw[List.all_cons,h];rfl
theorem Hp.ob2 {C:Cx}{H:List (Nat×Res)}{w w':World}{kl ku L g:Nat}{p q:Obj→Prop}{s:Obj→Prop}{o:Obj}(h:Hp C ((kl,.ob L s)::(ku,.ob g p)::H) w)(hn:kl≠ku)(hr:nrf ku H=true)(hc:Ch [g] w w')(ho:w'.heap[g]?=some o)(hq:q o):Hp C ((kl,.ob L s)::(ku,.ob g q)::H) w':=
 ((h.swap hn).ob (nrf_cons hr) hc ho hq).swap (Ne.symm hn)
section
variable {P:Program}{Y:Exit→Act→World→Prop}{K:List Kx}{C:Cx}{l:List (Nat×Value)}{H:List (Nat×Res)}
abbrev HX (kd kl ku D L g:Nat) (p q:Obj→Prop) (nh H:List (Nat×Res)):List (Nat×Res):=HK kd kl D L p ((ku,.ob g q)::nh) H
theorem AX.rgfU {g:Operand}{ps:List Nat}{assign body:Code}{gf:FuncId}{cap:List Value}{Hc:List (Nat×Res)}{t:Ty}{ag:List Value→List Value}{xs:List t.den}
  (kd kl ku kn:Nat) (hs gs bs:List Nat) (J:Nat→List (Nat×Res)→Prop) (nh:List (Nat×Res)) (hcf: ∀args w,(callFunc gf args).run P w=.ok (.enter gf args) w) (hseq:SqU P gf cap Hc t ag xs) (hag: ∀cs,(ag cs).length=ps.length) (hJ0:J 0 nh)
  (hsub: ∀k nh D L u,J k nh→(∃ls,Sub (HX kd kl ku D L u lpT lpT nh (kpH H hs hs)) Hc [] ls∧ls.all (fun k=> !(Nat.beq k ku))=true)∧(nrf kl (hcat nh (kpH H hs hs))&&nrf ku (hcat nh (kpH H hs hs))&&(match hk (hcat nh (kpH H hs hs)) ku with|none=>true|_=>false))=true∧∀o p,nok (kpH (HX kd kl ku D L u (fun x=>x=o) p nh (kpH H hs hs)) [] bs) kn (lv t)=true)
  (hsub0: ∀D L,∃ls,Sub (HK kd kl D L lpT nh (kpH H hs hs)) Hc [] ls)
  (hround: ∀u ou k nh x D L W o,J k nh→xs[k]?=some x→t.ok x→Hp C (HX kd kl ku D L u (fun x=>x=o) (fun x=>x=ou) nh (kpH H hs hs)) W→tele (lv t) fun pl=>
   AX (some L) P (fun _ _ _=>False) [.m (MF P D L o (fun o2=>RQ D L o2 (IK C kd kl D L (JU ku u (fun x=>x=ou) J) (kpH H hs hs)) (XK P Y K C l D L) k) body)] assign
    ⟨C.n,[],W,blks (HX kd kl ku D L u (fun x=>x=o) (fun x=>x=ou) nh (kpH H hs hs)) (mvl (HX kd kl ku D L u (fun x=>x=o) (fun x=>x=ou) nh (kpH H hs hs)) bs),Fh C (HX kd kl ku D L u (fun x=>x=o) (fun x=>x=ou) nh (kpH H hs hs))⟩ (bindl ps (ag (cl t x pl)) l)
    (hcat (kx kn (rs t x pl)) (kpH (HX kd kl ku D L u (fun x=>x=o) (fun x=>x=ou) nh (kpH H hs hs)) [] bs)))
  (hdone: ∀u nh D L,J xs.length nh→AE none P Y K .normal ⟨C.n,mkD D::C.ds,C.w0,C.S,C.F⟩ l (HX kd kl ku D L u lpT lpT nh (kpH H hs hs)))
  (hg:ev l g=some (.func (.func gf) #[] cap.toArray):=by rfl) (hps:ps.all (fun p=>Nat.ble (p+1) C.n)=true:=by rfl) (h0:kpH H gs gs=hcat nh (kpH H hs hs):=by kernel_rfl)
  (hn1:hk (hcat nh (kpH H hs hs)) kd=none:=by kernel_rfl) (hn2:hk (hcat nh (kpH H hs hs)) kl=none:=by kernel_rfl) (hne:Nat.beq kd kl=false:=by rfl) (hne1:Nat.beq kl ku=false:=by rfl) (hne2:Nat.beq kd ku=false:=by rfl) (hbs:nod bs=true:=by rfl) (hHc:nod (kU::Hc.map (·.1))=true:=by rfl):
  AX none P Y K (.rangeFunc g ps.toArray assign body) C l H:=fun a w hf hh=>by
 have hne:kd≠kl:=fun e=>by rw[e,Nat.beq_refl]at hne;cases hne
 have hlu:kl≠ku:=fun e=>by rw[e,Nat.beq_refl]at hne1;cases hne1
 have hdu:kd≠ku:=fun e=>by rw[e,Nat.beq_refl]at hne2;cases hne2
 have hHc0:nod (Hc.map (·.1))=true:=by unfold nod at hHc;rw[Bool.and_eq_true]at hHc;exact hHc.2
 obtain⟨I,hI⟩: ∃I:Nat→Nat→World→Prop,I=fun g k W=>∃nh,J k nh∧Hp C (HX kd kl ku w.heap.size (w.heap.size+1) g lpT lpT nh (kpH H hs hs)) W:=⟨_,rfl⟩
 obtain⟨Φ,hΦ⟩: ∃Φ:Nat→Nat→World→Nat→Prop,Φ=fun g k W b=>∃h:(∃nh,J k nh∧Hp C (HX kd kl ku w.heap.size (w.heap.size+1) g lpT lpT nh (kpH H hs hs)) W),Fh C (HX kd kl ku w.heap.size (w.heap.size+1) g lpT lpT (Classical.choose h) (kpH H hs hs)) b:=⟨_,rfl⟩
 have hΦe: ∀g k W (h: ∃nh,J k nh∧Hp C (HX kd kl ku w.heap.size (w.heap.size+1) g lpT lpT nh (kpH H hs hs)) W),Φ g k W=Fh C (HX kd kl ku w.heap.size (w.heap.size+1) g lpT lpT (Classical.choose h) (kpH H hs hs)):=fun g k W h=>by
  subst hΦ;funext b;exact propext ⟨fun⟨_,h2⟩=>h2,fun h2=>⟨h,h2⟩⟩
 have hch: ∀{k:Nat} {nh:List (Nat×Res)},J k nh→nrf kl (hcat nh (kpH H hs hs))=true∧nrf ku (hcat nh (kpH H hs hs))=true∧hk (hcat nh (kpH H hs hs)) ku=none:=fun h=>by
  have:=(hsub _ _ 0 0 0 h).2.1
  rw[Bool.and_eq_true,Bool.and_eq_true]at this
  refine⟨this.1.1,this.1.2,?_⟩
  have h2:=this.2
  split at h2
  ·assumption
  ·cases h2
 have hlast: ∀{k g D:Nat} {q:Obj→Prop} {nh:List (Nat×Res)},J k nh→nrf kl ((kd,.ob D dfT)::hcat ((ku,.ob g q)::nh) (kpH H hs hs))=true:=fun h=>nrf_cons (nrf_cons (hch h).1)
 have hlast0: ∀{k D:Nat} {nh:List (Nat×Res)},J k nh→nrf kl ((kd,.ob D dfT)::hcat nh (kpH H hs hs))=true:=fun h=>nrf_cons (hch h).1
 have hext: ∀{g D L:Nat} {p q:Obj→Prop} {nh:List (Nat×Res)} {W:World},Hp C (HX kd kl ku D L g p q nh (kpH H hs hs)) W↔Hp C ((kl,.ob L p)::(ku,.ob g q)::(kd,.ob D dfT)::hcat nh (kpH H hs hs)) W:=by
  intro g D L p q nh W
  have e: ∀i,hk (HX kd kl ku D L g p q nh (kpH H hs hs)) i=hk ((kl,.ob L p)::(ku,.ob g q)::(kd,.ob D dfT)::hcat nh (kpH H hs hs)) i:=fun i=>by
   show hk ((kl,.ob L p)::(kd,.ob D dfT)::(ku,.ob g q)::hcat nh (kpH H hs hs)) i=_
   simp only[hk_cons]
   by_cases h1:kl=i
   ·rw[if_pos h1,if_pos h1]
   ·rw[if_neg h1,if_neg h1]
    by_cases h2:kd=i
    ·rw[if_pos h2,if_neg (fun e=>hdu (h2.trans e.symm)),if_pos h2]
    ·rw[if_neg h2,if_neg h2]
  exact⟨fun h=>h.ext fun i=>.inl (e i).symm,fun h=>h.ext fun i=>.inl (e i)⟩
 have htu: ∀{k g D L:Nat} {p q q':Obj→Prop} {nh:List (Nat×Res)} {W W':World} {o:Obj},J k nh→Hp C (HX kd kl ku D L g p q nh (kpH H hs hs)) W→Ch [g] W W'→W'.heap[g]?=some o→q' o→Hp C (HX kd kl ku D L g p q' nh (kpH H hs hs)) W':=fun hJ h hc ho hq=>hext.2 ((hext.1 h).ob2 hlu (nrf_cons (hch hJ).2.1) hc ho hq)
 have hgo: ∀{g D L:Nat} {p q:Obj→Prop} {nh:List (Nat×Res)} {W:World},Hp C (HX kd kl ku D L g p q nh (kpH H hs hs)) W→∃o,W.heap[g]?=some o∧q o:=fun h=>(hext.1 h).hold ku (.ob _ _) (by rw[hk_cons,if_neg hlu,hk_cons,if_pos rfl])
 have hlo: ∀{g D L:Nat} {p q:Obj→Prop} {nh:List (Nat×Res)} {W:World},Hp C (HX kd kl ku D L g p q nh (kpH H hs hs)) W→∃o,W.heap[L]?=some o∧p o:=fun h=>(hext.1 h).hold kl (.ob _ _) (by rw[hk_cons,if_pos rfl])
 have grow: ∀{b:Nat} {o:Obj} {S:List Nat} {W W':World},W.heap[b]?=some o→Ch S W W'→∃o',W'.heap[b]?=some o':=fun ho hc=>⟨_,Array.getElem?_eq_getElem (Nat.lt_of_lt_of_le (Array.getElem?_eq_some_iff.1 ho).1 hc.size)⟩
 refine rangeKU hf hg hcf xs.length _ _ _ (IK C kd kl w.heap.size (w.heap.size+1) (fun _ x=>x=nh) (kpH H hs hs) 0) I (XK P Y K C l w.heap.size (w.heap.size+1)) (hseq (fun W=>Fh C (HK kd kl w.heap.size (w.heap.size+1) lpT nh (kpH H hs hs))) Φ) (fun g k W0 W args ⟨x,cs,_,h2,_⟩=>by rw[h2];exact hag cs) (fun p hp=>Nat.le_of_ble_eq_true (List.all_eq_true.1 hps p hp)) ?_ ?_ ?_ ?_ ?_ ?_ ?_ ?_ ?_ ?_ ?_ ?_
 ·rintro W1 ⟨W',hc1,hz1,hd,hc2,hz2⟩ ⟨o,ho⟩
  refine⟨nh,rfl,?_⟩
  have h1:Hp C (hcat nh (kpH H hs hs)) w:=hh.cov gs h0
  have h2:Hp C ((kd,.ob w.heap.size dfT)::hcat nh (kpH H hs hs)) W':=h1.new hn1 hc1 (fun b hb=>by simp only[Res.bl,List.mem_singleton]at hb;omega) (fun j hj=>by cases hj) fun F B _ _ _=>⟨_,hd,rfl⟩
  refine h2.new (by rw[hk_cons,if_neg hne];exact hn2) hc2 (fun b hb=>by simp only[Res.bl,List.mem_singleton]at hb;omega) (fun j hj=>by cases hj) fun F B _ _ _=>⟨o,ho,trivial⟩
 ·rintro W W' ⟨nh',rfl,hW⟩ hc
  obtain⟨o,ho,_⟩: ∃o,W.heap[w.heap.size+1]?=some o∧lpT o:=hW.hold kl (.ob (w.heap.size+1) lpT) (by rw[hk_cons,if_pos rfl])
  obtain⟨o',ho'⟩:=grow ho hc
  exact⟨nh',rfl,hW.ob (hlast0 hJ0) hc ho' trivial⟩
 ·rintro u k W W' _ hIk hc
  subst hI
  obtain⟨nh',hJ,hW⟩:=hIk
  obtain⟨o,ho,_⟩:=hlo hW
  obtain⟨o',ho'⟩:=grow ho hc
  exact⟨nh',hJ,hW.ob (hlast hJ) hc ho' trivial⟩
 ·rintro u k W W' _ hIk hc
  subst hI
  obtain⟨nh',hJ,hW⟩:=hIk
  obtain⟨o,ho,_⟩:=hgo hW
  obtain⟨o',ho'⟩:=grow ho hc
  exact⟨nh',hJ,htu hJ hW hc ho' trivial⟩
 ·rintro u W W' ⟨nh',rfl,hW⟩ hc hu hu'
  subst hI
  refine⟨nh',hJ0,hext.2 ?_⟩
  have h1:Hp C ((kl,.ob (w.heap.size+1) lpT)::(kd,.ob w.heap.size dfT)::hcat nh' (kpH H hs hs)) W:=hW
  have h2:hk ((kl,.ob (w.heap.size+1) lpT)::(kd,.ob w.heap.size dfT)::hcat nh' (kpH H hs hs)) ku=none:=by
   rw[hk_cons,if_neg hlu,hk_cons,if_neg hdu];exact(hch hJ0).2.2
  exact(h1.new (r':=.ob u lpT) h2 hc (fun b hb=>by simp only[Res.bl,List.mem_singleton]at hb;omega) (fun j hj=>by cases hj) fun F B _ _ _=>⟨_,Array.getElem?_eq_getElem hu',trivial⟩).swap (Ne.symm hlu)
 ·exact fun e W W' h hc W2 hc2=>h W2 (Ch.then (U:=[w.heap.size+1]) hc hc2 (by simp) (by simp))
 ·rintro W ⟨nh',rfl,hW⟩
  obtain⟨ls,hS⟩:=hsub0 w.heap.size (w.heap.size+1)
  exact hS.hp hW hHc0 rfl (by simp)
 ·intro u k W _ h
  subst hI
  show Hp ⟨0,[],W,[u],Φ u k W⟩ _ W
  rw[hΦe u k W h]
  obtain⟨hJ,hW⟩:=Classical.choose_spec h
  obtain⟨ls,hS,hls⟩:=(hsub _ _ w.heap.size (w.heap.size+1) u hJ).1
  have hku:hk (HX kd kl ku w.heap.size (w.heap.size+1) u lpT lpT (Classical.choose h) (kpH H hs hs)) ku=some (.ob u lpT):=by
   rw[hk_cons,if_neg hlu,hk_cons,if_neg hdu]
   show hk ((ku,.ob u lpT)::hcat (Classical.choose h) (kpH H hs hs)) ku=_
   rw[hk_cons,if_pos rfl]
  have h3:=(Sub.m (k0:=kU) ku hS hku rfl).hp hW hHc rfl (by simpa using hls)
  have e:blks (HX kd kl ku w.heap.size (w.heap.size+1) u lpT lpT (Classical.choose h) (kpH H hs hs)) [(kU,ku)]=[u]:=by
   unfold blks;rw[hku];rfl
  rw[e]at h3
  exact h3
 ·intro u k W0 W args a1 o hk1 _ hgW hIk hc hlt ⟨x,cs,hx,hargs,hrep⟩ hlen ho hdf hfr
  subst hI
  rw[hΦe u k W0 hIk]at hrep
  obtain⟨hJ,hW⟩:=Classical.choose_spec hIk
  obtain⟨nh',hnh⟩: ∃nh',nh'=Classical.choose hIk:=⟨_,rfl⟩
  rw[←hnh]at hrep hJ hW
  obtain⟨ou,hou⟩: ∃ou,W.heap[u]?=some ou:=⟨_,Array.getElem?_eq_getElem hgW⟩
  have hWu:Hp C (HX kd kl ku w.heap.size (w.heap.size+1) u lpT (fun x=>x=ou) nh' (kpH H hs hs)) W:=htu hJ hW hc hou rfl
  have hW1:Hp C (HX kd kl ku w.heap.size (w.heap.size+1) u (fun x=>x=o) (fun x=>x=ou) nh' (kpH H hs hs)) W:=hWu.ob (hlast hJ) (Ch.refl' _ _) ho rfl
  have hb:=(sub_mvl (HX kd kl ku w.heap.size (w.heap.size+1) u (fun x=>x=o) (fun x=>x=ou) nh' (kpH H hs hs)) bs).hp hW1 (nod_nodup.2 ((kpH_sub _ _ bs).nodup (nod_nodup.1 hbs))) (nod_nodup.2 ((mvl_sub _ bs).nodup (nod_nodup.1 hbs))) (by simp)
  have hpq: ∀j b,Bk (HX kd kl ku w.heap.size (w.heap.size+1) u (fun x=>x=o) (fun x=>x=ou) nh' (kpH H hs hs)) j b→Bk (HX kd kl ku w.heap.size (w.heap.size+1) u lpT lpT nh' (kpH H hs hs)) j b:=fun j b ⟨r,h1,h2⟩=>by
   have h1':hk ((kl,.ob (w.heap.size+1) (fun x=>x=o))::(kd,.ob w.heap.size dfT)::(ku,.ob u (fun x=>x=ou))::hcat nh' (kpH H hs hs)) j=some r:=h1
   show Bk ((kl,.ob (w.heap.size+1) lpT)::(kd,.ob w.heap.size dfT)::(ku,.ob u lpT)::hcat nh' (kpH H hs hs)) j b
   unfold Bk
   simp only[hk_cons]at h1' ⊢
   by_cases e1:kl=j
   ·rw[if_pos e1]at h1' ⊢
    injection h1' with h1';subst h1'
    exact⟨_,rfl,h2⟩
   ·rw[if_neg e1]at h1' ⊢
    by_cases e2:kd=j
    ·rw[if_pos e2]at h1' ⊢
     exact⟨r,h1',h2⟩
    ·rw[if_neg e2]at h1' ⊢
     by_cases e3:ku=j
     ·rw[if_pos e3]at h1' ⊢
      injection h1' with h1';subst h1'
      exact⟨_,rfl,h2⟩
     ·rw[if_neg e3]at h1' ⊢
      exact⟨r,h1',h2⟩
  have hrep2:t.rep W (Fh ⟨C.n,[],W,blks (HX kd kl ku w.heap.size (w.heap.size+1) u (fun x=>x=o) (fun x=>x=ou) nh' (kpH H hs hs)) (mvl (HX kd kl ku w.heap.size (w.heap.size+1) u (fun x=>x=o) (fun x=>x=ou) nh' (kpH H hs hs)) bs),Fh C (HX kd kl ku w.heap.size (w.heap.size+1) u (fun x=>x=o) (fun x=>x=ou) nh' (kpH H hs hs))⟩ (kpH (HX kd kl ku w.heap.size (w.heap.size+1) u (fun x=>x=o) (fun x=>x=ou) nh' (kpH H hs hs)) [] bs)) cs x:=by
   have hnb: ∀b,(∀j,¬Bk (HX kd kl ku w.heap.size (w.heap.size+1) u (fun x=>x=o) (fun x=>x=ou) nh' (kpH H hs hs)) j b)→∀j,¬Bk (kpH (HX kd kl ku w.heap.size (w.heap.size+1) u (fun x=>x=o) (fun x=>x=ou) nh' (kpH H hs hs)) [] bs) j b:=fun b hB j ⟨r,h1,h2⟩=>hB j ⟨r,(hk_kpH h1).1,h2⟩
   refine rep_to hrep (S:=[]) (Ch.refl W) fun b hb hl=>⟨by simp,?_⟩
   have:Fh C (HX kd kl ku w.heap.size (w.heap.size+1) u (fun x=>x=o) (fun x=>x=ou) nh' (kpH H hs hs)) b:=by
    rcases hb with hb|hb
    ·exact⟨fun j hj=>hb.1 j (hpq j b hj),hb.2⟩
    ·exact⟨fun j hj=>by have:=(hW.bnd j b (hpq j b hj)).2;omega,.inr (.inl (Nat.le_trans hW.ch.size hb))⟩
   exact⟨hnb b this.1,.inl this⟩
  obtain⟨pl,hpl,hcs,hb2⟩:=put_dat hb.nds hrep2 kn ((hsub _ _ w.heap.size (w.heap.size+1) u hJ).2.2 o _)
  subst hcs
  rw[hargs]at hfr
  refine wpIn_mono (tele_at (hround u ou k nh' x w.heap.size (w.heap.size+1) W o hJ hx (rep_ok t hrep) hW1) pl hpl a1 W hfr hb2) fun e a2 W2 he=>?_
  cases e with
  |normal=>
   obtain⟨h1,h2,h3⟩:=he
   refine⟨rfl,h1,h2,fun W3 o2 hc3 ho3 hd3=>wpIn_mono (h3 W3 o2 hc3 ho3 hd3) fun e a4 W4 he4=>?_⟩
   obtain⟨h5,h6,h7⟩:=he4
   refine⟨h5,h6,?_⟩
   cases e with
   |normal=>
    obtain⟨nh2,⟨nh3,rfl,hJ3⟩,h8⟩:=h7
    obtain⟨o9,ho9,rfl⟩:=hgo (q:=fun x=>x=ou) h8
    exact⟨⟨nh3,hJ3,htu (q:=fun x=>x=o9) hJ3 h8 (Ch.refl' _ _) ho9 trivial⟩,ho9.trans hou.symm⟩
   |_=>exact h7
  |_=>exact False.elim he
 ·rintro u W a' _ hIk hd hf'
  subst hI
  obtain⟨nh',hJ,hW⟩:=hIk
  exact hdone u nh' _ _ hJ a' W hf' hW.nds
 ·exact fun W a' hX hd hf'=>hX W (Ch.refl' _ _) a' hf'
 ·exact fun id W a' hX hd hf'=>hX W (Ch.refl' _ _) a' hf'
end
structure YlU (P:Program) (lid:Nat) (J0:World→Prop) (J:Nat→Nat→World→Prop) (Jx:World→Prop) (Φ0:World→Nat→Prop) (Φ:Nat→Nat→World→Nat→Prop) (Hc:List (Nat×Res)) (t:Ty) (ag:List Value→List Value) (xs:List t.den):Prop where
 js0: ∀W W',J0 W→Ch [] W W'→J0 W'
 js: ∀g k W W',J g k W→Ch [g] W W'→J g k W'
 jx: ∀W W',Jx W→Ch [] W W'→Jx W'
 dat0: ∀W,J0 W→Hp ⟨0,[],W,[],Φ0 W⟩ Hc W
 cv: ∀g W W',J0 W→Ch [] W W'→W.heap.size≤g→g<W'.heap.size→J g 0 W'
 dat: ∀g k W,J g k W→Hp ⟨0,[],W,[g],Φ g k W⟩ ((kU,.ob g lpT)::Hc) W
 y: ∀g k W0 W args,k<xs.length→J g k W0→Ch [g] W0 W→ElU t ag xs Φ g k W0 W args→YieldAt (FW none) 0 P lid args.toArray W fun e W'=>(e=.returned (.bool true)∧J g (k+1) W'∧W'.heap[g]?=W.heap[g]?)∨(e=.returned (.bool false)∧Jx W')
abbrev CY0 (n:Nat) (Φ0:World→Nat→Prop) (w:World):Cx:=⟨n,[],w,[],Φ0 w⟩
abbrev CYU (n g:Nat) (Φ:Nat→Nat→World→Nat→Prop) (i:Nat×World):Cx:=⟨n,[],i.2,[g],Φ g i.1 i.2⟩
section
variable {P:Program}{lid:Nat}{J0:World→Prop}{J:Nat→Nat→World→Prop}{Jx:World→Prop}{Φ0:World→Nat→Prop}{Φ:Nat→Nat→World→Nat→Prop}{Hc:List (Nat×Res)}{t:Ty}{ag:List Value→List Value}{xs:List t.den}{n:Nat}
theorem SqU.enter {gf:FuncId}{fn:Func}{c:Code}{cap:List Value}(hf:P.funcs[gf]?=some fn)(hb:fn.body=some c)(hn:fn.ntmps=n)(hm:Nat.ble (cap.length+1) n=true)
  (h: ∀lid w J0 J Jx Φ0 Φ,YlU P lid J0 J Jx Φ0 Φ Hc t ag xs→J0 w→AX none P (bodyPost P fn fun e W'=>e=.returned (.tuple #[])∧((∃g,J g xs.length W')∨Jx W')) [] c (CY0 n Φ0 w) (argl (.func (.yield lid) #[] #[]::cap) 0) Hc):SqU P gf cap Hc t ag xs:=fun Φ0 Φ lid w J0 J Jx h1 h2 h3 h4 h5 h6 h7 h8=>
 Z.enter hf hb hn (Nat.le_of_ble_eq_true hm) fun a hf'=>h lid w J0 J Jx Φ0 Φ ⟨h1,h2,h3,h4,h5,h6,h8⟩ h7 a w hf' (h4 w h7).nds
theorem Hp.turn {C:Cx}{H:List (Nat×Res)}{w:World}{k g p:Nat}{s:ByteArray}{q:Obj→Prop}(h:Hp C ((k,.ob g q)::H) w)(hs:Si w g s p)(hr:nrf k H=true):Hp C ((k,.si g s p)::H) w:=by
 have h1:Hp C ((k,.si g s p)::drp k ((k,.ob g q)::H)) w:=h.upd (Ch.refl w) (fun b hb=>by cases hb) (fun b hb=>.inl (Bk.cons_eq.2 hb)) (fun j hj=>by cases hj) fun _ _ _ _ _ _ _=>hs
 refine h1.ext fun j=>.inl ?_
 rw[hk_cons,hk_cons]
 by_cases e:k=j
 ·rw[if_pos e,if_pos e]
 ·rw[if_neg e,if_neg e,hk_drp_eq,hk_cons,if_neg e]
  cases hj:hk H j with
  |none=>rfl
  |some v=>
   have:=nrf_spec hr hj
   cases hv:v.ref with
   |none=>simp[rin,hv]
   |some i=>
    have hi:i≠k:=fun e=>this (by rw[hv,e])
    have hb:Nat.beq i k=false:=by cases hb:Nat.beq i k with
     |false=>rfl
     |true=>exact absurd (Nat.eq_of_beq_eq_true hb) hi
    simp[rin,hv,hb]
theorem AL.rgsU {ops:Array Oper}{Q:Exit→Act→World→Prop}{rest:List Oper}{l:List (Nat×Value)}{H:List (Nat×Res)}{d:Nat}{T:TypeId}{pos:String}{af:Array Edge}{w0:World}{tt:TypeId}{x:Operand}{s:ByteArray}(hY:YlU P lid J0 J Jx Φ0 Φ Hc t ag xs)(hJ:J0 w0)
  (h: ∀g w',J g 0 w'→AL none P ops Q rest (CYU n g Φ (0,w')) ((d,.pointer (some ⟨g,0,none⟩))::l) ((kU,.si g s 0)::Hc))
  (ht:P.underlying tt=some .string:=by rfl) (hx:ev l x=some (.string s):=by rfl) (hd:Nat.ble (d+1) n=true:=by rfl) (hr:nrf kU Hc=true:=by kernel_rfl):AL none P ops Q (⟨some d,.range tt x,T,pos,af,none⟩::rest) (CY0 n Φ0 w0) l H:=fun a w hf hh=>
 Z.st_rangeStr hf hd ht hx fun g w' a' hg hs hb hch hf'=>by
  have hJ':J g 0 w':=hY.cv g w w' (hY.js0 _ _ hJ hh.ch) hch (by omega) hb.lt
  exact h g w' hJ' a' w' hf' ((hY.dat g 0 w' hJ').turn hb hr).nds
theorem AL.yieldU {ops:Array Oper}{Q:Exit→Act→World→Prop}{rest:List Oper}{l:List (Nat×Value)}{H:List (Nat×Res)}{d:Nat}{T:TypeId}{pos:String}{af:Array Edge}{c:Operand}{ass:List Operand}{ts:Array TypeId}{vs:List Value}{g k p:Nat}{w0:World}{s:ByteArray}{x:t.den}{rs:List t.den}
  (hY:YlU P lid J0 J Jx Φ0 Φ Hc t ag xs) (hJ:J g k w0) (hR:Rem xs k (x::rs)) (cs:List Value) (hD:Dat H t cs x)
  (ht: ∀w',J g (k+1) w'→Rem xs (k+1) rs→AL none P ops Q rest (CYU n g Φ (k+1,w')) ((d,.bool true)::l) ((kU,.si g s p)::Hc))
  (he: ∀w',Jx w'→AL none P ops Q rest ⟨n,[],w',[],no⟩ ((d,.bool false)::l) [])
  (hsi:hk H kU=some (.si g s p):=by rfl) (hr:nrf kU Hc=true:=by kernel_rfl)
  (hc:ev l c=some (.func (.yield lid) #[] #[]):=by rfl) (hx:evs l ass=some vs:=by rfl) (hv:ag cs=vs:=by rfl) (hd:Nat.ble (d+1) n=true:=by rfl):
  AL none P ops Q (⟨some d,.call {callee:=.value c,args:=ass.toArray,argTypes:=ts},T,pos,af,none⟩::rest) (CYU n g Φ (k,w0)) l H:=fun a w hf hh=>by
 subst hv
 have hlt:k<xs.length:=(List.getElem?_eq_some_iff.1 hR.at).1
 have hs:Si w g s p:=hh.hold kU _ hsi
 refine callY hf hd hc hx (hY.y g k w0 w _ hlt hJ hh.ch ⟨x,cs,hR.at,rfl,rep_as (Dat.rep hh t hD) fun b hb hl=>?_⟩) ?_
 ·rcases hb.2 with h1|h1|h1
  ·exact .inl h1
  ·exact .inr h1
  ·exact absurd (show Bk H kU b from⟨_,hsi,h1⟩) (hb.1 kU)
 ·rintro e w' (⟨rfl,h1,h2⟩|⟨rfl,h1⟩)
  ·exact⟨_,rfl,fun a' hf'=>ht w' h1 hR.next a' w' hf' ((hY.dat _ _ _ h1).turn (show Si w' g s p from h2.trans hs) hr).nds⟩
  ·exact⟨_,rfl,fun a' hf'=>he w' h1 a' w' hf' ⟨Ch.refl' _ _,fun k r h=>(by cases h),fun k b ⟨_,h,_⟩=>(by cases h),fun k k' b ⟨_,h,_⟩=>(by cases h),fun k r j h=>(by cases h)⟩⟩
theorem AX.rtYU {fn:Func}{K:List Kx}{l:List (Nat×Value)}{H:List (Nat×Res)}{g k:Nat}{w0:World}(hY:YlU P lid J0 J Jx Φ0 Φ Hc t ag xs)(hJ:J g k w0)(hR:Rem xs k [])(h:fn.results=#[]:=by rfl):AX none P (bodyPost P fn fun e W'=>e=.returned (.tuple #[])∧((∃g,J g xs.length W')∨Jx W')) K .ret (CYU n g Φ (k,w0)) l H:=AX.ret0 fun a w hf hh=>
 Z.retv hf (Z.res0 h w) ⟨rfl,.inl ⟨g,hR.nil▸hY.js _ _ _ _ hJ hh.ch⟩⟩
theorem AE.rtYU {fn:Func}{l:List (Nat×Value)}{H:List (Nat×Res)}{g k:Nat}{w0:World}(hY:YlU P lid J0 J Jx Φ0 Φ Hc t ag xs)(hJ:J g k w0)(hR:Rem xs k [])(h:fn.results=#[]:=by rfl):AE none P (bodyPost P fn fun e W'=>e=.returned (.tuple #[])∧((∃g,J g xs.length W')∨Jx W')) [] .normal (CYU n g Φ (k,w0)) l H:=fun a w hf hh=>
 Z.endv hf (Z.res0 h w) ⟨rfl,.inl ⟨g,hR.nil▸hY.js _ _ _ _ hJ hh.ch⟩⟩
theorem AX.rtXU {fn:Func}{K:List Kx}{l:List (Nat×Value)}{H:List (Nat×Res)}{w0:World}{F:Nat→Prop}(hY:YlU P lid J0 J Jx Φ0 Φ Hc t ag xs)(hJ:Jx w0)(h:fn.results=#[]:=by rfl):AX none P (bodyPost P fn fun e W'=>e=.returned (.tuple #[])∧((∃g,J g xs.length W')∨Jx W')) K .ret ⟨n,[],w0,[],F⟩ l H:=AX.ret0 fun a w hf hh=>
 Z.retv hf (Z.res0 h w) ⟨rfl,.inr (hY.jx _ _ hJ hh.ch)⟩
theorem AE.rtXU {fn:Func}{l:List (Nat×Value)}{H:List (Nat×Res)}{w0:World}{F:Nat→Prop}(hY:YlU P lid J0 J Jx Φ0 Φ Hc t ag xs)(hJ:Jx w0)(h:fn.results=#[]:=by rfl):AE none P (bodyPost P fn fun e W'=>e=.returned (.tuple #[])∧((∃g,J g xs.length W')∨Jx W')) [] .normal ⟨n,[],w0,[],F⟩ l H:=fun a w hf hh=>
 Z.endv hf (Z.res0 h w) ⟨rfl,.inr (hY.jx _ _ hJ hh.ch)⟩
end
end Go.A
end
section
set_option linter.unusedVariables false
set_option linter.unusedSimpArgs false
set_option maxRecDepth 20000
set_option maxHeartbeats 8000000
set_option synthInstance.maxSize 1000000
set_option synthInstance.maxHeartbeats 400000
namespace Go.Proofs.YtbljnlkhebiniaaGreatDoor
open Go.RowKit
def F.rec_Runes_1_it_l1 (b0:ByteArray):Nat→Nat→Option (List (Int×Int))
 |0,_=>none
 |f+1,p4=>if p4<b0.size then(A.cns ((p4:Int),((Utf8.decode b0 p4).1:Int)) ((F.rec_Runes_1_it_l1 b0 f) (p4+(Utf8.decode b0 p4).2)))else(some [])
def F.rec_Runes_1_it (b0:ByteArray):Option (List (Int×Int)):=F.rec_Runes_1_it_l1 b0 A.FU 0
theorem rec_Runes_1_it_sq (b0:ByteArray)(g0_:Nat)(h1_:b0.size≤maxLen)(xs:List (Int×Int))(hF:F.rec_Runes_1_it b0=some xs):
    A.SqU Tryz.prog 137 [.pointer (some ⟨g0_,0,none⟩)] [(0,.el none g0_ 0 [.string b0])] (Z.Ty.pair (Z.Ty.int .i64) (Z.Ty.int .i32)) (fun cs=>[Z.vof false (cs.take 1),Z.vof false (cs.drop 1)]) xs:=by
 refine A.SqU.enter Tryz.func137 rfl Tryz.ntmps137 rfl fun lid w0 J0 J Jx Φ0 Φ hY hJ0=>?_
 obtain⟨rs0,hrs⟩: ∃rs0,rs0=xs:=⟨_,rfl⟩
 have hR0:A.Rem xs 0 rs0:=hrs▸A.Rem.zero xs
 rw[F.rec_Runes_1_it,←hrs]at hF
 clear hrs
 refine A.xl 1 ?_
 refine A.q0 [] [0] [.e 0 0] [(5,.string b0)] ?_
 refine A.AL.rgsU hY hJ0 fun g1 w2 hJ3=>?_
 refine A.dx 2 ?_
 refine A.AX.loopC (A.CYU 16 g1 Φ) (0,w2) [0,6] [] [4711] (fun f i nl nh=>∃(p4:Nat),∃(rs:List (Int×Int)),nl=[]∧nh=[(4711,.si g1 b0 p4)]∧J g1 i.1 i.2∧A.Rem xs i.1 rs∧F.rec_Runes_1_it_l1 b0 f p4=some rs) A.FU [] [(4711,.si g1 b0 0)] ⟨0,_,rfl,rfl,hJ3,hR0,hF⟩ ?_
 rintro f5 ⟨k6,w7⟩ _ _ ⟨p4,rs10,rfl,rfl,hJ8,hR9,hF⟩
 rcases f5 with _|f5
 ·exact A.no0 hF
 rw[F.rec_Runes_1_it_l1]at hF
 refine A.xl 1 ?_
 refine A.AL.nxs 4711 [] hF (fun hb11 hF=>?_) (fun hb hF=>?_)
 ·refine A.q0 [] [] [.n] [(8,.bool true)] ?_
  refine A.dx 2 ?_
  refine A.AX.cnt rfl ?_
  refine A.xl 4 ?_
  refine A.q0 [] [] [.n,.n,.n,.n] [(3,.int .i64 (p4:Int)),(4,.int .i32 ((Utf8.decode b0 p4).1:Int))] ?_
  refine A.dl 2 ?_
  refine A.q0 [] [] [.n,.n,.n] [(11,.func (.yield lid) #[] #[]),(12,.int .i64 (p4:Int)),(13,.int .i32 ((Utf8.decode b0 p4).1:Int))] ?_
  obtain⟨rs12,hqrs12,hF⟩:=A.cns_some hF
  refine A.AL.yieldU (t:=.pair (Z.Ty.int .i64) (Z.Ty.int .i32)) (x:=((p4:Int),((Utf8.decode b0 p4).1:Int))) hY hJ8 (hqrs12▸hR9) [.int .i64 (p4:Int),.int .i32 ((Utf8.decode b0 p4).1:Int)] ⟨⟨rfl,(A.si_has hb11 h1_)⟩,⟨rfl,A.dec_has⟩⟩ (fun w13 hJ14 hR15=>?_) (fun w13 hX16=>?_)
  ·refine A.q0 [] [] [.n] [(15,.bool false)] ?_
   refine A.dx 1 ?_
   refine A.AX.cnf rfl ?_
   refine A.xe 2 ?_
   exact A.AE.jC (k6+1,w13) [4711] [] [(4711,.si g1 b0 (p4+(Utf8.decode b0 p4).2))] ⟨_,Nat.lt_succ_self _,⟨(p4+(Utf8.decode b0 p4).2),_,rfl,rfl,hJ14,hR15,hF⟩⟩
  refine A.q0 [] [] [.n] [(15,.bool true)] ?_
  refine A.dx 1 ?_
  refine A.AX.cnt rfl ?_
  exact A.AX.rtXU hY hX16
 refine A.q0 [] [] [.n] [(8,.bool false)] ?_
 refine A.dx 2 ?_
 refine A.AX.cnf rfl ?_
 refine A.xe 1 ?_
 obtain rfl:=Option.some.inj hF
 exact A.AE.rtYU hY hJ8 hR9
def F.rec_Cut_l1 (a0:ByteArray)(a1:Int):List (Int×Int)→Int→Option ByteArray
 | [],y23=>if(a0.size:Int)≤a1 then(some a0)else(A.gd (0≤y23∧y23≤(a0.size:Int)) (some (a0.extract 0 y23.toNat)))
 |y20::f,y23=>if a1<y20.1 then(A.gd (0≤y23∧y23≤(a0.size:Int)) (some (a0.extract 0 y23.toNat)))else((F.rec_Cut_l1 a0 a1 f) y20.1)
def F.rec_Cut (a0:ByteArray)(a1:Int):Option ByteArray:=(F.rec_Runes a0).bind fun r5=>((F.rec_Runes_1_it r5).bind fun xs9=>F.rec_Cut_l1 a0 a1 xs9 0)
theorem rec_Cut_ok (a0:ByteArray)(a1:Int)(h0_:a0.size≤maxLen)(h1_:IntKind.i64.has a1)(r:ByteArray)(hF:F.rec_Cut a0 a1=some r):
    A.Ct Tryz.prog 62 [.string a0,.int .i64 a1] [] [] (fun v H'=>v=.string r∧H'=[]∧r.size≤maxLen):=by
 refine A.Ct.enterM Tryz.func62 rfl Tryz.ntmps62 rfl fun w0 F0=>?_
 rw[F.rec_Cut]at hF
 refine A.xl 1 ?_
 refine A.AL.box 0 (cs:=[.string a0]) fun g1=>?_
 refine A.AL.box 1 (cs:=[.int .i64 a1]) fun g2=>?_
 refine A.AL.alloc 2 (cs:=[.string (ByteArray.mk #[])]) Tryz.zeroValue9 fun g3=>?_
 refine A.dl 2 ?_
 refine A.AL.alloc 3 (cs:=[.int .i64 0]) Tryz.zeroValue3 fun g4=>?_
 refine A.sw 3 [] [.int .i64 0] ?_
 refine A.dl 3 ?_
 refine A.q0 [0] [] [.b 0 0] [(7,.string a0)] ?_
 obtain⟨r5,hv6,hF⟩:=A.bd_some hF
 refine A.AL.call 4 [] (first:=[]) (cap:=[]) cf101 (rec_Runes_ok a0 h0_ r5 hv6) .nil ?_
 rintro _ _ ⟨g7,rfl,rfl,hr8⟩
 refine⟨by kernel_rfl,?_⟩
 refine A.dx 2 ?_
 obtain⟨xs9,hv10,hF⟩:=A.bd_some hF
 refine A.AX.rgfU 44 45 46 47 [0,1,2,4] [3,0,1,2,4] [45,44,3,0,1,2,4] (fun k nh=>∃(y23:Int),nh=[(3,.blk g4 3 [.int .i64 y23])]∧IntKind.i64.has y23∧F.rec_Cut_l1 a0 a1 (List.drop k xs9) y23=some r) [(3,.blk g4 3 [.int .i64 0])] cf137 (rec_Runes_1_it_sq r5 g7 hr8 xs9 hv10) (fun _=>rfl) ⟨0,rfl,(A.hasl .i64 (0) rfl),hF⟩ ?_ ?_ ?_ ?_
 ·rintro k19 _ D13 L14 u11 ⟨y23,rfl,hy24,hF⟩
  exact⟨⟨_,(.b 4 .nil),rfl⟩,by kernel_rfl,fun o p=>rfl⟩
 ·intro D13 L14
  exact⟨_,(.b 4 .nil)⟩
 ·rintro u11 ou12 k19 _ y20 D13 L14 w18 o15 ⟨y23,rfl,hy24,hF⟩ hx21 hxo22 hh17
  rw[A.drop_at hx21,F.rec_Cut_l1]at hF
  refine A.xl 0 ?_
  refine A.q0 [] [] [.n] [(6,.int .i64 y20.1)] ?_
  refine A.AL.done ?_
  refine A.AE.flip 44 45 fun o16=>?_
  refine A.xl 3 ?_
  refine A.q0 [1] [] [.n,.b 0 0,.n] [(13,.bool (decide (a1<y20.1)))] ?_
  refine A.dx 1 ?_
  refine A.AX.cnd rfl hF (fun hb hF=>?_) (fun hb hF=>?_)
  ·refine A.xl 1 ?_
   refine A.q0 [0,3] [] [.b 0 0,.b 1 0] [(14,.string a0),(15,.int .i64 y23)] ?_
   obtain⟨hc25,hF⟩:=A.gd_some hF
   refine A.AL.slh hc25 ?_
   refine A.sw 2 [] [.string (a0.extract 0 y23.toNat)] ?_
   refine A.dx 1 ?_
   refine A.AX.bret hh17 [45,0,1,2,3,4,44] 100000 [(45,100045),(0,100000),(1,100001),(2,100002),(3,100003),(4,100004),(44,100044)] [(0,.blk g1 9 [.string a0]),(1,.blk g2 3 [.int .i64 a1]),(2,.blk g3 9 [.string (a0.extract 0 y23.toNat)]),(3,.blk g4 3 [.int .i64 y23]),(4,.blk g7 9 [.string r5]),(44,.ob D13 A.dfT)] ?_ rfl rfl
   obtain rfl:=Option.some.inj hF
   exact A.AE.rtM (Ds:=[D13]) [44] [] (.string (a0.extract 0 y23.toNat)) (⟨rfl,trivial⟩) (fun a w hf hh=>Z.resv1 rfl (Z.rv_1 hf rfl Tryz.isAgg9 (A.Hp.blk hh 2))) (⟨rfl,rfl,(A.ext_le h0_)⟩)
  refine A.xl 2 ?_
  refine A.q0 [] [] [.n] [(17,.int .i64 y20.1)] ?_
  refine A.sw 3 [] [.int .i64 y20.1] ?_
  refine A.de 1 ?_
  exact A.AE.bn hh17 [45,44,3,0,1,2,4] 100000 [(45,100045),(44,100044),(46,46),(3,100003),(0,100000),(1,100001),(2,100002),(4,100004)] [(46,.ob u11 (fun x=>x=ou12)),(3,.blk g4 3 [.int .i64 y20.1])] ⟨_,rfl,y20.1,rfl,hxo22.1,hF⟩ rfl rfl
 rintro u11 _ D13 L14 ⟨y23,rfl,hy24,hF⟩
 rw[List.drop_length,F.rec_Cut_l1]at hF
 refine A.el 4 ?_
 refine A.q0 [0,1] [] [.b 0 0,.n,.b 1 0,.n] [(21,.bool (decide ((a0.size:Int)≤a1)))] ?_
 refine A.dx 1 ?_
 refine A.AX.cnd rfl hF (fun hb hF=>?_) (fun hb hF=>?_)
 ·refine A.xl 1 ?_
  refine A.q0 [0] [] [.b 0 0] [(22,.string a0)] ?_
  refine A.sw 2 [] [.string a0] ?_
  refine A.dx 1 ?_
  obtain rfl:=Option.some.inj hF
  exact A.AX.rtM (Ds:=[D13]) [44] [] (.string a0) (⟨rfl,trivial⟩) (fun a w hf hh=>Z.resv1 rfl (Z.rv_1 hf rfl Tryz.isAgg9 (A.Hp.blk hh 2))) (⟨rfl,rfl,h0_⟩)
 refine A.xl 3 ?_
 refine A.q0 [0,3] [] [.b 0 0,.b 1 0] [(23,.string a0),(24,.int .i64 y23)] ?_
 obtain⟨hc26,hF⟩:=A.gd_some hF
 refine A.AL.slh hc26 ?_
 refine A.sw 2 [] [.string (a0.extract 0 y23.toNat)] ?_
 refine A.dx 1 ?_
 obtain rfl:=Option.some.inj hF
 exact A.AX.rtM (Ds:=[D13]) [44] [] (.string (a0.extract 0 y23.toNat)) (⟨rfl,trivial⟩) (fun a w hf hh=>Z.resv1 rfl (Z.rv_1 hf rfl Tryz.isAgg9 (A.Hp.blk hh 2))) (⟨rfl,rfl,(A.ext_le h0_)⟩)
def F.fn_Reduce_j1 (k1:Int→ByteArray→Int→Option (D43×Int))(y18:Int)(y22:Int)(y25:ByteArray):Option (D43×Int):=A.gd (Z.R64 (y22+1)) (k1 y18 y25 (y22+1))
def F.fn_Reduce_l2 (a0:D23)(a1:(List D69)):Nat→Int→ByteArray→Int→Option (D43×Int)
 |0,_,_,_=>none
 |f+1,y18,y20,y22=>if y22<((List.drop ((1:Int).toNat) a1).length:Int)then((A.ix (List.drop ((1:Int).toNat) a1) y22).bind fun x28=>(if x28.1.1≠y18 then(some ((0,ByteArray.mk #[]),1))else(if a0.1=34 then(A.gd (y20.size+x28.1.2.size≤9223372036854775807) (F.fn_Reduce_j1 (F.fn_Reduce_l2 a0 a1 f) y18 y22 (y20++x28.1.2)))else((F.fn_ahead a0.1 x28.1.2 y20).bind fun r35=>(if r35=true then(F.fn_Reduce_j1 (F.fn_Reduce_l2 a0 a1 f) y18 y22 x28.1.2)else(F.fn_Reduce_j1 (F.fn_Reduce_l2 a0 a1 f) y18 y22 y20))))))else((F.rec_Cut y20 64).bind fun r37=>(some ((y18,r37),0)))
def F.fn_Reduce (a0:D23)(a1:(List D69)):Option (D43×Int):=(F.fn_Check 8 (a0.1,a0.2.1,a0.2.2)).bind fun r3=>(if r3≠0 then(some ((0,ByteArray.mk #[]),r3))else((F.rec_CheckBag a1).bind fun r6=>(if r6≠0 then(some ((0,ByteArray.mk #[]),r6))else(if((a1).length:Int)=0 then(some ((0,ByteArray.mk #[]),4))else((A.ix a1 0).bind fun x9=>(A.gd (0≤(1:Int)∧(1:Int).toNat≤(a1).length) (F.fn_Reduce_l2 a0 a1 A.FU x9.1.1 x9.1.2 0)))))))
theorem fn_Reduce_ok (a0:D23)(a1:(List D69))(A3_:Option Addr)(c4_:Nat)(h0_:IntKind.i64.has a0.1)(h1_:IntKind.i64.has a0.2.1)(h2_:a0.2.2.size≤maxLen)(r:D43×Int)(hF:F.fn_Reduce a0 a1=some r):
    A.Ct Tryz.prog 61 [.agg #[.int .i64 a0.1,.int .i64 a0.2.1,.string a0.2.2],.slice A3_ ((a1).length) c4_] [(0,.sh (.slice T69) [.slice A3_ (a1).length c4_] a1),(1,.el none 1 0 A.tabF),(2,.el none 2 0 A.tabA)] [] (fun v H'=>v=.tuple #[.agg #[.int .i64 r.1.1,.string r.1.2],.int .i64 r.2]∧H'=[]∧IntKind.i64.has r.1.1∧r.1.2.size≤maxLen∧IntKind.i64.has r.2):=by
 refine A.Ct.enter Tryz.func61 rfl Tryz.ntmps61 rfl fun w0 F0=>?_
 rw[F.fn_Reduce]at hF
 refine A.xl 1 ?_
 refine A.AL.box 3 (cs:=[.int .i64 a0.1,.int .i64 a0.2.1,.string a0.2.2]) fun g1=>?_
 refine A.AL.alloc 4 (cs:=[.int .i64 0,.string (ByteArray.mk #[])]) Tryz.zeroValue44 fun g2=>?_
 refine A.q0 [] [] [.n] [] ?_
 refine A.dl 3 ?_
 refine A.q0 [3] [] [.b 0 0] [(11,.agg #[.int .i64 a0.1,.int .i64 a0.2.1,.string a0.2.2])] ?_
 obtain⟨r3,hv4,hF⟩:=A.bd_some hF
 refine A.AL.call 5 [] (first:=[]) (cap:=[]) cf57 (fn_Check_ok 8 (a0.1,a0.2.1,a0.2.2) (A.hasl .i64 (8) rfl) h0_ h1_ h2_ r3 hv4) (.s 1 (.s 2 .nil)) ?_
 rintro _ _ ⟨rfl,rfl,hr5⟩
 refine⟨by kernel_rfl,?_⟩
 refine A.q0 [] [] [.n] [(6,.int .i64 r3)] ?_
 refine A.dl 2 ?_
 refine A.q0 [] [] [.n,.n] [(14,.bool (decide (r3≠0)))] ?_
 refine A.dx 1 ?_
 refine A.AX.cnd rfl hF (fun hb hF=>?_) (fun hb hF=>?_)
 ·refine A.xl 1 ?_
  refine A.q0 [] [] [.n,.n] [(15,.agg #[.int .i64 0,.string (ByteArray.mk #[])]),(16,.int .i64 r3)] ?_
  refine A.sw 4 [] [.int .i64 0,.string (ByteArray.mk #[])] ?_
  refine A.q0 [] [] [.n] [(5,.int .i64 r3)] ?_
  refine A.dx 1 ?_
  obtain rfl:=Option.some.inj hF
  exact A.AX.ret [] (.tuple #[.agg #[.int .i64 0,.string (ByteArray.mk #[])],.int .i64 r3]) (fun a w hf hh=>Z.resv2 rfl (Z.rv_n hf rfl Tryz.isAgg44 Tryz.sizeOf44 (A.Hp.blk hh 4) rfl) (Z.rv_t hf rfl)) (⟨rfl,rfl,(A.hasl .i64 (0) rfl),(A.szl (ByteArray.mk #[]) rfl),hr5⟩)
 refine A.xl 4 ?_
 refine A.q0 [] [] [.n] [(17,.slice A3_ ((a1).length) c4_)] ?_
 obtain⟨r6,hv7,hF⟩:=A.bd_some hF
 refine A.AL.call 45 [] (first:=[]) (cap:=[]) cf45 (rec_CheckBag_ok a1 A3_ c4_ r6 hv7) (.l 0 (.s 1 (.s 2 .nil))) ?_
 rintro _ _ ⟨rfl,rfl,hr8⟩
 refine⟨by kernel_rfl,?_⟩
 refine A.q0 [] [] [.n] [(7,.int .i64 r6)] ?_
 refine A.dl 2 ?_
 refine A.q0 [] [] [.n,.n] [(20,.bool (decide (r6≠0)))] ?_
 refine A.dx 1 ?_
 refine A.AX.cnd rfl hF (fun hb hF=>?_) (fun hb hF=>?_)
 ·refine A.xl 1 ?_
  refine A.q0 [] [] [.n,.n] [(21,.agg #[.int .i64 0,.string (ByteArray.mk #[])]),(22,.int .i64 r6)] ?_
  refine A.sw 4 [] [.int .i64 0,.string (ByteArray.mk #[])] ?_
  refine A.q0 [] [] [.n] [(5,.int .i64 r6)] ?_
  refine A.dx 1 ?_
  obtain rfl:=Option.some.inj hF
  exact A.AX.ret [] (.tuple #[.agg #[.int .i64 0,.string (ByteArray.mk #[])],.int .i64 r6]) (fun a w hf hh=>Z.resv2 rfl (Z.rv_n hf rfl Tryz.isAgg44 Tryz.sizeOf44 (A.Hp.blk hh 4) rfl) (Z.rv_t hf rfl)) (⟨rfl,rfl,(A.hasl .i64 (0) rfl),(A.szl (ByteArray.mk #[]) rfl),hr8⟩)
 refine A.xl 4 ?_
 refine A.q0 [] [] [.n,.n,.n] [(25,.bool (decide (((a1).length:Int)=0)))] ?_
 refine A.dx 1 ?_
 refine A.AX.cnd rfl hF (fun hb hF=>?_) (fun hb hF=>?_)
 ·refine A.xl 1 ?_
  refine A.q0 [] [] [.n] [(26,.agg #[.int .i64 0,.string (ByteArray.mk #[])])] ?_
  refine A.sw 4 [] [.int .i64 0,.string (ByteArray.mk #[])] ?_
  refine A.q0 [] [] [.n] [(5,.int .i64 4)] ?_
  refine A.dx 1 ?_
  obtain rfl:=Option.some.inj hF
  exact A.AX.ret [] (.tuple #[.agg #[.int .i64 0,.string (ByteArray.mk #[])],.int .i64 4]) (fun a w hf hh=>Z.resv2 rfl (Z.rv_n hf rfl Tryz.isAgg44 Tryz.sizeOf44 (A.Hp.blk hh 4) rfl) (Z.rv_t hf rfl)) (⟨rfl,rfl,(A.hasl .i64 (0) rfl),(A.szl (ByteArray.mk #[]) rfl),(A.hasl .i64 (4) rfl)⟩)
 refine A.xl 3 ?_
 refine A.q0 [] [] [.n] [(27,.slice A3_ ((a1).length) c4_)] ?_
 obtain⟨x9,hv10,hF⟩:=A.bd_some hF
 refine A.AL.ixs 0 85 hv10 fun ho11=>?_
 intro b12 o13
 refine A.q0 [] [85] [.n,.e 0 0] [(30,.agg #[.int .i64 x9.1.1,.string x9.1.2])] ?_
 refine A.AL.alloc 86 (cs:=[.int .i64 0,.string (ByteArray.mk #[])]) Tryz.zeroValue44 fun g14=>?_
 refine A.sw 86 [] [.int .i64 x9.1.1,.string x9.1.2] ?_
 refine A.dl 3 ?_
 refine A.q0 [] [] [.n] [(31,.slice A3_ ((a1).length) c4_)] ?_
 obtain⟨hc15,hF⟩:=A.gd_some hF
 refine A.AL.cutl 0 87 (u:=(1:Int).toNat) (Int.toNat_of_nonneg hc15.1).symm hc15.2 fun A16 c17=>?_
 refine A.q0 [] [] [.n,.n] [(33,.int .i64 ((List.drop ((1:Int).toNat) a1).length:Int)),(34,.int .i64 0)] ?_
 refine A.dx 2 ?_
 refine A.lp_ [2,4,8,32,33] [1,2,3,4,87] (fun f nl nh=>∃(y18:Int),∃(y20:ByteArray),∃(y22:Int),nl=[(34,.int .i64 y22)]∧nh=[(86,.blk g14 44 [.int .i64 y18,.string y20])]∧IntKind.i64.has y18∧y20.size≤maxLen∧IntKind.i64.has y22∧F.fn_Reduce_l2 a0 a1 f y18 y20 y22=some r) ⟨x9.1.1,x9.1.2,0,rfl,rfl,ho11.1.1,ho11.1.2,(A.hasl .i64 (0) rfl),hF⟩ ?_
 rintro f24 _ _ ⟨y18,y20,y22,rfl,rfl,hy19,hy21,hy23,hF⟩
 rcases f24 with _|f24
 ·exact A.no0 hF
 rw[F.fn_Reduce_l2]at hF
 refine A.xl 1 ?_
 refine A.q0 [] [] [.n] [(35,.bool (decide (y22<((List.drop ((1:Int).toNat) a1).length:Int))))] ?_
 refine A.dx 2 ?_
 refine A.AX.cnd rfl hF (fun hb hF=>?_) (fun hb hF=>?_)
 ·refine A.xx 2 ?_
  refine A.AX.join [2,4,8,32,33,34] [1,2,3,4,87] (fun nl nh=>∃(y25:ByteArray),nl=[]∧nh=[(86,.blk g14 44 [.int .i64 y18,.string y25])]∧y25.size≤maxLen∧F.fn_Reduce_j1 (F.fn_Reduce_l2 a0 a1 f24) y18 y22 y25=some r) ?_ ?_
  ·refine A.xl 2 ?_
   obtain⟨x28,hv29,hF⟩:=A.bd_some hF
   refine A.AL.ixs 87 252 hv29 fun ho30=>?_
   intro b31 o32
   refine A.q0 [] [252] [.e 0 0] [(37,.agg #[.int .i64 x28.1.1,.string x28.1.2,.int .i64 x28.2])] ?_
   refine A.AL.alloc 253 (cs:=[.int .i64 0,.string (ByteArray.mk #[]),.int .i64 0]) Tryz.zeroValue70 fun g33=>?_
   refine A.sw 253 [] [.int .i64 x28.1.1,.string x28.1.2,.int .i64 x28.2] ?_
   refine A.dl 3 ?_
   refine A.q0 [253,86] [] [.n,.n,.b 0 0,.n,.b 1 0,.n,.n] [(38,.bool (decide (x28.1.1≠y18)))] ?_
   refine A.dx 1 ?_
   refine A.AX.cnd rfl hF (fun hb hF=>?_) (fun hb hF=>?_)
   ·refine A.xl 1 ?_
    refine A.q0 [] [] [.n] [(45,.agg #[.int .i64 0,.string (ByteArray.mk #[])])] ?_
    refine A.sw 4 [] [.int .i64 0,.string (ByteArray.mk #[])] ?_
    refine A.q0 [] [] [.n] [(5,.int .i64 1)] ?_
    refine A.dx 1 ?_
    obtain rfl:=Option.some.inj hF
    exact A.AX.ret [] (.tuple #[.agg #[.int .i64 0,.string (ByteArray.mk #[])],.int .i64 1]) (fun a w hf hh=>Z.resv2 rfl (Z.rv_n hf rfl Tryz.isAgg44 Tryz.sizeOf44 (A.Hp.blk hh 4) rfl) (Z.rv_t hf rfl)) (⟨rfl,rfl,(A.hasl .i64 (0) rfl),(A.szl (ByteArray.mk #[]) rfl),(A.hasl .i64 (1) rfl)⟩)
   refine A.xl 1 ?_
   refine A.q0 [3] [] [.n,.b 0 0,.n,.n] [(46,.bool (decide (a0.1=34)))] ?_
   refine A.dx 1 ?_
   refine A.AX.cnd rfl hF (fun hb hF=>?_) (fun hb hF=>?_)
   ·refine A.xl 0 ?_
    obtain⟨hc34,hF⟩:=A.gd_some hF
    refine A.q [86,253] [] [.n,.b 0 1,.n,.n,.b 1 1,.n,.n] [y20.size+x28.1.2.size≤9223372036854775807] [(55,.string (y20++x28.1.2)),(56,.pointer (some ⟨g14,1,none⟩))] hc34 ?_
    refine A.AL.store 86 [] (new:=[.string (y20++x28.1.2)]) (cs':=[.int .i64 y18,.string (y20++x28.1.2)]) ?_
    refine A.de 2 ?_
    exact A.j ⟨(y20++x28.1.2),rfl,rfl,(A.cat_le hc34),hF⟩
   refine A.xl 1 ?_
   refine A.q0 [3,253,86] [] [.n,.b 0 0,.n,.n,.b 1 1,.n,.b 2 1] [(59,.int .i64 a0.1),(62,.string x28.1.2),(64,.string y20)] ?_
   obtain⟨r35,hv36,hF⟩:=A.bd_some hF
   refine A.AL.call 254 [] (first:=[]) (cap:=[]) cf100 (fn_ahead_ok a0.1 x28.1.2 y20 h0_ ho30.1.2 hy21 r35 hv36) .nil ?_
   rintro _ _ ⟨rfl,rfl⟩
   refine⟨by kernel_rfl,?_⟩
   refine A.q0 [] [] [.n] [(57,.bool r35)] ?_
   refine A.dx 1 ?_
   refine A.AX.cnb rfl hF (fun hb hF=>?_) (fun hb hF=>?_)
   ·refine A.xl 0 ?_
    refine A.q0 [253] [] [.n,.n,.b 0 1,.n] [(68,.string x28.1.2),(69,.pointer (some ⟨g14,1,none⟩))] ?_
    refine A.AL.store 86 [] (new:=[.string x28.1.2]) (cs':=[.int .i64 y18,.string x28.1.2]) ?_
    refine A.de 2 ?_
    exact A.j ⟨x28.1.2,rfl,rfl,ho30.1.2,hF⟩
   refine A.xe 3 ?_
   exact A.j ⟨y20,rfl,rfl,hy21,hF⟩
  rintro _ _ ⟨y25,rfl,rfl,hy26,hF⟩
  rw[F.fn_Reduce_j1]at hF
  refine A.xl 0 ?_
  obtain⟨hc27,hF⟩:=A.gd_some hF
  refine A.q [] [] [.n,.n] [Z.R64 (y22+1)] [(34,.int .i64 (y22+1))] hc27 ?_
  refine A.AL.done ?_
  exact A.j ⟨_,Nat.lt_succ_self _,⟨y18,y25,(y22+1),rfl,rfl,hy19,hy26,(Z.i64_has hc27),hF⟩⟩
 refine A.xl 3 ?_
 refine A.q0 [86] [] [.n,.b 0 1] [(72,.string y20)] ?_
 obtain⟨r37,hv38,hF⟩:=A.bd_some hF
 refine A.AL.call 294 [] (first:=[]) (cap:=[]) cf62 (rec_Cut_ok y20 64 hy21 (A.hasl .i64 (64) rfl) r37 hv38) .nil ?_
 rintro _ _ ⟨rfl,rfl,hr39⟩
 refine⟨by kernel_rfl,?_⟩
 refine A.q0 [] [] [.n] [(74,.pointer (some ⟨g14,1,none⟩))] ?_
 refine A.AL.store 86 [] (new:=[.string r37]) (cs':=[.int .i64 y18,.string r37]) ?_
 refine A.dl 2 ?_
 refine A.q0 [86] [] [.b 0 0] [(75,.agg #[.int .i64 y18,.string r37])] ?_
 refine A.sw 4 [] [.int .i64 y18,.string r37] ?_
 refine A.q0 [] [] [.n] [(5,.int .i64 0)] ?_
 refine A.dx 1 ?_
 obtain rfl:=Option.some.inj hF
 exact A.AX.ret [] (.tuple #[.agg #[.int .i64 y18,.string r37],.int .i64 0]) (fun a w hf hh=>Z.resv2 rfl (Z.rv_n hf rfl Tryz.isAgg44 Tryz.sizeOf44 (A.Hp.blk hh 4) rfl) (Z.rv_t hf rfl)) (⟨rfl,rfl,hy19,hr39,(A.hasl .i64 (0) rfl)⟩)
def F.oper_teller_reduces_l1 (a0:(D25×(List D43)×(List (D43×Int)))):List (Int×(List D69))→(List D43)→Int→Int→Int→Int→ByteArray→ByteArray→Int→Int→Option (D25×(List D43)×(List (D43×Int)))
 | [],xs23,y24,y26,y28,y30,y32,y34,y36,y38=>some ((y24,y26,a0.1.2.2.1,(y28,y30,y32),y34,y36,y38),xs23,a0.2.2)
 |y16::f,xs23,y24,y26,y28,y30,y32,y34,y36,y38=>(F.fn_Reduce (y28,y30,y32) y16.2).bind fun r40=>(if r40.2=0 then(A.gd ((List.length (α:=D43) xs23+List.length (α:=D43) [(r40.1.1,r40.1.2)])*24≤140737488355328) ((F.oper_teller_reduces_l1 a0 f) (xs23++[(r40.1.1,r40.1.2)]) y24 y26 y28 y30 y32 y34 y36 y38))else((F.oper_teller_reduces_l1 a0 f) xs23 y24 y26 y28 y30 y32 y34 y36 y38))
def F.oper_teller_reduces (a0:(D25×(List D43)×(List (D43×Int))))(a1:(List D69)):Option (D25×(List D43)×(List (D43×Int))):=(F.oper_Keys a1).bind fun r2=>((F.oper_Keys_1_it r2).bind fun xs7=>F.oper_teller_reduces_l1 a0 xs7 a0.2.1 a0.1.1 a0.1.2.1 a0.1.2.2.2.1.1 a0.1.2.2.2.1.2.1 a0.1.2.2.2.1.2.2 a0.1.2.2.2.2.1 a0.1.2.2.2.2.2.1 a0.1.2.2.2.2.2.2)
theorem oper_teller_reduces_ok (a0:(D25×(List D43)×(List (D43×Int))))(a1:(List D69))(g0_:Nat)(A3_:Option Addr)(c4_:Nat)(A11_:Option Addr)(c12_:Nat)(b13_:Nat)(A14_:Option Addr)(c15_:Nat)(h1_:IntKind.i64.has a0.1.1)(h2_:IntKind.i64.has a0.1.2.1)(h5_:IntKind.i64.has a0.1.2.2.2.1.1)(h6_:IntKind.i64.has a0.1.2.2.2.1.2.1)(h7_:a0.1.2.2.2.1.2.2.size≤maxLen)(h8_:a0.1.2.2.2.2.1.size≤maxLen)(h9_:IntKind.i64.has a0.1.2.2.2.2.2.1)(h10_:IntKind.i64.has a0.1.2.2.2.2.2.2)(r:(D25×(List D43)×(List (D43×Int))))(hF:F.oper_teller_reduces a0 a1=some r):
    A.Ct Tryz.prog 30 [.pointer (some ⟨g0_,0,none⟩),.slice A14_ ((a1).length) c15_] [(0,.blk g0_ 78 [.int .i64 a0.1.1,.int .i64 a0.1.2.1,.slice A3_ ((a0.1.2.2.1).length) c4_,.int .i64 a0.1.2.2.2.1.1,.int .i64 a0.1.2.2.2.1.2.1,.string a0.1.2.2.2.1.2.2,.string a0.1.2.2.2.2.1,.int .i64 a0.1.2.2.2.2.2.1,.int .i64 a0.1.2.2.2.2.2.2,.slice A11_ ((a0.2.1).length) c12_,.map (some b13_)]),(1,.sh (.slice (Z.Ty.int .i64)) [.slice A3_ (a0.1.2.2.1).length c4_] a0.1.2.2.1),(2,.own T43 44 A11_ c12_ a0.2.1),(3,.mp D43 (fun x:D43=>.agg #[.int .i64 x.1,.string x.2]) (Z.Ty.int .i64) false b13_ a0.2.2),(4,.sh (.slice T69) [.slice A14_ (a1).length c15_] a1),(5,.el none 1 0 A.tabF),(6,.el none 2 0 A.tabA)] ([g0_]++(Z.obl A11_++([b13_]++[]))) (fun v H'=>∃(A0':Option Addr) (c1':Nat) (A2':Option Addr) (c3':Nat) (b4':Nat),v=.tuple #[]∧H'=[(0,.blk g0_ 78 [.int .i64 r.1.1,.int .i64 r.1.2.1,.slice A0' ((r.1.2.2.1).length) c1',.int .i64 r.1.2.2.2.1.1,.int .i64 r.1.2.2.2.1.2.1,.string r.1.2.2.2.1.2.2,.string r.1.2.2.2.2.1,.int .i64 r.1.2.2.2.2.2.1,.int .i64 r.1.2.2.2.2.2.2,.slice A2' ((r.2.1).length) c3',.map (some b4')]),(1,.sh (.slice (Z.Ty.int .i64)) [.slice A0' (r.1.2.2.1).length c1'] r.1.2.2.1),(2,.own T43 44 A2' c3' r.2.1),(3,.mp D43 (fun x:D43=>.agg #[.int .i64 x.1,.string x.2]) (Z.Ty.int .i64) false b4' r.2.2)]∧IntKind.i64.has r.1.1∧IntKind.i64.has r.1.2.1∧IntKind.i64.has r.1.2.2.2.1.1∧IntKind.i64.has r.1.2.2.2.1.2.1∧r.1.2.2.2.1.2.2.size≤maxLen∧r.1.2.2.2.2.1.size≤maxLen∧IntKind.i64.has r.1.2.2.2.2.2.1∧IntKind.i64.has r.1.2.2.2.2.2.2):=by
 refine A.Ct.enterM Tryz.func30 rfl Tryz.ntmps30 rfl fun w0 F0=>?_
 rw[F.oper_teller_reduces]at hF
 refine A.xl 1 ?_
 refine A.AL.box 7 (cs:=[.pointer (some ⟨g0_,0,none⟩)]) fun g1=>?_
 refine A.dl 2 ?_
 refine A.q0 [] [] [.n] [(8,.slice A14_ ((a1).length) c15_)] ?_
 obtain⟨r2,hv3,hF⟩:=A.bd_some hF
 refine A.AL.call 8 [] (first:=[]) (cap:=[]) cf16 (oper_Keys_ok a1 A14_ c15_ r2 hv3) (.s 4 (.s 5 (.s 6 .nil))) ?_
 rintro _ _ ⟨g4,A5,c6,rfl,rfl⟩
 refine⟨by kernel_rfl,?_⟩
 refine A.dx 2 ?_
 obtain⟨xs7,hv8,hF⟩:=A.bd_some hF
 refine A.AX.rgf 48 49 50 [1,3,5,6,7,8,9] [0,2,1,3,5,6,7,8,9] [49,48,0,2,1,3,5,6,7,8,9] (fun k nh=>∃(xs23:List D43),∃(y24:Int),∃(y26:Int),∃(y28:Int),∃(y30:Int),∃(y32:ByteArray),∃(y34:ByteArray),∃(y36:Int),∃(y38:Int),∃(A21:Option Addr),∃(c22:Nat),nh=[(0,.blk g0_ 78 [.int .i64 y24,.int .i64 y26,.slice A3_ ((a0.1.2.2.1).length) c4_,.int .i64 y28,.int .i64 y30,.string y32,.string y34,.int .i64 y36,.int .i64 y38,.slice A21 ((xs23).length) c22,.map (some b13_)]),(2,.own T43 44 A21 c22 xs23)]∧IntKind.i64.has y24∧IntKind.i64.has y26∧IntKind.i64.has y28∧IntKind.i64.has y30∧y32.size≤maxLen∧y34.size≤maxLen∧IntKind.i64.has y36∧IntKind.i64.has y38∧F.oper_teller_reduces_l1 a0 (List.drop k xs7) xs23 y24 y26 y28 y30 y32 y34 y36 y38=some r) [(0,.blk g0_ 78 [.int .i64 a0.1.1,.int .i64 a0.1.2.1,.slice A3_ ((a0.1.2.2.1).length) c4_,.int .i64 a0.1.2.2.2.1.1,.int .i64 a0.1.2.2.2.1.2.1,.string a0.1.2.2.2.1.2.2,.string a0.1.2.2.2.2.1,.int .i64 a0.1.2.2.2.2.2.1,.int .i64 a0.1.2.2.2.2.2.2,.slice A11_ ((a0.2.1).length) c12_,.map (some b13_)]),(2,.own T43 44 A11_ c12_ a0.2.1)] cf47 (oper_Keys_1_it_sq r2 g4 A5 c6 xs7 hv8) (fun _=>rfl) ⟨a0.2.1,a0.1.1,a0.1.2.1,a0.1.2.2.2.1.1,a0.1.2.2.2.1.2.1,a0.1.2.2.2.1.2.2,a0.1.2.2.2.2.1,a0.1.2.2.2.2.2.1,a0.1.2.2.2.2.2.2,A11_,c12_,rfl,h1_,h2_,h5_,h6_,h7_,h8_,h9_,h10_,hF⟩ ?_ ?_ ?_
 ·rintro k15 _ D9 L10 ⟨xs23,y24,y26,y28,y30,y32,y34,y36,y38,A21,c22,rfl,hy25,hy27,hy29,hy31,hy33,hy35,hy37,hy39,hF⟩
  exact⟨⟨_,(.b 8 (.s 9 .nil))⟩,rfl,fun o=>rfl⟩
 ·rintro k15 _ y16 D9 L10 w14 o11 ⟨xs23,y24,y26,y28,y30,y32,y34,y36,y38,A21,c22,rfl,hy25,hy27,hy29,hy31,hy33,hy35,hy37,hy39,hF⟩ hx19 hxo20 hh13
  intro A17 c18
  rw[A.drop_at hx19,F.oper_teller_reduces_l1]at hF
  refine A.xl 0 ?_
  refine A.q0 [] [] [.n] [(5,.slice A17 ((y16.2).length) c18)] ?_
  refine A.AL.done ?_
  refine A.AE.flip 48 49 fun o12=>?_
  refine A.xl 2 ?_
  refine A.q0 [7,0] [] [.b 0 0,.n,.n,.n,.b 1 3,.n] [(17,.agg #[.int .i64 y28,.int .i64 y30,.string y32]),(18,.slice A17 ((y16.2).length) c18)] ?_
  obtain⟨r40,hv41,hF⟩:=A.bd_some hF
  refine A.AL.call 135 [] (first:=[]) (cap:=[]) cf61 (fn_Reduce_ok (y28,y30,y32) y16.2 A17 c18 hy29 hy31 hy33 r40 hv41) (.s 50 (.s 5 (.s 6 .nil))) ?_
  rintro _ _ ⟨rfl,rfl,hr42,hr43,hr44⟩
  refine⟨by kernel_rfl,?_⟩
  refine A.q0 [] [] [.n,.n,.n] [(20,.agg #[.int .i64 r40.1.1,.string r40.1.2]),(21,.int .i64 r40.2)] ?_
  refine A.AL.alloc 175 (cs:=[.int .i64 0,.string (ByteArray.mk #[])]) Tryz.zeroValue44 fun g45=>?_
  refine A.sw 175 [] [.int .i64 r40.1.1,.string r40.1.2] ?_
  refine A.q0 [] [] [.n] [(7,.int .i64 r40.2)] ?_
  refine A.dl 2 ?_
  refine A.q0 [] [] [.n,.n] [(23,.bool (decide (r40.2=0)))] ?_
  refine A.dx 1 ?_
  refine A.AX.cnd rfl hF (fun hb hF=>?_) (fun hb hF=>?_)
  ·refine A.AX.dr mixed 10 11 (A.mb 11 0) ?_
   refine A.hq (A.pk_kont A.RQ.pq) [] [0,1,3,5,6,7,8,9,48,49,50,175] [7,175,0] [] (A.mb 11 63) 5 [(0,.b 0 0),(1,.b 0 0),(5,.b 1 0),(2,.n),(3,.n),(4,.b 2 9)] [(24,.pointer (some ⟨g0_,0,none⟩)),(29,.agg #[.int .i64 r40.1.1,.string r40.1.2]),(28,.slice A21 ((xs23).length) c22)] ?_
   refine A.AH.one 6 ?_
   refine A.AL.bsl 176 (ty:=T43) (cs:=[.int .i64 r40.1.1,.string r40.1.2]) [(r40.1.1,r40.1.2)] ⟨⟨⟨rfl,hr42⟩,⟨rfl,hr43⟩⟩,rfl⟩ (fun g46=>?_) Tryz.zeroValue44 Tryz.sizeOf44
   refine A.AH.nx (A.mb 11 127) [0,1,3,5,6,7,8,9,48,49,50,175] ?_
   refine A.AH.one 7 ?_
   obtain⟨hl49,hF⟩:=A.gd_some hF
   refine A.AL.app (k:=2) [] (A.rowO (k:=176) rfl) inf44 hl49 fun A47 c48=>?_
   refine A.AH.nx (A.mb 11 255) [0,1,3,5,6,7,8,9,48,49,50,175] ?_
   refine A.hq (A.pk_kont A.RQ.pq) [0,1,3,5,6,7,8,9,48,49,50,175] [0,1,2,3,5,6,7,8,9,48,49,50,175,176] [] [] (A.mb 11 1023) 1 [(8,.n),(9,.n)] [(33,.pointer (some ⟨g0_,9,none⟩))] ?_
   refine A.AH.one 10 ?_
   refine A.AL.store 0 [] (new:=[.slice A47 ((xs23++[(r40.1.1,r40.1.2)]).length) c48]) (cs':=[.int .i64 y24,.int .i64 y26,.slice A3_ ((a0.1.2.2.1).length) c4_,.int .i64 y28,.int .i64 y30,.string y32,.string y34,.int .i64 y36,.int .i64 y38,.slice A47 ((xs23++[(r40.1.1,r40.1.2)]).length) c48,.map (some b13_)]) ?_
   refine A.AH.nm (A.mb 11 2047) ?_
   refine A.AH.done ?_
   refine A.ee 1 ?_
   exact A.AE.bn hh13 [49,48,0,2,1,3,7,8,9] 100000 [(49,100049),(48,100048),(0,100000),(2,100002),(1,100001),(3,100003),(5,5),(6,6),(7,100007),(8,100008),(9,100009)] [(0,.blk g0_ 78 [.int .i64 y24,.int .i64 y26,.slice A3_ ((a0.1.2.2.1).length) c4_,.int .i64 y28,.int .i64 y30,.string y32,.string y34,.int .i64 y36,.int .i64 y38,.slice A47 ((xs23++[(r40.1.1,r40.1.2)]).length) c48,.map (some b13_)]),(2,.own T43 44 A47 c48 (xs23++[(r40.1.1,r40.1.2)]))] ⟨(xs23++[(r40.1.1,r40.1.2)]),y24,y26,y28,y30,y32,y34,y36,y38,A47,c48,rfl,hy25,hy27,hy29,hy31,hy33,hy35,hy37,hy39,hF⟩ rfl rfl
  refine A.xe 2 ?_
  exact A.AE.bn hh13 [49,48,0,2,1,3,7,8,9] 100000 [(49,100049),(48,100048),(0,100000),(2,100002),(1,100001),(3,100003),(5,5),(6,6),(7,100007),(8,100008),(9,100009)] [(0,.blk g0_ 78 [.int .i64 y24,.int .i64 y26,.slice A3_ ((a0.1.2.2.1).length) c4_,.int .i64 y28,.int .i64 y30,.string y32,.string y34,.int .i64 y36,.int .i64 y38,.slice A21 ((xs23).length) c22,.map (some b13_)]),(2,.own T43 44 A21 c22 xs23)] ⟨xs23,y24,y26,y28,y30,y32,y34,y36,y38,A21,c22,rfl,hy25,hy27,hy29,hy31,hy33,hy35,hy37,hy39,hF⟩ rfl rfl
 rintro _ D9 L10 ⟨xs23,y24,y26,y28,y30,y32,y34,y36,y38,A21,c22,rfl,hy25,hy27,hy29,hy31,hy33,hy35,hy37,hy39,hF⟩
 rw[List.drop_length,F.oper_teller_reduces_l1]at hF
 refine A.ee 1 ?_
 obtain rfl:=Option.some.inj hF
 exact A.AE.rtN (Ds:=[D9]) [48] [(0,0),(1,1),(2,2),(3,3)] (.tuple #[]) (⟨rfl,trivial⟩) (fun a w hf hh=>Z.res0 rfl w) (⟨A3_,c4_,A21,c22,b13_,rfl,rfl,hy25,hy27,hy29,hy31,hy33,hy35,hy37,hy39⟩)
end Go.Proofs.YtbljnlkhebiniaaGreatDoor
end
section
set_option linter.unusedVariables false
set_option linter.unusedSimpArgs false
set_option maxRecDepth 20000
set_option maxHeartbeats 8000000
set_option synthInstance.maxSize 1000000
set_option synthInstance.maxHeartbeats 400000
namespace Go.Proofs.YtbljnlkhebiniaaGreatDoor
open Go.RowKit
def F.oper_teller_joins_l1 (k13:(List D43)→Int→Int→Int→Int→ByteArray→ByteArray→Int→Int→Int→Option (D25×(List D43)×(List (D43×Int))))(y38:(Int×(List D69)))(y81:Int)(x84:D69)(x90:(List D69)):Nat→(List D43)→Int→Int→Int→Int→ByteArray→ByteArray→Int→Int→Int→Option (D25×(List D43)×(List (D43×Int)))
 |0,_,_,_,_,_,_,_,_,_,_=>none
 |f+1,xs97,y98,y100,y102,y104,y106,y108,y110,y112,y114=>if y114<((x90).length:Int)then((A.ix x90 y114).bind fun x117=>(A.gd (x84.1.2.size+(ByteArray.mk #[43]).size≤9223372036854775807∧(x84.1.2++(ByteArray.mk #[43])).size+x117.1.2.size≤9223372036854775807) ((F.rec_Cut ((x84.1.2++(ByteArray.mk #[43]))++x117.1.2) 64).bind fun r124=>(A.gd ((List.length (α:=D43) xs97+List.length (α:=D43) [(y38.1,r124)])*24≤140737488355328) (A.gd (Z.R64 (y114+1)) ((F.oper_teller_joins_l1 k13 y38 y81 x84 x90 f) (xs97++[(y38.1,r124)]) y98 y100 y102 y104 y106 y108 y110 y112 (y114+1)))))))else(A.gd (Z.R64 (y81+1)) (k13 xs97 y98 y100 y102 y104 y106 y108 y110 y112 (y81+1)))
def F.oper_teller_joins_l2 (k10:(List D43)→Int→Int→Int→Int→ByteArray→ByteArray→Int→Int→Option (D25×(List D43)×(List (D43×Int))))(m23:List (Int×(List D69)))(y38:(Int×(List D69))):Nat→(List D43)→Int→Int→Int→Int→ByteArray→ByteArray→Int→Int→Int→Option (D25×(List D43)×(List (D43×Int)))
 |0,_,_,_,_,_,_,_,_,_,_=>none
 |f+1,xs64,y65,y67,y69,y71,y73,y75,y77,y79,y81=>if y81<((y38.2).length:Int)then((A.ix y38.2 y81).bind fun x84=>(A.lt (Z.mget ([]:(List D69)) m23 y38.1) fun x90=>(F.oper_teller_joins_l1 (F.oper_teller_joins_l2 k10 m23 y38 f) y38 y81 x84 x90 A.FU xs64 y65 y67 y69 y71 y73 y75 y77 y79 0)))else(k10 xs64 y65 y67 y69 y71 y73 y75 y77 y79)
def F.oper_teller_joins_l3 (a0:(D25×(List D43)×(List (D43×Int))))(m23:List (Int×(List D69))):List (Int×(List D69))→(List D43)→Int→Int→Int→Int→ByteArray→ByteArray→Int→Int→Option (D25×(List D43)×(List (D43×Int)))
 | [],xs45,y46,y48,y50,y52,y54,y56,y58,y60=>some ((y46,y48,a0.1.2.2.1,(y50,y52,y54),y56,y58,y60),xs45,a0.2.2)
 |y38::f,xs45,y46,y48,y50,y52,y54,y56,y58,y60=>F.oper_teller_joins_l2 (F.oper_teller_joins_l3 a0 m23 f) m23 y38 A.FU xs45 y46 y48 y50 y52 y54 y56 y58 y60 0
def F.oper_teller_joins_l4 (a0:(D25×(List D43)×(List (D43×Int))))(a1:(List D69)):List (Int×(List D69))→(List (Int×(List D69)))→Option (D25×(List D43)×(List (D43×Int)))
 | [],m23=>(F.oper_Keys a1).bind fun r24=>((F.oper_Keys_1_it r24).bind fun xs29=>F.oper_teller_joins_l3 a0 m23 xs29 a0.2.1 a0.1.1 a0.1.2.1 a0.1.2.2.2.1.1 a0.1.2.2.2.1.2.1 a0.1.2.2.2.1.2.2 a0.1.2.2.2.2.1 a0.1.2.2.2.2.2.1 a0.1.2.2.2.2.2.2)
 |y18::f,m23=>(F.oper_teller_joins_l4 a0 a1 f) (Z.mins m23 y18.1 y18.2)
def F.oper_teller_joins (a0:(D25×(List D43)×(List (D43×Int))))(a1:(List D69))(a2:(List D69)):Option (D25×(List D43)×(List (D43×Int))):=(F.oper_Keys a2).bind fun r4=>((F.oper_Keys_1_it r4).bind fun xs9=>F.oper_teller_joins_l4 a0 a1 xs9 [])
theorem oper_teller_joins_ok (a0:(D25×(List D43)×(List (D43×Int))))(a1:(List D69))(a2:(List D69))(g0_:Nat)(A3_:Option Addr)(c4_:Nat)(A11_:Option Addr)(c12_:Nat)(b13_:Nat)(A14_:Option Addr)(c15_:Nat)(A16_:Option Addr)(c17_:Nat)(h1_:IntKind.i64.has a0.1.1)(h2_:IntKind.i64.has a0.1.2.1)(h5_:IntKind.i64.has a0.1.2.2.2.1.1)(h6_:IntKind.i64.has a0.1.2.2.2.1.2.1)(h7_:a0.1.2.2.2.1.2.2.size≤maxLen)(h8_:a0.1.2.2.2.2.1.size≤maxLen)(h9_:IntKind.i64.has a0.1.2.2.2.2.2.1)(h10_:IntKind.i64.has a0.1.2.2.2.2.2.2)(r:(D25×(List D43)×(List (D43×Int))))(hF:F.oper_teller_joins a0 a1 a2=some r):
    A.Ct Tryz.prog 31 [.pointer (some ⟨g0_,0,none⟩),.slice A14_ ((a1).length) c15_,.slice A16_ ((a2).length) c17_] [(0,.blk g0_ 78 [.int .i64 a0.1.1,.int .i64 a0.1.2.1,.slice A3_ ((a0.1.2.2.1).length) c4_,.int .i64 a0.1.2.2.2.1.1,.int .i64 a0.1.2.2.2.1.2.1,.string a0.1.2.2.2.1.2.2,.string a0.1.2.2.2.2.1,.int .i64 a0.1.2.2.2.2.2.1,.int .i64 a0.1.2.2.2.2.2.2,.slice A11_ ((a0.2.1).length) c12_,.map (some b13_)]),(1,.sh (.slice (Z.Ty.int .i64)) [.slice A3_ (a0.1.2.2.1).length c4_] a0.1.2.2.1),(2,.own T43 44 A11_ c12_ a0.2.1),(3,.mp D43 (fun x:D43=>.agg #[.int .i64 x.1,.string x.2]) (Z.Ty.int .i64) false b13_ a0.2.2),(4,.sh (.slice T69) [.slice A14_ (a1).length c15_] a1),(5,.sh (.slice T69) [.slice A16_ (a2).length c17_] a2),(6,.el none 1 0 A.tabF),(7,.el none 2 0 A.tabA)] ([g0_]++(Z.obl A11_++([b13_]++[]))) (fun v H'=>∃(A0':Option Addr) (c1':Nat) (A2':Option Addr) (c3':Nat) (b4':Nat),v=.tuple #[]∧H'=[(0,.blk g0_ 78 [.int .i64 r.1.1,.int .i64 r.1.2.1,.slice A0' ((r.1.2.2.1).length) c1',.int .i64 r.1.2.2.2.1.1,.int .i64 r.1.2.2.2.1.2.1,.string r.1.2.2.2.1.2.2,.string r.1.2.2.2.2.1,.int .i64 r.1.2.2.2.2.2.1,.int .i64 r.1.2.2.2.2.2.2,.slice A2' ((r.2.1).length) c3',.map (some b4')]),(1,.sh (.slice (Z.Ty.int .i64)) [.slice A0' (r.1.2.2.1).length c1'] r.1.2.2.1),(2,.own T43 44 A2' c3' r.2.1),(3,.mp D43 (fun x:D43=>.agg #[.int .i64 x.1,.string x.2]) (Z.Ty.int .i64) false b4' r.2.2)]∧IntKind.i64.has r.1.1∧IntKind.i64.has r.1.2.1∧IntKind.i64.has r.1.2.2.2.1.1∧IntKind.i64.has r.1.2.2.2.1.2.1∧r.1.2.2.2.1.2.2.size≤maxLen∧r.1.2.2.2.2.1.size≤maxLen∧IntKind.i64.has r.1.2.2.2.2.2.1∧IntKind.i64.has r.1.2.2.2.2.2.2):=by
 refine A.Ct.enterM Tryz.func31 rfl Tryz.ntmps31 rfl fun w0 F0=>?_
 rw[F.oper_teller_joins]at hF
 refine A.xl 1 ?_
 refine A.AL.box 8 (cs:=[.pointer (some ⟨g0_,0,none⟩)]) fun g1=>?_
 refine A.dl 2 ?_
 refine A.AL.mkm 9 Int (fun i:Int=>.int .i64 i) (Z.Ty.slice T69) false fun b2=>?_
 refine A.AL.alloc 10 (cs:=[.map none]) Tryz.zeroValue107 fun g3=>?_
 refine A.sw 10 [] [.map (some b2)] ?_
 refine A.dl 3 ?_
 refine A.q0 [] [] [.n] [(16,.slice A16_ ((a2).length) c17_)] ?_
 obtain⟨r4,hv5,hF⟩:=A.bd_some hF
 refine A.AL.call 11 [] (first:=[]) (cap:=[]) cf16 (oper_Keys_ok a2 A16_ c17_ r4 hv5) (.s 5 (.s 6 (.s 7 .nil))) ?_
 rintro _ _ ⟨g6,A7,c8,rfl,rfl⟩
 refine⟨by kernel_rfl,?_⟩
 refine A.dx 2 ?_
 obtain⟨xs9,hv10,hF⟩:=A.bd_some hF
 refine A.AX.rgf 51 52 53 [0,1,2,3,4,6,7,8,10,11,12] [9,0,1,2,3,4,6,7,8,10,11,12] [52,51,9,0,1,2,3,4,6,7,8,10,11,12] (fun k nh=>∃(m23:List (Int×(List D69))),nh=[(9,.mp Int (fun i:Int=>.int .i64 i) (Z.Ty.slice T69) false b2 m23)]∧F.oper_teller_joins_l4 a0 a1 (List.drop k xs9) m23=some r) [(9,.mp Int (fun i:Int=>.int .i64 i) (Z.Ty.slice T69) false b2 [])] cf47 (oper_Keys_1_it_sq r4 g6 A7 c8 xs9 hv10) (fun _=>rfl) ⟨[],rfl,hF⟩ ?_ ?_ ?_
 ·rintro k17 _ D11 L12 ⟨m23,rfl,hF⟩
  exact⟨⟨_,(.b 11 (.s 12 .nil))⟩,rfl,fun o=>rfl⟩
 ·rintro k17 _ y18 D11 L12 w16 o13 ⟨m23,rfl,hF⟩ hx21 hxo22 hh15
  intro A19 c20
  rw[A.drop_at hx21,F.oper_teller_joins_l4]at hF
  refine A.xl 1 ?_
  refine A.q0 [] [] [.n] [(7,.int .i64 y18.1)] ?_
  refine A.dl 1 ?_
  refine A.q0 [] [] [.n] [(8,.slice A19 ((y18.2).length) c20)] ?_
  refine A.AL.done ?_
  refine A.AE.flip 51 52 fun o14=>?_
  refine A.xl 1 ?_
  refine A.q0 [10] [] [.b 0 0,.n,.n] [(20,.map (some b2)),(21,.int .i64 y18.1),(22,.slice A19 ((y18.2).length) c20)] ?_
  refine A.AL.mup (t:=(Z.Ty.slice T69)) 9 [] (cs:=[.slice A19 ((y18.2).length) c20]) (u:=y18.2) ky2 y18.1 (.inl ⟨53,rfl⟩) ?_
  refine A.de 1 ?_
  exact A.AE.bn hh15 [52,51,9,0,1,2,3,4,8,10,11,12] 100000 [(52,100052),(51,100051),(9,100009),(0,100000),(1,100001),(2,100002),(3,100003),(4,100004),(6,6),(7,7),(8,100008),(10,100010),(11,100011),(12,100012)] [(9,.mp Int (fun i:Int=>.int .i64 i) (Z.Ty.slice T69) false b2 (Z.mins m23 y18.1 y18.2))] ⟨(Z.mins m23 y18.1 y18.2),rfl,hF⟩ rfl rfl
 rintro _ D11 L12 ⟨m23,rfl,hF⟩
 rw[List.drop_length,F.oper_teller_joins_l4]at hF
 refine A.el 3 ?_
 refine A.q0 [] [] [.n] [(23,.slice A14_ ((a1).length) c15_)] ?_
 obtain⟨r24,hv25,hF⟩:=A.bd_some hF
 refine A.AL.call 54 [] (first:=[]) (cap:=[]) cf16 (oper_Keys_ok a1 A14_ c15_ r24 hv25) (.s 4 (.s 6 (.s 7 .nil))) ?_
 rintro _ _ ⟨g26,A27,c28,rfl,rfl⟩
 refine⟨by kernel_rfl,?_⟩
 refine A.dx 2 ?_
 obtain⟨xs29,hv30,hF⟩:=A.bd_some hF
 refine A.AX.rgf 94 95 96 [1,3,6,7,8,9,10,51,54,55] [0,2,1,3,6,7,8,9,10,51,54,55] [95,94,0,2,1,3,6,7,8,9,10,51,54,55] (fun k nh=>∃(xs45:List D43),∃(y46:Int),∃(y48:Int),∃(y50:Int),∃(y52:Int),∃(y54:ByteArray),∃(y56:ByteArray),∃(y58:Int),∃(y60:Int),∃(A43:Option Addr),∃(c44:Nat),nh=[(0,.blk g0_ 78 [.int .i64 y46,.int .i64 y48,.slice A3_ ((a0.1.2.2.1).length) c4_,.int .i64 y50,.int .i64 y52,.string y54,.string y56,.int .i64 y58,.int .i64 y60,.slice A43 ((xs45).length) c44,.map (some b13_)]),(2,.own T43 44 A43 c44 xs45)]∧IntKind.i64.has y46∧IntKind.i64.has y48∧IntKind.i64.has y50∧IntKind.i64.has y52∧y54.size≤maxLen∧y56.size≤maxLen∧IntKind.i64.has y58∧IntKind.i64.has y60∧F.oper_teller_joins_l3 a0 m23 (List.drop k xs29) xs45 y46 y48 y50 y52 y54 y56 y58 y60=some r) [(0,.blk g0_ 78 [.int .i64 a0.1.1,.int .i64 a0.1.2.1,.slice A3_ ((a0.1.2.2.1).length) c4_,.int .i64 a0.1.2.2.2.1.1,.int .i64 a0.1.2.2.2.1.2.1,.string a0.1.2.2.2.1.2.2,.string a0.1.2.2.2.2.1,.int .i64 a0.1.2.2.2.2.2.1,.int .i64 a0.1.2.2.2.2.2.2,.slice A11_ ((a0.2.1).length) c12_,.map (some b13_)]),(2,.own T43 44 A11_ c12_ a0.2.1)] cf47 (oper_Keys_1_it_sq r24 g26 A27 c28 xs29 hv30) (fun _=>rfl) ⟨a0.2.1,a0.1.1,a0.1.2.1,a0.1.2.2.2.1.1,a0.1.2.2.2.1.2.1,a0.1.2.2.2.1.2.2,a0.1.2.2.2.2.1,a0.1.2.2.2.2.2.1,a0.1.2.2.2.2.2.2,A11_,c12_,rfl,h1_,h2_,h5_,h6_,h7_,h8_,h9_,h10_,hF⟩ ?_ ?_ ?_
 ·rintro k37 _ D31 L32 ⟨xs45,y46,y48,y50,y52,y54,y56,y58,y60,A43,c44,rfl,hy47,hy49,hy51,hy53,hy55,hy57,hy59,hy61,hF⟩
  exact⟨⟨_,(.b 54 (.s 55 .nil))⟩,rfl,fun o=>rfl⟩
 ·rintro k37 _ y38 D31 L32 w36 o33 ⟨xs45,y46,y48,y50,y52,y54,y56,y58,y60,A43,c44,rfl,hy47,hy49,hy51,hy53,hy55,hy57,hy59,hy61,hF⟩ hx41 hxo42 hh35
  intro A39 c40
  rw[A.drop_at hx41,F.oper_teller_joins_l3]at hF
  refine A.xl 1 ?_
  refine A.q0 [] [] [.n] [(9,.int .i64 y38.1)] ?_
  refine A.dl 1 ?_
  refine A.q0 [] [] [.n] [(10,.slice A39 ((y38.2).length) c40)] ?_
  refine A.AL.done ?_
  refine A.AE.flip 94 95 fun o34=>?_
  refine A.xl 2 ?_
  refine A.q0 [] [] [.n,.n,.n] [(27,.slice A39 ((y38.2).length) c40),(28,.int .i64 ((y38.2).length:Int)),(29,.int .i64 0)] ?_
  refine A.dx 2 ?_
  refine A.lp_ [3,6,9,27,28] [1,3,6,7,8,9,10,51,54,55,94,95,96] (fun f nl nh=>∃(xs64:List D43),∃(y65:Int),∃(y67:Int),∃(y69:Int),∃(y71:Int),∃(y73:ByteArray),∃(y75:ByteArray),∃(y77:Int),∃(y79:Int),∃(y81:Int),∃(A62:Option Addr),∃(c63:Nat),nl=[(29,.int .i64 y81)]∧nh=[(0,.blk g0_ 78 [.int .i64 y65,.int .i64 y67,.slice A3_ ((a0.1.2.2.1).length) c4_,.int .i64 y69,.int .i64 y71,.string y73,.string y75,.int .i64 y77,.int .i64 y79,.slice A62 ((xs64).length) c63,.map (some b13_)]),(2,.own T43 44 A62 c63 xs64)]∧IntKind.i64.has y65∧IntKind.i64.has y67∧IntKind.i64.has y69∧IntKind.i64.has y71∧y73.size≤maxLen∧y75.size≤maxLen∧IntKind.i64.has y77∧IntKind.i64.has y79∧IntKind.i64.has y81∧F.oper_teller_joins_l2 (F.oper_teller_joins_l3 a0 m23 (List.drop (k37+1) xs29)) m23 y38 f xs64 y65 y67 y69 y71 y73 y75 y77 y79 y81=some r) ⟨xs45,y46,y48,y50,y52,y54,y56,y58,y60,0,A43,c44,rfl,rfl,hy47,hy49,hy51,hy53,hy55,hy57,hy59,hy61,(A.hasl .i64 (0) rfl),hF⟩ ?_
  rintro f83 _ _ ⟨xs64,y65,y67,y69,y71,y73,y75,y77,y79,y81,A62,c63,rfl,rfl,hy66,hy68,hy70,hy72,hy74,hy76,hy78,hy80,hy82,hF⟩
  rcases f83 with _|f83
  ·exact A.no0 hF
  rw[F.oper_teller_joins_l2]at hF
  refine A.xl 1 ?_
  refine A.q0 [] [] [.n] [(30,.bool (decide (y81<((y38.2).length:Int))))] ?_
  refine A.dx 2 ?_
  refine A.AX.cnd rfl hF (fun hb hF=>?_) (fun hb hF=>?_)
  ·refine A.xl 5 ?_
   obtain⟨x84,hv85,hF⟩:=A.bd_some hF
   refine A.AL.ixs 96 1153 hv85 fun ho86=>?_
   intro b87 o88
   refine A.q0 [] [1153] [.e 0 0] [(32,.agg #[.int .i64 x84.1.1,.string x84.1.2,.int .i64 x84.2])] ?_
   refine A.AL.alloc 1154 (cs:=[.int .i64 0,.string (ByteArray.mk #[]),.int .i64 0]) Tryz.zeroValue70 fun g89=>?_
   refine A.sw 1154 [] [.int .i64 x84.1.1,.string x84.1.2,.int .i64 x84.2] ?_
   refine A.dl 2 ?_
   refine A.q0 [10] [] [.b 0 0,.n] [(33,.map (some b2)),(34,.int .i64 y38.1)] ?_
   obtain⟨x90,hv91,hF⟩:=A.lt_some hF
   refine A.AL.lku (t:=(Z.Ty.slice T69)) 9 1155 (z:=([]:(List D69))) (zs:=[.slice none 0 0]) ky2 y38.1 Tryz.zeroValue30 (.inr ⟨rfl,rfl⟩) hv91 fun ho92=>?_
   intro A93 c94
   refine A.q0 [] [] [.n,.n] [(36,.int .i64 ((x90).length:Int)),(37,.int .i64 0)] ?_
   refine A.dx 2 ?_
   refine A.lp_ [3,6,9,12,27,28,29,35,36] [1,3,6,7,8,9,10,51,54,55,94,95,96,1154,1155] (fun f nl nh=>∃(xs97:List D43),∃(y98:Int),∃(y100:Int),∃(y102:Int),∃(y104:Int),∃(y106:ByteArray),∃(y108:ByteArray),∃(y110:Int),∃(y112:Int),∃(y114:Int),∃(A95:Option Addr),∃(c96:Nat),nl=[(37,.int .i64 y114)]∧nh=[(0,.blk g0_ 78 [.int .i64 y98,.int .i64 y100,.slice A3_ ((a0.1.2.2.1).length) c4_,.int .i64 y102,.int .i64 y104,.string y106,.string y108,.int .i64 y110,.int .i64 y112,.slice A95 ((xs97).length) c96,.map (some b13_)]),(2,.own T43 44 A95 c96 xs97)]∧IntKind.i64.has y98∧IntKind.i64.has y100∧IntKind.i64.has y102∧IntKind.i64.has y104∧y106.size≤maxLen∧y108.size≤maxLen∧IntKind.i64.has y110∧IntKind.i64.has y112∧IntKind.i64.has y114∧F.oper_teller_joins_l1 (F.oper_teller_joins_l2 (F.oper_teller_joins_l3 a0 m23 (List.drop (k37+1) xs29)) m23 y38 f83) y38 y81 x84 x90 f xs97 y98 y100 y102 y104 y106 y108 y110 y112 y114=some r) ⟨xs64,y65,y67,y69,y71,y73,y75,y77,y79,0,A62,c63,rfl,rfl,hy66,hy68,hy70,hy72,hy74,hy76,hy78,hy80,(A.hasl .i64 (0) rfl),hF⟩ ?_
   rintro f116 _ _ ⟨xs97,y98,y100,y102,y104,y106,y108,y110,y112,y114,A95,c96,rfl,rfl,hy99,hy101,hy103,hy105,hy107,hy109,hy111,hy113,hy115,hF⟩
   rcases f116 with _|f116
   ·exact A.no0 hF
   rw[F.oper_teller_joins_l1]at hF
   refine A.xl 1 ?_
   refine A.q0 [] [] [.n] [(38,.bool (decide (y114<((x90).length:Int))))] ?_
   refine A.dx 2 ?_
   refine A.AX.cnd rfl hF (fun hb hF=>?_) (fun hb hF=>?_)
   ·refine A.xl 5 ?_
    obtain⟨x117,hv118,hF⟩:=A.bd_some hF
    refine A.AL.ixs 1155 1242 hv118 fun ho119=>?_
    intro b120 o121
    refine A.q0 [] [1242] [.e 0 0] [(40,.agg #[.int .i64 x117.1.1,.string x117.1.2,.int .i64 x117.2])] ?_
    refine A.AL.alloc 1243 (cs:=[.int .i64 0,.string (ByteArray.mk #[]),.int .i64 0]) Tryz.zeroValue70 fun g122=>?_
    refine A.sw 1243 [] [.int .i64 x117.1.1,.string x117.1.2,.int .i64 x117.2] ?_
    refine A.dx 1 ?_
    refine A.AX.dr mixed 20 21 (A.mb 21 0) ?_
    obtain⟨hc123,hF⟩:=A.gd_some hF
    refine A.AH.q (A.pk_kont A.RQ.pq) [] [0,1,3,6,7,8,9,10,51,54,55,94,95,96,1154,1155,1242,1243] [8,1154,1243,0] [] (A.mb 21 16383) 7 [(0,.b 0 0),(1,.b 0 0),(5,.n),(6,.n),(10,.n),(2,.n),(7,.n),(11,.n),(3,.n),(8,.b 1 1),(12,.b 2 1),(4,.b 3 9),(9,.n),(13,.n)] [41,46,45,54] [x84.1.2.size+(ByteArray.mk #[43]).size≤9223372036854775807,(x84.1.2++(ByteArray.mk #[43])).size+x117.1.2.size≤9223372036854775807] [(41,.pointer (some ⟨g0_,0,none⟩)),(46,.int .i64 y38.1),(45,.slice A95 ((xs97).length) c96),(54,.string ((x84.1.2++(ByteArray.mk #[43]))++x117.1.2))] hc123 ?_
    refine A.AH.one 14 ?_
    obtain⟨r124,hv125,hF⟩:=A.bd_some hF
    refine A.AL.call 1244 [] (first:=[]) (cap:=[]) cf62 (rec_Cut_ok ((x84.1.2++(ByteArray.mk #[43]))++x117.1.2) 64 (A.cat_le hc123.2) (A.hasl .i64 (64) rfl) r124 hv125) .nil ?_
    rintro _ _ ⟨rfl,rfl,hr126⟩
    refine⟨by kernel_rfl,?_⟩
    refine A.AH.nx (A.mb 21 32767) [0,1,3,6,7,8,9,10,51,54,55,94,95,96,1154,1155,1242,1243] ?_
    refine A.hq (A.pk_kont A.RQ.pq) [0,1,3,6,7,8,9,10,51,54,55,94,95,96,1154,1155,1242,1243] [0,1,3,6,7,8,9,10,51,54,55,94,95,96,1154,1155,1242,1243] [] [] (A.mb 21 65535) 5 [(15,.n)] [(56,.agg #[.int .i64 y38.1,.string r124])] ?_
    refine A.AH.one 16 ?_
    refine A.AL.bsl 1284 (ty:=T43) (cs:=[.int .i64 y38.1,.string r124]) [(y38.1,r124)] ⟨⟨⟨rfl,hxo42.1⟩,⟨rfl,hr126⟩⟩,rfl⟩ (fun g127=>?_) Tryz.zeroValue44 Tryz.sizeOf44
    refine A.AH.nx (A.mb 21 131071) [0,1,3,6,7,8,9,10,51,54,55,94,95,96,1154,1155,1242,1243] ?_
    refine A.AH.one 17 ?_
    obtain⟨hl130,hF⟩:=A.gd_some hF
    refine A.AL.app (k:=2) [] (A.rowO (k:=1284) rfl) inf44 hl130 fun A128 c129=>?_
    refine A.AH.nx (A.mb 21 262143) [0,1,3,6,7,8,9,10,51,54,55,94,95,96,1154,1155,1242,1243] ?_
    refine A.hq (A.pk_kont A.RQ.pq) [0,1,3,6,7,8,9,10,51,54,55,94,95,96,1154,1155,1242,1243] [0,1,2,3,6,7,8,9,10,51,54,55,94,95,96,1154,1155,1242,1243,1284] [] [] (A.mb 21 1048575) 1 [(18,.n),(19,.n)] [(60,.pointer (some ⟨g0_,9,none⟩))] ?_
    refine A.AH.one 20 ?_
    refine A.AL.store 0 [] (new:=[.slice A128 ((xs97++[(y38.1,r124)]).length) c129]) (cs':=[.int .i64 y98,.int .i64 y100,.slice A3_ ((a0.1.2.2.1).length) c4_,.int .i64 y102,.int .i64 y104,.string y106,.string y108,.int .i64 y110,.int .i64 y112,.slice A128 ((xs97++[(y38.1,r124)]).length) c129,.map (some b13_)]) ?_
    refine A.AH.nm (A.mb 21 2097151) ?_
    refine A.AH.done ?_
    refine A.el 2 ?_
    obtain⟨hc131,hF⟩:=A.gd_some hF
    refine A.q [] [] [.n,.n] [Z.R64 (y114+1)] [(37,.int .i64 (y114+1))] hc131 ?_
    refine A.AL.done ?_
    exact A.j ⟨_,Nat.lt_succ_self _,⟨(xs97++[(y38.1,r124)]),y98,y100,y102,y104,y106,y108,y110,y112,(y114+1),A128,c129,rfl,rfl,hy99,hy101,hy103,hy105,hy107,hy109,hy111,hy113,(Z.i64_has hc131),hF⟩⟩
   refine A.xl 3 ?_
   obtain⟨hc132,hF⟩:=A.gd_some hF
   refine A.q [] [] [.n,.n] [Z.R64 (y81+1)] [(29,.int .i64 (y81+1))] hc132 ?_
   refine A.AL.done ?_
   exact A.j ⟨_,Nat.lt_succ_self _,⟨xs97,y98,y100,y102,y104,y106,y108,y110,y112,(y81+1),A95,c96,rfl,rfl,hy99,hy101,hy103,hy105,hy107,hy109,hy111,hy113,(Z.i64_has hc132),hF⟩⟩
  refine A.xe 2 ?_
  exact A.AE.bn hh35 [95,94,0,2,1,3,8,9,10,51,54,55] 100000 [(95,100095),(94,100094),(0,100000),(2,100002),(1,100001),(3,100003),(6,6),(7,7),(8,100008),(9,100009),(10,100010),(51,100051),(54,100054),(55,100055)] [(0,.blk g0_ 78 [.int .i64 y65,.int .i64 y67,.slice A3_ ((a0.1.2.2.1).length) c4_,.int .i64 y69,.int .i64 y71,.string y73,.string y75,.int .i64 y77,.int .i64 y79,.slice A62 ((xs64).length) c63,.map (some b13_)]),(2,.own T43 44 A62 c63 xs64)] ⟨xs64,y65,y67,y69,y71,y73,y75,y77,y79,A62,c63,rfl,hy66,hy68,hy70,hy72,hy74,hy76,hy78,hy80,hF⟩ rfl rfl
 rintro _ D31 L32 ⟨xs45,y46,y48,y50,y52,y54,y56,y58,y60,A43,c44,rfl,hy47,hy49,hy51,hy53,hy55,hy57,hy59,hy61,hF⟩
 rw[List.drop_length,F.oper_teller_joins_l3]at hF
 refine A.ee 1 ?_
 obtain rfl:=Option.some.inj hF
 exact A.AE.rtN (Ds:=[D31,D11]) [94,51] [(0,0),(1,1),(2,2),(3,3)] (.tuple #[]) (⟨rfl,⟨rfl,trivial⟩⟩) (fun a w hf hh=>Z.res0 rfl w) (⟨A3_,c4_,A43,c44,b13_,rfl,rfl,hy47,hy49,hy51,hy53,hy55,hy57,hy59,hy61⟩)
end Go.Proofs.YtbljnlkhebiniaaGreatDoor
end
section
set_option linter.unusedVariables false
set_option linter.unusedSimpArgs false
set_option maxRecDepth 20000
set_option maxHeartbeats 8000000
set_option synthInstance.maxSize 1000000
set_option synthInstance.maxHeartbeats 400000
namespace Go.Proofs.YtbljnlkhebiniaaGreatDoor
open Go.RowKit
def F.slices_SortFunc_api_Rec_api_Rec_rec_Compare (a0:List D43):Option (List D43):=A.gd (a0.length<4611686018427387904) (A.srtF (fun x y=>F.rec_Compare x y) a0)
theorem slices_SortFunc_api_Rec_api_Rec_rec_Compare_ok (a0:List D43)(A0_:Option Addr)(c1_:Nat)(r:List D43)(hF:F.slices_SortFunc_api_Rec_api_Rec_rec_Compare a0=some r):
    A.Ct Tryz.prog 34 [.slice A0_ ((a0).length) c1_,.func (.func 35) #[] #[]] [(0,.own T43 44 A0_ c1_ a0)] (Z.obl A0_++[]) (fun v H'=>v=.tuple #[]∧H'=[(0,.own T43 44 A0_ c1_ r)]∧(r).length=(a0).length):=by
 obtain⟨hc,hF⟩:=A.gd_some hF
 rw[List.append_nil]
 exact A.Ct.sortF (t:=T43) (e:=44) Tryz.laysSortFunc34 rfl rfl Tryz.isAgg44 Tryz.sizeOf44 A0_ c1_ 35 (fun x y=>F.rec_Compare x y) cf35 (fun x y r hx hy h=>⟨_,rec_Compare_ok x y hx.1 hx.2 hy.1 hy.2 r h,fun v H' h=>h.1⟩) a0 r hc hF
def F.oper_Tell_j1 (a0:D25)(xs21:List Int)(m23:List (D43×Int))(xs26:List D43)(y27:Int)(y29:Int)(y31:Int)(y33:Int)(y35:ByteArray)(y37:ByteArray)(y39:Int)(y41:Int):Option ((List D43)×(List D46)×Int):=(F.slices_SortFunc_api_Rec_api_Rec_rec_Compare xs26).bind fun r43=>((F.slices_Compact_api_Rec_api_Rec r43).bind fun r46=>(if a0.2.1=10 then(some (r46,[],0))else((F.oper_teller_entries ((y27,y29,xs21,(y31,y33,y35),y37,y39,y41),[],m23)).bind fun r50=>(some (r46,r50,0)))))
def F.oper_Tell_l2 (a0:D25)(a2:(List D69))(a3:(List D69))(a4:(List D46)):Nat→(List (D43×Int))→Int→Option ((List D43)×(List D46)×Int)
 |0,_,_=>none
 |f+1,m8,y9=>if y9<((a4).length:Int)then((A.ix a4 y9).bind fun x12=>(A.gd (Z.R64 (y9+1)) ((F.oper_Tell_l2 a0 a2 a3 a4 f) (Z.mins m8 (x12.2.1,x12.2.2.1) x12.2.2.2) (y9+1))))else(if a0.2.1=7 then((F.oper_teller_counts ((a0.1,a0.2.1,a0.2.2.1,(a0.2.2.2.1.1,a0.2.2.2.1.2.1,a0.2.2.2.1.2.2),a0.2.2.2.2.1,a0.2.2.2.2.2.1,a0.2.2.2.2.2.2),[],m8) a2).bind fun r54=>(F.oper_Tell_j1 a0 r54.1.2.2.1 r54.2.2 r54.2.1 r54.1.1 r54.1.2.1 r54.1.2.2.2.1.1 r54.1.2.2.2.1.2.1 r54.1.2.2.2.1.2.2 r54.1.2.2.2.2.1 r54.1.2.2.2.2.2.1 r54.1.2.2.2.2.2.2))else(if a0.2.1=8 then((F.oper_teller_reduces ((a0.1,a0.2.1,a0.2.2.1,(a0.2.2.2.1.1,a0.2.2.2.1.2.1,a0.2.2.2.1.2.2),a0.2.2.2.2.1,a0.2.2.2.2.2.1,a0.2.2.2.2.2.2),[],m8) a2).bind fun r69=>(F.oper_Tell_j1 a0 r69.1.2.2.1 r69.2.2 r69.2.1 r69.1.1 r69.1.2.1 r69.1.2.2.2.1.1 r69.1.2.2.2.1.2.1 r69.1.2.2.2.1.2.2 r69.1.2.2.2.2.1 r69.1.2.2.2.2.2.1 r69.1.2.2.2.2.2.2))else(if a0.2.1=9 then((F.oper_teller_joins ((a0.1,a0.2.1,a0.2.2.1,(a0.2.2.2.1.1,a0.2.2.2.1.2.1,a0.2.2.2.1.2.2),a0.2.2.2.2.1,a0.2.2.2.2.2.1,a0.2.2.2.2.2.2),[],m8) a2 a3).bind fun r84=>(F.oper_Tell_j1 a0 r84.1.2.2.1 r84.2.2 r84.2.1 r84.1.1 r84.1.2.1 r84.1.2.2.2.1.1 r84.1.2.2.2.1.2.1 r84.1.2.2.2.1.2.2 r84.1.2.2.2.2.1 r84.1.2.2.2.2.2.1 r84.1.2.2.2.2.2.2))else(if a0.2.1=11 then((F.oper_teller_totals ((a0.1,a0.2.1,a0.2.2.1,(a0.2.2.2.1.1,a0.2.2.2.1.2.1,a0.2.2.2.1.2.2),a0.2.2.2.2.1,a0.2.2.2.2.2.1,a0.2.2.2.2.2.2),[],m8) a2).bind fun r99=>(F.oper_Tell_j1 a0 r99.1.2.2.1 r99.2.2 r99.2.1 r99.1.1 r99.1.2.1 r99.1.2.2.2.1.1 r99.1.2.2.2.1.2.1 r99.1.2.2.2.1.2.2 r99.1.2.2.2.2.1 r99.1.2.2.2.2.2.1 r99.1.2.2.2.2.2.2))else((F.oper_teller_fresh ((a0.1,a0.2.1,a0.2.2.1,(a0.2.2.2.1.1,a0.2.2.2.1.2.1,a0.2.2.2.1.2.2),a0.2.2.2.2.1,a0.2.2.2.2.2.1,a0.2.2.2.2.2.2),[],m8) a2).bind fun r114=>(F.oper_Tell_j1 a0 r114.1.2.2.1 r114.2.2 r114.2.1 r114.1.1 r114.1.2.1 r114.1.2.2.2.1.1 r114.1.2.2.2.1.2.1 r114.1.2.2.2.1.2.2 r114.1.2.2.2.2.1 r114.1.2.2.2.2.2.1 r114.1.2.2.2.2.2.2))))))
def F.oper_Tell (a0:D25)(a1:D28)(a2:(List D69))(a3:(List D69))(a4:(List D46)):Option ((List D43)×(List D46)×Int):=(F.oper_may (a0.1,a0.2.1,a0.2.2.1,(a0.2.2.2.1.1,a0.2.2.2.1.2.1,a0.2.2.2.1.2.2),a0.2.2.2.2.1,a0.2.2.2.2.2.1,a0.2.2.2.2.2.2) (a1.1,a1.2.1,(a1.2.2.1,a1.2.2.2.1,a1.2.2.2.2.1,a1.2.2.2.2.2)) a2 a3 a4).bind fun r3=>(if r3≠0 then(some ([],[],r3))else(F.oper_Tell_l2 a0 a2 a3 a4 A.FU [] 0))
theorem oper_Tell_ok (a0:D25)(a1:D28)(a2:(List D69))(a3:(List D69))(a4:(List D46))(A2_:Option Addr)(c3_:Nat)(A16_:Option Addr)(c17_:Nat)(A18_:Option Addr)(c19_:Nat)(A20_:Option Addr)(c21_:Nat)(h0_:IntKind.i64.has a0.1)(h1_:IntKind.i64.has a0.2.1)(h4_:IntKind.i64.has a0.2.2.2.1.1)(h5_:IntKind.i64.has a0.2.2.2.1.2.1)(h6_:a0.2.2.2.1.2.2.size≤maxLen)(h7_:a0.2.2.2.2.1.size≤maxLen)(h8_:IntKind.i64.has a0.2.2.2.2.2.1)(h9_:IntKind.i64.has a0.2.2.2.2.2.2)(h10_:IntKind.i64.has a1.1)(h11_:IntKind.i64.has a1.2.1)(h12_:IntKind.i64.has a1.2.2.1)(h13_:IntKind.i64.has a1.2.2.2.1)(h14_:IntKind.i64.has a1.2.2.2.2.1)(h15_:IntKind.i64.has a1.2.2.2.2.2)(r:(List D43)×(List D46)×Int)(hF:F.oper_Tell a0 a1 a2 a3 a4=some r):
    A.Ct Tryz.prog 10 [.agg #[.int .i64 a0.1,.int .i64 a0.2.1,.slice A2_ ((a0.2.2.1).length) c3_,.int .i64 a0.2.2.2.1.1,.int .i64 a0.2.2.2.1.2.1,.string a0.2.2.2.1.2.2,.string a0.2.2.2.2.1,.int .i64 a0.2.2.2.2.2.1,.int .i64 a0.2.2.2.2.2.2],.agg #[.int .i64 a1.1,.int .i64 a1.2.1,.int .i64 a1.2.2.1,.int .i64 a1.2.2.2.1,.int .i64 a1.2.2.2.2.1,.int .i64 a1.2.2.2.2.2],.slice A16_ ((a2).length) c17_,.slice A18_ ((a3).length) c19_,.slice A20_ ((a4).length) c21_] [(0,.sh (.slice (Z.Ty.int .i64)) [.slice A2_ (a0.2.2.1).length c3_] a0.2.2.1),(1,.sh (.slice T69) [.slice A16_ (a2).length c17_] a2),(2,.sh (.slice T69) [.slice A18_ (a3).length c19_] a3),(3,.ln T46 A20_ c21_ a4),(4,.el none 1 0 A.tabF),(5,.el none 2 0 A.tabA)] [] (fun v H'=>∃(A0':Option Addr) (c1':Nat) (A2':Option Addr) (c3':Nat),v=.tuple #[.slice A0' ((r.1).length) c1',.slice A2' ((r.2.1).length) c3',.int .i64 r.2.2]∧H'=[(0,.sh (.slice T43) [.slice A0' (r.1).length c1'] r.1),(1,.sh (.slice T46) [.slice A2' (r.2.1).length c3'] r.2.1)]∧IntKind.i64.has r.2.2):=by
 refine A.Ct.enter Tryz.func10 rfl Tryz.ntmps10 rfl fun w0 F0=>?_
 rw[F.oper_Tell]at hF
 refine A.xl 1 ?_
 refine A.AL.box 6 (cs:=[.int .i64 a0.1,.int .i64 a0.2.1,.slice A2_ ((a0.2.2.1).length) c3_,.int .i64 a0.2.2.2.1.1,.int .i64 a0.2.2.2.1.2.1,.string a0.2.2.2.1.2.2,.string a0.2.2.2.2.1,.int .i64 a0.2.2.2.2.2.1,.int .i64 a0.2.2.2.2.2.2]) fun g1=>?_
 refine A.AL.box 7 (cs:=[.int .i64 a1.1,.int .i64 a1.2.1,.int .i64 a1.2.2.1,.int .i64 a1.2.2.2.1,.int .i64 a1.2.2.2.2.1,.int .i64 a1.2.2.2.2.2]) fun g2=>?_
 refine A.q0 [] [] [.n,.n,.n] [] ?_
 refine A.dl 3 ?_
 refine A.q0 [6,7] [] [.b 0 0,.b 1 0,.n,.n,.n] [(18,.agg #[.int .i64 a0.1,.int .i64 a0.2.1,.slice A2_ ((a0.2.2.1).length) c3_,.int .i64 a0.2.2.2.1.1,.int .i64 a0.2.2.2.1.2.1,.string a0.2.2.2.1.2.2,.string a0.2.2.2.2.1,.int .i64 a0.2.2.2.2.2.1,.int .i64 a0.2.2.2.2.2.2]),(19,.agg #[.int .i64 a1.1,.int .i64 a1.2.1,.int .i64 a1.2.2.1,.int .i64 a1.2.2.2.1,.int .i64 a1.2.2.2.2.1,.int .i64 a1.2.2.2.2.2]),(20,.slice A16_ ((a2).length) c17_),(21,.slice A18_ ((a3).length) c19_),(22,.slice A20_ ((a4).length) c21_)] ?_
 obtain⟨r3,hv4,hF⟩:=A.bd_some hF
 refine A.AL.call 8 [] (first:=[]) (cap:=[]) cf28 (oper_may_ok (a0.1,a0.2.1,a0.2.2.1,(a0.2.2.2.1.1,a0.2.2.2.1.2.1,a0.2.2.2.1.2.2),a0.2.2.2.2.1,a0.2.2.2.2.2.1,a0.2.2.2.2.2.2) (a1.1,a1.2.1,(a1.2.2.1,a1.2.2.2.1,a1.2.2.2.2.1,a1.2.2.2.2.2)) a2 a3 a4 A2_ c3_ A16_ c17_ A18_ c19_ A20_ c21_ h0_ h1_ h4_ h5_ h6_ h7_ h8_ h9_ h10_ h11_ h12_ h13_ h14_ h15_ r3 hv4) (.s 0 (.l 1 (.l 2 (.s 3 (.s 4 (.s 5 .nil)))))) ?_
 rintro _ _ ⟨rfl,rfl,hr5⟩
 refine⟨by kernel_rfl,?_⟩
 refine A.q0 [] [] [.n] [(13,.int .i64 r3)] ?_
 refine A.dl 2 ?_
 refine A.q0 [] [] [.n,.n] [(25,.bool (decide (r3≠0)))] ?_
 refine A.dx 1 ?_
 refine A.AX.cnd rfl hF (fun hb hF=>?_) (fun hb hF=>?_)
 ·refine A.xl 1 ?_
  refine A.q0 [] [] [.n,.n,.n,.n] [(10,.slice none 0 0),(11,.slice none 0 0),(12,.int .i64 r3)] ?_
  refine A.dx 1 ?_
  obtain rfl:=Option.some.inj hF
  refine A.snil 48 T43 ?_
  refine A.snil 49 T46 ?_
  exact A.AX.ret [(0,48),(1,49)] (.tuple #[.slice none 0 0,.slice none 0 0,.int .i64 r3]) (fun a w hf hh=>Z.resv3 rfl (Z.rv_t hf rfl) (Z.rv_t hf rfl) (Z.rv_t hf rfl)) (⟨none,0,none,0,rfl,rfl,hr5⟩)
 refine A.xl 3 ?_
 refine A.q0 [6] [] [.b 0 0] [(27,.agg #[.int .i64 a0.1,.int .i64 a0.2.1,.slice A2_ ((a0.2.2.1).length) c3_,.int .i64 a0.2.2.2.1.1,.int .i64 a0.2.2.2.1.2.1,.string a0.2.2.2.1.2.2,.string a0.2.2.2.2.1,.int .i64 a0.2.2.2.2.2.1,.int .i64 a0.2.2.2.2.2.2])] ?_
 refine A.AL.mkm 50 D43 (fun x:D43=>.agg #[.int .i64 x.1,.string x.2]) (Z.Ty.int .i64) false fun b6=>?_
 refine A.q0 [] [] [.n] [(29,.agg #[.int .i64 a0.1,.int .i64 a0.2.1,.slice A2_ ((a0.2.2.1).length) c3_,.int .i64 a0.2.2.2.1.1,.int .i64 a0.2.2.2.1.2.1,.string a0.2.2.2.1.2.2,.string a0.2.2.2.2.1,.int .i64 a0.2.2.2.2.2.1,.int .i64 a0.2.2.2.2.2.2,.slice none 0 0,.map (some b6)])] ?_
 refine A.AL.box 51 (cs:=[.int .i64 a0.1,.int .i64 a0.2.1,.slice A2_ ((a0.2.2.1).length) c3_,.int .i64 a0.2.2.2.1.1,.int .i64 a0.2.2.2.1.2.1,.string a0.2.2.2.1.2.2,.string a0.2.2.2.2.1,.int .i64 a0.2.2.2.2.2.1,.int .i64 a0.2.2.2.2.2.2,.slice none 0 0,.map (some b6)]) fun g7=>?_
 refine A.q0 [] [] [.n] [(14,.pointer (some ⟨g7,0,none⟩))] ?_
 refine A.dl 3 ?_
 refine A.q0 [] [] [.n,.n,.n] [(31,.slice A20_ ((a4).length) c21_),(32,.int .i64 ((a4).length:Int)),(33,.int .i64 0)] ?_
 refine A.dx 2 ?_
 refine A.lp_ [2,3,5,14,31,32] [0,1,2,3,4,5,6,51] (fun f nl nh=>∃(m8:List (D43×Int)),∃(y9:Int),nl=[(33,.int .i64 y9)]∧nh=[(50,.mp D43 (fun x:D43=>.agg #[.int .i64 x.1,.string x.2]) (Z.Ty.int .i64) false b6 m8)]∧IntKind.i64.has y9∧F.oper_Tell_l2 a0 a2 a3 a4 f m8 y9=some r) ⟨[],0,rfl,rfl,(A.hasl .i64 (0) rfl),hF⟩ ?_
 rintro f11 _ _ ⟨m8,y9,rfl,rfl,hy10,hF⟩
 rcases f11 with _|f11
 ·exact A.no0 hF
 rw[F.oper_Tell_l2]at hF
 refine A.xl 1 ?_
 refine A.q0 [] [] [.n] [(34,.bool (decide (y9<((a4).length:Int))))] ?_
 refine A.dx 2 ?_
 refine A.AX.cnd rfl hF (fun hb hF=>?_) (fun hb hF=>?_)
 ·refine A.xl 5 ?_
  obtain⟨x12,hv13,hF⟩:=A.bd_some hF
  refine A.AL.ixl 3 1110 hv13 fun ho14=>?_
  intro b15 o16
  refine A.q0 [] [1110] [.e 0 0] [(36,.agg #[.int .i64 x12.1,.int .i64 x12.2.1,.string x12.2.2.1,.int .i64 x12.2.2.2])] ?_
  refine A.AL.alloc 1111 (cs:=[.int .i64 0,.int .i64 0,.string (ByteArray.mk #[]),.int .i64 0]) Tryz.zeroValue47 fun g17=>?_
  refine A.sw 1111 [] [.int .i64 x12.1,.int .i64 x12.2.1,.string x12.2.2.1,.int .i64 x12.2.2.2] ?_
  refine A.dx 1 ?_
  refine A.AX.dr mixed 11 12 (A.mb 12 0) ?_
  refine A.hq A.pb [] [0,1,2,3,4,5,6,50,51,1110,1111] [1111,51] [] (A.mb 12 2047) 1 [(0,.n),(4,.n),(6,.n),(9,.n),(1,.n),(5,.b 0 1),(7,.b 0 2),(10,.b 0 3),(2,.n),(8,.n),(3,.b 1 10)] [(47,.int .i64 x12.2.2.2),(45,.agg #[.int .i64 x12.2.1,.string x12.2.2.1]),(40,.map (some b6))] ?_
  refine A.AH.one 11 ?_
  refine A.AL.mup (t:=(Z.Ty.int .i64)) 50 [] (cs:=[.int .i64 x12.2.2.2]) (u:=x12.2.2.2) ky44 (x12.2.1,x12.2.2.1) ⟨rfl,ho14.2.2.2⟩ ?_
  refine A.AH.nm (A.mb 12 4095) ?_
  refine A.AH.done ?_
  refine A.el 2 ?_
  obtain⟨hc18,hF⟩:=A.gd_some hF
  refine A.q [] [] [.n,.n] [Z.R64 (y9+1)] [(33,.int .i64 (y9+1))] hc18 ?_
  refine A.AL.done ?_
  exact A.j ⟨_,Nat.lt_succ_self _,⟨(Z.mins m8 (x12.2.1,x12.2.2.1) x12.2.2.2),(y9+1),rfl,rfl,(Z.i64_has hc18),hF⟩⟩
 refine A.xx 2 ?_
 refine A.nil 1317 T43 44 ?_
 refine A.AX.join [5,14] [4,5,6] (fun nl nh=>∃(xs21:List Int),∃(m23:List (D43×Int)),∃(xs26:List D43),∃(y27:Int),∃(y29:Int),∃(y31:Int),∃(y33:Int),∃(y35:ByteArray),∃(y37:ByteArray),∃(y39:Int),∃(y41:Int),∃(A19:Option Addr),∃(c20:Nat),∃(b22:Nat),∃(A24:Option Addr),∃(c25:Nat),nl=[]∧nh=[(0,.sh (.slice (Z.Ty.int .i64)) [.slice A19 (xs21).length c20] xs21),(50,.mp D43 (fun x:D43=>.agg #[.int .i64 x.1,.string x.2]) (Z.Ty.int .i64) false b22 m23),(51,.blk g7 78 [.int .i64 y27,.int .i64 y29,.slice A19 ((xs21).length) c20,.int .i64 y31,.int .i64 y33,.string y35,.string y37,.int .i64 y39,.int .i64 y41,.slice A24 ((xs26).length) c25,.map (some b22)]),(1317,.own T43 44 A24 c25 xs26)]∧IntKind.i64.has y27∧IntKind.i64.has y29∧IntKind.i64.has y31∧IntKind.i64.has y33∧y35.size≤maxLen∧y37.size≤maxLen∧IntKind.i64.has y39∧IntKind.i64.has y41∧F.oper_Tell_j1 a0 xs21 m23 xs26 y27 y29 y31 y33 y35 y37 y39 y41=some r) ?_ ?_
 ·refine A.xl 1 ?_
  refine A.q0 [6] [] [.n,.b 0 1] [(50,.int .i64 a0.2.1)] ?_
  refine A.dl 3 ?_
  refine A.q0 [] [] [.n,.n] [(54,.bool (decide (a0.2.1=7)))] ?_
  refine A.dx 1 ?_
  refine A.AX.cnd rfl hF (fun hb hF=>?_) (fun hb hF=>?_)
  ·refine A.xl 0 ?_
   refine A.q0 [] [] [.n,.n] [(56,.pointer (some ⟨g7,0,none⟩)),(57,.slice A16_ ((a2).length) c17_)] ?_
   obtain⟨r54,hv55,hF⟩:=A.bd_some hF
   refine A.AL.call 1318 [] (first:=[]) (cap:=[]) cf29 (oper_teller_counts_ok ((a0.1,a0.2.1,a0.2.2.1,(a0.2.2.2.1.1,a0.2.2.2.1.2.1,a0.2.2.2.1.2.2),a0.2.2.2.2.1,a0.2.2.2.2.2.1,a0.2.2.2.2.2.2),[],m8) a2 g7 A2_ c3_ none 0 b6 A16_ c17_ h0_ h1_ h4_ h5_ h6_ h7_ h8_ h9_ r54 hv55) (.m 51 (.m 0 (.m 1317 (.m 50 (.s 1 (.s 4 (.s 5 .nil))))))) ?_
   rintro _ _ ⟨A58,c59,A66,c67,b68,rfl,rfl,hr56,hr57,hr60,hr61,hr62,hr63,hr64,hr65⟩
   refine⟨by kernel_rfl,?_⟩
   refine A.mvd 1318 51 [] ?_
   refine A.mvd 1319 0 [] ?_
   refine A.mvd 1320 1317 [] ?_
   refine A.mvd 1321 50 [] ?_
   refine A.de 1 ?_
   exact A.j ⟨r54.1.2.2.1,r54.2.2,r54.2.1,r54.1.1,r54.1.2.1,r54.1.2.2.2.1.1,r54.1.2.2.2.1.2.1,r54.1.2.2.2.1.2.2,r54.1.2.2.2.2.1,r54.1.2.2.2.2.2.1,r54.1.2.2.2.2.2.2,A58,c59,b68,A66,c67,rfl,rfl,hr56,hr57,hr60,hr61,hr62,hr63,hr64,hr65,hF⟩
  refine A.xl 1 ?_
  refine A.q0 [] [] [.n,.n] [(59,.bool (decide (a0.2.1=8)))] ?_
  refine A.dx 1 ?_
  refine A.AX.cnd rfl hF (fun hb hF=>?_) (fun hb hF=>?_)
  ·refine A.xl 0 ?_
   refine A.q0 [] [] [.n,.n] [(61,.pointer (some ⟨g7,0,none⟩)),(62,.slice A16_ ((a2).length) c17_)] ?_
   obtain⟨r69,hv70,hF⟩:=A.bd_some hF
   refine A.AL.call 1358 [] (first:=[]) (cap:=[]) cf30 (oper_teller_reduces_ok ((a0.1,a0.2.1,a0.2.2.1,(a0.2.2.2.1.1,a0.2.2.2.1.2.1,a0.2.2.2.1.2.2),a0.2.2.2.2.1,a0.2.2.2.2.2.1,a0.2.2.2.2.2.2),[],m8) a2 g7 A2_ c3_ none 0 b6 A16_ c17_ h0_ h1_ h4_ h5_ h6_ h7_ h8_ h9_ r69 hv70) (.m 51 (.m 0 (.m 1317 (.m 50 (.s 1 (.s 4 (.s 5 .nil))))))) ?_
   rintro _ _ ⟨A73,c74,A81,c82,b83,rfl,rfl,hr71,hr72,hr75,hr76,hr77,hr78,hr79,hr80⟩
   refine⟨by kernel_rfl,?_⟩
   refine A.mvd 1358 51 [] ?_
   refine A.mvd 1359 0 [] ?_
   refine A.mvd 1360 1317 [] ?_
   refine A.mvd 1361 50 [] ?_
   refine A.de 1 ?_
   exact A.j ⟨r69.1.2.2.1,r69.2.2,r69.2.1,r69.1.1,r69.1.2.1,r69.1.2.2.2.1.1,r69.1.2.2.2.1.2.1,r69.1.2.2.2.1.2.2,r69.1.2.2.2.2.1,r69.1.2.2.2.2.2.1,r69.1.2.2.2.2.2.2,A73,c74,b83,A81,c82,rfl,rfl,hr71,hr72,hr75,hr76,hr77,hr78,hr79,hr80,hF⟩
  refine A.xl 1 ?_
  refine A.q0 [] [] [.n,.n] [(64,.bool (decide (a0.2.1=9)))] ?_
  refine A.dx 1 ?_
  refine A.AX.cnd rfl hF (fun hb hF=>?_) (fun hb hF=>?_)
  ·refine A.xl 0 ?_
   refine A.q0 [] [] [.n,.n,.n] [(66,.pointer (some ⟨g7,0,none⟩)),(67,.slice A16_ ((a2).length) c17_),(68,.slice A18_ ((a3).length) c19_)] ?_
   obtain⟨r84,hv85,hF⟩:=A.bd_some hF
   refine A.AL.call 1398 [] (first:=[]) (cap:=[]) cf31 (oper_teller_joins_ok ((a0.1,a0.2.1,a0.2.2.1,(a0.2.2.2.1.1,a0.2.2.2.1.2.1,a0.2.2.2.1.2.2),a0.2.2.2.2.1,a0.2.2.2.2.2.1,a0.2.2.2.2.2.2),[],m8) a2 a3 g7 A2_ c3_ none 0 b6 A16_ c17_ A18_ c19_ h0_ h1_ h4_ h5_ h6_ h7_ h8_ h9_ r84 hv85) (.m 51 (.m 0 (.m 1317 (.m 50 (.s 1 (.s 2 (.s 4 (.s 5 .nil)))))))) ?_
   rintro _ _ ⟨A88,c89,A96,c97,b98,rfl,rfl,hr86,hr87,hr90,hr91,hr92,hr93,hr94,hr95⟩
   refine⟨by kernel_rfl,?_⟩
   refine A.mvd 1398 51 [] ?_
   refine A.mvd 1399 0 [] ?_
   refine A.mvd 1400 1317 [] ?_
   refine A.mvd 1401 50 [] ?_
   refine A.de 1 ?_
   exact A.j ⟨r84.1.2.2.1,r84.2.2,r84.2.1,r84.1.1,r84.1.2.1,r84.1.2.2.2.1.1,r84.1.2.2.2.1.2.1,r84.1.2.2.2.1.2.2,r84.1.2.2.2.2.1,r84.1.2.2.2.2.2.1,r84.1.2.2.2.2.2.2,A88,c89,b98,A96,c97,rfl,rfl,hr86,hr87,hr90,hr91,hr92,hr93,hr94,hr95,hF⟩
  refine A.xl 1 ?_
  refine A.q0 [] [] [.n,.n] [(70,.bool (decide (a0.2.1=11)))] ?_
  refine A.dx 1 ?_
  refine A.AX.cnd rfl hF (fun hb hF=>?_) (fun hb hF=>?_)
  ·refine A.xl 0 ?_
   refine A.q0 [] [] [.n,.n] [(72,.pointer (some ⟨g7,0,none⟩)),(73,.slice A16_ ((a2).length) c17_)] ?_
   obtain⟨r99,hv100,hF⟩:=A.bd_some hF
   refine A.AL.call 1438 [] (first:=[]) (cap:=[]) cf32 (oper_teller_totals_ok ((a0.1,a0.2.1,a0.2.2.1,(a0.2.2.2.1.1,a0.2.2.2.1.2.1,a0.2.2.2.1.2.2),a0.2.2.2.2.1,a0.2.2.2.2.2.1,a0.2.2.2.2.2.2),[],m8) a2 g7 A2_ c3_ none 0 b6 A16_ c17_ h0_ h1_ h4_ h5_ h6_ h7_ h8_ h9_ r99 hv100) (.m 51 (.m 0 (.m 1317 (.m 50 (.s 1 (.s 4 (.s 5 .nil))))))) ?_
   rintro _ _ ⟨A103,c104,A111,c112,b113,rfl,rfl,hr101,hr102,hr105,hr106,hr107,hr108,hr109,hr110⟩
   refine⟨by kernel_rfl,?_⟩
   refine A.mvd 1438 51 [] ?_
   refine A.mvd 1439 0 [] ?_
   refine A.mvd 1440 1317 [] ?_
   refine A.mvd 1441 50 [] ?_
   refine A.de 1 ?_
   exact A.j ⟨r99.1.2.2.1,r99.2.2,r99.2.1,r99.1.1,r99.1.2.1,r99.1.2.2.2.1.1,r99.1.2.2.2.1.2.1,r99.1.2.2.2.1.2.2,r99.1.2.2.2.2.1,r99.1.2.2.2.2.2.1,r99.1.2.2.2.2.2.2,A103,c104,b113,A111,c112,rfl,rfl,hr101,hr102,hr105,hr106,hr107,hr108,hr109,hr110,hF⟩
  refine A.xl 0 ?_
  refine A.q0 [] [] [.n,.n] [(51,.pointer (some ⟨g7,0,none⟩)),(52,.slice A16_ ((a2).length) c17_)] ?_
  obtain⟨r114,hv115,hF⟩:=A.bd_some hF
  refine A.AL.call 1478 [] (first:=[]) (cap:=[]) cf33 (oper_teller_fresh_ok ((a0.1,a0.2.1,a0.2.2.1,(a0.2.2.2.1.1,a0.2.2.2.1.2.1,a0.2.2.2.1.2.2),a0.2.2.2.2.1,a0.2.2.2.2.2.1,a0.2.2.2.2.2.2),[],m8) a2 g7 A2_ c3_ none 0 b6 A16_ c17_ h0_ h1_ h4_ h5_ h6_ h7_ h8_ h9_ r114 hv115) (.m 51 (.m 0 (.m 1317 (.m 50 (.l 1 .nil))))) ?_
  rintro _ _ ⟨A118,c119,A126,c127,b128,rfl,rfl,hr116,hr117,hr120,hr121,hr122,hr123,hr124,hr125⟩
  refine⟨by kernel_rfl,?_⟩
  refine A.mvd 1478 51 [] ?_
  refine A.mvd 1479 0 [] ?_
  refine A.mvd 1480 1317 [] ?_
  refine A.mvd 1481 50 [] ?_
  refine A.de 1 ?_
  exact A.j ⟨r114.1.2.2.1,r114.2.2,r114.2.1,r114.1.1,r114.1.2.1,r114.1.2.2.2.1.1,r114.1.2.2.2.1.2.1,r114.1.2.2.2.1.2.2,r114.1.2.2.2.2.1,r114.1.2.2.2.2.2.1,r114.1.2.2.2.2.2.2,A118,c119,b128,A126,c127,rfl,rfl,hr116,hr117,hr120,hr121,hr122,hr123,hr124,hr125,hF⟩
 rintro _ _ ⟨xs21,m23,xs26,y27,y29,y31,y33,y35,y37,y39,y41,A19,c20,b22,A24,c25,rfl,rfl,hy28,hy30,hy32,hy34,hy36,hy38,hy40,hy42,hF⟩
 rw[F.oper_Tell_j1]at hF
 refine A.xl 1 ?_
 refine A.q0 [51] [] [.n,.n,.n,.b 0 9] [(78,.slice A24 ((xs26).length) c25)] ?_
 obtain⟨r43,hv44,hF⟩:=A.bd_some hF
 refine A.AL.call 1518 [] (first:=[]) (cap:=[]) cf34 (slices_SortFunc_api_Rec_api_Rec_rec_Compare_ok xs26 A24 c25 r43 hv44) (.m 1317 .nil) ?_
 rintro _ _ ⟨rfl,rfl,hr45⟩
 refine⟨by kernel_rfl,?_⟩
 refine A.mvd 1518 1317 [] ?_
 refine A.dl 2 ?_
 refine A.q0 [51] [] [.n,.n,.n,.b 0 9] [(83,.slice A24 ((xs26).length) c25)] ?_
 refine A.cst 83 (Z.slice_n (show(xs26).length=(r43).length from(Eq.symm hr45))) ?_
 obtain⟨r46,hv47,hF⟩:=A.bd_some hF
 refine A.AL.call 1558 [] (first:=[]) (cap:=[]) cf36 (slices_Compact_api_Rec_api_Rec_ok r43 A24 c25 r46 hv47) (.m 1317 .nil) ?_
 rintro _ _ ⟨A48,c49,rfl,rfl⟩
 refine⟨by kernel_rfl,?_⟩
 refine A.q0 [] [] [.n] [(17,.slice A48 ((r46).length) c49)] ?_
 refine A.dl 3 ?_
 refine A.q0 [6] [] [.n,.b 0 1,.n] [(87,.bool (decide (a0.2.1=10)))] ?_
 refine A.dx 1 ?_
 refine A.AX.cnd rfl hF (fun hb hF=>?_) (fun hb hF=>?_)
 ·refine A.xl 1 ?_
  refine A.q0 [] [] [.n,.n,.n,.n] [(10,.slice A48 ((r46).length) c49),(11,.slice none 0 0),(12,.int .i64 0)] ?_
  refine A.dx 1 ?_
  obtain rfl:=Option.some.inj hF
  refine A.snil 1598 T46 ?_
  exact A.AX.ret [(0,1558),(1,1598)] (.tuple #[.slice A48 ((r46).length) c49,.slice none 0 0,.int .i64 0]) (fun a w hf hh=>Z.resv3 rfl (Z.rv_t hf rfl) (Z.rv_t hf rfl) (Z.rv_t hf rfl)) (⟨A48,c49,none,0,rfl,rfl,(A.hasl .i64 (0) rfl)⟩)
 refine A.xl 3 ?_
 refine A.q0 [] [] [.n,.n] [(89,.slice A48 ((r46).length) c49),(90,.pointer (some ⟨g7,0,none⟩))] ?_
 obtain⟨r50,hv51,hF⟩:=A.bd_some hF
 refine A.AL.call 1599 [] (first:=[]) (cap:=[]) cf37 (oper_teller_entries_ok ((y27,y29,xs21,(y31,y33,y35),y37,y39,y41),[],m23) g7 A19 c20 A24 ((xs26).length) c25 b22 hy28 hy30 hy32 hy34 hy36 hy38 hy40 hy42 r50 hv51) (.m 51 (.m 0 (.m 50 .nil))) ?_
 rintro _ _ ⟨A52,c53,rfl,rfl⟩
 refine⟨by kernel_rfl,?_⟩
 refine A.mvd 1600 51 [] ?_
 refine A.mvd 1601 0 [] ?_
 refine A.mvd 1602 50 [] ?_
 refine A.q0 [] [] [.n,.n,.n] [(10,.slice A48 ((r46).length) c49),(11,.slice A52 ((r50).length) c53),(12,.int .i64 0)] ?_
 refine A.dx 1 ?_
 obtain rfl:=Option.some.inj hF
 refine A.frz 1599 [] ?_
 exact A.AX.ret [(0,1558),(1,1599)] (.tuple #[.slice A48 ((r46).length) c49,.slice A52 ((r50).length) c53,.int .i64 0]) (fun a w hf hh=>Z.resv3 rfl (Z.rv_t hf rfl) (Z.rv_t hf rfl) (Z.rv_t hf rfl)) (⟨A48,c49,A52,c53,rfl,rfl,(A.hasl .i64 (0) rfl)⟩)
def F.slices_Equal_api_Rec_api_Rec_l1 (a0:(List D43))(a1:(List D43)):Nat→Int→Option Bool
 |0,_=>none
 |f+1,y1=>if y1<((a0).length:Int)then((A.ix a0 y1).bind fun x4=>((A.ix a1 y1).bind fun x10=>(if(x4.1,x4.2)≠(x10.1,x10.2)then(some false)else(A.gd (Z.R64 (y1+1)) ((F.slices_Equal_api_Rec_api_Rec_l1 a0 a1 f) (y1+1))))))else(some true)
def F.slices_Equal_api_Rec_api_Rec (a0:(List D43))(a1:(List D43)):Option Bool:=if((a0).length:Int)≠((a1).length:Int)then(some false)else(F.slices_Equal_api_Rec_api_Rec_l1 a0 a1 A.FU 0)
theorem slices_Equal_api_Rec_api_Rec_ok (a0:(List D43))(a1:(List D43))(A0_:Option Addr)(c1_:Nat)(A2_:Option Addr)(c3_:Nat)(r:Bool)(hF:F.slices_Equal_api_Rec_api_Rec a0 a1=some r):
    A.Ct Tryz.prog 12 [.slice A0_ ((a0).length) c1_,.slice A2_ ((a1).length) c3_] [(0,.ln T43 A0_ c1_ a0),(1,.ln T43 A2_ c3_ a1)] [] (fun v H'=>v=.bool r∧H'=[]):=by
 refine A.Ct.enter Tryz.func12 rfl Tryz.ntmps12 rfl fun w0 F0=>?_
 rw[F.slices_Equal_api_Rec_api_Rec]at hF
 refine A.xl 1 ?_
 refine A.q0 [] [] [.n] [] ?_
 refine A.dl 3 ?_
 refine A.q0 [] [] [.n,.n,.n,.n,.n] [(10,.bool (decide (((a0).length:Int)≠((a1).length:Int))))] ?_
 refine A.dx 1 ?_
 refine A.AX.cnd rfl hF (fun hb hF=>?_) (fun hb hF=>?_)
 ·refine A.xl 1 ?_
  refine A.q0 [] [] [.n] [(4,.bool false)] ?_
  refine A.dx 1 ?_
  obtain rfl:=Option.some.inj hF
  exact A.rt1 [] ⟨rfl,rfl⟩
 refine A.xl 4 ?_
 refine A.q0 [] [] [.n,.n,.n] [(12,.int .i64 ((a0).length:Int)),(13,.int .i64 0)] ?_
 refine A.dx 2 ?_
 refine A.lp_ [0,1,12] [0,1] (fun f nl nh=>∃(y1:Int),nl=[(13,.int .i64 y1)]∧nh=[]∧IntKind.i64.has y1∧F.slices_Equal_api_Rec_api_Rec_l1 a0 a1 f y1=some r) ⟨0,rfl,rfl,(A.hasl .i64 (0) rfl),hF⟩ ?_
 rintro f3 _ _ ⟨y1,rfl,rfl,hy2,hF⟩
 rcases f3 with _|f3
 ·exact A.no0 hF
 rw[F.slices_Equal_api_Rec_api_Rec_l1]at hF
 refine A.xl 1 ?_
 refine A.q0 [] [] [.n] [(14,.bool (decide (y1<((a0).length:Int))))] ?_
 refine A.dx 2 ?_
 refine A.AX.cnd rfl hF (fun hb hF=>?_) (fun hb hF=>?_)
 ·refine A.xl 5 ?_
  refine A.q0 [] [] [.n,.n] [(5,.int .i64 y1)] ?_
  refine A.dx 2 ?_
  refine A.AX.dr mixed 9 9 (A.mb 9 0) ?_
  refine A.hq A.pb [] [0,1] [] [] (A.mb 9 51) 5 [(0,.n),(1,.n),(4,.n),(5,.n)] [(16,.slice A0_ ((a0).length) c1_),(17,.int .i64 y1),(20,.slice A2_ ((a1).length) c3_),(21,.int .i64 y1)] ?_
  obtain⟨x4,hv5,hF⟩:=A.bd_some hF
  refine A.AH.pkl 0 6 hv5 fun ho6=>?_
  intro b8 o9 hA7
  refine A.AH.v A.pb [0,1] [0,1,6] 2 (A.mb 9 55) rfl (fun a w hf hh=>A.r_ixa (t:=T43) hv5 hA7 hf) ?_
  refine A.hq A.pb [0,1,6] [0,1,6] [] [6] (A.mb 9 63) 3 [(3,.e 0 0)] [(19,.agg #[.int .i64 x4.1,.string x4.2])] ?_
  obtain⟨x10,hv11,hF⟩:=A.bd_some hF
  refine A.AH.pkl 1 7 hv11 fun ho12=>?_
  intro b14 o15 hA13
  refine A.AH.v A.pb [0,1,6] [0,1,6,7] 6 (A.mb 9 127) rfl (fun a w hf hh=>A.r_ixa (t:=T43) hv11 hA13 hf) ?_
  refine A.hq A.pb [0,1,6,7] [0,1,6,7] [] [7] (A.mb 9 255) 1 [(7,.e 0 0)] [(23,.agg #[.int .i64 x10.1,.string x10.2])] ?_
  refine A.AH.v A.pb [0,1,6,7] [0,1,6,7] 8 (A.mb 9 511) rfl (fun a w hf hh=>eqagg_neq44 (x:=(x4.1,x4.2)) (y:=(x10.1,x10.2)) (hf.eval rfl) (hf.eval rfl)) ?_
  refine A.AH.done ?_
  refine A.ex 1 ?_
  refine A.AX.cnd rfl hF (fun hb hF=>?_) (fun hb hF=>?_)
  ·refine A.xl 1 ?_
   refine A.q0 [] [] [.n] [(4,.bool false)] ?_
   refine A.dx 1 ?_
   obtain rfl:=Option.some.inj hF
   exact A.rt1 [] ⟨rfl,rfl⟩
  refine A.xl 3 ?_
  obtain⟨hc16,hF⟩:=A.gd_some hF
  refine A.q [] [] [.n,.n] [Z.R64 (y1+1)] [(13,.int .i64 (y1+1))] hc16 ?_
  refine A.AL.done ?_
  exact A.j ⟨_,Nat.lt_succ_self _,⟨(y1+1),rfl,rfl,(Z.i64_has hc16),hF⟩⟩
 refine A.xl 3 ?_
 refine A.q0 [] [] [.n] [(4,.bool true)] ?_
 refine A.dx 1 ?_
 obtain rfl:=Option.some.inj hF
 exact A.rt1 [] ⟨rfl,rfl⟩
def F.slices_Equal_api_Entry_api_Entry_l1 (a0:(List D46))(a1:(List D46)):Nat→Int→Option Bool
 |0,_=>none
 |f+1,y1=>if y1<((a0).length:Int)then((A.ix a0 y1).bind fun x4=>((A.ix a1 y1).bind fun x10=>(if(x4.1,x4.2.1,x4.2.2.1,x4.2.2.2)≠(x10.1,x10.2.1,x10.2.2.1,x10.2.2.2)then(some false)else(A.gd (Z.R64 (y1+1)) ((F.slices_Equal_api_Entry_api_Entry_l1 a0 a1 f) (y1+1))))))else(some true)
def F.slices_Equal_api_Entry_api_Entry (a0:(List D46))(a1:(List D46)):Option Bool:=if((a0).length:Int)≠((a1).length:Int)then(some false)else(F.slices_Equal_api_Entry_api_Entry_l1 a0 a1 A.FU 0)
theorem slices_Equal_api_Entry_api_Entry_ok (a0:(List D46))(a1:(List D46))(A0_:Option Addr)(c1_:Nat)(A2_:Option Addr)(c3_:Nat)(r:Bool)(hF:F.slices_Equal_api_Entry_api_Entry a0 a1=some r):
    A.Ct Tryz.prog 13 [.slice A0_ ((a0).length) c1_,.slice A2_ ((a1).length) c3_] [(0,.ln T46 A0_ c1_ a0),(1,.ln T46 A2_ c3_ a1)] [] (fun v H'=>v=.bool r∧H'=[]):=by
 refine A.Ct.enter Tryz.func13 rfl Tryz.ntmps13 rfl fun w0 F0=>?_
 rw[F.slices_Equal_api_Entry_api_Entry]at hF
 refine A.xl 1 ?_
 refine A.q0 [] [] [.n] [] ?_
 refine A.dl 3 ?_
 refine A.q0 [] [] [.n,.n,.n,.n,.n] [(10,.bool (decide (((a0).length:Int)≠((a1).length:Int))))] ?_
 refine A.dx 1 ?_
 refine A.AX.cnd rfl hF (fun hb hF=>?_) (fun hb hF=>?_)
 ·refine A.xl 1 ?_
  refine A.q0 [] [] [.n] [(4,.bool false)] ?_
  refine A.dx 1 ?_
  obtain rfl:=Option.some.inj hF
  exact A.rt1 [] ⟨rfl,rfl⟩
 refine A.xl 4 ?_
 refine A.q0 [] [] [.n,.n,.n] [(12,.int .i64 ((a0).length:Int)),(13,.int .i64 0)] ?_
 refine A.dx 2 ?_
 refine A.lp_ [0,1,12] [0,1] (fun f nl nh=>∃(y1:Int),nl=[(13,.int .i64 y1)]∧nh=[]∧IntKind.i64.has y1∧F.slices_Equal_api_Entry_api_Entry_l1 a0 a1 f y1=some r) ⟨0,rfl,rfl,(A.hasl .i64 (0) rfl),hF⟩ ?_
 rintro f3 _ _ ⟨y1,rfl,rfl,hy2,hF⟩
 rcases f3 with _|f3
 ·exact A.no0 hF
 rw[F.slices_Equal_api_Entry_api_Entry_l1]at hF
 refine A.xl 1 ?_
 refine A.q0 [] [] [.n] [(14,.bool (decide (y1<((a0).length:Int))))] ?_
 refine A.dx 2 ?_
 refine A.AX.cnd rfl hF (fun hb hF=>?_) (fun hb hF=>?_)
 ·refine A.xl 5 ?_
  refine A.q0 [] [] [.n,.n] [(5,.int .i64 y1)] ?_
  refine A.dx 2 ?_
  refine A.AX.dr mixed 9 9 (A.mb 9 0) ?_
  refine A.hq A.pb [] [0,1] [] [] (A.mb 9 51) 5 [(0,.n),(1,.n),(4,.n),(5,.n)] [(16,.slice A0_ ((a0).length) c1_),(17,.int .i64 y1),(20,.slice A2_ ((a1).length) c3_),(21,.int .i64 y1)] ?_
  obtain⟨x4,hv5,hF⟩:=A.bd_some hF
  refine A.AH.pkl 0 6 hv5 fun ho6=>?_
  intro b8 o9 hA7
  refine A.AH.v A.pb [0,1] [0,1,6] 2 (A.mb 9 55) rfl (fun a w hf hh=>A.r_ixa (t:=T46) hv5 hA7 hf) ?_
  refine A.hq A.pb [0,1,6] [0,1,6] [] [6] (A.mb 9 63) 3 [(3,.e 0 0)] [(19,.agg #[.int .i64 x4.1,.int .i64 x4.2.1,.string x4.2.2.1,.int .i64 x4.2.2.2])] ?_
  obtain⟨x10,hv11,hF⟩:=A.bd_some hF
  refine A.AH.pkl 1 7 hv11 fun ho12=>?_
  intro b14 o15 hA13
  refine A.AH.v A.pb [0,1,6] [0,1,6,7] 6 (A.mb 9 127) rfl (fun a w hf hh=>A.r_ixa (t:=T46) hv11 hA13 hf) ?_
  refine A.hq A.pb [0,1,6,7] [0,1,6,7] [] [7] (A.mb 9 255) 1 [(7,.e 0 0)] [(23,.agg #[.int .i64 x10.1,.int .i64 x10.2.1,.string x10.2.2.1,.int .i64 x10.2.2.2])] ?_
  refine A.AH.v A.pb [0,1,6,7] [0,1,6,7] 8 (A.mb 9 511) rfl (fun a w hf hh=>eqagg_neq47 (x:=(x4.1,x4.2.1,x4.2.2.1,x4.2.2.2)) (y:=(x10.1,x10.2.1,x10.2.2.1,x10.2.2.2)) (hf.eval rfl) (hf.eval rfl)) ?_
  refine A.AH.done ?_
  refine A.ex 1 ?_
  refine A.AX.cnd rfl hF (fun hb hF=>?_) (fun hb hF=>?_)
  ·refine A.xl 1 ?_
   refine A.q0 [] [] [.n] [(4,.bool false)] ?_
   refine A.dx 1 ?_
   obtain rfl:=Option.some.inj hF
   exact A.rt1 [] ⟨rfl,rfl⟩
  refine A.xl 3 ?_
  obtain⟨hc16,hF⟩:=A.gd_some hF
  refine A.q [] [] [.n,.n] [Z.R64 (y1+1)] [(13,.int .i64 (y1+1))] hc16 ?_
  refine A.AL.done ?_
  exact A.j ⟨_,Nat.lt_succ_self _,⟨(y1+1),rfl,rfl,(Z.i64_has hc16),hF⟩⟩
 refine A.xl 3 ?_
 refine A.q0 [] [] [.n] [(4,.bool true)] ?_
 refine A.dx 1 ?_
 obtain rfl:=Option.some.inj hF
 exact A.rt1 [] ⟨rfl,rfl⟩
end Go.Proofs.YtbljnlkhebiniaaGreatDoor
end
section
set_option linter.unusedVariables false
set_option linter.unusedSimpArgs false
set_option maxRecDepth 20000
set_option maxHeartbeats 8000000
set_option synthInstance.maxSize 1000000
set_option synthInstance.maxHeartbeats 400000
namespace Go.Proofs.YtbljnlkhebiniaaGreatDoor
open Go.RowKit
def F.L17_live_j1 (y20:Bool):Option Bool:=some y20
def F.L17_live:Option Bool:=(F.oper_Tell (4,7,[],(0,0,ByteArray.mk #[]),ByteArray.mk #[],0,0) (0,0,(0,0,0,0)) [((1,ByteArray.mk #[97]),2),((1,ByteArray.mk #[98]),1)] [] []).bind fun r2=>(A.gd (0≤(1:Int)∧(1:Int).toNat≤([((1,ByteArray.mk #[97]),2),((1,ByteArray.mk #[98]),1)]).length) ((F.oper_Tell (4,11,[],(41,0,ByteArray.mk #[]),ByteArray.mk #[],0,0) (0,0,(0,0,0,0)) (List.drop ((1:Int).toNat) [((1,ByteArray.mk #[97]),2),((1,ByteArray.mk #[98]),1)]) [] [(4,1,ByteArray.mk #[],5)]).bind fun r13=>(if(bif decide (r2.2.2=0)then decide (r13.2.2=0)else false)=true then((F.slices_Equal_api_Rec_api_Rec r2.1 [(1,ByteArray.mk #[51])]).bind fun r22=>(if r22=true then((F.slices_Equal_api_Rec_api_Rec r13.1 [(1,ByteArray.mk #[54])]).bind fun r25=>(if r25=true then((F.slices_Equal_api_Entry_api_Entry r13.2.1 [(4,1,ByteArray.mk #[],6)]).bind fun r28=>(F.L17_live_j1 r28))else(F.L17_live_j1 false)))else(F.L17_live_j1 false)))else(F.L17_live_j1 false))))
theorem L17_live_ok (r:Bool)(hF:F.L17_live=some r):
    A.Ct Tryz.prog 7 [] [(0,.el none 1 0 A.tabF),(1,.el none 2 0 A.tabA)] [] (fun v H'=>v=.bool r∧H'=[]):=by
 refine A.Ct.enter Tryz.func7 rfl Tryz.ntmps7 rfl fun w0 F0=>?_
 rw[F.L17_live]at hF
 refine A.xl 1 ?_
 refine A.q0 [] [] [.n] [] ?_
 refine A.dl 2 ?_
 refine A.q0 [] [] [.n,.n,.n,.n] [(9,.agg #[.int .i64 1,.string (ByteArray.mk #[97]),.int .i64 2]),(11,.agg #[.int .i64 1,.string (ByteArray.mk #[98]),.int .i64 1])] ?_
 refine A.AL.bsl 2 (ty:=T69) (cs:=[.int .i64 1,.string (ByteArray.mk #[97]),.int .i64 2,.int .i64 1,.string (ByteArray.mk #[98]),.int .i64 1]) [((1,ByteArray.mk #[97]),2),((1,ByteArray.mk #[98]),1)] ⟨⟨⟨⟨rfl,(A.hasl .i64 (1) rfl)⟩,⟨rfl,(A.szl (ByteArray.mk #[97]) rfl)⟩⟩,⟨rfl,(A.hasl .i64 (2) rfl)⟩⟩,⟨⟨⟨⟨rfl,(A.hasl .i64 (1) rfl)⟩,⟨rfl,(A.szl (ByteArray.mk #[98]) rfl)⟩⟩,⟨rfl,(A.hasl .i64 (1) rfl)⟩⟩,rfl⟩⟩ (fun g1=>?_) Tryz.zeroValue70 Tryz.sizeOf70
 refine A.q0 [] [] [.n] [(1,.slice (some ⟨g1,0,none⟩) 2 2)] ?_
 refine A.dl 2 ?_
 refine A.q0 [] [] [.n,.n,.n] [(14,.agg #[.int .i64 4,.int .i64 7,.slice none 0 0,.int .i64 0,.int .i64 0,.string (ByteArray.mk #[]),.string (ByteArray.mk #[]),.int .i64 0,.int .i64 0]),(15,.agg #[.int .i64 0,.int .i64 0,.int .i64 0,.int .i64 0,.int .i64 0,.int .i64 0]),(16,.slice (some ⟨g1,0,none⟩) 2 2)] ?_
 refine A.frz 2 [] ?_
 obtain⟨r2,hv3,hF⟩:=A.bd_some hF
 refine A.AL.call 3 [] (first:=[]) (cap:=[]) cf10 (oper_Tell_ok (4,7,[],(0,0,ByteArray.mk #[]),ByteArray.mk #[],0,0) (0,0,(0,0,0,0)) [((1,ByteArray.mk #[97]),2),((1,ByteArray.mk #[98]),1)] [] [] none 0 (some ⟨g1,0,none⟩) 2 none 0 none 0 (A.hasl .i64 (4) rfl) (A.hasl .i64 (7) rfl) (A.hasl .i64 (0) rfl) (A.hasl .i64 (0) rfl) (A.szl (ByteArray.mk #[]) rfl) (A.szl (ByteArray.mk #[]) rfl) (A.hasl .i64 (0) rfl) (A.hasl .i64 (0) rfl) (A.hasl .i64 (0) rfl) (A.hasl .i64 (0) rfl) (A.hasl .i64 (0) rfl) (A.hasl .i64 (0) rfl) (A.hasl .i64 (0) rfl) (A.hasl .i64 (0) rfl) r2 hv3) (.ns (.s 2 (.ns (.nl (.s 0 (.s 1 .nil)))))) ?_
 rintro _ _ ⟨A4,c5,A6,c7,rfl,rfl,hr8⟩
 refine⟨by kernel_rfl,?_⟩
 refine A.q0 [] [] [.n,.n,.n,.n,.n,.n,.n] [(2,.slice A4 ((r2.1).length) c5),(4,.int .i64 r2.2.2)] ?_
 refine A.dl 2 ?_
 refine A.q0 [] [] [.n,.n,.n,.n] [(23,.agg #[.int .i64 4,.int .i64 11,.slice none 0 0,.int .i64 41,.int .i64 0,.string (ByteArray.mk #[]),.string (ByteArray.mk #[]),.int .i64 0,.int .i64 0]),(24,.agg #[.int .i64 0,.int .i64 0,.int .i64 0,.int .i64 0,.int .i64 0,.int .i64 0]),(25,.slice (some ⟨g1,0,none⟩) 2 2)] ?_
 obtain⟨hc9,hF⟩:=A.gd_some hF
 refine A.AL.cutl 2 43 (u:=(1:Int).toNat) (Int.toNat_of_nonneg hc9.1).symm hc9.2 fun A10 c11=>?_
 refine A.q0 [] [] [.n] [(27,.agg #[.int .i64 4,.int .i64 1,.string (ByteArray.mk #[]),.int .i64 5])] ?_
 refine A.AL.bsl 44 (ty:=T46) (cs:=[.int .i64 4,.int .i64 1,.string (ByteArray.mk #[]),.int .i64 5]) [(4,1,ByteArray.mk #[],5)] ⟨⟨⟨rfl,(A.hasl .i64 (4) rfl)⟩,⟨rfl,(A.hasl .i64 (1) rfl)⟩,⟨rfl,(A.szl (ByteArray.mk #[]) rfl)⟩,⟨rfl,(A.hasl .i64 (5) rfl)⟩⟩,rfl⟩ (fun g12=>?_) Tryz.zeroValue47 Tryz.sizeOf47
 obtain⟨r13,hv14,hF⟩:=A.bd_some hF
 refine A.AL.call 45 [] (first:=[]) (cap:=[]) cf10 (oper_Tell_ok (4,11,[],(41,0,ByteArray.mk #[]),ByteArray.mk #[],0,0) (0,0,(0,0,0,0)) (List.drop ((1:Int).toNat) [((1,ByteArray.mk #[97]),2),((1,ByteArray.mk #[98]),1)]) [] [(4,1,ByteArray.mk #[],5)] none 0 A10 c11 none 0 (some ⟨g12,0,none⟩) 1 (A.hasl .i64 (4) rfl) (A.hasl .i64 (11) rfl) (A.hasl .i64 (41) rfl) (A.hasl .i64 (0) rfl) (A.szl (ByteArray.mk #[]) rfl) (A.szl (ByteArray.mk #[]) rfl) (A.hasl .i64 (0) rfl) (A.hasl .i64 (0) rfl) (A.hasl .i64 (0) rfl) (A.hasl .i64 (0) rfl) (A.hasl .i64 (0) rfl) (A.hasl .i64 (0) rfl) (A.hasl .i64 (0) rfl) (A.hasl .i64 (0) rfl) r13 hv14) (.ns (.s 43 (.ns (.o 44 (.s 0 (.s 1 .nil)))))) ?_
 rintro _ _ ⟨A15,c16,A17,c18,rfl,rfl,hr19⟩
 refine⟨by kernel_rfl,?_⟩
 refine A.q0 [] [] [.n,.n,.n,.n,.n,.n,.n] [(5,.slice A15 ((r13.1).length) c16),(6,.slice A17 ((r13.2.1).length) c18),(7,.int .i64 r13.2.2)] ?_
 refine A.dx 1 ?_
 refine A.AX.join [] [0,1] (fun nl nh=>∃(y20:Bool),nl=[(0,.bool y20)]∧nh=[]∧F.L17_live_j1 y20=some r) ?_ ?_
 ·refine A.xl 0 ?_
  refine A.q0 [] [] [.n,.n,.n,.sy .n,.sy .n,.pk,.n] [(39,.bool (bif decide (r2.2.2=0)then decide (r13.2.2=0)else false))] ?_
  refine A.AL.cnd (j:=39) rfl hF (fun hF=>?_) (fun hF=>?_)
  ·refine A.q0 [] [] [.on .n,.on .n] [(40,.slice A4 ((r2.1).length) c5),(41,.agg #[.int .i64 1,.string (ByteArray.mk #[51])])] ?_
   refine A.AL.on (dj:=39) rfl rfl ?_
   refine A.AL.bsl 85 (ty:=T43) (cs:=[.int .i64 1,.string (ByteArray.mk #[51])]) [(1,ByteArray.mk #[51])] ⟨⟨⟨rfl,(A.hasl .i64 (1) rfl)⟩,⟨rfl,(A.szl (ByteArray.mk #[51]) rfl)⟩⟩,rfl⟩ (fun g21=>?_) Tryz.zeroValue44 Tryz.sizeOf44
   refine A.AL.on (dj:=39) rfl rfl ?_
   obtain⟨r22,hv23,hF⟩:=A.bd_some hF
   refine A.AL.call 86 [] (first:=[]) (cap:=[]) cf12 (slices_Equal_api_Rec_api_Rec_ok r2.1 [(1,ByteArray.mk #[51])] A4 c5 (some ⟨g21,0,none⟩) 1 r22 hv23) (.l 3 (.o 85 .nil)) ?_
   rintro _ _ ⟨rfl,rfl⟩
   refine⟨by kernel_rfl,?_⟩
   refine A.q0 [] [] [.n,.n] [(45,.bool r22)] ?_
   refine A.AL.cnd (j:=45) rfl hF (fun hF=>?_) (fun hF=>?_)
   ·refine A.q0 [] [] [.on .n,.on .n] [(46,.slice A15 ((r13.1).length) c16),(47,.agg #[.int .i64 1,.string (ByteArray.mk #[54])])] ?_
    refine A.AL.on (dj:=45) rfl rfl ?_
    refine A.AL.bsl 126 (ty:=T43) (cs:=[.int .i64 1,.string (ByteArray.mk #[54])]) [(1,ByteArray.mk #[54])] ⟨⟨⟨rfl,(A.hasl .i64 (1) rfl)⟩,⟨rfl,(A.szl (ByteArray.mk #[54]) rfl)⟩⟩,rfl⟩ (fun g24=>?_) Tryz.zeroValue44 Tryz.sizeOf44
    refine A.AL.on (dj:=45) rfl rfl ?_
    obtain⟨r25,hv26,hF⟩:=A.bd_some hF
    refine A.AL.call 127 [] (first:=[]) (cap:=[]) cf12 (slices_Equal_api_Rec_api_Rec_ok r13.1 [(1,ByteArray.mk #[54])] A15 c16 (some ⟨g24,0,none⟩) 1 r25 hv26) (.l 45 (.o 126 .nil)) ?_
    rintro _ _ ⟨rfl,rfl⟩
    refine⟨by kernel_rfl,?_⟩
    refine A.q0 [] [] [.n,.n] [(51,.bool r25)] ?_
    refine A.AL.cnd (j:=51) rfl hF (fun hF=>?_) (fun hF=>?_)
    ·refine A.q0 [] [] [.on .n,.on .n] [(52,.slice A17 ((r13.2.1).length) c18),(53,.agg #[.int .i64 4,.int .i64 1,.string (ByteArray.mk #[]),.int .i64 6])] ?_
     refine A.AL.on (dj:=51) rfl rfl ?_
     refine A.AL.bsl 167 (ty:=T46) (cs:=[.int .i64 4,.int .i64 1,.string (ByteArray.mk #[]),.int .i64 6]) [(4,1,ByteArray.mk #[],6)] ⟨⟨⟨rfl,(A.hasl .i64 (4) rfl)⟩,⟨rfl,(A.hasl .i64 (1) rfl)⟩,⟨rfl,(A.szl (ByteArray.mk #[]) rfl)⟩,⟨rfl,(A.hasl .i64 (6) rfl)⟩⟩,rfl⟩ (fun g27=>?_) Tryz.zeroValue47 Tryz.sizeOf47
     refine A.AL.on (dj:=51) rfl rfl ?_
     obtain⟨r28,hv29,hF⟩:=A.bd_some hF
     refine A.AL.call 168 [] (first:=[]) (cap:=[]) cf13 (slices_Equal_api_Entry_api_Entry_ok r13.2.1 [(4,1,ByteArray.mk #[],6)] A17 c18 (some ⟨g27,0,none⟩) 1 r28 hv29) (.l 46 (.o 167 .nil)) ?_
     rintro _ _ ⟨rfl,rfl⟩
     refine⟨by kernel_rfl,?_⟩
     refine A.q0 [] [] [.n,.n] [(0,.bool r28)] ?_
     refine A.AL.done ?_
     exact A.j ⟨r28,rfl,rfl,hF⟩
    refine A.q0 [] [] [.off,.off,.off,.off,.n,.n] [(0,.bool false)] ?_
    refine A.AL.done ?_
    exact A.j ⟨false,rfl,rfl,hF⟩
   refine A.q0 [] [] [.off,.off,.off,.off,.n,.n,.off,.off,.off,.off,.n,.n] [(0,.bool false)] ?_
   refine A.AL.done ?_
   exact A.j ⟨false,rfl,rfl,hF⟩
  refine A.q0 [] [] [.off,.off,.off,.off,.n,.n,.off,.off,.off,.off,.n,.n,.off,.off,.off,.off,.n,.n] [(0,.bool false)] ?_
  refine A.AL.done ?_
  exact A.j ⟨false,rfl,rfl,hF⟩
 rintro _ _ ⟨y20,rfl,rfl,hF⟩
 rw[F.L17_live_j1]at hF
 obtain rfl:=Option.some.inj hF
 exact A.rt1 [] ⟨rfl,rfl⟩
def F.L17_few_l1 (a0:(List D43)):Nat→Int→Int→Option Bool
 |0,_,_=>none
 |f+1,y4,y6=>if y6<((List.take ((min ((a0).length:Int) 100).toNat) a0).length:Int)then((A.ix (List.take ((min ((a0).length:Int) 100).toNat) a0) y6).bind fun x9=>(A.gd (Z.R64 (y4+(min (x9.2.size:Int) 1000))) (A.gd (Z.R64 (y6+1)) ((F.L17_few_l1 a0 f) (y4+(min (x9.2.size:Int) 1000)) (y6+1)))))else(some (bif decide (((a0).length:Int)≤100)then decide (y4≤2000)else false))
def F.L17_few (a0:(List D43)):Option Bool:=A.gd (0≤min ((a0).length:Int) 100∧(min ((a0).length:Int) 100).toNat≤(a0).length) (F.L17_few_l1 a0 A.FU 0 0)
theorem L17_few_ok (a0:(List D43))(A0_:Option Addr)(c1_:Nat)(r:Bool)(hF:F.L17_few a0=some r):
    A.Ct Tryz.prog 19 [.slice A0_ ((a0).length) c1_] [(0,.sh (.slice T43) [.slice A0_ (a0).length c1_] a0)] [] (fun v H'=>v=.bool r∧H'=[]):=by
 refine A.Ct.enter Tryz.func19 rfl Tryz.ntmps19 rfl fun w0 F0=>?_
 rw[F.L17_few]at hF
 refine A.xl 1 ?_
 refine A.q0 [] [] [.n] [] ?_
 refine A.dl 2 ?_
 refine A.q0 [] [] [.n] [(3,.int .i64 0)] ?_
 refine A.dl 3 ?_
 refine A.q0 [] [] [.n,.n,.n,.n] [(6,.slice A0_ ((a0).length) c1_),(9,.int .i64 (min ((a0).length:Int) 100))] ?_
 obtain⟨hc1,hF⟩:=A.gd_some hF
 refine A.AL.cuth 0 1 (v:=(min ((a0).length:Int) 100).toNat) (Int.toNat_of_nonneg hc1.1).symm hc1.2 fun c3=>?_
 refine A.q0 [] [] [.n,.n] [(11,.int .i64 ((List.take ((min ((a0).length:Int) 100).toNat) a0).length:Int)),(12,.int .i64 0)] ?_
 refine A.dx 2 ?_
 refine A.lp_ [0,10,11] [0,1] (fun f nl nh=>∃(y4:Int),∃(y6:Int),nl=[(3,.int .i64 y4),(12,.int .i64 y6)]∧nh=[]∧IntKind.i64.has y4∧IntKind.i64.has y6∧F.L17_few_l1 a0 f y4 y6=some r) ⟨0,0,rfl,rfl,(A.hasl .i64 (0) rfl),(A.hasl .i64 (0) rfl),hF⟩ ?_
 rintro f8 _ _ ⟨y4,y6,rfl,rfl,hy5,hy7,hF⟩
 rcases f8 with _|f8
 ·exact A.no0 hF
 rw[F.L17_few_l1]at hF
 refine A.xl 1 ?_
 refine A.q0 [] [] [.n] [(13,.bool (decide (y6<((List.take ((min ((a0).length:Int) 100).toNat) a0).length:Int))))] ?_
 refine A.dx 2 ?_
 refine A.AX.cnd rfl hF (fun hb hF=>?_) (fun hb hF=>?_)
 ·refine A.xl 5 ?_
  obtain⟨x9,hv10,hF⟩:=A.bd_some hF
  refine A.AL.ixs 1 6 hv10 fun ho11=>?_
  intro b12 o13
  refine A.q0 [] [6] [.e 0 0] [(15,.agg #[.int .i64 x9.1,.string x9.2])] ?_
  refine A.AL.alloc 7 (cs:=[.int .i64 0,.string (ByteArray.mk #[])]) Tryz.zeroValue44 fun g14=>?_
  refine A.sw 7 [] [.int .i64 x9.1,.string x9.2] ?_
  refine A.dl 1 ?_
  obtain⟨hc15,hF⟩:=A.gd_some hF
  refine A.q [7] [] [.n,.n,.b 0 1,.n,.n,.n,.n] [Z.R64 (y4+(min (x9.2.size:Int) 1000))] [(3,.int .i64 (y4+(min (x9.2.size:Int) 1000)))] hc15 ?_
  refine A.dl 2 ?_
  obtain⟨hc16,hF⟩:=A.gd_some hF
  refine A.q [] [] [.n,.n] [Z.R64 (y6+1)] [(12,.int .i64 (y6+1))] hc16 ?_
  refine A.AL.done ?_
  exact A.j ⟨_,Nat.lt_succ_self _,⟨(y4+(min (x9.2.size:Int) 1000)),(y6+1),rfl,rfl,(Z.i64_has hc15),(Z.i64_has hc16),hF⟩⟩
 refine A.xl 3 ?_
 refine A.q0 [] [] [.n,.n,.n,.n,.sy .n,.sy .n,.pk,.n] [(2,.bool (bif decide (((a0).length:Int)≤100)then decide (y4≤2000)else false))] ?_
 refine A.dx 1 ?_
 obtain rfl:=Option.some.inj hF
 exact A.rt1 [] ⟨rfl,rfl⟩
def F.L17_rare_j1 (k3:Int→Option Bool)(y1:Int)(y31:Bool):Option Bool:=if y31=true then(some false)else(A.gd (Z.R64 (y1+1)) (k3 (y1+1)))
def F.L17_rare_l2 (k3:Int→Option Bool)(y1:Int)(x4:(List D69)):Nat→(List D43)→Int→Option Bool
 |0,_,_=>none
 |f+1,xs16,y17=>if y17<((List.take ((min ((x4).length:Int) 100).toNat) x4).length:Int)then((A.ix (List.take ((min ((x4).length:Int) 100).toNat) x4) y17).bind fun x20=>(A.gd ((List.length (α:=D43) xs16+List.length (α:=D43) [(x20.1.1,x20.1.2)])*24≤140737488355328) (A.gd (Z.R64 (y17+1)) ((F.L17_rare_l2 k3 y1 x4 f) (xs16++[(x20.1.1,x20.1.2)]) (y17+1)))))else(if(40:Int)<((x4).length:Int)then(F.L17_rare_j1 k3 y1 true)else((F.L17_few xs16).bind fun r33=>(F.L17_rare_j1 k3 y1 (!r33))))
def F.L17_rare_l3 (a0:(List (List D69))):Nat→Int→Option Bool
 |0,_=>none
 |f+1,y1=>if y1<((a0).length:Int)then((A.ix a0 y1).bind fun x4=>(A.gd (0≤min ((x4).length:Int) 100∧(min ((x4).length:Int) 100).toNat≤(x4).length) (F.L17_rare_l2 (F.L17_rare_l3 a0 f) y1 x4 A.FU [] 0)))else(some true)
def F.L17_rare (a0:(List (List D69))):Option Bool:=F.L17_rare_l3 a0 A.FU 0
theorem L17_rare_ok (a0:(List (List D69)))(A0_:Option Addr)(c1_:Nat)(r:Bool)(hF:F.L17_rare a0=some r):
    A.Ct Tryz.prog 8 [.slice A0_ ((a0).length) c1_] [(0,.ln (Z.Ty.slice T69) A0_ c1_ a0)] [] (fun v H'=>v=.bool r∧H'=[]):=by
 refine A.Ct.enter Tryz.func8 rfl Tryz.ntmps8 rfl fun w0 F0=>?_
 rw[F.L17_rare]at hF
 refine A.xl 1 ?_
 refine A.q0 [] [] [.n] [] ?_
 refine A.dl 3 ?_
 refine A.q0 [] [] [.n,.n,.n] [(8,.slice A0_ ((a0).length) c1_),(9,.int .i64 ((a0).length:Int)),(10,.int .i64 0)] ?_
 refine A.dx 2 ?_
 refine A.lp_ [8,9] [0] (fun f nl nh=>∃(y1:Int),nl=[(10,.int .i64 y1)]∧nh=[]∧IntKind.i64.has y1∧F.L17_rare_l3 a0 f y1=some r) ⟨0,rfl,rfl,(A.hasl .i64 (0) rfl),hF⟩ ?_
 rintro f3 _ _ ⟨y1,rfl,rfl,hy2,hF⟩
 rcases f3 with _|f3
 ·exact A.no0 hF
 rw[F.L17_rare_l3]at hF
 refine A.xl 1 ?_
 refine A.q0 [] [] [.n] [(11,.bool (decide (y1<((a0).length:Int))))] ?_
 refine A.dx 2 ?_
 refine A.AX.cnd rfl hF (fun hb hF=>?_) (fun hb hF=>?_)
 ·refine A.xl 5 ?_
  obtain⟨x4,hv5,hF⟩:=A.bd_some hF
  refine A.AL.ixl 0 355 hv5 fun ho6=>?_
  intro A7 c8 b9 o10
  refine A.q0 [] [355] [.e 0 0,.n] [(4,.slice A7 ((x4).length) c8)] ?_
  refine A.dl 2 ?_
  refine A.q0 [] [] [.n] [(5,.slice none 0 0)] ?_
  refine A.dl 3 ?_
  refine A.q0 [] [] [.n,.n,.n,.n] [(14,.slice A7 ((x4).length) c8),(17,.int .i64 (min ((x4).length:Int) 100))] ?_
  obtain⟨hc11,hF⟩:=A.gd_some hF
  refine A.AL.cuth 356 357 (v:=(min ((x4).length:Int) 100).toNat) (Int.toNat_of_nonneg hc11.1).symm hc11.2 fun c13=>?_
  refine A.q0 [] [] [.n,.n] [(19,.int .i64 ((List.take ((min ((x4).length:Int) 100).toNat) x4).length:Int)),(20,.int .i64 0)] ?_
  refine A.dx 2 ?_
  refine A.nil 402 T43 44 ?_
  refine A.lp_ [4,8,9,10,18,19] [0,356,357] (fun f nl nh=>∃(xs16:List D43),∃(y17:Int),∃(A14:Option Addr),∃(c15:Nat),nl=[(5,.slice A14 ((xs16).length) c15),(20,.int .i64 y17)]∧nh=[(402,.own T43 44 A14 c15 xs16)]∧IntKind.i64.has y17∧F.L17_rare_l2 (F.L17_rare_l3 a0 f3) y1 x4 f xs16 y17=some r) ⟨[],0,none,0,rfl,rfl,(A.hasl .i64 (0) rfl),hF⟩ ?_
  rintro f19 _ _ ⟨xs16,y17,A14,c15,rfl,rfl,hy18,hF⟩
  rcases f19 with _|f19
  ·exact A.no0 hF
  rw[F.L17_rare_l2]at hF
  refine A.xl 1 ?_
  refine A.q0 [] [] [.n] [(21,.bool (decide (y17<((List.take ((min ((x4).length:Int) 100).toNat) x4).length:Int))))] ?_
  refine A.dx 2 ?_
  refine A.AX.cnd rfl hF (fun hb hF=>?_) (fun hb hF=>?_)
  ·refine A.xl 5 ?_
   obtain⟨x20,hv21,hF⟩:=A.bd_some hF
   refine A.AL.ixs 357 489 hv21 fun ho22=>?_
   intro b23 o24
   refine A.q0 [] [489] [.e 0 0] [(23,.agg #[.int .i64 x20.1.1,.string x20.1.2,.int .i64 x20.2])] ?_
   refine A.AL.alloc 490 (cs:=[.int .i64 0,.string (ByteArray.mk #[]),.int .i64 0]) Tryz.zeroValue70 fun g25=>?_
   refine A.sw 490 [] [.int .i64 x20.1.1,.string x20.1.2,.int .i64 x20.2] ?_
   refine A.dl 1 ?_
   refine A.q0 [490] [] [.n,.n,.b 0 0] [(24,.slice A14 ((xs16).length) c15),(26,.agg #[.int .i64 x20.1.1,.string x20.1.2])] ?_
   refine A.AL.bsl 491 (ty:=T43) (cs:=[.int .i64 x20.1.1,.string x20.1.2]) [(x20.1.1,x20.1.2)] ⟨⟨⟨rfl,ho22.1.1⟩,⟨rfl,ho22.1.2⟩⟩,rfl⟩ (fun g26=>?_) Tryz.zeroValue44 Tryz.sizeOf44
   obtain⟨hl29,hF⟩:=A.gd_some hF
   refine A.AL.app (k:=402) [] (A.rowO (k:=491) rfl) inf44 hl29 fun A27 c28=>?_
   refine A.q0 [] [] [.n] [(5,.slice A27 ((xs16++[(x20.1.1,x20.1.2)]).length) c28)] ?_
   refine A.dl 2 ?_
   obtain⟨hc30,hF⟩:=A.gd_some hF
   refine A.q [] [] [.n,.n] [Z.R64 (y17+1)] [(20,.int .i64 (y17+1))] hc30 ?_
   refine A.AL.done ?_
   exact A.j ⟨_,Nat.lt_succ_self _,⟨(xs16++[(x20.1.1,x20.1.2)]),(y17+1),A27,c28,rfl,rfl,(Z.i64_has hc30),hF⟩⟩
  refine A.xx 2 ?_
  refine A.AX.join [8,9,10] [0] (fun nl nh=>∃(y31:Bool),nl=[(37,.bool y31)]∧nh=[]∧F.L17_rare_j1 (F.L17_rare_l3 a0 f3) y1 y31=some r) ?_ ?_
  ·refine A.xl 0 ?_
   refine A.q0 [] [] [.n,.n,.n,.n] [(33,.bool (decide ((40:Int)<((x4).length:Int))))] ?_
   refine A.AL.cnp (j:=33) rfl hF (fun hb hF=>?_) (fun hb hF=>?_)
   ·refine A.q0 [] [] [.off,.off,.off,.n] [(37,.bool true)] ?_
    refine A.AL.done ?_
    exact A.j ⟨true,rfl,rfl,hF⟩
   refine A.q0 [] [] [.on .n] [(34,.slice A14 ((xs16).length) c15)] ?_
   refine A.AL.on (dj:=33) rfl rfl ?_
   refine A.frz 402 [] ?_
   obtain⟨r33,hv34,hF⟩:=A.bd_some hF
   refine A.AL.call 492 [] (first:=[]) (cap:=[]) cf19 (L17_few_ok xs16 A14 c15 r33 hv34) (.s 402 .nil) ?_
   rintro _ _ ⟨rfl,rfl⟩
   refine⟨by kernel_rfl,?_⟩
   refine A.q0 [] [] [.on .n,.n] [(37,.bool (!r33))] ?_
   refine A.AL.done ?_
   exact A.j ⟨(!r33),rfl,rfl,hF⟩
  rintro _ _ ⟨y31,rfl,rfl,hF⟩
  rw[F.L17_rare_j1]at hF
  refine A.AX.cnb rfl hF (fun hb hF=>?_) (fun hb hF=>?_)
  ·refine A.xl 1 ?_
   refine A.q0 [] [] [.n] [(2,.bool false)] ?_
   refine A.dx 1 ?_
   obtain rfl:=Option.some.inj hF
   exact A.rt1 [] ⟨rfl,rfl⟩
  refine A.xl 3 ?_
  obtain⟨hc32,hF⟩:=A.gd_some hF
  refine A.q [] [] [.n,.n] [Z.R64 (y1+1)] [(10,.int .i64 (y1+1))] hc32 ?_
  refine A.AL.done ?_
  exact A.j ⟨_,Nat.lt_succ_self _,⟨(y1+1),rfl,rfl,(Z.i64_has hc32),hF⟩⟩
 refine A.xl 3 ?_
 refine A.q0 [] [] [.n] [(2,.bool true)] ?_
 refine A.dx 1 ?_
 obtain rfl:=Option.some.inj hF
 exact A.rt1 [] ⟨rfl,rfl⟩
def F.L17_thin_l1 (a0:(List D46)):Nat→Int→Int→Option Bool
 |0,_,_=>none
 |f+1,y4,y6=>if y6<((List.take ((min ((a0).length:Int) 100).toNat) a0).length:Int)then((A.ix (List.take ((min ((a0).length:Int) 100).toNat) a0) y6).bind fun x9=>(A.gd (Z.R64 (y4+(min (x9.2.2.1.size:Int) 1000))) (A.gd (Z.R64 (y6+1)) ((F.L17_thin_l1 a0 f) (y4+(min (x9.2.2.1.size:Int) 1000)) (y6+1)))))else(some (bif decide (((a0).length:Int)≤100)then decide (y4≤2000)else false))
def F.L17_thin (a0:(List D46)):Option Bool:=A.gd (0≤min ((a0).length:Int) 100∧(min ((a0).length:Int) 100).toNat≤(a0).length) (F.L17_thin_l1 a0 A.FU 0 0)
theorem L17_thin_ok (a0:(List D46))(A0_:Option Addr)(c1_:Nat)(r:Bool)(hF:F.L17_thin a0=some r):
    A.Ct Tryz.prog 9 [.slice A0_ ((a0).length) c1_] [(0,.sh (.slice T46) [.slice A0_ (a0).length c1_] a0)] [] (fun v H'=>v=.bool r∧H'=[]):=by
 refine A.Ct.enter Tryz.func9 rfl Tryz.ntmps9 rfl fun w0 F0=>?_
 rw[F.L17_thin]at hF
 refine A.xl 1 ?_
 refine A.q0 [] [] [.n] [] ?_
 refine A.dl 2 ?_
 refine A.q0 [] [] [.n] [(3,.int .i64 0)] ?_
 refine A.dl 3 ?_
 refine A.q0 [] [] [.n,.n,.n,.n] [(6,.slice A0_ ((a0).length) c1_),(9,.int .i64 (min ((a0).length:Int) 100))] ?_
 obtain⟨hc1,hF⟩:=A.gd_some hF
 refine A.AL.cuth 0 1 (v:=(min ((a0).length:Int) 100).toNat) (Int.toNat_of_nonneg hc1.1).symm hc1.2 fun c3=>?_
 refine A.q0 [] [] [.n,.n] [(11,.int .i64 ((List.take ((min ((a0).length:Int) 100).toNat) a0).length:Int)),(12,.int .i64 0)] ?_
 refine A.dx 2 ?_
 refine A.lp_ [0,10,11] [0,1] (fun f nl nh=>∃(y4:Int),∃(y6:Int),nl=[(3,.int .i64 y4),(12,.int .i64 y6)]∧nh=[]∧IntKind.i64.has y4∧IntKind.i64.has y6∧F.L17_thin_l1 a0 f y4 y6=some r) ⟨0,0,rfl,rfl,(A.hasl .i64 (0) rfl),(A.hasl .i64 (0) rfl),hF⟩ ?_
 rintro f8 _ _ ⟨y4,y6,rfl,rfl,hy5,hy7,hF⟩
 rcases f8 with _|f8
 ·exact A.no0 hF
 rw[F.L17_thin_l1]at hF
 refine A.xl 1 ?_
 refine A.q0 [] [] [.n] [(13,.bool (decide (y6<((List.take ((min ((a0).length:Int) 100).toNat) a0).length:Int))))] ?_
 refine A.dx 2 ?_
 refine A.AX.cnd rfl hF (fun hb hF=>?_) (fun hb hF=>?_)
 ·refine A.xl 5 ?_
  obtain⟨x9,hv10,hF⟩:=A.bd_some hF
  refine A.AL.ixs 1 6 hv10 fun ho11=>?_
  intro b12 o13
  refine A.q0 [] [6] [.e 0 0] [(15,.agg #[.int .i64 x9.1,.int .i64 x9.2.1,.string x9.2.2.1,.int .i64 x9.2.2.2])] ?_
  refine A.AL.alloc 7 (cs:=[.int .i64 0,.int .i64 0,.string (ByteArray.mk #[]),.int .i64 0]) Tryz.zeroValue47 fun g14=>?_
  refine A.sw 7 [] [.int .i64 x9.1,.int .i64 x9.2.1,.string x9.2.2.1,.int .i64 x9.2.2.2] ?_
  refine A.dl 1 ?_
  obtain⟨hc15,hF⟩:=A.gd_some hF
  refine A.q [7] [] [.n,.n,.b 0 2,.n,.n,.n,.n] [Z.R64 (y4+(min (x9.2.2.1.size:Int) 1000))] [(3,.int .i64 (y4+(min (x9.2.2.1.size:Int) 1000)))] hc15 ?_
  refine A.dl 2 ?_
  obtain⟨hc16,hF⟩:=A.gd_some hF
  refine A.q [] [] [.n,.n] [Z.R64 (y6+1)] [(12,.int .i64 (y6+1))] hc16 ?_
  refine A.AL.done ?_
  exact A.j ⟨_,Nat.lt_succ_self _,⟨(y4+(min (x9.2.2.1.size:Int) 1000)),(y6+1),rfl,rfl,(Z.i64_has hc15),(Z.i64_has hc16),hF⟩⟩
 refine A.xl 3 ?_
 refine A.q0 [] [] [.n,.n,.n,.n,.sy .n,.sy .n,.pk,.n] [(2,.bool (bif decide (((a0).length:Int)≤100)then decide (y4≤2000)else false))] ?_
 refine A.dx 1 ?_
 obtain rfl:=Option.some.inj hF
 exact A.rt1 [] ⟨rfl,rfl⟩
def F.R06_number_j1 (a0:D23)(y3:Bool):Option Bool:=if y3=true then(some (bif decide ((1:Int)≤a0.2.1)then decide (a0.2.1≤1048576)else false))else(some (decide (a0.2.1=0)))
def F.R06_number_j2 (a0:D23)(y2:Bool):Option Bool:=if y2=true then(some (bif decide ((0:Int)≤a0.2.1)then decide (a0.2.1≤64)else false))else(if a0.1=6 then(F.R06_number_j1 a0 (decide (a0.1=6)))else(F.R06_number_j1 a0 (decide (a0.1=11))))
def F.R06_number (a0:D23):Option Bool:=if a0.1=3 then(F.R06_number_j2 a0 (decide (a0.1=3)))else(F.R06_number_j2 a0 (decide (a0.1=13)))
theorem R06_number_ok (a0:D23)(h0_:IntKind.i64.has a0.1)(h1_:IntKind.i64.has a0.2.1)(h2_:a0.2.2.size≤maxLen)(r:Bool)(hF:F.R06_number a0=some r):
    A.Ct Tryz.prog 72 [.agg #[.int .i64 a0.1,.int .i64 a0.2.1,.string a0.2.2]] [] [] (fun v H'=>v=.bool r∧H'=[]):=by
 refine A.Ct.enter Tryz.func72 rfl Tryz.ntmps72 rfl fun w0 F0=>?_
 rw[F.R06_number]at hF
 refine A.xl 1 ?_
 refine A.AL.box 0 (cs:=[.int .i64 a0.1,.int .i64 a0.2.1,.string a0.2.2]) fun g1=>?_
 refine A.q0 [] [] [.n] [] ?_
 refine A.dl 2 ?_
 refine A.q0 [0] [] [.n,.b 0 0] [(4,.int .i64 a0.1)] ?_
 refine A.dx 2 ?_
 refine A.AX.join [1,4] [0] (fun nl nh=>∃(y2:Bool),nl=[(8,.bool y2)]∧nh=[]∧F.R06_number_j2 a0 y2=some r) ?_ ?_
 ·refine A.xl 1 ?_
  refine A.q0 [] [] [.n,.n] [(8,.bool (decide (a0.1=3)))] ?_
  refine A.dx 1 ?_
  refine A.AX.cnd rfl hF (fun hb hF=>?_) (fun hb hF=>?_)
  ·refine A.xe 1 ?_
   exact A.j ⟨(decide (a0.1=3)),rfl,rfl,hF⟩
  refine A.xl 0 ?_
  refine A.q0 [] [] [.n,.n] [(8,.bool (decide (a0.1=13)))] ?_
  refine A.AL.done ?_
  exact A.j ⟨(decide (a0.1=13)),rfl,rfl,hF⟩
 rintro _ _ ⟨y2,rfl,rfl,hF⟩
 rw[F.R06_number_j2]at hF
 refine A.AX.cnb rfl hF (fun hb hF=>?_) (fun hb hF=>?_)
 ·refine A.xl 1 ?_
  refine A.q0 [0] [] [.n,.b 0 1,.n,.n,.sy .n,.sy (.b 0 1),.sy .n,.pk,.n] [(2,.bool (bif decide ((0:Int)≤a0.2.1)then decide (a0.2.1≤64)else false))] ?_
  refine A.dx 1 ?_
  obtain rfl:=Option.some.inj hF
  exact A.rt1 [] ⟨rfl,rfl⟩
 refine A.AX.join [1] [0] (fun nl nh=>∃(y3:Bool),nl=[(19,.bool y3)]∧nh=[]∧F.R06_number_j1 a0 y3=some r) ?_ ?_
 ·refine A.xl 1 ?_
  refine A.q0 [] [] [.n,.n] [(19,.bool (decide (a0.1=6)))] ?_
  refine A.dx 1 ?_
  refine A.AX.cnd rfl hF (fun hb hF=>?_) (fun hb hF=>?_)
  ·refine A.xe 1 ?_
   exact A.j ⟨(decide (a0.1=6)),rfl,rfl,hF⟩
  refine A.xl 0 ?_
  refine A.q0 [] [] [.n,.n] [(19,.bool (decide (a0.1=11)))] ?_
  refine A.AL.done ?_
  exact A.j ⟨(decide (a0.1=11)),rfl,rfl,hF⟩
 rintro _ _ ⟨y3,rfl,rfl,hF⟩
 rw[F.R06_number_j1]at hF
 refine A.AX.cnb rfl hF (fun hb hF=>?_) (fun hb hF=>?_)
 ·refine A.xl 1 ?_
  refine A.q0 [0] [] [.n,.b 0 1,.n,.n,.sy .n,.sy (.b 0 1),.sy .n,.pk,.n] [(2,.bool (bif decide ((1:Int)≤a0.2.1)then decide (a0.2.1≤1048576)else false))] ?_
  refine A.dx 1 ?_
  obtain rfl:=Option.some.inj hF
  exact A.rt1 [] ⟨rfl,rfl⟩
 refine A.xl 1 ?_
 refine A.q0 [0] [] [.n,.b 0 1,.n,.n] [(2,.bool (decide (a0.2.1=0)))] ?_
 refine A.dx 1 ?_
 obtain rfl:=Option.some.inj hF
 exact A.rt1 [] ⟨rfl,rfl⟩
def F.R05_tail (a0:UInt8):Option Bool:=some (bif decide ((128:Int)≤(a0.toNat:Int))then decide ((a0.toNat:Int)≤191)else false)
theorem R05_tail_ok (a0:UInt8)(r:Bool)(hF:F.R05_tail a0=some r):
    A.Ct Tryz.prog 134 [.int .u8 (a0.toNat:Int)] [] [] (fun v H'=>v=.bool r∧H'=[]):=by
 refine A.Ct.enter Tryz.func134 rfl Tryz.ntmps134 rfl fun w0 F0=>?_
 rw[F.R05_tail]at hF
 refine A.xl 1 ?_
 refine A.q0 [] [] [.n] [] ?_
 refine A.dl 2 ?_
 refine A.q0 [] [] [.n,.n,.n,.sy .n,.sy .n,.pk,.n] [(2,.bool (bif decide ((128:Int)≤(a0.toNat:Int))then decide ((a0.toNat:Int)≤191)else false))] ?_
 refine A.dx 1 ?_
 obtain rfl:=Option.some.inj hF
 exact A.rt1 [] ⟨rfl,rfl⟩
end Go.Proofs.YtbljnlkhebiniaaGreatDoor
end
section
set_option linter.unusedVariables false
set_option linter.unusedSimpArgs false
set_option maxRecDepth 20000
set_option maxHeartbeats 8000000
set_option synthInstance.maxSize 1000000
set_option synthInstance.maxHeartbeats 400000
namespace Go.Proofs.YtbljnlkhebiniaaGreatDoor
open Go.RowKit
def F.R05_width_j1 (x2:UInt8)(y4:UInt8)(y7:Bool):Option Int:=if y7=true then(if(bif decide ((x2.toNat:Int)=240)then decide ((y4.toNat:Int)<144)else false)=true then(some 0)else(if(bif decide ((x2.toNat:Int)=244)then decide ((143:Int)<(y4.toNat:Int))else false)=true then(some 0)else(some 4)))else(some 0)
def F.R05_width_j2 (a0:ByteArray)(a1:Int)(x2:UInt8)(y4:UInt8)(y6:Bool):Option Int:=if y6=true then(if(bif decide ((x2.toNat:Int)=224)then decide ((y4.toNat:Int)<160)else false)=true then(some 0)else(if(bif decide ((x2.toNat:Int)=237)then decide ((159:Int)<(y4.toNat:Int))else false)=true then(some 0)else(some 3)))else(if(bif bif decide ((240:Int)≤(x2.toNat:Int))then decide ((x2.toNat:Int)≤244)else false then decide ((4:Int)≤(a0.size:Int)-a1)else false)=true then((F.R05_tail y4).bind fun r8=>(if r8=true then(A.gd (Z.R64 (a1+2)) ((A.ix a0.data.toList (a1+2)).bind fun x11=>((F.R05_tail x11).bind fun r13=>(if r13=true then(A.gd (Z.R64 (a1+3)) ((A.ix a0.data.toList (a1+3)).bind fun x16=>((F.R05_tail x16).bind fun r18=>(F.R05_width_j1 x2 y4 r18))))else(F.R05_width_j1 x2 y4 false)))))else(F.R05_width_j1 x2 y4 false)))else(F.R05_width_j1 x2 y4 false))
def F.R05_width_j3 (a0:ByteArray)(a1:Int)(x2:UInt8)(y4:UInt8)(y5:Bool):Option Int:=if y5=true then(some 2)else(if(bif bif decide ((224:Int)≤(x2.toNat:Int))then decide ((x2.toNat:Int)≤239)else false then decide ((3:Int)≤(a0.size:Int)-a1)else false)=true then((F.R05_tail y4).bind fun r20=>(if r20=true then(A.gd (Z.R64 (a1+2)) ((A.ix a0.data.toList (a1+2)).bind fun x23=>((F.R05_tail x23).bind fun r25=>(F.R05_width_j2 a0 a1 x2 y4 r25))))else(F.R05_width_j2 a0 a1 x2 y4 false)))else(F.R05_width_j2 a0 a1 x2 y4 false))
def F.R05_width_j4 (a0:ByteArray)(a1:Int)(x2:UInt8)(y4:UInt8):Option Int:=if(x2.toNat:Int)<128 then(some 1)else(if(bif bif decide ((194:Int)≤(x2.toNat:Int))then decide ((x2.toNat:Int)≤223)else false then decide ((2:Int)≤(a0.size:Int)-a1)else false)=true then((F.R05_tail y4).bind fun r27=>(F.R05_width_j3 a0 a1 x2 y4 r27))else(F.R05_width_j3 a0 a1 x2 y4 false))
def F.R05_width (a0:ByteArray)(a1:Int):Option Int:=A.gd (Z.R64 ((a0.size:Int)-a1)) ((A.ix a0.data.toList a1).bind fun x2=>(if(1:Int)<(a0.size:Int)-a1 then(A.gd (Z.R64 (a1+1)) ((A.ix a0.data.toList (a1+1)).bind fun x30=>(F.R05_width_j4 a0 a1 x2 x30)))else(F.R05_width_j4 a0 a1 x2 (0:UInt8))))
theorem R05_width_ok (a0:ByteArray)(a1:Int)(h0_:a0.size≤maxLen)(h1_:IntKind.i64.has a1)(r:Int)(hF:F.R05_width a0 a1=some r):
    A.Ct Tryz.prog 95 [.string a0,.int .i64 a1] [] [] (fun v H'=>v=.int .i64 r∧H'=[]∧IntKind.i64.has r):=by
 refine A.Ct.enter Tryz.func95 rfl Tryz.ntmps95 rfl fun w0 F0=>?_
 rw[F.R05_width]at hF
 refine A.xl 1 ?_
 refine A.q0 [] [] [.n] [] ?_
 refine A.dl 2 ?_
 obtain⟨hc1,hF⟩:=A.gd_some hF
 refine A.q [] [] [.n,.n,.n,.n,.n] [Z.R64 ((a0.size:Int)-a1)] [(5,.int .i64 ((a0.size:Int)-a1))] hc1 ?_
 refine A.dl 2 ?_
 refine A.q0 [] [] [.n,.n] [(12,.string a0),(13,.int .i64 a1)] ?_
 obtain⟨x2,hv3,hF⟩:=A.bd_some hF
 refine A.AL.ixt hv3 ?_
 refine A.q0 [] [] [.n] [(6,.int .u8 (x2.toNat:Int))] ?_
 refine A.dl 2 ?_
 refine A.q0 [] [] [.n] [(7,.int .u8 0)] ?_
 refine A.dx 1 ?_
 refine A.AX.join [0,1,5,6] [] (fun nl nh=>∃(y4:UInt8),nl=[(7,.int .u8 (y4.toNat:Int))]∧nh=[]∧F.R05_width_j4 a0 a1 x2 y4=some r) ?_ ?_
 ·refine A.xl 1 ?_
  refine A.q0 [] [] [.n,.n] [(16,.bool (decide ((1:Int)<(a0.size:Int)-a1)))] ?_
  refine A.dx 1 ?_
  refine A.AX.cnd rfl hF (fun hb hF=>?_) (fun hb hF=>?_)
  ·refine A.xl 0 ?_
   obtain⟨hc29,hF⟩:=A.gd_some hF
   refine A.q [] [] [.n,.n,.n] [Z.R64 (a1+1)] [(17,.string a0),(19,.int .i64 (a1+1))] hc29 ?_
   obtain⟨x30,hv31,hF⟩:=A.bd_some hF
   refine A.AL.ixt hv31 ?_
   refine A.q0 [] [] [.n] [(7,.int .u8 (x30.toNat:Int))] ?_
   refine A.AL.done ?_
   exact A.j ⟨x30,rfl,rfl,hF⟩
  refine A.xe 1 ?_
  exact A.j ⟨(0:UInt8),rfl,rfl,hF⟩
 rintro _ _ ⟨y4,rfl,rfl,hF⟩
 rw[F.R05_width_j4]at hF
 refine A.xl 2 ?_
 refine A.q0 [] [] [.n,.n,.n] [(21,.bool (decide ((x2.toNat:Int)<128)))] ?_
 refine A.dx 1 ?_
 refine A.AX.cnd rfl hF (fun hb hF=>?_) (fun hb hF=>?_)
 ·refine A.xl 1 ?_
  refine A.q0 [] [] [.n] [(4,.int .i64 1)] ?_
  refine A.dx 1 ?_
  obtain rfl:=Option.some.inj hF
  exact A.rt1 [] ⟨rfl,rfl,(A.hasl .i64 (1) rfl)⟩
 refine A.AX.join [0,1,5,6,7] [] (fun nl nh=>∃(y5:Bool),nl=[(24,.bool y5)]∧nh=[]∧F.R05_width_j3 a0 a1 x2 y4 y5=some r) ?_ ?_
 ·refine A.xl 0 ?_
  refine A.q0 [] [] [.n,.n,.n,.sy .n,.sy .n,.pk,.n,.sy .n,.sy .n,.pk,.n] [(35,.bool (bif bif decide ((194:Int)≤(x2.toNat:Int))then decide ((x2.toNat:Int)≤223)else false then decide ((2:Int)≤(a0.size:Int)-a1)else false))] ?_
  refine A.AL.cnd (j:=35) rfl hF (fun hF=>?_) (fun hF=>?_)
  ·refine A.q0 [] [] [.on .n] [(36,.int .u8 (y4.toNat:Int))] ?_
   refine A.AL.on (dj:=35) rfl rfl ?_
   obtain⟨r27,hv28,hF⟩:=A.bd_some hF
   refine A.AL.call 0 [] (first:=[]) (cap:=[]) cf134 (R05_tail_ok y4 r27 hv28) .nil ?_
   rintro _ _ ⟨rfl,rfl⟩
   refine⟨by kernel_rfl,?_⟩
   refine A.q0 [] [] [.n,.n] [(24,.bool r27)] ?_
   refine A.AL.done ?_
   exact A.j ⟨r27,rfl,rfl,hF⟩
  refine A.q0 [] [] [.off,.off,.n,.n] [(24,.bool false)] ?_
  refine A.AL.done ?_
  exact A.j ⟨false,rfl,rfl,hF⟩
 rintro _ _ ⟨y5,rfl,rfl,hF⟩
 rw[F.R05_width_j3]at hF
 refine A.AX.cnb rfl hF (fun hb hF=>?_) (fun hb hF=>?_)
 ·refine A.xl 1 ?_
  refine A.q0 [] [] [.n] [(4,.int .i64 2)] ?_
  refine A.dx 1 ?_
  obtain rfl:=Option.some.inj hF
  exact A.rt1 [] ⟨rfl,rfl,(A.hasl .i64 (2) rfl)⟩
 refine A.AX.join [0,1,5,6,7] [] (fun nl nh=>∃(y6:Bool),nl=[(39,.bool y6)]∧nh=[]∧F.R05_width_j2 a0 a1 x2 y4 y6=some r) ?_ ?_
 ·refine A.xl 0 ?_
  refine A.q0 [] [] [.n,.n,.n,.sy .n,.sy .n,.pk,.n,.sy .n,.sy .n,.pk,.n] [(50,.bool (bif bif decide ((224:Int)≤(x2.toNat:Int))then decide ((x2.toNat:Int)≤239)else false then decide ((3:Int)≤(a0.size:Int)-a1)else false))] ?_
  refine A.AL.cnd (j:=50) rfl hF (fun hF=>?_) (fun hF=>?_)
  ·refine A.q0 [] [] [.on .n] [(51,.int .u8 (y4.toNat:Int))] ?_
   refine A.AL.on (dj:=50) rfl rfl ?_
   obtain⟨r20,hv21,hF⟩:=A.bd_some hF
   refine A.AL.call 40 [] (first:=[]) (cap:=[]) cf134 (R05_tail_ok y4 r20 hv21) .nil ?_
   rintro _ _ ⟨rfl,rfl⟩
   refine⟨by kernel_rfl,?_⟩
   refine A.q0 [] [] [.n,.n] [(54,.bool r20)] ?_
   refine A.AL.cnd (j:=54) rfl hF (fun hF=>?_) (fun hF=>?_)
   ·obtain⟨hc22,hF⟩:=A.gd_some hF
    refine A.q [] [] [.on .n,.on .n,.on .n] [Z.R64 (a1+2)] [(55,.string a0),(57,.int .i64 (a1+2))] hc22 ?_
    refine A.AL.on (dj:=54) rfl rfl ?_
    obtain⟨x23,hv24,hF⟩:=A.bd_some hF
    refine A.AL.ixt hv24 ?_
    refine A.AL.on (dj:=54) rfl rfl ?_
    obtain⟨r25,hv26,hF⟩:=A.bd_some hF
    refine A.AL.call 80 [] (first:=[]) (cap:=[]) cf134 (R05_tail_ok x23 r25 hv26) .nil ?_
    rintro _ _ ⟨rfl,rfl⟩
    refine⟨by kernel_rfl,?_⟩
    refine A.q0 [] [] [.n,.n] [(39,.bool r25)] ?_
    refine A.AL.done ?_
    exact A.j ⟨r25,rfl,rfl,hF⟩
   refine A.q0 [] [] [.off,.off,.off,.off,.off,.n,.n] [(39,.bool false)] ?_
   refine A.AL.done ?_
   exact A.j ⟨false,rfl,rfl,hF⟩
  refine A.q0 [] [] [.off,.off,.n,.n,.off,.off,.off,.off,.off,.n,.n] [(39,.bool false)] ?_
  refine A.AL.done ?_
  exact A.j ⟨false,rfl,rfl,hF⟩
 rintro _ _ ⟨y6,rfl,rfl,hF⟩
 rw[F.R05_width_j2]at hF
 refine A.AX.cnb rfl hF (fun hb hF=>?_) (fun hb hF=>?_)
 ·refine A.xl 2 ?_
  refine A.q0 [] [] [.n,.n,.n,.sy .n,.sy .n,.pk,.n] [(67,.bool (bif decide ((x2.toNat:Int)=224)then decide ((y4.toNat:Int)<160)else false))] ?_
  refine A.AL.cnd (j:=67) rfl hF (fun hF=>?_) (fun hF=>?_)
  ·refine A.q0 [] [] [.off,.off,.off,.off,.off,.off,.n] [(74,.bool true)] ?_
   refine A.dx 1 ?_
   refine A.AX.cnt rfl ?_
   refine A.xl 1 ?_
   refine A.q0 [] [] [.n] [(4,.int .i64 0)] ?_
   refine A.dx 1 ?_
   obtain rfl:=Option.some.inj hF
   exact A.rt1 [] ⟨rfl,rfl,(A.hasl .i64 (0) rfl)⟩
  refine A.q0 [] [] [.on .n,.on .n,.on .n,.sy .n,.sy .n,.on .pk,.n] [(74,.bool (bif decide ((x2.toNat:Int)=237)then decide ((159:Int)<(y4.toNat:Int))else false))] ?_
  refine A.dx 1 ?_
  refine A.AX.cnb rfl hF (fun hb hF=>?_) (fun hb hF=>?_)
  ·refine A.xl 1 ?_
   refine A.q0 [] [] [.n] [(4,.int .i64 0)] ?_
   refine A.dx 1 ?_
   obtain rfl:=Option.some.inj hF
   exact A.rt1 [] ⟨rfl,rfl,(A.hasl .i64 (0) rfl)⟩
  refine A.xl 3 ?_
  refine A.q0 [] [] [.n] [(4,.int .i64 3)] ?_
  refine A.dx 1 ?_
  obtain rfl:=Option.some.inj hF
  exact A.rt1 [] ⟨rfl,rfl,(A.hasl .i64 (3) rfl)⟩
 refine A.AX.join [6,7] [] (fun nl nh=>∃(y7:Bool),nl=[(75,.bool y7)]∧nh=[]∧F.R05_width_j1 x2 y4 y7=some r) ?_ ?_
 ·refine A.xl 0 ?_
  refine A.q0 [] [] [.n,.n,.n,.sy .n,.sy .n,.pk,.n,.sy .n,.sy .n,.pk,.n] [(86,.bool (bif bif decide ((240:Int)≤(x2.toNat:Int))then decide ((x2.toNat:Int)≤244)else false then decide ((4:Int)≤(a0.size:Int)-a1)else false))] ?_
  refine A.AL.cnd (j:=86) rfl hF (fun hF=>?_) (fun hF=>?_)
  ·refine A.q0 [] [] [.on .n] [(87,.int .u8 (y4.toNat:Int))] ?_
   refine A.AL.on (dj:=86) rfl rfl ?_
   obtain⟨r8,hv9,hF⟩:=A.bd_some hF
   refine A.AL.call 120 [] (first:=[]) (cap:=[]) cf134 (R05_tail_ok y4 r8 hv9) .nil ?_
   rintro _ _ ⟨rfl,rfl⟩
   refine⟨by kernel_rfl,?_⟩
   refine A.q0 [] [] [.n,.n] [(90,.bool r8)] ?_
   refine A.AL.cnd (j:=90) rfl hF (fun hF=>?_) (fun hF=>?_)
   ·obtain⟨hc10,hF⟩:=A.gd_some hF
    refine A.q [] [] [.on .n,.on .n,.on .n] [Z.R64 (a1+2)] [(91,.string a0),(93,.int .i64 (a1+2))] hc10 ?_
    refine A.AL.on (dj:=90) rfl rfl ?_
    obtain⟨x11,hv12,hF⟩:=A.bd_some hF
    refine A.AL.ixt hv12 ?_
    refine A.AL.on (dj:=90) rfl rfl ?_
    obtain⟨r13,hv14,hF⟩:=A.bd_some hF
    refine A.AL.call 160 [] (first:=[]) (cap:=[]) cf134 (R05_tail_ok x11 r13 hv14) .nil ?_
    rintro _ _ ⟨rfl,rfl⟩
    refine⟨by kernel_rfl,?_⟩
    refine A.q0 [] [] [.n,.n] [(97,.bool r13)] ?_
    refine A.AL.cnd (j:=97) rfl hF (fun hF=>?_) (fun hF=>?_)
    ·obtain⟨hc15,hF⟩:=A.gd_some hF
     refine A.q [] [] [.on .n,.on .n,.on .n] [Z.R64 (a1+3)] [(98,.string a0),(100,.int .i64 (a1+3))] hc15 ?_
     refine A.AL.on (dj:=97) rfl rfl ?_
     obtain⟨x16,hv17,hF⟩:=A.bd_some hF
     refine A.AL.ixt hv17 ?_
     refine A.AL.on (dj:=97) rfl rfl ?_
     obtain⟨r18,hv19,hF⟩:=A.bd_some hF
     refine A.AL.call 200 [] (first:=[]) (cap:=[]) cf134 (R05_tail_ok x16 r18 hv19) .nil ?_
     rintro _ _ ⟨rfl,rfl⟩
     refine⟨by kernel_rfl,?_⟩
     refine A.q0 [] [] [.n,.n] [(75,.bool r18)] ?_
     refine A.AL.done ?_
     exact A.j ⟨r18,rfl,rfl,hF⟩
    refine A.q0 [] [] [.off,.off,.off,.off,.off,.n,.n] [(75,.bool false)] ?_
    refine A.AL.done ?_
    exact A.j ⟨false,rfl,rfl,hF⟩
   refine A.q0 [] [] [.off,.off,.off,.off,.off,.n,.n,.off,.off,.off,.off,.off,.n,.n] [(75,.bool false)] ?_
   refine A.AL.done ?_
   exact A.j ⟨false,rfl,rfl,hF⟩
  refine A.q0 [] [] [.off,.off,.n,.n,.off,.off,.off,.off,.off,.n,.n,.off,.off,.off,.off,.off,.n,.n] [(75,.bool false)] ?_
  refine A.AL.done ?_
  exact A.j ⟨false,rfl,rfl,hF⟩
 rintro _ _ ⟨y7,rfl,rfl,hF⟩
 rw[F.R05_width_j1]at hF
 refine A.AX.cnb rfl hF (fun hb hF=>?_) (fun hb hF=>?_)
 ·refine A.xl 2 ?_
  refine A.q0 [] [] [.n,.n,.n,.sy .n,.sy .n,.pk,.n] [(110,.bool (bif decide ((x2.toNat:Int)=240)then decide ((y4.toNat:Int)<144)else false))] ?_
  refine A.AL.cnd (j:=110) rfl hF (fun hF=>?_) (fun hF=>?_)
  ·refine A.q0 [] [] [.off,.off,.off,.off,.off,.off,.n] [(117,.bool true)] ?_
   refine A.dx 1 ?_
   refine A.AX.cnt rfl ?_
   refine A.xl 1 ?_
   refine A.q0 [] [] [.n] [(4,.int .i64 0)] ?_
   refine A.dx 1 ?_
   obtain rfl:=Option.some.inj hF
   exact A.rt1 [] ⟨rfl,rfl,(A.hasl .i64 (0) rfl)⟩
  refine A.q0 [] [] [.on .n,.on .n,.on .n,.sy .n,.sy .n,.on .pk,.n] [(117,.bool (bif decide ((x2.toNat:Int)=244)then decide ((143:Int)<(y4.toNat:Int))else false))] ?_
  refine A.dx 1 ?_
  refine A.AX.cnb rfl hF (fun hb hF=>?_) (fun hb hF=>?_)
  ·refine A.xl 1 ?_
   refine A.q0 [] [] [.n] [(4,.int .i64 0)] ?_
   refine A.dx 1 ?_
   obtain rfl:=Option.some.inj hF
   exact A.rt1 [] ⟨rfl,rfl,(A.hasl .i64 (0) rfl)⟩
  refine A.xl 3 ?_
  refine A.q0 [] [] [.n] [(4,.int .i64 4)] ?_
  refine A.dx 1 ?_
  obtain rfl:=Option.some.inj hF
  exact A.rt1 [] ⟨rfl,rfl,(A.hasl .i64 (4) rfl)⟩
 refine A.xl 1 ?_
 refine A.q0 [] [] [.n] [(4,.int .i64 0)] ?_
 refine A.dx 1 ?_
 obtain rfl:=Option.some.inj hF
 exact A.rt1 [] ⟨rfl,rfl,(A.hasl .i64 (0) rfl)⟩
def F.R05_Valid_l1 (a0:ByteArray):Nat→Int→Option Bool
 |0,_=>none
 |f+1,y1=>if y1<(a0.size:Int)then((F.R05_width a0 y1).bind fun r4=>(if r4=0 then(some false)else(A.gd (Z.R64 (y1+r4)) ((F.R05_Valid_l1 a0 f) (y1+r4)))))else(some true)
def F.R05_Valid (a0:ByteArray):Option Bool:=F.R05_Valid_l1 a0 A.FU 0
theorem R05_Valid_ok (a0:ByteArray)(h0_:a0.size≤maxLen)(r:Bool)(hF:F.R05_Valid a0=some r):
    A.Ct Tryz.prog 56 [.string a0] [] [] (fun v H'=>v=.bool r∧H'=[]):=by
 refine A.Ct.enter Tryz.func56 rfl Tryz.ntmps56 rfl fun w0 F0=>?_
 rw[F.R05_Valid]at hF
 refine A.xl 1 ?_
 refine A.q0 [] [] [.n] [] ?_
 refine A.dl 3 ?_
 refine A.q0 [] [] [.n] [(3,.int .i64 0)] ?_
 refine A.dx 2 ?_
 refine A.lp_ [0] [] (fun f nl nh=>∃(y1:Int),nl=[(3,.int .i64 y1)]∧nh=[]∧IntKind.i64.has y1∧F.R05_Valid_l1 a0 f y1=some r) ⟨0,rfl,rfl,(A.hasl .i64 (0) rfl),hF⟩ ?_
 rintro f3 _ _ ⟨y1,rfl,rfl,hy2,hF⟩
 rcases f3 with _|f3
 ·exact A.no0 hF
 rw[F.R05_Valid_l1]at hF
 refine A.xl 2 ?_
 refine A.q0 [] [] [.n,.n,.n,.n] [(8,.bool (decide (y1<(a0.size:Int))))] ?_
 refine A.dx 1 ?_
 refine A.AX.cnd rfl hF (fun hb hF=>?_) (fun hb hF=>?_)
 ·refine A.xl 4 ?_
  refine A.q0 [] [] [.n,.n] [(9,.string a0),(10,.int .i64 y1)] ?_
  obtain⟨r4,hv5,hF⟩:=A.bd_some hF
  refine A.AL.call 80 [] (first:=[]) (cap:=[]) cf95 (R05_width_ok a0 y1 h0_ hy2 r4 hv5) .nil ?_
  rintro _ _ ⟨rfl,rfl,hr6⟩
  refine⟨by kernel_rfl,?_⟩
  refine A.q0 [] [] [.n] [(4,.int .i64 r4)] ?_
  refine A.dl 3 ?_
  refine A.q0 [] [] [.n,.n] [(13,.bool (decide (r4=0)))] ?_
  refine A.dx 1 ?_
  refine A.AX.cnd rfl hF (fun hb hF=>?_) (fun hb hF=>?_)
  ·refine A.xl 1 ?_
   refine A.q0 [] [] [.n] [(2,.bool false)] ?_
   refine A.dx 1 ?_
   obtain rfl:=Option.some.inj hF
   exact A.rt1 [] ⟨rfl,rfl⟩
  refine A.xl 2 ?_
  obtain⟨hc7,hF⟩:=A.gd_some hF
  refine A.q [] [] [.n,.n,.n,.n] [Z.R64 (y1+r4)] [(3,.int .i64 (y1+r4))] hc7 ?_
  refine A.de 1 ?_
  exact A.j ⟨_,Nat.lt_succ_self _,⟨(y1+r4),rfl,rfl,(Z.i64_has hc7),hF⟩⟩
 refine A.xl 3 ?_
 refine A.q0 [] [] [.n] [(2,.bool true)] ?_
 refine A.dx 1 ?_
 obtain rfl:=Option.some.inj hF
 exact A.rt1 [] ⟨rfl,rfl⟩
def F.R05_Runes_j1 (k1:(List D174)→Int→Option (List D174))(xs3:List D174)(y4:Int)(y10:Int)(y12:Int):Option (List D174):=A.gd ((List.length (α:=D174) xs3+List.length (α:=D174) [(y4,y12)])*16≤140737488355328) (A.gd (Z.R64 (y4+y10)) (k1 (xs3++[(y4,y12)]) (y4+y10)))
def F.R05_Runes_l2 (a0:ByteArray):Nat→(List D174)→Int→Option (List D174)
 |0,_,_=>none
 |f+1,xs3,y4=>if y4<(a0.size:Int)then((F.R05_width a0 y4).bind fun r7=>(if r7=1 then((A.ix a0.data.toList y4).bind fun x19=>(F.R05_Runes_j1 (F.R05_Runes_l2 a0 f) xs3 y4 r7 (IntKind.i32.wrap ((x19.toNat:Int)))))else(if r7=2 then(A.gd (Z.R64 (y4+1)) ((A.ix a0.data.toList y4).bind fun x22=>(A.gd ((32:Int)≠0) ((A.ix a0.data.toList (y4+1)).bind fun x25=>(A.gd ((64:Int)≠0) (F.R05_Runes_j1 (F.R05_Runes_l2 a0 f) xs3 y4 r7 (IntKind.i32.wrap ((IntKind.i32.wrap ((IntKind.i32.wrap (Int.tmod (x22.toNat:Int) 32))*64))+(IntKind.i32.wrap (Int.tmod (x25.toNat:Int) 64))))))))))else(if r7=3 then(A.gd (Z.R64 (y4+1)∧Z.R64 (y4+2)) ((A.ix a0.data.toList y4).bind fun x29=>(A.gd ((16:Int)≠0) ((A.ix a0.data.toList (y4+1)).bind fun x32=>(A.gd ((64:Int)≠0) ((A.ix a0.data.toList (y4+2)).bind fun x35=>(A.gd ((64:Int)≠0) (F.R05_Runes_j1 (F.R05_Runes_l2 a0 f) xs3 y4 r7 (IntKind.i32.wrap ((IntKind.i32.wrap ((IntKind.i32.wrap ((IntKind.i32.wrap ((IntKind.i32.wrap (Int.tmod (x29.toNat:Int) 16))*64))+(IntKind.i32.wrap (Int.tmod (x32.toNat:Int) 64))))*64))+(IntKind.i32.wrap (Int.tmod (x35.toNat:Int) 64))))))))))))else(if r7=4 then(A.gd (Z.R64 (y4+1)∧Z.R64 (y4+2)∧Z.R64 (y4+3)) ((A.ix a0.data.toList y4).bind fun x39=>(A.gd ((8:Int)≠0) ((A.ix a0.data.toList (y4+1)).bind fun x42=>(A.gd ((64:Int)≠0) ((A.ix a0.data.toList (y4+2)).bind fun x45=>(A.gd ((64:Int)≠0) ((A.ix a0.data.toList (y4+3)).bind fun x48=>(A.gd ((64:Int)≠0) (F.R05_Runes_j1 (F.R05_Runes_l2 a0 f) xs3 y4 r7 (IntKind.i32.wrap ((IntKind.i32.wrap ((IntKind.i32.wrap ((IntKind.i32.wrap ((IntKind.i32.wrap ((IntKind.i32.wrap ((IntKind.i32.wrap (Int.tmod (x39.toNat:Int) 8))*64))+(IntKind.i32.wrap (Int.tmod (x42.toNat:Int) 64))))*64))+(IntKind.i32.wrap (Int.tmod (x45.toNat:Int) 64))))*64))+(IntKind.i32.wrap (Int.tmod (x48.toNat:Int) 64))))))))))))))else(F.R05_Runes_j1 (F.R05_Runes_l2 a0 f) xs3 y4 1 65533))))))else(some xs3)
def F.R05_Runes (a0:ByteArray):Option (List D174):=F.R05_Runes_l2 a0 A.FU [] 0
theorem R05_Runes_ok (a0:ByteArray)(h0_:a0.size≤maxLen)(r:(List D174))(hF:F.R05_Runes a0=some r):
    A.Ct Tryz.prog 117 [.string a0] [] [] (fun v H'=>∃(A0':Option Addr) (c1':Nat),v=.slice A0' ((r).length) c1'∧H'=[(0,.own T174 175 A0' c1' r)]):=by
 refine A.Ct.enter Tryz.func117 rfl Tryz.ntmps117 rfl fun w0 F0=>?_
 rw[F.R05_Runes]at hF
 refine A.xl 1 ?_
 refine A.q0 [] [] [.n] [] ?_
 refine A.dl 2 ?_
 refine A.q0 [] [] [.n] [(3,.slice none 0 0)] ?_
 refine A.dl 3 ?_
 refine A.q0 [] [] [.n] [(4,.int .i64 0)] ?_
 refine A.dx 2 ?_
 refine A.nil 43 T174 175 ?_
 refine A.lp_ [0] [] (fun f nl nh=>∃(xs3:List D174),∃(y4:Int),∃(A1:Option Addr),∃(c2:Nat),nl=[(3,.slice A1 ((xs3).length) c2),(4,.int .i64 y4)]∧nh=[(43,.own T174 175 A1 c2 xs3)]∧IntKind.i64.has y4∧F.R05_Runes_l2 a0 f xs3 y4=some r) ⟨[],0,none,0,rfl,rfl,(A.hasl .i64 (0) rfl),hF⟩ ?_
 rintro f6 _ _ ⟨xs3,y4,A1,c2,rfl,rfl,hy5,hF⟩
 rcases f6 with _|f6
 ·exact A.no0 hF
 rw[F.R05_Runes_l2]at hF
 refine A.xl 2 ?_
 refine A.q0 [] [] [.n,.n,.n,.n] [(10,.bool (decide (y4<(a0.size:Int))))] ?_
 refine A.dx 1 ?_
 refine A.AX.cnd rfl hF (fun hb hF=>?_) (fun hb hF=>?_)
 ·refine A.xl 4 ?_
  refine A.q0 [] [] [.n,.n] [(11,.string a0),(12,.int .i64 y4)] ?_
  obtain⟨r7,hv8,hF⟩:=A.bd_some hF
  refine A.AL.call 126 [] (first:=[]) (cap:=[]) cf95 (R05_width_ok a0 y4 h0_ hy5 r7 hv8) .nil ?_
  rintro _ _ ⟨rfl,rfl,hr9⟩
  refine⟨by kernel_rfl,?_⟩
  refine A.q0 [] [] [.n] [(5,.int .i64 r7)] ?_
  refine A.dl 2 ?_
  refine A.q0 [] [] [.n] [(6,.int .i32 65533)] ?_
  refine A.dx 1 ?_
  refine A.AX.join [0,3,4] [43] (fun nl nh=>∃(y10:Int),∃(y12:Int),nl=[(5,.int .i64 y10),(6,.int .i32 y12)]∧nh=[]∧IntKind.i64.has y10∧IntKind.i32.has y12∧F.R05_Runes_j1 (F.R05_Runes_l2 a0 f6) xs3 y4 y10 y12=some r) ?_ ?_
  ·refine A.xl 1 ?_
   refine A.q0 [] [] [.n] [(14,.int .i64 r7)] ?_
   refine A.dl 3 ?_
   refine A.q0 [] [] [.n,.n] [(15,.bool (decide (r7=1)))] ?_
   refine A.dx 1 ?_
   refine A.AX.cnd rfl hF (fun hb hF=>?_) (fun hb hF=>?_)
   ·refine A.xl 0 ?_
    refine A.q0 [] [] [.n,.n] [(17,.string a0),(18,.int .i64 y4)] ?_
    obtain⟨x19,hv20,hF⟩:=A.bd_some hF
    refine A.AL.ixt hv20 ?_
    refine A.q0 [] [] [.n,.n] [(6,.int .i32 (IntKind.i32.wrap ((x19.toNat:Int))))] ?_
    refine A.de 1 ?_
    exact A.j ⟨r7,(IntKind.i32.wrap ((x19.toNat:Int))),rfl,rfl,hr9,(A.wrap_has _ _),hF⟩
   refine A.xl 1 ?_
   refine A.q0 [] [] [.n,.n] [(21,.bool (decide (r7=2)))] ?_
   refine A.dx 1 ?_
   refine A.AX.cnd rfl hF (fun hb hF=>?_) (fun hb hF=>?_)
   ·refine A.AX.dr mixed 14 14 (A.mb 14 0) ?_
    obtain⟨hc21,hF⟩:=A.gd_some hF
    refine A.AH.q A.pb [] [43] [] [] (A.mb 14 451) 9 [(0,.n),(1,.n),(6,.n),(7,.n),(8,.n)] [23,24,29,31] [Z.R64 (y4+1)] [(23,.string a0),(24,.int .i64 y4),(29,.string a0),(31,.int .i64 (y4+1))] hc21 ?_
    obtain⟨x22,hv23,hF⟩:=A.bd_some hF
    refine A.AH.v A.pb [43] [43] 2 (A.mb 14 455) rfl (fun a w hf hh=>A.r_ixt hv23 hf) ?_
    obtain⟨hc24,hF⟩:=A.gd_some hF
    refine A.AH.q A.pb [43] [43] [] [] (A.mb 14 511) 5 [(3,.n),(4,.n),(5,.n)] [28] [(32:Int)≠0] [(28,.int .i32 (IntKind.i32.wrap ((IntKind.i32.wrap (Int.tmod (x22.toNat:Int) 32))*64)))] hc24 ?_
    obtain⟨x25,hv26,hF⟩:=A.bd_some hF
    refine A.AH.v A.pb [43] [43] 9 (A.mb 14 1023) rfl (fun a w hf hh=>A.r_ixt hv26 hf) ?_
    obtain⟨hc27,hF⟩:=A.gd_some hF
    refine A.AH.q A.pb [43] [43] [] [] (A.mb 14 16383) 0 [(10,.n),(11,.n),(12,.n),(13,.n)] [6] [(64:Int)≠0] [(6,.int .i32 (IntKind.i32.wrap ((IntKind.i32.wrap ((IntKind.i32.wrap (Int.tmod (x22.toNat:Int) 32))*64))+(IntKind.i32.wrap (Int.tmod (x25.toNat:Int) 64)))))] hc27 ?_
    refine A.AH.done ?_
    refine A.ee 1 ?_
    exact A.j ⟨r7,(IntKind.i32.wrap ((IntKind.i32.wrap ((IntKind.i32.wrap (Int.tmod (x22.toNat:Int) 32))*64))+(IntKind.i32.wrap (Int.tmod (x25.toNat:Int) 64)))),rfl,rfl,hr9,(A.wrap_has _ _),hF⟩
   refine A.xl 1 ?_
   refine A.q0 [] [] [.n,.n] [(36,.bool (decide (r7=3)))] ?_
   refine A.dx 1 ?_
   refine A.AX.cnd rfl hF (fun hb hF=>?_) (fun hb hF=>?_)
   ·refine A.AX.dr mixed 22 22 (A.mb 22 0) ?_
    obtain⟨hc28,hF⟩:=A.gd_some hF
    refine A.AH.q A.pb [] [43] [] [] (A.mb 22 115139) 14 [(0,.n),(1,.n),(6,.n),(7,.n),(14,.n),(15,.n),(8,.n),(16,.n)] [38,39,44,52,46,54] [Z.R64 (y4+1),Z.R64 (y4+2)] [(38,.string a0),(39,.int .i64 y4),(44,.string a0),(52,.string a0),(46,.int .i64 (y4+1)),(54,.int .i64 (y4+2))] hc28 ?_
    obtain⟨x29,hv30,hF⟩:=A.bd_some hF
    refine A.AH.v A.pb [43] [43] 2 (A.mb 22 115143) rfl (fun a w hf hh=>A.r_ixt hv30 hf) ?_
    obtain⟨hc31,hF⟩:=A.gd_some hF
    refine A.AH.q A.pb [43] [43] [] [] (A.mb 22 115199) 10 [(3,.n),(4,.n),(5,.n)] [43] [(16:Int)≠0] [(43,.int .i32 (IntKind.i32.wrap ((IntKind.i32.wrap (Int.tmod (x29.toNat:Int) 16))*64)))] hc31 ?_
    obtain⟨x32,hv33,hF⟩:=A.bd_some hF
    refine A.AH.v A.pb [43] [43] 9 (A.mb 22 115711) rfl (fun a w hf hh=>A.r_ixt hv33 hf) ?_
    obtain⟨hc34,hF⟩:=A.gd_some hF
    refine A.AH.q A.pb [43] [43] [] [] (A.mb 22 131071) 5 [(10,.n),(11,.n),(12,.n),(13,.n)] [51] [(64:Int)≠0] [(51,.int .i32 (IntKind.i32.wrap ((IntKind.i32.wrap ((IntKind.i32.wrap ((IntKind.i32.wrap (Int.tmod (x29.toNat:Int) 16))*64))+(IntKind.i32.wrap (Int.tmod (x32.toNat:Int) 64))))*64)))] hc34 ?_
    obtain⟨x35,hv36,hF⟩:=A.bd_some hF
    refine A.AH.v A.pb [43] [43] 17 (A.mb 22 262143) rfl (fun a w hf hh=>A.r_ixt hv36 hf) ?_
    obtain⟨hc37,hF⟩:=A.gd_some hF
    refine A.AH.q A.pb [43] [43] [] [] (A.mb 22 4194303) 0 [(18,.n),(19,.n),(20,.n),(21,.n)] [6] [(64:Int)≠0] [(6,.int .i32 (IntKind.i32.wrap ((IntKind.i32.wrap ((IntKind.i32.wrap ((IntKind.i32.wrap ((IntKind.i32.wrap (Int.tmod (x29.toNat:Int) 16))*64))+(IntKind.i32.wrap (Int.tmod (x32.toNat:Int) 64))))*64))+(IntKind.i32.wrap (Int.tmod (x35.toNat:Int) 64)))))] hc37 ?_
    refine A.AH.done ?_
    refine A.ee 1 ?_
    exact A.j ⟨r7,(IntKind.i32.wrap ((IntKind.i32.wrap ((IntKind.i32.wrap ((IntKind.i32.wrap ((IntKind.i32.wrap (Int.tmod (x29.toNat:Int) 16))*64))+(IntKind.i32.wrap (Int.tmod (x32.toNat:Int) 64))))*64))+(IntKind.i32.wrap (Int.tmod (x35.toNat:Int) 64)))),rfl,rfl,hr9,(A.wrap_has _ _),hF⟩
   refine A.xl 1 ?_
   refine A.q0 [] [] [.n,.n] [(59,.bool (decide (r7=4)))] ?_
   refine A.dx 1 ?_
   refine A.AX.cnd rfl hF (fun hb hF=>?_) (fun hb hF=>?_)
   ·refine A.AX.dr mixed 30 30 (A.mb 30 0) ?_
    obtain⟨hc38,hF⟩:=A.gd_some hF
    refine A.AH.q A.pb [] [43] [] [] (A.mb 30 29475267) 19 [(0,.n),(1,.n),(6,.n),(7,.n),(14,.n),(15,.n),(22,.n),(23,.n),(8,.n),(16,.n),(24,.n)] [61,62,67,75,83,69,77,85] [Z.R64 (y4+1),Z.R64 (y4+2),Z.R64 (y4+3)] [(61,.string a0),(62,.int .i64 y4),(67,.string a0),(75,.string a0),(83,.string a0),(69,.int .i64 (y4+1)),(77,.int .i64 (y4+2)),(85,.int .i64 (y4+3))] hc38 ?_
    obtain⟨x39,hv40,hF⟩:=A.bd_some hF
    refine A.AH.v A.pb [43] [43] 2 (A.mb 30 29475271) rfl (fun a w hf hh=>A.r_ixt hv40 hf) ?_
    obtain⟨hc41,hF⟩:=A.gd_some hF
    refine A.AH.q A.pb [43] [43] [] [] (A.mb 30 29475327) 15 [(3,.n),(4,.n),(5,.n)] [66] [(8:Int)≠0] [(66,.int .i32 (IntKind.i32.wrap ((IntKind.i32.wrap (Int.tmod (x39.toNat:Int) 8))*64)))] hc41 ?_
    obtain⟨x42,hv43,hF⟩:=A.bd_some hF
    refine A.AH.v A.pb [43] [43] 9 (A.mb 30 29475839) rfl (fun a w hf hh=>A.r_ixt hv43 hf) ?_
    obtain⟨hc44,hF⟩:=A.gd_some hF
    refine A.AH.q A.pb [43] [43] [] [] (A.mb 30 29491199) 10 [(10,.n),(11,.n),(12,.n),(13,.n)] [74] [(64:Int)≠0] [(74,.int .i32 (IntKind.i32.wrap ((IntKind.i32.wrap ((IntKind.i32.wrap ((IntKind.i32.wrap (Int.tmod (x39.toNat:Int) 8))*64))+(IntKind.i32.wrap (Int.tmod (x42.toNat:Int) 64))))*64)))] hc44 ?_
    obtain⟨x45,hv46,hF⟩:=A.bd_some hF
    refine A.AH.v A.pb [43] [43] 17 (A.mb 30 29622271) rfl (fun a w hf hh=>A.r_ixt hv46 hf) ?_
    obtain⟨hc47,hF⟩:=A.gd_some hF
    refine A.AH.q A.pb [43] [43] [] [] (A.mb 30 33554431) 5 [(18,.n),(19,.n),(20,.n),(21,.n)] [82] [(64:Int)≠0] [(82,.int .i32 (IntKind.i32.wrap ((IntKind.i32.wrap ((IntKind.i32.wrap ((IntKind.i32.wrap ((IntKind.i32.wrap ((IntKind.i32.wrap (Int.tmod (x39.toNat:Int) 8))*64))+(IntKind.i32.wrap (Int.tmod (x42.toNat:Int) 64))))*64))+(IntKind.i32.wrap (Int.tmod (x45.toNat:Int) 64))))*64)))] hc47 ?_
    obtain⟨x48,hv49,hF⟩:=A.bd_some hF
    refine A.AH.v A.pb [43] [43] 25 (A.mb 30 67108863) rfl (fun a w hf hh=>A.r_ixt hv49 hf) ?_
    obtain⟨hc50,hF⟩:=A.gd_some hF
    refine A.AH.q A.pb [43] [43] [] [] (A.mb 30 1073741823) 0 [(26,.n),(27,.n),(28,.n),(29,.n)] [6] [(64:Int)≠0] [(6,.int .i32 (IntKind.i32.wrap ((IntKind.i32.wrap ((IntKind.i32.wrap ((IntKind.i32.wrap ((IntKind.i32.wrap ((IntKind.i32.wrap ((IntKind.i32.wrap (Int.tmod (x39.toNat:Int) 8))*64))+(IntKind.i32.wrap (Int.tmod (x42.toNat:Int) 64))))*64))+(IntKind.i32.wrap (Int.tmod (x45.toNat:Int) 64))))*64))+(IntKind.i32.wrap (Int.tmod (x48.toNat:Int) 64)))))] hc50 ?_
    refine A.AH.done ?_
    refine A.ee 1 ?_
    exact A.j ⟨r7,(IntKind.i32.wrap ((IntKind.i32.wrap ((IntKind.i32.wrap ((IntKind.i32.wrap ((IntKind.i32.wrap ((IntKind.i32.wrap ((IntKind.i32.wrap (Int.tmod (x39.toNat:Int) 8))*64))+(IntKind.i32.wrap (Int.tmod (x42.toNat:Int) 64))))*64))+(IntKind.i32.wrap (Int.tmod (x45.toNat:Int) 64))))*64))+(IntKind.i32.wrap (Int.tmod (x48.toNat:Int) 64)))),rfl,rfl,hr9,(A.wrap_has _ _),hF⟩
   refine A.xl 0 ?_
   refine A.q0 [] [] [.n] [(5,.int .i64 1)] ?_
   refine A.de 1 ?_
   exact A.j ⟨1,65533,rfl,rfl,(A.hasl .i64 (1) rfl),(A.hasl .i32 (65533) rfl),hF⟩
  rintro _ _ ⟨y10,y12,rfl,rfl,hy11,hy13,hF⟩
  rw[F.R05_Runes_j1]at hF
  refine A.xl 1 ?_
  refine A.q0 [] [] [.n,.n,.n,.n] [(90,.slice A1 ((xs3).length) c2),(93,.agg #[.int .i64 y4,.int .i32 y12])] ?_
  refine A.AL.bsl 166 (ty:=T174) (cs:=[.int .i64 y4,.int .i32 y12]) [(y4,y12)] ⟨⟨⟨rfl,hy5⟩,⟨rfl,hy13⟩⟩,rfl⟩ (fun g14=>?_) Tryz.zeroValue175 Tryz.sizeOf175
  obtain⟨hl17,hF⟩:=A.gd_some hF
  refine A.AL.app (k:=43) [] (A.rowO (k:=166) rfl) inf175 hl17 fun A15 c16=>?_
  refine A.q0 [] [] [.n] [(3,.slice A15 ((xs3++[(y4,y12)]).length) c16)] ?_
  refine A.dl 1 ?_
  obtain⟨hc18,hF⟩:=A.gd_some hF
  refine A.q [] [] [.n,.n,.n,.n] [Z.R64 (y4+y10)] [(4,.int .i64 (y4+y10))] hc18 ?_
  refine A.de 1 ?_
  exact A.j ⟨_,Nat.lt_succ_self _,⟨(xs3++[(y4,y12)]),(y4+y10),A15,c16,rfl,rfl,(Z.i64_has hc18),hF⟩⟩
 refine A.xl 3 ?_
 refine A.q0 [] [] [.n,.n] [(2,.slice A1 ((xs3).length) c2)] ?_
 refine A.dx 1 ?_
 obtain rfl:=Option.some.inj hF
 exact A.rt1 [(0,43)] ⟨A1,c2,rfl,rfl⟩
end Go.Proofs.YtbljnlkhebiniaaGreatDoor
end
section
set_option linter.unusedVariables false
set_option linter.unusedSimpArgs false
set_option maxRecDepth 20000
set_option maxHeartbeats 8000000
set_option synthInstance.maxSize 1000000
set_option synthInstance.maxHeartbeats 400000
namespace Go.Proofs.YtbljnlkhebiniaaGreatDoor
open Go.RowKit
def F.R06_text_j1 (y2:Bool):Option Bool:=some y2
def F.R06_text_j2 (y6:Bool):Option Bool:=some y6
def F.R06_text_j3 (a0:D23)(y5:Bool):Option Bool:=if y5=true then(if(a0.2.2.size:Int)≤4 then((F.R05_Valid a0.2.2).bind fun r7=>(if r7=true then((F.R05_Runes a0.2.2).bind fun r9=>(F.R06_text_j2 (decide (((r9).length:Int)=1))))else(F.R06_text_j2 false)))else(F.R06_text_j2 false))else(some (decide (a0.2.2=(ByteArray.mk #[]))))
def F.R06_text (a0:D23):Option Bool:=if a0.1=5 then(if(bif decide ((1:Int)≤(a0.2.2.size:Int))then decide ((a0.2.2.size:Int)≤16)else false)=true then((F.R05_Valid a0.2.2).bind fun r3=>(F.R06_text_j1 r3))else(F.R06_text_j1 false))else(if a0.1=12 then(F.R06_text_j3 a0 (decide (a0.1=12)))else(F.R06_text_j3 a0 (decide (a0.1=22))))
theorem R06_text_ok (a0:D23)(h0_:IntKind.i64.has a0.1)(h1_:IntKind.i64.has a0.2.1)(h2_:a0.2.2.size≤maxLen)(r:Bool)(hF:F.R06_text a0=some r):
    A.Ct Tryz.prog 73 [.agg #[.int .i64 a0.1,.int .i64 a0.2.1,.string a0.2.2]] [] [] (fun v H'=>v=.bool r∧H'=[]):=by
 refine A.Ct.enter Tryz.func73 rfl Tryz.ntmps73 rfl fun w0 F0=>?_
 rw[F.R06_text]at hF
 refine A.xl 1 ?_
 refine A.AL.box 0 (cs:=[.int .i64 a0.1,.int .i64 a0.2.1,.string a0.2.2]) fun g1=>?_
 refine A.q0 [] [] [.n] [] ?_
 refine A.dl 2 ?_
 refine A.q0 [0] [] [.n,.b 0 0] [(4,.int .i64 a0.1)] ?_
 refine A.dl 3 ?_
 refine A.q0 [] [] [.n,.n] [(8,.bool (decide (a0.1=5)))] ?_
 refine A.dx 1 ?_
 refine A.AX.cnd rfl hF (fun hb hF=>?_) (fun hb hF=>?_)
 ·refine A.AX.join [] [] (fun nl nh=>∃(y2:Bool),nl=[(2,.bool y2)]∧nh=[]∧F.R06_text_j1 y2=some r) ?_ ?_
  ·refine A.xl 0 ?_
   refine A.q0 [0] [] [.n,.b 0 2,.n,.n,.n,.sy .n,.sy (.b 0 2),.sy .n,.sy .n,.pk,.n] [(20,.bool (bif decide ((1:Int)≤(a0.2.2.size:Int))then decide ((a0.2.2.size:Int)≤16)else false))] ?_
   refine A.AL.cnd (j:=20) rfl hF (fun hF=>?_) (fun hF=>?_)
   ·refine A.q0 [0] [] [.on .n,.on (.b 0 2)] [(22,.string a0.2.2)] ?_
    refine A.AL.on (dj:=20) rfl rfl ?_
    obtain⟨r3,hv4,hF⟩:=A.bd_some hF
    refine A.AL.call 1 [] (first:=[]) (cap:=[]) cf56 (R05_Valid_ok a0.2.2 h2_ r3 hv4) .nil ?_
    rintro _ _ ⟨rfl,rfl⟩
    refine⟨by kernel_rfl,?_⟩
    refine A.q0 [] [] [.n,.n] [(2,.bool r3)] ?_
    refine A.AL.done ?_
    exact A.j ⟨r3,rfl,rfl,hF⟩
   refine A.q0 [] [] [.off,.off,.off,.n,.n] [(2,.bool false)] ?_
   refine A.AL.done ?_
   exact A.j ⟨false,rfl,rfl,hF⟩
  rintro _ _ ⟨y2,rfl,rfl,hF⟩
  rw[F.R06_text_j1]at hF
  obtain rfl:=Option.some.inj hF
  exact A.rt1 [] ⟨rfl,rfl⟩
 refine A.AX.join [1] [0] (fun nl nh=>∃(y5:Bool),nl=[(25,.bool y5)]∧nh=[]∧F.R06_text_j3 a0 y5=some r) ?_ ?_
 ·refine A.xl 1 ?_
  refine A.q0 [] [] [.n,.n] [(25,.bool (decide (a0.1=12)))] ?_
  refine A.dx 1 ?_
  refine A.AX.cnd rfl hF (fun hb hF=>?_) (fun hb hF=>?_)
  ·refine A.xe 1 ?_
   exact A.j ⟨(decide (a0.1=12)),rfl,rfl,hF⟩
  refine A.xl 0 ?_
  refine A.q0 [] [] [.n,.n] [(25,.bool (decide (a0.1=22)))] ?_
  refine A.AL.done ?_
  exact A.j ⟨(decide (a0.1=22)),rfl,rfl,hF⟩
 rintro _ _ ⟨y5,rfl,rfl,hF⟩
 rw[F.R06_text_j3]at hF
 refine A.AX.cnb rfl hF (fun hb hF=>?_) (fun hb hF=>?_)
 ·refine A.AX.join [] [] (fun nl nh=>∃(y6:Bool),nl=[(2,.bool y6)]∧nh=[]∧F.R06_text_j2 y6=some r) ?_ ?_
  ·refine A.xl 0 ?_
   refine A.q0 [0] [] [.n,.b 0 2,.n,.n,.n] [(32,.bool (decide ((a0.2.2.size:Int)≤4)))] ?_
   refine A.AL.cnp (j:=32) rfl hF (fun hb hF=>?_) (fun hb hF=>?_)
   ·refine A.q0 [0] [] [.on .n,.on (.b 0 2)] [(34,.string a0.2.2)] ?_
    refine A.AL.on (dj:=32) rfl rfl ?_
    obtain⟨r7,hv8,hF⟩:=A.bd_some hF
    refine A.AL.call 41 [] (first:=[]) (cap:=[]) cf56 (R05_Valid_ok a0.2.2 h2_ r7 hv8) .nil ?_
    rintro _ _ ⟨rfl,rfl⟩
    refine⟨by kernel_rfl,?_⟩
    refine A.q0 [] [] [.n,.n] [(37,.bool r7)] ?_
    refine A.AL.cnd (j:=37) rfl hF (fun hF=>?_) (fun hF=>?_)
    ·refine A.q0 [0] [] [.on .n,.on (.b 0 2)] [(39,.string a0.2.2)] ?_
     refine A.AL.on (dj:=37) rfl rfl ?_
     obtain⟨r9,hv10,hF⟩:=A.bd_some hF
     refine A.AL.call 81 [] (first:=[]) (cap:=[]) cf117 (R05_Runes_ok a0.2.2 h2_ r9 hv10) .nil ?_
     rintro _ _ ⟨A11,c12,rfl,rfl⟩
     refine⟨by kernel_rfl,?_⟩
     refine A.q0 [] [] [.on .n,.on .n,.n,.n] [(2,.bool (decide (((r9).length:Int)=1)))] ?_
     refine A.AL.done ?_
     exact A.j ⟨(decide (((r9).length:Int)=1)),rfl,rfl,hF⟩
    refine A.q0 [] [] [.off,.off,.off,.off,.off,.n,.n] [(2,.bool false)] ?_
    refine A.AL.done ?_
    exact A.j ⟨false,rfl,rfl,hF⟩
   refine A.q0 [] [] [.off,.off,.off,.n,.n,.off,.off,.off,.off,.off,.n,.n] [(2,.bool false)] ?_
   refine A.AL.done ?_
   exact A.j ⟨false,rfl,rfl,hF⟩
  rintro _ _ ⟨y6,rfl,rfl,hF⟩
  rw[F.R06_text_j2]at hF
  obtain rfl:=Option.some.inj hF
  exact A.rt1 [] ⟨rfl,rfl⟩
 refine A.xl 1 ?_
 refine A.q0 [0] [] [.n,.b 0 2,.n,.n] [(2,.bool (decide (a0.2.2=(ByteArray.mk #[]))))] ?_
 refine A.dx 1 ?_
 obtain rfl:=Option.some.inj hF
 exact A.rt1 [] ⟨rfl,rfl⟩
def F.R06_Uses_l1 (y3:Int):Nat→(List Int)→Int→Option (List Int)
 |0,_,_=>none
 |f+1,xs7,y8=>if y8≤y3 then(A.gd ((List.length (α:=Int) xs7+List.length (α:=Int) [y8])*8≤140737488355328) (A.gd (Z.R64 (y8+1)) ((F.R06_Uses_l1 y3 f) (xs7++[y8]) (y8+1))))else(some xs7)
def F.R06_Uses_j2 (y1:Int)(y3:Int):Option (List Int):=F.R06_Uses_l1 y3 A.FU [] y1
def F.R06_Uses (a0:Int):Option (List Int):=if a0=2 then(F.R06_Uses_j2 1 8)else(if a0=3 then(F.R06_Uses_j2 11 13)else(if a0=4 then(F.R06_Uses_j2 21 22)else(if a0=8 then(F.R06_Uses_j2 31 34)else(if a0=11 then(F.R06_Uses_j2 41 42)else(F.R06_Uses_j2 1 0)))))
theorem R06_Uses_ok (a0:Int)(h0_:IntKind.i64.has a0)(r:(List Int))(hF:F.R06_Uses a0=some r):
    A.Ct Tryz.prog 71 [.int .i64 a0] [] [] (fun v H'=>∃(A0':Option Addr) (c1':Nat),v=.slice A0' ((r).length) c1'∧H'=[(0,.own (Z.Ty.int .i64) 3 A0' c1' r)]):=by
 refine A.Ct.enter Tryz.func71 rfl Tryz.ntmps71 rfl fun w0 F0=>?_
 rw[F.R06_Uses]at hF
 refine A.xl 1 ?_
 refine A.q0 [] [] [.n] [] ?_
 refine A.dl 2 ?_
 refine A.q0 [] [] [.n,.n] [(3,.int .i64 1),(4,.int .i64 0)] ?_
 refine A.dx 1 ?_
 refine A.AX.join [] [] (fun nl nh=>∃(y1:Int),∃(y3:Int),nl=[(3,.int .i64 y1),(4,.int .i64 y3)]∧nh=[]∧IntKind.i64.has y1∧IntKind.i64.has y3∧F.R06_Uses_j2 y1 y3=some r) ?_ ?_
 ·refine A.xl 1 ?_
  refine A.q0 [] [] [.n] [(7,.int .i64 a0)] ?_
  refine A.dl 3 ?_
  refine A.q0 [] [] [.n,.n] [(8,.bool (decide (a0=2)))] ?_
  refine A.dx 1 ?_
  refine A.AX.cnd rfl hF (fun hb hF=>?_) (fun hb hF=>?_)
  ·refine A.xl 0 ?_
   refine A.q0 [] [] [.n,.n] [(3,.int .i64 1),(4,.int .i64 8)] ?_
   refine A.de 1 ?_
   exact A.j ⟨1,8,rfl,rfl,(A.hasl .i64 (1) rfl),(A.hasl .i64 (8) rfl),hF⟩
  refine A.xl 1 ?_
  refine A.q0 [] [] [.n,.n] [(10,.bool (decide (a0=3)))] ?_
  refine A.dx 1 ?_
  refine A.AX.cnd rfl hF (fun hb hF=>?_) (fun hb hF=>?_)
  ·refine A.xl 0 ?_
   refine A.q0 [] [] [.n,.n] [(3,.int .i64 11),(4,.int .i64 13)] ?_
   refine A.de 1 ?_
   exact A.j ⟨11,13,rfl,rfl,(A.hasl .i64 (11) rfl),(A.hasl .i64 (13) rfl),hF⟩
  refine A.xl 1 ?_
  refine A.q0 [] [] [.n,.n] [(12,.bool (decide (a0=4)))] ?_
  refine A.dx 1 ?_
  refine A.AX.cnd rfl hF (fun hb hF=>?_) (fun hb hF=>?_)
  ·refine A.xl 0 ?_
   refine A.q0 [] [] [.n,.n] [(3,.int .i64 21),(4,.int .i64 22)] ?_
   refine A.de 1 ?_
   exact A.j ⟨21,22,rfl,rfl,(A.hasl .i64 (21) rfl),(A.hasl .i64 (22) rfl),hF⟩
  refine A.xl 1 ?_
  refine A.q0 [] [] [.n,.n] [(14,.bool (decide (a0=8)))] ?_
  refine A.dx 1 ?_
  refine A.AX.cnd rfl hF (fun hb hF=>?_) (fun hb hF=>?_)
  ·refine A.xl 0 ?_
   refine A.q0 [] [] [.n,.n] [(3,.int .i64 31),(4,.int .i64 34)] ?_
   refine A.de 1 ?_
   exact A.j ⟨31,34,rfl,rfl,(A.hasl .i64 (31) rfl),(A.hasl .i64 (34) rfl),hF⟩
  refine A.xl 1 ?_
  refine A.q0 [] [] [.n,.n] [(16,.bool (decide (a0=11)))] ?_
  refine A.dx 1 ?_
  refine A.AX.cnd rfl hF (fun hb hF=>?_) (fun hb hF=>?_)
  ·refine A.xl 0 ?_
   refine A.q0 [] [] [.n,.n] [(3,.int .i64 41),(4,.int .i64 42)] ?_
   refine A.de 1 ?_
   exact A.j ⟨41,42,rfl,rfl,(A.hasl .i64 (41) rfl),(A.hasl .i64 (42) rfl),hF⟩
  refine A.xe 2 ?_
  exact A.j ⟨1,0,rfl,rfl,(A.hasl .i64 (1) rfl),(A.hasl .i64 (0) rfl),hF⟩
 rintro _ _ ⟨y1,y3,rfl,rfl,hy2,hy4,hF⟩
 rw[F.R06_Uses_j2]at hF
 refine A.xl 1 ?_
 refine A.q0 [] [] [.n] [(5,.slice none 0 0)] ?_
 refine A.dl 3 ?_
 refine A.q0 [] [] [.n,.n] [(6,.int .i64 y1)] ?_
 refine A.dx 2 ?_
 refine A.nil 3 (Z.Ty.int .i64) 3 ?_
 refine A.lp_ [4] [] (fun f nl nh=>∃(xs7:List Int),∃(y8:Int),∃(A5:Option Addr),∃(c6:Nat),nl=[(5,.slice A5 ((xs7).length) c6),(6,.int .i64 y8)]∧nh=[(3,.own (Z.Ty.int .i64) 3 A5 c6 xs7)]∧IntKind.i64.has y8∧F.R06_Uses_l1 y3 f xs7 y8=some r) ⟨[],y1,none,0,rfl,rfl,hy2,hF⟩ ?_
 rintro f10 _ _ ⟨xs7,y8,A5,c6,rfl,rfl,hy9,hF⟩
 rcases f10 with _|f10
 ·exact A.no0 hF
 rw[F.R06_Uses_l1]at hF
 refine A.xl 2 ?_
 refine A.q0 [] [] [.n,.n,.n] [(21,.bool (decide (y8≤y3)))] ?_
 refine A.dx 1 ?_
 refine A.AX.cnd rfl hF (fun hb hF=>?_) (fun hb hF=>?_)
 ·refine A.xl 4 ?_
  refine A.q0 [] [] [.n,.n] [(24,.slice A5 ((xs7).length) c6),(25,.int .i64 y8)] ?_
  refine A.AL.bsl 6 (ty:=(Z.Ty.int .i64)) (cs:=[.int .i64 y8]) [y8] ⟨⟨rfl,hy9⟩,rfl⟩ (fun g11=>?_) Tryz.zeroValue3 Tryz.sizeOf3
  obtain⟨hl14,hF⟩:=A.gd_some hF
  refine A.AL.app (k:=3) [] (A.rowO (k:=6) rfl) inf3 hl14 fun A12 c13=>?_
  refine A.q0 [] [] [.n] [(5,.slice A12 ((xs7++[y8]).length) c13)] ?_
  refine A.dl 2 ?_
  obtain⟨hc15,hF⟩:=A.gd_some hF
  refine A.q [] [] [.n,.n,.n] [Z.R64 (y8+1)] [(6,.int .i64 (y8+1))] hc15 ?_
  refine A.AL.done ?_
  exact A.j ⟨_,Nat.lt_succ_self _,⟨(xs7++[y8]),(y8+1),A12,c13,rfl,rfl,(Z.i64_has hc15),hF⟩⟩
 refine A.xl 3 ?_
 refine A.q0 [] [] [.n,.n] [(2,.slice A5 ((xs7).length) c6)] ?_
 refine A.dx 1 ?_
 obtain rfl:=Option.some.inj hF
 exact A.rt1 [(0,3)] ⟨A5,c6,rfl,rfl⟩
def F.R06_Check_j1 (k1:Int→Option Int)(y7:Int)(y10:Bool):Option Int:=if y10=true then(some 0)else(A.gd (Z.R64 (y7+1)) (k1 (y7+1)))
def F.R06_Check_l2 (a1:D23)(r2:(List Int)):Nat→Int→Option Int
 |0,_=>none
 |f+1,y7=>if y7<((r2).length:Int)then((A.ix r2 y7).bind fun x12=>(if x12=a1.1 then((F.R06_number (a1.1,a1.2.1,a1.2.2)).bind fun r17=>(if r17=true then((F.R06_text (a1.1,a1.2.1,a1.2.2)).bind fun r19=>(F.R06_Check_j1 (F.R06_Check_l2 a1 r2 f) y7 r19))else(F.R06_Check_j1 (F.R06_Check_l2 a1 r2 f) y7 false)))else(F.R06_Check_j1 (F.R06_Check_l2 a1 r2 f) y7 false)))else(some 60)
def F.R06_Check_j3 (a1:D23)(r2:(List Int))(y6:Bool):Option Int:=if y6=true then(some 0)else(F.R06_Check_l2 a1 r2 A.FU 0)
def F.R06_Check (a0:Int)(a1:D23):Option Int:=(F.R06_Uses a0).bind fun r2=>(if((r2).length:Int)=0 then(F.R06_Check_j3 a1 r2 (decide ((a1.1,a1.2.1,a1.2.2)=(0,0,ByteArray.mk #[]))))else(F.R06_Check_j3 a1 r2 false))
theorem R06_Check_ok (a0:Int)(a1:D23)(h0_:IntKind.i64.has a0)(h1_:IntKind.i64.has a1.1)(h2_:IntKind.i64.has a1.2.1)(h3_:a1.2.2.size≤maxLen)(r:Int)(hF:F.R06_Check a0 a1=some r):
    A.Ct Tryz.prog 38 [.int .i64 a0,.agg #[.int .i64 a1.1,.int .i64 a1.2.1,.string a1.2.2]] [] [] (fun v H'=>v=.int .i64 r∧H'=[]∧IntKind.i64.has r):=by
 refine A.Ct.enter Tryz.func38 rfl Tryz.ntmps38 rfl fun w0 F0=>?_
 rw[F.R06_Check]at hF
 refine A.xl 1 ?_
 refine A.AL.box 0 (cs:=[.int .i64 a1.1,.int .i64 a1.2.1,.string a1.2.2]) fun g1=>?_
 refine A.q0 [] [] [.n] [] ?_
 refine A.dl 2 ?_
 refine A.q0 [] [] [.n] [(7,.int .i64 a0)] ?_
 obtain⟨r2,hv3,hF⟩:=A.bd_some hF
 refine A.AL.call 1 [] (first:=[]) (cap:=[]) cf71 (R06_Uses_ok a0 h0_ r2 hv3) .nil ?_
 rintro _ _ ⟨A4,c5,rfl,rfl⟩
 refine⟨by kernel_rfl,?_⟩
 refine A.q0 [] [] [.n] [(5,.slice A4 ((r2).length) c5)] ?_
 refine A.dx 2 ?_
 refine A.AX.join [3,5] [0,1] (fun nl nh=>∃(y6:Bool),nl=[(16,.bool y6)]∧nh=[]∧F.R06_Check_j3 a1 r2 y6=some r) ?_ ?_
 ·refine A.xl 0 ?_
  refine A.q0 [] [] [.n,.n,.n,.n] [(12,.bool (decide (((r2).length:Int)=0)))] ?_
  refine A.AL.cnp (j:=12) rfl hF (fun hb hF=>?_) (fun hb hF=>?_)
  ·refine A.q0 [0] [] [.on (.b 0 0),.on .n] [(13,.agg #[.int .i64 a1.1,.int .i64 a1.2.1,.string a1.2.2]),(14,.agg #[.int .i64 0,.int .i64 0,.string (ByteArray.mk #[])])] ?_
   refine A.AL.on (dj:=12) rfl rfl ?_
   refine A.AL.val rfl (fun a w hf hh=>eqagg_eql24 (x:=(a1.1,a1.2.1,a1.2.2)) (y:=(0,0,ByteArray.mk #[])) (hf.eval rfl) (hf.eval rfl)) ?_
   refine A.q0 [] [] [.n] [(16,.bool (decide ((a1.1,a1.2.1,a1.2.2)=(0,0,ByteArray.mk #[]))))] ?_
   refine A.AL.done ?_
   exact A.j ⟨(decide ((a1.1,a1.2.1,a1.2.2)=(0,0,ByteArray.mk #[]))),rfl,rfl,hF⟩
  refine A.q0 [] [] [.off,.off,.off,.n] [(16,.bool false)] ?_
  refine A.AL.done ?_
  exact A.j ⟨false,rfl,rfl,hF⟩
 rintro _ _ ⟨y6,rfl,rfl,hF⟩
 rw[F.R06_Check_j3]at hF
 refine A.AX.cnb rfl hF (fun hb hF=>?_) (fun hb hF=>?_)
 ·refine A.xl 1 ?_
  refine A.q0 [] [] [.n] [(4,.int .i64 0)] ?_
  refine A.dx 1 ?_
  obtain rfl:=Option.some.inj hF
  exact A.rt1 [] ⟨rfl,rfl,(A.hasl .i64 (0) rfl)⟩
 refine A.xl 4 ?_
 refine A.q0 [] [] [.n] [(6,.int .i64 0)] ?_
 refine A.dx 2 ?_
 refine A.lp_ [3,5] [0,1] (fun f nl nh=>∃(y7:Int),nl=[(6,.int .i64 y7)]∧nh=[]∧IntKind.i64.has y7∧F.R06_Check_l2 a1 r2 f y7=some r) ⟨0,rfl,rfl,(A.hasl .i64 (0) rfl),hF⟩ ?_
 rintro f9 _ _ ⟨y7,rfl,rfl,hy8,hF⟩
 rcases f9 with _|f9
 ·exact A.no0 hF
 rw[F.R06_Check_l2]at hF
 refine A.xl 2 ?_
 refine A.q0 [] [] [.n,.n,.n,.n] [(20,.bool (decide (y7<((r2).length:Int))))] ?_
 refine A.dx 1 ?_
 refine A.AX.cnd rfl hF (fun hb hF=>?_) (fun hb hF=>?_)
 ·refine A.xx 4 ?_
  refine A.AX.join [3,5,6] [0,1] (fun nl nh=>∃(y10:Bool),nl=[(37,.bool y10)]∧nh=[]∧F.R06_Check_j1 (F.R06_Check_l2 a1 r2 f9) y7 y10=some r) ?_ ?_
  ·refine A.AX.dr mixed 15 15 (A.mb 15 0) ?_
   refine A.hq A.pb [] [0,1] [0] [] (A.mb 15 51) 11 [(0,.n),(1,.n),(4,.n),(5,.b 0 0)] [(23,.slice A4 ((r2).length) c5),(24,.int .i64 y7),(28,.int .i64 a1.1)] ?_
   obtain⟨x12,hv13,hF⟩:=A.bd_some hF
   refine A.AH.pko 1 203 hv13 fun ho14=>?_
   intro g16 hA15
   refine A.AH.v A.pb [0,1] [0,1,203] 2 (A.mb 15 55) rfl (fun a w hf hh=>A.r_ixo (t:=(Z.Ty.int .i64)) hv13 hA15 hf) ?_
   refine A.hq A.pb [0,1,203] [0,1,203] [] [203] (A.mb 15 255) 7 [(3,.e 0 0),(6,.n),(7,.n)] [(30,.bool (decide (x12=a1.1)))] ?_
   refine A.AH.cnp (j:=30) rfl hF (fun hb hF=>?_) (fun hb hF=>?_)
   ·refine A.hq A.pb [0,1,203] [0,1,203] [0] [] (A.mb 15 511) 6 [(8,.on (.b 0 0))] [(31,.agg #[.int .i64 a1.1,.int .i64 a1.2.1,.string a1.2.2])] ?_
    refine A.AH.one 9 ?_
    refine A.AL.on (dj:=30) rfl rfl ?_
    obtain⟨r17,hv18,hF⟩:=A.bd_some hF
    refine A.AL.call 204 [] (first:=[]) (cap:=[]) cf72 (R06_number_ok (a1.1,a1.2.1,a1.2.2) h1_ h2_ h3_ r17 hv18) .nil ?_
    rintro _ _ ⟨rfl,rfl⟩
    refine⟨by kernel_rfl,?_⟩
    refine A.AH.nx (A.mb 15 1023) [0,1,203] ?_
    refine A.hq A.pb [0,1,203] [0,1,203] [] [] (A.mb 15 4095) 3 [(10,.n),(11,.n)] [(34,.bool r17)] ?_
    refine A.AH.cnd (j:=34) rfl hF (fun hF=>?_) (fun hF=>?_)
    ·refine A.hq A.pb [0,1,203] [0,1,203] [0] [] (A.mb 15 8191) 2 [(12,.on (.b 0 0))] [(35,.agg #[.int .i64 a1.1,.int .i64 a1.2.1,.string a1.2.2])] ?_
     refine A.AH.one 13 ?_
     refine A.AL.on (dj:=34) rfl rfl ?_
     obtain⟨r19,hv20,hF⟩:=A.bd_some hF
     refine A.AL.call 244 [] (first:=[]) (cap:=[]) cf73 (R06_text_ok (a1.1,a1.2.1,a1.2.2) h1_ h2_ h3_ r19 hv20) .nil ?_
     rintro _ _ ⟨rfl,rfl⟩
     refine⟨by kernel_rfl,?_⟩
     refine A.AH.nx (A.mb 15 16383) [0,1,203] ?_
     refine A.hq A.pb [0,1,203] [0,1,203] [] [] (A.mb 15 32767) 0 [(14,.n)] [(37,.bool r19)] ?_
     refine A.AH.done ?_
     exact A.j ⟨r19,rfl,rfl,hF⟩
    refine A.hq A.pb [0,1,203] [0,1,203] [] [] (A.mb 15 32767) 0 [(12,.off),(13,.off),(14,.n)] [(37,.bool false)] ?_
    refine A.AH.done ?_
    exact A.j ⟨false,rfl,rfl,hF⟩
   refine A.hq A.pb [0,1,203] [0,1,203] [] [] (A.mb 15 32767) 0 [(8,.off),(9,.off),(10,.n),(11,.n),(12,.off),(13,.off),(14,.n)] [(37,.bool false)] ?_
   refine A.AH.done ?_
   exact A.j ⟨false,rfl,rfl,hF⟩
  rintro _ _ ⟨y10,rfl,rfl,hF⟩
  rw[F.R06_Check_j1]at hF
  refine A.AX.cnb rfl hF (fun hb hF=>?_) (fun hb hF=>?_)
  ·refine A.xl 1 ?_
   refine A.q0 [] [] [.n] [(4,.int .i64 0)] ?_
   refine A.dx 1 ?_
   obtain rfl:=Option.some.inj hF
   exact A.rt1 [] ⟨rfl,rfl,(A.hasl .i64 (0) rfl)⟩
  refine A.xl 3 ?_
  obtain⟨hc11,hF⟩:=A.gd_some hF
  refine A.q [] [] [.n,.n,.n] [Z.R64 (y7+1)] [(6,.int .i64 (y7+1))] hc11 ?_
  refine A.AL.done ?_
  exact A.j ⟨_,Nat.lt_succ_self _,⟨(y7+1),rfl,rfl,(Z.i64_has hc11),hF⟩⟩
 refine A.xl 3 ?_
 refine A.q0 [] [] [.n] [(4,.int .i64 60)] ?_
 refine A.dx 1 ?_
 obtain rfl:=Option.some.inj hF
 exact A.rt1 [] ⟨rfl,rfl,(A.hasl .i64 (60) rfl)⟩
def F.R01_Check_j1 (k1:Int→Option Int)(y2:Int)(y5:Bool):Option Int:=if y5=true then(some 10)else(A.gd (Z.R64 (y2+1)) (k1 (y2+1)))
def F.R01_Check_l2 (a0:D28):Nat→Int→Option Int
 |0,_=>none
 |f+1,y2=>if y2<4 then((A.ix [a0.2.2.1,a0.2.2.2.1,a0.2.2.2.2.1,a0.2.2.2.2.2] y2).bind fun x7=>(if x7<0 then(F.R01_Check_j1 (F.R01_Check_l2 a0 f) y2 true)else((A.ix [a0.2.2.1,a0.2.2.2.1,a0.2.2.2.2.1,a0.2.2.2.2.2] y2).bind fun x9=>(if(1048576:Int)<x9 then(F.R01_Check_j1 (F.R01_Check_l2 a0 f) y2 true)else(if a0.2.1≤y2 then((A.ix [a0.2.2.1,a0.2.2.2.1,a0.2.2.2.2.1,a0.2.2.2.2.2] y2).bind fun x11=>(F.R01_Check_j1 (F.R01_Check_l2 a0 f) y2 (decide (x11≠0))))else(F.R01_Check_j1 (F.R01_Check_l2 a0 f) y2 false))))))else(some 0)
def F.R01_Check (a0:D28):Option Int:=if(bif bif bif decide (a0.1<0)then true else decide ((1073741824:Int)<a0.1)then true else decide (a0.2.1<0)then true else decide ((4:Int)<a0.2.1))=true then(some 10)else(F.R01_Check_l2 a0 A.FU 0)
theorem R01_Check_ok (a0:D28)(h0_:IntKind.i64.has a0.1)(h1_:IntKind.i64.has a0.2.1)(h2_:IntKind.i64.has a0.2.2.1)(h3_:IntKind.i64.has a0.2.2.2.1)(h4_:IntKind.i64.has a0.2.2.2.2.1)(h5_:IntKind.i64.has a0.2.2.2.2.2)(r:Int)(hF:F.R01_Check a0=some r):
    A.Ct Tryz.prog 39 [.agg #[.int .i64 a0.1,.int .i64 a0.2.1,.int .i64 a0.2.2.1,.int .i64 a0.2.2.2.1,.int .i64 a0.2.2.2.2.1,.int .i64 a0.2.2.2.2.2]] [] [] (fun v H'=>v=.int .i64 r∧H'=[]∧IntKind.i64.has r):=by
 refine A.Ct.enter Tryz.func39 rfl Tryz.ntmps39 rfl fun w0 F0=>?_
 rw[F.R01_Check]at hF
 refine A.xl 1 ?_
 refine A.AL.box 0 (cs:=[.int .i64 a0.1,.int .i64 a0.2.1,.int .i64 a0.2.2.1,.int .i64 a0.2.2.2.1,.int .i64 a0.2.2.2.2.1,.int .i64 a0.2.2.2.2.2]) fun g1=>?_
 refine A.q0 [] [] [.n] [] ?_
 refine A.dl 3 ?_
 refine A.q0 [0] [] [.n,.b 0 0,.n,.n,.sy .n,.sy (.b 0 0),.sy .n,.pk,.n,.sy .n,.sy (.b 0 1),.sy .n,.pk,.n,.sy .n,.sy (.b 0 1),.sy .n,.pk] [(21,.bool (bif bif bif decide (a0.1<0)then true else decide ((1073741824:Int)<a0.1)then true else decide (a0.2.1<0)then true else decide ((4:Int)<a0.2.1)))] ?_
 refine A.dx 1 ?_
 refine A.AX.cnb rfl hF (fun hb hF=>?_) (fun hb hF=>?_)
 ·refine A.xl 1 ?_
  refine A.q0 [] [] [.n] [(2,.int .i64 10)] ?_
  refine A.dx 1 ?_
  obtain rfl:=Option.some.inj hF
  exact A.rt1 [] ⟨rfl,rfl,(A.hasl .i64 (10) rfl)⟩
 refine A.xl 4 ?_
 refine A.q0 [] [] [.n] [(3,.int .i64 0)] ?_
 refine A.dx 2 ?_
 refine A.lp_ [1] [0] (fun f nl nh=>∃(y2:Int),nl=[(3,.int .i64 y2)]∧nh=[]∧IntKind.i64.has y2∧F.R01_Check_l2 a0 f y2=some r) ⟨0,rfl,rfl,(A.hasl .i64 (0) rfl),hF⟩ ?_
 rintro f4 _ _ ⟨y2,rfl,rfl,hy3,hF⟩
 rcases f4 with _|f4
 ·exact A.no0 hF
 rw[F.R01_Check_l2]at hF
 refine A.xl 2 ?_
 refine A.q0 [] [] [.n,.n] [(23,.bool (decide (y2<4)))] ?_
 refine A.dx 1 ?_
 refine A.AX.cnd rfl hF (fun hb hF=>?_) (fun hb hF=>?_)
 ·refine A.xx 4 ?_
  refine A.AX.join [1,3] [0] (fun nl nh=>∃(y5:Bool),nl=[(50,.bool y5)]∧nh=[]∧F.R01_Check_j1 (F.R01_Check_l2 a0 f4) y2 y5=some r) ?_ ?_
  ·refine A.xl 0 ?_
   refine A.q0 [] [] [.n,.n] [(26,.int .i64 y2),(27,.pointer (some ⟨g1,2,none⟩))] ?_
   obtain⟨x7,hv8,hF⟩:=A.bd_some hF
   refine A.AL.ixb 0 4 (fun v:Int=>.int .i64 v) [a0.2.2.1,a0.2.2.2.1,a0.2.2.2.2.1,a0.2.2.2.2.2] hv8 ?_
   refine A.q0 [] [4] [.e 0 0,.n,.n] [(31,.bool (decide (x7<0)))] ?_
   refine A.AL.cnp (j:=31) rfl hF (fun hb hF=>?_) (fun hb hF=>?_)
   ·refine A.q0 [] [] [.off,.off,.off,.off,.off,.n,.n,.off,.off,.off,.off,.off,.off,.off,.off,.off,.off,.off,.n] [(50,.bool true)] ?_
    refine A.AL.done ?_
    exact A.j ⟨true,rfl,rfl,hF⟩
   refine A.q0 [] [] [.on .n,.on .n] [(32,.int .i64 y2),(33,.pointer (some ⟨g1,2,none⟩))] ?_
   refine A.AL.on (dj:=31) rfl rfl ?_
   obtain⟨x9,hv10,hF⟩:=A.bd_some hF
   refine A.AL.ixb 0 5 (fun v:Int=>.int .i64 v) [a0.2.2.1,a0.2.2.2.1,a0.2.2.2.2.1,a0.2.2.2.2.2] hv10 ?_
   refine A.q0 [] [5] [.on (.e 0 0),.on .n,.n,.n] [(38,.bool (decide ((1048576:Int)<x9)))] ?_
   refine A.AL.cnp (j:=38) rfl hF (fun hb hF=>?_) (fun hb hF=>?_)
   ·refine A.q0 [] [] [.off,.off,.off,.off,.off,.off,.off,.off,.off,.off,.off,.n] [(50,.bool true)] ?_
    refine A.AL.done ?_
    exact A.j ⟨true,rfl,rfl,hF⟩
   refine A.q0 [0] [] [.on .n,.on .n,.on (.b 0 1),.on .n,.on .n] [(43,.bool (decide (a0.2.1≤y2)))] ?_
   refine A.AL.cnp (j:=43) rfl hF (fun hb hF=>?_) (fun hb hF=>?_)
   ·refine A.q0 [] [] [.on .n,.on .n] [(44,.int .i64 y2),(45,.pointer (some ⟨g1,2,none⟩))] ?_
    refine A.AL.on (dj:=43) rfl rfl ?_
    obtain⟨x11,hv12,hF⟩:=A.bd_some hF
    refine A.AL.ixb 0 6 (fun v:Int=>.int .i64 v) [a0.2.2.1,a0.2.2.2.1,a0.2.2.2.2.1,a0.2.2.2.2.2] hv12 ?_
    refine A.q0 [] [6] [.on (.e 0 0),.on .n,.on .n,.n] [(50,.bool (decide (x11≠0)))] ?_
    refine A.AL.done ?_
    exact A.j ⟨(decide (x11≠0)),rfl,rfl,hF⟩
   refine A.q0 [] [] [.off,.off,.off,.off,.off,.on .n,.n] [(50,.bool false)] ?_
   refine A.AL.done ?_
   exact A.j ⟨false,rfl,rfl,hF⟩
  rintro _ _ ⟨y5,rfl,rfl,hF⟩
  rw[F.R01_Check_j1]at hF
  refine A.AX.cnb rfl hF (fun hb hF=>?_) (fun hb hF=>?_)
  ·refine A.xl 1 ?_
   refine A.q0 [] [] [.n] [(2,.int .i64 10)] ?_
   refine A.dx 1 ?_
   obtain rfl:=Option.some.inj hF
   exact A.rt1 [] ⟨rfl,rfl,(A.hasl .i64 (10) rfl)⟩
  refine A.xl 3 ?_
  obtain⟨hc6,hF⟩:=A.gd_some hF
  refine A.q [] [] [.n,.n,.n] [Z.R64 (y2+1)] [(3,.int .i64 (y2+1))] hc6 ?_
  refine A.AL.done ?_
  exact A.j ⟨_,Nat.lt_succ_self _,⟨(y2+1),rfl,rfl,(Z.i64_has hc6),hF⟩⟩
 refine A.xl 3 ?_
 refine A.q0 [] [] [.n] [(2,.int .i64 0)] ?_
 refine A.dx 1 ?_
 obtain rfl:=Option.some.inj hF
 exact A.rt1 [] ⟨rfl,rfl,(A.hasl .i64 (0) rfl)⟩
def F.R05_Compare (a0:D43)(a1:D43):Option Int:=if a0.1<a1.1 then(some (-1))else(if a1.1<a0.1 then(some 1)else(if(Op.bytesLess a0.2.toList a1.2.toList)=true then(some (-1))else(if(!(Op.bytesLess a0.2.toList a1.2.toList||a0.2.toList==a1.2.toList))=true then(some 1)else(some 0))))
theorem R05_Compare_ok (a0:D43)(a1:D43)(h0_:IntKind.i64.has a0.1)(h1_:a0.2.size≤maxLen)(h2_:IntKind.i64.has a1.1)(h3_:a1.2.size≤maxLen)(r:Int)(hF:F.R05_Compare a0 a1=some r):
    A.Ct Tryz.prog 74 [.agg #[.int .i64 a0.1,.string a0.2],.agg #[.int .i64 a1.1,.string a1.2]] [] [] (fun v H'=>v=.int .i64 r∧H'=[]∧IntKind.i64.has r):=by
 refine A.Ct.enter Tryz.func74 rfl Tryz.ntmps74 rfl fun w0 F0=>?_
 rw[F.R05_Compare]at hF
 refine A.xl 1 ?_
 refine A.AL.box 0 (cs:=[.int .i64 a0.1,.string a0.2]) fun g1=>?_
 refine A.AL.box 1 (cs:=[.int .i64 a1.1,.string a1.2]) fun g2=>?_
 refine A.q0 [] [] [.n] [] ?_
 refine A.dl 3 ?_
 refine A.q0 [0,1] [] [.n,.b 0 0,.n,.b 1 0,.n,.n] [(5,.bool (decide (a0.1<a1.1)))] ?_
 refine A.dx 1 ?_
 refine A.AX.cnd rfl hF (fun hb hF=>?_) (fun hb hF=>?_)
 ·refine A.xl 1 ?_
  refine A.q0 [] [] [.n] [(4,.int .i64 (-1))] ?_
  refine A.dx 1 ?_
  obtain rfl:=Option.some.inj hF
  exact A.rt1 [] ⟨rfl,rfl,(A.hasl .i64 (-1) rfl)⟩
 refine A.xl 1 ?_
 refine A.q0 [0,1] [] [.n,.b 0 0,.n,.b 1 0,.n,.n] [(11,.bool (decide (a1.1<a0.1)))] ?_
 refine A.dx 1 ?_
 refine A.AX.cnd rfl hF (fun hb hF=>?_) (fun hb hF=>?_)
 ·refine A.xl 1 ?_
  refine A.q0 [] [] [.n] [(4,.int .i64 1)] ?_
  refine A.dx 1 ?_
  obtain rfl:=Option.some.inj hF
  exact A.rt1 [] ⟨rfl,rfl,(A.hasl .i64 (1) rfl)⟩
 refine A.xl 1 ?_
 refine A.q0 [0,1] [] [.n,.b 0 1,.n,.b 1 1,.n,.n] [(17,.bool (Op.bytesLess a0.2.toList a1.2.toList))] ?_
 refine A.dx 1 ?_
 refine A.AX.cnb rfl hF (fun hb hF=>?_) (fun hb hF=>?_)
 ·refine A.xl 1 ?_
  refine A.q0 [] [] [.n] [(4,.int .i64 (-1))] ?_
  refine A.dx 1 ?_
  obtain rfl:=Option.some.inj hF
  exact A.rt1 [] ⟨rfl,rfl,(A.hasl .i64 (-1) rfl)⟩
 refine A.xl 1 ?_
 refine A.q0 [0,1] [] [.n,.b 0 1,.n,.b 1 1,.n,.n] [(23,.bool (!(Op.bytesLess a0.2.toList a1.2.toList||a0.2.toList==a1.2.toList)))] ?_
 refine A.dx 1 ?_
 refine A.AX.cnb rfl hF (fun hb hF=>?_) (fun hb hF=>?_)
 ·refine A.xl 1 ?_
  refine A.q0 [] [] [.n] [(4,.int .i64 1)] ?_
  refine A.dx 1 ?_
  obtain rfl:=Option.some.inj hF
  exact A.rt1 [] ⟨rfl,rfl,(A.hasl .i64 (1) rfl)⟩
 refine A.xl 1 ?_
 refine A.q0 [] [] [.n] [(4,.int .i64 0)] ?_
 refine A.dx 1 ?_
 obtain rfl:=Option.some.inj hF
 exact A.rt1 [] ⟨rfl,rfl,(A.hasl .i64 (0) rfl)⟩
def F.R05_Check_j1 (y2:Bool):Option Int:=if y2=true then(some 50)else(some 0)
def F.R05_Check (a0:D43):Option Int:=if(64:Int)<(a0.2.size:Int)then(F.R05_Check_j1 true)else((F.R05_Valid a0.2).bind fun r3=>(F.R05_Check_j1 (!r3)))
theorem R05_Check_ok (a0:D43)(h0_:IntKind.i64.has a0.1)(h1_:a0.2.size≤maxLen)(r:Int)(hF:F.R05_Check a0=some r):
    A.Ct Tryz.prog 27 [.agg #[.int .i64 a0.1,.string a0.2]] [] [] (fun v H'=>v=.int .i64 r∧H'=[]∧IntKind.i64.has r):=by
 refine A.Ct.enter Tryz.func27 rfl Tryz.ntmps27 rfl fun w0 F0=>?_
 rw[F.R05_Check]at hF
 refine A.xl 1 ?_
 refine A.AL.box 0 (cs:=[.int .i64 a0.1,.string a0.2]) fun g1=>?_
 refine A.q0 [] [] [.n] [] ?_
 refine A.dx 2 ?_
 refine A.AX.join [] [] (fun nl nh=>∃(y2:Bool),nl=[(12,.bool y2)]∧nh=[]∧F.R05_Check_j1 y2=some r) ?_ ?_
 ·refine A.xl 0 ?_
  refine A.q0 [0] [] [.n,.b 0 1,.n,.n,.n] [(7,.bool (decide ((64:Int)<(a0.2.size:Int))))] ?_
  refine A.AL.cnp (j:=7) rfl hF (fun hb hF=>?_) (fun hb hF=>?_)
  ·refine A.q0 [] [] [.off,.off,.off,.off,.n] [(12,.bool true)] ?_
   refine A.AL.done ?_
   exact A.j ⟨true,rfl,rfl,hF⟩
  refine A.q0 [0] [] [.on .n,.on (.b 0 1)] [(9,.string a0.2)] ?_
  refine A.AL.on (dj:=7) rfl rfl ?_
  obtain⟨r3,hv4,hF⟩:=A.bd_some hF
  refine A.AL.call 1 [] (first:=[]) (cap:=[]) cf56 (R05_Valid_ok a0.2 h1_ r3 hv4) .nil ?_
  rintro _ _ ⟨rfl,rfl⟩
  refine⟨by kernel_rfl,?_⟩
  refine A.q0 [] [] [.on .n,.n] [(12,.bool (!r3))] ?_
  refine A.AL.done ?_
  exact A.j ⟨(!r3),rfl,rfl,hF⟩
 rintro _ _ ⟨y2,rfl,rfl,hF⟩
 rw[F.R05_Check_j1]at hF
 refine A.AX.cnb rfl hF (fun hb hF=>?_) (fun hb hF=>?_)
 ·refine A.xl 1 ?_
  refine A.q0 [] [] [.n] [(2,.int .i64 50)] ?_
  refine A.dx 1 ?_
  obtain rfl:=Option.some.inj hF
  exact A.rt1 [] ⟨rfl,rfl,(A.hasl .i64 (50) rfl)⟩
 refine A.xl 3 ?_
 refine A.q0 [] [] [.n] [(2,.int .i64 0)] ?_
 refine A.dx 1 ?_
 obtain rfl:=Option.some.inj hF
 exact A.rt1 [] ⟨rfl,rfl,(A.hasl .i64 (0) rfl)⟩
end Go.Proofs.YtbljnlkhebiniaaGreatDoor
end
section
set_option linter.unusedVariables false
set_option linter.unusedSimpArgs false
set_option maxRecDepth 20000
set_option maxHeartbeats 8000000
set_option synthInstance.maxSize 1000000
set_option synthInstance.maxHeartbeats 400000
namespace Go.Proofs.YtbljnlkhebiniaaGreatDoor
open Go.RowKit
def F.R05_CheckBag_j1 (k4:Int→Option Int)(y13:Int)(y16:Bool):Option Int:=if y16=true then(some 51)else(A.gd (Z.R64 (y13+1)) (k4 (y13+1)))
def F.R05_CheckBag_l2 (a0:(List D69)):Nat→Int→Option Int
 |0,_=>none
 |f+1,y13=>if y13<((a0).length:Int)then((A.ix a0 y13).bind fun x18=>(if x18.2<1 then(F.R05_CheckBag_j1 (F.R05_CheckBag_l2 a0 f) y13 true)else((A.ix a0 y13).bind fun x24=>(if(1048576:Int)<x24.2 then(F.R05_CheckBag_j1 (F.R05_CheckBag_l2 a0 f) y13 true)else(if(0:Int)<y13 then(A.gd (Z.R64 (y13-1)) ((A.ix a0 (y13-1)).bind fun x31=>((A.ix a0 y13).bind fun x37=>((F.R05_Compare (x31.1.1,x31.1.2) (x37.1.1,x37.1.2)).bind fun r43=>(F.R05_CheckBag_j1 (F.R05_CheckBag_l2 a0 f) y13 (decide ((0:Int)≤r43)))))))else(F.R05_CheckBag_j1 (F.R05_CheckBag_l2 a0 f) y13 false))))))else(some 0)
def F.R05_CheckBag_l3 (a0:(List D69)):Nat→Int→Option Int
 |0,_=>none
 |f+1,y1=>if y1<((a0).length:Int)then((A.ix a0 y1).bind fun x4=>((F.R05_Check (x4.1.1,x4.1.2)).bind fun r9=>(if r9≠0 then(some r9)else(A.gd (Z.R64 (y1+1)) ((F.R05_CheckBag_l3 a0 f) (y1+1))))))else(F.R05_CheckBag_l2 a0 A.FU 0)
def F.R05_CheckBag (a0:(List D69)):Option Int:=F.R05_CheckBag_l3 a0 A.FU 0
theorem R05_CheckBag_ok (a0:(List D69))(A0_:Option Addr)(c1_:Nat)(r:Int)(hF:F.R05_CheckBag a0=some r):
    A.Ct Tryz.prog 40 [.slice A0_ ((a0).length) c1_] [(0,.ln T69 A0_ c1_ a0)] [] (fun v H'=>v=.int .i64 r∧H'=[]∧IntKind.i64.has r):=by
 refine A.Ct.enter Tryz.func40 rfl Tryz.ntmps40 rfl fun w0 F0=>?_
 rw[F.R05_CheckBag]at hF
 refine A.xl 1 ?_
 refine A.q0 [] [] [.n] [] ?_
 refine A.dl 3 ?_
 refine A.q0 [] [] [.n] [(3,.int .i64 0)] ?_
 refine A.dx 2 ?_
 refine A.lp_ [0] [0] (fun f nl nh=>∃(y1:Int),nl=[(3,.int .i64 y1)]∧nh=[]∧IntKind.i64.has y1∧F.R05_CheckBag_l3 a0 f y1=some r) ⟨0,rfl,rfl,(A.hasl .i64 (0) rfl),hF⟩ ?_
 rintro f3 _ _ ⟨y1,rfl,rfl,hy2,hF⟩
 rcases f3 with _|f3
 ·exact A.no0 hF
 rw[F.R05_CheckBag_l3]at hF
 refine A.xl 2 ?_
 refine A.q0 [] [] [.n,.n,.n,.n] [(9,.bool (decide (y1<((a0).length:Int))))] ?_
 refine A.dx 1 ?_
 refine A.AX.cnd rfl hF (fun hb hF=>?_) (fun hb hF=>?_)
 ·refine A.xl 5 ?_
  refine A.q0 [] [] [.n,.n] [(12,.slice A0_ ((a0).length) c1_),(13,.int .i64 y1)] ?_
  obtain⟨x4,hv5,hF⟩:=A.bd_some hF
  refine A.AL.ixl 0 347 hv5 fun ho6=>?_
  intro b7 o8
  refine A.q0 [] [347] [.n,.e 0 0] [(16,.agg #[.int .i64 x4.1.1,.string x4.1.2])] ?_
  obtain⟨r9,hv10,hF⟩:=A.bd_some hF
  refine A.AL.call 348 [] (first:=[]) (cap:=[]) cf27 (R05_Check_ok (x4.1.1,x4.1.2) ho6.1.1 ho6.1.2 r9 hv10) .nil ?_
  rintro _ _ ⟨rfl,rfl,hr11⟩
  refine⟨by kernel_rfl,?_⟩
  refine A.q0 [] [] [.n] [(4,.int .i64 r9)] ?_
  refine A.dl 2 ?_
  refine A.q0 [] [] [.n,.n] [(19,.bool (decide (r9≠0)))] ?_
  refine A.dx 1 ?_
  refine A.AX.cnd rfl hF (fun hb hF=>?_) (fun hb hF=>?_)
  ·refine A.xl 1 ?_
   refine A.q0 [] [] [.n,.n] [(2,.int .i64 r9)] ?_
   refine A.dx 1 ?_
   obtain rfl:=Option.some.inj hF
   exact A.rt1 [] ⟨rfl,rfl,hr11⟩
  refine A.xl 3 ?_
  obtain⟨hc12,hF⟩:=A.gd_some hF
  refine A.q [] [] [.n,.n,.n] [Z.R64 (y1+1)] [(3,.int .i64 (y1+1))] hc12 ?_
  refine A.AL.done ?_
  exact A.j ⟨_,Nat.lt_succ_self _,⟨(y1+1),rfl,rfl,(Z.i64_has hc12),hF⟩⟩
 refine A.xl 4 ?_
 refine A.q0 [] [] [.n] [(5,.int .i64 0)] ?_
 refine A.dx 2 ?_
 refine A.lp_ [0] [0] (fun f nl nh=>∃(y13:Int),nl=[(5,.int .i64 y13)]∧nh=[]∧IntKind.i64.has y13∧F.R05_CheckBag_l2 a0 f y13=some r) ⟨0,rfl,rfl,(A.hasl .i64 (0) rfl),hF⟩ ?_
 rintro f15 _ _ ⟨y13,rfl,rfl,hy14,hF⟩
 rcases f15 with _|f15
 ·exact A.no0 hF
 rw[F.R05_CheckBag_l2]at hF
 refine A.xl 2 ?_
 refine A.q0 [] [] [.n,.n,.n,.n] [(24,.bool (decide (y13<((a0).length:Int))))] ?_
 refine A.dx 1 ?_
 refine A.AX.cnd rfl hF (fun hb hF=>?_) (fun hb hF=>?_)
 ·refine A.xx 4 ?_
  refine A.AX.join [0,5] [0] (fun nl nh=>∃(y16:Bool),nl=[(59,.bool y16)]∧nh=[]∧F.R05_CheckBag_j1 (F.R05_CheckBag_l2 a0 f15) y13 y16=some r) ?_ ?_
  ·refine A.AX.dr mixed 33 33 (A.mb 33 0) ?_
   refine A.hq A.pb [] [0] [] [] (A.mb 33 3) 31 [(0,.n),(1,.n)] [(27,.slice A0_ ((a0).length) c1_),(28,.int .i64 y13)] ?_
   obtain⟨x18,hv19,hF⟩:=A.bd_some hF
   refine A.AH.pkl 0 476 hv19 fun ho20=>?_
   intro b22 o23 hA21
   refine A.AH.v A.pb [0] [0,476] 2 (A.mb 33 7) rfl (fun a w hf hh=>A.r_ixa (t:=T69) hv19 hA21 hf) ?_
   refine A.hq A.pb [0,476] [0,476] [] [476] (A.mb 33 127) 26 [(3,.n),(4,.e 0 2),(5,.n),(6,.n)] [(33,.bool (decide (x18.2<1)))] ?_
   refine A.AH.cnp (j:=33) rfl hF (fun hb hF=>?_) (fun hb hF=>?_)
   ·refine A.hq A.pb [0,476] [0,476] [] [] (A.mb 33 8589934591) 0 [(7,.off),(8,.off),(9,.off),(10,.off),(11,.off),(12,.off),(13,.n),(14,.n),(15,.off),(16,.off),(17,.off),(18,.off),(19,.off),(24,.off),(25,.off),(20,.off),(26,.off),(21,.off),(27,.off),(22,.off),(28,.off),(23,.off),(29,.off),(30,.off),(31,.off),(32,.n)] [(59,.bool true)] ?_
    refine A.AH.done ?_
    exact A.j ⟨true,rfl,rfl,hF⟩
   refine A.hq A.pb [0,476] [0,476] [] [] (A.mb 33 511) 24 [(7,.on .n),(8,.on .n)] [(34,.slice A0_ ((a0).length) c1_),(35,.int .i64 y13)] ?_
   obtain⟨x24,hv25,hF⟩:=A.bd_some hF
   refine A.AH.pkl 0 477 hv25 fun ho26=>?_
   intro b28 o29 hA27
   refine A.AH.vg A.pb [0,476] [0,476,477] 9 (A.mb 33 1023) (dj:=33) rfl (fun a w hf hh=>A.r_ixa (t:=T69) hv25 hA27 hf) ?_
   refine A.hq A.pb [0,476,477] [0,476,477] [] [477] (A.mb 33 32767) 18 [(10,.on .n),(11,.on (.e 0 2)),(12,.on .n),(13,.n),(14,.n)] [(41,.bool (decide ((1048576:Int)<x24.2)))] ?_
   refine A.AH.cnp (j:=41) rfl hF (fun hb hF=>?_) (fun hb hF=>?_)
   ·refine A.hq A.pb [0,476,477] [0,476,477] [] [] (A.mb 33 8589934591) 0 [(15,.off),(16,.off),(17,.off),(18,.off),(19,.off),(24,.off),(25,.off),(20,.off),(26,.off),(21,.off),(27,.off),(22,.off),(28,.off),(23,.off),(29,.off),(30,.off),(31,.off),(32,.n)] [(59,.bool true)] ?_
    refine A.AH.done ?_
    exact A.j ⟨true,rfl,rfl,hF⟩
   refine A.hq A.pb [0,476,477] [0,476,477] [] [] (A.mb 33 262143) 15 [(15,.on .n),(16,.on .n),(17,.on .n)] [(44,.bool (decide ((0:Int)<y13)))] ?_
   refine A.AH.cnp (j:=44) rfl hF (fun hb hF=>?_) (fun hb hF=>?_)
   ·obtain⟨hc30,hF⟩:=A.gd_some hF
    refine A.AH.q A.pb [0,476,477] [0,476,477] [] [] (A.mb 33 52428799) 10 [(18,.on .n),(19,.on .n),(24,.on .n),(25,.on .n),(20,.on .n)] [45,51,52,47] [Z.R64 (y13-1)] [(45,.slice A0_ ((a0).length) c1_),(51,.slice A0_ ((a0).length) c1_),(52,.int .i64 y13),(47,.int .i64 (y13-1))] hc30 ?_
    obtain⟨x31,hv32,hF⟩:=A.bd_some hF
    refine A.AH.pkl 0 478 hv32 fun ho33=>?_
    intro b35 o36 hA34
    refine A.AH.vg A.pb [0,476,477] [0,476,477,478] 21 (A.mb 33 54525951) (dj:=44) rfl (fun a w hf hh=>A.r_ixa (t:=T69) hv32 hA34 hf) ?_
    refine A.hq A.pb [0,476,477,478] [0,476,477,478] [] [478] (A.mb 33 67108863) 7 [(22,.on .n),(23,.on (.e 0 0))] [(50,.agg #[.int .i64 x31.1.1,.string x31.1.2])] ?_
    obtain⟨x37,hv38,hF⟩:=A.bd_some hF
    refine A.AH.pkl 0 479 hv38 fun ho39=>?_
    intro b41 o42 hA40
    refine A.AH.vg A.pb [0,476,477,478] [0,476,477,478,479] 26 (A.mb 33 134217727) (dj:=44) rfl (fun a w hf hh=>A.r_ixa (t:=T69) hv38 hA40 hf) ?_
    refine A.hq A.pb [0,476,477,478,479] [0,476,477,478,479] [] [479] (A.mb 33 536870911) 4 [(27,.on .n),(28,.on (.e 0 0))] [(55,.agg #[.int .i64 x37.1.1,.string x37.1.2])] ?_
    refine A.AH.one 29 ?_
    refine A.AL.on (dj:=44) rfl rfl ?_
    obtain⟨r43,hv44,hF⟩:=A.bd_some hF
    refine A.AL.call 480 [] (first:=[]) (cap:=[]) cf74 (R05_Compare_ok (x31.1.1,x31.1.2) (x37.1.1,x37.1.2) ho33.1.1 ho33.1.2 ho39.1.1 ho39.1.2 r43 hv44) .nil ?_
    rintro _ _ ⟨rfl,rfl,hr45⟩
    refine⟨by kernel_rfl,?_⟩
    refine A.AH.nx (A.mb 33 1073741823) [0,476,477,478,479] ?_
    refine A.hq A.pb [0,476,477,478,479] [0,476,477,478,479] [] [] (A.mb 33 8589934591) 0 [(30,.on .n),(31,.on .n),(32,.n)] [(59,.bool (decide ((0:Int)≤r43)))] ?_
    refine A.AH.done ?_
    exact A.j ⟨(decide ((0:Int)≤r43)),rfl,rfl,hF⟩
   refine A.hq A.pb [0,476,477] [0,476,477] [] [] (A.mb 33 8589934591) 0 [(18,.off),(19,.off),(24,.off),(25,.off),(20,.off),(26,.off),(21,.off),(27,.off),(22,.off),(28,.off),(23,.off),(29,.off),(30,.off),(31,.on .n),(32,.n)] [(59,.bool false)] ?_
   refine A.AH.done ?_
   exact A.j ⟨false,rfl,rfl,hF⟩
  rintro _ _ ⟨y16,rfl,rfl,hF⟩
  rw[F.R05_CheckBag_j1]at hF
  refine A.AX.cnb rfl hF (fun hb hF=>?_) (fun hb hF=>?_)
  ·refine A.xl 1 ?_
   refine A.q0 [] [] [.n] [(2,.int .i64 51)] ?_
   refine A.dx 1 ?_
   obtain rfl:=Option.some.inj hF
   exact A.rt1 [] ⟨rfl,rfl,(A.hasl .i64 (51) rfl)⟩
  refine A.xl 3 ?_
  obtain⟨hc17,hF⟩:=A.gd_some hF
  refine A.q [] [] [.n,.n,.n] [Z.R64 (y13+1)] [(5,.int .i64 (y13+1))] hc17 ?_
  refine A.AL.done ?_
  exact A.j ⟨_,Nat.lt_succ_self _,⟨(y13+1),rfl,rfl,(Z.i64_has hc17),hF⟩⟩
 refine A.xl 3 ?_
 refine A.q0 [] [] [.n] [(2,.int .i64 0)] ?_
 refine A.dx 1 ?_
 obtain rfl:=Option.some.inj hF
 exact A.rt1 [] ⟨rfl,rfl,(A.hasl .i64 (0) rfl)⟩
def F.R05_Number_l1 (a0:Int):Nat→Int→ByteArray→Option ByteArray
 |0,_,_=>none
 |f+1,y3,y5=>A.gd ((10:Int)≠0) (A.gd (0≤Int.tmod y3 10∧Int.tmod y3 10≤IntKind.u64.wrap ((Int.tmod y3 10)+1)∧IntKind.u64.wrap ((Int.tmod y3 10)+1)≤((ByteArray.mk #[48,49,50,51,52,53,54,55,56,57,97,98,99,100,101,102]).size:Int)) (A.gd (((ByteArray.mk #[48,49,50,51,52,53,54,55,56,57,97,98,99,100,101,102]).extract (Int.tmod y3 10).toNat (IntKind.u64.wrap ((Int.tmod y3 10)+1)).toNat).size+y5.size≤9223372036854775807) (A.gd ((10:Int)≠0) (if IntKind.u64.wrap (Int.tdiv y3 10)=0 then(if a0<0 then(A.gd ((ByteArray.mk #[45]).size+(((ByteArray.mk #[48,49,50,51,52,53,54,55,56,57,97,98,99,100,101,102]).extract (Int.tmod y3 10).toNat (IntKind.u64.wrap ((Int.tmod y3 10)+1)).toNat)++y5).size≤9223372036854775807) (some ((ByteArray.mk #[45])++(((ByteArray.mk #[48,49,50,51,52,53,54,55,56,57,97,98,99,100,101,102]).extract (Int.tmod y3 10).toNat (IntKind.u64.wrap ((Int.tmod y3 10)+1)).toNat)++y5))))else(some (((ByteArray.mk #[48,49,50,51,52,53,54,55,56,57,97,98,99,100,101,102]).extract (Int.tmod y3 10).toNat (IntKind.u64.wrap ((Int.tmod y3 10)+1)).toNat)++y5)))else((F.R05_Number_l1 a0 f) (IntKind.u64.wrap (Int.tdiv y3 10)) (((ByteArray.mk #[48,49,50,51,52,53,54,55,56,57,97,98,99,100,101,102]).extract (Int.tmod y3 10).toNat (IntKind.u64.wrap ((Int.tmod y3 10)+1)).toNat)++y5))))))
def F.R05_Number_j2 (a0:Int)(y1:Int):Option ByteArray:=F.R05_Number_l1 a0 A.FU y1 (ByteArray.mk #[])
def F.R05_Number (a0:Int):Option ByteArray:=if a0<0 then(F.R05_Number_j2 a0 (IntKind.u64.wrap (-(IntKind.u64.wrap (a0)))))else(F.R05_Number_j2 a0 (IntKind.u64.wrap (a0)))
theorem R05_Number_ok (a0:Int)(h0_:IntKind.i64.has a0)(r:ByteArray)(hF:F.R05_Number a0=some r):
    A.Ct Tryz.prog 75 [.int .i64 a0] [] [] (fun v H'=>v=.string r∧H'=[]∧r.size≤maxLen):=by
 refine A.Ct.enter Tryz.func75 rfl Tryz.ntmps75 rfl fun w0 F0=>?_
 rw[F.R05_Number]at hF
 refine A.xl 1 ?_
 refine A.q0 [] [] [.n] [] ?_
 refine A.dl 2 ?_
 refine A.q0 [] [] [.n,.n,.n] [(3,.int .u64 (IntKind.u64.wrap (a0)))] ?_
 refine A.dx 1 ?_
 refine A.AX.join [0] [] (fun nl nh=>∃(y1:Int),nl=[(3,.int .u64 y1)]∧nh=[]∧IntKind.u64.has y1∧F.R05_Number_j2 a0 y1=some r) ?_ ?_
 ·refine A.xl 1 ?_
  refine A.q0 [] [] [.n,.n] [(9,.bool (decide (a0<0)))] ?_
  refine A.dx 1 ?_
  refine A.AX.cnd rfl hF (fun hb hF=>?_) (fun hb hF=>?_)
  ·refine A.xl 0 ?_
   refine A.q0 [] [] [.n] [(10,.int .u64 (IntKind.u64.wrap (a0)))] ?_
   refine A.AL.val rfl (fun a w hf hh=>A.r_neg hf) ?_
   refine A.q0 [] [] [.n] [(3,.int .u64 (IntKind.u64.wrap (-(IntKind.u64.wrap (a0)))))] ?_
   refine A.AL.done ?_
   exact A.j ⟨(IntKind.u64.wrap (-(IntKind.u64.wrap (a0)))),rfl,rfl,(A.wrap_has _ _),hF⟩
  refine A.xe 1 ?_
  exact A.j ⟨(IntKind.u64.wrap (a0)),rfl,rfl,(A.wrap_has _ _),hF⟩
 rintro _ _ ⟨y1,rfl,rfl,hy2,hF⟩
 rw[F.R05_Number_j2]at hF
 refine A.xl 1 ?_
 refine A.q0 [] [] [.n] [(4,.string (ByteArray.mk #[]))] ?_
 refine A.dx 3 ?_
 refine A.lp_ [0] [] (fun f nl nh=>∃(y3:Int),∃(y5:ByteArray),nl=[(3,.int .u64 y3),(4,.string y5)]∧nh=[]∧IntKind.u64.has y3∧y5.size≤maxLen∧F.R05_Number_l1 a0 f y3 y5=some r) ⟨y1,(ByteArray.mk #[]),rfl,rfl,hy2,(A.szl (ByteArray.mk #[]) rfl),hF⟩ ?_
 rintro f7 _ _ ⟨y3,y5,rfl,rfl,hy4,hy6,hF⟩
 rcases f7 with _|f7
 ·exact A.no0 hF
 rw[F.R05_Number_l1]at hF
 refine A.xl 2 ?_
 obtain⟨hc8,hF⟩:=A.gd_some hF
 refine A.q [] [] [.n,.n,.n] [(10:Int)≠0] [(5,.int .u64 (Int.tmod y3 10))] hc8 ?_
 refine A.dl 2 ?_
 refine A.q0 [] [] [.n,.n,.n] [(14,.int .u64 (Int.tmod y3 10)),(16,.int .u64 (IntKind.u64.wrap ((Int.tmod y3 10)+1)))] ?_
 obtain⟨hc9,hF⟩:=A.gd_some hF
 refine A.AL.slb hc9 ?_
 obtain⟨hc10,hF⟩:=A.gd_some hF
 refine A.q [] [] [.n,.n,.n] [((ByteArray.mk #[48,49,50,51,52,53,54,55,56,57,97,98,99,100,101,102]).extract (Int.tmod y3 10).toNat (IntKind.u64.wrap ((Int.tmod y3 10)+1)).toNat).size+y5.size≤9223372036854775807] [(4,.string (((ByteArray.mk #[48,49,50,51,52,53,54,55,56,57,97,98,99,100,101,102]).extract (Int.tmod y3 10).toNat (IntKind.u64.wrap ((Int.tmod y3 10)+1)).toNat)++y5))] hc10 ?_
 refine A.dl 2 ?_
 refine A.q0 [] [] [.n] [(20,.int .u64 y3)] ?_
 obtain⟨hc11,hF⟩:=A.gd_some hF
 refine A.AL.val rfl (fun a w hf hh=>Z.r_quo (hf.eval rfl) (hf.eval rfl) hc11) ?_
 refine A.q0 [] [] [.n] [(3,.int .u64 (IntKind.u64.wrap (Int.tdiv y3 10)))] ?_
 refine A.dl 2 ?_
 refine A.q0 [] [] [.n,.n] [(23,.bool (decide (IntKind.u64.wrap (Int.tdiv y3 10)=0)))] ?_
 refine A.dx 1 ?_
 refine A.AX.cnd rfl hF (fun hb hF=>?_) (fun hb hF=>?_)
 ·refine A.xl 4 ?_
  refine A.q0 [] [] [.n,.n] [(25,.bool (decide (a0<0)))] ?_
  refine A.dx 1 ?_
  refine A.AX.cnd rfl hF (fun hb hF=>?_) (fun hb hF=>?_)
  ·refine A.xl 1 ?_
   obtain⟨hc12,hF⟩:=A.gd_some hF
   refine A.q [] [] [.n,.n,.n] [(ByteArray.mk #[45]).size+(((ByteArray.mk #[48,49,50,51,52,53,54,55,56,57,97,98,99,100,101,102]).extract (Int.tmod y3 10).toNat (IntKind.u64.wrap ((Int.tmod y3 10)+1)).toNat)++y5).size≤9223372036854775807] [(2,.string ((ByteArray.mk #[45])++(((ByteArray.mk #[48,49,50,51,52,53,54,55,56,57,97,98,99,100,101,102]).extract (Int.tmod y3 10).toNat (IntKind.u64.wrap ((Int.tmod y3 10)+1)).toNat)++y5)))] hc12 ?_
   refine A.dx 1 ?_
   obtain rfl:=Option.some.inj hF
   exact A.rt1 [] ⟨rfl,rfl,(A.cat_le hc12)⟩
  refine A.xl 3 ?_
  refine A.q0 [] [] [.n,.n] [(2,.string (((ByteArray.mk #[48,49,50,51,52,53,54,55,56,57,97,98,99,100,101,102]).extract (Int.tmod y3 10).toNat (IntKind.u64.wrap ((Int.tmod y3 10)+1)).toNat)++y5))] ?_
  refine A.dx 1 ?_
  obtain rfl:=Option.some.inj hF
  exact A.rt1 [] ⟨rfl,rfl,(A.cat_le hc10)⟩
 refine A.xe 2 ?_
 exact A.j ⟨_,Nat.lt_succ_self _,⟨(IntKind.u64.wrap (Int.tdiv y3 10)),(((ByteArray.mk #[48,49,50,51,52,53,54,55,56,57,97,98,99,100,101,102]).extract (Int.tmod y3 10).toNat (IntKind.u64.wrap ((Int.tmod y3 10)+1)).toNat)++y5),rfl,rfl,(A.wrap_has _ _),(A.cat_le hc10),hF⟩⟩
def F.R17_count_l1 (a0:(List D69)):Nat→Int→Int→Option Int
 |0,_,_=>none
 |f+1,y1,y3=>if y3<((a0).length:Int)then((A.ix a0 y3).bind fun x6=>(A.gd (Z.R64 (y1+x6.2)) (A.gd (Z.R64 (y3+1)) ((F.R17_count_l1 a0 f) (y1+x6.2) (y3+1)))))else(some y1)
def F.R17_count (a0:(List D69)):Option Int:=F.R17_count_l1 a0 A.FU 0 0
theorem R17_count_ok (a0:(List D69))(A0_:Option Addr)(c1_:Nat)(r:Int)(hF:F.R17_count a0=some r):
    A.Ct Tryz.prog 76 [.slice A0_ ((a0).length) c1_] [(0,.ln T69 A0_ c1_ a0)] [] (fun v H'=>v=.int .i64 r∧H'=[]∧IntKind.i64.has r):=by
 refine A.Ct.enter Tryz.func76 rfl Tryz.ntmps76 rfl fun w0 F0=>?_
 rw[F.R17_count]at hF
 refine A.xl 1 ?_
 refine A.q0 [] [] [.n] [] ?_
 refine A.dl 2 ?_
 refine A.q0 [] [] [.n] [(3,.int .i64 0)] ?_
 refine A.dl 3 ?_
 refine A.q0 [] [] [.n] [(4,.int .i64 0)] ?_
 refine A.dx 2 ?_
 refine A.lp_ [0] [0] (fun f nl nh=>∃(y1:Int),∃(y3:Int),nl=[(3,.int .i64 y1),(4,.int .i64 y3)]∧nh=[]∧IntKind.i64.has y1∧IntKind.i64.has y3∧F.R17_count_l1 a0 f y1 y3=some r) ⟨0,0,rfl,rfl,(A.hasl .i64 (0) rfl),(A.hasl .i64 (0) rfl),hF⟩ ?_
 rintro f5 _ _ ⟨y1,y3,rfl,rfl,hy2,hy4,hF⟩
 rcases f5 with _|f5
 ·exact A.no0 hF
 rw[F.R17_count_l1]at hF
 refine A.xl 2 ?_
 refine A.q0 [] [] [.n,.n,.n,.n] [(8,.bool (decide (y3<((a0).length:Int))))] ?_
 refine A.dx 1 ?_
 refine A.AX.cnd rfl hF (fun hb hF=>?_) (fun hb hF=>?_)
 ·refine A.xl 4 ?_
  refine A.q0 [] [] [.n,.n,.n] [(11,.int .i64 y1),(12,.slice A0_ ((a0).length) c1_),(13,.int .i64 y3)] ?_
  obtain⟨x6,hv7,hF⟩:=A.bd_some hF
  refine A.AL.ixl 0 3 hv7 fun ho8=>?_
  intro b9 o10
  obtain⟨hc11,hF⟩:=A.gd_some hF
  refine A.q [] [3] [.n,.e 0 2,.n,.n] [Z.R64 (y1+x6.2)] [(3,.int .i64 (y1+x6.2))] hc11 ?_
  refine A.dl 2 ?_
  obtain⟨hc12,hF⟩:=A.gd_some hF
  refine A.q [] [] [.n,.n,.n] [Z.R64 (y3+1)] [(4,.int .i64 (y3+1))] hc12 ?_
  refine A.AL.done ?_
  exact A.j ⟨_,Nat.lt_succ_self _,⟨(y1+x6.2),(y3+1),rfl,rfl,(Z.i64_has hc11),(Z.i64_has hc12),hF⟩⟩
 refine A.xl 3 ?_
 refine A.q0 [] [] [.n,.n] [(2,.int .i64 y1)] ?_
 refine A.dx 1 ?_
 obtain rfl:=Option.some.inj hF
 exact A.rt1 [] ⟨rfl,rfl,hy2⟩
def F.R06_longer (a0:ByteArray)(a1:ByteArray):Option Bool:=(F.R05_Runes a0).bind fun r1=>((F.R05_Runes a1).bind fun r5=>(some (decide (((r5).length:Int)<((r1).length:Int)))))
theorem R06_longer_ok (a0:ByteArray)(a1:ByteArray)(h0_:a0.size≤maxLen)(h1_:a1.size≤maxLen)(r:Bool)(hF:F.R06_longer a0 a1=some r):
    A.Ct Tryz.prog 118 [.string a0,.string a1] [] [] (fun v H'=>v=.bool r∧H'=[]):=by
 refine A.Ct.enter Tryz.func118 rfl Tryz.ntmps118 rfl fun w0 F0=>?_
 rw[F.R06_longer]at hF
 refine A.xl 1 ?_
 refine A.q0 [] [] [.n] [] ?_
 refine A.dl 2 ?_
 refine A.q0 [] [] [.n] [(5,.string a0)] ?_
 obtain⟨r1,hv2,hF⟩:=A.bd_some hF
 refine A.AL.call 0 [] (first:=[]) (cap:=[]) cf117 (R05_Runes_ok a0 h0_ r1 hv2) .nil ?_
 rintro _ _ ⟨A3,c4,rfl,rfl⟩
 refine⟨by kernel_rfl,?_⟩
 refine A.q0 [] [] [.n,.n] [(7,.int .i64 ((r1).length:Int)),(8,.string a1)] ?_
 obtain⟨r5,hv6,hF⟩:=A.bd_some hF
 refine A.AL.call 40 [] (first:=[]) (cap:=[]) cf117 (R05_Runes_ok a1 h1_ r5 hv6) .nil ?_
 rintro _ _ ⟨A7,c8,rfl,rfl⟩
 refine⟨by kernel_rfl,?_⟩
 refine A.q0 [] [] [.n,.n,.n] [(4,.bool (decide (((r5).length:Int)<((r1).length:Int))))] ?_
 refine A.dx 1 ?_
 obtain rfl:=Option.some.inj hF
 exact A.rt1 [] ⟨rfl,rfl⟩
def F.R05_Cut_j1 (k1:Int→Int→Option ByteArray)(y7:Int)(y10:Int):Option ByteArray:=A.gd (Z.R64 (y7+1)) (k1 y10 (y7+1))
def F.R05_Cut_j2 (k1:Int→Int→Option ByteArray)(a1:Int)(y5:Int)(y7:Int)(y13:Int):Option ByteArray:=if y13≤a1 then(F.R05_Cut_j1 k1 y7 y13)else(F.R05_Cut_j1 k1 y7 y5)
def F.R05_Cut_l3 (a0:ByteArray)(a1:Int)(r1:(List D174)):Nat→Int→Int→Option ByteArray
 |0,_,_=>none
 |f+1,y5,y7=>if y7<((r1).length:Int)then(A.gd (Z.R64 (y7+1)) (if y7+1<((r1).length:Int)then(A.gd (Z.R64 (y7+1)) ((A.ix r1 (y7+1)).bind fun x17=>(F.R05_Cut_j2 (F.R05_Cut_l3 a0 a1 r1 f) a1 y5 y7 x17.1)))else(F.R05_Cut_j2 (F.R05_Cut_l3 a0 a1 r1 f) a1 y5 y7 (a0.size:Int))))else(A.gd (0≤y5∧y5≤(a0.size:Int)) (some (a0.extract 0 y5.toNat)))
def F.R05_Cut (a0:ByteArray)(a1:Int):Option ByteArray:=(F.R05_Runes a0).bind fun r1=>(F.R05_Cut_l3 a0 a1 r1 A.FU 0 0)
theorem R05_Cut_ok (a0:ByteArray)(a1:Int)(h0_:a0.size≤maxLen)(h1_:IntKind.i64.has a1)(r:ByteArray)(hF:F.R05_Cut a0 a1=some r):
    A.Ct Tryz.prog 119 [.string a0,.int .i64 a1] [] [] (fun v H'=>v=.string r∧H'=[]∧r.size≤maxLen):=by
 refine A.Ct.enter Tryz.func119 rfl Tryz.ntmps119 rfl fun w0 F0=>?_
 rw[F.R05_Cut]at hF
 refine A.xl 1 ?_
 refine A.q0 [] [] [.n] [] ?_
 refine A.dl 2 ?_
 refine A.q0 [] [] [.n] [(9,.string a0)] ?_
 obtain⟨r1,hv2,hF⟩:=A.bd_some hF
 refine A.AL.call 0 [] (first:=[]) (cap:=[]) cf117 (R05_Runes_ok a0 h0_ r1 hv2) .nil ?_
 rintro _ _ ⟨A3,c4,rfl,rfl⟩
 refine⟨by kernel_rfl,?_⟩
 refine A.q0 [] [] [.n] [(5,.slice A3 ((r1).length) c4)] ?_
 refine A.dl 2 ?_
 refine A.q0 [] [] [.n] [(6,.int .i64 0)] ?_
 refine A.dl 3 ?_
 refine A.q0 [] [] [.n] [(7,.int .i64 0)] ?_
 refine A.dx 2 ?_
 refine A.lp_ [0,1,5] [0] (fun f nl nh=>∃(y5:Int),∃(y7:Int),nl=[(6,.int .i64 y5),(7,.int .i64 y7)]∧nh=[]∧IntKind.i64.has y5∧IntKind.i64.has y7∧F.R05_Cut_l3 a0 a1 r1 f y5 y7=some r) ⟨0,0,rfl,rfl,(A.hasl .i64 (0) rfl),(A.hasl .i64 (0) rfl),hF⟩ ?_
 rintro f9 _ _ ⟨y5,y7,rfl,rfl,hy6,hy8,hF⟩
 rcases f9 with _|f9
 ·exact A.no0 hF
 rw[F.R05_Cut_l3]at hF
 refine A.xl 2 ?_
 refine A.q0 [] [] [.n,.n,.n,.n] [(14,.bool (decide (y7<((r1).length:Int))))] ?_
 refine A.dx 1 ?_
 refine A.AX.cnd rfl hF (fun hb hF=>?_) (fun hb hF=>?_)
 ·refine A.xx 2 ?_
  refine A.AX.join [0,1,5,7] [0] (fun nl nh=>∃(y10:Int),nl=[(6,.int .i64 y10)]∧nh=[]∧IntKind.i64.has y10∧F.R05_Cut_j1 (F.R05_Cut_l3 a0 a1 r1 f9) y7 y10=some r) ?_ ?_
  ·refine A.xl 2 ?_
   refine A.q0 [] [] [.n,.n,.n] [(8,.int .i64 (a0.size:Int))] ?_
   refine A.dx 1 ?_
   refine A.AX.join [0,1,5,6,7] [0] (fun nl nh=>∃(y13:Int),nl=[(8,.int .i64 y13)]∧nh=[]∧IntKind.i64.has y13∧F.R05_Cut_j2 (F.R05_Cut_l3 a0 a1 r1 f9) a1 y5 y7 y13=some r) ?_ ?_
   ·refine A.xl 1 ?_
    obtain⟨hc15,hF⟩:=A.gd_some hF
    refine A.q [] [] [.n,.n,.n,.n,.n] [Z.R64 (y7+1)] [(23,.bool (decide (y7+1<((r1).length:Int))))] hc15 ?_
    refine A.dx 1 ?_
    refine A.AX.cnd rfl hF (fun hb hF=>?_) (fun hb hF=>?_)
    ·refine A.xl 0 ?_
     obtain⟨hc16,hF⟩:=A.gd_some hF
     refine A.q [] [] [.n,.n,.n] [Z.R64 (y7+1)] [(24,.slice A3 ((r1).length) c4),(26,.int .i64 (y7+1))] hc16 ?_
     obtain⟨x17,hv18,hF⟩:=A.bd_some hF
     refine A.AL.ixo 0 42 hv18 fun ho19=>?_
     intro g20 hA21
     refine A.q0 [] [42] [.n,.e 0 0,.n] [(8,.int .i64 x17.1)] ?_
     refine A.AL.done ?_
     exact A.j ⟨x17.1,rfl,rfl,ho19.1,hF⟩
    refine A.xe 1 ?_
    exact A.j ⟨(a0.size:Int),rfl,rfl,(A.has_nat h0_),hF⟩
   rintro _ _ ⟨y13,rfl,rfl,hy14,hF⟩
   rw[F.R05_Cut_j2]at hF
   refine A.xl 1 ?_
   refine A.q0 [] [] [.n,.n,.n] [(32,.bool (decide (y13≤a1)))] ?_
   refine A.dx 1 ?_
   refine A.AX.cnd rfl hF (fun hb hF=>?_) (fun hb hF=>?_)
   ·refine A.xl 0 ?_
    refine A.q0 [] [] [.n,.n] [(6,.int .i64 y13)] ?_
    refine A.de 1 ?_
    exact A.j ⟨y13,rfl,rfl,hy14,hF⟩
   refine A.xe 2 ?_
   exact A.j ⟨y5,rfl,rfl,hy6,hF⟩
  rintro _ _ ⟨y10,rfl,rfl,hy11,hF⟩
  rw[F.R05_Cut_j1]at hF
  refine A.xl 0 ?_
  obtain⟨hc12,hF⟩:=A.gd_some hF
  refine A.q [] [] [.n,.n,.n] [Z.R64 (y7+1)] [(7,.int .i64 (y7+1))] hc12 ?_
  refine A.AL.done ?_
  exact A.j ⟨_,Nat.lt_succ_self _,⟨y10,(y7+1),rfl,rfl,hy11,(Z.i64_has hc12),hF⟩⟩
 refine A.xl 3 ?_
 refine A.q0 [] [] [.n,.n] [(34,.string a0),(35,.int .i64 y5)] ?_
 obtain⟨hc22,hF⟩:=A.gd_some hF
 refine A.AL.slh hc22 ?_
 refine A.q0 [] [] [.n] [(4,.string (a0.extract 0 y5.toNat))] ?_
 refine A.dx 1 ?_
 obtain rfl:=Option.some.inj hF
 exact A.rt1 [] ⟨rfl,rfl,(A.ext_le h0_)⟩
end Go.Proofs.YtbljnlkhebiniaaGreatDoor
end
