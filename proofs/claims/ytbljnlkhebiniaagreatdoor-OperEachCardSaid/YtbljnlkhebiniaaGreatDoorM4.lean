/- Functions on data, and that the code computes them. * Plain law of graphs: what the reference and the program say of graphs, as functions on data (no program in sight). * Plain: rounds by a count of steps are recursion over a list. * Plain: a text's bytes by the model's decoder. * Plain: what a text's bytes are, by the reference and by the model's decoder. * Plain: functions of nodes may be; a node for itself. * Plain: a text as runes, each with its bytes. No program in sight. * Plain: a text's runes by the program and by the reference; texts cut. * Plain: texts of records, by the program and by the reference. * Plain: a row turned round; a text in capitals; parts of a text. * Plain: what a function of records makes of one, by the program and by the reference. * Plain: entries in order, by node, key and text; what they add up to. No program in sight. * Plain: records and entries in order, groups by key, what a node that holds makes of them. No program in sight. * Plain: what a node that holds makes of all of a time: by keys, one time behind the other. No program in sight. * Plain: records and entries held against one another; states, by the program and by the reference. * Plain: two times one behind the other are one time that has both bags. No program in sight. * Plain: bags, their keys, numbers in digits, by the program. * Plain: counts, what keys come to, joins, by the program. * Plain: totals, new records, the state behind it; records sorted, each once: by the program. * Plain: what a node that holds makes of all of a time, by the program. * Plain: bags added, small arguments, states behind a time: what the laws of nodes that hold need. * Plain: a text that has a rune; a text in pieces between runes. No program in sight. * Plain: what comes at once of records, by the program. * Plain: what comes at once of records, by the reference; OperBatches, OperEach. * Plain: OperBatches, OperEach, OperStays. * A layer over the small logic, continued: a contract that asks for a variable of the library's own: its cell holds some number, by the world's shape. No program in sight. * A small logic over the model's walk, continued: arguments of a row, opened: what a reader treads reads as a datum. No program in sight. * The law 'OperEach' as it is given: whatever the input, the call returns true, and each argument reads behind it as it read before. No condition but that utf8's two tables hold what the library's text lays, which the card ties. -/
import Derived.Test.YtbljnlkhebiniaaGreatDoorM0
import Derived.Test.YtbljnlkhebiniaaGreatDoorM1
import Derived.Test.YtbljnlkhebiniaaGreatDoorM2
import Derived.Test.YtbljnlkhebiniaaGreatDoorM3
import Derived.Lib.TrimUEq
import Derived.Lib.MapLaws
import Derived.Lib.ValidU
import Derived.Laws.Cover4
import Derived.Lib.IndexMore
import Derived.Shelf.Vars
import Derived.SizedLaws
import Derived.ChangeAgain
import Derived.OpenShut
import Derived.ShutString
import Derived.ChangeOld
import Derived.ChangeArms
import Derived.DataReads
import Derived.Test.YtbljnlkhebiniaaGreatDoorRows
import Derived.Test.YtbljnlkhebiniaaGreatDoorTie
import Derived.Test.YtbljnlkhebiniaaGreatDoorCards
import Derived.WalkKit
import Derived.ProofKit
import Derived.Below
import Derived.LaidMore
import Derived.Stop.Joined
import Derived.SevenTiedAt
import Derived.Lib.LaidIn
import Derived.Lib.LaidU8T
import Derived.PinnedBridge
section
set_option linter.unusedVariables false
set_option linter.unusedSimpArgs false
set_option maxRecDepth 20000
set_option maxHeartbeats 8000000
set_option synthInstance.maxSize 1000000
set_option synthInstance.maxHeartbeats 400000
namespace Go.Proofs.YtbljnlkhebiniaaGreatDoor
open Go.RowKit
def F.fn_Split_j1 (k3:(List D43)→Int→Option ((List D43)×Int))(y12:Int)(xs17:List D43):Option ((List D43)×Int):=A.gd (Z.R64 (y12+1)) (k3 xs17 (y12+1))
def F.fn_Split_l2 (a1:D43)(xs8:List ByteArray):Nat→(List D43)→Int→Option ((List D43)×Int)
 |0,_,_=>none
 |f+1,xs11,y12=>if y12<((xs8).length:Int)then((A.ix xs8 y12).bind fun x19=>(if(bif decide (x19≠(ByteArray.mk #[]))then decide (((xs11).length:Int)<4)else false)=true then(A.gd ((List.length (α:=D43) xs11+List.length (α:=D43) [(a1.1,x19)])*24≤140737488355328) (F.fn_Split_j1 (F.fn_Split_l2 a1 xs8 f) y12 (xs11++[(a1.1,x19)])))else(F.fn_Split_j1 (F.fn_Split_l2 a1 xs8 f) y12 xs11)))else(some (xs11,0))
def F.fn_Split_j3 (a1:D43)(xs8:List ByteArray):Option ((List D43)×Int):=F.fn_Split_l2 a1 xs8 A.FU [] 0
def F.fn_Split_l4 (a1:D43):Nat→(List ByteArray)→Nat→Option ((List D43)×Int)
 |0,_,_=>none
 |f+1,xs44,p45=>if p45<a1.2.size then(A.gd ((runesBytes [((Utf8.decode a1.2 p45).1:Int)]).size≤9223372036854775807) (A.gd ((List.length (α:=ByteArray) xs44+List.length (α:=ByteArray) [runesBytes [((Utf8.decode a1.2 p45).1:Int)]])*16≤140737488355328) ((F.fn_Split_l4 a1 f) (xs44++[runesBytes [((Utf8.decode a1.2 p45).1:Int)]]) (p45+(Utf8.decode a1.2 p45).2))))else(F.fn_Split_j3 a1 xs44)
def F.fn_Split (a0:D23)(a1:D43):Option ((List D43)×Int):=(F.fn_both 4 (a0.1,a0.2.1,a0.2.2) (a1.1,a1.2)).bind fun r3=>(if r3≠0 then(some ([],r3))else(if a0.1=22 then((F.fn_runes a0.2.2).bind fun r28=>((A.ix r28 0).bind fun x32=>((F.fn_words a1.2 x32).bind fun r37=>(F.fn_Split_j3 a1 r37))))else(F.fn_Split_l4 a1 A.FU [] 0)))
theorem fn_Split_ok (a0:D23)(a1:D43)(h0_:IntKind.i64.has a0.1)(h1_:IntKind.i64.has a0.2.1)(h2_:a0.2.2.size≤maxLen)(h3_:IntKind.i64.has a1.1)(h4_:a1.2.size≤maxLen)(r:(List D43)×Int)(hF:F.fn_Split a0 a1=some r):
    A.Ct Tryz.prog 91 [.agg #[.int .i64 a0.1,.int .i64 a0.2.1,.string a0.2.2],.agg #[.int .i64 a1.1,.string a1.2]] [(0,.el none 1 0 A.tabF),(1,.el none 2 0 A.tabA)] [] (fun v H'=>∃(A0':Option Addr) (c1':Nat),v=.tuple #[.slice A0' ((r.1).length) c1',.int .i64 r.2]∧H'=[(0,.own T43 44 A0' c1' r.1)]∧IntKind.i64.has r.2):=by
 refine A.Ct.enter Tryz.func91 rfl Tryz.ntmps91 rfl fun w0 F0=>?_
 rw[F.fn_Split]at hF
 refine A.xl 1 ?_
 refine A.AL.box 2 (cs:=[.int .i64 a0.1,.int .i64 a0.2.1,.string a0.2.2]) fun g1=>?_
 refine A.AL.box 3 (cs:=[.int .i64 a1.1,.string a1.2]) fun g2=>?_
 refine A.q0 [] [] [.n,.n] [] ?_
 refine A.dl 3 ?_
 refine A.q0 [2,3] [] [.b 0 0,.b 1 0] [(13,.agg #[.int .i64 a0.1,.int .i64 a0.2.1,.string a0.2.2]),(14,.agg #[.int .i64 a1.1,.string a1.2])] ?_
 obtain⟨r3,hv4,hF⟩:=A.bd_some hF
 refine A.AL.call 4 [] (first:=[]) (cap:=[]) cf102 (fn_both_ok 4 (a0.1,a0.2.1,a0.2.2) (a1.1,a1.2) (A.hasl .i64 (4) rfl) h0_ h1_ h2_ h3_ h4_ r3 hv4) (.s 0 (.s 1 .nil)) ?_
 rintro _ _ ⟨rfl,rfl,hr5⟩
 refine⟨by kernel_rfl,?_⟩
 refine A.q0 [] [] [.n] [(6,.int .i64 r3)] ?_
 refine A.dl 2 ?_
 refine A.q0 [] [] [.n,.n] [(17,.bool (decide (r3≠0)))] ?_
 refine A.dx 1 ?_
 refine A.AX.cnd rfl hF (fun hb hF=>?_) (fun hb hF=>?_)
 ·refine A.xl 1 ?_
  refine A.q0 [] [] [.n,.n,.n] [(4,.slice none 0 0),(5,.int .i64 r3)] ?_
  refine A.dx 1 ?_
  obtain rfl:=Option.some.inj hF
  refine A.nil 44 T43 44 ?_
  exact A.rt2 [(0,44)] ⟨none,0,rfl,rfl,hr5⟩
 refine A.xl 3 ?_
 refine A.q0 [] [] [.n] [(7,.slice none 0 0)] ?_
 refine A.dx 1 ?_
 refine A.nil 137 Z.Ty.str 9 ?_
 refine A.AX.join [3] [0,1,3] (fun nl nh=>∃(xs8:List ByteArray),∃(A6:Option Addr),∃(c7:Nat),nl=[(7,.slice A6 ((xs8).length) c7)]∧nh=[(226,.own Z.Ty.str 9 A6 c7 xs8)]∧F.fn_Split_j3 a1 xs8=some r) ?_ ?_
 ·refine A.xl 1 ?_
  refine A.q0 [2] [] [.n,.b 0 0,.n] [(21,.bool (decide (a0.1=22)))] ?_
  refine A.dx 1 ?_
  refine A.AX.cnd rfl hF (fun hb hF=>?_) (fun hb hF=>?_)
  ·refine A.AX.dr mixed 9 9 (A.mb 9 0) ?_
   refine A.hq A.pb [] [0,1,2,3,137] [3,2] [] (A.mb 9 15) 5 [(0,.n),(2,.n),(1,.b 0 1),(3,.b 1 2)] [(23,.string a1.2),(25,.string a0.2.2)] ?_
   refine A.AH.one 4 ?_
   obtain⟨r28,hv29,hF⟩:=A.bd_some hF
   refine A.AL.call 138 [] (first:=[]) (cap:=[]) cf103 (fn_runes_ok a0.2.2 h2_ r28 hv29) .nil ?_
   rintro _ _ ⟨A30,c31,rfl,rfl⟩
   refine⟨by kernel_rfl,?_⟩
   refine A.AH.nx (A.mb 9 31) [0,1,2,3,137] ?_
   obtain⟨x32,hv33,hF⟩:=A.bd_some hF
   refine A.AH.pko 138 178 hv33 fun ho34=>?_
   intro g36 hA35
   refine A.AH.v A.pb [0,1,2,3,137] [0,1,2,3,137,138,178] 5 (A.mb 9 63) rfl (fun a w hf hh=>A.r_ixo (t:=(Z.Ty.int .i32)) hv33 hA35 hf) ?_
   refine A.hq A.pb [0,1,2,3,137,138,178] [0,1,2,3,137,138,178] [] [178] (A.mb 9 127) 2 [(6,.e 0 0)] [(28,.int .i32 x32)] ?_
   refine A.AH.one 7 ?_
   obtain⟨r37,hv38,hF⟩:=A.bd_some hF
   refine A.AL.call 179 [] (first:=[]) (cap:=[]) cf128 (fn_words_ok a1.2 x32 h4_ ho34 r37 hv38) .nil ?_
   rintro _ _ ⟨A39,c40,rfl,rfl⟩
   refine⟨by kernel_rfl,?_⟩
   refine A.AH.nx (A.mb 9 255) [0,1,2,3,137,138,178] ?_
   refine A.hq A.pb [0,1,2,3,137,138,178] [0,1,2,3,137,138,178,179] [] [] (A.mb 9 511) 0 [(8,.n)] [(7,.slice A39 ((r37).length) c40)] ?_
   refine A.AH.done ?_
   refine A.mv 179 226 [] ?_
   exact A.j ⟨r37,A39,c40,rfl,rfl,hF⟩
  refine A.xl 1 ?_
  refine A.q0 [3] [] [.n,.b 0 1] [(31,.string a1.2)] ?_
  refine A.AL.rgs 219 fun g41=>?_
  refine A.dx 2 ?_
  refine A.lp_ [3,32] [0,1,3] (fun f nl nh=>∃(xs44:List ByteArray),∃(p45:Nat),∃(A42:Option Addr),∃(c43:Nat),nl=[(7,.slice A42 ((xs44).length) c43)]∧nh=[(137,.own Z.Ty.str 9 A42 c43 xs44),(219,.si g41 a1.2 p45)]∧F.fn_Split_l4 a1 f xs44 p45=some r) ⟨[],0,none,0,rfl,rfl,hF⟩ ?_
  rintro f46 _ _ ⟨xs44,p45,A42,c43,rfl,rfl,hF⟩
  rcases f46 with _|f46
  ·exact A.no0 hF
  rw[F.fn_Split_l4]at hF
  refine A.xl 1 ?_
  refine A.AL.nxs 219 [] hF (fun hb47 hF=>?_) (fun hb hF=>?_)
  ·refine A.q0 [] [] [.n] [(34,.bool true)] ?_
   refine A.dx 2 ?_
   refine A.AX.cnt rfl ?_
   refine A.xl 4 ?_
   refine A.q0 [] [] [.n,.n] [(9,.int .i32 ((Utf8.decode a1.2 p45).1:Int))] ?_
   refine A.dl 1 ?_
   refine A.q0 [] [] [.n,.n] [(36,.slice A42 ((xs44).length) c43),(37,.int .i32 ((Utf8.decode a1.2 p45).1:Int))] ?_
   refine A.AL.bsl 224 (ty:=(Z.Ty.int .i32)) (cs:=[.int .i32 ((Utf8.decode a1.2 p45).1:Int)]) [((Utf8.decode a1.2 p45).1:Int)] ⟨⟨rfl,A.dec_has⟩,rfl⟩ (fun g48=>?_) Tryz.zeroValue21 Tryz.sizeOf21
   obtain⟨hl49,hF⟩:=A.gd_some hF
   refine A.AL.cvr (A.rowO (k:=224) rfl) rfl ?_
   refine A.AL.bsl 225 (ty:=Z.Ty.str) (cs:=[.string (runesBytes [((Utf8.decode a1.2 p45).1:Int)])]) [runesBytes [((Utf8.decode a1.2 p45).1:Int)]] ⟨⟨rfl,(A.le_max hl49)⟩,rfl⟩ (fun g50=>?_) Tryz.zeroValue9 Tryz.sizeOf9
   obtain⟨hl53,hF⟩:=A.gd_some hF
   refine A.AL.app (k:=137) [] (A.rowO (k:=225) rfl) inf9 hl53 fun A51 c52=>?_
   refine A.q0 [] [] [.n] [(7,.slice A51 ((xs44++[runesBytes [((Utf8.decode a1.2 p45).1:Int)]]).length) c52)] ?_
   refine A.de 1 ?_
   exact A.j ⟨_,Nat.lt_succ_self _,⟨(xs44++[runesBytes [((Utf8.decode a1.2 p45).1:Int)]]),(p45+(Utf8.decode a1.2 p45).2),A51,c52,rfl,rfl,hF⟩⟩
  refine A.q0 [] [] [.n] [(34,.bool false)] ?_
  refine A.dx 2 ?_
  refine A.AX.cnf rfl ?_
  refine A.xe 1 ?_
  refine A.mv 137 226 [] ?_
  exact A.j ⟨xs44,A42,c43,rfl,rfl,hF⟩
 rintro _ _ ⟨xs8,A6,c7,rfl,rfl,hF⟩
 rw[F.fn_Split_j3]at hF
 refine A.xl 1 ?_
 refine A.q0 [] [] [.n] [(10,.slice none 0 0)] ?_
 refine A.dl 3 ?_
 refine A.q0 [] [] [.n,.n,.n] [(42,.slice A6 ((xs8).length) c7),(43,.int .i64 ((xs8).length:Int)),(44,.int .i64 0)] ?_
 refine A.dx 2 ?_
 refine A.nil 234 T43 44 ?_
 refine A.lp_ [3,42,43] [0,1,3,226] (fun f nl nh=>∃(xs11:List D43),∃(y12:Int),∃(A9:Option Addr),∃(c10:Nat),nl=[(10,.slice A9 ((xs11).length) c10),(44,.int .i64 y12)]∧nh=[(234,.own T43 44 A9 c10 xs11)]∧IntKind.i64.has y12∧F.fn_Split_l2 a1 xs8 f xs11 y12=some r) ⟨[],0,none,0,rfl,rfl,(A.hasl .i64 (0) rfl),hF⟩ ?_
 rintro f14 _ _ ⟨xs11,y12,A9,c10,rfl,rfl,hy13,hF⟩
 rcases f14 with _|f14
 ·exact A.no0 hF
 rw[F.fn_Split_l2]at hF
 refine A.xl 1 ?_
 refine A.q0 [] [] [.n] [(45,.bool (decide (y12<((xs8).length:Int))))] ?_
 refine A.dx 2 ?_
 refine A.AX.cnd rfl hF (fun hb hF=>?_) (fun hb hF=>?_)
 ·refine A.xx 2 ?_
  refine A.AX.join [3,42,43,44] [0,1,3,226] (fun nl nh=>∃(xs17:List D43),∃(A15:Option Addr),∃(c16:Nat),nl=[(10,.slice A15 ((xs17).length) c16)]∧nh=[(234,.own T43 44 A15 c16 xs17)]∧F.fn_Split_j1 (F.fn_Split_l2 a1 xs8 f14) y12 xs17=some r) ?_ ?_
  ·refine A.xl 2 ?_
   obtain⟨x19,hv20,hF⟩:=A.bd_some hF
   refine A.AL.ixo 226 239 hv20 fun ho21=>?_
   intro g22 hA23
   refine A.q0 [] [239] [.e 0 0,.n] [(12,.string x19)] ?_
   refine A.dl 2 ?_
   refine A.q0 [] [] [.n,.n,.n,.sy .n,.sy .n,.sy .n,.pk] [(54,.bool (bif decide (x19≠(ByteArray.mk #[]))then decide (((xs11).length:Int)<4)else false))] ?_
   refine A.dx 1 ?_
   refine A.AX.cnb rfl hF (fun hb hF=>?_) (fun hb hF=>?_)
   ·refine A.xl 0 ?_
    refine A.q0 [3] [] [.n,.n,.b 0 0,.n,.n] [(55,.slice A9 ((xs11).length) c10),(59,.agg #[.int .i64 a1.1,.string x19])] ?_
    refine A.AL.bsl 240 (ty:=T43) (cs:=[.int .i64 a1.1,.string x19]) [(a1.1,x19)] ⟨⟨⟨rfl,h3_⟩,⟨rfl,ho21⟩⟩,rfl⟩ (fun g24=>?_) Tryz.zeroValue44 Tryz.sizeOf44
    obtain⟨hl27,hF⟩:=A.gd_some hF
    refine A.AL.app (k:=234) [] (A.rowO (k:=240) rfl) inf44 hl27 fun A25 c26=>?_
    refine A.q0 [] [] [.n] [(10,.slice A25 ((xs11++[(a1.1,x19)]).length) c26)] ?_
    refine A.de 1 ?_
    exact A.j ⟨(xs11++[(a1.1,x19)]),A25,c26,rfl,rfl,hF⟩
   refine A.xe 2 ?_
   exact A.j ⟨xs11,A9,c10,rfl,rfl,hF⟩
  rintro _ _ ⟨xs17,A15,c16,rfl,rfl,hF⟩
  rw[F.fn_Split_j1]at hF
  refine A.xl 0 ?_
  obtain⟨hc18,hF⟩:=A.gd_some hF
  refine A.q [] [] [.n,.n] [Z.R64 (y12+1)] [(44,.int .i64 (y12+1))] hc18 ?_
  refine A.AL.done ?_
  exact A.j ⟨_,Nat.lt_succ_self _,⟨xs17,(y12+1),A15,c16,rfl,rfl,(Z.i64_has hc18),hF⟩⟩
 refine A.xl 3 ?_
 refine A.q0 [] [] [.n,.n,.n] [(4,.slice A9 ((xs11).length) c10),(5,.int .i64 0)] ?_
 refine A.dx 1 ?_
 obtain rfl:=Option.some.inj hF
 exact A.rt2 [(0,234)] ⟨A9,c10,rfl,rfl,(A.hasl .i64 (0) rfl)⟩
def F.oper_each_j1:Option (List D43):=some []
def F.oper_each (a0:D25)(a1:D43):Option (List D43):=if a0.2.1=2 then((F.fn_Map (a0.2.2.2.1.1,a0.2.2.2.1.2.1,a0.2.2.2.1.2.2) (a1.1,a1.2)).bind fun r3=>(if r3.2=0 then(some [(r3.1.1,r3.1.2)])else(F.oper_each_j1)))else(if a0.2.1=3 then((F.fn_Filter (a0.2.2.2.1.1,a0.2.2.2.1.2.1,a0.2.2.2.1.2.2) (a1.1,a1.2)).bind fun r10=>(if(bif r10.1 then decide (r10.2=0)else false)=true then(some [(a1.1,a1.2)])else(F.oper_each_j1)))else(if a0.2.1=4 then((F.fn_Split (a0.2.2.2.1.1,a0.2.2.2.1.2.1,a0.2.2.2.1.2.2) (a1.1,a1.2)).bind fun r14=>(if r14.2=0 then(some r14.1)else(F.oper_each_j1)))else(some [(a1.1,a1.2)])))
theorem oper_each_ok (a0:D25)(a1:D43)(A2_:Option Addr)(c3_:Nat)(m12_:Int)(h0_:IntKind.i64.has a0.1)(h1_:IntKind.i64.has a0.2.1)(h4_:IntKind.i64.has a0.2.2.2.1.1)(h5_:IntKind.i64.has a0.2.2.2.1.2.1)(h6_:a0.2.2.2.1.2.2.size≤maxLen)(h7_:a0.2.2.2.2.1.size≤maxLen)(h8_:IntKind.i64.has a0.2.2.2.2.2.1)(h9_:IntKind.i64.has a0.2.2.2.2.2.2)(h10_:IntKind.i64.has a1.1)(h11_:a1.2.size≤maxLen)(r:(List D43))(hF:F.oper_each a0 a1=some r):
    A.Ct Tryz.prog 50 [.agg #[.int .i64 a0.1,.int .i64 a0.2.1,.slice A2_ ((a0.2.2.1).length) c3_,.int .i64 a0.2.2.2.1.1,.int .i64 a0.2.2.2.1.2.1,.string a0.2.2.2.1.2.2,.string a0.2.2.2.2.1,.int .i64 a0.2.2.2.2.2.1,.int .i64 a0.2.2.2.2.2.2],.agg #[.int .i64 a1.1,.string a1.2]] [(0,.sh (.slice (Z.Ty.int .i64)) [.slice A2_ (a0.2.2.1).length c3_] a0.2.2.1),(1,.el none 1 0 A.tabF),(2,.el none 2 0 A.tabA),(3,.el none 0 0 [.int .i64 m12_])] [] (fun v H'=>∃(A0':Option Addr) (c1':Nat),v=.slice A0' ((r).length) c1'∧H'=[(0,.own T43 44 A0' c1' r)]):=by
 refine A.Ct.enter Tryz.func50 rfl Tryz.ntmps50 rfl fun w0 F0=>?_
 rw[F.oper_each]at hF
 refine A.xl 1 ?_
 refine A.AL.box 4 (cs:=[.int .i64 a0.1,.int .i64 a0.2.1,.slice A2_ ((a0.2.2.1).length) c3_,.int .i64 a0.2.2.2.1.1,.int .i64 a0.2.2.2.1.2.1,.string a0.2.2.2.1.2.2,.string a0.2.2.2.2.1,.int .i64 a0.2.2.2.2.2.1,.int .i64 a0.2.2.2.2.2.2]) fun g1=>?_
 refine A.AL.box 5 (cs:=[.int .i64 a1.1,.string a1.2]) fun g2=>?_
 refine A.q0 [] [] [.n] [] ?_
 refine A.dx 1 ?_
 refine A.AX.join [] [] (fun nl nh=>nl=[]∧nh=[]∧F.oper_each_j1=some r) ?_ ?_
 ·refine A.xl 1 ?_
  refine A.q0 [4] [] [.n,.b 0 1] [(12,.int .i64 a0.2.1)] ?_
  refine A.dl 3 ?_
  refine A.q0 [] [] [.n,.n] [(15,.bool (decide (a0.2.1=2)))] ?_
  refine A.dx 1 ?_
  refine A.AX.cnd rfl hF (fun hb hF=>?_) (fun hb hF=>?_)
  ·refine A.xl 1 ?_
   refine A.q0 [4,5] [] [.n,.b 0 3,.b 1 0] [(19,.agg #[.int .i64 a0.2.2.2.1.1,.int .i64 a0.2.2.2.1.2.1,.string a0.2.2.2.1.2.2]),(20,.agg #[.int .i64 a1.1,.string a1.2])] ?_
   obtain⟨r3,hv4,hF⟩:=A.bd_some hF
   refine A.AL.call 6 [] (first:=[]) (cap:=[]) cf89 (fn_Map_ok (a0.2.2.2.1.1,a0.2.2.2.1.2.1,a0.2.2.2.1.2.2) (a1.1,a1.2) h4_ h5_ h6_ h10_ h11_ r3 hv4) (.s 1 (.s 2 .nil)) ?_
   rintro _ _ ⟨rfl,rfl,hr5,hr6,hr7⟩
   refine⟨by kernel_rfl,?_⟩
   refine A.q0 [] [] [.n,.n,.n] [(22,.agg #[.int .i64 r3.1.1,.string r3.1.2]),(23,.int .i64 r3.2)] ?_
   refine A.AL.alloc 46 (cs:=[.int .i64 0,.string (ByteArray.mk #[])]) Tryz.zeroValue44 fun g8=>?_
   refine A.sw 46 [] [.int .i64 r3.1.1,.string r3.1.2] ?_
   refine A.q0 [] [] [.n] [(6,.int .i64 r3.2)] ?_
   refine A.dl 2 ?_
   refine A.q0 [] [] [.n,.n] [(25,.bool (decide (r3.2=0)))] ?_
   refine A.dx 1 ?_
   refine A.AX.cnd rfl hF (fun hb hF=>?_) (fun hb hF=>?_)
   ·refine A.xl 1 ?_
    refine A.q0 [46] [] [.b 0 0] [(26,.agg #[.int .i64 r3.1.1,.string r3.1.2])] ?_
    refine A.AL.bsl 47 (ty:=T43) (cs:=[.int .i64 r3.1.1,.string r3.1.2]) [(r3.1.1,r3.1.2)] ⟨⟨⟨rfl,hr5⟩,⟨rfl,hr6⟩⟩,rfl⟩ (fun g9=>?_) Tryz.zeroValue44 Tryz.sizeOf44
    refine A.q0 [] [] [.n] [(4,.slice (some ⟨g9,0,none⟩) 1 1)] ?_
    refine A.dx 1 ?_
    obtain rfl:=Option.some.inj hF
    exact A.rt1 [(0,47)] ⟨(some ⟨g9,0,none⟩),1,rfl,rfl⟩
   refine A.xe 2 ?_
   exact A.j ⟨rfl,rfl,hF⟩
  refine A.xl 1 ?_
  refine A.q0 [] [] [.n,.n] [(28,.bool (decide (a0.2.1=3)))] ?_
  refine A.dx 1 ?_
  refine A.AX.cnd rfl hF (fun hb hF=>?_) (fun hb hF=>?_)
  ·refine A.xl 1 ?_
   refine A.q0 [4,5] [] [.n,.b 0 3,.b 1 0] [(32,.agg #[.int .i64 a0.2.2.2.1.1,.int .i64 a0.2.2.2.1.2.1,.string a0.2.2.2.1.2.2]),(33,.agg #[.int .i64 a1.1,.string a1.2])] ?_
   obtain⟨r10,hv11,hF⟩:=A.bd_some hF
   refine A.AL.call 48 [] (first:=[]) (cap:=[]) cf90 (fn_Filter_ok (a0.2.2.2.1.1,a0.2.2.2.1.2.1,a0.2.2.2.1.2.2) (a1.1,a1.2) m12_ h4_ h5_ h6_ h10_ h11_ r10 hv11) (.s 1 (.s 2 (.s 3 .nil))) ?_
   rintro _ _ ⟨rfl,rfl,hr12⟩
   refine⟨by kernel_rfl,?_⟩
   refine A.q0 [] [] [.n,.n,.n,.n,.n] [(7,.bool r10.1),(8,.int .i64 r10.2)] ?_
   refine A.dl 2 ?_
   refine A.q0 [] [] [.n,.n,.sy .n,.sy .n,.pk] [(41,.bool (bif r10.1 then decide (r10.2=0)else false))] ?_
   refine A.dx 1 ?_
   refine A.AX.cnb rfl hF (fun hb hF=>?_) (fun hb hF=>?_)
   ·refine A.xl 1 ?_
    refine A.q0 [5] [] [.b 0 0] [(42,.agg #[.int .i64 a1.1,.string a1.2])] ?_
    refine A.AL.bsl 88 (ty:=T43) (cs:=[.int .i64 a1.1,.string a1.2]) [(a1.1,a1.2)] ⟨⟨⟨rfl,h10_⟩,⟨rfl,h11_⟩⟩,rfl⟩ (fun g13=>?_) Tryz.zeroValue44 Tryz.sizeOf44
    refine A.q0 [] [] [.n] [(4,.slice (some ⟨g13,0,none⟩) 1 1)] ?_
    refine A.dx 1 ?_
    obtain rfl:=Option.some.inj hF
    exact A.rt1 [(0,88)] ⟨(some ⟨g13,0,none⟩),1,rfl,rfl⟩
   refine A.xe 2 ?_
   exact A.j ⟨rfl,rfl,hF⟩
  refine A.xl 1 ?_
  refine A.q0 [] [] [.n,.n] [(44,.bool (decide (a0.2.1=4)))] ?_
  refine A.dx 1 ?_
  refine A.AX.cnd rfl hF (fun hb hF=>?_) (fun hb hF=>?_)
  ·refine A.xl 1 ?_
   refine A.q0 [4,5] [] [.n,.b 0 3,.b 1 0] [(48,.agg #[.int .i64 a0.2.2.2.1.1,.int .i64 a0.2.2.2.1.2.1,.string a0.2.2.2.1.2.2]),(49,.agg #[.int .i64 a1.1,.string a1.2])] ?_
   obtain⟨r14,hv15,hF⟩:=A.bd_some hF
   refine A.AL.call 89 [] (first:=[]) (cap:=[]) cf91 (fn_Split_ok (a0.2.2.2.1.1,a0.2.2.2.1.2.1,a0.2.2.2.1.2.2) (a1.1,a1.2) h4_ h5_ h6_ h10_ h11_ r14 hv15) (.s 1 (.s 2 .nil)) ?_
   rintro _ _ ⟨A16,c17,rfl,rfl,hr18⟩
   refine⟨by kernel_rfl,?_⟩
   refine A.q0 [] [] [.n,.n,.n,.n,.n] [(9,.slice A16 ((r14.1).length) c17),(10,.int .i64 r14.2)] ?_
   refine A.dl 2 ?_
   refine A.q0 [] [] [.n,.n] [(54,.bool (decide (r14.2=0)))] ?_
   refine A.dx 1 ?_
   refine A.AX.cnd rfl hF (fun hb hF=>?_) (fun hb hF=>?_)
   ·refine A.xl 1 ?_
    refine A.q0 [] [] [.n,.n] [(4,.slice A16 ((r14.1).length) c17)] ?_
    refine A.dx 1 ?_
    obtain rfl:=Option.some.inj hF
    exact A.rt1 [(0,89)] ⟨A16,c17,rfl,rfl⟩
   refine A.xe 2 ?_
   exact A.j ⟨rfl,rfl,hF⟩
  refine A.xl 1 ?_
  refine A.q0 [5] [] [.b 0 0] [(13,.agg #[.int .i64 a1.1,.string a1.2])] ?_
  refine A.AL.bsl 129 (ty:=T43) (cs:=[.int .i64 a1.1,.string a1.2]) [(a1.1,a1.2)] ⟨⟨⟨rfl,h10_⟩,⟨rfl,h11_⟩⟩,rfl⟩ (fun g19=>?_) Tryz.zeroValue44 Tryz.sizeOf44
  refine A.q0 [] [] [.n] [(4,.slice (some ⟨g19,0,none⟩) 1 1)] ?_
  refine A.dx 1 ?_
  obtain rfl:=Option.some.inj hF
  exact A.rt1 [(0,129)] ⟨(some ⟨g19,0,none⟩),1,rfl,rfl⟩
 rintro _ _ ⟨rfl,rfl,hF⟩
 rw[F.oper_each_j1]at hF
 refine A.xl 1 ?_
 refine A.q0 [] [] [.n] [(4,.slice none 0 0)] ?_
 refine A.dx 1 ?_
 obtain rfl:=Option.some.inj hF
 refine A.nil 130 T43 44 ?_
 exact A.rt1 [(0,130)] ⟨none,0,rfl,rfl⟩
end Go.Proofs.YtbljnlkhebiniaaGreatDoor
end
section
set_option linter.unusedVariables false
set_option linter.unusedSimpArgs false
set_option maxRecDepth 20000
set_option maxHeartbeats 8000000
set_option synthInstance.maxSize 1000000
set_option synthInstance.maxHeartbeats 400000
namespace Go.Proofs.YtbljnlkhebiniaaGreatDoor
open Go.RowKit
def F.oper_Batch_l1 (a0:D25)(a3:(List D43))(r7:D28×Bool×Int):Nat→(List D43)→Int→Option ((List D43)×D28×Int)
 |0,_,_=>none
 |f+1,xs19,y20=>if y20<((a3).length:Int)then((A.ix a3 y20).bind fun x23=>((F.oper_each (a0.1,a0.2.1,a0.2.2.1,(a0.2.2.2.1.1,a0.2.2.2.1.2.1,a0.2.2.2.1.2.2),a0.2.2.2.2.1,a0.2.2.2.2.2.1,a0.2.2.2.2.2.2) (x23.1,x23.2)).bind fun r29=>(A.gd ((List.length (α:=D43) xs19+List.length (α:=D43) r29)*24≤140737488355328) (A.gd (Z.R64 (y20+1)) ((F.oper_Batch_l1 a0 a3 r7 f) (xs19++r29) (y20+1))))))else(some (xs19,(r7.1.1,r7.1.2.1,(r7.1.2.2.1,r7.1.2.2.2.1,r7.1.2.2.2.2.1,r7.1.2.2.2.2.2)),0))
def F.oper_Batch (a0:D25)(a1:Int)(a2:D28)(a3:(List D43)):Option ((List D43)×D28×Int):=(F.oper_check (a0.1,a0.2.1,a0.2.2.1,(a0.2.2.2.1.1,a0.2.2.2.1.2.1,a0.2.2.2.1.2.2),a0.2.2.2.2.1,a0.2.2.2.2.2.1,a0.2.2.2.2.2.2) a1 (a2.1,a2.2.1,(a2.2.2.1,a2.2.2.2.1,a2.2.2.2.2.1,a2.2.2.2.2.2)) a3).bind fun r4=>(if r4≠0 then(some ([],(0,0,(0,0,0,0)),r4))else((F.oper_goes (a0.1,a0.2.1,a0.2.2.1,(a0.2.2.2.1.1,a0.2.2.2.1.2.1,a0.2.2.2.1.2.2),a0.2.2.2.2.1,a0.2.2.2.2.2.1,a0.2.2.2.2.2.2) (a2.1,a2.2.1,(a2.2.2.1,a2.2.2.2.1,a2.2.2.2.2.1,a2.2.2.2.2.2))).bind fun r7=>(if r7.2.2≠0 then(some ([],(0,0,(0,0,0,0)),r7.2.2))else(if(!r7.2.1)=true then(some ([],(r7.1.1,r7.1.2.1,(r7.1.2.2.1,r7.1.2.2.2.1,r7.1.2.2.2.2.1,r7.1.2.2.2.2.2)),0))else(F.oper_Batch_l1 a0 a3 r7 A.FU [] 0)))))
theorem oper_Batch_ok (a0:D25)(a1:Int)(a2:D28)(a3:(List D43))(A2_:Option Addr)(c3_:Nat)(A17_:Option Addr)(c18_:Nat)(m19_:Int)(h0_:IntKind.i64.has a0.1)(h1_:IntKind.i64.has a0.2.1)(h4_:IntKind.i64.has a0.2.2.2.1.1)(h5_:IntKind.i64.has a0.2.2.2.1.2.1)(h6_:a0.2.2.2.1.2.2.size≤maxLen)(h7_:a0.2.2.2.2.1.size≤maxLen)(h8_:IntKind.i64.has a0.2.2.2.2.2.1)(h9_:IntKind.i64.has a0.2.2.2.2.2.2)(h10_:IntKind.i64.has a1)(h11_:IntKind.i64.has a2.1)(h12_:IntKind.i64.has a2.2.1)(h13_:IntKind.i64.has a2.2.2.1)(h14_:IntKind.i64.has a2.2.2.2.1)(h15_:IntKind.i64.has a2.2.2.2.2.1)(h16_:IntKind.i64.has a2.2.2.2.2.2)(r:(List D43)×D28×Int)(hF:F.oper_Batch a0 a1 a2 a3=some r):
    A.Ct Tryz.prog 20 [.agg #[.int .i64 a0.1,.int .i64 a0.2.1,.slice A2_ ((a0.2.2.1).length) c3_,.int .i64 a0.2.2.2.1.1,.int .i64 a0.2.2.2.1.2.1,.string a0.2.2.2.1.2.2,.string a0.2.2.2.2.1,.int .i64 a0.2.2.2.2.2.1,.int .i64 a0.2.2.2.2.2.2],.int .i64 a1,.agg #[.int .i64 a2.1,.int .i64 a2.2.1,.int .i64 a2.2.2.1,.int .i64 a2.2.2.2.1,.int .i64 a2.2.2.2.2.1,.int .i64 a2.2.2.2.2.2],.slice A17_ ((a3).length) c18_] [(0,.sh (.slice (Z.Ty.int .i64)) [.slice A2_ (a0.2.2.1).length c3_] a0.2.2.1),(1,.ln T43 A17_ c18_ a3),(2,.el none 1 0 A.tabF),(3,.el none 2 0 A.tabA),(4,.el none 0 0 [.int .i64 m19_])] [] (fun v H'=>∃(A0':Option Addr) (c1':Nat),v=.tuple #[.slice A0' ((r.1).length) c1',.agg #[.int .i64 r.2.1.1,.int .i64 r.2.1.2.1,.int .i64 r.2.1.2.2.1,.int .i64 r.2.1.2.2.2.1,.int .i64 r.2.1.2.2.2.2.1,.int .i64 r.2.1.2.2.2.2.2],.int .i64 r.2.2]∧H'=[(0,.own T43 44 A0' c1' r.1)]∧IntKind.i64.has r.2.1.1∧IntKind.i64.has r.2.1.2.1∧IntKind.i64.has r.2.1.2.2.1∧IntKind.i64.has r.2.1.2.2.2.1∧IntKind.i64.has r.2.1.2.2.2.2.1∧IntKind.i64.has r.2.1.2.2.2.2.2∧IntKind.i64.has r.2.2):=by
 refine A.Ct.enter Tryz.func20 rfl Tryz.ntmps20 rfl fun w0 F0=>?_
 rw[F.oper_Batch]at hF
 refine A.xl 1 ?_
 refine A.AL.box 5 (cs:=[.int .i64 a0.1,.int .i64 a0.2.1,.slice A2_ ((a0.2.2.1).length) c3_,.int .i64 a0.2.2.2.1.1,.int .i64 a0.2.2.2.1.2.1,.string a0.2.2.2.1.2.2,.string a0.2.2.2.2.1,.int .i64 a0.2.2.2.2.2.1,.int .i64 a0.2.2.2.2.2.2]) fun g1=>?_
 refine A.AL.box 6 (cs:=[.int .i64 a2.1,.int .i64 a2.2.1,.int .i64 a2.2.2.1,.int .i64 a2.2.2.2.1,.int .i64 a2.2.2.2.2.1,.int .i64 a2.2.2.2.2.2]) fun g2=>?_
 refine A.q0 [] [] [.n] [] ?_
 refine A.AL.alloc 7 (cs:=[.int .i64 0,.int .i64 0,.int .i64 0,.int .i64 0,.int .i64 0,.int .i64 0]) Tryz.zeroValue29 fun g3=>?_
 refine A.q0 [] [] [.n] [] ?_
 refine A.dl 3 ?_
 refine A.q0 [5,6] [] [.b 0 0,.n,.b 1 0,.n] [(18,.agg #[.int .i64 a0.1,.int .i64 a0.2.1,.slice A2_ ((a0.2.2.1).length) c3_,.int .i64 a0.2.2.2.1.1,.int .i64 a0.2.2.2.1.2.1,.string a0.2.2.2.1.2.2,.string a0.2.2.2.2.1,.int .i64 a0.2.2.2.2.2.1,.int .i64 a0.2.2.2.2.2.2]),(19,.int .i64 a1),(20,.agg #[.int .i64 a2.1,.int .i64 a2.2.1,.int .i64 a2.2.2.1,.int .i64 a2.2.2.2.1,.int .i64 a2.2.2.2.2.1,.int .i64 a2.2.2.2.2.2]),(21,.slice A17_ ((a3).length) c18_)] ?_
 obtain⟨r4,hv5,hF⟩:=A.bd_some hF
 refine A.AL.call 8 [] (first:=[]) (cap:=[]) cf48 (oper_check_ok (a0.1,a0.2.1,a0.2.2.1,(a0.2.2.2.1.1,a0.2.2.2.1.2.1,a0.2.2.2.1.2.2),a0.2.2.2.2.1,a0.2.2.2.2.2.1,a0.2.2.2.2.2.2) a1 (a2.1,a2.2.1,(a2.2.2.1,a2.2.2.2.1,a2.2.2.2.2.1,a2.2.2.2.2.2)) a3 A2_ c3_ A17_ c18_ h0_ h1_ h4_ h5_ h6_ h7_ h8_ h9_ h10_ h11_ h12_ h13_ h14_ h15_ h16_ r4 hv5) (.s 0 (.s 1 (.s 2 (.s 3 .nil)))) ?_
 rintro _ _ ⟨rfl,rfl,hr6⟩
 refine⟨by kernel_rfl,?_⟩
 refine A.q0 [] [] [.n] [(11,.int .i64 r4)] ?_
 refine A.dl 2 ?_
 refine A.q0 [] [] [.n,.n] [(24,.bool (decide (r4≠0)))] ?_
 refine A.dx 1 ?_
 refine A.AX.cnd rfl hF (fun hb hF=>?_) (fun hb hF=>?_)
 ·refine A.xl 1 ?_
  refine A.q0 [] [] [.n,.n,.n] [(25,.agg #[.int .i64 0,.int .i64 0,.int .i64 0,.int .i64 0,.int .i64 0,.int .i64 0]),(26,.int .i64 r4),(8,.slice none 0 0)] ?_
  refine A.sw 7 [] [.int .i64 0,.int .i64 0,.int .i64 0,.int .i64 0,.int .i64 0,.int .i64 0] ?_
  refine A.q0 [] [] [.n] [(10,.int .i64 r4)] ?_
  refine A.dx 1 ?_
  obtain rfl:=Option.some.inj hF
  refine A.nil 48 T43 44 ?_
  exact A.AX.ret [(0,48)] (.tuple #[.slice none 0 0,.agg #[.int .i64 0,.int .i64 0,.int .i64 0,.int .i64 0,.int .i64 0,.int .i64 0],.int .i64 r4]) (fun a w hf hh=>Z.resv3 rfl (Z.rv_t hf rfl) (Z.rv_n hf rfl Tryz.isAgg29 Tryz.sizeOf29 (A.Hp.blk hh 7) rfl) (Z.rv_t hf rfl)) (⟨none,0,rfl,rfl,(A.hasl .i64 (0) rfl),(A.hasl .i64 (0) rfl),(A.hasl .i64 (0) rfl),(A.hasl .i64 (0) rfl),(A.hasl .i64 (0) rfl),(A.hasl .i64 (0) rfl),hr6⟩)
 refine A.xl 3 ?_
 refine A.q0 [5,6] [] [.b 0 0,.b 1 0] [(28,.agg #[.int .i64 a0.1,.int .i64 a0.2.1,.slice A2_ ((a0.2.2.1).length) c3_,.int .i64 a0.2.2.2.1.1,.int .i64 a0.2.2.2.1.2.1,.string a0.2.2.2.1.2.2,.string a0.2.2.2.2.1,.int .i64 a0.2.2.2.2.2.1,.int .i64 a0.2.2.2.2.2.2]),(29,.agg #[.int .i64 a2.1,.int .i64 a2.2.1,.int .i64 a2.2.2.1,.int .i64 a2.2.2.2.1,.int .i64 a2.2.2.2.2.1,.int .i64 a2.2.2.2.2.2])] ?_
 obtain⟨r7,hv8,hF⟩:=A.bd_some hF
 refine A.AL.call 49 [] (first:=[]) (cap:=[]) cf49 (oper_goes_ok (a0.1,a0.2.1,a0.2.2.1,(a0.2.2.2.1.1,a0.2.2.2.1.2.1,a0.2.2.2.1.2.2),a0.2.2.2.2.1,a0.2.2.2.2.2.1,a0.2.2.2.2.2.2) (a2.1,a2.2.1,(a2.2.2.1,a2.2.2.2.1,a2.2.2.2.2.1,a2.2.2.2.2.2)) A2_ c3_ h0_ h1_ h4_ h5_ h6_ h7_ h8_ h9_ h11_ h12_ h13_ h14_ h15_ h16_ r7 hv8) (.s 0 .nil) ?_
 rintro _ _ ⟨rfl,rfl,hr9,hr10,hr11,hr12,hr13,hr14,hr15⟩
 refine⟨by kernel_rfl,?_⟩
 refine A.q0 [] [] [.n,.n,.n,.n] [(31,.agg #[.int .i64 r7.1.1,.int .i64 r7.1.2.1,.int .i64 r7.1.2.2.1,.int .i64 r7.1.2.2.2.1,.int .i64 r7.1.2.2.2.2.1,.int .i64 r7.1.2.2.2.2.2]),(32,.bool r7.2.1),(33,.int .i64 r7.2.2)] ?_
 refine A.AL.alloc 89 (cs:=[.int .i64 0,.int .i64 0,.int .i64 0,.int .i64 0,.int .i64 0,.int .i64 0]) Tryz.zeroValue29 fun g16=>?_
 refine A.sw 89 [] [.int .i64 r7.1.1,.int .i64 r7.1.2.1,.int .i64 r7.1.2.2.1,.int .i64 r7.1.2.2.2.1,.int .i64 r7.1.2.2.2.2.1,.int .i64 r7.1.2.2.2.2.2] ?_
 refine A.q0 [] [] [.n,.n] [(13,.bool r7.2.1),(14,.int .i64 r7.2.2)] ?_
 refine A.dl 4 ?_
 refine A.q0 [] [] [.n,.n,.n] [(34,.bool (decide (r7.2.2≠0)))] ?_
 refine A.dx 1 ?_
 refine A.AX.cnd rfl hF (fun hb hF=>?_) (fun hb hF=>?_)
 ·refine A.xl 1 ?_
  refine A.q0 [] [] [.n,.n,.n] [(37,.agg #[.int .i64 0,.int .i64 0,.int .i64 0,.int .i64 0,.int .i64 0,.int .i64 0]),(38,.int .i64 r7.2.2),(8,.slice none 0 0)] ?_
  refine A.sw 7 [] [.int .i64 0,.int .i64 0,.int .i64 0,.int .i64 0,.int .i64 0,.int .i64 0] ?_
  refine A.q0 [] [] [.n] [(10,.int .i64 r7.2.2)] ?_
  refine A.dx 1 ?_
  obtain rfl:=Option.some.inj hF
  refine A.nil 90 T43 44 ?_
  exact A.AX.ret [(0,90)] (.tuple #[.slice none 0 0,.agg #[.int .i64 0,.int .i64 0,.int .i64 0,.int .i64 0,.int .i64 0,.int .i64 0],.int .i64 r7.2.2]) (fun a w hf hh=>Z.resv3 rfl (Z.rv_t hf rfl) (Z.rv_n hf rfl Tryz.isAgg29 Tryz.sizeOf29 (A.Hp.blk hh 7) rfl) (Z.rv_t hf rfl)) (⟨none,0,rfl,rfl,(A.hasl .i64 (0) rfl),(A.hasl .i64 (0) rfl),(A.hasl .i64 (0) rfl),(A.hasl .i64 (0) rfl),(A.hasl .i64 (0) rfl),(A.hasl .i64 (0) rfl),hr15⟩)
 refine A.xl 1 ?_
 refine A.q0 [] [] [.n,.n,.n] [(39,.bool (!r7.2.1))] ?_
 refine A.dx 1 ?_
 refine A.AX.cnb rfl hF (fun hb hF=>?_) (fun hb hF=>?_)
 ·refine A.xx 1 ?_
  refine A.AX.dr mixed 4 4 (A.mb 4 0) ?_
  refine A.hq A.pb [] [0,1,2,3,4,5,6,89] [89] [] (A.mb 4 3) 2 [(0,.b 0 0),(1,.n)] [(42,.agg #[.int .i64 r7.1.1,.int .i64 r7.1.2.1,.int .i64 r7.1.2.2.1,.int .i64 r7.1.2.2.2.1,.int .i64 r7.1.2.2.2.2.1,.int .i64 r7.1.2.2.2.2.2]),(8,.slice none 0 0)] ?_
  refine A.AH.one 2 ?_
  refine A.sw 7 [] [.int .i64 r7.1.1,.int .i64 r7.1.2.1,.int .i64 r7.1.2.2.1,.int .i64 r7.1.2.2.2.1,.int .i64 r7.1.2.2.2.2.1,.int .i64 r7.1.2.2.2.2.2] ?_
  refine A.AH.nx (A.mb 4 7) [0,1,2,3,4,5,6,89] ?_
  refine A.hq A.pb [0,1,2,3,4,5,6,89] [0,1,2,3,4,5,6,7,89] [] [] (A.mb 4 15) 0 [(3,.n)] [(10,.int .i64 0)] ?_
  refine A.AH.done ?_
  refine A.ex 1 ?_
  obtain rfl:=Option.some.inj hF
  refine A.nil 91 T43 44 ?_
  exact A.AX.ret [(0,91)] (.tuple #[.slice none 0 0,.agg #[.int .i64 r7.1.1,.int .i64 r7.1.2.1,.int .i64 r7.1.2.2.1,.int .i64 r7.1.2.2.2.1,.int .i64 r7.1.2.2.2.2.1,.int .i64 r7.1.2.2.2.2.2],.int .i64 0]) (fun a w hf hh=>Z.resv3 rfl (Z.rv_t hf rfl) (Z.rv_n hf rfl Tryz.isAgg29 Tryz.sizeOf29 (A.Hp.blk hh 7) rfl) (Z.rv_t hf rfl)) (⟨none,0,rfl,rfl,hr9,hr10,hr11,hr12,hr13,hr14,(A.hasl .i64 (0) rfl)⟩)
 refine A.xl 4 ?_
 refine A.q0 [] [] [.n] [(15,.slice none 0 0)] ?_
 refine A.dl 3 ?_
 refine A.q0 [] [] [.n,.n,.n] [(43,.slice A17_ ((a3).length) c18_),(44,.int .i64 ((a3).length:Int)),(45,.int .i64 0)] ?_
 refine A.dx 2 ?_
 refine A.nil 136 T43 44 ?_
 refine A.lp_ [4,9,12,43,44] [0,1,2,3,4,5,7,89] (fun f nl nh=>∃(xs19:List D43),∃(y20:Int),∃(A17:Option Addr),∃(c18:Nat),nl=[(15,.slice A17 ((xs19).length) c18),(45,.int .i64 y20)]∧nh=[(136,.own T43 44 A17 c18 xs19)]∧IntKind.i64.has y20∧F.oper_Batch_l1 a0 a3 r7 f xs19 y20=some r) ⟨[],0,none,0,rfl,rfl,(A.hasl .i64 (0) rfl),hF⟩ ?_
 rintro f22 _ _ ⟨xs19,y20,A17,c18,rfl,rfl,hy21,hF⟩
 rcases f22 with _|f22
 ·exact A.no0 hF
 rw[F.oper_Batch_l1]at hF
 refine A.xl 1 ?_
 refine A.q0 [] [] [.n] [(46,.bool (decide (y20<((a3).length:Int))))] ?_
 refine A.dx 2 ?_
 refine A.AX.cnd rfl hF (fun hb hF=>?_) (fun hb hF=>?_)
 ·refine A.xl 5 ?_
  obtain⟨x23,hv24,hF⟩:=A.bd_some hF
  refine A.AL.ixl 1 221 hv24 fun ho25=>?_
  intro b26 o27
  refine A.q0 [] [221] [.e 0 0] [(48,.agg #[.int .i64 x23.1,.string x23.2])] ?_
  refine A.AL.alloc 222 (cs:=[.int .i64 0,.string (ByteArray.mk #[])]) Tryz.zeroValue44 fun g28=>?_
  refine A.sw 222 [] [.int .i64 x23.1,.string x23.2] ?_
  refine A.dl 1 ?_
  refine A.q0 [5,222] [] [.n,.b 0 0,.b 1 0] [(49,.slice A17 ((xs19).length) c18),(50,.agg #[.int .i64 a0.1,.int .i64 a0.2.1,.slice A2_ ((a0.2.2.1).length) c3_,.int .i64 a0.2.2.2.1.1,.int .i64 a0.2.2.2.1.2.1,.string a0.2.2.2.1.2.2,.string a0.2.2.2.2.1,.int .i64 a0.2.2.2.2.2.1,.int .i64 a0.2.2.2.2.2.2]),(51,.agg #[.int .i64 x23.1,.string x23.2])] ?_
  obtain⟨r29,hv30,hF⟩:=A.bd_some hF
  refine A.AL.call 223 [] (first:=[]) (cap:=[]) cf50 (oper_each_ok (a0.1,a0.2.1,a0.2.2.1,(a0.2.2.2.1.1,a0.2.2.2.1.2.1,a0.2.2.2.1.2.2),a0.2.2.2.2.1,a0.2.2.2.2.2.1,a0.2.2.2.2.2.2) (x23.1,x23.2) A2_ c3_ m19_ h0_ h1_ h4_ h5_ h6_ h7_ h8_ h9_ ho25.1 ho25.2 r29 hv30) (.s 0 (.s 2 (.s 3 (.s 4 .nil)))) ?_
  rintro _ _ ⟨A31,c32,rfl,rfl⟩
  refine⟨by kernel_rfl,?_⟩
  obtain⟨hl35,hF⟩:=A.gd_some hF
  refine A.AL.app (k:=136) [] (A.rowO (k:=223) rfl) inf44 hl35 fun A33 c34=>?_
  refine A.q0 [] [] [.n] [(15,.slice A33 ((xs19++r29).length) c34)] ?_
  refine A.dl 2 ?_
  obtain⟨hc36,hF⟩:=A.gd_some hF
  refine A.q [] [] [.n,.n] [Z.R64 (y20+1)] [(45,.int .i64 (y20+1))] hc36 ?_
  refine A.AL.done ?_
  exact A.j ⟨_,Nat.lt_succ_self _,⟨(xs19++r29),(y20+1),A33,c34,rfl,rfl,(Z.i64_has hc36),hF⟩⟩
 refine A.xx 3 ?_
 refine A.AX.dr mixed 5 5 (A.mb 5 0) ?_
 refine A.hq A.pb [] [0,1,2,3,4,5,89,136] [89] [] (A.mb 5 7) 2 [(0,.n),(1,.b 0 0),(2,.n)] [(56,.agg #[.int .i64 r7.1.1,.int .i64 r7.1.2.1,.int .i64 r7.1.2.2.1,.int .i64 r7.1.2.2.2.1,.int .i64 r7.1.2.2.2.2.1,.int .i64 r7.1.2.2.2.2.2]),(8,.slice A17 ((xs19).length) c18)] ?_
 refine A.AH.one 3 ?_
 refine A.sw 7 [] [.int .i64 r7.1.1,.int .i64 r7.1.2.1,.int .i64 r7.1.2.2.1,.int .i64 r7.1.2.2.2.1,.int .i64 r7.1.2.2.2.2.1,.int .i64 r7.1.2.2.2.2.2] ?_
 refine A.AH.nx (A.mb 5 15) [0,1,2,3,4,5,89,136] ?_
 refine A.hq A.pb [0,1,2,3,4,5,89,136] [0,1,2,3,4,5,7,89,136] [] [] (A.mb 5 31) 0 [(4,.n)] [(10,.int .i64 0)] ?_
 refine A.AH.done ?_
 refine A.ex 1 ?_
 obtain rfl:=Option.some.inj hF
 exact A.AX.ret [(0,136)] (.tuple #[.slice A17 ((xs19).length) c18,.agg #[.int .i64 r7.1.1,.int .i64 r7.1.2.1,.int .i64 r7.1.2.2.1,.int .i64 r7.1.2.2.2.1,.int .i64 r7.1.2.2.2.2.1,.int .i64 r7.1.2.2.2.2.2],.int .i64 0]) (fun a w hf hh=>Z.resv3 rfl (Z.rv_t hf rfl) (Z.rv_n hf rfl Tryz.isAgg29 Tryz.sizeOf29 (A.Hp.blk hh 7) rfl) (Z.rv_t hf rfl)) (⟨A17,c18,rfl,rfl,hr9,hr10,hr11,hr12,hr13,hr14,(A.hasl .i64 (0) rfl)⟩)
end Go.Proofs.YtbljnlkhebiniaaGreatDoor
end
section
set_option linter.unusedVariables false
set_option linter.unusedSimpArgs false
set_option maxRecDepth 20000
set_option maxHeartbeats 8000000
set_option synthInstance.maxSize 1000000
set_option synthInstance.maxHeartbeats 400000
namespace Go.Proofs.YtbljnlkhebiniaaGreatDoor
open Go.RowKit
end Go.Proofs.YtbljnlkhebiniaaGreatDoor
end
section
set_option linter.unusedVariables false
set_option linter.unusedSimpArgs false
set_option maxRecDepth 20000
set_option maxHeartbeats 8000000
set_option synthInstance.maxSize 1000000
set_option synthInstance.maxHeartbeats 400000
namespace Go.Proofs.YtbljnlkhebiniaaGreatDoor
open Go.RowKit
end Go.Proofs.YtbljnlkhebiniaaGreatDoor
end
section
set_option linter.unusedVariables false
set_option linter.unusedSimpArgs false
set_option maxRecDepth 20000
set_option maxHeartbeats 8000000
set_option synthInstance.maxSize 1000000
set_option synthInstance.maxHeartbeats 400000
namespace Go.Proofs.YtbljnlkhebiniaaGreatDoor
open Go.RowKit
end Go.Proofs.YtbljnlkhebiniaaGreatDoor
end
section
set_option linter.unusedVariables false
set_option linter.unusedSimpArgs false
set_option maxRecDepth 20000
set_option maxHeartbeats 8000000
set_option synthInstance.maxSize 1000000
set_option synthInstance.maxHeartbeats 400000
namespace Go.Proofs.YtbljnlkhebiniaaGreatDoor
open Go.RowKit
end Go.Proofs.YtbljnlkhebiniaaGreatDoor
end
section
set_option linter.unusedVariables false
set_option linter.unusedSimpArgs false
set_option maxRecDepth 20000
set_option maxHeartbeats 8000000
set_option synthInstance.maxSize 1000000
set_option synthInstance.maxHeartbeats 400000
namespace Go.Proofs.YtbljnlkhebiniaaGreatDoor
open Go.RowKit
def F.slices_Clone_api_Rec_api_Rec (a0:(List D43)):Option (List D43):=A.gd ((List.length (α:=D43) []+List.length (α:=D43) a0)*24≤140737488355328) (some ([]++a0))
theorem slices_Clone_api_Rec_api_Rec_ok (a0:(List D43))(A0_:Option Addr)(c1_:Nat)(r:(List D43))(hF:F.slices_Clone_api_Rec_api_Rec a0=some r):
    A.Ct Tryz.prog 26 [.slice A0_ ((a0).length) c1_] [(0,.ln T43 A0_ c1_ a0)] [] (fun v H'=>∃(A0':Option Addr) (c1':Nat),v=.slice A0' ((r).length) c1'∧H'=[(0,.own T43 44 A0' c1' r)]):=by
 refine A.Ct.enter Tryz.func26 rfl Tryz.ntmps26 rfl fun w0 F0=>?_
 rw[F.slices_Clone_api_Rec_api_Rec]at hF
 refine A.xl 1 ?_
 refine A.q0 [] [] [.n] [] ?_
 refine A.dl 3 ?_
 refine A.q0 [] [] [.n,.n] [(4,.bool A0_.isNone)] ?_
 refine A.dx 1 ?_
 refine A.AX.cnn rfl (fun hb=>?_) (fun hb=>?_)
 ·refine A.nilL 0 hb fun hb=>?_
  subst hb
  replace hF:some []=some r:=by simpa[A.gd,A.ix] using hF
  refine A.xl 1 ?_
  refine A.q0 [] [] [.n] [(2,.slice none 0 0)] ?_
  refine A.dx 1 ?_
  obtain rfl:=Option.some.inj hF
  refine A.nil 2 T43 44 ?_
  exact A.rt1 [(0,2)] ⟨none,0,rfl,rfl⟩
 refine A.xl 3 ?_
 refine A.AL.bs0 1 T43 (fun g1=>?_) Tryz.sizeOf44
 refine A.q0 [] [] [.n] [(6,.slice A0_ ((a0).length) c1_)] ?_
 obtain⟨hl4,hF⟩:=A.gd_some hF
 refine A.AL.app (k:=1) [] (A.rowL (k:=0) rfl) inf44 hl4 fun A2 c3=>?_
 refine A.q0 [] [] [.n] [(2,.slice A2 (([]++a0).length) c3)] ?_
 refine A.dx 1 ?_
 obtain rfl:=Option.some.inj hF
 exact A.rt1 [(0,1)] ⟨A2,c3,rfl,rfl⟩
end Go.Proofs.YtbljnlkhebiniaaGreatDoor
end
section
set_option linter.unusedVariables false
set_option linter.unusedSimpArgs false
set_option maxRecDepth 20000
set_option maxHeartbeats 8000000
set_option synthInstance.maxSize 1000000
set_option synthInstance.maxHeartbeats 400000
namespace Go.Proofs.YtbljnlkhebiniaaGreatDoor
open Go.RowKit
def F.L17_OperEach_j1 (y56:Bool):Option Bool:=some y56
def F.L17_OperEach_j2 (a0:D25)(a1:D59)(xs10:List D43)(y11:Int)(y13:Int)(y15:Int)(y17:Int)(y19:Int)(y21:Int)(y24:Int)(xs28:List D43)(y29:Int)(y31:Int)(y33:Int)(y35:Int)(y37:Int)(y39:Int)(y42:Int):Option Bool:=(F.oper_Batch (a0.1,a0.2.1,a0.2.2.1,(a0.2.2.2.1.1,a0.2.2.2.1.2.1,a0.2.2.2.1.2.2),a0.2.2.2.2.1,a0.2.2.2.2.2.1,a0.2.2.2.2.2.2) 0 (a1.2.1.1,a1.2.1.2.1,(a1.2.1.2.2.1,a1.2.1.2.2.2.1,a1.2.1.2.2.2.2.1,a1.2.1.2.2.2.2.2)) a1.2.2).bind fun r44=>(if(bif decide (y24≠0)then true else decide (y42≠0))=true then(some (decide (r44.2.2≠0)))else(if r44.2.2=0 then(if(y11,y13,(y15,y17,y19,y21))=(y29,y31,(y33,y35,y37,y39))then(if(y29,y31,(y33,y35,y37,y39))=(r44.2.1.1,r44.2.1.2.1,(r44.2.1.2.2.1,r44.2.1.2.2.2.1,r44.2.1.2.2.2.2.1,r44.2.1.2.2.2.2.2))then((F.slices_Clone_api_Rec_api_Rec xs10).bind fun r57=>(A.gd ((List.length (α:=D43) r57+List.length (α:=D43) xs28)*24≤140737488355328) ((F.slices_Equal_api_Rec_api_Rec (r57++xs28) r44.1).bind fun r64=>(F.L17_OperEach_j1 r64))))else(F.L17_OperEach_j1 false))else(F.L17_OperEach_j1 false))else(F.L17_OperEach_j1 false)))
def F.L17_OperEach_j3 (a0:D25)(a1:D59)(a2:UInt8)(xs10:List D43)(y11:Int)(y13:Int)(y15:Int)(y17:Int)(y19:Int)(y21:Int)(y24:Int):Option Bool:=A.gd (0≤min (a2.toNat:Int) ((a1.2.2).length:Int)∧(min (a2.toNat:Int) ((a1.2.2).length:Int)).toNat≤(a1.2.2).length) ((F.oper_Batch (a0.1,a0.2.1,a0.2.2.1,(a0.2.2.2.1.1,a0.2.2.2.1.2.1,a0.2.2.2.1.2.2),a0.2.2.2.2.1,a0.2.2.2.2.2.1,a0.2.2.2.2.2.2) 0 (a1.2.1.1,a1.2.1.2.1,(a1.2.1.2.2.1,a1.2.1.2.2.2.1,a1.2.1.2.2.2.2.1,a1.2.1.2.2.2.2.2)) (List.drop ((min (a2.toNat:Int) ((a1.2.2).length:Int)).toNat) a1.2.2)).bind fun r491=>(F.L17_OperEach_j2 a0 a1 xs10 y11 y13 y15 y17 y19 y21 y24 r491.1 r491.2.1.1 r491.2.1.2.1 r491.2.1.2.2.1 r491.2.1.2.2.2.1 r491.2.1.2.2.2.2.1 r491.2.1.2.2.2.2.2 r491.2.2))
def F.L17_OperEach (a0:D25)(a1:D59)(a2:UInt8):Option Bool:=(F.L17_live).bind fun r3=>(if(!r3)=true then(some false)else((F.L17_few a1.2.2).bind fun r5=>(if(bif !r5 then true else decide ((300:Int)<(a0.2.2.2.1.2.2.size:Int)))=true then(some true)else(A.gd (Z.R64 ((a2.toNat:Int))) (A.gd (0≤min (a2.toNat:Int) ((a1.2.2).length:Int)∧(min (a2.toNat:Int) ((a1.2.2).length:Int)).toNat≤(a1.2.2).length) ((F.oper_Batch (a0.1,a0.2.1,a0.2.2.1,(a0.2.2.2.1.1,a0.2.2.2.1.2.1,a0.2.2.2.1.2.2),a0.2.2.2.2.1,a0.2.2.2.2.2.1,a0.2.2.2.2.2.2) 0 (a1.2.1.1,a1.2.1.2.1,(a1.2.1.2.2.1,a1.2.1.2.2.2.1,a1.2.1.2.2.2.2.1,a1.2.1.2.2.2.2.2)) (List.take ((min (a2.toNat:Int) ((a1.2.2).length:Int)).toNat) a1.2.2)).bind fun r1452=>(F.L17_OperEach_j3 a0 a1 a2 r1452.1 r1452.2.1.1 r1452.2.1.2.1 r1452.2.1.2.2.1 r1452.2.1.2.2.2.1 r1452.2.1.2.2.2.2.1 r1452.2.1.2.2.2.2.2 r1452.2.2)))))))
theorem L17_OperEach_ok (a0:D25)(a1:D59)(a2:UInt8)(A2_:Option Addr)(c3_:Nat)(A17_:Option Addr)(c18_:Nat)(m19_:Int)(h0_:IntKind.i64.has a0.1)(h1_:IntKind.i64.has a0.2.1)(h4_:IntKind.i64.has a0.2.2.2.1.1)(h5_:IntKind.i64.has a0.2.2.2.1.2.1)(h6_:a0.2.2.2.1.2.2.size≤maxLen)(h7_:a0.2.2.2.2.1.size≤maxLen)(h8_:IntKind.i64.has a0.2.2.2.2.2.1)(h9_:IntKind.i64.has a0.2.2.2.2.2.2)(h10_:IntKind.i64.has a1.1)(h11_:IntKind.i64.has a1.2.1.1)(h12_:IntKind.i64.has a1.2.1.2.1)(h13_:IntKind.i64.has a1.2.1.2.2.1)(h14_:IntKind.i64.has a1.2.1.2.2.2.1)(h15_:IntKind.i64.has a1.2.1.2.2.2.2.1)(h16_:IntKind.i64.has a1.2.1.2.2.2.2.2)(r:Bool)(hF:F.L17_OperEach a0 a1 a2=some r):
    A.Ct Tryz.prog 5 [.agg #[.int .i64 a0.1,.int .i64 a0.2.1,.slice A2_ ((a0.2.2.1).length) c3_,.int .i64 a0.2.2.2.1.1,.int .i64 a0.2.2.2.1.2.1,.string a0.2.2.2.1.2.2,.string a0.2.2.2.2.1,.int .i64 a0.2.2.2.2.2.1,.int .i64 a0.2.2.2.2.2.2],.agg #[.int .i64 a1.1,.int .i64 a1.2.1.1,.int .i64 a1.2.1.2.1,.int .i64 a1.2.1.2.2.1,.int .i64 a1.2.1.2.2.2.1,.int .i64 a1.2.1.2.2.2.2.1,.int .i64 a1.2.1.2.2.2.2.2,.slice A17_ ((a1.2.2).length) c18_],.int .u8 (a2.toNat:Int)] [(0,.sh (.slice (Z.Ty.int .i64)) [.slice A2_ (a0.2.2.1).length c3_] a0.2.2.1),(1,.sh (.slice T43) [.slice A17_ (a1.2.2).length c18_] a1.2.2),(2,.el none 1 0 A.tabF),(3,.el none 2 0 A.tabA),(4,.el none 0 0 [.int .i64 m19_])] [] (fun v H'=>v=.bool r∧H'=[]):=by
 refine A.Ct.enter Tryz.func5 rfl Tryz.ntmps5 rfl fun w0 F0=>?_
 rw[F.L17_OperEach]at hF
 refine A.xl 1 ?_
 refine A.AL.box 5 (cs:=[.int .i64 a0.1,.int .i64 a0.2.1,.slice A2_ ((a0.2.2.1).length) c3_,.int .i64 a0.2.2.2.1.1,.int .i64 a0.2.2.2.1.2.1,.string a0.2.2.2.1.2.2,.string a0.2.2.2.2.1,.int .i64 a0.2.2.2.2.2.1,.int .i64 a0.2.2.2.2.2.2]) fun g1=>?_
 refine A.AL.box 6 (cs:=[.int .i64 a1.1,.int .i64 a1.2.1.1,.int .i64 a1.2.1.2.1,.int .i64 a1.2.1.2.2.1,.int .i64 a1.2.1.2.2.2.1,.int .i64 a1.2.1.2.2.2.2.1,.int .i64 a1.2.1.2.2.2.2.2,.slice A17_ ((a1.2.2).length) c18_]) fun g2=>?_
 refine A.q0 [] [] [.n] [] ?_
 refine A.dl 3 ?_
 obtain⟨r3,hv4,hF⟩:=A.bd_some hF
 refine A.AL.call 7 [] (first:=[]) (cap:=[]) cf7 (L17_live_ok r3 hv4) (.s 2 (.s 3 .nil)) ?_
 rintro _ _ ⟨rfl,rfl⟩
 refine⟨by kernel_rfl,?_⟩
 refine A.q0 [] [] [.n] [(18,.bool (!r3))] ?_
 refine A.dx 1 ?_
 refine A.AX.cnb rfl hF (fun hb hF=>?_) (fun hb hF=>?_)
 ·refine A.xl 1 ?_
  refine A.q0 [] [] [.n] [(6,.bool false)] ?_
  refine A.dx 1 ?_
  obtain rfl:=Option.some.inj hF
  exact A.rt1 [] ⟨rfl,rfl⟩
 refine A.xl 4 ?_
 refine A.q0 [6] [] [.n,.b 0 7] [(20,.slice A17_ ((a1.2.2).length) c18_)] ?_
 obtain⟨r5,hv6,hF⟩:=A.bd_some hF
 refine A.AL.call 47 [] (first:=[]) (cap:=[]) cf19 (L17_few_ok a1.2.2 A17_ c18_ r5 hv6) (.s 1 .nil) ?_
 rintro _ _ ⟨rfl,rfl⟩
 refine⟨by kernel_rfl,?_⟩
 refine A.q0 [5] [] [.n,.n,.sy .n,.sy .n,.sy (.b 0 5),.sy .n,.sy .n,.pk] [(29,.bool (bif !r5 then true else decide ((300:Int)<(a0.2.2.2.1.2.2.size:Int))))] ?_
 refine A.dx 1 ?_
 refine A.AX.cnb rfl hF (fun hb hF=>?_) (fun hb hF=>?_)
 ·refine A.xl 1 ?_
  refine A.q0 [] [] [.n] [(6,.bool true)] ?_
  refine A.dx 1 ?_
  obtain rfl:=Option.some.inj hF
  exact A.rt1 [] ⟨rfl,rfl⟩
 refine A.xl 3 ?_
 obtain⟨hc7,hF⟩:=A.gd_some hF
 refine A.q [6] [] [.n,.n,.n,.b 0 7,.n,.n,.n] [Z.R64 ((a2.toNat:Int))] [(7,.int .i64 (min (a2.toNat:Int) ((a1.2.2).length:Int)))] hc7 ?_
 refine A.dx 1 ?_
 refine A.AX.join [3,4,7] [0,1,2,3,4,5,6] (fun nl nh=>∃(xs10:List D43),∃(y11:Int),∃(y13:Int),∃(y15:Int),∃(y17:Int),∃(y19:Int),∃(y21:Int),∃(y24:Int),∃(A8:Option Addr),∃(c9:Nat),∃(g23:Nat),nl=[(8,.slice A8 ((xs10).length) c9),(9,.pointer (some ⟨g23,0,none⟩)),(10,.int .i64 y24)]∧nh=[(298,.own T43 44 A8 c9 xs10),(448,.blk g23 29 [.int .i64 y11,.int .i64 y13,.int .i64 y15,.int .i64 y17,.int .i64 y19,.int .i64 y21])]∧IntKind.i64.has y11∧IntKind.i64.has y13∧IntKind.i64.has y15∧IntKind.i64.has y17∧IntKind.i64.has y19∧IntKind.i64.has y21∧IntKind.i64.has y24∧F.L17_OperEach_j3 a0 a1 a2 xs10 y11 y13 y15 y17 y19 y21 y24=some r) ?_ ?_
 ·refine A.AX.dr mixed 16 16 (A.mb 16 0) ?_
  refine A.hq A.pb [] [0,1,2,3,4,5,6] [5,6] [] (A.mb 16 63) 10 [(0,.b 0 0),(1,.n),(3,.n),(5,.n),(2,.b 1 1),(4,.b 1 7)] [(37,.agg #[.int .i64 a0.1,.int .i64 a0.2.1,.slice A2_ ((a0.2.2.1).length) c3_,.int .i64 a0.2.2.2.1.1,.int .i64 a0.2.2.2.1.2.1,.string a0.2.2.2.1.2.2,.string a0.2.2.2.2.1,.int .i64 a0.2.2.2.2.2.1,.int .i64 a0.2.2.2.2.2.2]),(42,.int .i64 (min (a2.toNat:Int) ((a1.2.2).length:Int))),(39,.agg #[.int .i64 a1.2.1.1,.int .i64 a1.2.1.2.1,.int .i64 a1.2.1.2.2.1,.int .i64 a1.2.1.2.2.2.1,.int .i64 a1.2.1.2.2.2.2.1,.int .i64 a1.2.1.2.2.2.2.2]),(41,.slice A17_ ((a1.2.2).length) c18_)] ?_
  obtain⟨hc1031,hF⟩:=A.gd_some hF
  refine A.cutp 1 87 ((min (a2.toNat:Int) ((a1.2.2).length:Int)).toNat) hc1031.2 ?_
  refine A.AH.v A.pb [0,1,2,3,4,5,6] [0,1,2,3,4,5,6,87] 6 (A.mb 16 127) rfl (fun a w hf hh=>A.r_cuth (v:=(min (a2.toNat:Int) ((a1.2.2).length:Int)).toNat) 1 hf hh (Int.toNat_of_nonneg hc1031.1).symm hc1031.2) ?_
  refine A.AH.two 7 12 ?_ ?_
  ·obtain⟨r1452,hv1453,hF⟩:=A.bd_some hF
   refine A.AL.call 298 [] (first:=[]) (cap:=[]) cf20 (oper_Batch_ok (a0.1,a0.2.1,a0.2.2.1,(a0.2.2.2.1.1,a0.2.2.2.1.2.1,a0.2.2.2.1.2.2),a0.2.2.2.2.1,a0.2.2.2.2.2.1,a0.2.2.2.2.2.2) 0 (a1.2.1.1,a1.2.1.2.1,(a1.2.1.2.2.1,a1.2.1.2.2.2.1,a1.2.1.2.2.2.2.1,a1.2.1.2.2.2.2.2)) (List.take ((min (a2.toNat:Int) ((a1.2.2).length:Int)).toNat) a1.2.2) A2_ c3_ A17_ c18_ m19_ h0_ h1_ h4_ h5_ h6_ h7_ h8_ h9_ (A.hasl .i64 (0) rfl) h11_ h12_ h13_ h14_ h15_ h16_ r1452 hv1453) (.s 0 (.l 87 (.s 2 (.s 3 (.s 4 .nil))))) ?_
   rintro _ _ ⟨A1454,c1455,rfl,rfl,hr1456,hr1457,hr1458,hr1459,hr1460,hr1461,hr1462⟩
   refine⟨by kernel_rfl,?_⟩
   refine A.AH.nx (A.mb 16 255) [0,1,2,3,4,5,6,87] ?_
   refine A.hq A.pb [0,1,2,3,4,5,6,87] [0,1,2,3,4,5,6,87,298] [] [] (A.mb 16 4095) 4 [(8,.n),(9,.n),(10,.n),(11,.n)] [(45,.slice A1454 ((r1452.1).length) c1455),(46,.agg #[.int .i64 r1452.2.1.1,.int .i64 r1452.2.1.2.1,.int .i64 r1452.2.1.2.2.1,.int .i64 r1452.2.1.2.2.2.1,.int .i64 r1452.2.1.2.2.2.2.1,.int .i64 r1452.2.1.2.2.2.2.2]),(47,.int .i64 r1452.2.2)] ?_
   refine A.AH.one 12 ?_
   refine A.AL.alloc 448 (cs:=[.int .i64 0,.int .i64 0,.int .i64 0,.int .i64 0,.int .i64 0,.int .i64 0]) Tryz.zeroValue29 fun g1752=>?_
   refine A.AH.nx (A.mb 16 8191) [0,1,2,3,4,5,6,87,298] ?_
   refine A.hq A.pb [0,1,2,3,4,5,6,87,298] [0,1,2,3,4,5,6,87,298] [] [] (A.mb 16 16383) 2 [(13,.n)] [(8,.slice A1454 ((r1452.1).length) c1455)] ?_
   refine A.AH.one 14 ?_
   refine A.sw 448 [] [.int .i64 r1452.2.1.1,.int .i64 r1452.2.1.2.1,.int .i64 r1452.2.1.2.2.1,.int .i64 r1452.2.1.2.2.2.1,.int .i64 r1452.2.1.2.2.2.2.1,.int .i64 r1452.2.1.2.2.2.2.2] ?_
   refine A.AH.nx (A.mb 16 32767) [0,1,2,3,4,5,6,87,298] ?_
   refine A.hq A.pb [0,1,2,3,4,5,6,87,298] [0,1,2,3,4,5,6,87,298,448] [] [] (A.mb 16 65535) 0 [(15,.n)] [(10,.int .i64 r1452.2.2)] ?_
   refine A.AH.done ?_
   exact A.j ⟨r1452.1,r1452.2.1.1,r1452.2.1.2.1,r1452.2.1.2.2.1,r1452.2.1.2.2.2.1,r1452.2.1.2.2.2.2.1,r1452.2.1.2.2.2.2.2,r1452.2.2,A1454,c1455,g1752,rfl,rfl,hr1456,hr1457,hr1458,hr1459,hr1460,hr1461,hr1462,hF⟩
  refine A.AL.alloc 448 (cs:=[.int .i64 0,.int .i64 0,.int .i64 0,.int .i64 0,.int .i64 0,.int .i64 0]) Tryz.zeroValue29 fun g1752=>?_
  refine A.AH.nx (A.mb 16 4223) [0,1,2,3,4,5,6,87] ?_
  refine A.AH.one 7 ?_
  obtain⟨r1452,hv1453,hF⟩:=A.bd_some hF
  refine A.AL.call 298 [] (first:=[]) (cap:=[]) cf20 (oper_Batch_ok (a0.1,a0.2.1,a0.2.2.1,(a0.2.2.2.1.1,a0.2.2.2.1.2.1,a0.2.2.2.1.2.2),a0.2.2.2.2.1,a0.2.2.2.2.2.1,a0.2.2.2.2.2.2) 0 (a1.2.1.1,a1.2.1.2.1,(a1.2.1.2.2.1,a1.2.1.2.2.2.1,a1.2.1.2.2.2.2.1,a1.2.1.2.2.2.2.2)) (List.take ((min (a2.toNat:Int) ((a1.2.2).length:Int)).toNat) a1.2.2) A2_ c3_ A17_ c18_ m19_ h0_ h1_ h4_ h5_ h6_ h7_ h8_ h9_ (A.hasl .i64 (0) rfl) h11_ h12_ h13_ h14_ h15_ h16_ r1452 hv1453) (.s 0 (.l 87 (.s 2 (.s 3 (.s 4 .nil))))) ?_
  rintro _ _ ⟨A1454,c1455,rfl,rfl,hr1456,hr1457,hr1458,hr1459,hr1460,hr1461,hr1462⟩
  refine⟨by kernel_rfl,?_⟩
  refine A.AH.nx (A.mb 16 4351) [0,1,2,3,4,5,6,87] ?_
  refine A.hq A.pb [0,1,2,3,4,5,6,87] [0,1,2,3,4,5,6,87,298] [] [] (A.mb 16 16383) 2 [(8,.n),(9,.n),(10,.n),(11,.n),(13,.n)] [(46,.agg #[.int .i64 r1452.2.1.1,.int .i64 r1452.2.1.2.1,.int .i64 r1452.2.1.2.2.1,.int .i64 r1452.2.1.2.2.2.1,.int .i64 r1452.2.1.2.2.2.2.1,.int .i64 r1452.2.1.2.2.2.2.2]),(47,.int .i64 r1452.2.2),(8,.slice A1454 ((r1452.1).length) c1455)] ?_
  refine A.AH.one 14 ?_
  refine A.sw 448 [] [.int .i64 r1452.2.1.1,.int .i64 r1452.2.1.2.1,.int .i64 r1452.2.1.2.2.1,.int .i64 r1452.2.1.2.2.2.1,.int .i64 r1452.2.1.2.2.2.2.1,.int .i64 r1452.2.1.2.2.2.2.2] ?_
  refine A.AH.nx (A.mb 16 32767) [0,1,2,3,4,5,6,87,298] ?_
  refine A.hq A.pb [0,1,2,3,4,5,6,87,298] [0,1,2,3,4,5,6,87,298,448] [] [] (A.mb 16 65535) 0 [(15,.n)] [(10,.int .i64 r1452.2.2)] ?_
  refine A.AH.done ?_
  exact A.j ⟨r1452.1,r1452.2.1.1,r1452.2.1.2.1,r1452.2.1.2.2.1,r1452.2.1.2.2.2.1,r1452.2.1.2.2.2.2.1,r1452.2.1.2.2.2.2.2,r1452.2.2,A1454,c1455,g1752,rfl,rfl,hr1456,hr1457,hr1458,hr1459,hr1460,hr1461,hr1462,hF⟩
 rintro _ _ ⟨xs10,y11,y13,y15,y17,y19,y21,y24,A8,c9,g23,rfl,rfl,hy12,hy14,hy16,hy18,hy20,hy22,hy25,hF⟩
 rw[F.L17_OperEach_j3]at hF
 refine A.AX.join [3,4,8,9,10] [0,1,2,3,4,5,6,298,448] (fun nl nh=>∃(xs28:List D43),∃(y29:Int),∃(y31:Int),∃(y33:Int),∃(y35:Int),∃(y37:Int),∃(y39:Int),∃(y42:Int),∃(A26:Option Addr),∃(c27:Nat),∃(g41:Nat),nl=[(11,.slice A26 ((xs28).length) c27),(12,.pointer (some ⟨g41,0,none⟩)),(13,.int .i64 y42)]∧nh=[(779,.own T43 44 A26 c27 xs28),(929,.blk g41 29 [.int .i64 y29,.int .i64 y31,.int .i64 y33,.int .i64 y35,.int .i64 y37,.int .i64 y39])]∧IntKind.i64.has y29∧IntKind.i64.has y31∧IntKind.i64.has y33∧IntKind.i64.has y35∧IntKind.i64.has y37∧IntKind.i64.has y39∧IntKind.i64.has y42∧F.L17_OperEach_j2 a0 a1 xs10 y11 y13 y15 y17 y19 y21 y24 xs28 y29 y31 y33 y35 y37 y39 y42=some r) ?_ ?_
 ·refine A.AX.dr mixed 16 16 (A.mb 16 0) ?_
  refine A.hq A.pb [] [0,1,2,3,4,5,6,298,448] [5,6] [] (A.mb 16 63) 10 [(0,.b 0 0),(1,.n),(3,.n),(5,.n),(2,.b 1 1),(4,.b 1 7)] [(49,.agg #[.int .i64 a0.1,.int .i64 a0.2.1,.slice A2_ ((a0.2.2.1).length) c3_,.int .i64 a0.2.2.2.1.1,.int .i64 a0.2.2.2.1.2.1,.string a0.2.2.2.1.2.2,.string a0.2.2.2.2.1,.int .i64 a0.2.2.2.2.2.1,.int .i64 a0.2.2.2.2.2.2]),(54,.int .i64 (min (a2.toNat:Int) ((a1.2.2).length:Int))),(51,.agg #[.int .i64 a1.2.1.1,.int .i64 a1.2.1.2.1,.int .i64 a1.2.1.2.2.1,.int .i64 a1.2.1.2.2.2.1,.int .i64 a1.2.1.2.2.2.2.1,.int .i64 a1.2.1.2.2.2.2.2]),(53,.slice A17_ ((a1.2.2).length) c18_)] ?_
  obtain⟨hc66,hF⟩:=A.gd_some hF
  refine A.cutpl 1 568 ((min (a2.toNat:Int) ((a1.2.2).length:Int)).toNat) hc66.2 fun A69 c70 hA67 hcc68=>?_
  refine A.AH.v A.pb [0,1,2,3,4,5,6,298,448] [0,1,2,3,4,5,6,298,448,568] 6 (A.mb 16 127) rfl (fun a w hf hh=>A.r_cutl (u:=(min (a2.toNat:Int) ((a1.2.2).length:Int)).toNat) 1 hf hh (Int.toNat_of_nonneg hc66.1).symm hc66.2 hA67 hcc68) ?_
  refine A.AH.two 7 12 ?_ ?_
  ·obtain⟨r491,hv492,hF⟩:=A.bd_some hF
   refine A.AL.call 779 [] (first:=[]) (cap:=[]) cf20 (oper_Batch_ok (a0.1,a0.2.1,a0.2.2.1,(a0.2.2.2.1.1,a0.2.2.2.1.2.1,a0.2.2.2.1.2.2),a0.2.2.2.2.1,a0.2.2.2.2.2.1,a0.2.2.2.2.2.2) 0 (a1.2.1.1,a1.2.1.2.1,(a1.2.1.2.2.1,a1.2.1.2.2.2.1,a1.2.1.2.2.2.2.1,a1.2.1.2.2.2.2.2)) (List.drop ((min (a2.toNat:Int) ((a1.2.2).length:Int)).toNat) a1.2.2) A2_ c3_ A69 c70 m19_ h0_ h1_ h4_ h5_ h6_ h7_ h8_ h9_ (A.hasl .i64 (0) rfl) h11_ h12_ h13_ h14_ h15_ h16_ r491 hv492) (.s 0 (.l 568 (.s 2 (.s 3 (.s 4 .nil))))) ?_
   rintro _ _ ⟨A493,c494,rfl,rfl,hr495,hr496,hr497,hr498,hr499,hr500,hr501⟩
   refine⟨by kernel_rfl,?_⟩
   refine A.AH.nx (A.mb 16 255) [0,1,2,3,4,5,6,298,448,568] ?_
   refine A.hq A.pb [0,1,2,3,4,5,6,298,448,568] [0,1,2,3,4,5,6,298,448,568,779] [] [] (A.mb 16 4095) 4 [(8,.n),(9,.n),(10,.n),(11,.n)] [(57,.slice A493 ((r491.1).length) c494),(58,.agg #[.int .i64 r491.2.1.1,.int .i64 r491.2.1.2.1,.int .i64 r491.2.1.2.2.1,.int .i64 r491.2.1.2.2.2.1,.int .i64 r491.2.1.2.2.2.2.1,.int .i64 r491.2.1.2.2.2.2.2]),(59,.int .i64 r491.2.2)] ?_
   refine A.AH.one 12 ?_
   refine A.AL.alloc 929 (cs:=[.int .i64 0,.int .i64 0,.int .i64 0,.int .i64 0,.int .i64 0,.int .i64 0]) Tryz.zeroValue29 fun g791=>?_
   refine A.AH.nx (A.mb 16 8191) [0,1,2,3,4,5,6,298,448,568,779] ?_
   refine A.hq A.pb [0,1,2,3,4,5,6,298,448,568,779] [0,1,2,3,4,5,6,298,448,568,779] [] [] (A.mb 16 16383) 2 [(13,.n)] [(11,.slice A493 ((r491.1).length) c494)] ?_
   refine A.AH.one 14 ?_
   refine A.sw 929 [] [.int .i64 r491.2.1.1,.int .i64 r491.2.1.2.1,.int .i64 r491.2.1.2.2.1,.int .i64 r491.2.1.2.2.2.1,.int .i64 r491.2.1.2.2.2.2.1,.int .i64 r491.2.1.2.2.2.2.2] ?_
   refine A.AH.nx (A.mb 16 32767) [0,1,2,3,4,5,6,298,448,568,779] ?_
   refine A.hq A.pb [0,1,2,3,4,5,6,298,448,568,779] [0,1,2,3,4,5,6,298,448,568,779,929] [] [] (A.mb 16 65535) 0 [(15,.n)] [(13,.int .i64 r491.2.2)] ?_
   refine A.AH.done ?_
   exact A.j ⟨r491.1,r491.2.1.1,r491.2.1.2.1,r491.2.1.2.2.1,r491.2.1.2.2.2.1,r491.2.1.2.2.2.2.1,r491.2.1.2.2.2.2.2,r491.2.2,A493,c494,g791,rfl,rfl,hr495,hr496,hr497,hr498,hr499,hr500,hr501,hF⟩
  refine A.AL.alloc 929 (cs:=[.int .i64 0,.int .i64 0,.int .i64 0,.int .i64 0,.int .i64 0,.int .i64 0]) Tryz.zeroValue29 fun g791=>?_
  refine A.AH.nx (A.mb 16 4223) [0,1,2,3,4,5,6,298,448,568] ?_
  refine A.AH.one 7 ?_
  obtain⟨r491,hv492,hF⟩:=A.bd_some hF
  refine A.AL.call 779 [] (first:=[]) (cap:=[]) cf20 (oper_Batch_ok (a0.1,a0.2.1,a0.2.2.1,(a0.2.2.2.1.1,a0.2.2.2.1.2.1,a0.2.2.2.1.2.2),a0.2.2.2.2.1,a0.2.2.2.2.2.1,a0.2.2.2.2.2.2) 0 (a1.2.1.1,a1.2.1.2.1,(a1.2.1.2.2.1,a1.2.1.2.2.2.1,a1.2.1.2.2.2.2.1,a1.2.1.2.2.2.2.2)) (List.drop ((min (a2.toNat:Int) ((a1.2.2).length:Int)).toNat) a1.2.2) A2_ c3_ A69 c70 m19_ h0_ h1_ h4_ h5_ h6_ h7_ h8_ h9_ (A.hasl .i64 (0) rfl) h11_ h12_ h13_ h14_ h15_ h16_ r491 hv492) (.s 0 (.l 568 (.s 2 (.s 3 (.s 4 .nil))))) ?_
  rintro _ _ ⟨A493,c494,rfl,rfl,hr495,hr496,hr497,hr498,hr499,hr500,hr501⟩
  refine⟨by kernel_rfl,?_⟩
  refine A.AH.nx (A.mb 16 4351) [0,1,2,3,4,5,6,298,448,568] ?_
  refine A.hq A.pb [0,1,2,3,4,5,6,298,448,568] [0,1,2,3,4,5,6,298,448,568,779] [] [] (A.mb 16 16383) 2 [(8,.n),(9,.n),(10,.n),(11,.n),(13,.n)] [(58,.agg #[.int .i64 r491.2.1.1,.int .i64 r491.2.1.2.1,.int .i64 r491.2.1.2.2.1,.int .i64 r491.2.1.2.2.2.1,.int .i64 r491.2.1.2.2.2.2.1,.int .i64 r491.2.1.2.2.2.2.2]),(59,.int .i64 r491.2.2),(11,.slice A493 ((r491.1).length) c494)] ?_
  refine A.AH.one 14 ?_
  refine A.sw 929 [] [.int .i64 r491.2.1.1,.int .i64 r491.2.1.2.1,.int .i64 r491.2.1.2.2.1,.int .i64 r491.2.1.2.2.2.1,.int .i64 r491.2.1.2.2.2.2.1,.int .i64 r491.2.1.2.2.2.2.2] ?_
  refine A.AH.nx (A.mb 16 32767) [0,1,2,3,4,5,6,298,448,568,779] ?_
  refine A.hq A.pb [0,1,2,3,4,5,6,298,448,568,779] [0,1,2,3,4,5,6,298,448,568,779,929] [] [] (A.mb 16 65535) 0 [(15,.n)] [(13,.int .i64 r491.2.2)] ?_
  refine A.AH.done ?_
  exact A.j ⟨r491.1,r491.2.1.1,r491.2.1.2.1,r491.2.1.2.2.1,r491.2.1.2.2.2.1,r491.2.1.2.2.2.2.1,r491.2.1.2.2.2.2.2,r491.2.2,A493,c494,g791,rfl,rfl,hr495,hr496,hr497,hr498,hr499,hr500,hr501,hF⟩
 rintro _ _ ⟨xs28,y29,y31,y33,y35,y37,y39,y42,A26,c27,g41,rfl,rfl,hy30,hy32,hy34,hy36,hy38,hy40,hy43,hF⟩
 rw[F.L17_OperEach_j2]at hF
 refine A.xl 1 ?_
 refine A.q0 [5,6] [] [.b 0 0,.n,.b 1 1,.n,.b 1 7] [(61,.agg #[.int .i64 a0.1,.int .i64 a0.2.1,.slice A2_ ((a0.2.2.1).length) c3_,.int .i64 a0.2.2.2.1.1,.int .i64 a0.2.2.2.1.2.1,.string a0.2.2.2.1.2.2,.string a0.2.2.2.2.1,.int .i64 a0.2.2.2.2.2.1,.int .i64 a0.2.2.2.2.2.2]),(63,.agg #[.int .i64 a1.2.1.1,.int .i64 a1.2.1.2.1,.int .i64 a1.2.1.2.2.1,.int .i64 a1.2.1.2.2.2.1,.int .i64 a1.2.1.2.2.2.2.1,.int .i64 a1.2.1.2.2.2.2.2]),(65,.slice A17_ ((a1.2.2).length) c18_)] ?_
 obtain⟨r44,hv45,hF⟩:=A.bd_some hF
 refine A.AL.call 1049 [] (first:=[]) (cap:=[]) cf20 (oper_Batch_ok (a0.1,a0.2.1,a0.2.2.1,(a0.2.2.2.1.1,a0.2.2.2.1.2.1,a0.2.2.2.1.2.2),a0.2.2.2.2.1,a0.2.2.2.2.2.1,a0.2.2.2.2.2.2) 0 (a1.2.1.1,a1.2.1.2.1,(a1.2.1.2.2.1,a1.2.1.2.2.2.1,a1.2.1.2.2.2.2.1,a1.2.1.2.2.2.2.2)) a1.2.2 A2_ c3_ A17_ c18_ m19_ h0_ h1_ h4_ h5_ h6_ h7_ h8_ h9_ (A.hasl .i64 (0) rfl) h11_ h12_ h13_ h14_ h15_ h16_ r44 hv45) (.s 0 (.l 1 (.s 2 (.s 3 (.s 4 .nil))))) ?_
 rintro _ _ ⟨A46,c47,rfl,rfl,hr48,hr49,hr50,hr51,hr52,hr53,hr54⟩
 refine⟨by kernel_rfl,?_⟩
 refine A.q0 [] [] [.n,.n,.n,.n] [(67,.slice A46 ((r44.1).length) c47),(68,.agg #[.int .i64 r44.2.1.1,.int .i64 r44.2.1.2.1,.int .i64 r44.2.1.2.2.1,.int .i64 r44.2.1.2.2.2.1,.int .i64 r44.2.1.2.2.2.2.1,.int .i64 r44.2.1.2.2.2.2.2]),(69,.int .i64 r44.2.2)] ?_
 refine A.AL.alloc 1089 (cs:=[.int .i64 0,.int .i64 0,.int .i64 0,.int .i64 0,.int .i64 0,.int .i64 0]) Tryz.zeroValue29 fun g55=>?_
 refine A.q0 [] [] [.n] [(14,.slice A46 ((r44.1).length) c47)] ?_
 refine A.sw 1089 [] [.int .i64 r44.2.1.1,.int .i64 r44.2.1.2.1,.int .i64 r44.2.1.2.2.1,.int .i64 r44.2.1.2.2.2.1,.int .i64 r44.2.1.2.2.2.2.1,.int .i64 r44.2.1.2.2.2.2.2] ?_
 refine A.q0 [] [] [.n] [(16,.int .i64 r44.2.2)] ?_
 refine A.dl 3 ?_
 refine A.q0 [] [] [.n,.n,.n,.sy .n,.sy .n,.pk] [(75,.bool (bif decide (y24≠0)then true else decide (y42≠0)))] ?_
 refine A.dx 1 ?_
 refine A.AX.cnb rfl hF (fun hb hF=>?_) (fun hb hF=>?_)
 ·refine A.xl 1 ?_
  refine A.q0 [] [] [.n,.n,.n] [(6,.bool (decide (r44.2.2≠0)))] ?_
  refine A.dx 1 ?_
  obtain rfl:=Option.some.inj hF
  exact A.rt1 [] ⟨rfl,rfl⟩
 refine A.xx 2 ?_
 refine A.AX.join [] [2,3,4] (fun nl nh=>∃(y56:Bool),nl=[(6,.bool y56)]∧nh=[]∧F.L17_OperEach_j1 y56=some r) ?_ ?_
 ·refine A.xl 0 ?_
  refine A.q0 [] [] [.n,.n,.n] [(80,.bool (decide (r44.2.2=0)))] ?_
  refine A.AL.cnp (j:=80) rfl hF (fun hb hF=>?_) (fun hb hF=>?_)
  ·refine A.q0 [448,929] [] [.on (.b 0 0),.on (.b 1 0)] [(81,.agg #[.int .i64 y11,.int .i64 y13,.int .i64 y15,.int .i64 y17,.int .i64 y19,.int .i64 y21]),(82,.agg #[.int .i64 y29,.int .i64 y31,.int .i64 y33,.int .i64 y35,.int .i64 y37,.int .i64 y39])] ?_
   refine A.AL.on (dj:=80) rfl rfl ?_
   refine A.AL.val rfl (fun a w hf hh=>eqagg_eql29 (x:=(y11,y13,(y15,y17,y19,y21))) (y:=(y29,y31,(y33,y35,y37,y39))) (hf.eval rfl) (hf.eval rfl)) ?_
   refine A.q0 [] [] [.n,.n] [(85,.bool (decide ((y11,y13,(y15,y17,y19,y21))=(y29,y31,(y33,y35,y37,y39)))))] ?_
   refine A.AL.cnp (j:=85) rfl hF (fun hb hF=>?_) (fun hb hF=>?_)
   ·refine A.q0 [929,1089] [] [.on (.b 0 0),.on (.b 1 0)] [(86,.agg #[.int .i64 y29,.int .i64 y31,.int .i64 y33,.int .i64 y35,.int .i64 y37,.int .i64 y39]),(87,.agg #[.int .i64 r44.2.1.1,.int .i64 r44.2.1.2.1,.int .i64 r44.2.1.2.2.1,.int .i64 r44.2.1.2.2.2.1,.int .i64 r44.2.1.2.2.2.2.1,.int .i64 r44.2.1.2.2.2.2.2])] ?_
    refine A.AL.on (dj:=85) rfl rfl ?_
    refine A.AL.val rfl (fun a w hf hh=>eqagg_eql29 (x:=(y29,y31,(y33,y35,y37,y39))) (y:=(r44.2.1.1,r44.2.1.2.1,(r44.2.1.2.2.1,r44.2.1.2.2.2.1,r44.2.1.2.2.2.2.1,r44.2.1.2.2.2.2.2))) (hf.eval rfl) (hf.eval rfl)) ?_
    refine A.q0 [] [] [.n,.n] [(90,.bool (decide ((y29,y31,(y33,y35,y37,y39))=(r44.2.1.1,r44.2.1.2.1,(r44.2.1.2.2.1,r44.2.1.2.2.2.1,r44.2.1.2.2.2.2.1,r44.2.1.2.2.2.2.2)))))] ?_
    refine A.AL.cnp (j:=90) rfl hF (fun hb hF=>?_) (fun hb hF=>?_)
    ·refine A.q0 [] [] [.on .n] [(91,.slice A8 ((xs10).length) c9)] ?_
     refine A.AL.on (dj:=90) rfl rfl ?_
     obtain⟨r57,hv58,hF⟩:=A.bd_some hF
     refine A.AL.call 1090 [] (first:=[]) (cap:=[]) cf26 (slices_Clone_api_Rec_api_Rec_ok xs10 A8 c9 r57 hv58) (.o 298 .nil) ?_
     rintro _ _ ⟨A59,c60,rfl,rfl⟩
     refine⟨by kernel_rfl,?_⟩
     refine A.q0 [] [] [.on .n] [(93,.slice A26 ((xs28).length) c27)] ?_
     refine A.AL.on (dj:=90) rfl rfl ?_
     obtain⟨hl63,hF⟩:=A.gd_some hF
     refine A.AL.app (k:=1090) [] (A.rowO (k:=779) rfl) inf44 hl63 fun A61 c62=>?_
     refine A.q0 [] [] [.on .n] [(95,.slice A46 ((r44.1).length) c47)] ?_
     refine A.AL.on (dj:=90) rfl rfl ?_
     obtain⟨r64,hv65,hF⟩:=A.bd_some hF
     refine A.AL.call 1130 [] (first:=[]) (cap:=[]) cf12 (slices_Equal_api_Rec_api_Rec_ok (r57++xs28) r44.1 A61 c62 A46 c47 r64 hv65) (.o 1090 (.o 1049 .nil)) ?_
     rintro _ _ ⟨rfl,rfl⟩
     refine⟨by kernel_rfl,?_⟩
     refine A.q0 [] [] [.n,.n] [(6,.bool r64)] ?_
     refine A.AL.done ?_
     exact A.j ⟨r64,rfl,rfl,hF⟩
    refine A.q0 [] [] [.off,.off,.off,.off,.off,.off,.n,.n] [(6,.bool false)] ?_
    refine A.AL.done ?_
    exact A.j ⟨false,rfl,rfl,hF⟩
   refine A.q0 [] [] [.off,.off,.off,.n,.n,.off,.off,.off,.off,.off,.off,.n,.n] [(6,.bool false)] ?_
   refine A.AL.done ?_
   exact A.j ⟨false,rfl,rfl,hF⟩
  refine A.q0 [] [] [.off,.off,.off,.n,.n,.off,.off,.off,.n,.n,.off,.off,.off,.off,.off,.off,.n,.n] [(6,.bool false)] ?_
  refine A.AL.done ?_
  exact A.j ⟨false,rfl,rfl,hF⟩
 rintro _ _ ⟨y56,rfl,rfl,hF⟩
 rw[F.L17_OperEach_j1]at hF
 obtain rfl:=Option.some.inj hF
 exact A.rt1 [] ⟨rfl,rfl⟩
end Go.Proofs.YtbljnlkhebiniaaGreatDoor
end
section
set_option linter.unusedVariables false
set_option linter.unusedSimpArgs false
set_option maxRecDepth 20000
set_option maxHeartbeats 8000000
set_option synthInstance.maxSize 1000000
set_option synthInstance.maxHeartbeats 400000
namespace Go.Proofs.YtbljnlkhebiniaaGreatDoor
open Go.RowKit
end Go.Proofs.YtbljnlkhebiniaaGreatDoor
end
section
end
section
namespace Go.Graph
abbrev Fun:=Int×Int×ByteArray
abbrev Nd:=Int×Int×List Int×Fun×ByteArray×Int×Int
abbrev id (x:Nd):Int:=x.1
abbrev kind (x:Nd):Int:=x.2.1
abbrev ins (x:Nd):List Int:=x.2.2.1
abbrev fn (x:Nd):Fun:=x.2.2.2.1
abbrev name (x:Nd):ByteArray:=x.2.2.2.2.1
abbrev cap (x:Nd):Int:=x.2.2.2.2.2.1
def Few (g:List Nd):Prop:=g.length≤40∧∀x,x∈g→x.2.2.1.length≤5000∧x.2.2.2.2.1.size≤5000∧x.2.2.2.1.2.2.size≤5000
theorem Few.in {g:List Nd}{k:Nat}{x:Nd}(h:Few g)(hx:g[k]?=some x):x.2.2.1.length≤5000:=(h.2 x (List.mem_of_getElem? hx)).1
def insK (k:Int):Int:=if k<1∨16<k then-1 else if k=1 then 0 else if k=5∨k=9 then 2 else 1
def letter (c:UInt8):Bool:=decide ((97:Int)≤(c.toNat:Int)∧(c.toNat:Int)≤122∨(65:Int)≤(c.toNat:Int)∧(c.toNat:Int)≤90)
def digit (c:UInt8):Bool:=decide ((48:Int)≤(c.toNat:Int)∧(c.toNat:Int)≤57)
def wordy (l:List UInt8):Bool:=l.all fun c=>letter c||digit c
def named (s:ByteArray):Bool:=decide (s≠ByteArray.mk #[])&&decide ((s.size:Int)≤16)&&letter (Z.bat s 0)&&wordy s.data.toList
theorem drop_bat {s:ByteArray}{i:Nat}(h:i<s.size):s.data.toList.drop i=Z.bat s i::s.data.toList.drop (i+1):=by
 have h':i<s.data.toList.length:=by simpa using h
 rw[List.drop_eq_getElem_cons h']
 have h2:i<s.data.size:=h
 congr 1
 simp[Z.bat,Array.getElem?_eq_getElem h2]
theorem drop_end {s:ByteArray}{i:Nat}(h: ¬i<s.size):s.data.toList.drop i=[]:=
 List.drop_eq_nil_of_le (by have h1:s.data.toList.length=s.size:=rfl;omega)
def idxF (id:Int):Nat→List Nd→Int
 |_,[]=> -1
 |k,x::r=>if x.1=id then(k:Int)else idxF id (k+1) r
def idx (g:List Nd)(id:Int):Int:=idxF id 0 g
def namedF (kd:Int)(s:ByteArray):List Nd→Int×Bool
 | []=>(0,false)
 |x::r=>if kind x=kd∧name x=s then(x.1,true)else namedF kd s r
def z0:Nd:=(0,0,[],(0,0,ByteArray.mk #[]),ByteArray.mk #[],0,0)
def at_ (g:List Nd)(i:Int):Nd:=(g[i.toNat]?).getD z0
def ownT (g:List Nd)(n:Nd):Bool:=if n.2.1≠1∧n.2.1≠15 then decide (n.2.2.2.2.1=ByteArray.mk #[])else named n.2.2.2.2.1&&decide ((namedF n.2.1 n.2.2.2.2.1 g).1=n.1)
def ownC (n:Nd):Prop:=n.2.1=14∧(n.2.2.2.2.2.1<1∨8<n.2.2.2.2.2.1∨n.2.2.2.2.2.2<1∨4<n.2.2.2.2.2.2)∨n.2.1≠14∧(n.2.2.2.2.2.1≠0∨n.2.2.2.2.2.2≠0)
instance (n:Nd):Decidable (ownC n):=by unfold ownC;infer_instance
def own (g:List Nd)(i:Int)(n:Nd):Bool:=
 if n.1<1∨255<n.1∨0<i∧n.1≤(at_ g (i-1)).1∨insK n.2.1<0∨(n.2.2.1.length:Int)≠insK n.2.1 then false else if ownC n then false else ownT g n
def bget (l:List Bool)(i:Int):Bool:=(l[i.toNat]?).getD false
def iget (l:List Int)(i:Int):Int:=(l[i.toNat]?).getD 0
def readyF (g:List Nd)(done:List Bool)(kd:Int):List Int→Bool
 | []=>true
 |k::r=>if kd≠14∧bget done (idx g k)=false then false else readyF g done kd r
def ready (g:List Nd)(done:List Bool)(n:Nd):Bool:=readyF g done n.2.1 n.2.2.1
def d0:List Int→Int
 | []=>0
 |a::_=>a
abbrev inD (g:List Nd) (d:List Int) (l:List Int):List Int:=l.map fun k=>iget d (idx g k)
def InB (d:List Int):Prop:=∀i,0≤iget d i∧iget d i≤4
theorem InB.rep (n:Nat):InB (List.replicate n 0):=fun i=>by
 unfold iget;rw[List.getElem?_replicate];split<;>simp
theorem InB.set {d:List Int}(h:InB d)(p:Nat){v:Int}(h0:0≤v)(h1:v≤4):InB (d.set p v):=fun i=>by
 unfold iget;rw[List.getElem?_set]
 have:=h i
 unfold iget at this
 split
 ·split<;>simp<;>omega
 ·exact this
theorem InB.d0 {d:List Int}(h:InB d)(g:List Nd)(l:List Int): -1≤Graph.d0 (inD g d l)∧Graph.d0 (inD g d l)≤4:=by
 cases l with
 |nil=>simp[Graph.d0]
 |cons k r=>have:=h (idx g k);simp only[inD,List.map_cons,Graph.d0];omega
theorem width_pos (s:ByteArray)(pos:Nat):1≤(Utf8.decode s pos).2:=by
 unfold Utf8.decode;simp only[];repeat' split
 all_goals first|exact Nat.le_refl 1|(simp;done)|omega
def numberF (f:Fun):Bool:=if f.1=3∨f.1=13 then decide (0≤f.2.1∧f.2.1≤64)else if f.1=6∨f.1=11 then decide (1≤f.2.1∧f.2.1≤1048576)else decide (f.2.1=0)
def tail5 (c:UInt8):Bool:=decide (128≤(c.toNat:Int)∧(c.toNat:Int)≤191)
end Go.Graph
end
section
set_option linter.unusedVariables false
set_option linter.unusedSimpArgs false
namespace Go.A
open Go.Z
theorem gd1 {α:Type}{p:Prop}[Decidable p](h:p)(x:Option α):gd p x=x:=if_pos h
theorem ixn {α:Type}{xs:List α}{k:Nat}{x:α}(h:xs[k]?=some x):ix xs (k:Int)=some x:=by rw[ix_nat];exact h
theorem dropx {α:Type}{xs:List α}{k:Nat}{x:α}(h:xs[k]?=some x):xs.drop k=x::xs.drop (k+1):=by
 obtain⟨h1,h2⟩:=List.getElem?_eq_some_iff.1 h
 rw[List.drop_eq_getElem_cons h1,h2]
theorem ba {p q:Prop}[Decidable p][Decidable q]:(bif decide p then decide q else false)=decide (p∧q):=by by_cases h:p<;>simp[h]
theorem bo {p q:Prop}[Decidable p][Decidable q]:(bif decide p then true else decide q)=decide (p∨q):=by by_cases h:p<;>simp[h]
theorem bn {p:Prop}[Decidable p]:(!decide p)=decide (¬p):=by by_cases h:p<;>simp[h]
theorem lp {α σ ρ:Type}(xs:List α)(L:Nat→σ→Int→Option ρ)(G:Nat→List α→σ→Option ρ)(P:Nat→σ→Prop)
  (h0: ∀f s,P xs.length s→L (f+1) s (xs.length:Int)=G xs.length [] s)
  (h1: ∀f s (k:Nat) x,xs[k]?=some x→k<xs.length→P k s→(∀s',P (k+1) s'→L f s' ((k:Int)+1)=G (k+1) (xs.drop (k+1)) s')→L (f+1) s k=G k (x::xs.drop (k+1)) s)
  (hl:xs.length<FU) (s:σ) (hs:P 0 s):L FU s 0=G 0 xs s:=by
 have main: ∀(n k f:Nat) (s:σ),k+n=xs.length→n<f→P k s→L f s (k:Int)=G k (xs.drop k) s:=by
  intro n
  induction n with
  |zero=>
   intro k f s hk hf hp
   obtain⟨f,rfl⟩: ∃f',f=f'+1:=⟨f-1,by omega⟩
   obtain rfl:k=xs.length:=by omega
   rw[List.drop_eq_nil_of_le (Nat.le_refl _)];exact h0 f s hp
  |succ n ih=>
   intro k f s hk hf hp
   obtain⟨f,rfl⟩: ∃f',f=f'+1:=⟨f-1,by omega⟩
   have hx:xs[k]?=some xs[k]:=List.getElem?_eq_getElem (by omega)
   rw[dropx hx]
   exact h1 f s k _ hx (by omega) hp fun s' hp'=>ih (k+1) f s' (by omega) (by omega) hp'
 have:=main xs.length 0 FU s (by omega) hl hs
 simpa using this
theorem lp0 {α ρ:Type}(xs:List α)(L:Nat→Int→Option ρ)(G:Nat→List α→Option ρ)
  (h0: ∀f,L (f+1) (xs.length:Int)=G xs.length [])
  (h1: ∀f (k:Nat) x,xs[k]?=some x→k<xs.length→L f ((k:Int)+1)=G (k+1) (xs.drop (k+1))→L (f+1) k=G k (x::xs.drop (k+1)))
  (hl:xs.length<FU):L FU 0=G 0 xs:=
 lp xs (fun f (_:Unit) y=>L f y) (fun k l _=>G k l) (fun _ _=>True) (fun f s _=>h0 f) (fun f s k x hx hk _ ih=>h1 f k x hx hk (ih () trivial)) hl () trivial
end Go.A
namespace Go.Proofs.YtbljnlkhebiniaaGreatDoor
open Go.RowKit Go.Graph
theorem FU_big:(18446744073709551616:Nat)<A.FU:=by decide
theorem ixb {s:ByteArray}{k:Nat}(h:k<s.size):A.ix s.data.toList (k:Int)=some (Z.bat s k):=by
 refine A.ixn ?_
 have:=drop_bat h
 rw[←List.head?_drop,this];rfl
theorem size_list (s:ByteArray):s.data.toList.length=s.size:=rfl
end Go.Proofs.YtbljnlkhebiniaaGreatDoor
end
section
set_option linter.unusedVariables false
set_option linter.unusedSimpArgs false
namespace Go.Proofs.YtbljnlkhebiniaaGreatDoor
open Go.RowKit Go.Graph
theorem bat_get (s:ByteArray)(i:Nat):(s.get! i)=Z.bat s i:=by
 cases s;simp[ByteArray.get!,Z.bat,getElem!_def,Option.getD]
 rfl
theorem dec_at (s:ByteArray)(i:Nat):Utf8.decode s i=Lib.decodeN (s.size-i) (Z.bat s i).toNat (Z.bat s (i+1)).toNat (Z.bat s (i+2)).toNat (Z.bat s (i+3)).toNat:=by
 rw[Lib.decode_at,bat_get,bat_get,bat_get,bat_get]
end Go.Proofs.YtbljnlkhebiniaaGreatDoor
end
section
set_option maxRecDepth 20000
set_option linter.unusedVariables false
set_option linter.unusedSimpArgs false
namespace Go.Proofs.YtbljnlkhebiniaaGreatDoor
open Go.RowKit Go.Graph
theorem tail_eq (c:UInt8):F.R05_tail c=some (tail5 c):=by
 unfold F.R05_tail tail5
 by_cases h1:(128:Int)≤(c.toNat:Int)<;>by_cases h2:(c.toNat:Int)≤191<;>simp[h1,h2]
theorem ixk (s:ByteArray)(p k:Nat):A.ix s.data.toList ((p:Int)+(k:Int))=if p+k<s.size then some (Z.bat s (p+k))else none:=by
 have e:(p:Int)+(k:Int)=((p+k:Nat):Int):=by omega
 rw[e]
 by_cases h:p+k<s.size
 ·rw[if_pos h];exact ixb h
 ·rw[if_neg h,A.ix_nat];exact List.getElem?_eq_none (by rw[size_list];omega)
def wid (s:ByteArray)(p:Nat):Nat:=if Utf8.decode s p=(65533,1)then 0 else(Utf8.decode s p).2
theorem wid_le {s:ByteArray}{p:Nat}(h:p<s.size):p+wid s p≤s.size:=by
 unfold wid
 split
 ·omega
 ·rw[dec_at]
  unfold Lib.decodeN
  repeat' split
  all_goals simp only[]
  all_goals omega
def widN (n a b c d:Nat):Nat:=
 if a<128 then 1
 else if(194≤a∧a≤223)∧2≤n∧(128≤b∧b≤191)then 2
 else if(224≤a∧a≤239)∧3≤n∧(128≤b∧b≤191)∧(128≤c∧c≤191)∧¬(a=224∧b<160)∧¬(a=237∧159<b)then 3
 else if(240≤a∧a≤244)∧4≤n∧(128≤b∧b≤191)∧(128≤c∧c≤191)∧(128≤d∧d≤191)∧¬(a=240∧b<144)∧¬(a=244∧143<b)then 4
 else 0
theorem pq (c:Prop)[Decidable c](x w:Nat)(hw:w≠1):(if(if c then(x,w)else(65533,1))=(65533,1)then 0 else(if c then(x,w)else(65533,1)).2)=if c then w else 0:=by
 by_cases h:c<;>simp[h,hw]
theorem widN_eq (n a b c d:Nat)(ha:a<256)(hb:b<256)(hc:c<256)(hd:d<256):(if Lib.decodeN n a b c d=(65533,1)then 0 else(Lib.decodeN n a b c d).2)=widN n a b c d:=by
 unfold Lib.decodeN widN
 by_cases h0:a<128
 ·simp only[h0,if_true,Prod.mk.injEq];rw[if_neg (by omega)]
 ·simp only[h0,if_false]
  by_cases h1:a / 32=6∧1<n∧b / 64=2
  ·simp only[if_pos h1]
   rw[pq _ _ _ (by decide)]
   repeat' split
   all_goals omega
  ·simp only[if_neg h1]
   by_cases h3:a / 16=14∧(1<n∧b / 64=2)∧2<n∧c / 64=2
   ·simp only[if_pos h3]
    rw[pq _ _ _ (by decide)]
    repeat' split
    all_goals omega
   ·simp only[if_neg h3]
    by_cases h5:a / 8=30∧(1<n∧b / 64=2)∧(2<n∧c / 64=2)∧3<n∧d / 64=2
    ·simp only[if_pos h5]
     rw[pq _ _ _ (by decide)]
     repeat' split
     all_goals omega
    ·simp only[if_neg h5,if_true]
     repeat' split
     all_goals omega
theorem wid_N (s:ByteArray)(p:Nat):wid s p=widN (s.size-p) (Z.bat s p).toNat (Z.bat s (p+1)).toNat (Z.bat s (p+2)).toNat (Z.bat s (p+3)).toNat:=by
 rw[←widN_eq _ _ _ _ _ (UInt8.toNat_lt _) (UInt8.toNat_lt _) (UInt8.toNat_lt _) (UInt8.toNat_lt _),←dec_at];rfl
theorem cnd {α:Type}{p:Prop}[Decidable p](x y:α):(bif decide p then x else y)=if p then x else y:=by by_cases h:p<;>simp[h]
set_option maxHeartbeats 4000000 in
theorem width_eq (s:ByteArray)(p:Nat)(hp:p<s.size)(hs:s.size≤5000):F.R05_width s p=some (wid s p:Int):=by
 have i1:A.ix s.data.toList ((p:Int)+1)=if p+1<s.size then some (Z.bat s (p+1))else none:=ixk s p 1
 have i2:A.ix s.data.toList ((p:Int)+2)=if p+2<s.size then some (Z.bat s (p+2))else none:=ixk s p 2
 have i3:A.ix s.data.toList ((p:Int)+3)=if p+3<s.size then some (Z.bat s (p+3))else none:=ixk s p 3
 have r1:Z.R64 ((p:Int)+1):=⟨by omega,by omega⟩
 have r2:Z.R64 ((p:Int)+2):=⟨by omega,by omega⟩
 have r3:Z.R64 ((p:Int)+3):=⟨by omega,by omega⟩
 unfold F.R05_width
 rw[A.gd1 ⟨by omega,by omega⟩,ixb hp,Option.bind_some,A.gd1 r1,i1,wid_N]
 generalize Z.bat s p=c0 at*
 generalize Z.bat s (p+1)=c1 at*
 generalize Z.bat s (p+2)=c2 at*
 generalize Z.bat s (p+3)=c3 at*
 have t (c:UInt8):tail5 c=decide (128≤c.toNat∧c.toNat≤191):=by unfold tail5;congr 1;exact propext ⟨fun h=>by omega,fun h=>by omega⟩
 by_cases h1:(1:Int)<(s.size:Int)-(p:Int)
 ·rw[if_pos h1,if_pos (by omega),Option.bind_some]
  simp only[F.R05_width_j4,F.R05_width_j3,F.R05_width_j2,F.R05_width_j1,tail_eq,Option.bind_some,t,A.gd1 r2,A.gd1 r3,i2,i3]
  unfold widN
  generalize hn:s.size-p=n
  have e2:((2:Int)≤(s.size:Int)-(p:Int))=(2≤n):=propext ⟨fun h=>by omega,fun h=>by omega⟩
  have e3:((3:Int)≤(s.size:Int)-(p:Int))=(3≤n):=propext ⟨fun h=>by omega,fun h=>by omega⟩
  have e4:((4:Int)≤(s.size:Int)-(p:Int))=(4≤n):=propext ⟨fun h=>by omega,fun h=>by omega⟩
  have f2:(p+2<s.size)=(3≤n):=propext ⟨fun h=>by omega,fun h=>by omega⟩
  have f3:(p+3<s.size)=(4≤n):=propext ⟨fun h=>by omega,fun h=>by omega⟩
  have hn2:2≤n:=by omega
  simp only[e2,e3,e4,f2,f3,A.ba,decide_eq_true_eq,hn2,and_true,true_and]
  have q0:((c0.toNat:Int)<128)=(c0.toNat<128):=propext ⟨fun h=>by omega,fun h=>by omega⟩
  have q1:((194:Int)≤(c0.toNat:Int)∧(c0.toNat:Int)≤223)=(194≤c0.toNat∧c0.toNat≤223):=propext ⟨fun h=>by omega,fun h=>by omega⟩
  have q2:((224:Int)≤(c0.toNat:Int)∧(c0.toNat:Int)≤239)=(224≤c0.toNat∧c0.toNat≤239):=propext ⟨fun h=>by omega,fun h=>by omega⟩
  have q3:((240:Int)≤(c0.toNat:Int)∧(c0.toNat:Int)≤244)=(240≤c0.toNat∧c0.toNat≤244):=propext ⟨fun h=>by omega,fun h=>by omega⟩
  have q4:((c0.toNat:Int)=224∧(c1.toNat:Int)<160)=(c0.toNat=224∧c1.toNat<160):=propext ⟨fun h=>by omega,fun h=>by omega⟩
  have q5:((c0.toNat:Int)=237∧(159:Int)<(c1.toNat:Int))=(c0.toNat=237∧159<c1.toNat):=propext ⟨fun h=>by omega,fun h=>by omega⟩
  have q6:((c0.toNat:Int)=240∧(c1.toNat:Int)<144)=(c0.toNat=240∧c1.toNat<144):=propext ⟨fun h=>by omega,fun h=>by omega⟩
  have q7:((c0.toNat:Int)=244∧(143:Int)<(c1.toNat:Int))=(c0.toNat=244∧143<c1.toNat):=propext ⟨fun h=>by omega,fun h=>by omega⟩
  simp only[q0,q1,q2,q3,q4,q5,q6,q7]
  have x1:240≤c0.toNat∧c0.toNat≤244→¬(224≤c0.toNat∧c0.toNat≤239):=fun h h2=>by omega
  have x2:240≤c0.toNat∧c0.toNat≤244→¬(194≤c0.toNat∧c0.toNat≤223):=fun h h2=>by omega
  have x3:224≤c0.toNat∧c0.toNat≤239→¬(194≤c0.toNat∧c0.toNat≤223):=fun h h2=>by omega
  by_cases K0:c0.toNat<128
  ·simp[K0]
  by_cases m1:128≤c1.toNat∧c1.toNat≤191
  ·by_cases K1:194≤c0.toNat∧c0.toNat≤223
   ·simp only[if_neg K0,if_pos K1,if_pos m1,K1,m1,and_self,if_true];rfl
   ·by_cases K2:224≤c0.toNat∧c0.toNat≤239
    ·have K3: ¬(240≤c0.toNat∧c0.toNat≤244):=fun h=>x1 h K2
     by_cases k3:3≤n
     ·by_cases m2:128≤c2.toNat∧c2.toNat≤191
      ·by_cases y1:c0.toNat=224∧c1.toNat<160
       ·simp only[if_neg K0,if_neg K1,if_pos (And.intro K2 k3),if_pos m1,if_pos k3,Option.bind_some,if_pos m2,eq_true y1,if_true,false_and,K1,K3,eq_true y1,not_true_eq_false,and_false,if_false];rfl
       ·by_cases y2:c0.toNat=237∧159<c1.toNat
        ·simp only[if_neg K0,if_neg K1,if_pos (And.intro K2 k3),if_pos m1,if_pos k3,Option.bind_some,if_pos m2,if_neg y1,eq_true y2,if_true,false_and,K1,K3,eq_true y2,not_true_eq_false,and_false,if_false];rfl
        ·simp only[if_neg K0,if_neg K1,if_pos (And.intro K2 k3),if_pos m1,if_pos k3,Option.bind_some,if_pos m2,if_neg y1,if_neg y2,false_and,K1,K2,k3,m1,m2,y1,y2,not_false_eq_true,and_self,if_true,if_false];rfl
      ·simp only[if_neg K0,if_neg K1,if_pos (And.intro K2 k3),if_pos m1,if_pos k3,Option.bind_some,if_neg m2,if_neg K3,false_and,K1,K3,m2,and_false,if_false,Bool.false_eq_true];rfl
     ·simp only[if_neg K0,if_neg K1,k3,and_false,if_neg K3,false_and,K1,K3,if_false];rfl
    ·by_cases K3:240≤c0.toNat∧c0.toNat≤244
     ·by_cases k4:4≤n
      ·have k3:3≤n:=by omega
       by_cases m2:128≤c2.toNat∧c2.toNat≤191
       ·by_cases m3:128≤c3.toNat∧c3.toNat≤191
        ·by_cases y1:c0.toNat=240∧c1.toNat<144
         ·simp only[if_neg K0,if_neg K1,if_neg K2,K2,false_and,if_pos (And.intro K3 k4),if_pos m1,if_pos k3,if_pos k4,Option.bind_some,if_pos m2,if_pos m3,eq_true y1,if_true,K1,eq_true y1,not_true_eq_false,and_false,if_false];rfl
         ·by_cases y2:c0.toNat=244∧143<c1.toNat
          ·simp only[if_neg K0,if_neg K1,if_neg K2,K2,false_and,if_pos (And.intro K3 k4),if_pos m1,if_pos k3,if_pos k4,Option.bind_some,if_pos m2,if_pos m3,if_neg y1,eq_true y2,if_true,K1,eq_true y2,not_true_eq_false,and_false,if_false];rfl
          ·simp only[if_neg K0,if_neg K1,if_neg K2,K2,false_and,if_pos (And.intro K3 k4),if_pos m1,if_pos k3,if_pos k4,Option.bind_some,if_pos m2,if_pos m3,if_neg y1,if_neg y2,K1,K3,k4,m1,m2,m3,y1,y2,not_false_eq_true,and_self,if_true,if_false];rfl
        ·simp only[if_neg K0,if_neg K1,if_neg K2,K2,false_and,if_pos (And.intro K3 k4),if_pos m1,if_pos k3,if_pos k4,Option.bind_some,if_pos m2,if_neg m3,K1,m3,and_false,if_false,Bool.false_eq_true];rfl
       ·simp only[if_neg K0,if_neg K1,if_neg K2,K2,false_and,if_pos (And.intro K3 k4),if_pos m1,if_pos k3,Option.bind_some,if_neg m2,K1,m2,and_false,if_false,Bool.false_eq_true];rfl
      ·simp only[if_neg K0,if_neg K1,if_neg K2,K2,false_and,k4,and_false,K1,if_false];rfl
     ·simp only[if_neg K0,if_neg K1,if_neg K2,if_neg K3,K1,K2,K3,false_and,if_false];rfl
  ·simp[K0,m1]
 ·rw[if_neg h1]
  simp only[F.R05_width_j4,F.R05_width_j3,F.R05_width_j2,F.R05_width_j1,A.ba,decide_eq_true_eq]
  unfold widN
  have w0:(c0.toNat:Int)<128↔c0.toNat<128:=⟨fun h=>by omega,fun h=>by omega⟩
  by_cases h2:c0.toNat<128
  ·rw[if_pos (w0.2 h2),if_pos h2];rfl
  ·have a1: ¬((194≤c0.toNat∧c0.toNat≤223)∧2≤s.size-p∧128≤c1.toNat∧c1.toNat≤191):=fun h=>by omega
   have a2: ¬((224≤c0.toNat∧c0.toNat≤239)∧3≤s.size-p∧(128≤c1.toNat∧c1.toNat≤191)∧(128≤c2.toNat∧c2.toNat≤191)∧¬(c0.toNat=224∧c1.toNat<160)∧¬(c0.toNat=237∧159<c1.toNat)):=fun h=>by omega
   have a3: ¬((240≤c0.toNat∧c0.toNat≤244)∧4≤s.size-p∧(128≤c1.toNat∧c1.toNat≤191)∧(128≤c2.toNat∧c2.toNat≤191)∧(128≤c3.toNat∧c3.toNat≤191)∧¬(c0.toNat=240∧c1.toNat<144)∧¬(c0.toNat=244∧143<c1.toNat)):=fun h=>by omega
   rw[if_neg (fun h=>h2 (w0.1 h)),if_neg h2,if_neg a1,if_neg a2,if_neg a3]
   simp only[Bool.false_eq_true,if_false]
   rw[if_neg (fun h=>by omega),if_neg (fun h=>by omega),if_neg (fun h=>by omega)];rfl
def vld (s:ByteArray):Nat→Nat→Bool
 |0,_=>true
 |n+1,p=>if p<s.size then(if wid s p=0 then false else vld s n (p+wid s p))else true
def cnt (s:ByteArray):Nat→Nat→Nat
 |0,_=>0
 |n+1,p=>if p<s.size then 1+cnt s n (p+(Utf8.decode s p).2)else 0
theorem wid_4 (s:ByteArray)(p:Nat):wid s p≤4:=by
 rw[wid_N];unfold widN;repeat' split
 all_goals omega
theorem wid_dec {s:ByteArray}{p:Nat}(h:wid s p≠0):(Utf8.decode s p).2=wid s p:=by
 unfold wid at h ⊢;split at h
 ·exact absurd rfl h
 ·rename_i h2;rw[if_neg h2]
theorem validD_eq (s:ByteArray):Lib.validD s.data.toList=vld s s.size 0:=by
 have loop: ∀(n p:Nat),Lib.validGoD n (s.data.toList.drop p)=vld s n p:=by
  intro n
  induction n with
  |zero=>intro p;rfl
  |succ n ih=>
   intro p
   rw[Lib.validGoD,vld]
   by_cases h:p<s.size
   ·have hne:s.data.toList.drop p≠[]:=by rw[drop_bat h];simp
    rw[if_neg hne,if_pos h,Lib.decodeL_drop,List.drop_drop]
    by_cases hw:Utf8.decode s p=(65533,1)
    ·rw[if_pos (by rw[hw];exact⟨rfl,rfl⟩),if_pos (by unfold wid;rw[if_pos hw])]
    ·have e:wid s p=(Utf8.decode s p).2:=by unfold wid;rw[if_neg hw]
     rw[if_neg (fun h2=>hw (Prod.ext h2.1 h2.2)),if_neg (by rw[e];have:=width_pos s p;omega),ih,e]
   ·rw[if_pos (drop_end h),if_neg h]
 have:=loop s.size 0
 rw[List.drop_zero]at this
 exact this
theorem Runes_eq (s:ByteArray)(hs:s.size≤5000)(hv:vld s s.size 0=true): ∃l,F.R05_Runes s=some l∧l.length=cnt s s.size 0:=by
 have loop: ∀(n p f:Nat) (xs:List (Int×Int)),s.size-p≤n→n<f→xs.length≤p→p≤5010→vld s n p=true→∃l,F.R05_Runes_l2 s f xs (p:Int)=some l∧l.length=xs.length+cnt s n p:=by
  intro n
  induction n with
  |zero=>
   intro p f xs hp hf _ _ _
   obtain⟨f,rfl⟩: ∃f',f=f'+1:=⟨f-1,by omega⟩
   rw[F.R05_Runes_l2,if_neg (by omega)];exact⟨_,rfl,rfl⟩
  |succ n ih=>
   intro p f xs hp hf hxs hp5 hv
   obtain⟨f,rfl⟩: ∃f',f=f'+1:=⟨f-1,by omega⟩
   rw[F.R05_Runes_l2]
   rw[vld]at hv
   rw[cnt]
   by_cases h:p<s.size
   ·rw[if_pos h]at hv
    have hl:=wid_le h
    have h4:=wid_4 s p
    by_cases hw:wid s p=0
    ·rw[if_pos hw]at hv;cases hv
    rw[if_neg hw]at hv
    have hj: ∀(w c:Int),w=(wid s p:Int)→∃l,F.R05_Runes_j1 (F.R05_Runes_l2 s f) xs (p:Int) w c=some l∧l.length=xs.length+(1+cnt s n (p+(Utf8.decode s p).2)):=fun w c hwc=>by
     subst hwc
     rw[F.R05_Runes_j1,A.gd1 (by simp only[List.length_cons,List.length_nil];omega),A.gd1 ⟨by omega,by omega⟩,wid_dec hw]
     have e:(p:Int)+(wid s p:Int)=((p+wid s p:Nat):Int):=by omega
     rw[e]
     obtain⟨l,h1,h2⟩:=ih (p+wid s p) f (xs++[((p:Int),c)]) (by omega) (by omega) (by simp only[List.length_append,List.length_cons,List.length_nil];omega) (by omega) hv
     exact⟨l,h1,by rw[h2,List.length_append];simp only[List.length_cons,List.length_nil];omega⟩
    have i0:=ixb (s:=s) h
    have i1:A.ix s.data.toList ((p:Int)+1)=if p+1<s.size then some (Z.bat s (p+1))else none:=ixk s p 1
    have i2:A.ix s.data.toList ((p:Int)+2)=if p+2<s.size then some (Z.bat s (p+2))else none:=ixk s p 2
    have i3:A.ix s.data.toList ((p:Int)+3)=if p+3<s.size then some (Z.bat s (p+3))else none:=ixk s p 3
    have r1:Z.R64 ((p:Int)+1):=⟨by omega,by omega⟩
    have r2:Z.R64 ((p:Int)+2):=⟨by omega,by omega⟩
    have r3:Z.R64 ((p:Int)+3):=⟨by omega,by omega⟩
    rw[if_pos (by omega),if_pos h,width_eq s p h hs,Option.bind_some]
    by_cases w1:wid s p=1
    ·rw[if_pos (by omega),i0,Option.bind_some];exact hj _ _ rfl
    rw[if_neg (by omega)]
    by_cases w2:wid s p=2
    ·rw[if_pos (by omega),A.gd1 r1,i0,Option.bind_some,A.gd1 (by decide),i1,if_pos (by omega),Option.bind_some,A.gd1 (by decide)];exact hj _ _ rfl
    rw[if_neg (by omega)]
    by_cases w3:wid s p=3
    ·rw[if_pos (by omega),A.gd1 ⟨r1,r2⟩,i0,Option.bind_some,A.gd1 (by decide),i1,if_pos (by omega),Option.bind_some,A.gd1 (by decide),i2,if_pos (by omega),Option.bind_some,A.gd1 (by decide)];exact hj _ _ rfl
    rw[if_neg (by omega),if_pos (by omega),A.gd1 ⟨r1,r2,r3⟩,i0,Option.bind_some,A.gd1 (by decide),i1,if_pos (by omega),Option.bind_some,A.gd1 (by decide),i2,if_pos (by omega),Option.bind_some,A.gd1 (by decide),i3,if_pos (by omega),Option.bind_some,A.gd1 (by decide)];exact hj _ _ rfl
   ·rw[if_neg (by omega),if_neg h];exact⟨_,rfl,rfl⟩
 obtain⟨l,h1,h2⟩:=loop s.size 0 A.FU [] (by omega) (by have:=FU_big;omega) (by simp) (by omega) hv
 exact⟨l,h1,by simpa using h2⟩
theorem single_eq (s:ByteArray)(hs:s.size≤9223372036854775807):F.fn_single s=some (if cnt s s.size 0=1 then vld s s.size 0 else false):=by
 have loop: ∀(n p f:Nat) (y:Int),s.size-p≤n→n<f→0≤y→y+n≤9223372036854775807→F.fn_single_l2 s f p y=some (if y+(cnt s n p:Int)=1 then vld s s.size 0 else false):=by
  intro n
  induction n with
  |zero=>
   intro p f y hp hf _ _
   obtain⟨f,rfl⟩: ∃f',f=f'+1:=⟨f-1,by omega⟩
   rw[F.fn_single_l2,if_neg (by omega),F.utf8_ValidString,validD_eq,Option.bind_some]
   simp only[F.fn_single_j1]
   have e:y+(cnt s 0 p:Int)=y:=by rw[cnt];omega
   by_cases h:y=1
   ·rw[if_pos h,if_pos (by omega)]
   ·rw[if_neg h,if_neg (by omega)]
  |succ n ih=>
   intro p f y hp hf h0 h2
   obtain⟨f,rfl⟩: ∃f',f=f'+1:=⟨f-1,by omega⟩
   rw[F.fn_single_l2,cnt]
   by_cases h:p<s.size
   ·rw[if_pos h,if_pos h,A.gd1 ⟨by omega,by omega⟩]
    have hw:=width_pos s p
    rw[ih _ f (y+1) (by omega) (by omega) (by omega) (by omega)]
    congr 2
    exact propext ⟨fun h=>by omega,fun h=>by omega⟩
   ·rw[if_neg h,if_neg h,F.utf8_ValidString,validD_eq,Option.bind_some]
    simp only[F.fn_single_j1]
    by_cases h:y=1
    ·rw[if_pos h,if_pos (by omega)]
    ·rw[if_neg h,if_neg (by omega)]
 unfold F.fn_single
 rw[loop s.size 0 A.FU 0 (by omega) (by have:=FU_big;omega) (by omega) (by omega)]
 congr 2
 exact propext ⟨fun h=>by omega,fun h=>by omega⟩
end Go.Proofs.YtbljnlkhebiniaaGreatDoor
end
section
set_option linter.unusedVariables false
set_option linter.unusedSimpArgs false
namespace Go.Proofs.YtbljnlkhebiniaaGreatDoor
open Go.RowKit Go.Graph
def textP (f:Fun):Bool:=if f.1=5 then decide (f.2.2≠ByteArray.mk #[])&&decide ((f.2.2.size:Int)≤16)&&vld f.2.2 f.2.2.size 0 else if f.1=12∨f.1=22 then decide (cnt f.2.2 f.2.2.size 0=1)&&vld f.2.2 f.2.2.size 0 else decide (f.2.2=ByteArray.mk #[])
theorem number_eq (f:Fun):F.fn_number f=some (numberF f):=by
 unfold F.fn_number F.fn_number_j2 F.fn_number_j1 numberF
 simp only[A.ba,decide_eq_true_eq]
 by_cases h3:f.1=3
 ·simp[h3]
 ·by_cases h13:f.1=13
  ·simp[h13]
  ·by_cases h6:f.1=6
   ·simp[h6]
   ·by_cases h11:f.1=11<;>simp[h3,h13,h6,h11]
theorem text_eq (f:Fun)(hs:f.2.2.size≤9223372036854775807):F.fn_text f=some (textP f):=by
 unfold F.fn_text textP
 simp only[F.fn_text_j1,F.fn_text_j2,A.ba,single_eq _ hs,F.utf8_ValidString,validD_eq,Option.bind_some,decide_eq_true_eq]
 by_cases h5:f.1=5
 ·simp only[h5,if_true]
  by_cases h1:f.2.2=ByteArray.mk #[]<;>by_cases h2:(f.2.2.size:Int)≤16<;>simp[h1,h2]
 ·by_cases h12:f.1=12
  ·simp[h12]
  ·by_cases h22:f.1=22<;>simp[h5,h12,h22]
def anyF (f:Fun)(l:List Int):Int:=if l.any (fun y=>decide (y=f.1)&&(numberF f&&textP f))=true then 0 else 60
def kinds (k:Int):List Int:=if k=2 then [1,2,3,4,5,6,7,8]else if k=3 then [11,12,13]else if k=4 then [21,22]else if k=8 then [31,32,33,34]else if k=11 then [41,42]else []
def chk (k:Int)(f:Fun):Int:=if kinds k=[]then(if f=(0,0,ByteArray.mk #[])then 0 else 60)else anyF f (kinds k)
theorem chk_l (f:Fun)(hs:f.2.2.size≤9223372036854775807): ∀l,F.fn_Check_l2 f l=some (anyF f l)
 | []=>rfl
 |y::l=>by
  have ih:=chk_l f hs l
  unfold F.fn_Check_l2
  simp only[F.fn_Check_j1,number_eq,text_eq _ hs,Option.bind_some,ih,anyF,List.any_cons]
  by_cases h:y=f.1
  ·subst h
   cases hn:numberF f<;>cases ht:textP f<;>simp
  ·simp[h]
theorem fn_Check_eq (k:Int)(f:Fun)(hs:f.2.2.size≤9223372036854775807):F.fn_Check k f=some (chk k f):=by
 have u2:F.fn_Uses_1_it 1 8=some [1,2,3,4,5,6,7,8]:=by kernel_rfl
 have u3:F.fn_Uses_1_it 11 13=some [11,12,13]:=by kernel_rfl
 have u4:F.fn_Uses_1_it 21 22=some [21,22]:=by kernel_rfl
 have u8:F.fn_Uses_1_it 31 34=some [31,32,33,34]:=by kernel_rfl
 have u11:F.fn_Uses_1_it 41 42=some [41,42]:=by kernel_rfl
 unfold F.fn_Check F.fn_Uses F.fn_uses chk kinds
 by_cases h2:k=2
 ·simp[h2,u2,chk_l f hs]
 ·by_cases h3:k=3
  ·simp[h3,u3,chk_l f hs]
  ·by_cases h4:k=4
   ·simp[h4,u4,chk_l f hs]
   ·by_cases h8:k=8
    ·simp[h8,u8,chk_l f hs]
    ·by_cases h11:k=11
     ·simp[h11,u11,chk_l f hs]
     ·simp only[h2,h3,h4,h8,h11,if_false,Option.bind_some]
      rw[if_pos (by decide),if_pos trivial]
      by_cases hz:f=(0,0,ByteArray.mk #[])
      ·rw[if_neg (fun h=>h hz),if_pos hz]
      ·rw[if_pos hz,if_neg hz]
end Go.Proofs.YtbljnlkhebiniaaGreatDoor
end
section
set_option linter.unusedVariables false
set_option linter.unusedSimpArgs false
namespace Go.Utf
open Go.Lib
abbrev Rn:=List UInt8×Int
theorem enc_eq (r:Int):(Utf8.encode r).data.toList=encodeRune r:=by
 unfold Utf8.encode encodeRune
 by_cases h1:0≤r∧r≤127
 ·rw[encodeRuneZ_one h1.1 h1.2]
  have hv:Utf8.valid r=true:=by simp[Utf8.valid];omega
  rw[if_pos hv]
  have hc:r.toNat<128:=by omega
  simp only[hc,if_true]
  simp
 by_cases h2:128≤r∧r≤2047
 ·rw[encodeRuneZ_two h2.1 h2.2]
  have hv:Utf8.valid r=true:=by simp[Utf8.valid];omega
  rw[if_pos hv]
  obtain⟨n,rfl⟩: ∃n:Nat,r=n:=⟨r.toNat,by omega⟩
  have hc: ¬(n<128):=by omega
  have hc2:n<2048:=by omega
  simp only[Int.toNat_natCast,hc,if_false,hc2,if_true,List.map_cons,List.map_nil]
  have e1:(192+(n:Int) / 64).toNat=192+n / 64:=by omega
  have e2:(128+(n:Int)%64).toNat=128+n%64:=by omega
  rw[e1,e2]
 by_cases h3:(2048≤r∧r<55296)∨(57343<r∧r≤65535)
 ·rw[encodeRuneZ_three h3]
  have hv:Utf8.valid r=true:=by simp[Utf8.valid];omega
  rw[if_pos hv]
  obtain⟨n,rfl⟩: ∃n:Nat,r=n:=⟨r.toNat,by omega⟩
  have hc: ¬(n<128):=by omega
  have hc2: ¬n<2048:=by omega
  have hc3:n<65536:=by omega
  simp only[Int.toNat_natCast,hc,if_false,hc2,hc3,if_true,List.map_cons,List.map_nil]
  have e1:(224+(n:Int) / 4096).toNat=224+n / 4096:=by omega
  have e2:(128+(n:Int) / 64%64).toNat=128+n / 64%64:=by omega
  have e3:(128+(n:Int)%64).toNat=128+n%64:=by omega
  rw[e1,e2,e3]
 by_cases h4:65536≤r∧r≤1114111
 ·rw[encodeRuneZ_four h4.1 h4.2]
  have hv:Utf8.valid r=true:=by simp[Utf8.valid];omega
  rw[if_pos hv]
  obtain⟨n,rfl⟩: ∃n:Nat,r=n:=⟨r.toNat,by omega⟩
  have hc: ¬(n<128):=by omega
  have hc2: ¬n<2048:=by omega
  have hc3: ¬n<65536:=by omega
  simp only[Int.toNat_natCast,hc,if_false,hc2,hc3,List.map_cons,List.map_nil]
  have e0:(240+(n:Int) / 262144).toNat=240+n / 262144:=by omega
  have e1:(128+(n:Int) / 4096%64).toNat=128+n / 4096%64:=by omega
  have e2:(128+(n:Int) / 64%64).toNat=128+n / 64%64:=by omega
  have e3:(128+(n:Int)%64).toNat=128+n%64:=by omega
  rw[e0,e1,e2,e3]
 ·rw[encodeRuneZ_bad (by omega)]
  have hv: ¬Utf8.valid r=true:=by simp[Utf8.valid];omega
  rw[if_neg hv]
  rfl
theorem decN_ext {n n' b0 b1 b2 b3 c1 c2 c3:Nat}{r k:Nat}(h:decodeN n b0 b1 b2 b3=(r,k))(hv: ¬(r=65533∧k=1))(hn:k≤n')(h1:1<k→c1=b1)(h2:2<k→c2=b2)(h3:3<k→c3=b3):decodeN n' b0 c1 c2 c3=(r,k):=by
 rcases decodeN_shape n b0 b1 b2 b3 with⟨q,e⟩|⟨q1,q2,q3,qv,e⟩|⟨q1,q2,q3,q4,qv,qs,e⟩|⟨q1,q2,q3,q4,q5,qv,qw,e⟩|e
 ·rw[e]at h;injection h with e1 e2;subst e1;subst e2
  unfold decodeN;rw[if_pos q]
 ·rw[e]at h;injection h with e1 e2;subst e1;subst e2
  obtain rfl:=h1 (by omega)
  unfold decodeN
  rw[if_neg (by omega),if_pos ⟨q1,by omega,q3⟩,if_pos qv]
 ·rw[e]at h;injection h with e1 e2;subst e1;subst e2
  obtain rfl:=h1 (by omega)
  obtain rfl:=h2 (by omega)
  unfold decodeN
  rw[if_neg (by omega),if_neg (by omega),if_pos ⟨q1,⟨by omega,q3⟩,by omega,q4⟩,if_pos ⟨qv,by omega⟩]
 ·rw[e]at h;injection h with e1 e2;subst e1;subst e2
  obtain rfl:=h1 (by omega)
  obtain rfl:=h2 (by omega)
  obtain rfl:=h3 (by omega)
  unfold decodeN
  rw[if_neg (by omega),if_neg (by omega),if_neg (by omega),if_pos ⟨q1,⟨by omega,q3⟩,⟨by omega,q4⟩,by omega,q5⟩,if_pos ⟨qv,.inr ⟨by omega,qw⟩⟩]
 ·rw[e]at h;injection h with e1 e2;subst e1;subst e2
  exact absurd ⟨rfl,rfl⟩ hv
structure Ck (c:Rn):Prop where
 ne:c.1≠[]
 four:c.1.length≤4
 enc:(Utf8.encode c.2).data.toList=c.1
 dec: ∀rest,decodeL (c.1++rest)=(c.2.toNat,c.1.length)
 nn:0≤c.2
 top:c.2≤1114111
 ok: ¬(c.2.toNat=65533∧c.1.length=1)
theorem decodeL_four (l:List UInt8):(decodeL l).2≤4:=by
 rw[decodeL_N]
 rcases decodeN_shape l.length (l.getD 0 0).toNat (l.getD 1 0).toNat (l.getD 2 0).toNat (l.getD 3 0).toNat with⟨c,e⟩|⟨c1,c2,c3,cv,e⟩|⟨c1,c2,c3,c4,cv,cs,e⟩|⟨c1,c2,c3,c4,c5,cv,cw,e⟩|e
 all_goals (rw[e];simp)
theorem Ck.of {l:List UInt8}(hne:l≠[])(hv: ¬((decodeL l).1=65533∧(decodeL l).2=1)):Ck (l.take (decodeL l).2,((decodeL l).1:Int)):=by
 have hw:=decodeL_width l
 have hle:=decodeL_le l hne
 have hlen:(l.take (decodeL l).2).length=(decodeL l).2:=by rw[List.length_take];omega
 refine⟨fun h=>?_,by show(l.take _).length≤4;rw[hlen];exact decodeL_four l,?_,fun rest=>?_,by simp,?_,?_⟩
 ·have:=congrArg List.length h
  simp only[List.length_nil]at this
  rw[hlen]at this;omega
 ·exact(enc_eq _).trans (encode_decode l hne hv)
 ·show decodeL (l.take (decodeL l).2++rest)=((((decodeL l).1:Nat):Int).toNat,(l.take (decodeL l).2).length)
  rw[hlen,Int.toNat_natCast]
  have e:decodeL l=decodeN l.length (l.getD 0 0).toNat (l.getD 1 0).toNat (l.getD 2 0).toNat (l.getD 3 0).toNat:=decodeL_N l
  obtain⟨r,k,hrk⟩: ∃r k,decodeL l=(r,k):=⟨_,_,rfl⟩
  rw[hrk]at hv hw hle hlen ⊢
  rw[hrk]at e
  simp only at hv hw hle hlen ⊢
  have hg: ∀i,i<k→(l.take k++rest).getD i 0=l.getD i 0:=fun i hi=>by
   simp only[List.getD]
   rw[List.getElem?_append_left (by rw[hlen];exact hi),List.getElem?_take_of_lt hi]
  rw[decodeL_N,hg 0 (by omega)]
  refine decN_ext e.symm hv (by rw[List.length_append,hlen];omega) (fun h=>by rw[hg 1 h]) (fun h=>by rw[hg 2 h]) (fun h=>by rw[hg 3 h])
 ·have:=decodeL_rune l
  show((decodeL l).1:Int)≤1114111
  omega
 ·show ¬((((decodeL l).1:Nat):Int).toNat=65533∧(l.take (decodeL l).2).length=1)
  rw[hlen,Int.toNat_natCast];exact hv
theorem Ck.len {c:Rn}(h:Ck c):1≤c.1.length:=by
 cases hc:c.1 with
 |nil=>exact absurd hc h.ne
 |cons a b=>simp
def ckF:Nat→List UInt8→List Rn
 |0,_=>[]
 |n+1,l=>if l=[]then []else(l.take (decodeL l).2,((decodeL l).1:Int))::ckF n (l.drop (decodeL l).2)
def cks (l:List UInt8):List Rn:=ckF l.length l
abbrev flat (cs:List Rn):List UInt8:=cs.flatMap (·.1)
theorem flat_cons (c:Rn)(cs:List Rn):flat (c::cs)=c.1++flat cs:=rfl
theorem flat_ckF: ∀(n:Nat) (l:List UInt8),l.length≤n→flat (ckF n l)=l
 |0,l,h=>by rw[List.eq_nil_of_length_eq_zero (Nat.le_zero.1 h)];rfl
 |n+1,l,h=>by
  unfold ckF
  by_cases hl:l=[]
  ·rw[if_pos hl,hl];rfl
  ·rw[if_neg hl,flat_cons,flat_ckF n _ (by have:=decodeL_width l;rw[List.length_drop];have:=List.length_pos_iff.2 hl;omega)]
   exact List.take_append_drop _ _
theorem valid_ckF: ∀(n:Nat) (l:List UInt8),l.length≤n→validGoD n l=true→∀c,c∈ckF n l→Ck c
 |0,l,h,_,c,hc=>by cases hc
 |n+1,l,h,hv,c,hc=>by
  unfold ckF at hc
  unfold validGoD at hv
  by_cases hl:l=[]
  ·rw[if_pos hl]at hc;cases hc
  ·rw[if_neg hl]at hc hv
   split at hv
   ·cases hv
   ·rename_i hb
    rcases List.mem_cons.1 hc with rfl|hc
    ·exact Ck.of hl hb
    ·exact valid_ckF n _ (by have:=decodeL_width l;rw[List.length_drop];have:=List.length_pos_iff.2 hl;omega) hv c hc
theorem valid_cks {l:List UInt8}(h:validD l=true):flat (cks l)=l∧∀c,c∈cks l→Ck c:=⟨flat_ckF _ _ (Nat.le_refl _),valid_ckF _ _ (Nat.le_refl _) h⟩
theorem foldl_toList (ns:List Int): ∀s:ByteArray,(ns.foldl (fun r n=>r++Utf8.encode n) s).data.toList=s.data.toList++ns.flatMap fun n=>(Utf8.encode n).data.toList:=by
 induction ns with
 |nil=>intro s;simp
 |cons n ns ih=>intro s;rw[List.foldl_cons,ih];simp[ByteArray.data_append]
theorem runes_flat {cs:List Rn}(h: ∀c,c∈cs→Ck c):(runesBytes (cs.map (·.2))).data.toList=flat cs:=by
 unfold runesBytes
 rw[foldl_toList]
 have:ByteArray.empty.data.toList=[]:=rfl
 rw[this,List.nil_append,List.flatMap_map]
 induction cs with
 |nil=>rfl
 |cons c cs ih=>
  rw[List.flatMap_cons,flat_cons,ih fun x hx=>h x (List.mem_cons_of_mem _ hx),(h c (List.mem_cons_self ..)).enc]
theorem ba_eq {s t:ByteArray}(h:s.data.toList=t.data.toList):s=t:=by
 cases s;cases t;congr;exact Array.toList_inj.1 h
def ats:Int→List Rn→List (Int×Int)
 |_,[]=>[]
 |p,c::cs=>(p,c.2)::ats (p+c.1.length) cs
theorem ats_len: ∀(p:Int) (cs:List Rn),(ats p cs).length=cs.length
 |_,[]=>rfl
 |p,c::cs=>by rw[ats,List.length_cons,ats_len _ cs,List.length_cons]
def bd (n:Nat):Nat→List Rn→Nat
 |p,[]=>p
 |p,c::cs=>if p+c.1.length≤n then bd n (p+c.1.length) cs else p
theorem flat_take (cs:List Rn)(k:Nat):(flat cs).take (flat (cs.take k)).length=flat (cs.take k):=by
 have:flat cs=flat (cs.take k)++flat (cs.drop k):=by rw[←List.flatMap_append,List.take_append_drop]
 rw[this,List.take_left]
end Go.Utf
end
section
set_option maxRecDepth 20000
set_option linter.unusedVariables false
set_option linter.unusedSimpArgs false
namespace Go.Proofs.YtbljnlkhebiniaaGreatDoor
open Go.RowKit Go.Graph Go.Utf
theorem drop_ne {s:ByteArray}{p:Nat}(h:p<s.size):s.data.toList.drop p≠[]:=fun e=>by
 have:=congrArg List.length e
 rw[List.length_drop,size_list]at this
 simp only[List.length_nil]at this;omega
theorem drop_nil {s:ByteArray}{p:Nat}(h: ¬p<s.size):s.data.toList.drop p=[]:=List.drop_eq_nil_of_le (by rw[size_list];omega)
theorem ck_step {s:ByteArray}{n p:Nat}(h:p<s.size):ckF (n+1) (s.data.toList.drop p)=((s.data.toList.drop p).take (Utf8.decode s p).2,((Utf8.decode s p).1:Int))::ckF n (s.data.toList.drop (p+(Utf8.decode s p).2)):=by
 rw[ckF,if_neg (drop_ne h),Lib.decodeL_drop,List.drop_drop]
theorem ck_end {s:ByteArray}{n p:Nat}(h: ¬p<s.size):ckF n (s.data.toList.drop p)=[]:=by
 rw[drop_nil h]
 cases n with
 |zero=>rfl
 |succ n=>rw[ckF,if_pos rfl]
theorem cks_0 (s:ByteArray):cks s.data.toList=ckF s.size (s.data.toList.drop 0):=rfl
theorem dec_fits {s:ByteArray}{p:Nat}(h:p<s.size):1≤(Utf8.decode s p).2∧p+(Utf8.decode s p).2≤s.size:=by
 rw[←Lib.decodeL_drop]
 have h1:=Lib.decodeL_width (s.data.toList.drop p)
 have h2:=Lib.decodeL_le _ (drop_ne h)
 rw[List.length_drop,size_list]at h2
 omega
theorem runes_F (s:ByteArray)(hs:s.size≤1099511627776):F.fn_runes s=some ((cks s.data.toList).map (·.2)):=by
 have loop: ∀(n p f:Nat) (xs:List Int),s.size-p≤n→n<f→xs.length≤p→F.fn_runes_l1 s f p xs=some (xs++(ckF n (s.data.toList.drop p)).map (·.2)):=by
  intro n
  induction n with
  |zero=>
   intro p f xs hp hf _
   obtain⟨f,rfl⟩: ∃f',f=f'+1:=⟨f-1,by omega⟩
   rw[F.fn_runes_l1,if_neg (by omega),ck_end (by omega)];simp
  |succ n ih=>
   intro p f xs hp hf hx
   obtain⟨f,rfl⟩: ∃f',f=f'+1:=⟨f-1,by omega⟩
   by_cases h:p<s.size
   ·have hd:=dec_fits h
    rw[F.fn_runes_l1,if_pos h,A.gd1 (by simp only[List.length_cons,List.length_nil];omega),ih _ _ _ (by omega) (by omega) (by simp only[List.length_append,List.length_cons,List.length_nil];omega),ck_step h]
    simp
   ·rw[F.fn_runes_l1,if_neg h,ck_end h];simp
 have:=loop s.size 0 A.FU [] (by omega) (by have:=FU_big;omega) (by simp)
 rw[F.fn_runes,this,cks_0];simp
theorem i32_small {x:Int}(h0:0≤x)(h1:x<2147483648):IntKind.i32.wrap x=x:=by
 simp[IntKind.wrap,IntKind.bits,IntKind.signed]
 omega
theorem dec_shape {s:ByteArray}{p:Nat}(hw:wid s p≠0):
  (wid s p=1∧(Utf8.decode s p).1=(Z.bat s p).toNat)∨
  (wid s p=2∧(Utf8.decode s p).1=(Z.bat s p).toNat%32*64+(Z.bat s (p+1)).toNat%64)∨
  (wid s p=3∧(Utf8.decode s p).1=(Z.bat s p).toNat%16*4096+(Z.bat s (p+1)).toNat%64*64+(Z.bat s (p+2)).toNat%64)∨
  (wid s p=4∧(Utf8.decode s p).1=(Z.bat s p).toNat%8*262144+(Z.bat s (p+1)).toNat%64*4096+(Z.bat s (p+2)).toNat%64*64+(Z.bat s (p+3)).toNat%64):=by
 have h2:=wid_dec hw
 have h3:Utf8.decode s p≠(65533,1):=fun e=>hw (by unfold wid;rw[if_pos e])
 rw[←h2]
 rw[dec_at]at h3 ⊢
 rcases Lib.decodeN_shape (s.size-p) (Z.bat s p).toNat (Z.bat s (p+1)).toNat (Z.bat s (p+2)).toNat (Z.bat s (p+3)).toNat with⟨c,e⟩|⟨c1,c2,c3,cv,e⟩|⟨c1,c2,c3,c4,cv,cs,e⟩|⟨c1,c2,c3,c4,c5,cv,cw,e⟩|e
 ·rw[e];exact .inl ⟨rfl,rfl⟩
 ·rw[e];exact .inr (.inl ⟨rfl,rfl⟩)
 ·rw[e];exact .inr (.inr (.inl ⟨rfl,rfl⟩))
 ·rw[e];exact .inr (.inr (.inr ⟨rfl,rfl⟩))
 ·exact absurd e h3
theorem Runes_ats (s:ByteArray)(hs:s.size≤5000)(hv:vld s s.size 0=true):F.R05_Runes s=some (ats 0 (cks s.data.toList)):=by
 have loop: ∀(n p f:Nat) (xs:List (Int×Int)),s.size-p≤n→n<f→xs.length≤p→p≤5010→vld s n p=true→F.R05_Runes_l2 s f xs (p:Int)=some (xs++ats p (ckF n (s.data.toList.drop p))):=by
  intro n
  induction n with
  |zero=>
   intro p f xs hp hf _ _ _
   obtain⟨f,rfl⟩: ∃f',f=f'+1:=⟨f-1,by omega⟩
   rw[F.R05_Runes_l2,if_neg (by omega),ck_end (by omega)];simp[ats]
  |succ n ih=>
   intro p f xs hp hf hxs hp5 hv
   obtain⟨f,rfl⟩: ∃f',f=f'+1:=⟨f-1,by omega⟩
   rw[F.R05_Runes_l2]
   rw[vld]at hv
   by_cases h:p<s.size
   ·rw[if_pos h]at hv
    have hl:=wid_le h
    have h4:=wid_4 s p
    by_cases hw:wid s p=0
    ·rw[if_pos hw]at hv;cases hv
    rw[if_neg hw]at hv
    have hd:=dec_fits h
    have hj: ∀(w c:Int),w=(wid s p:Int)→c=((Utf8.decode s p).1:Int)→F.R05_Runes_j1 (F.R05_Runes_l2 s f) xs (p:Int) w c=some (xs++ats p (ckF (n+1) (s.data.toList.drop p))):=fun w c hwc hc=>by
     subst hwc;subst hc
     rw[F.R05_Runes_j1,A.gd1 (by simp only[List.length_cons,List.length_nil];omega),A.gd1 ⟨by omega,by omega⟩]
     have e:(p:Int)+(wid s p:Int)=((p+wid s p:Nat):Int):=by omega
     have e2:((s.data.toList.drop p).take (Utf8.decode s p).2).length=wid s p:=by
      rw[List.length_take,List.length_drop,size_list,←wid_dec hw];omega
     rw[e,ih (p+wid s p) f (xs++[((p:Int),((Utf8.decode s p).1:Int))]) (by omega) (by omega) (by simp only[List.length_append,List.length_cons,List.length_nil];omega) (by omega) hv,ck_step h,ats,e2,wid_dec hw,←e]
     simp
    have i0:=ixb (s:=s) h
    have i1:A.ix s.data.toList ((p:Int)+1)=if p+1<s.size then some (Z.bat s (p+1))else none:=ixk s p 1
    have i2:A.ix s.data.toList ((p:Int)+2)=if p+2<s.size then some (Z.bat s (p+2))else none:=ixk s p 2
    have i3:A.ix s.data.toList ((p:Int)+3)=if p+3<s.size then some (Z.bat s (p+3))else none:=ixk s p 3
    have r1:Z.R64 ((p:Int)+1):=⟨by omega,by omega⟩
    have r2:Z.R64 ((p:Int)+2):=⟨by omega,by omega⟩
    have r3:Z.R64 ((p:Int)+3):=⟨by omega,by omega⟩
    have k0:=(Z.bat s p).toNat_lt
    have k1:=(Z.bat s (p+1)).toNat_lt
    have k2:=(Z.bat s (p+2)).toNat_lt
    have k3:=(Z.bat s (p+3)).toNat_lt
    rw[if_pos (by omega),width_eq s p h hs,Option.bind_some]
    have tm: ∀(b m:Nat),Int.tmod (b:Int) (m:Int)=((b%m:Nat):Int):=fun b m=>by
     rw[Int.tmod_eq_emod_of_nonneg (by omega)];rfl
    rcases dec_shape hw with⟨w1,e⟩|⟨w2,e⟩|⟨w3,e⟩|⟨w4,e⟩
    ·rw[if_pos (by omega),i0,Option.bind_some]
     exact hj _ _ rfl (by rw[e,i32_small (by omega) (by omega)])
    ·rw[if_neg (by omega),if_pos (by omega),A.gd1 r1,i0,Option.bind_some,A.gd1 (by decide),i1,if_pos (by omega),Option.bind_some,A.gd1 (by decide)]
     refine hj _ _ rfl ?_
     have t1:Int.tmod ((Z.bat s p).toNat:Int) 32=(((Z.bat s p).toNat%32:Nat):Int):=tm _ 32
     have t2:Int.tmod ((Z.bat s (p+1)).toNat:Int) 64=(((Z.bat s (p+1)).toNat%64:Nat):Int):=tm _ 64
     rw[e,t1,t2]
     rw[i32_small (x:=(((Z.bat s p).toNat%32:Nat):Int)) (by omega) (by omega),i32_small (x:=(((Z.bat s p).toNat%32:Nat):Int)*64) (by omega) (by omega),i32_small (x:=(((Z.bat s (p+1)).toNat%64:Nat):Int)) (by omega) (by omega),i32_small (by omega) (by omega)]
     omega
    ·rw[if_neg (by omega),if_neg (by omega),if_pos (by omega),A.gd1 ⟨r1,r2⟩,i0,Option.bind_some,A.gd1 (by decide),i1,if_pos (by omega),Option.bind_some,A.gd1 (by decide),i2,if_pos (by omega),Option.bind_some,A.gd1 (by decide)]
     refine hj _ _ rfl ?_
     have t1:Int.tmod ((Z.bat s p).toNat:Int) 16=(((Z.bat s p).toNat%16:Nat):Int):=tm _ 16
     have t2:Int.tmod ((Z.bat s (p+1)).toNat:Int) 64=(((Z.bat s (p+1)).toNat%64:Nat):Int):=tm _ 64
     have t3:Int.tmod ((Z.bat s (p+2)).toNat:Int) 64=(((Z.bat s (p+2)).toNat%64:Nat):Int):=tm _ 64
     rw[e,t1,t2,t3]
     generalize hu:(Z.bat s p).toNat%16=u
     generalize hx:(Z.bat s (p+1)).toNat%64=x
     generalize hy:(Z.bat s (p+2)).toNat%64=y
     have hu':u<16:=by omega
     have hx':x<64:=by omega
     have hy':y<64:=by omega
     rw[i32_small (x:=(u:Int)) (by omega) (by omega),i32_small (x:=(u:Int)*64) (by omega) (by omega),i32_small (x:=(x:Int)) (by omega) (by omega),i32_small (x:=(u:Int)*64+(x:Int)) (by omega) (by omega),i32_small (x:=((u:Int)*64+(x:Int))*64) (by omega) (by omega),i32_small (x:=(y:Int)) (by omega) (by omega),i32_small (by omega) (by omega)]
     omega
    ·rw[if_neg (by omega),if_neg (by omega),if_neg (by omega),if_pos (by omega),A.gd1 ⟨r1,r2,r3⟩,i0,Option.bind_some,A.gd1 (by decide),i1,if_pos (by omega),Option.bind_some,A.gd1 (by decide),i2,if_pos (by omega),Option.bind_some,A.gd1 (by decide),i3,if_pos (by omega),Option.bind_some,A.gd1 (by decide)]
     refine hj _ _ rfl ?_
     have t1:Int.tmod ((Z.bat s p).toNat:Int) 8=(((Z.bat s p).toNat%8:Nat):Int):=tm _ 8
     have t2:Int.tmod ((Z.bat s (p+1)).toNat:Int) 64=(((Z.bat s (p+1)).toNat%64:Nat):Int):=tm _ 64
     have t3:Int.tmod ((Z.bat s (p+2)).toNat:Int) 64=(((Z.bat s (p+2)).toNat%64:Nat):Int):=tm _ 64
     have t4:Int.tmod ((Z.bat s (p+3)).toNat:Int) 64=(((Z.bat s (p+3)).toNat%64:Nat):Int):=tm _ 64
     rw[e,t1,t2,t3,t4]
     generalize hu:(Z.bat s p).toNat%8=u
     generalize hx:(Z.bat s (p+1)).toNat%64=x
     generalize hy:(Z.bat s (p+2)).toNat%64=y
     generalize hz:(Z.bat s (p+3)).toNat%64=z
     have hu':u<8:=by omega
     have hx':x<64:=by omega
     have hy':y<64:=by omega
     have hz':z<64:=by omega
     rw[i32_small (x:=(u:Int)) (by omega) (by omega),i32_small (x:=(u:Int)*64) (by omega) (by omega),i32_small (x:=(x:Int)) (by omega) (by omega),i32_small (x:=(u:Int)*64+(x:Int)) (by omega) (by omega),i32_small (x:=((u:Int)*64+(x:Int))*64) (by omega) (by omega),i32_small (x:=(y:Int)) (by omega) (by omega),
      i32_small (x:=((u:Int)*64+(x:Int))*64+(y:Int)) (by omega) (by omega),i32_small (x:=(((u:Int)*64+(x:Int))*64+(y:Int))*64) (by omega) (by omega),i32_small (x:=(z:Int)) (by omega) (by omega),i32_small (by omega) (by omega)]
     omega
   ·rw[if_neg (by omega),ck_end h];simp[ats]
 have:=loop s.size 0 A.FU [] (by omega) (by have:=FU_big;omega) (by simp) (by omega) hv
 rw[F.R05_Runes]
 exact this
theorem iter_F (s:ByteArray):F.rec_Runes_1_it s=some (ats 0 (cks s.data.toList))∨9223372036854775807<s.size:=by
 by_cases hs:s.size≤9223372036854775807
 ·left
  have loop: ∀(n p f:Nat),s.size-p≤n→n<f→F.rec_Runes_1_it_l1 s f p=some (ats p (ckF n (s.data.toList.drop p))):=by
   intro n
   induction n with
   |zero=>
    intro p f hp hf
    obtain⟨f,rfl⟩: ∃f',f=f'+1:=⟨f-1,by omega⟩
    rw[F.rec_Runes_1_it_l1,if_neg (by omega),ck_end (by omega)];rfl
   |succ n ih=>
    intro p f hp hf
    obtain⟨f,rfl⟩: ∃f',f=f'+1:=⟨f-1,by omega⟩
    by_cases h:p<s.size
    ·have hd:=dec_fits h
     rw[F.rec_Runes_1_it_l1,if_pos h,ih _ _ (by omega) (by omega),ck_step h,ats]
     have e2:((s.data.toList.drop p).take (Utf8.decode s p).2).length=(Utf8.decode s p).2:=by
      rw[List.length_take,List.length_drop,size_list];omega
     rw[e2]
     simp[A.cns]
    ·rw[F.rec_Runes_1_it_l1,if_neg h,ck_end h];rfl
  exact loop s.size 0 A.FU (by omega) (by have:=FU_big;omega)
 ·right;omega
theorem ext_all (s:ByteArray):s.extract 0 s.size=s:=by
 refine ba_eq ?_
 rw[ByteArray.data_extract,Array.toList_extract]
 simp[List.extract_eq_take_drop]
 exact List.take_of_length_le (Nat.le_of_eq (size_list s))
theorem rcut_l (s:ByteArray)(n:Nat): ∀(cs:List Rn) (p e:Nat),p+(flat cs).length=s.size→e≤s.size→F.rec_Cut_l1 s n (ats p cs) e=some (s.extract 0 (if p≤n then bd n p cs else e))
 | [],p,e,hp,he=>by
  simp only[List.flatMap_nil,List.length_nil,Nat.add_zero]at hp
  subst hp
  rw[ats,F.rec_Cut_l1,bd]
  by_cases h:s.size≤n
  ·rw[if_pos (by omega),if_pos h,ext_all]
  ·rw[if_neg (by omega),if_neg h,A.gd1 ⟨by omega,by omega⟩,Int.toNat_natCast]
 |c::cs,p,e,hp,he=>by
  rw[flat_cons,List.length_append]at hp
  rw[ats,F.rec_Cut_l1,bd]
  by_cases h:p≤n
  ·rw[if_neg (by simp;omega),if_pos h]
   have e1:(p:Int)+(c.1.length:Int)=((p+c.1.length:Nat):Int):=by omega
   show F.rec_Cut_l1 s n (ats ((p:Int)+(c.1.length:Int)) cs) (p:Int)=_
   rw[e1]
   exact rcut_l s n cs (p+c.1.length) p (by omega) (by omega)
  ·rw[if_pos (by simp;omega),if_neg h,A.gd1 ⟨by omega,by omega⟩,Int.toNat_natCast]
theorem rec_Cut_eq (s:ByteArray)(n:Nat)(hs:s.size≤9223372036854775807):F.rec_Cut s n=some (s.extract 0 (bd n 0 (cks s.data.toList))):=by
 rw[F.rec_Cut,F.rec_Runes,Option.bind_some]
 rcases iter_F s with h|h
 ·rw[h,Option.bind_some]
  have hf:(flat (cks s.data.toList)).length=s.size:=by
   have:flat (cks s.data.toList)=s.data.toList:=flat_ckF _ _ (Nat.le_refl _)
   rw[this,size_list]
  have:=rcut_l s n (cks s.data.toList) 0 0 (by omega) (by omega)
  rw[if_pos (Nat.zero_le _)]at this
  exact this
 ·omega
end Go.Proofs.YtbljnlkhebiniaaGreatDoor
end
section
set_option maxRecDepth 20000
set_option linter.unusedVariables false
set_option linter.unusedSimpArgs false
namespace Go.Proofs.YtbljnlkhebiniaaGreatDoor
open Go.RowKit Go.Graph Go.Utf
abbrev Rec:=Int×ByteArray
def okT (s:ByteArray):Bool:=decide (s.size≤64)&&vld s s.size 0
theorem rec_Check_eq (r:Rec):F.rec_Check r=some (if okT r.2=true then 0 else 50):=by
 rw[F.rec_Check]
 unfold okT
 by_cases h:r.2.size≤64
 ·rw[if_neg (by omega),F.utf8_ValidString,validD_eq,Option.bind_some,F.rec_Check_j1,decide_eq_true h,Bool.true_and]
  cases vld r.2 r.2.size 0<;>rfl
 ·rw[if_pos (by omega),F.rec_Check_j1,if_pos rfl,decide_eq_false h];rfl
theorem okT_iff {s:ByteArray}:okT s=true↔s.size≤64∧vld s s.size 0=true:=by unfold okT;simp
theorem vld_cks {s:ByteArray}(h:vld s s.size 0=true):flat (cks s.data.toList)=s.data.toList∧∀c,c∈cks s.data.toList→Ck c:=valid_cks (by rw[validD_eq];exact h)
theorem cks_len (s:ByteArray):(cks s.data.toList).length≤s.size:=by
 have: ∀(n:Nat) (l:List UInt8),(ckF n l).length≤n:=by
  intro n
  induction n with
  |zero=>intro l;simp[ckF]
  |succ n ih=>intro l;unfold ckF;split<;>simp;exact ih _
 exact this _ _
end Go.Proofs.YtbljnlkhebiniaaGreatDoor
end
section
set_option maxRecDepth 20000
set_option linter.unusedVariables false
set_option linter.unusedSimpArgs false
namespace Go.Proofs.YtbljnlkhebiniaaGreatDoor
open Go.RowKit Go.Graph Go.Utf
theorem Reverse_eq (l:List Int)(hl:l.length≤4611686018427387904):F.slices_Reverse_rune_rune l=some l.reverse:=by
 have loop: ∀(m f:Nat) (X0 M B:List Int),M.length≤m→m<f→X0.length+M.length≤4611686018427387904→F.slices_Reverse_rune_rune_l1 f (X0++M++B) (X0.length:Int) ((X0.length:Int)+(M.length:Int)-1)=some (X0++M.reverse++B):=by
  intro m
  induction m with
  |zero=>
   intro f X0 M B hm hf _
   obtain⟨f,rfl⟩: ∃f',f=f'+1:=⟨f-1,by omega⟩
   obtain rfl:M=[]:=List.eq_nil_of_length_eq_zero (by omega)
   rw[F.slices_Reverse_rune_rune_l1,if_neg (by simp only[List.length_nil];omega)];simp
  |succ m ih=>
   intro f X0 M B hm hf hlen
   obtain⟨f,rfl⟩: ∃f',f=f'+1:=⟨f-1,by omega⟩
   by_cases h2:M.length<2
   ·have hr:M.reverse=M:=by
     match M,h2 with
     | [],_=>rfl
     | [x],_=>rfl
    rw[F.slices_Reverse_rune_rune_l1,if_neg (by omega),hr]
   ·obtain⟨x,M1,rfl⟩: ∃x M1,M=x::M1:=by
     cases M with
     |nil=>simp at h2
     |cons x M1=>exact⟨x,M1,rfl⟩
    obtain⟨M2,y,rfl⟩: ∃M2 y,M1=M2++[y]:=by
     have hne:M1≠[]:=fun e=>by subst e;simp at h2
     exact⟨M1.dropLast,M1.getLast hne,(List.dropLast_concat_getLast hne).symm⟩
    simp only[List.length_cons,List.length_append,List.length_nil]at hm hlen h2 ⊢
    have ei:(X0.length:Int)+((M2.length+(0+1)+1:Nat):Int)-1=((X0.length+M2.length+1:Nat):Int):=by omega
    rw[ei]
    have hy:(X0++(x::(M2++[y]))++B)[X0.length+M2.length+1]?=some y:=by
     rw[List.append_assoc,List.getElem?_append_right (by omega),show X0.length+M2.length+1-X0.length=M2.length+1 by omega,List.cons_append,List.getElem?_cons_succ,List.append_assoc,List.getElem?_append_right (Nat.le_refl _)]
     simp
    have hx:(X0++(x::(M2++[y]))++B)[X0.length]?=some x:=by
     rw[List.append_assoc,List.getElem?_append_right (Nat.le_refl _)];simp
    have hs1:(X0++(x::(M2++[y]))++B).set X0.length y=X0++(y::(M2++[y]))++B:=by
     rw[List.append_assoc,List.set_append_right _ _ (Nat.le_refl _)];simp
    have hy2:(X0++(y::(M2++[y]))++B)[X0.length+M2.length+1]?=some y:=by
     rw[List.append_assoc,List.getElem?_append_right (by omega),show X0.length+M2.length+1-X0.length=M2.length+1 by omega,List.cons_append,List.getElem?_cons_succ,List.append_assoc,List.getElem?_append_right (Nat.le_refl _)]
     simp
    have hs2:(X0++(y::(M2++[y]))++B).set (X0.length+M2.length+1) x=(X0++[y])++M2++([x]++B):=by
     rw[List.append_assoc,List.set_append_right _ _ (by omega),show X0.length+M2.length+1-X0.length=M2.length+1 by omega,List.cons_append,List.set_cons_succ,List.append_assoc,List.set_append_right _ _ (Nat.le_refl _)]
     simp
    rw[F.slices_Reverse_rune_rune_l1,if_pos (by omega),A.ixn hy,Option.bind_some,A.ixn hx,Option.bind_some,Option.bind_some,Int.toNat_natCast,hs1,A.ixn hy2,Option.bind_some,A.gd1 ⟨⟨by omega,by omega⟩,by omega,by omega⟩,Int.toNat_natCast,hs2]
    have:=ih f (X0++[y]) M2 ([x]++B) (by omega) (by omega) (by simp only[List.length_append,List.length_cons,List.length_nil];omega)
    simp only[List.length_append,List.length_cons,List.length_nil]at this
    rw[show((X0.length:Nat):Int)+1=((X0.length+(0+1):Nat):Int) by omega,show((X0.length+M2.length+1:Nat):Int)-1=((X0.length+(0+1):Nat):Int)+(M2.length:Int)-1 by omega,this]
    simp
 have:=loop l.length A.FU [] l [] (Nat.le_refl _) (by have:=FU_big;omega) (by simp;omega)
 rw[F.slices_Reverse_rune_rune,A.gd1 ⟨by omega,by omega⟩]
 simpa using this
def upB (b:UInt8):UInt8:=if 97≤b.toNat∧b.toNat≤122 then UInt8.ofNat (b.toNat-32)else b
def upper (s:ByteArray):ByteArray:=⟨(s.data.toList.map upB).toArray⟩
theorem up_set {l:List UInt8}{k:Nat}{x:UInt8}(h:l[k]?=some x):((l.take k).map upB++l.drop k).set k (upB x)=(l.take (k+1)).map upB++l.drop (k+1):=by
 have hlt:=(List.getElem?_eq_some_iff.1 h).1
 have hk:((l.take k).map upB).length=k:=by rw[List.length_map,List.length_take];omega
 rw[List.set_append_right _ _ (by omega),hk,Nat.sub_self,A.dropx h,List.take_add_one,h]
 simp
theorem up_get {l:List UInt8}{k:Nat}{x:UInt8}(h:l[k]?=some x):((l.take k).map upB++l.drop k)[k]?=some x:=by
 have hlt:=(List.getElem?_eq_some_iff.1 h).1
 have hk:((l.take k).map upB).length=k:=by rw[List.length_map,List.length_take];omega
 rw[List.getElem?_append_right (by omega),hk,Nat.sub_self,A.dropx h];rfl
theorem up_same {l:List UInt8}{k:Nat}{x:UInt8}(h:l[k]?=some x)(hx:upB x=x):(l.take k).map upB++l.drop k=(l.take (k+1)).map upB++l.drop (k+1):=by
 rw[←up_set h,hx]
 refine(List.ext_getElem? fun i=>?_)
 rw[List.getElem?_set]
 split
 ·rename_i e;subst e
  rw[up_get h]
  split
  ·rfl
  ·rename_i h2
   have:=up_get h
   rw[List.getElem?_eq_none (by omega)]at this;cases this
 ·rfl
theorem b8_up {x:UInt8}(h:97≤x.toNat∧x.toNat≤122):A.b8 ((x.toNat:Int)-32)=upB x:=by
 unfold A.b8 upB
 rw[if_pos h]
 congr 1;omega
theorem wrap8 {x:Int}(h0:0≤x)(h1:x<256):IntKind.u8.wrap x=x:=by
 simp[IntKind.wrap,IntKind.bits,IntKind.signed];omega
theorem upper_F (s:ByteArray)(hs:s.size≤9223372036854775806):F.fn_upper s=some (upper s):=by
 have:=A.lp s.data.toList (fun f (xs:List UInt8) y=>F.fn_upper_l2 s f xs y) (fun _ _ _=>some (upper s)) (fun k xs=>xs=(s.data.toList.take k).map upB++s.data.toList.drop k)
  (fun f xs hp=>by
   show F.fn_upper_l2 s (f+1) xs _=_
   rw[F.fn_upper_l2,if_neg (by omega),hp,List.take_length,List.drop_length,List.append_nil];rfl)
  (fun f xs k x hx hk hp ih=>by
   subst hp
   have hkz:k<s.size:=by rw[←size_list];exact hk
   show F.fn_upper_l2 s (f+1) _ _=_
   rw[F.fn_upper_l2,if_pos (by omega),A.ixn (up_get hx),Option.bind_some]
   simp only[A.ba]
   by_cases h:97≤x.toNat∧x.toNat≤122
   ·rw[if_pos (by simp;omega),Option.bind_some,F.fn_upper_j1,A.gd1 ⟨by omega,by omega⟩,wrap8 (by omega) (by omega),show(x.toNat:Int)-97+65=(x.toNat:Int)-32 by omega,b8_up h,Int.toNat_natCast,up_set hx]
    exact ih _ rfl
   ·have hx2:upB x=x:=by unfold upB;rw[if_neg h]
    rw[if_neg (by simp;omega),F.fn_upper_j1,A.gd1 ⟨by omega,by omega⟩,up_same hx hx2]
    exact ih _ rfl)
  (by have:=FU_big;rw[size_list];omega) s.data.toList (by simp)
 rw[F.fn_upper];exact this
abbrev pos (cs:List Rn) (k:Nat):Nat:=(flat (cs.take k)).length
end Go.Proofs.YtbljnlkhebiniaaGreatDoor
end
section
set_option maxRecDepth 20000
set_option linter.unusedVariables false
set_option linter.unusedSimpArgs false
namespace Go.Proofs.YtbljnlkhebiniaaGreatDoor
open Go.RowKit Go.Graph Go.Utf
def mapK (f:Fun)(r:Rec):Rec:=
 if f.1=2 then(r.1,upper r.2)else if f.1=3 then(r.1,⟨(flat ((cks r.2.data.toList).take f.2.1.toNat)).toArray⟩)else if f.1=4 then(r.1,⟨(flat (cks r.2.data.toList).reverse).toArray⟩)
 else if f.1=5 then(r.1,(r.2++f.2.2).extract 0 (bd 64 0 (cks (r.2++f.2.2).data.toList)))else if f.1=6 then(Int.tmod (Int.tmod r.1 f.2.1+f.2.1) f.2.1,r.2)
 else if f.1=7 then(((cks r.2.data.toList).length:Int),r.2)else if f.1=8 then((((cks r.2.data.toList).map (·.2))[0]?).getD 0,r.2)else r
def mapP (f:Fun)(r:Rec):Rec×Int:=if chk 2 f≠0 then((0,ByteArray.mk #[]),chk 2 f)else if okT r.2=true then(mapK f r,0)else((0,ByteArray.mk #[]),50)
theorem chk_map {f:Fun}(h:chk 2 f=0):(1≤f.1∧f.1≤8)∧numberF f=true∧textP f=true:=by
 have hk:chk 2 f=anyF f [1,2,3,4,5,6,7,8]:=rfl
 rw[hk]at h
 unfold anyF at h
 split at h
 ·rename_i h1
  rw[List.any_eq_true]at h1
  obtain⟨y,hy,h2⟩:=h1
  simp only[Bool.and_eq_true,decide_eq_true_eq]at h2
  obtain⟨rfl,h3,h4⟩:=h2
  refine⟨?_,h3,h4⟩
  simp only[List.mem_cons,List.mem_nil_iff,or_false]at hy
  omega
 ·cases h
theorem num_cut {f:Fun}(h:chk 2 f=0)(h3:f.1=3):0≤f.2.1∧f.2.1≤64:=by
 have:=(chk_map h).2.1
 unfold numberF at this
 rw[if_pos (.inl h3)]at this
 simpa using this
theorem num_mod {f:Fun}(h:chk 2 f=0)(h3:f.1=6):1≤f.2.1∧f.2.1≤1048576:=by
 have:=(chk_map h).2.1
 unfold numberF at this
 rw[if_neg (by omega),if_pos (.inl h3)]at this
 simpa using this
theorem txt_behind {f:Fun}(h:chk 2 f=0)(h3:f.1=5):f.2.2.size≤16∧vld f.2.2 f.2.2.size 0=true:=by
 have:=(chk_map h).2.2
 unfold textP at this
 rw[if_pos h3]at this
 simp only[Bool.and_eq_true,decide_eq_true_eq]at this
 exact⟨by omega,this.2⟩
theorem runes_mk {cs:List Rn}(h: ∀c,c∈cs→Ck c):runesBytes (cs.map (·.2))=⟨(flat cs).toArray⟩:=ba_eq (by rw[runes_flat h])
theorem mk_size (l:List UInt8):(ByteArray.mk l.toArray).size=l.length:=by show l.toArray.size=_;simp
theorem flat_sub {cs:List Rn}(k:Nat):(flat (cs.take k)).length≤(flat cs).length:=by
 have:=congrArg List.length (flat_take cs k)
 rw[List.length_take]at this;omega
theorem flat_rev (cs:List Rn):(flat cs.reverse).length=(flat cs).length:=by
 show(cs.reverse.flatMap (·.1)).length=(cs.flatMap (·.1)).length
 simp only[List.length_flatMap]
 rw[List.map_reverse,List.sum_reverse]
theorem rest_eq {n b:Int}(h1:1≤b)(h2:b≤1048576):F.fn_rest n b=some (Int.tmod (Int.tmod n b+b) b):=by
 have t1:Int.tmod n b<b:=Int.tmod_lt_of_pos n (by omega)
 have t2: -b<Int.tmod n b:=by
  have:=Int.tmod_lt_of_pos (-n) (show 0<b by omega)
  rw[Int.neg_tmod]at this;omega
 rw[F.fn_rest,A.gd1 (by omega)]
 by_cases h:Int.tmod n b<0
 ·rw[if_pos h,A.gd1 ⟨by omega,by omega⟩,F.fn_rest_j1,Int.tmod_eq_of_lt (a:=Int.tmod n b+b) (by omega) (by omega)]
 ·rw[if_neg h,F.fn_rest_j1]
  congr 1
  rw[Int.tmod_eq_emod_of_nonneg (a:=Int.tmod n b+b) (by omega),Int.add_emod_right,Int.emod_eq_of_lt (by omega) t1]
theorem rune_fits {cs:List Rn}(h: ∀c,c∈cs→Ck c){x:Int}(hx:(cs.map (·.2))[0]?=some x):0≤x∧x≤1114111:=by
 rw[List.getElem?_map,Option.map_eq_some_iff]at hx
 obtain⟨c,hc,rfl⟩:=hx
 have:=h c (List.mem_of_getElem? hc)
 exact⟨this.nn,this.top⟩
theorem fn_both_eq (f:Fun)(r:Rec)(hs:f.2.2.size≤9223372036854775807):F.fn_both 2 f r=some (if chk 2 f≠0 then chk 2 f else if okT r.2=true then 0 else 50):=by
 rw[F.fn_both]
 show(F.fn_Check 2 f).bind _=_
 rw[fn_Check_eq 2 f hs,Option.bind_some]
 by_cases h:chk 2 f=0
 ·rw[if_neg (fun h2=>h2 h),if_neg (fun h2=>h2 h)]
  show(F.rec_Check r).bind _=_
  rw[rec_Check_eq];rfl
 ·rw[if_pos h,if_pos h]
theorem fn_Map_eq (f:Fun)(r:Rec)(hs:f.2.2.size≤9223372036854775807):F.fn_Map f r=some (mapP f r):=by
 rw[F.fn_Map]
 show(F.fn_both 2 f r).bind _=_
 rw[fn_both_eq f r hs,Option.bind_some]
 unfold mapP
 by_cases h:chk 2 f=0
 case neg=>rw[show(if chk 2 f≠0 then chk 2 f else if okT r.2=true then 0 else 50)=chk 2 f from if_pos h,if_pos h,if_pos h]
 rw[show(if chk 2 f≠0 then chk 2 f else if okT r.2=true then 0 else 50)=if okT r.2=true then 0 else 50 from if_neg (fun h2=>h2 h),if_neg (show ¬(chk 2 f≠0)from fun h2=>h2 h)]
 by_cases ho:okT r.2=true
 case neg=>rw[show(if okT r.2=true then(0:Int)else 50)=50 from if_neg ho,if_neg ho];rfl
 rw[show(if okT r.2=true then(0:Int)else 50)=0 from if_pos ho,if_pos ho,if_neg (show ¬((0:Int)≠0)from fun h2=>h2 rfl)]
 obtain⟨h64,hv⟩:=okT_iff.1 ho
 obtain⟨hf,hc⟩:=vld_cks hv
 have hfl:(flat (cks r.2.data.toList)).length=r.2.size:=by rw[hf,size_list]
 have hcl:=cks_len r.2
 rw[runes_F _ (by omega),Option.bind_some]
 unfold mapK
 by_cases e2:f.1=2
 ·rw[if_pos e2,if_pos e2,upper_F _ (by omega)];rfl
 rw[if_neg e2,if_neg e2]
 by_cases e3:f.1=3
 ·obtain⟨n1,n2⟩:=num_cut h e3
  have e:List.take (min (((cks r.2.data.toList).map (·.2)).length:Int) f.2.1).toNat ((cks r.2.data.toList).map (·.2))=((cks r.2.data.toList).take f.2.1.toNat).map (·.2):=by
   rw[List.map_take,List.length_map]
   by_cases hm:((cks r.2.data.toList).length:Int)≤f.2.1
   ·rw[Int.min_eq_left hm,Int.toNat_natCast,List.take_of_length_le (by rw[List.length_map];omega),List.take_of_length_le (by rw[List.length_map];omega)]
   ·rw[Int.min_eq_right (by omega)]
  have hsub:=flat_sub (cs:=cks r.2.data.toList) f.2.1.toNat
  rw[if_pos e3,if_pos e3,A.gd1 ⟨by omega,by rw[List.length_map];omega⟩,e,runes_mk fun c hcm=>hc c (List.mem_of_mem_take hcm),A.gd1 (by rw[mk_size];omega)]
  rfl
 rw[if_neg e3,if_neg e3]
 by_cases e4:f.1=4
 ·have hr:=flat_rev (cks r.2.data.toList)
  rw[if_pos e4,if_pos e4,Reverse_eq _ (by rw[List.length_map];omega),Option.bind_some,←List.map_reverse,runes_mk fun c hcm=>hc c (List.mem_reverse.1 hcm),A.gd1 (by rw[mk_size];omega)]
  rfl
 rw[if_neg e4,if_neg e4]
 by_cases e5:f.1=5
 ·obtain⟨n1,n2⟩:=txt_behind h e5
  have:=rec_Cut_eq (r.2++f.2.2) 64 (by rw[ByteArray.size_append];omega)
  rw[if_pos e5,if_pos e5,A.gd1 (by omega),show(64:Int)=((64:Nat):Int)from rfl,this]
  rfl
 rw[if_neg e5,if_neg e5]
 by_cases e6:f.1=6
 ·obtain⟨n1,n2⟩:=num_mod h e6
  rw[if_pos e6,if_pos e6,rest_eq n1 n2];rfl
 rw[if_neg e6,if_neg e6]
 by_cases e7:f.1=7
 ·rw[if_pos e7,if_pos e7,List.length_map];rfl
 rw[if_neg e7,if_neg e7]
 by_cases e8:f.1=8
 ·rw[if_pos e8,if_pos e8]
  cases hx:((cks r.2.data.toList).map (·.2))[0]? with
  |none=>
   have:((cks r.2.data.toList).map (·.2)).length=0:=by
    have:=List.getElem?_eq_none_iff.1 hx;omega
   rw[if_neg (by omega)];rfl
  |some x=>
   have hlt:=(List.getElem?_eq_some_iff.1 hx).1
   have hr:=rune_fits hc hx
   rw[if_pos (by omega),show A.ix ((cks r.2.data.toList).map (·.2)) 0=some x from A.ixn (k:=0) hx,Option.bind_some,A.gd1 ⟨by omega,by omega⟩];rfl
 rw[if_neg e8,if_neg e8];rfl
theorem Ck.one {b:UInt8}(h:b.toNat<128):Ck ([b],(b.toNat:Int)):=by
 have hd:Lib.decodeL [b]=(b.toNat,1):=by
  rw[Lib.decodeL_N]
  unfold Lib.decodeN
  rw[if_pos (by simpa using h)];rfl
 have:=Ck.of (l:=[b]) (by simp) (by rw[hd];intro h2;have:=h2.1;simp only at this;omega)
 rw[hd]at this
 exact this
theorem Ck.kinds {c:Rn}(h:Ck c):(∃b:UInt8,b.toNat<128∧c=([b],(b.toNat:Int)))∨∀b,b∈c.1→128≤b.toNat:=by
 have hd:=h.dec []
 rw[List.append_nil]at hd
 have hok:=h.ok
 have hlen:=h.len
 rw[Lib.decodeL_N]at hd
 have k0:=(c.1.getD 0 0).toNat_lt
 rcases Lib.decodeN_shape c.1.length (c.1.getD 0 0).toNat (c.1.getD 1 0).toNat (c.1.getD 2 0).toNat (c.1.getD 3 0).toNat with⟨q,e⟩|⟨c1,c2,c3,cv,e⟩|⟨c1,c2,c3,c4,cv,cs,e⟩|⟨c1,c2,c3,c4,c5,cv,cw,e⟩|e
 ·left
  rw[e]at hd
  injection hd with h1 h2
  have hc1:=Lib.takeA c.1 (by omega)
  rw[List.take_of_length_le (by omega)]at hc1
  refine⟨c.1.getD 0 0,q,?_⟩
  have hnn:=h.nn
  refine Prod.ext hc1 ?_
  show c.2=_
  rw[h1];omega
 ·right
  rw[e]at hd
  injection hd with h1 h2
  have hc1:=Lib.takeB c.1 (by omega)
  rw[List.take_of_length_le (by omega)]at hc1
  intro b hb
  rw[hc1]at hb
  simp only[List.mem_cons,List.mem_nil_iff,or_false]at hb
  rcases hb with rfl|rfl<;>omega
 ·right
  rw[e]at hd
  injection hd with h1 h2
  have hc1:=Lib.takeC c.1 (by omega)
  rw[List.take_of_length_le (by omega)]at hc1
  intro b hb
  rw[hc1]at hb
  simp only[List.mem_cons,List.mem_nil_iff,or_false]at hb
  rcases hb with rfl|rfl|rfl<;>omega
 ·right
  rw[e]at hd
  injection hd with h1 h2
  have hc1:=Lib.takeD c.1 (by omega)
  rw[List.take_of_length_le (by omega)]at hc1
  intro b hb
  rw[hc1]at hb
  simp only[List.mem_cons,List.mem_nil_iff,or_false]at hb
  rcases hb with rfl|rfl|rfl|rfl<;>omega
 ·rw[e]at hd
  injection hd with h1 h2
  exact absurd ⟨h1.symm,h2.symm⟩ hok
end Go.Proofs.YtbljnlkhebiniaaGreatDoor
end
section
set_option linter.unusedVariables false
set_option linter.unusedSimpArgs false
namespace Go.Ent
open Go.Utf
abbrev En:=Int×Int×ByteArray×Int
abbrev Ky:=Int×Int×ByteArray
abbrev key (e:En):Ky:=(e.1,e.2.1,e.2.2.1)
abbrev num (e:En):Int:=e.2.2.2
theorem bL_irr: ∀a:List UInt8,Op.bytesLess a a=false
 | []=>rfl
 |x::a=>by unfold Op.bytesLess;rw[bL_irr a];simp
theorem bL_tr: ∀{a b c:List UInt8},Op.bytesLess a b=true→Op.bytesLess b c=true→Op.bytesLess a c=true
 |_,_,[],_,h=>by cases h':(‹List UInt8›)<;>simp_all [Op.bytesLess]
 |_,[],_::_,h,_=>by simp_all [Op.bytesLess]
 | [],_::_,_::_,_,_=>rfl
 |x::a,y::b,z::c,h1,h2=>by
  unfold Op.bytesLess at h1 h2 ⊢
  simp only[Bool.or_eq_true,Bool.and_eq_true,decide_eq_true_eq,beq_iff_eq]at h1 h2 ⊢
  rcases h1 with h1|⟨rfl,h1⟩
  ·rcases h2 with h2|⟨rfl,h2⟩
   ·exact .inl (UInt8.lt_trans h1 h2)
   ·exact .inl h1
  ·rcases h2 with h2|⟨rfl,h2⟩
   ·exact .inl h2
   ·exact .inr ⟨rfl,bL_tr h1 h2⟩
theorem bL_tri: ∀{a b:List UInt8},Op.bytesLess a b=false→Op.bytesLess b a=false→a=b
 | [],[],_,_=>rfl
 | [],_::_,h,_=>by simp[Op.bytesLess]at h
 |_::_,[],_,h=>by simp[Op.bytesLess]at h
 |x::a,y::b,h1,h2=>by
  unfold Op.bytesLess at h1 h2
  simp only[Bool.or_eq_false_iff,decide_eq_false_iff_not,Bool.and_eq_false_iff]at h1 h2
  have e:x=y:=UInt8.le_antisymm (UInt8.not_lt.1 h2.1) (UInt8.not_lt.1 h1.1)
  subst e
  have h3:Op.bytesLess a b=false:=by rcases h1.2 with h|h;simp at h;exact h
  have h4:Op.bytesLess b a=false:=by rcases h2.2 with h|h;simp at h;exact h
  rw[bL_tri h3 h4]
def bl (s t:ByteArray):Bool:=Op.bytesLess s.toList t.toList
theorem bl_irr (s:ByteArray):bl s s=false:=bL_irr _
theorem bl_tr {s t u:ByteArray}(h1:bl s t=true)(h2:bl t u=true):bl s u=true:=bL_tr h1 h2
theorem bl_tri {s t:ByteArray}(h1:bl s t=false)(h2:bl t s=false):s=t:=by
 have:=bL_tri h1 h2
 rw[Lib.toList_data,Lib.toList_data]at this
 exact ba_eq this
def rl (a b:Int×ByteArray):Bool:=decide (a.1<b.1)||(decide (a.1=b.1)&&bl a.2 b.2)
theorem rl_irr (a:Int×ByteArray):rl a a=false:=by unfold rl;rw[bl_irr];simp
theorem rl_tr {a b c:Int×ByteArray}(h1:rl a b=true)(h2:rl b c=true):rl a c=true:=by
 unfold rl at h1 h2 ⊢
 simp only[Bool.or_eq_true,Bool.and_eq_true,decide_eq_true_eq]at h1 h2 ⊢
 rcases h1 with h1|⟨h1,h1'⟩
 ·rcases h2 with h2|⟨h2,h2'⟩
  ·left;omega
  ·left;omega
 ·rcases h2 with h2|⟨h2,h2'⟩
  ·left;omega
  ·exact .inr ⟨h1.trans h2,bl_tr h1' h2'⟩
theorem rl_tri {a b:Int×ByteArray}(h1:rl a b=false)(h2:rl b a=false):a=b:=by
 unfold rl at h1 h2
 simp only[Bool.or_eq_false_iff,decide_eq_false_iff_not,Bool.and_eq_false_iff]at h1 h2
 have e:a.1=b.1:=by omega
 have h3:bl a.2 b.2=false:=by rcases h1.2 with h|h;exact absurd e h;exact h
 have h4:bl b.2 a.2=false:=by rcases h2.2 with h|h;exact absurd e.symm h;exact h
 exact Prod.ext e (bl_tri h3 h4)
def kl (a b:Ky):Bool:=decide (a.1<b.1)||(decide (a.1=b.1)&&rl a.2 b.2)
theorem kl_irr (a:Ky):kl a a=false:=by unfold kl;rw[rl_irr];simp
theorem kl_ne {a b:Ky}(h:kl a b=true):a≠b:=fun e=>by subst e;rw[kl_irr]at h;cases h
abbrev Srt (l:List En):Prop:=l.Pairwise fun a b=>kl (key a) (key b)=true
def gv:List En→Ky→Int
 | [],_=>0
 |e::l,k=>if key e=k then num e else gv l k
theorem gv_none: ∀{l:List En} {k:Ky},(∀e,e∈l→key e≠k)→gv l k=0
 | [],_,_=>rfl
 |e::l,k,h=>by unfold gv;rw[if_neg (h e (List.mem_cons_self ..))];exact gv_none fun x hx=>h x (List.mem_cons_of_mem _ hx)
theorem gv_at {l:List En}{k:Ky}(h:gv l k≠0): ∃e,e∈l∧key e=k∧num e=gv l k:=by
 induction l with
 |nil=>exact absurd rfl h
 |cons x l ih=>
  unfold gv at h ⊢
  by_cases hx:key x=k
  ·rw[if_pos hx];exact⟨x,List.mem_cons_self ..,hx,rfl⟩
  ·rw[if_neg hx]at h ⊢
   obtain⟨e,h1,h2⟩:=ih h
   exact⟨e,List.mem_cons_of_mem _ h1,h2⟩
structure Nf (l:List En):Prop where
 srt:Srt l
 nz: ∀e,e∈l→num e≠0
def upd (x e:En)(one:Bool):En:=(x.1,x.2.1,x.2.2.1,if one=true then 1 else min (num x+num e) 1099511627776)
abbrev cap (one:Bool):Int:=if one=true then 1 else 1099511627776
structure Bd (one:Bool) (l:List En):Prop where
 srt:Srt l
 b: ∀e,e∈l→1≤num e∧num e≤cap one
theorem Bd.gv {one:Bool}{l:List En}(h:Bd one l)(k:Ky):0≤gv l k∧gv l k≤cap one:=by
 by_cases h0:Ent.gv l k=0
 ·rw[h0];cases one<;>decide
 ·obtain⟨e,h1,_,h2⟩:=gv_at h0
  have:=h.b e h1
  rw[h2]at this
  exact⟨by omega,this.2⟩
def cs (C:Int)(l:List En)(k:Ky):Int:=l.foldl (fun a e=>if key e=k then min C (a+num e)else a) 0
def sm:List En→Ky→Int
 | [],_=>0
 |e::l,k=>(if key e=k then num e else 0)+sm l k
theorem sm_nn {l:List En}(h: ∀e,e∈l→0≤num e)(k:Ky):0≤sm l k:=by
 induction l with
 |nil=>simp[sm]
 |cons x l ih=>
  have h1:=ih fun e he=>h e (List.mem_cons_of_mem _ he)
  have h2:=h x (List.mem_cons_self ..)
  unfold sm
  split<;>omega
theorem cs_sm {C:Int}(hC:0≤C): ∀(l:List En),(∀e,e∈l→0≤num e)→∀k,cs C l k=min C (sm l k):=by
 intro l h k
 have main: ∀(l:List En) (a:Int),(∀e,e∈l→0≤num e)→0≤a→a≤C→l.foldl (fun a e=>if key e=k then min C (a+num e)else a) a=min C (a+sm l k):=by
  intro l
  induction l with
  |nil=>intro a _ h1 h2;simp[sm];omega
  |cons x l ih=>
   intro a h h1 h2
   have hx:=h x (List.mem_cons_self ..)
   have hl:=sm_nn (fun e he=>h e (List.mem_cons_of_mem _ he)) k
   rw[List.foldl_cons,sm]
   split
   ·rw[ih _ (fun e he=>h e (List.mem_cons_of_mem _ he)) (by omega) (by omega)];omega
   ·rw[ih _ (fun e he=>h e (List.mem_cons_of_mem _ he)) h1 h2];omega
 have:=main l 0 h (Int.le_refl _) hC
 rw[Int.zero_add]at this
 exact this
theorem sm_gv: ∀{l:List En},Srt l→∀k,sm l k=gv l k
 | [],_,_=>rfl
 |x::l,h,k=>by
  obtain⟨h1,h2⟩:=List.pairwise_cons.1 h
  unfold sm gv
  by_cases hk:key x=k
  ·rw[if_pos hk,if_pos hk,sm_gv h2,gv_none (fun e he h3=>kl_ne (h1 e he) (hk.trans h3.symm))];omega
  ·rw[if_neg hk,if_neg hk,sm_gv h2];omega
theorem Bd.cs {one:Bool}{l:List En}(h:Bd one l)(k:Ky):cs (cap one) l k=Ent.gv l k:=by
 rw[cs_sm (by cases one<;>decide) l (fun e he=>by have:=(h.b e he).1;omega),sm_gv h.srt]
 have:=h.gv k
 omega
end Go.Ent
end
section
set_option linter.unusedVariables false
set_option linter.unusedSimpArgs false
namespace Go.Opr
open Go.Utf Go.Ent
abbrev Rc:=Int×ByteArray
abbrev Mn:=Rc×Int
abbrev kr (e:En):Rc:=(e.2.1,e.2.2.1)
abbrev SK {α:Type} (k:α→Rc) (l:List α):Prop:=l.Pairwise fun a b=>rl (k a) (k b)=true
theorem rl_ne {a b:Rc}(h:rl a b=true):a≠b:=fun e=>by subst e;rw[rl_irr]at h;cases h
def ins {α:Type}(k:α→Rc)(e:α):List α→List α
 | []=>[e]
 |x::l=>if k x=k e then e::l else if rl (k e) (k x)=true then e::x::l else x::ins k e l
theorem ins_mem {α:Type}{k:α→Rc}{e x:α}: ∀{l:List α},SK k l→(x∈ins k e l↔x=e∨(x∈l∧k x≠k e))
 | [],_=>by simp[ins]
 |y::l,h=>by
  obtain⟨h1,h2⟩:=List.pairwise_cons.1 h
  unfold ins
  by_cases hk:k y=k e
  ·rw[if_pos hk]
   simp only[List.mem_cons]
   constructor
   ·rintro(rfl|hx)
    ·exact .inl rfl
    ·exact .inr ⟨.inr hx,fun e2=>rl_ne (h1 x hx) (hk.trans e2.symm)⟩
   ·rintro(rfl|⟨rfl|hx,hn⟩)
    ·exact .inl rfl
    ·exact absurd hk hn
    ·exact .inr hx
  ·rw[if_neg hk]
   by_cases hlt:rl (k e) (k y)=true
   ·rw[if_pos hlt]
    simp only[List.mem_cons]
    constructor
    ·rintro(rfl|rfl|hx)
     ·exact .inl rfl
     ·exact .inr ⟨.inl rfl,hk⟩
     ·exact .inr ⟨.inr hx,fun e2=>rl_ne (rl_tr hlt (h1 x hx)) e2.symm⟩
    ·rintro(rfl|⟨rfl|hx,hn⟩)
     ·exact .inl rfl
     ·exact .inr (.inl rfl)
     ·exact .inr (.inr hx)
   ·rw[if_neg hlt,List.mem_cons,ins_mem h2,List.mem_cons]
    constructor
    ·rintro(rfl|rfl|⟨hx,hn⟩)
     ·exact .inr ⟨.inl rfl,hk⟩
     ·exact .inl rfl
     ·exact .inr ⟨.inr hx,hn⟩
    ·rintro(rfl|⟨rfl|hx,hn⟩)
     ·exact .inr (.inl rfl)
     ·exact .inl rfl
     ·exact .inr (.inr ⟨hx,hn⟩)
theorem ins_sk {α:Type}{k:α→Rc}{e:α}: ∀{l:List α},SK k l→SK k (ins k e l)
 | [],_=>List.pairwise_singleton ..
 |y::l,h=>by
  obtain⟨h1,h2⟩:=List.pairwise_cons.1 h
  unfold ins
  by_cases hk:k y=k e
  ·rw[if_pos hk]
   exact List.pairwise_cons.2 ⟨fun b hb=>hk▸h1 b hb,h2⟩
  ·rw[if_neg hk]
   by_cases hlt:rl (k e) (k y)=true
   ·rw[if_pos hlt]
    exact List.pairwise_cons.2 ⟨fun b hb=>(List.mem_cons.1 hb).elim (fun e=>e▸hlt) fun hb=>rl_tr hlt (h1 b hb),h⟩
   ·rw[if_neg hlt]
    refine List.pairwise_cons.2 ⟨fun b hb=>?_,ins_sk h2⟩
    rcases(ins_mem h2).1 hb with rfl|⟨hb,_⟩
    ·cases hye:rl (k y) (k b)with
     |true=>rfl
     |false=>exact absurd (rl_tri hye (by simpa using hlt)) hk
    ·exact h1 b hb
abbrev KL (l:List Mn):Prop:=l.Pairwise fun a b=>a.1.1≤b.1.1
theorem rl_le {a b:Rc}(h:rl a b=true):a.1≤b.1:=by
 unfold rl at h
 simp only[Bool.or_eq_true,Bool.and_eq_true,decide_eq_true_eq]at h
 omega
theorem KL.of {l:List Mn}(h:SK (fun m:Mn=>m.1) l):KL l:=h.imp fun h=>rl_le h
end Go.Opr
end
section
set_option linter.unusedVariables false
set_option linter.unusedSimpArgs false
namespace Go.Opr
open Go.Utf Go.Ent
abbrev Fn:=Int×Int×ByteArray
def rns (s:ByteArray):Int:=((cks s.data.toList).length:Int)
def dg:Nat→Nat→List UInt8
 |0,_=>[]
 |f+1,n=>if n / 10=0 then [UInt8.ofNat (48+n%10)]else dg f (n / 10)++[UInt8.ofNat (48+n%10)]
def dec (n:Int):ByteArray:=⟨(dg 20 n.toNat).toArray⟩
def vE:List En→Rc→Int
 | [],_=>0
 |e::l,r=>if kr e=r then num e else vE l r
def meas (f:Fn)(r:Rc):Int:=if f.1=41 then 1 else rns r.2
def tot (f:Fn)(v:Int)(g:List Mn):Int:=g.foldl (fun v m=>min (v+meas f m.1*m.2) 1099511627776) v
theorem vE_none {l:List En}{r:Rc}(h: ∀e,e∈l→kr e≠r):vE l r=0:=by
 induction l with
 |nil=>rfl
 |cons x l ih=>unfold vE;rw[if_neg (h x (List.mem_cons_self ..)),ih fun e he=>h e (List.mem_cons_of_mem _ he)]
theorem vE_mem: ∀{l:List En} {e:En},SK kr l→e∈l→vE l (kr e)=num e
 |x::l,e,h,he=>by
  obtain⟨h1,h2⟩:=List.pairwise_cons.1 h
  unfold vE
  rcases List.mem_cons.1 he with rfl|he
  ·rw[if_pos rfl]
  ·rw[if_neg (rl_ne (h1 e he)),vE_mem h2 he]
end Go.Opr
end
section
set_option maxRecDepth 20000
set_option linter.unusedVariables false
set_option linter.unusedSimpArgs false
namespace Go.Proofs.YtbljnlkhebiniaaGreatDoor
open Go.RowKit Go.Graph Go.Utf Go.Ent
abbrev rec (e:En):Int×ByteArray:=(e.2.1,e.2.2.1)
def entOk (n:Nd)(x:En):Bool:=
 if x.1≠n.1 then false else if n.2.1=11 then decide (x.2.2.1=ByteArray.mk #[])&&decide (0≤x.2.2.2)&&decide (x.2.2.2≤1099511627776)else if n.2.1=16 then decide (x.2.2.2=1)&&okT x.2.2.1 else false
def stF (n:Nd):Option En→List En→Bool
 |_,[]=>true
 |none,e::l=>entOk n e&&stF n (some e) l
 |some p,e::l=>entOk n e&&rl (rec p) (rec e)&&stF n (some e) l
def stP (n:Nd)(l:List En):Bool:=stF n none l
end Go.Proofs.YtbljnlkhebiniaaGreatDoor
end
section
set_option linter.unusedVariables false
set_option linter.unusedSimpArgs false
namespace Go.Opr
open Go.Utf Go.Ent
abbrev SM (l:List Mn):Prop:=SK (fun m:Mn=>m.1) l
end Go.Opr
end
section
set_option maxRecDepth 20000
set_option linter.unusedVariables false
set_option linter.unusedSimpArgs false
namespace Go.Proofs.YtbljnlkhebiniaaGreatDoor
open Go.RowKit Go.Graph Go.Utf Go.Ent Go.Opr
structure Bag (l:List Mn):Prop where
 txt: ∀m,m∈l→okT m.1.2=true
 one: ∀m,m∈l→1≤m.2
 top: ∀m,m∈l→m.2≤1048576
 srt:SM l
theorem Bag.sub {l m:List Mn}(h:Bag l)(hs:m.Sublist l):Bag m:=
 ⟨fun x hx=>h.txt x (hs.subset hx),fun x hx=>h.one x (hs.subset hx),fun x hx=>h.top x (hs.subset hx),h.srt.sublist hs⟩
theorem Bag.kl {l:List Mn}(h:Bag l):KL l:=KL.of h.srt
end Go.Proofs.YtbljnlkhebiniaaGreatDoor
end
section
set_option maxRecDepth 20000
set_option linter.unusedVariables false
set_option linter.unusedSimpArgs false
namespace Go.Proofs.YtbljnlkhebiniaaGreatDoor
open Go.RowKit Go.Graph Go.Utf Go.Ent Go.Opr
theorem runes_len (s:ByteArray)(hs:s.size≤1099511627776):F.fn_runes s=some ((cks s.data.toList).map (·.2))∧(((cks s.data.toList).map (·.2)).length:Int)=rns s:=⟨runes_F s hs,by rw[List.length_map];rfl⟩
end Go.Proofs.YtbljnlkhebiniaaGreatDoor
end
section
set_option maxRecDepth 20000
set_option linter.unusedVariables false
set_option linter.unusedSimpArgs false
namespace Go.A
end Go.A
namespace Go.Proofs.YtbljnlkhebiniaaGreatDoor
open Go.RowKit Go.Graph Go.Utf Go.Ent Go.Opr
theorem map_mem {m:List (Rc×Int)}(hn:(m.map Prod.fst).Nodup)(k:Rc)(x:Int):(k,x)∈m↔Z.mhas m k=true∧Z.mget (0:Int) m k=x:=by
 constructor
 ·intro h
  obtain⟨i,hi⟩:=List.getElem?_of_mem h
  obtain⟨h1,h2⟩:=Z.mget_get (z:=(0:Int)) hn hi
  exact⟨h2,h1⟩
 ·rintro⟨h1,rfl⟩
  exact Z.mget_mem h1
structure Rel (id:Int) (m:List (Rc×Int)) (st:List En):Prop where
 nd:(m.map Prod.fst).Nodup
 sk:SK kr st
 idn: ∀e,e∈st→e.1=id
 fwd: ∀e,e∈st→(kr e,num e)∈m
 back: ∀p,p∈m→((id,p.1.1,p.1.2,p.2):En)∈st
theorem Rel.nil (id:Int):Rel id [] []:=⟨by simp,List.Pairwise.nil,by simp,by simp,by simp⟩
theorem Rel.get {id:Int}{m:List (Rc×Int)}{st:List En}(h:Rel id m st)(r:Rc):Z.mget (0:Int) m r=vE st r:=by
 cases hh:Z.mhas m r with
 |true=>
  have h1:=h.back _ (Z.mget_mem (z:=(0:Int)) hh)
  have h2:=vE_mem h.sk h1
  exact h2.symm
 |false=>
  rw[Z.mget_none hh]
  refine(vE_none fun e he e2=>?_).symm
  have:=((map_mem h.nd _ _).1 (h.fwd e he)).1
  rw[e2,hh]at this;cases this
theorem Rel.ins {id:Int}{m:List (Rc×Int)}{st:List En}(h:Rel id m st)(r:Rc)(v:Int):Rel id (Z.mins m r v) (ins kr (id,r.1,r.2,v) st):=by
 have nd:=Z.mins_nodup h.nd r v
 refine⟨nd,ins_sk h.sk,fun e he=>?_,fun e he=>?_,fun p hp=>?_⟩
 ·rcases(ins_mem h.sk).1 he with rfl|⟨he,_⟩
  ·rfl
  ·exact h.idn e he
 ·rw[map_mem nd,Z.mhas_ins,Z.mget_ins]
  rcases(ins_mem h.sk).1 he with rfl|⟨he,hn⟩
  ·refine⟨?_,if_pos rfl⟩
   rw[decide_eq_true (rfl:kr (id,r.1,r.2,v)=r)];rfl
  ·obtain⟨h1,h2⟩:=(map_mem h.nd _ _).1 (h.fwd e he)
   rw[if_neg hn,h1];exact⟨Bool.or_true _,h2⟩
 ·obtain⟨k,x⟩:=p
  obtain⟨h1,h2⟩:=(map_mem nd k x).1 hp
  rw[Z.mhas_ins]at h1
  rw[Z.mget_ins]at h2
  refine(ins_mem h.sk).2 ?_
  by_cases hk:k=r
  ·subst hk
   rw[if_pos rfl]at h2
   subst h2
   exact .inl rfl
  ·rw[if_neg hk]at h2
   rw[decide_eq_false hk,Bool.false_or]at h1
   exact .inr ⟨h.back _ ((map_mem h.nd k x).2 ⟨h1,h2⟩),hk⟩
end Go.Proofs.YtbljnlkhebiniaaGreatDoor
end
section
set_option maxRecDepth 20000
set_option linter.unusedVariables false
set_option linter.unusedSimpArgs false
namespace Go.Proofs.YtbljnlkhebiniaaGreatDoor
open Go.RowKit Go.Graph Go.Utf Go.Ent Go.Opr
abbrev Tm:=Int×Int×Int×Int×Int×Int
def tcL (d:Int):Nat→List Int→Int
 |_,[]=>0
 |i,x::l=>if x<0∨1048576<x then 10 else if d≤(i:Int)∧x≠0 then 10 else tcL d (i+1) l
def tcP (t:Tm):Int:=if t.1<0∨1073741824<t.1∨t.2.1<0∨4<t.2.1 then 10 else tcL t.2.1 0 [t.2.2.1,t.2.2.2.1,t.2.2.2.2.1,t.2.2.2.2.2]
theorem tcheck_eq (t:Tm):F.tstamp_Check t=some (tcP t):=by
 rw[F.tstamp_Check]
 unfold tcP
 simp only[A.bo,decide_eq_true_eq,or_assoc]
 by_cases h:t.1<0∨1073741824<t.1∨t.2.1<0∨4<t.2.1
 ·rw[if_pos h,if_pos h]
 ·rw[if_neg h,if_neg h]
  obtain⟨L,hL⟩: ∃L,L=[t.2.2.1,t.2.2.2.1,t.2.2.2.2.1,t.2.2.2.2.2]:=⟨_,rfl⟩
  have h4:L.length=4:=by rw[hL];rfl
  rw[←hL]
  exact A.lp0 L (fun f y=>F.tstamp_Check_l1 t f y) (fun k r=>some (tcL t.2.1 k r))
   (fun f=>by rw[F.tstamp_Check_l1,if_neg (by omega)];rfl)
   (fun f k x hx hk ih=>by
    rw[F.tstamp_Check_l1,if_pos (by omega),←hL,A.ixn hx,Option.bind_some,tcL]
    simp only[A.bo,A.ba,decide_eq_true_eq]
    by_cases h1:x<0∨1048576<x
    ·rw[if_pos h1,if_pos h1]
    ·rw[if_neg h1,if_neg h1]
     by_cases h2:t.2.1≤(k:Int)∧x≠0
     ·rw[if_pos h2,if_pos h2]
     ·rw[if_neg h2,if_neg h2,A.gd1 ⟨by omega,by omega⟩,ih])
   (by have:=FU_big;omega)
def holdsP (k:Int):Bool:=decide (k=7∨k=8∨k=9∨k=10∨k=11∨k=16)
theorem Holds_eq (k:Int):F.oper_Holds k=some (holdsP k):=by
 unfold F.oper_Holds F.oper_Holds_j3 F.oper_Holds_j2 F.oper_Holds_j1 F.oper_Keeps holdsP
 by_cases h7:k=7
 ·simp[h7]
 by_cases h8:k=8
 ·simp[h8]
 by_cases h9:k=9
 ·simp[h9]
 by_cases h10:k=10
 ·simp[h10]
 by_cases h11:k=11
 ·simp[h11]
 by_cases h16:k=16
 ·simp[h16]
 ·simp[h7,h8,h9,h10,h11,h16]
structure Ok (n:Nd) (t:Tm) (a b:List Mn) (st:List En):Prop where
 holds:holdsP n.2.1=true
 fn:chk n.2.1 n.2.2.2.1=0
 tm:tcP t=0
 ba:Bag a
 bb:Bag b
 one:b=[]∨n.2.1=9
 st:stP n st=true
theorem Rel.len {id:Int}{m:List (Rc×Int)}{st:List En}(h:Rel id m st):m.length=st.length:=by
 have perm:(m.map fun p=>((id,p.1.1,p.1.2,p.2):En)).Perm st:=by
  refine(List.perm_ext_iff_of_nodup ?_ ?_).2 fun e=>?_
  ·have: ∀l:List (Rc×Int),(l.map Prod.fst).Nodup→(l.map fun p=>((id,p.1.1,p.1.2,p.2):En)).Nodup:=by
    intro l
    induction l with
    |nil=>intro _;simp
    |cons p l ih=>
     intro h
     rw[List.map_cons,List.nodup_cons]at h ⊢
     refine⟨fun hm=>h.1 ?_,ih h.2⟩
     obtain⟨q,hq,e⟩:=List.mem_map.1 hm
     obtain⟨_,e⟩:=Prod.mk.inj e
     obtain⟨e1,e⟩:=Prod.mk.inj e
     obtain⟨e2,_⟩:=Prod.mk.inj e
     exact List.mem_map.2 ⟨q,hq,Prod.ext e1 e2⟩
   exact this m h.nd
  ·exact h.sk.imp fun {a b} h (e:a=b)=>rl_ne h (by rw[e])
  ·constructor
   ·intro he
    obtain⟨p,hp,rfl⟩:=List.mem_map.1 he
    exact h.back p hp
   ·intro he
    refine List.mem_map.2 ⟨_,h.fwd e he,?_⟩
    rw[←h.idn e he]
 have:=perm.length_eq
 rwa[List.length_map]at this
end Go.Proofs.YtbljnlkhebiniaaGreatDoor
end
section
set_option maxRecDepth 20000
set_option linter.unusedVariables false
set_option linter.unusedSimpArgs false
namespace Go.Proofs.YtbljnlkhebiniaaGreatDoor
open Go.RowKit Go.Graph Go.Utf Go.Ent Go.Opr
theorem live_eq:F.L17_live=some true:=by kernel_rfl
def finT (g:ByteArray→Int){α:Type}(k:α→ByteArray):Int→List α→Int
 |y,[]=>y
 |y,x::r=>finT g k (y+g (k x)) r
theorem few_ok (l:List Rc)(hl:l.length≤maxLen): ∃b,F.L17_few l=some b∧(b=true→l.length≤100):=by
 have hl':l.length≤9223372036854775807:=by simpa[maxLen] using hl
 have hm:(min (l.length:Int) 100).toNat≤l.length:=by omega
 refine⟨bif decide ((l.length:Int)≤100)then decide (finT (fun s=>min (s.size:Int) 1000) (fun r:Rc=>r.2) 0 (List.take (min (l.length:Int) 100).toNat l)≤2000)else false,?_,fun h=>?_⟩
 ·have:=A.lp (List.take (min (l.length:Int) 100).toNat l) (fun f (y:Int) k=>F.L17_few_l1 l f y k) (fun _ r y=>some (bif decide ((l.length:Int)≤100)then decide (finT (fun s=>min (s.size:Int) 1000) (fun r:Rc=>r.2) y r≤2000)else false)) (fun k y=>0≤y∧y≤1000*k)
   (fun f y hp=>by
    show F.L17_few_l1 l (f+1) y _=_
    rw[F.L17_few_l1,if_neg (by omega)];rfl)
   (fun f y k x hx hk hp ih=>by
    show F.L17_few_l1 l (f+1) y _=_
    have h2:k<100:=by rw[List.length_take]at hk;omega
    have hn:(0:Int)≤(x.2.size:Int):=by omega
    rw[F.L17_few_l1,if_pos (by omega),A.ixn hx,Option.bind_some,A.gd1 ⟨by omega,by omega⟩,A.gd1 ⟨by omega,by omega⟩]
    exact ih _ ⟨by omega,by omega⟩)
   (by have:=FU_big;rw[List.length_take];omega) 0 ⟨by omega,by omega⟩
  rw[F.L17_few,A.gd1 ⟨by omega,hm⟩]
  exact this
 ·by_cases h2:(l.length:Int)≤100
  ·omega
  ·rw[decide_eq_false h2]at h;cases h
theorem EqRec_eq (a b:List Rc)(hl:a.length≤9223372036854775806):F.slices_Equal_api_Rec_api_Rec a b=some (decide (a=b)):=by
 rw[F.slices_Equal_api_Rec_api_Rec]
 by_cases h:a.length=b.length
 ·rw[if_neg (by omega)]
  have:=A.lp0 a (fun f y=>F.slices_Equal_api_Rec_api_Rec_l1 a b f y) (fun k r=>some (decide (r=b.drop k)))
   (fun f=>by
    rw[F.slices_Equal_api_Rec_api_Rec_l1,if_neg (by omega),h,List.drop_length];rfl)
   (fun f k x hx hk ih=>by
    obtain⟨y,hy⟩: ∃y,b[k]?=some y:=⟨_,List.getElem?_eq_getElem (by omega)⟩
    rw[F.slices_Equal_api_Rec_api_Rec_l1,if_pos (by omega),A.ixn hx,Option.bind_some,A.ixn hy,Option.bind_some,A.dropx hy]
    show(if x≠y then _ else _)=_
    by_cases e:x=y
    ·rw[if_neg (fun h=>h e),A.gd1 ⟨by omega,by omega⟩,ih]
     subst e;simp
    ·rw[if_pos e,decide_eq_false (fun h=>e (List.cons.inj h).1)])
   (by have:=FU_big;omega)
  rw[this];simp
 ·rw[if_pos (by omega),decide_eq_false (fun e=>h (by rw[e]))]
end Go.Proofs.YtbljnlkhebiniaaGreatDoor
end
section
set_option maxRecDepth 100000
set_option linter.unusedVariables false
set_option linter.unusedSimpArgs false
namespace Go.Utf
open Go.Lib
abbrev cont (b:UInt8):Prop:=b.toNat / 64=2
theorem Ck.shape {c:Rn}(h:Ck c): ∃b t,c.1=b::t∧¬cont b∧∀x,x∈t→cont x:=by
 have hd:=h.dec []
 rw[List.append_nil,decodeL_N]at hd
 have hok:=h.ok
 have hlen:=h.four
 obtain⟨b,t,hc⟩: ∃b t,c.1=b::t:=by
  cases hc:c.1 with
  |nil=>exact absurd hc h.ne
  |cons b t=>exact⟨b,t,rfl⟩
 have hb:=b.toNat_lt
 refine⟨b,t,hc,?_⟩
 rw[hc]at hd hok hlen
 simp only[List.getD,List.getElem?_cons_zero,List.getElem?_cons_succ,Option.getD_some,List.length_cons]at hd hlen hok
 rcases decodeN_shape (t.length+1) b.toNat (t[0]?.getD 0).toNat (t[1]?.getD 0).toNat (t[2]?.getD 0).toNat with⟨c1,e⟩|⟨c1,c2,c3,cv,e⟩|⟨c1,c2,c3,c4,cv,cs,e⟩|⟨c1,c2,c3,c4,c5,cv,cw,e⟩|e
 ·rw[e]at hd
  have hl:t.length=0:=by have:=congrArg Prod.snd hd;simp only at this;omega
  rw[List.eq_nil_of_length_eq_zero hl]
  exact⟨by show ¬b.toNat / 64=2;omega,by simp⟩
 ·rw[e]at hd
  have hl:t.length=1:=by have:=congrArg Prod.snd hd;simp only at this;omega
  match t,hl with
  | [x],_=>
   simp only[List.getElem?_cons_zero,Option.getD_some]at c3
   exact⟨by show ¬b.toNat / 64=2;omega,fun y hy=>by rw[List.mem_singleton.1 hy];exact c3⟩
 ·rw[e]at hd
  have hl:t.length=2:=by have:=congrArg Prod.snd hd;simp only at this;omega
  match t,hl with
  | [x,y],_=>
   simp only[List.getElem?_cons_zero,List.getElem?_cons_succ,Option.getD_some]at c3 c4
   refine⟨by show ¬b.toNat / 64=2;omega,fun z hz=>?_⟩
   rcases List.mem_cons.1 hz with rfl|hz
   ·exact c3
   ·rw[List.mem_singleton.1 hz];exact c4
 ·rw[e]at hd
  have hl:t.length=3:=by have:=congrArg Prod.snd hd;simp only at this;omega
  match t,hl with
  | [x,y,z],_=>
   simp only[List.getElem?_cons_zero,List.getElem?_cons_succ,Option.getD_some]at c3 c4 c5
   refine⟨by show ¬b.toNat / 64=2;omega,fun q hq=>?_⟩
   rcases List.mem_cons.1 hq with rfl|hq
   ·exact c3
   ·rcases List.mem_cons.1 hq with rfl|hq
    ·exact c4
    ·rw[List.mem_singleton.1 hq];exact c5
 ·rw[e]at hd
  obtain⟨h1,h2⟩:=Prod.mk.inj hd
  exact(hok ⟨h1.symm,h2.symm⟩).elim
theorem Ck.ext {c d:Rn}(hc:Ck c)(hd:Ck d)(h:c.2=d.2):c=d:=Prod.ext (by rw[←hc.enc,←hd.enc,h]) h
def wgo (c:Int):List Rn→List Rn→List (List Rn)
 |acc,[]=>[acc]
 |acc,x::xs=>if x.2=c then acc::wgo c [] xs else wgo c (acc++[x]) xs
theorem wgo_len (c:Int): ∀{xs acc:List Rn},(wgo c acc xs).length≤xs.length+1
 | [],acc=>Nat.le_refl _
 |y::xs,acc=>by
  unfold wgo
  split
  ·rw[List.length_cons,List.length_cons];have:=wgo_len c (xs:=xs) (acc:=[]);omega
  ·rw[List.length_cons];have:=wgo_len c (xs:=xs) (acc:=acc++[y]);omega
end Go.Utf
end
section
set_option maxRecDepth 20000
set_option linter.unusedVariables false
set_option linter.unusedSimpArgs false
namespace Go.Proofs.YtbljnlkhebiniaaGreatDoor
open Go.RowKit Go.Graph Go.Utf Go.Ent Go.Opr
def filtP (f:Fun)(r:Rc):Bool:=if f.1=11 then decide (Int.tmod r.1 f.2.1=0)else if f.1=12 then Lib.contains r.2.data.toList f.2.2.data.toList else decide (f.2.1≤rns r.2)
abbrev baL (l:List Rn):ByteArray:=⟨(flat l).toArray⟩
abbrev runeOf (s:ByteArray):Int:=(((cks s.data.toList).map (·.2))[0]?).getD 0
def piecesP (f:Fun)(r:Rc):List ByteArray:=if f.1=22 then(wgo (runeOf f.2.2) [] (cks r.2.data.toList)).map baL else(cks r.2.data.toList).map fun c=>baL [c]
def splitP (f:Fun)(r:Rc):List Rc:=(((piecesP f r).filter fun s=>decide (s≠ByteArray.mk #[])).take 4).map fun s=>(r.1,s)
def eachP (k:Int)(f:Fun)(r:Rc):List Rc:=if k=2 then [mapK f r]else if k=3 then(if filtP f r=true then [r]else [])else if k=4 then splitP f r else [r]
theorem chk_kind {k:Int}{f:Fun}(hne:kinds k≠[])(h:chk k f=0):f.1∈kinds k∧numberF f=true∧textP f=true:=by
 unfold chk at h
 rw[if_neg hne]at h
 unfold anyF at h
 split at h
 ·rename_i h1
  rw[List.any_eq_true]at h1
  obtain⟨y,hy,h2⟩:=h1
  simp only[Bool.and_eq_true,decide_eq_true_eq]at h2
  obtain⟨rfl,h3,h4⟩:=h2
  exact⟨hy,h3,h4⟩
 ·cases h
theorem cnt_cks {s:ByteArray}(hs:s.size≤5000)(hv:vld s s.size 0=true):(cks s.data.toList).length=cnt s s.size 0:=by
 obtain⟨l,h1,h2⟩:=Runes_eq s hs hv
 rw[Runes_ats s hs hv]at h1
 rw[←h2,←Option.some.inj h1,ats_len]
theorem one_rune {f:Fun}(h:textP f=true)(hk:f.1=12∨f.1=22)(hs:f.2.2.size≤5000): ∃c,Ck c∧cks f.2.2.data.toList=[c]∧f.2.2.data.toList=c.1∧runeOf f.2.2=c.2:=by
 unfold textP at h
 rw[if_neg (by omega),if_pos hk]at h
 simp only[Bool.and_eq_true,decide_eq_true_eq]at h
 have hv:=vld_cks h.2
 have hl:=cnt_cks hs h.2
 rw[h.1]at hl
 obtain⟨c,hc⟩: ∃c,cks f.2.2.data.toList=[c]:=by
  match hq:cks f.2.2.data.toList,hl with
  | [c],_=>exact⟨c,rfl⟩
 refine⟨c,hv.2 c (by rw[hc];exact List.mem_cons_self ..),hc,?_,?_⟩
 ·rw[←hv.1,hc];simp
 ·unfold runeOf;rw[hc];rfl
theorem num_div {f:Fun}(h:numberF f=true)(hk:f.1=11):f.2.1≠0:=by
 unfold numberF at h
 rw[if_neg (by omega),if_pos (.inr hk)]at h
 have:=of_decide_eq_true h
 omega
theorem both_ok {k:Int}{f:Fun}{r:Rc}(hs:f.2.2.size≤1000)(hf:chk k f=0)(ho:okT r.2=true):F.fn_both k f r=some 0:=by
 rw[F.fn_both]
 show(F.fn_Check k f).bind _=_
 rw[fn_Check_eq k f (by omega),Option.bind_some,hf,if_neg (by simp)]
 show(F.rec_Check r).bind _=_
 rw[rec_Check_eq,Option.bind_some,ho];rfl
theorem Filter_eq (f:Fun)(r:Rc)(hs:f.2.2.size≤1000)(hf:chk 3 f=0)(ho:okT r.2=true):F.fn_Filter f r=some (filtP f r,0):=by
 have h64:=(okT_iff.1 ho).1
 obtain⟨h1,h2,h3⟩:=chk_kind (k:=3) (by decide) hf
 rw[F.fn_Filter]
 show(F.fn_both 3 f r).bind _=_
 rw[both_ok hs hf ho,Option.bind_some,if_neg (by simp)]
 unfold filtP
 by_cases e1:f.1=11
 ·rw[if_pos e1,if_pos e1,A.gd1 (num_div h2 e1)]
 ·rw[if_neg e1,if_neg e1]
  by_cases e2:f.1=12
  ·rw[if_pos e2,if_pos e2,F.strings_Contains,A.gd1 (by omega),Option.bind_some]
  ·rw[if_neg e2,if_neg e2,(runes_len r.2 (by omega)).1,Option.bind_some,(runes_len r.2 (by omega)).2]
theorem baL_snoc (acc:List Rn)(hc: ∀c,c∈acc→Ck c):runesBytes (acc.map (·.2))=baL acc:=runes_mk hc
theorem words_eq (s:ByteArray)(c:Int)(ho:okT s=true):F.fn_words s c=some ((wgo c [] (cks s.data.toList)).map baL):=by
 obtain⟨h64,hv⟩:=okT_iff.1 ho
 obtain⟨hfl,hck⟩:=vld_cks hv
 have hFU:=FU_big
 have tot:(flat (cks s.data.toList)).length=s.size:=by rw[hfl,size_list]
 have loop: ∀(n p f:Nat) (xs:List ByteArray) (acc:List Rn),s.size-p≤n→n<f→(∀x,x∈acc→Ck x)→(∀x,x∈ckF n (s.data.toList.drop p)→Ck x)→xs.length+acc.length≤p→p≤s.size→(flat acc).length≤p→
   F.fn_words_l1 s c f p xs (acc.map (·.2))=some (xs++(wgo c acc (ckF n (s.data.toList.drop p))).map baL):=by
  intro n
  induction n with
  |zero=>
   intro p f xs acc hp hf ha hr hl hp64 hfa
   obtain⟨f,rfl⟩: ∃f',f=f'+1:=⟨f-1,by omega⟩
   have e:(baL acc).size=(flat acc).length:=mk_size _
   rw[F.fn_words_l1,if_neg (by omega),baL_snoc acc ha,A.gd1 (by omega),A.gd1 (by simp only[List.length_cons,List.length_nil];omega),ck_end (by omega)]
   simp[wgo]
  |succ n ih=>
   intro p f xs acc hp hf ha hr hl hp64 hfa
   obtain⟨f,rfl⟩: ∃f',f=f'+1:=⟨f-1,by omega⟩
   have e:(baL acc).size=(flat acc).length:=mk_size _
   rw[F.fn_words_l1]
   by_cases h:p<s.size
   ·have hd:=dec_fits h
    rw[if_pos h,ck_step h]
    rw[ck_step h]at hr
    have hr2:=fun x hx=>hr x (List.mem_cons_of_mem _ hx)
    have hr1:=hr _ (List.mem_cons_self ..)
    obtain⟨k,hk⟩: ∃k,k=(((s.data.toList.drop p).take (Utf8.decode s p).2,((Utf8.decode s p).1:Int)):Rn):=⟨_,rfl⟩
    have hk2:((Utf8.decode s p).1:Int)=k.2:=by rw[hk]
    rw[←hk]at hr1
    rw[←hk,wgo]
    by_cases hc:k.2=c
    ·rw[if_neg (by rw[hk2];exact fun h=>h hc),if_pos hc,baL_snoc acc ha,A.gd1 (by omega),A.gd1 (by simp only[List.length_cons,List.length_nil];omega)]
     have:=ih (p+(Utf8.decode s p).2) f (xs++[baL acc]) [] (by omega) (by omega) (by simp) hr2 (by simp only[List.length_append,List.length_cons,List.length_nil];omega) (by omega) (by simp)
     refine(show F.fn_words_l1 s c f (p+(Utf8.decode s p).2) (xs++[baL acc]) []=_ from this).trans ?_
     simp
    ·rw[if_pos (by rw[hk2];exact hc),if_neg hc,hk2,A.gd1 (by simp only[List.length_cons,List.length_nil,List.length_map];omega)]
     have e2:acc.map (·.2)++[k.2]=(acc++[k]).map (·.2):=by simp
     rw[e2]
     have hkl:k.1.length≤(Utf8.decode s p).2:=by rw[hk];simp only[List.length_take];omega
     have e3:flat (acc++[k])=flat acc++k.1:=by simp[List.flatMap_append]
     refine(ih (p+(Utf8.decode s p).2) f xs (acc++[k]) (by omega) (by omega) (fun x hx=>(List.mem_append.1 hx).elim (ha x) fun h=>by rw[List.mem_singleton.1 h];exact hr1) hr2 (by simp only[List.length_append,List.length_cons,List.length_nil];omega) (by omega) (by rw[e3,List.length_append];omega)).trans rfl
   ·rw[if_neg h,baL_snoc acc ha,A.gd1 (by omega),A.gd1 (by simp only[List.length_cons,List.length_nil];omega),ck_end h]
    simp[wgo]
 have:=loop s.size 0 A.FU [] [] (by omega) (by omega) (by simp) (fun x hx=>hck x hx) (by simp) (by omega) (by simp)
 rw[F.fn_words]
 exact this
theorem Split_eq (f:Fun)(r:Rc)(hs:f.2.2.size≤1000)(hf:chk 4 f=0)(ho:okT r.2=true):F.fn_Split f r=some (splitP f r,0):=by
 obtain⟨h64,hv⟩:=okT_iff.1 ho
 obtain⟨hfl,hck⟩:=vld_cks hv
 have hFU:=FU_big
 have tot:(flat (cks r.2.data.toList)).length=r.2.size:=by rw[hfl,size_list]
 have hlen:=cks_len r.2
 obtain⟨h1,h2,h3⟩:=chk_kind (k:=4) (by decide) hf
 have j3: ∀l:List ByteArray,l.length≤100→F.fn_Split_j3 r l=some (((l.filter fun s=>decide (s≠ByteArray.mk #[])).take 4).map (fun s=>(r.1,s)),0):=fun l hl=>by
  rw[F.fn_Split_j3]
  refine(A.lp l (fun n (s:List Rc) y=>F.fn_Split_l2 r l n s y) (fun _ t s=>some (s++((t.filter fun s=>decide (s≠ByteArray.mk #[])).take (4-s.length)).map (fun s=>(r.1,s)),0)) (fun k s=>s.length≤k)
   (fun n s hp=>by
    show F.fn_Split_l2 r l (n+1) s _=_
    rw[F.fn_Split_l2,if_neg (by omega)];simp)
   (fun n s k x hx hk hp ih=>by
    show F.fn_Split_l2 r l (n+1) s _=_
    rw[F.fn_Split_l2,if_pos (by omega),A.ixn hx,Option.bind_some,A.ba,List.filter_cons]
    by_cases hn:x=ByteArray.mk #[]
    ·rw[if_neg (by simp[hn]),if_neg (by simp[hn]),F.fn_Split_j1,A.gd1 ⟨by omega,by omega⟩]
     exact ih s (by omega)
    ·rw[if_pos (c:=decide (x≠ByteArray.mk #[])=true) (decide_eq_true hn)]
     by_cases h4:s.length<4
     ·rw[if_pos (decide_eq_true ⟨hn,by omega⟩),A.gd1 (by simp only[List.length_cons,List.length_nil];omega),F.fn_Split_j1,A.gd1 ⟨by omega,by omega⟩]
      refine(ih (s++[(r.1,x)]) (by simp only[List.length_append,List.length_cons,List.length_nil];omega)).trans ?_
      obtain⟨q,hq⟩: ∃q,4-s.length=q+1:=⟨3-s.length,by omega⟩
      have hq2:4-(s++[(r.1,x)]).length=q:=by simp only[List.length_append,List.length_cons,List.length_nil];omega
      rw[hq2,hq,List.take_succ_cons]
      simp
     ·rw[if_neg (by intro h;have:=(of_decide_eq_true h).2;omega),F.fn_Split_j1,A.gd1 ⟨by omega,by omega⟩]
      refine(ih s (by omega)).trans ?_
      rw[show 4-s.length=0 by omega];simp)
   (by omega) [] (Nat.le_refl _)).trans ?_
  simp
 rw[F.fn_Split]
 show(F.fn_both 4 f r).bind _=_
 rw[both_ok hs hf ho,Option.bind_some,if_neg (by simp)]
 unfold splitP piecesP
 by_cases e1:f.1=22
 ·rw[if_pos e1,if_pos e1,runes_F f.2.2 (by omega),Option.bind_some]
  obtain⟨c,c1,c2,c3,c4⟩:=one_rune h3 (.inr e1) (by omega)
  have e0:A.ix ((cks f.2.2.data.toList).map (·.2)) 0=some c.2:=by rw[c2];rfl
  rw[e0,Option.bind_some,words_eq r.2 c.2 ho,Option.bind_some,c4]
  exact j3 _ (by rw[List.length_map];have:=wgo_len c.2 (xs:=cks r.2.data.toList) (acc:=[]);omega)
 ·rw[if_neg e1,if_neg e1]
  have loop: ∀(n p f:Nat) (xs:List ByteArray),r.2.size-p≤n→n<f→(∀x,x∈ckF n (r.2.data.toList.drop p)→Ck x)→xs.length≤p→p≤r.2.size→
    F.fn_Split_l4 r f xs p=F.fn_Split_j3 r (xs++(ckF n (r.2.data.toList.drop p)).map fun c=>baL [c]):=by
   intro n
   induction n with
   |zero=>
    intro p f xs hp hf hr hl hps
    obtain⟨f,rfl⟩: ∃f',f=f'+1:=⟨f-1,by omega⟩
    rw[F.fn_Split_l4,if_neg (by omega),ck_end (by omega)];simp
   |succ n ih=>
    intro p f xs hp hf hr hl hps
    obtain⟨f,rfl⟩: ∃f',f=f'+1:=⟨f-1,by omega⟩
    rw[F.fn_Split_l4]
    by_cases h:p<r.2.size
    ·have hd:=dec_fits h
     rw[if_pos h,ck_step h]
     rw[ck_step h]at hr
     have hr2:=fun x hx=>hr x (List.mem_cons_of_mem _ hx)
     have hr1:=hr _ (List.mem_cons_self ..)
     obtain⟨k,hk⟩: ∃k,k=(((r.2.data.toList.drop p).take (Utf8.decode r.2 p).2,((Utf8.decode r.2 p).1:Int)):Rn):=⟨_,rfl⟩
     have hk2:((Utf8.decode r.2 p).1:Int)=k.2:=by rw[hk]
     rw[←hk]at hr1
     have e:runesBytes [k.2]=baL [k]:=runes_mk (cs:=[k]) fun x hx=>by rw[List.mem_singleton.1 hx];exact hr1
     have e5:(baL [k]).size=k.1.length:=by show(ByteArray.mk _).size=_;rw[mk_size];simp
     have h4:=hr1.four
     rw[←hk,hk2,e,A.gd1 (by omega),A.gd1 (by simp only[List.length_cons,List.length_nil];omega),ih _ _ _ (by omega) (by omega) hr2 (by simp only[List.length_append,List.length_cons,List.length_nil];omega) (by omega)]
     simp
    ·rw[if_neg h,ck_end h];simp
  have:=loop r.2.size 0 A.FU [] (by omega) (by omega) (fun x hx=>hck x hx) (by simp) (by omega)
  refine(show F.fn_Split_l4 r A.FU [] 0=_ from this).trans ?_
  rw[List.nil_append,←cks_0]
  exact j3 _ (by rw[List.length_map];omega)
theorem each_eq (n:Nd)(r:Rc)(hs:n.2.2.2.1.2.2.size≤1000)(hf:chk n.2.1 n.2.2.2.1=0)(ho:okT r.2=true):F.oper_each n r=some (eachP n.2.1 n.2.2.2.1 r):=by
 rw[F.oper_each]
 unfold eachP
 by_cases h2:n.2.1=2
 ·rw[if_pos h2,if_pos h2]
  rw[h2]at hf
  show(F.fn_Map n.2.2.2.1 r).bind _=_
  have hm:mapP n.2.2.2.1 r=(mapK n.2.2.2.1 r,0):=by unfold mapP;rw[if_neg (by rw[hf];simp),if_pos ho]
  rw[fn_Map_eq _ _ (by omega),Option.bind_some,hm,if_pos rfl]
 rw[if_neg h2,if_neg h2]
 by_cases h3:n.2.1=3
 ·rw[if_pos h3,if_pos h3]
  rw[h3]at hf
  show(F.fn_Filter n.2.2.2.1 r).bind _=_
  rw[Filter_eq _ _ hs hf ho,Option.bind_some]
  cases filtP n.2.2.2.1 r<;>rfl
 rw[if_neg h3,if_neg h3]
 by_cases h4:n.2.1=4
 ·rw[if_pos h4,if_pos h4]
  rw[h4]at hf
  show(F.fn_Split n.2.2.2.1 r).bind _=_
  rw[Split_eq _ _ hs hf ho,Option.bind_some,if_pos rfl]
 ·rw[if_neg h4,if_neg h4]
def insP8 (k:Int):Int:=if k<1∨16<k then-1 else if k=1 then 0 else if k=5∨k=9 then 2 else 1
theorem Ins_eq (k:Int):F.graph_Ins k=some (insP8 k):=by
 rw[F.graph_Ins]
 unfold insP8
 simp only[A.bo,decide_eq_true_eq]
 split
 ·rfl
 ·(split)
  ·rfl
  ·split<;>rfl
def chkR (l:List Rc):Int:=if(l.any fun r=> !okT r.2)=true then 50 else 0
def checkP (n:Nd)(port:Int)(t:Tm)(l:List Rc):Int:=if insP8 n.2.1<1∨holdsP n.2.1=true then 170 else if port<0∨insP8 n.2.1≤port then 1 else if chk n.2.1 n.2.2.2.1≠0 then chk n.2.1 n.2.2.2.1 else if tcP t≠0 then tcP t else chkR l
theorem check_eq (n:Nd)(port:Int)(t:Tm)(l:List Rc)(hs:n.2.2.2.1.2.2.size≤1000)(hl:l.length≤1000):F.oper_check n port t l=some (checkP n port t l):=by
 have hFU:=FU_big
 have recs:F.oper_check_l1 l A.FU 0=some (chkR l):=
  A.lp0 l (fun f y=>F.oper_check_l1 l f y) (fun _ r=>some (chkR r))
   (fun f=>by rw[F.oper_check_l1,if_neg (by omega)];rfl)
   (fun f k x hx hk ih=>by
    rw[F.oper_check_l1,if_pos (by omega),A.ixn hx,Option.bind_some]
    show(F.rec_Check x).bind _=_
    rw[rec_Check_eq,Option.bind_some]
    unfold chkR at ih ⊢
    rw[List.any_cons]
    cases ho:okT x.2 with
    |true=>rw[if_pos rfl,if_neg (by simp),A.gd1 ⟨by omega,by omega⟩,ih];rfl
    |false=>rfl)
   (by omega)
 have j2: ∀b,F.oper_check_j2 n port t l (insP8 n.2.1) b=some (if b=true then 170 else if port<0∨insP8 n.2.1≤port then 1 else if chk n.2.1 n.2.2.2.1≠0 then chk n.2.1 n.2.2.2.1 else if tcP t≠0 then tcP t else chkR l):=fun b=>by
  rw[F.oper_check_j2]
  cases b with
  |true=>rw[if_pos rfl,if_pos rfl]
  |false=>
   rw[if_neg (show ¬(false=true) by simp),if_neg (show ¬(false=true) by simp),A.bo]
   by_cases hp:port<0∨insP8 n.2.1≤port
   ·rw[if_pos (decide_eq_true hp),if_pos hp]
   ·rw[if_neg (by simpa using hp),if_neg hp]
    show(F.fn_Check n.2.1 n.2.2.2.1).bind _=_
    rw[fn_Check_eq _ _ (by omega),Option.bind_some]
    by_cases h1:chk n.2.1 n.2.2.2.1=0
    ·rw[if_neg (fun h=>h h1),if_neg (fun h=>h h1)]
     show(F.tstamp_Check t).bind _=_
     rw[tcheck_eq,Option.bind_some]
     by_cases h2:tcP t=0
     ·rw[if_neg (fun h=>h h2),if_neg (fun h=>h h2),recs]
     ·rw[if_pos h2,if_pos h2]
    ·rw[if_pos h1,if_pos h1]
 rw[F.oper_check,Ins_eq,Option.bind_some]
 unfold checkP
 by_cases h1:insP8 n.2.1<1
 ·rw[if_pos h1,j2,if_pos rfl,if_pos (.inl h1)]
 ·rw[if_neg h1,Holds_eq,Option.bind_some,j2]
  cases hh:holdsP n.2.1 with
  |true=>rw[if_pos rfl,if_pos (.inr rfl)]
  |false=>rw[if_neg (show ¬(false=true) by simp),if_neg (show ¬(insP8 n.2.1<1∨false=true)from fun h=>h.elim h1 (by simp))]
abbrev t0:Tm:=(0,0,0,0,0,0)
def goesP (n:Nd)(t:Tm):Tm×Bool×Int:=(F.oper_goes n t).getD (t0,false,0)
theorem tcP_d {t:Tm}(h:tcP t=0):0≤t.1∧t.1≤1073741824∧0≤t.2.1∧t.2.1≤4∧∀x,x∈[t.2.2.1,t.2.2.2.1,t.2.2.2.2.1,t.2.2.2.2.2]→0≤x∧x≤1048576:=by
 unfold tcP at h
 split at h
 ·cases h
 ·rename_i h1
  have: ∀d i l,tcL d i l=0→∀x,x∈l→0≤x∧x≤1048576:=by
   intro d i l
   induction l generalizing i with
   |nil=>intro _ x hx;cases hx
   |cons y l ih=>
    intro h x hx
    unfold tcL at h
    split at h
    ·cases h
    ·rename_i h2
     split at h
     ·cases h
     ·rcases List.mem_cons.1 hx with rfl|hx
      ·omega
      ·exact ih _ h x hx
  exact⟨by omega,by omega,by omega,by omega,this _ _ _ h⟩
theorem ix4 {t:Tm}(h:tcP t=0)(h1:t.2.1≠0): ∃x,A.ix [t.2.2.1,t.2.2.2.1,t.2.2.2.2.1,t.2.2.2.2.2] (t.2.1-1)=some x∧0≤x∧x≤1048576:=by
 obtain⟨_,_,h2,h3,h4⟩:=tcP_d h
 obtain⟨k,hk⟩: ∃k:Nat,t.2.1-1=(k:Int):=⟨(t.2.1-1).toNat,by omega⟩
 have hk4:k<4:=by omega
 obtain⟨L,hL⟩: ∃L,L=[t.2.2.1,t.2.2.2.1,t.2.2.2.2.1,t.2.2.2.2.2]:=⟨_,rfl⟩
 have hLl:L.length=4:=by rw[hL];rfl
 rw[←hL]at h4 ⊢
 exact⟨L[k],by rw[hk];exact A.ixn (List.getElem?_eq_getElem (by omega)),h4 _ (List.getElem_mem _)⟩
theorem Enter_some {t:Tm}(h:tcP t=0): ∃v,F.tstamp_Enter t=some v:=by
 obtain⟨_,_,h2,h3,_⟩:=tcP_d h
 rw[F.tstamp_Enter]
 show ∃v,(F.tstamp_Check t).bind _=some v
 rw[tcheck_eq,h,Option.bind_some,if_neg (by simp)]
 split
 ·exact⟨_,rfl⟩
 ·rw[A.gd1 ⟨by omega,by omega⟩];exact⟨_,rfl⟩
theorem Leave_some {t:Tm}(h:tcP t=0): ∃v,F.tstamp_Leave t=some v:=by
 obtain⟨_,_,h2,h3,_⟩:=tcP_d h
 rw[F.tstamp_Leave]
 show ∃v,(F.tstamp_Check t).bind _=some v
 rw[tcheck_eq,h,Option.bind_some,if_neg (by simp)]
 split
 ·exact⟨_,rfl⟩
 ·rename_i h4
  obtain⟨x,hx,_⟩:=ix4 h h4
  rw[A.gd1 ⟨by omega,by omega⟩,hx];exact⟨_,rfl⟩
theorem Next_some {t:Tm}(h:tcP t=0): ∃v,F.tstamp_Next t=some v:=by
 obtain⟨h0,h1,h2,h3,_⟩:=tcP_d h
 rw[F.tstamp_Next]
 show ∃v,(F.tstamp_Check t).bind _=some v
 rw[tcheck_eq,h,Option.bind_some,if_neg (by simp)]
 split
 ·rename_i h4
  obtain⟨x,hx,hx1,hx2⟩:=ix4 h (by omega)
  rw[A.gd1 ⟨by omega,by omega⟩,hx,Option.bind_some]
  split
  ·exact⟨_,rfl⟩
  ·rw[A.gd1 ⟨by omega,by omega⟩];exact⟨_,rfl⟩
 ·(split)
  ·exact⟨_,rfl⟩
  ·rw[A.gd1 ⟨by omega,by omega⟩];exact⟨_,rfl⟩
theorem goes_eq (n:Nd){t:Tm}(h:tcP t=0):F.oper_goes n t=some (goesP n t):=by
 have: ∃v,F.oper_goes n t=some v:=by
  obtain⟨h0,h1,h2,h3,_⟩:=tcP_d h
  rw[F.oper_goes]
  split
  ·obtain⟨v,hv⟩:=Enter_some h
   show ∃v,(F.tstamp_Enter t).bind _=some v
   rw[hv];exact⟨_,rfl⟩
  ·(split)
   ·obtain⟨v,hv⟩:=Leave_some h
    show ∃v,(F.tstamp_Leave t).bind _=some v
    rw[hv];exact⟨_,rfl⟩
   ·(split)
    ·(split)
     ·exact⟨_,rfl⟩
     ·rename_i h4
      obtain⟨x,hx,_⟩:=ix4 h h4
      rw[A.gd1 ⟨by omega,by omega⟩,hx,Option.bind_some]
      split
      ·exact⟨_,rfl⟩
      ·obtain⟨v,hv⟩:=Next_some h
       show ∃v,(F.tstamp_Next t).bind _=some v
       rw[hv];exact⟨_,rfl⟩
    ·exact⟨_,rfl⟩
 obtain⟨v,hv⟩:=this
 unfold goesP
 rw[hv];rfl
def batchP (n:Nd)(port:Int)(t:Tm)(l:List Rc):List Rc×Tm×Int:=
 if checkP n port t l≠0 then([],t0,checkP n port t l)else if(goesP n t).2.2≠0 then([],t0,(goesP n t).2.2)else if(goesP n t).2.1=false then([],(goesP n t).1,0)else(l.flatMap (eachP n.2.1 n.2.2.2.1),(goesP n t).1,0)
structure OkB (n:Nd) (port:Int) (t:Tm) (l:List Rc):Prop where
 ins: ¬insP8 n.2.1<1
 holds:holdsP n.2.1=false
 port:0≤port∧port<insP8 n.2.1
 fn:chk n.2.1 n.2.2.2.1=0
 tm:tcP t=0
 txt: ∀r,r∈l→okT r.2=true
theorem chkR_iff {l:List Rc}:chkR l=0↔∀r,r∈l→okT r.2=true:=by
 unfold chkR
 by_cases h:(l.any fun r=> !okT r.2)=true
 ·rw[if_pos h]
  refine⟨fun h=>(by cases h),fun hb=>?_⟩
  obtain⟨m,hm,h2⟩:=List.any_eq_true.1 h
  rw[hb m hm]at h2;cases h2
 ·rw[if_neg h]
  refine⟨fun _ r hr=>?_,fun _=>rfl⟩
  cases ho:okT r.2 with
  |true=>rfl
  |false=>exact absurd (List.any_eq_true.2 ⟨r,hr,by rw[ho];rfl⟩) h
theorem checkP_iff {n:Nd}{port:Int}{t:Tm}{l:List Rc}:checkP n port t l=0↔OkB n port t l:=by
 unfold checkP
 constructor
 ·intro h
  split at h
  ·cases h
  rename_i h1
  split at h
  ·cases h
  rename_i h2
  split at h
  ·rename_i h3;exact absurd h h3
  rename_i h3
  split at h
  ·rename_i h4;exact absurd h h4
  rename_i h4
  exact⟨fun h=>h1 (.inl h),by cases hh:holdsP n.2.1 with|false=>rfl|true=>exact absurd (.inr hh) h1,by omega,Classical.byContradiction h3,Classical.byContradiction h4,chkR_iff.1 h⟩
 ·intro h
  rw[if_neg (fun h2=>h2.elim h.ins fun e=>by rw[h.holds]at e;cases e),if_neg (by have:=h.port;omega),if_neg (by rw[h.fn];simp),if_neg (by rw[h.tm];simp)]
  exact chkR_iff.2 h.txt
theorem each_len (k:Int)(f:Fun)(r:Rc):(eachP k f r).length≤4:=by
 unfold eachP
 split
 ·simp
 ·(split)
  ·split<;>simp
  ·(split)
   ·unfold splitP;rw[List.length_map,List.length_take];omega
   ·simp
theorem Batch_eq (n:Nd)(port:Int)(t:Tm)(l:List Rc)(hs:n.2.2.2.1.2.2.size≤1000)(hl:l.length≤1000):F.oper_Batch n port t l=some (batchP n port t l):=by
 have hFU:=FU_big
 rw[F.oper_Batch]
 show(F.oper_check n port t l).bind _=_
 rw[check_eq n port t l hs hl,Option.bind_some]
 unfold batchP
 by_cases hc:checkP n port t l=0
 ·rw[if_neg (fun h=>h hc),if_neg (fun h=>h hc)]
  have ok:=checkP_iff.1 hc
  show(F.oper_goes n t).bind _=_
  rw[goes_eq n ok.tm,Option.bind_some]
  by_cases hg:(goesP n t).2.2=0
  ·have hg2: ¬((goesP n t).2.2≠0):=fun h=>h hg
   rw[if_neg hg2,if_neg hg2]
   cases hb:(goesP n t).2.1 with
   |false=>rfl
   |true=>
    rw[if_neg (show ¬((!true)=true) by simp),if_neg (show ¬(true=false) by simp)]
    exact A.lp l (fun f (s:List Rc) y=>F.oper_Batch_l1 n l (goesP n t) f s y) (fun _ r s=>some (s++r.flatMap (eachP n.2.1 n.2.2.2.1),(goesP n t).1,0)) (fun k s=>s.length≤4*k)
     (fun f s hp=>by
      show F.oper_Batch_l1 n l _ (f+1) s _=_
      rw[F.oper_Batch_l1,if_neg (by omega)];simp)
     (fun f s k x hx hk hp ih=>by
      have hel:=each_len n.2.1 n.2.2.2.1 x
      show F.oper_Batch_l1 n l _ (f+1) s _=_
      rw[F.oper_Batch_l1,if_pos (by omega),A.ixn hx,Option.bind_some]
      show(F.oper_each n x).bind _=_
      rw[each_eq n x hs ok.fn (ok.txt x (List.mem_of_getElem? hx)),Option.bind_some,A.gd1 (by show(s.length+(eachP n.2.1 n.2.2.2.1 x).length)*24≤_;omega),A.gd1 ⟨by omega,by omega⟩]
      refine(ih (s++eachP n.2.1 n.2.2.2.1 x) (by rw[List.length_append];omega)).trans ?_
      rw[List.flatMap_cons,List.append_assoc])
     (by omega) [] (by simp)
  ·rw[if_pos hg,if_pos hg]
 ·rw[if_pos hc,if_pos hc]
end Go.Proofs.YtbljnlkhebiniaaGreatDoor
end
section
set_option maxRecDepth 20000
set_option linter.unusedVariables false
set_option linter.unusedSimpArgs false
namespace Go.Proofs.YtbljnlkhebiniaaGreatDoor
open Go.RowKit Go.Graph Go.Utf Go.Ent Go.Opr
end Go.Proofs.YtbljnlkhebiniaaGreatDoor
end
section
set_option maxRecDepth 20000
set_option linter.unusedVariables false
set_option linter.unusedSimpArgs false
namespace Go.Proofs.YtbljnlkhebiniaaGreatDoor
open Go.RowKit Go.Graph Go.Utf Go.Ent
end Go.Proofs.YtbljnlkhebiniaaGreatDoor
end
section
set_option maxRecDepth 20000
set_option linter.unusedVariables false
set_option linter.unusedSimpArgs false
namespace Go.Proofs.YtbljnlkhebiniaaGreatDoor
open Go.RowKit Go.Graph Go.Utf Go.Ent Go.Opr
theorem batch_len (n:Nd)(port:Int)(t:Tm)(l:List Rc):(batchP n port t l).1.length≤4*l.length:=by
 have: ∀l:List Rc,(l.flatMap (eachP n.2.1 n.2.2.2.1)).length≤4*l.length:=by
  intro l
  induction l with
  |nil=>simp
  |cons x l ih=>rw[List.flatMap_cons,List.length_append,List.length_cons];have:=each_len n.2.1 n.2.2.2.1 x;omega
 unfold batchP
 split
 ·simp
 ·(split)
  ·simp
  ·(split)
   ·simp
   ·exact this l
theorem batch_ok {n:Nd}{port:Int}{t:Tm}{l:List Rc}:(batchP n port t l).2.2=0↔OkB n port t l∧(goesP n t).2.2=0:=by
 rw[←checkP_iff]
 unfold batchP
 constructor
 ·intro h
  split at h
  ·rename_i h1;exact absurd h h1
  ·rename_i h1
   split at h
   ·rename_i h2;exact absurd h h2
   ·rename_i h2;exact⟨Classical.byContradiction h1,Classical.byContradiction h2⟩
 ·rintro⟨h1,h2⟩
  rw[if_neg (fun h=>h h1),if_neg (fun h=>h h2)]
  split<;>rfl
theorem batch_val {n:Nd}{port:Int}{t:Tm}{l:List Rc}(h:OkB n port t l)(h2:(goesP n t).2.2=0):batchP n port t l=(if(goesP n t).2.1=false then []else l.flatMap (eachP n.2.1 n.2.2.2.1),(goesP n t).1,0):=by
 unfold batchP
 rw[if_neg (fun h3=>h3 (checkP_iff.2 h)),if_neg (fun h=>h h2)]
 split<;>rfl
theorem operEach_plain {P Q:Prop}(n:Nd)(b:Int×Tm×List Rc)(at_:UInt8)(_:P)(h2:T59.ok b)(_:Q):F.L17_OperEach n b at_=some true:=by
 obtain⟨nd,t,l⟩:=b
 have ll:l.length≤maxLen:=h2.2.2.1
 rw[F.L17_OperEach,live_eq,Option.bind_some,if_neg (by simp)]
 obtain⟨r,hr1,hr2⟩:=few_ok l ll
 show(F.L17_few l).bind _=_
 rw[hr1,Option.bind_some]
 cases r with
 |false=>rfl
 |true=>
  have hl:=hr2 rfl
  by_cases h300:(300:Int)<(n.2.2.2.1.2.2.size:Int)
  ·rw[decide_eq_true h300];rfl
  ·have h256:at_.toNat<256:=at_.toNat_lt
   obtain⟨k,hk⟩: ∃k:Nat,(min (at_.toNat:Int) (l.length:Int)).toNat=k:=⟨_,rfl⟩
   have hkl:k≤l.length:=by omega
   have g:0≤min (at_.toNat:Int) (l.length:Int)∧(min (at_.toNat:Int) (l.length:Int)).toNat≤l.length:=⟨by omega,by omega⟩
   rw[decide_eq_false h300,if_neg (by simp),A.gd1 ⟨by omega,by omega⟩,A.gd1 g]
   show(F.oper_Batch n 0 t (l.take (min (at_.toNat:Int) (l.length:Int)).toNat)).bind _=_
   have l1:(l.take k).length≤l.length:=by rw[List.length_take];omega
   have l2:(l.drop k).length≤l.length:=by rw[List.length_drop];omega
   rw[hk,Batch_eq n 0 t (l.take k) (by omega) (by omega),Option.bind_some,F.L17_OperEach_j3,A.gd1 g]
   show(F.oper_Batch n 0 t (l.drop (min (at_.toNat:Int) (l.length:Int)).toNat)).bind _=_
   rw[hk,Batch_eq n 0 t (l.drop k) (by omega) (by omega),Option.bind_some,F.L17_OperEach_j2]
   show(F.oper_Batch n 0 t l).bind _=_
   rw[Batch_eq n 0 t l (by omega) (by omega),Option.bind_some]
   have hall:OkB n 0 t l↔OkB n 0 t (l.take k)∧OkB n 0 t (l.drop k):=by
    constructor
    ·intro h
     exact⟨⟨h.ins,h.holds,h.port,h.fn,h.tm,fun r hr=>h.txt r (List.mem_of_mem_take hr)⟩,⟨h.ins,h.holds,h.port,h.fn,h.tm,fun r hr=>h.txt r (List.mem_of_mem_drop hr)⟩⟩
    ·rintro⟨h,h'⟩
     refine⟨h.ins,h.holds,h.port,h.fn,h.tm,fun r hr=>?_⟩
     rw[←List.take_append_drop k l]at hr
     exact(List.mem_append.1 hr).elim (h.txt r) (h'.txt r)
   by_cases he:(batchP n 0 t (l.take k)).2.2=0∧(batchP n 0 t (l.drop k)).2.2=0
   ·obtain⟨o1,og⟩:=batch_ok.1 he.1
    obtain⟨o2,_⟩:=batch_ok.1 he.2
    have o3:=hall.2 ⟨o1,o2⟩
    rw[batch_val o1 og,batch_val o2 og,batch_val o3 og,if_neg (by simp),if_pos rfl,if_pos rfl,if_pos rfl]
    have e:(if(goesP n t).2.1=false then([]:List Rc)else(l.take k).flatMap (eachP n.2.1 n.2.2.2.1))++(if(goesP n t).2.1=false then []else(l.drop k).flatMap (eachP n.2.1 n.2.2.2.1))=if(goesP n t).2.1=false then []else l.flatMap (eachP n.2.1 n.2.2.2.1):=by
     split
     ·rfl
     ·rw[←List.flatMap_append,List.take_append_drop]
    have b1:=batch_len n 0 t (l.take k)
    have b2:=batch_len n 0 t (l.drop k)
    have b3:=batch_len n 0 t l
    rw[batch_val o1 og]at b1
    rw[batch_val o2 og]at b2
    rw[batch_val o3 og]at b3
    generalize (if(goesP n t).2.1=false then([]:List Rc)else(l.take k).flatMap (eachP n.2.1 n.2.2.2.1))=A1 at*
    generalize (if(goesP n t).2.1=false then([]:List Rc)else(l.drop k).flatMap (eachP n.2.1 n.2.2.2.1))=A2 at*
    generalize (if(goesP n t).2.1=false then([]:List Rc)else l.flatMap (eachP n.2.1 n.2.2.2.1))=A3 at*
    have b1:A1.length≤4*(l.take k).length:=b1
    have b2:A2.length≤4*(l.drop k).length:=b2
    show(F.slices_Clone_api_Rec_api_Rec A1).bind _=_
    rw[F.slices_Clone_api_Rec_api_Rec,A.gd1 (by simp only[List.length_nil];omega),Option.bind_some,List.nil_append,A.gd1 (by show(A1.length+A2.length)*24≤_;omega),e]
    have b3:A3.length≤4*l.length:=b3
    show(F.slices_Equal_api_Rec_api_Rec A3 A3).bind _=_
    rw[EqRec_eq _ _ (by omega),Option.bind_some,decide_eq_true rfl];rfl
   ·have ne:(bif decide ((batchP n 0 t (l.take k)).2.2≠0)then true else decide ((batchP n 0 t (l.drop k)).2.2≠0))=true:=by
     rw[A.bo,decide_eq_true_eq]
     by_cases h1:(batchP n 0 t (l.take k)).2.2=0
     ·exact .inr fun h2=>he ⟨h1,h2⟩
     ·exact .inl h1
    rw[if_pos ne,decide_eq_true]
    intro h0
    obtain⟨o3,og⟩:=batch_ok.1 h0
    obtain⟨o1,o2⟩:=hall.1 o3
    exact he ⟨batch_ok.2 ⟨o1,og⟩,batch_ok.2 ⟨o2,og⟩⟩
end Go.Proofs.YtbljnlkhebiniaaGreatDoor
end
section
set_option linter.unusedVariables false
namespace Go.A
open Go.RowKit Go.Z Go.Proofs Go.Lib
theorem Hall.tabs3 {w:World}{g3 g4 g i j k:Nat}{m:Int}(h:Lib.Utf8Tabs g3 g4 w)(hm:w.cell? ⟨g,0,none⟩=some (.int .i64 m)):Hall w [(i,.el none g3 0 tabF),(j,.el none g4 0 tabA),(k,.el none g 0 [.int .i64 m])]:=by
 obtain⟨h1,h2,_⟩:=Hall.tabs (i:=i) (j:=j) h
 have hc:Cells w ⟨g,0,none⟩ [.int .i64 m]:=by
  intro x v hv
  cases x with
  |zero=>cases hv;rw[Addr.add_lit];exact hm
  |succ x=>cases hv
 exact⟨h1,h2,⟨rfl,rfl,hc,World.block_lt_of_cell? w _ hm,fun _ h=>h⟩,trivial⟩
theorem handS {H:Type}{enc:TypeId×Value→H}{C:Checked}{os:Os}{f:FuncId}{fn:Func}{s:ChangeSpec}{conds:List PathCond}{apart fresh handsOn again:Bool}{X:World→Array Value→Prop}
  (hX: ∀(w w':World) (args:Array Value),w.heap=w'.heap→X w args→X w' args) (own:ownKnob C.prog.godebug=none) (started:os.Started) (noInit:C.prog.inits.idxOf? f=none) (hfn:C.prog.funcs[f]?=some fn)
  (witness: ∃(w:World) (tape:Tape) (i:Input),w.os=os∧(w.forCall tape i).Shaped C.prog∧i.vars=[]∧Input.okWide C.prog (w.forCall tape i) .any w.heap.size f i∧((s.pre enc C.prog fn conds apart (w.forCall tape i).memory i.args∧X (w.forCall tape i).memory i.args)∧sizedMet enc C.prog fn (OpenSpec.ofChange s) apart (w.forCall tape i).memory i.args)∧({}:Assume).holds C.prog (lone (Frame.enter C.prog f i.args .normal) [] (w.forCall tape i)))
  (k: ∀(W:World) (base:Nat) (args:Array Value) (ds gs:List (DataW H)) (before:List MemPlace),
   (∀(j:Nat) t v,fn.params[j]?=some t→args[j]?=some v→Value.okWide C.prog W .any base t v)→DataW.Whole enc C.prog fn.params.toList s.vars apart W args.toList ds gs before→X W args→W.ShapedOpen C.prog→
   Calls C.prog f args W fun e W'=>∃v,e=.returned v∧s.post enc C.prog fn apart fresh handsOn again W args v W'):
  ReturnsInHanded {} C os f .any (fun w args=>(s.pre enc C.prog fn conds apart w args∧X w args)∧sizedMet enc C.prog fn (OpenSpec.ofChange s) apart w args) (s.post enc C.prog fn apart fresh handsOn again):=
 returnsInHanded_of_calls own started noInit witness fun w tape i _ hsh _ hok hpre _=>by
  obtain⟨_,_,_,g,hg,_,_,_,_,hv⟩:=hok
  obtain rfl:g=fn:=Option.some.inj (hg.symm.trans hfn)
  obtain⟨⟨⟨ds,gs,bf,hw,hc⟩,hx⟩,_⟩:=hpre
  refine(k (w.forCall tape i) w.heap.size i.args ds gs bf hv (DataW.Whole.of_heap (w':=w.forCall tape i) (by rfl) hw) (hX _ _ _ (by rfl) hx) hsh).mono ?_
  rintro e W' ⟨v,rfl,hp⟩
  exact ChangeSpec.post_blind hp
end Go.A
end
section
namespace Go.Z
open Go.RowKit
def OpenT (P:Program)(T:TypeId)(t:Ty):Prop:=
 P.cellsOf T=t.size∧∀(H:Type) (enc:TypeId×Value→H) (w:World) (base:Nat) (spare:Nat→Bool) (held:Bool) (fuel:Nat) (cs:List Value) (x:DataW H×List MemPlace),
  DataW.trod enc P w base spare held fuel T cs=some x→∃y:t.den,t.rep w (nt []) cs y
section
variable {P:Program}{T e:TypeId}
theorem ot_int {k:IntKind}(hc:P.cellsOf T=1)(ht:P.underlying T=some (.int k)):OpenT P T (.int k):=⟨hc,fun H enc w base spare held fuel cs x h=>by
 obtain⟨n,rfl,_,hw⟩:=DataW.trod_int ht h
 refine⟨n,rfl,?_⟩
 simp only[Lit.wf,Bool.and_eq_true,decide_eq_true_eq]at hw
 exact hw⟩
theorem ot_byte (hc:P.cellsOf T=1)(ht:P.underlying T=some (.int .u8)):OpenT P T .byte:=⟨hc,fun H enc w base spare held fuel cs x h=>by
 obtain⟨n,rfl,_,hw⟩:=DataW.trod_int ht h
 simp[Lit.wf,IntKind.min,IntKind.max,IntKind.signed,IntKind.bits]at hw
 exact⟨UInt8.ofNat n.toNat,congrArg (fun z=>[Value.int .u8 z]) (u8_of (by omega))⟩⟩
theorem ot_str (hc:P.cellsOf T=1)(ht:P.underlying T=some .string):OpenT P T .str:=⟨hc,fun H enc w base spare held fuel cs x h=>by
 obtain⟨s,rfl,_,hs⟩:=DataW.trod_string ht h
 exact⟨s,rfl,hs⟩⟩
def OpenPs (P:Program):List (TypeId×Nat)→Nat→Ty→Prop
 | [],_,_=>False
 | [(T,o')],o,t=>o'=o∧OpenT P T t
 |(T,o')::p::ps,o,.pair a b=>o'=o∧OpenT P T a∧OpenPs P (p::ps) (o+a.size) b
 |_::_::_,_,_=>False
theorem open_ps {H:Type}{enc:TypeId×Value→H}{w:World}{base:Nat}{spare:Nat→Bool}{held:Bool}{fuel:Nat}{cs:List Value}:
  ∀(ps:List (TypeId×Nat)) (o:Nat) (t:Ty),OpenPs P ps o t→(∀p∈ps,∃x,DataW.trod enc P w base spare held fuel p.1 ((cs.drop p.2).take (P.cellsOf p.1))=some x)→∃y:t.den,t.rep w (nt []) ((cs.drop o).take t.size) y
 | [],_,_,h,_=>h.elim
 | [(T,o')],o,t,h,hx=>by
  obtain⟨rfl,⟨hc,ho⟩⟩:=h
  obtain⟨x,hx⟩:=hx (T,o') (List.mem_singleton.2 rfl)
  rw[←hc];exact ho _ _ _ _ _ _ _ _ _ hx
 |(T,o')::p::ps,o,.pair a b,h,hx=>by
  obtain⟨rfl,⟨hc,ho⟩,hr⟩:=h
  obtain⟨x,h1⟩:=hx (T,o') (List.mem_cons_self ..)
  obtain⟨ya,hya⟩:=ho _ _ _ _ _ _ _ _ _ h1
  obtain⟨yb,hyb⟩:=open_ps (p::ps) _ b hr fun q hq=>hx q (List.mem_cons_of_mem _ hq)
  refine⟨(ya,yb),_,_,?_,hya,hyb⟩
  show(cs.drop o').take (a.size+b.size)=_
  rw[hc,List.take_add,List.drop_drop]
 |_::_::_,_,.int _,h,_=>h.elim
 |_::_::_,_,.byte,h,_=>h.elim
 |_::_::_,_,.bool,h,_=>h.elim
 |_::_::_,_,.str,h,_=>h.elim
 |_::_::_,_,.slice _,h,_=>h.elim
theorem ot_struct {fs:List Field}{t:Ty}(hc:P.cellsOf T=t.size)(ht:P.underlying T=some (.struct fs.toArray))(h:OpenPs P (fs.map fun f=>(f.type,f.offset)) 0 t):OpenT P T t:=⟨hc,fun H enc w base spare held fuel cs x hx=>by
 obtain⟨xs,n,_,_,hl,hs,hf⟩:=DataW.trod_struct ht hx
 have hcs:cs=(cs.drop 0).take t.size:=by rw[List.drop_zero,List.take_of_length_le (by omega)]
 rw[hcs]
 refine open_ps (fuel:=n) (enc:=enc) (base:=base) (spare:=spare) (held:=held) _ 0 t h fun p hp=>?_
 obtain⟨f,hf1,rfl⟩:=List.mem_map.1 hp
 obtain⟨i,hi,he⟩:=List.getElem_of_mem hf1
 have h1:=hf i f (by rw[List.getElem?_toArray,List.getElem?_eq_getElem hi,he])
 rw[h1,List.getElem?_eq_getElem (by rw[hs];simpa using hi)]
 exact⟨_,rfl⟩⟩
theorem ot_array {n c:Nat}{t:Ty}(hc:P.cellsOf T=t.size)(ht:P.underlying T=some (.array n e))(he:P.cellsOf e=c)(h:OpenPs P ((List.range n).map fun i=>(e,i*c)) 0 t):OpenT P T t:=⟨hc,fun H enc w base spare held fuel cs x hx=>by
 subst he
 obtain⟨xs,m,_,_,hl,hs,hf⟩:=DataW.trod_array ht hx
 have hcs:cs=(cs.drop 0).take t.size:=by rw[List.drop_zero,List.take_of_length_le (by omega)]
 rw[hcs]
 refine open_ps (fuel:=m) (enc:=enc) (base:=base) (spare:=spare) (held:=held) _ 0 t h fun p hp=>?_
 obtain⟨i,hi,rfl⟩:=List.mem_map.1 hp
 have hi':=List.mem_range.1 hi
 rw[hf i hi',List.getElem?_eq_getElem (by omega)]
 exact⟨_,rfl⟩⟩
theorem rows_of {t:Ty}{w:World}{g:Addr}: ∀(n:Nat),(∀i,i<n→∃(cs:List Value) (y:t.den),cs.length=t.size∧(∀j u,cs[j]?=some u→w.cell? (g.add (i*t.size+j))=some u)∧t.rep w (nt []) cs y)→
  ∃(cells:List Value) (ys:List t.den),ys.length=n∧cells.length=n*t.size∧(∀j u,cells[j]?=some u→w.cell? (g.add j)=some u)∧∀(i:Nat) (y:t.den),ys[i]?=some y→t.rep w (nt []) ((cells.drop (i*t.size)).take t.size) y
 |0,_=>⟨[],[],rfl,by simp,by simp,by simp⟩
 |n+1,h=>by
  obtain⟨cells,ys,h1,h2,h3,h4⟩:=rows_of n fun i hi=>h i (by omega)
  obtain⟨cs,y,c1,c2,c3⟩:=h n (by omega)
  refine⟨cells++cs,ys++[y],by simp[h1],by rw[List.length_append,h2,c1,Nat.succ_mul],fun j u hj=>?_,?_⟩
  ·by_cases hlt:j<cells.length
   ·rw[List.getElem?_append_left hlt]at hj;exact h3 j u hj
   ·rw[List.getElem?_append_right (by omega)]at hj
    have:=c2 _ u hj
    rwa[h2,show n*t.size+(j-n*t.size)=j by omega]at this
  ·refine rep_append (xs:=ys) (ys:=[y]) (by rw[h2,h1]) h4 fun i y' hi=>?_
   have:i=0:=by have:=(List.getElem?_eq_some_iff.1 hi).1;simp at this;omega
   subst this
   simp at hi;subst hi
   rw[Nat.zero_mul,List.drop_zero,List.take_of_length_le (by omega)];exact c3
theorem ot_slice {t:Ty}(hc:P.cellsOf T=1)(ht:P.underlying T=some (.slice e))(h:OpenT P e t):OpenT P T (.slice t):=⟨hc,fun H enc w base spare held fuel cs x hx=>by
 rcases DataW.trod_slice ht hx with⟨rfl,_⟩|⟨ad,len,cap,elems,rest,n,_,rfl,_,hb,hl,hm,hlen,hel,_,_⟩
 ·exact⟨[],rep_nil _⟩
 ·have each: ∀i,i<len→∃(cs:List Value) (y:t.den),cs.length=t.size∧(∀j u,cs[j]?=some u→w.cell? (ad.add (i*t.size+j))=some u)∧t.rep w (nt []) cs y:=fun i hi=>by
   have h1:=hel i hi
   rw[List.getElem?_eq_getElem (by omega),Option.bind_eq_some_iff]at h1
   obtain⟨cs',h2,h3⟩:=h1
   obtain⟨_,h4,h5⟩:=World.cells?_some h2
   obtain⟨y,hy⟩:=h.2 _ _ _ _ _ _ _ _ _ h3
   rw[h.1]at h4 h5
   refine⟨cs',y,h4,fun j u hj=>?_,hy⟩
   have hlt:=(List.getElem?_eq_some_iff.1 hj).1
   have:=h5 j (by omega)
   rw[add_add]at this
   rw[this,hj]
  obtain⟨cells,ys,h1,h2,h3,h4⟩:=rows_of len each
  by_cases hz:len=0
  ·subst hz
   have:ys=[]:=List.eq_nil_of_length_eq_zero h1
   subst this
   exact⟨[],some ad,cap,[],rfl,by simp,hm,by simp,.inl rfl,by simp⟩
  ·have hp:=pos_size t
   have hlt:0<cells.length:=by rw[h2];exact Nat.mul_pos (by omega) hp
   have h0:=h3 0 _ (List.getElem?_eq_getElem hlt)
   have hspot:=World.cell?_spot h0
   obtain⟨b,off,spot⟩:=ad
   simp only[Addr.add]at hspot
   subst hspot
   refine⟨ys,some ⟨b,off,none⟩,cap,cells,by rw[h1],by omega,hm,by rw[h1];exact h2,.inr ⟨b,off,rfl,by simp[nt],fun j u hj=>?_⟩,h4⟩
   have:=h3 j u hj
   rwa[Addr.add_lit]at this⟩
end
end Go.Z
end
section
namespace Go.Proofs.YtbljnlkhebiniaaGreatDoor.operEachDone
open Go.ChangeShapes Go.WideShapes Go.ChangeAt Go.RowKit
set_option linter.unusedVariables false
theorem own:ownKnob Tryz.prog.godebug=none:=by kernel_rfl
theorem laidOut:laidOutB Tryz.prog=true:=by kernel_rfl
theorem ot3:Z.OpenT Tryz.prog 3 (Z.Ty.int .i64):=Z.ot_int (by kernel_rfl) Tryz.underlying3
theorem ot22:Z.OpenT Tryz.prog 22 (Z.Ty.slice (Z.Ty.int .i64)):=Z.ot_slice (by kernel_rfl) Tryz.underlying22 ot3
theorem ot2:Z.OpenT Tryz.prog 2 (Z.Ty.int .i64):=Z.ot_int (by kernel_rfl) Tryz.underlying2
theorem ot9:Z.OpenT Tryz.prog 9 Z.Ty.str:=Z.ot_str (by kernel_rfl) Tryz.underlying9
theorem ot24:Z.OpenT Tryz.prog 24 T23:=Z.ot_struct (by kernel_rfl) Tryz.underlying24 ⟨rfl,ot3,rfl,ot2,rfl,ot9⟩
theorem ot26:Z.OpenT Tryz.prog 26 T25:=Z.ot_struct (by kernel_rfl) Tryz.underlying26 ⟨rfl,ot3,rfl,ot3,rfl,ot22,rfl,ot24,rfl,ot9,rfl,ot2,rfl,ot3⟩
theorem ot27:Z.OpenT Tryz.prog 27 T27:=Z.ot_array (c:=1) (by kernel_rfl) Tryz.underlying27 (by kernel_rfl) (show Z.OpenPs _ [(2,0),(2,1),(2,2),(2,3)] 0 _ from⟨rfl,ot2,rfl,ot2,rfl,ot2,rfl,ot2⟩)
theorem ot29:Z.OpenT Tryz.prog 29 T28:=Z.ot_struct (by kernel_rfl) Tryz.underlying29 ⟨rfl,ot2,rfl,ot3,rfl,ot27⟩
theorem ot44:Z.OpenT Tryz.prog 44 T43:=Z.ot_struct (by kernel_rfl) Tryz.underlying44 ⟨rfl,ot2,rfl,ot9⟩
theorem ot37:Z.OpenT Tryz.prog 37 (Z.Ty.slice T43):=Z.ot_slice (by kernel_rfl) Tryz.underlying37 ot44
theorem ot60:Z.OpenT Tryz.prog 60 T59:=Z.ot_struct (by kernel_rfl) Tryz.underlying60 ⟨rfl,ot3,rfl,ot29,rfl,ot37⟩
theorem ot5:Z.OpenT Tryz.prog 5 Z.Ty.byte:=Z.ot_byte (by kernel_rfl) Tryz.underlying5
set_option maxRecDepth 100000 in
theorem laid_met (os:Os)(args:Array Value):laidMetH Tryz.prog Rows.operEachRow.laid (({World.holding Tryz.prog os ⟨#[],#[],[]⟩with heap:=((World.holding Tryz.prog os ⟨#[],#[],[]⟩).heap.modify 1 (A.putCells A.tabF)).modify 2 (A.putCells A.tabA)}:World).forCall (fun _ _=>0) ⟨#[],args,[]⟩).memory:=by
 rw[MakeChecks.laidMetH_plain _ _ _ (by kernel_rfl)]
 exact(LaidIn.of_run (l:=Rows.operEachRow.laid) [2,1] 8 (by kernel_rfl) (by kernel_rfl) (by kernel_rfl) (by kernel_rfl)).met
theorem of_laid {W:World}(h:laidMetH Tryz.prog Rows.operEachRow.laid W):Lib.Utf8Tabs 1 2 W:=by
 rw[MakeChecks.laidMetH_plain _ _ _ (by kernel_rfl)]at h
 have h1:=Lib.laidMet.reads h (.tail _ (.head _))
 rw[show Rows.laid_unicode_utf8_first=Lib.firstData from Pinned.utf8First_eq]at h1
 have h2:=Lib.laidMet.reads h (.head _)
 rw[show(Rows.laid_unicode_utf8_acceptRanges:DataW Unit)=Lib.acceptData by kernel_rfl]at h2
 exact utf8Tabs_of_readsT (U8Types.of196 Tryz.laysValid) ⟨by kernel_rfl,by kernel_rfl,by kernel_rfl,by kernel_rfl,by kernel_rfl,by kernel_rfl,by kernel_rfl⟩ h1 h2
set_option maxHeartbeats 1000000 in
set_option maxRecDepth 100000 in
theorem lifted (os:Os)(started:os.Started)(H:Type)(enc:TypeId×Value→H):
  ReturnsInHanded {} Tryz.checked os 5 .any (fun w args=>(Rows.operEachSpec.pre enc Tryz.prog Tryz.f5 [] false w args∧laidMetH Tryz.prog Rows.operEachRow.laid w)∧sizedMet enc Tryz.prog Tryz.f5 (OpenSpec.ofChange Rows.operEachSpec) false w args) (Rows.operEachSpec.post enc Tryz.prog Tryz.f5 false true false false):=by
 refine A.handS (C:=Tryz.checked) (X:=fun w _=>laidMetH Tryz.prog Rows.operEachRow.laid w) (fun _ _ _ hh h=>h.of_heap hh) own started (by kernel_rfl) Tryz.func5
  (ChangeSpec.witness_shaped (enc:=enc) (C:=Tryz.checked) (os:=os) (X:=fun w _=>laidMetH Tryz.prog Rows.operEachRow.laid w) false ({World.holding Tryz.prog os ⟨#[],#[],[]⟩with heap:=((World.holding Tryz.prog os ⟨#[],#[],[]⟩).heap.modify 1 (A.putCells A.tabF)).modify 2 (A.putCells A.tabA)}) #[.agg #[.int .i64 0,.int .i64 0,.slice none 0 0,.int .i64 0,.int .i64 0,.string (ByteArray.mk #[]),.string (ByteArray.mk #[]),.int .i64 0,.int .i64 0],.agg #[.int .i64 0,.int .i64 0,.int .i64 0,.int .i64 0,.int .i64 0,.int .i64 0,.int .i64 0,.slice none 0 0],.int .u8 0] 16 rfl (World.shaped_of_RefB (by kernel_rfl) (by kernel_rfl)) (by kernel_rfl) (by kernel_rfl) (by kernel_rfl) (laid_met os _)) ?_
 intro W base args ds gs before hval0 hW hL hsh
 obtain⟨mx,hmx⟩: ∃m,W.cell? ⟨0,0,none⟩=some (.int .i64 m):=cell_of_shapedOpen_int (t:=3) (zero:=#[.int .i64 0]) hsh (of_decide_eq_true (by kernel_rfl)) (by kernel_rfl) (by kernel_rfl) (by kernel_rfl) (by kernel_rfl) Tryz.underlying3
 have hval: ∀(j:Nat) t v,Tryz.f5.params[j]?=some t→args[j]?=some v→Value.okWide Tryz.prog W .any base t v:=hval0
 have hW':=hW
 obtain⟨p,q,hA0,hV,rfl,hfz,hnd⟩:=hW
 have hA:DataW.TrodAll enc Tryz.prog W 0 (fun _=>true) true Tryz.f5.params.toList args.toList ds p:=hA0
 rw[Tryz.params5]at hA hval
 obtain⟨v0,vs0,d0,ds0,p0,q0,hargs,rfl,rfl,h0,r0⟩:=trodAll_cons hA
 obtain⟨v1,vs1,d1,ds1,p1,q1,rfl,rfl,rfl,h1,r1⟩:=trodAll_cons r0
 obtain⟨v2,vs2,d2,ds2,p2,q2,rfl,rfl,rfl,h2,r2⟩:=trodAll_cons r1
 obtain⟨rfl,rfl,rfl⟩:=trodAll_nil r2
 obtain rfl:args=#[v0,v1,v2]:=by cases args;simp_all
 obtain⟨rfl,rfl⟩:=trodVars_none hV
 have k0:=h0
 have lt0: ∀x∈p0,x.block<W.heap.size:=by obtain⟨m,hm⟩:=k0;exact DataW.trod_lt m _ _ _ hm
 obtain⟨fu0,hf0⟩:=h0
 obtain⟨x0,hx0⟩:=ot26.2 _ _ _ _ _ _ _ _ _ hf0
 obtain⟨cs0,rfl,_⟩:=okWide_struct Tryz.underlying26 (hval 0 26 v0 rfl rfl)
 replace hx0:T25.rep W (Z.nt []) cs0.toList x0:=hx0
 have hok0:=Z.rep_ok _ hx0
 obtain⟨ca1,cb2,he3,hr4,hr5⟩:=hx0
 have he6:=hr4.1
 obtain⟨ca7,cb8,he9,hr10,hr11⟩:=hr5
 have he12:=hr10.1
 obtain⟨ca13,cb14,he15,hr16,hr17⟩:=hr11
 obtain⟨A18,c19,he20,hn21,hn22⟩:=Z.rep_slice hr16
 rw[he20]at hr16
 have hle_A18:=Z.rep_le hr16
 obtain⟨ca23,cb24,he25,hr26,hr27⟩:=hr17
 obtain⟨ca28,cb29,he30,hr31,hr32⟩:=hr26
 have he33:=hr31.1
 obtain⟨ca34,cb35,he36,hr37,hr38⟩:=hr32
 have he39:=hr37.1
 have he40:=hr38.1
 obtain⟨ca41,cb42,he43,hr44,hr45⟩:=hr27
 have he46:=hr44.1
 obtain⟨ca47,cb48,he49,hr50,hr51⟩:=hr45
 have he52:=hr50.1
 have he53:=hr51.1
 have he0:cs0.toList=[.int .i64 x0.1,.int .i64 x0.2.1,.slice A18 x0.2.2.1.length c19,.int .i64 x0.2.2.2.1.1,.int .i64 x0.2.2.2.1.2.1,.string x0.2.2.2.1.2.2,.string x0.2.2.2.2.1,.int .i64 x0.2.2.2.2.2.1,.int .i64 x0.2.2.2.2.2.2]:=by simp only[he3,he6,he9,he12,he15,he20,he25,he30,he33,he36,he39,he40,he43,he46,he49,he52,he53,List.cons_append,List.nil_append]
 obtain rfl:cs0=#[.int .i64 x0.1,.int .i64 x0.2.1,.slice A18 x0.2.2.1.length c19,.int .i64 x0.2.2.2.1.1,.int .i64 x0.2.2.2.1.2.1,.string x0.2.2.2.1.2.2,.string x0.2.2.2.2.1,.int .i64 x0.2.2.2.2.2.1,.int .i64 x0.2.2.2.2.2.2]:=by rw[←Array.toArray_toList (xs:=cs0),he0]
 have k1:=h1
 have lt1: ∀x∈p1,x.block<W.heap.size:=by obtain⟨m,hm⟩:=k1;exact DataW.trod_lt m _ _ _ hm
 obtain⟨fu1,hf1⟩:=h1
 obtain⟨x1,hx1⟩:=ot60.2 _ _ _ _ _ _ _ _ _ hf1
 obtain⟨cs1,rfl,_⟩:=okWide_struct Tryz.underlying60 (hval 1 60 v1 rfl rfl)
 replace hx1:T59.rep W (Z.nt []) cs1.toList x1:=hx1
 have hok1:=Z.rep_ok _ hx1
 obtain⟨ca54,cb55,he56,hr57,hr58⟩:=hx1
 have he59:=hr57.1
 obtain⟨ca60,cb61,he62,hr63,hr64⟩:=hr58
 obtain⟨ca65,cb66,he67,hr68,hr69⟩:=hr63
 have he70:=hr68.1
 obtain⟨ca71,cb72,he73,hr74,hr75⟩:=hr69
 have he76:=hr74.1
 obtain⟨ca77,cb78,he79,hr80,hr81⟩:=hr75
 have he82:=hr80.1
 obtain⟨ca83,cb84,he85,hr86,hr87⟩:=hr81
 have he88:=hr86.1
 obtain⟨ca89,cb90,he91,hr92,hr93⟩:=hr87
 have he94:=hr92.1
 have he95:=hr93.1
 obtain⟨A96,c97,he98,hn99,hn100⟩:=Z.rep_slice hr64
 rw[he98]at hr64
 have hle_A96:=Z.rep_le hr64
 have he1:cs1.toList=[.int .i64 x1.1,.int .i64 x1.2.1.1,.int .i64 x1.2.1.2.1,.int .i64 x1.2.1.2.2.1,.int .i64 x1.2.1.2.2.2.1,.int .i64 x1.2.1.2.2.2.2.1,.int .i64 x1.2.1.2.2.2.2.2,.slice A96 x1.2.2.length c97]:=by simp only[he56,he59,he62,he67,he70,he73,he76,he79,he82,he85,he88,he91,he94,he95,he98,List.cons_append,List.nil_append]
 obtain rfl:cs1=#[.int .i64 x1.1,.int .i64 x1.2.1.1,.int .i64 x1.2.1.2.1,.int .i64 x1.2.1.2.2.1,.int .i64 x1.2.1.2.2.2.1,.int .i64 x1.2.1.2.2.2.2.1,.int .i64 x1.2.1.2.2.2.2.2,.slice A96 x1.2.2.length c97]:=by rw[←Array.toArray_toList (xs:=cs1),he1]
 have k2:=h2
 have lt2: ∀x∈p2,x.block<W.heap.size:=by obtain⟨m,hm⟩:=k2;exact DataW.trod_lt m _ _ _ hm
 obtain⟨fu2,hf2⟩:=h2
 obtain⟨x2,hx2⟩:=ot5.2 _ _ _ _ _ _ _ _ _ hf2
 obtain⟨u2,rfl⟩:=okWide_int Tryz.underlying5 (hval 2 5 v2 rfl rfl)
 have he2:=hx2
 replace he2:u2=(x2.toNat:Int):=by simpa[Value.cells,Z.Ty.rep] using he2
 subst he2
 clear hA0 hval0
 have htab:=of_laid hL
 have hF:F.L17_OperEach x0 x1 x2=some true:=operEach_plain x0 x1 x2 hok0 hok1 trivial
 have hct:=L17_OperEach_ok x0 x1 x2 A18 c19 A96 c97 mx hok0.1 hok0.2.1 hok0.2.2.2.1.1 hok0.2.2.2.1.2.1 hok0.2.2.2.1.2.2 hok0.2.2.2.2.1 hok0.2.2.2.2.2.1 hok0.2.2.2.2.2.2 hok1.1 hok1.2.1.1 hok1.2.1.2.1 hok1.2.1.2.2.1 hok1.2.1.2.2.2.1 hok1.2.1.2.2.2.2.1 hok1.2.1.2.2.2.2.2 true hF
 refine(hct W (fun _=>True) (A.Hp.start ⟨A.Hall.sh hr16,A.Hall.sh hr64,A.Hall.tabs3 htab hmx⟩)).mono ?_
 rintro e W' ⟨v,H',rfl,⟨rfl,rfl⟩,hh⟩
 have bel:=hh.ch.below
 exact⟨_,rfl,_,_,_,[],_,[],hW',trodAll_mk1 (shut_bool Tryz.underlying4 _),(trodAll_cons_mk (Below.trod laidOut (by kernel_rfl) (of_decide_eq_true (by kernel_rfl)) k0 bel lt0) (trodAll_cons_mk (Below.trod laidOut (by kernel_rfl) (of_decide_eq_true (by kernel_rfl)) k1 bel lt1) (trodAll_cons_mk (Below.trod laidOut (by kernel_rfl) (of_decide_eq_true (by kernel_rfl)) k2 bel lt2) trodAll_mk0))),rfl,bel.frame _,fun h=>by cases h⟩
theorem over:Rows.operEachRow.holds Tryz.pinned (OpenSpec.ofChange Rows.operEachSpec):=
 OpenClaim.holds_of_wide 5 Tryz.f5 rfl rfl rfl rfl rfl rfl rfl ⟨rfl,rfl,rfl,rfl,rfl⟩ rfl rfl rfl rfl rfl (by kernel_rfl) Tryz.func5 (by kernel_rfl)
  (of_decide_eq_true (by kernel_rfl)) (by unfold Func.isWrapper;first|(rw[if_pos (by decide+kernel)];kernel_rfl)|(rw[if_neg (by decide+kernel)];exact⟨rfl,rfl⟩))
  (fun os started H enc _=>lifted os started H enc)
theorem proved:Rows.OperEachCardSaid:=
 Claim7.holds_tied_plain_at .later [] [.data,.pinned] true (true,"3625bcd9b745fe139b92f791089984ce2930baf8856179a1ac346a61d49a712d") false
  over (fun _ h=>by cases h) (by kernel_rfl) (fun _ h=>by cases h) operEach_row_tie rfl ⟨rfl,rfl⟩ (by kernel_rfl) rfl
  (fun f fn hf hfn=>by
   obtain rfl:f=5:=Option.some.inj ((show Tryz.prog.funcNamed Rows.operEachRow.func=some 5 by kernel_rfl).symm.trans hf) |>.symm
   obtain rfl:fn=Tryz.f5:=(Option.some.inj (Tryz.func5.symm.trans hfn)).symm
   exact⟨by kernel_rfl,fun j t ht=>by
    rw[Tryz.params5]at ht
    have hm:t∈[26,60,5]:=by simpa using Array.mem_of_getElem? ht
    have hall:([26,60,5].all fun u=> !Tryz.prog.wantsStandIn u)=true:=by kernel_rfl
    exact(show Tryz.prog.wantsStandIn t=false by simpa using List.all_eq_true.1 hall t hm)⟩)
  (by kernel_rfl)
#print axioms proved
end Go.Proofs.YtbljnlkhebiniaaGreatDoor.operEachDone
end
