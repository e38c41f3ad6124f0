/- Functions on data, and that the code computes them. * A layer over the small logic, continued: where a law's walk begins. No program in sight. * Plain law of graphs: what the reference and the program say of graphs, as functions on data (no program in sight). * Plain: rounds by a count of steps are recursion over a list. * Plain: a text's bytes by the model's decoder. * Plain: what a text's bytes are, by the reference and by the model's decoder. * Plain: functions of nodes may be; a node for itself. * Plain: a text as runes, each with its bytes. No program in sight. * Plain: a text's runes by the program and by the reference; texts cut. * Plain: a row turned round; a text in capitals; parts of a text. * Plain: what a function of records makes of one, by the program and by the reference. -/
import Derived.Test.YtfpemeeadiigcaaDoorL0
import Derived.Test.YtfpemeeadiigcaaDoorL1
import Derived.Test.YtfpemeeadiigcaaDoorL2
import Derived.Lib.TrimUEq
import Derived.Lib.MapLaws
import Derived.Lib.ValidU
import Derived.Laws.Cover4
section
set_option linter.unusedVariables false
set_option linter.unusedSimpArgs false
set_option maxRecDepth 20000
set_option maxHeartbeats 8000000
set_option synthInstance.maxSize 1000000
set_option synthInstance.maxHeartbeats 400000
namespace Go.Proofs.YtfpemeeadiigcaaDoor
open Go.RowKit
def F.slices_Equal_api_Entry_api_Entry_l1 (a0:(List D38))(a1:(List D38)):Nat→Int→Option Bool
 |0,_=>none
 |f+1,y1=>if y1<((a0).length:Int)then((A.ix a0 y1).bind fun x4=>((A.ix a1 y1).bind fun x10=>(if(x4.1,x4.2.1,x4.2.2.1,x4.2.2.2)≠(x10.1,x10.2.1,x10.2.2.1,x10.2.2.2)then(some false)else(A.gd (Z.R64 (y1+1)) ((F.slices_Equal_api_Entry_api_Entry_l1 a0 a1 f) (y1+1))))))else(some true)
def F.slices_Equal_api_Entry_api_Entry (a0:(List D38))(a1:(List D38)):Option Bool:=if((a0).length:Int)≠((a1).length:Int)then(some false)else(F.slices_Equal_api_Entry_api_Entry_l1 a0 a1 A.FU 0)
theorem slices_Equal_api_Entry_api_Entry_ok (a0:(List D38))(a1:(List D38))(A0_:Option Addr)(c1_:Nat)(A2_:Option Addr)(c3_:Nat)(r:Bool)(hF:F.slices_Equal_api_Entry_api_Entry a0 a1=some r):
    A.Ct Tryd.prog 15 [.slice A0_ ((a0).length) c1_,.slice A2_ ((a1).length) c3_] [(0,.ln T38 A0_ c1_ a0),(1,.ln T38 A2_ c3_ a1)] [] (fun v H'=>v=.bool r∧H'=[]):=by
 refine A.Ct.enter Tryd.func15 rfl Tryd.ntmps15 rfl fun w0 F0=>?_
 rw[F.slices_Equal_api_Entry_api_Entry]at hF
 refine A.xl 1 ?_
 refine A.q0 [] [] [.n] [] ?_
 refine A.dl 3 ?_
 refine A.q0 [] [] [.n,.n,.n,.n,.n] [(10,.bool (decide (((a0).length:Int)≠((a1).length:Int))))] ?_
 refine A.dx 1 ?_
 refine A.AX.cnd rfl hF (fun hb hF=>?_) (fun hb hF=>?_)
 ·refine A.xl 1 ?_
  refine A.q0 [] [] [.n] [(4,.bool false)] ?_
  refine A.dx 1 ?_
  obtain rfl:=Option.some.inj hF
  exact A.rt1 [] ⟨rfl,rfl⟩
 refine A.xl 4 ?_
 refine A.q0 [] [] [.n,.n,.n] [(12,.int .i64 ((a0).length:Int)),(13,.int .i64 0)] ?_
 refine A.dx 2 ?_
 refine A.lp_ [0,1,12] [0,1] (fun f nl nh=>∃(y1:Int),nl=[(13,.int .i64 y1)]∧nh=[]∧IntKind.i64.has y1∧F.slices_Equal_api_Entry_api_Entry_l1 a0 a1 f y1=some r) ⟨0,rfl,rfl,(A.hasl .i64 (0) rfl),hF⟩ ?_
 rintro f3 _ _ ⟨y1,rfl,rfl,hy2,hF⟩
 rcases f3 with _|f3
 ·exact A.no0 hF
 rw[F.slices_Equal_api_Entry_api_Entry_l1]at hF
 refine A.xl 1 ?_
 refine A.q0 [] [] [.n] [(14,.bool (decide (y1<((a0).length:Int))))] ?_
 refine A.dx 2 ?_
 refine A.AX.cnd rfl hF (fun hb hF=>?_) (fun hb hF=>?_)
 ·refine A.xl 5 ?_
  refine A.q0 [] [] [.n,.n] [(5,.int .i64 y1)] ?_
  refine A.dx 2 ?_
  refine A.AX.dr mixed 9 9 (A.mb 9 0) ?_
  refine A.hq A.pb [] [0,1] [] [] (A.mb 9 51) 5 [(0,.n),(1,.n),(4,.n),(5,.n)] [(16,.slice A0_ ((a0).length) c1_),(17,.int .i64 y1),(20,.slice A2_ ((a1).length) c3_),(21,.int .i64 y1)] ?_
  obtain⟨x4,hv5,hF⟩:=A.bd_some hF
  refine A.AH.pkl 0 6 hv5 fun ho6=>?_
  intro b8 o9 hA7
  refine A.AH.v A.pb [0,1] [0,1,6] 2 (A.mb 9 55) rfl (fun a w hf hh=>A.r_ixa (t:=T38) hv5 hA7 hf) ?_
  refine A.hq A.pb [0,1,6] [0,1,6] [] [6] (A.mb 9 63) 3 [(3,.e 0 0)] [(19,.agg #[.int .i64 x4.1,.int .i64 x4.2.1,.string x4.2.2.1,.int .i64 x4.2.2.2])] ?_
  obtain⟨x10,hv11,hF⟩:=A.bd_some hF
  refine A.AH.pkl 1 7 hv11 fun ho12=>?_
  intro b14 o15 hA13
  refine A.AH.v A.pb [0,1,6] [0,1,6,7] 6 (A.mb 9 127) rfl (fun a w hf hh=>A.r_ixa (t:=T38) hv11 hA13 hf) ?_
  refine A.hq A.pb [0,1,6,7] [0,1,6,7] [] [7] (A.mb 9 255) 1 [(7,.e 0 0)] [(23,.agg #[.int .i64 x10.1,.int .i64 x10.2.1,.string x10.2.2.1,.int .i64 x10.2.2.2])] ?_
  refine A.AH.v A.pb [0,1,6,7] [0,1,6,7] 8 (A.mb 9 511) rfl (fun a w hf hh=>eqagg_neq39 (x:=(x4.1,x4.2.1,x4.2.2.1,x4.2.2.2)) (y:=(x10.1,x10.2.1,x10.2.2.1,x10.2.2.2)) (hf.eval rfl) (hf.eval rfl)) ?_
  refine A.AH.done ?_
  refine A.ex 1 ?_
  refine A.AX.cnd rfl hF (fun hb hF=>?_) (fun hb hF=>?_)
  ·refine A.xl 1 ?_
   refine A.q0 [] [] [.n] [(4,.bool false)] ?_
   refine A.dx 1 ?_
   obtain rfl:=Option.some.inj hF
   exact A.rt1 [] ⟨rfl,rfl⟩
  refine A.xl 3 ?_
  obtain⟨hc16,hF⟩:=A.gd_some hF
  refine A.q [] [] [.n,.n] [Z.R64 (y1+1)] [(13,.int .i64 (y1+1))] hc16 ?_
  refine A.AL.done ?_
  exact A.j ⟨_,Nat.lt_succ_self _,⟨(y1+1),rfl,rfl,(Z.i64_has hc16),hF⟩⟩
 refine A.xl 3 ?_
 refine A.q0 [] [] [.n] [(4,.bool true)] ?_
 refine A.dx 1 ?_
 obtain rfl:=Option.some.inj hF
 exact A.rt1 [] ⟨rfl,rfl⟩
def F.L18_begun_j1 (y24:Bool):Option Bool:=some y24
def F.L18_begun_j2 (xs4:List D38)(y5:Int):Option Bool:=(F.L18_total 4).bind fun r7=>((F.schema_Migrate (r7.1,r7.2.1,r7.2.2.1,(r7.2.2.2.1.1,r7.2.2.2.1.2.1,r7.2.2.2.1.2.2),r7.2.2.2.2.1,r7.2.2.2.2.2.1,r7.2.2.2.2.2.2) (3,4,3,0,(6,2,ByteArray.mk #[])) [(3,1,ByteArray.mk #[],5),(3,2,ByteArray.mk #[],7),(3,3,ByteArray.mk #[],1)]).bind fun r19=>(if y5=0 then((F.slices_Equal_api_Entry_api_Entry xs4 [(4,1,ByteArray.mk #[],15)]).bind fun r26=>(if(bif r26 then decide (r19.2=0)else false)=true then((F.slices_Equal_api_Entry_api_Entry r19.1 [(4,0,ByteArray.mk #[],7),(4,1,ByteArray.mk #[],6)]).bind fun r29=>(F.L18_begun_j1 r29))else(F.L18_begun_j1 false)))else(F.L18_begun_j1 false)))
def F.L18_begun:Option Bool:=(A.ix [(3,1,ByteArray.mk #[],5),(3,2,ByteArray.mk #[],7),(3,3,ByteArray.mk #[],1)] 0).bind fun x31=>((F.L18_total 4).bind fun r36=>((F.schema_Migrate (r36.1,r36.2.1,r36.2.2.1,(r36.2.2.2.1.1,r36.2.2.2.1.2.1,r36.2.2.2.1.2.2),r36.2.2.2.2.1,r36.2.2.2.2.2.1,r36.2.2.2.2.2.2) (3,4,2,3,(0,0,ByteArray.mk #[])) [(x31.1,x31.2.1,x31.2.2.1,x31.2.2.2)]).bind fun r396=>(F.L18_begun_j2 r396.1 r396.2)))
theorem L18_begun_ok (r:Bool)(hF:F.L18_begun=some r):
    A.Ct Tryd.prog 7 [] [(0,.el none 0 0 A.tabF),(1,.el none 1 0 A.tabA)] [] (fun v H'=>v=.bool r∧H'=[]):=by
 refine A.Ct.enter Tryd.func7 rfl Tryd.ntmps7 rfl fun w0 F0=>?_
 rw[F.L18_begun]at hF
 refine A.xl 1 ?_
 refine A.q0 [] [] [.n] [] ?_
 refine A.dl 2 ?_
 refine A.q0 [] [] [.n,.n,.n] [(6,.agg #[.int .i64 3,.int .i64 1,.string (ByteArray.mk #[]),.int .i64 5]),(7,.agg #[.int .i64 3,.int .i64 2,.string (ByteArray.mk #[]),.int .i64 7]),(8,.agg #[.int .i64 3,.int .i64 3,.string (ByteArray.mk #[]),.int .i64 1])] ?_
 refine A.AL.bsl 2 (ty:=T38) (cs:=[.int .i64 3,.int .i64 1,.string (ByteArray.mk #[]),.int .i64 5,.int .i64 3,.int .i64 2,.string (ByteArray.mk #[]),.int .i64 7,.int .i64 3,.int .i64 3,.string (ByteArray.mk #[]),.int .i64 1]) [(3,1,ByteArray.mk #[],5),(3,2,ByteArray.mk #[],7),(3,3,ByteArray.mk #[],1)] ⟨⟨⟨rfl,(A.hasl .i64 (3) rfl)⟩,⟨rfl,(A.hasl .i64 (1) rfl)⟩,⟨rfl,(A.szl (ByteArray.mk #[]) rfl)⟩,⟨rfl,(A.hasl .i64 (5) rfl)⟩⟩,⟨⟨⟨rfl,(A.hasl .i64 (3) rfl)⟩,⟨rfl,(A.hasl .i64 (2) rfl)⟩,⟨rfl,(A.szl (ByteArray.mk #[]) rfl)⟩,⟨rfl,(A.hasl .i64 (7) rfl)⟩⟩,⟨⟨⟨rfl,(A.hasl .i64 (3) rfl)⟩,⟨rfl,(A.hasl .i64 (3) rfl)⟩,⟨rfl,(A.szl (ByteArray.mk #[]) rfl)⟩,⟨rfl,(A.hasl .i64 (1) rfl)⟩⟩,rfl⟩⟩⟩ (fun g1=>?_) Tryd.zeroValue39 Tryd.sizeOf39
 refine A.q0 [] [] [.n] [(1,.slice (some ⟨g1,0,none⟩) 3 3)] ?_
 refine A.dx 1 ?_
 refine A.AX.join [1] [0,1,2] (fun nl nh=>∃(xs4:List D38),∃(y5:Int),∃(A2:Option Addr),∃(c3:Nat),nl=[(2,.slice A2 ((xs4).length) c3),(3,.int .i64 y5)]∧nh=[(184,.own T38 39 A2 c3 xs4)]∧IntKind.i64.has y5∧F.L18_begun_j2 xs4 y5=some r) ?_ ?_
 ·refine A.AX.dr mixed 12 12 (A.mb 12 0) ?_
  refine A.hq A.pb [] [0,1,2] [] [] (A.mb 12 6) 10 [(1,.n),(2,.n)] [(12,.agg #[.int .i64 3,.int .i64 4,.int .i64 2,.int .i64 3,.int .i64 0,.int .i64 0,.string (ByteArray.mk #[])]),(13,.slice (some ⟨g1,0,none⟩) 3 3)] ?_
  obtain⟨x31,hv32,hF⟩:=A.bd_some hF
  refine A.AH.pko 2 3 hv32 fun ho33=>?_
  intro g35 hA34
  refine A.AH.v A.pb [0,1,2] [0,1,2,3] 3 (A.mb 12 14) rfl (fun a w hf hh=>A.r_ixo (t:=T38) hv32 hA34 hf) ?_
  refine A.hq A.pb [0,1,2,3] [0,1,2,3] [] [3] (A.mb 12 30) 8 [(4,.e 0 0)] [(15,.agg #[.int .i64 x31.1,.int .i64 x31.2.1,.string x31.2.2.1,.int .i64 x31.2.2.2])] ?_
  refine A.AH.two 0 5 ?_ ?_
  ·obtain⟨r36,hv37,hF⟩:=A.bd_some hF
   refine A.AL.call 4 [] (first:=[]) (cap:=[]) cf18 (L18_total_ok 4 (A.hasl .i64 (4) rfl) r36 hv37) .nil ?_
   rintro _ _ ⟨A40,c41,rfl,rfl,hr38,hr39,hr42,hr43,hr44,hr45,hr46,hr47⟩
   refine⟨by kernel_rfl,?_⟩
   refine A.AH.nx (A.mb 12 31) [0,1,2,3] ?_
   refine A.AH.one 5 ?_
   refine A.AL.bsl 154 (ty:=T38) (cs:=[.int .i64 x31.1,.int .i64 x31.2.1,.string x31.2.2.1,.int .i64 x31.2.2.2]) [(x31.1,x31.2.1,x31.2.2.1,x31.2.2.2)] ⟨⟨⟨rfl,ho33.1⟩,⟨rfl,ho33.2.1⟩,⟨rfl,ho33.2.2.1⟩,⟨rfl,ho33.2.2.2⟩⟩,rfl⟩ (fun g336=>?_) Tryd.zeroValue39 Tryd.sizeOf39
   refine A.AH.nx (A.mb 12 63) [0,1,2,3] ?_
   refine A.AH.one 6 ?_
   obtain⟨r396,hv397,hF⟩:=A.bd_some hF
   refine A.AL.call 184 [] (first:=[]) (cap:=[]) cf9 (schema_Migrate_ok (r36.1,r36.2.1,r36.2.2.1,(r36.2.2.2.1.1,r36.2.2.2.1.2.1,r36.2.2.2.1.2.2),r36.2.2.2.2.1,r36.2.2.2.2.2.1,r36.2.2.2.2.2.2) (3,4,2,3,(0,0,ByteArray.mk #[])) [(x31.1,x31.2.1,x31.2.2.1,x31.2.2.2)] A40 c41 (some ⟨g336,0,none⟩) 1 hr38 hr39 hr42 hr43 hr44 hr45 hr46 hr47 (A.hasl .i64 (3) rfl) (A.hasl .i64 (4) rfl) (A.hasl .i64 (2) rfl) (A.hasl .i64 (3) rfl) (A.hasl .i64 (0) rfl) (A.hasl .i64 (0) rfl) (A.szl (ByteArray.mk #[]) rfl) r396 hv397) (.s 4 (.o 154 (.s 0 (.s 1 .nil)))) ?_
   rintro _ _ ⟨A398,c399,rfl,rfl,hr400⟩
   refine⟨by kernel_rfl,?_⟩
   refine A.AH.nx (A.mb 12 127) [0,1,2,3] ?_
   refine A.hq A.pb [0,1,2,3] [0,1,2,3,4,154,184] [] [] (A.mb 12 4095) 0 [(7,.n),(8,.n),(9,.n),(10,.n),(11,.n)] [(2,.slice A398 ((r396.1).length) c399),(3,.int .i64 r396.2)] ?_
   refine A.AH.done ?_
   exact A.j ⟨r396.1,r396.2,A398,c399,rfl,rfl,hr400,hF⟩
  refine A.AL.bsl 154 (ty:=T38) (cs:=[.int .i64 x31.1,.int .i64 x31.2.1,.string x31.2.2.1,.int .i64 x31.2.2.2]) [(x31.1,x31.2.1,x31.2.2.1,x31.2.2.2)] ⟨⟨⟨rfl,ho33.1⟩,⟨rfl,ho33.2.1⟩,⟨rfl,ho33.2.2.1⟩,⟨rfl,ho33.2.2.2⟩⟩,rfl⟩ (fun g336=>?_) Tryd.zeroValue39 Tryd.sizeOf39
  refine A.AH.nx (A.mb 12 62) [0,1,2,3] ?_
  refine A.AH.one 0 ?_
  obtain⟨r36,hv37,hF⟩:=A.bd_some hF
  refine A.AL.call 4 [] (first:=[]) (cap:=[]) cf18 (L18_total_ok 4 (A.hasl .i64 (4) rfl) r36 hv37) .nil ?_
  rintro _ _ ⟨A40,c41,rfl,rfl,hr38,hr39,hr42,hr43,hr44,hr45,hr46,hr47⟩
  refine⟨by kernel_rfl,?_⟩
  refine A.AH.nx (A.mb 12 63) [0,1,2,3] ?_
  refine A.AH.one 6 ?_
  obtain⟨r396,hv397,hF⟩:=A.bd_some hF
  refine A.AL.call 184 [] (first:=[]) (cap:=[]) cf9 (schema_Migrate_ok (r36.1,r36.2.1,r36.2.2.1,(r36.2.2.2.1.1,r36.2.2.2.1.2.1,r36.2.2.2.1.2.2),r36.2.2.2.2.1,r36.2.2.2.2.2.1,r36.2.2.2.2.2.2) (3,4,2,3,(0,0,ByteArray.mk #[])) [(x31.1,x31.2.1,x31.2.2.1,x31.2.2.2)] A40 c41 (some ⟨g336,0,none⟩) 1 hr38 hr39 hr42 hr43 hr44 hr45 hr46 hr47 (A.hasl .i64 (3) rfl) (A.hasl .i64 (4) rfl) (A.hasl .i64 (2) rfl) (A.hasl .i64 (3) rfl) (A.hasl .i64 (0) rfl) (A.hasl .i64 (0) rfl) (A.szl (ByteArray.mk #[]) rfl) r396 hv397) (.s 4 (.o 154 (.s 0 (.s 1 .nil)))) ?_
  rintro _ _ ⟨A398,c399,rfl,rfl,hr400⟩
  refine⟨by kernel_rfl,?_⟩
  refine A.AH.nx (A.mb 12 127) [0,1,2,3] ?_
  refine A.hq A.pb [0,1,2,3] [0,1,2,3,4,154,184] [] [] (A.mb 12 4095) 0 [(7,.n),(8,.n),(9,.n),(10,.n),(11,.n)] [(2,.slice A398 ((r396.1).length) c399),(3,.int .i64 r396.2)] ?_
  refine A.AH.done ?_
  exact A.j ⟨r396.1,r396.2,A398,c399,rfl,rfl,hr400,hF⟩
 rintro _ _ ⟨xs4,y5,A2,c3,rfl,rfl,hy6,hF⟩
 rw[F.L18_begun_j2]at hF
 refine A.xl 1 ?_
 obtain⟨r7,hv8,hF⟩:=A.bd_some hF
 refine A.AL.call 364 [] (first:=[]) (cap:=[]) cf18 (L18_total_ok 4 (A.hasl .i64 (4) rfl) r7 hv8) .nil ?_
 rintro _ _ ⟨A11,c12,rfl,rfl,hr9,hr10,hr13,hr14,hr15,hr16,hr17,hr18⟩
 refine⟨by kernel_rfl,?_⟩
 refine A.q0 [] [] [.n,.n,.n] [(23,.agg #[.int .i64 3,.int .i64 4,.int .i64 3,.int .i64 0,.int .i64 6,.int .i64 2,.string (ByteArray.mk #[])]),(24,.slice (some ⟨g1,0,none⟩) 3 3)] ?_
 obtain⟨r19,hv20,hF⟩:=A.bd_some hF
 refine A.AL.call 404 [] (first:=[]) (cap:=[]) cf9 (schema_Migrate_ok (r7.1,r7.2.1,r7.2.2.1,(r7.2.2.2.1.1,r7.2.2.2.1.2.1,r7.2.2.2.1.2.2),r7.2.2.2.2.1,r7.2.2.2.2.2.1,r7.2.2.2.2.2.2) (3,4,3,0,(6,2,ByteArray.mk #[])) [(3,1,ByteArray.mk #[],5),(3,2,ByteArray.mk #[],7),(3,3,ByteArray.mk #[],1)] A11 c12 (some ⟨g1,0,none⟩) 3 hr9 hr10 hr13 hr14 hr15 hr16 hr17 hr18 (A.hasl .i64 (3) rfl) (A.hasl .i64 (4) rfl) (A.hasl .i64 (3) rfl) (A.hasl .i64 (0) rfl) (A.hasl .i64 (6) rfl) (A.hasl .i64 (2) rfl) (A.szl (ByteArray.mk #[]) rfl) r19 hv20) (.s 364 (.o 2 (.s 0 (.s 1 .nil)))) ?_
 rintro _ _ ⟨A21,c22,rfl,rfl,hr23⟩
 refine⟨by kernel_rfl,?_⟩
 refine A.q0 [] [] [.n,.n,.n,.n,.n] [(4,.slice A21 ((r19.1).length) c22),(5,.int .i64 r19.2)] ?_
 refine A.dx 1 ?_
 refine A.AX.join [] [0,1] (fun nl nh=>∃(y24:Bool),nl=[(0,.bool y24)]∧nh=[]∧F.L18_begun_j1 y24=some r) ?_ ?_
 ·refine A.xl 0 ?_
  refine A.q0 [] [] [.n,.n,.n] [(30,.bool (decide (y5=0)))] ?_
  refine A.AL.cnp (j:=30) rfl hF (fun hb hF=>?_) (fun hb hF=>?_)
  ·refine A.q0 [] [] [.on .n,.on .n] [(31,.slice A2 ((xs4).length) c3),(32,.agg #[.int .i64 4,.int .i64 1,.string (ByteArray.mk #[]),.int .i64 15])] ?_
   refine A.AL.on (dj:=30) rfl rfl ?_
   refine A.AL.bsl 444 (ty:=T38) (cs:=[.int .i64 4,.int .i64 1,.string (ByteArray.mk #[]),.int .i64 15]) [(4,1,ByteArray.mk #[],15)] ⟨⟨⟨rfl,(A.hasl .i64 (4) rfl)⟩,⟨rfl,(A.hasl .i64 (1) rfl)⟩,⟨rfl,(A.szl (ByteArray.mk #[]) rfl)⟩,⟨rfl,(A.hasl .i64 (15) rfl)⟩⟩,rfl⟩ (fun g25=>?_) Tryd.zeroValue39 Tryd.sizeOf39
   refine A.AL.on (dj:=30) rfl rfl ?_
   obtain⟨r26,hv27,hF⟩:=A.bd_some hF
   refine A.AL.call 445 [] (first:=[]) (cap:=[]) cf15 (slices_Equal_api_Entry_api_Entry_ok xs4 [(4,1,ByteArray.mk #[],15)] A2 c3 (some ⟨g25,0,none⟩) 1 r26 hv27) (.o 184 (.o 444 .nil)) ?_
   rintro _ _ ⟨rfl,rfl⟩
   refine⟨by kernel_rfl,?_⟩
   refine A.q0 [] [] [.n,.n,.sy .n,.sy .n,.pk,.n] [(40,.bool (bif r26 then decide (r19.2=0)else false))] ?_
   refine A.AL.cnd (j:=40) rfl hF (fun hF=>?_) (fun hF=>?_)
   ·refine A.q0 [] [] [.on .n,.on .n,.on .n] [(41,.slice A21 ((r19.1).length) c22),(42,.agg #[.int .i64 4,.int .i64 0,.string (ByteArray.mk #[]),.int .i64 7]),(43,.agg #[.int .i64 4,.int .i64 1,.string (ByteArray.mk #[]),.int .i64 6])] ?_
    refine A.AL.on (dj:=40) rfl rfl ?_
    refine A.AL.bsl 485 (ty:=T38) (cs:=[.int .i64 4,.int .i64 0,.string (ByteArray.mk #[]),.int .i64 7,.int .i64 4,.int .i64 1,.string (ByteArray.mk #[]),.int .i64 6]) [(4,0,ByteArray.mk #[],7),(4,1,ByteArray.mk #[],6)] ⟨⟨⟨rfl,(A.hasl .i64 (4) rfl)⟩,⟨rfl,(A.hasl .i64 (0) rfl)⟩,⟨rfl,(A.szl (ByteArray.mk #[]) rfl)⟩,⟨rfl,(A.hasl .i64 (7) rfl)⟩⟩,⟨⟨⟨rfl,(A.hasl .i64 (4) rfl)⟩,⟨rfl,(A.hasl .i64 (1) rfl)⟩,⟨rfl,(A.szl (ByteArray.mk #[]) rfl)⟩,⟨rfl,(A.hasl .i64 (6) rfl)⟩⟩,rfl⟩⟩ (fun g28=>?_) Tryd.zeroValue39 Tryd.sizeOf39
    refine A.AL.on (dj:=40) rfl rfl ?_
    obtain⟨r29,hv30,hF⟩:=A.bd_some hF
    refine A.AL.call 486 [] (first:=[]) (cap:=[]) cf15 (slices_Equal_api_Entry_api_Entry_ok r19.1 [(4,0,ByteArray.mk #[],7),(4,1,ByteArray.mk #[],6)] A21 c22 (some ⟨g28,0,none⟩) 2 r29 hv30) (.o 404 (.o 485 .nil)) ?_
    rintro _ _ ⟨rfl,rfl⟩
    refine⟨by kernel_rfl,?_⟩
    refine A.q0 [] [] [.n,.n] [(0,.bool r29)] ?_
    refine A.AL.done ?_
    exact A.j ⟨r29,rfl,rfl,hF⟩
   refine A.q0 [] [] [.off,.off,.off,.off,.off,.n,.n] [(0,.bool false)] ?_
   refine A.AL.done ?_
   exact A.j ⟨false,rfl,rfl,hF⟩
  refine A.q0 [] [] [.off,.off,.off,.off,.n,.n,.off,.off,.n,.n,.off,.off,.off,.off,.off,.n,.n] [(0,.bool false)] ?_
  refine A.AL.done ?_
  exact A.j ⟨false,rfl,rfl,hF⟩
 rintro _ _ ⟨y24,rfl,rfl,hF⟩
 rw[F.L18_begun_j1]at hF
 obtain rfl:=Option.some.inj hF
 exact A.rt1 [] ⟨rfl,rfl⟩
def F.R18_Same_l1 (a0:(List D38))(a1:(List D38)):Nat→Int→Option Bool
 |0,_=>none
 |f+1,y1=>if y1<((a0).length:Int)then((A.ix a0 y1).bind fun x4=>((A.ix a1 y1).bind fun x10=>(if(x4.1,x4.2.1,x4.2.2.1,x4.2.2.2)≠(x10.1,x10.2.1,x10.2.2.1,x10.2.2.2)then(some false)else(A.gd (Z.R64 (y1+1)) ((F.R18_Same_l1 a0 a1 f) (y1+1))))))else(some true)
def F.R18_Same (a0:(List D38))(a1:(List D38)):Option Bool:=if((a0).length:Int)≠((a1).length:Int)then(some false)else(F.R18_Same_l1 a0 a1 A.FU 0)
theorem R18_Same_ok (a0:(List D38))(a1:(List D38))(A0_:Option Addr)(c1_:Nat)(A2_:Option Addr)(c3_:Nat)(r:Bool)(hF:F.R18_Same a0 a1=some r):
    A.Ct Tryd.prog 11 [.slice A0_ ((a0).length) c1_,.slice A2_ ((a1).length) c3_] [(0,.ln T38 A0_ c1_ a0),(1,.ln T38 A2_ c3_ a1)] [] (fun v H'=>v=.bool r∧H'=[]):=by
 refine A.Ct.enter Tryd.func11 rfl Tryd.ntmps11 rfl fun w0 F0=>?_
 rw[F.R18_Same]at hF
 refine A.xl 1 ?_
 refine A.q0 [] [] [.n] [] ?_
 refine A.dl 3 ?_
 refine A.q0 [] [] [.n,.n,.n,.n,.n] [(10,.bool (decide (((a0).length:Int)≠((a1).length:Int))))] ?_
 refine A.dx 1 ?_
 refine A.AX.cnd rfl hF (fun hb hF=>?_) (fun hb hF=>?_)
 ·refine A.xl 1 ?_
  refine A.q0 [] [] [.n] [(4,.bool false)] ?_
  refine A.dx 1 ?_
  obtain rfl:=Option.some.inj hF
  exact A.rt1 [] ⟨rfl,rfl⟩
 refine A.xl 4 ?_
 refine A.q0 [] [] [.n] [(5,.int .i64 0)] ?_
 refine A.dx 2 ?_
 refine A.lp_ [0,1] [0,1] (fun f nl nh=>∃(y1:Int),nl=[(5,.int .i64 y1)]∧nh=[]∧IntKind.i64.has y1∧F.R18_Same_l1 a0 a1 f y1=some r) ⟨0,rfl,rfl,(A.hasl .i64 (0) rfl),hF⟩ ?_
 rintro f3 _ _ ⟨y1,rfl,rfl,hy2,hF⟩
 rcases f3 with _|f3
 ·exact A.no0 hF
 rw[F.R18_Same_l1]at hF
 refine A.xl 2 ?_
 refine A.q0 [] [] [.n,.n,.n,.n] [(14,.bool (decide (y1<((a0).length:Int))))] ?_
 refine A.dx 1 ?_
 refine A.AX.cnd rfl hF (fun hb hF=>?_) (fun hb hF=>?_)
 ·refine A.xx 5 ?_
  refine A.AX.dr mixed 9 9 (A.mb 9 0) ?_
  refine A.hq A.pb [] [0,1] [] [] (A.mb 9 51) 5 [(0,.n),(1,.n),(4,.n),(5,.n)] [(17,.slice A0_ ((a0).length) c1_),(18,.int .i64 y1),(21,.slice A2_ ((a1).length) c3_),(22,.int .i64 y1)] ?_
  obtain⟨x4,hv5,hF⟩:=A.bd_some hF
  refine A.AH.pkl 0 6 hv5 fun ho6=>?_
  intro b8 o9 hA7
  refine A.AH.v A.pb [0,1] [0,1,6] 2 (A.mb 9 55) rfl (fun a w hf hh=>A.r_ixa (t:=T38) hv5 hA7 hf) ?_
  refine A.hq A.pb [0,1,6] [0,1,6] [] [6] (A.mb 9 63) 3 [(3,.e 0 0)] [(20,.agg #[.int .i64 x4.1,.int .i64 x4.2.1,.string x4.2.2.1,.int .i64 x4.2.2.2])] ?_
  obtain⟨x10,hv11,hF⟩:=A.bd_some hF
  refine A.AH.pkl 1 7 hv11 fun ho12=>?_
  intro b14 o15 hA13
  refine A.AH.v A.pb [0,1,6] [0,1,6,7] 6 (A.mb 9 127) rfl (fun a w hf hh=>A.r_ixa (t:=T38) hv11 hA13 hf) ?_
  refine A.hq A.pb [0,1,6,7] [0,1,6,7] [] [7] (A.mb 9 255) 1 [(7,.e 0 0)] [(24,.agg #[.int .i64 x10.1,.int .i64 x10.2.1,.string x10.2.2.1,.int .i64 x10.2.2.2])] ?_
  refine A.AH.v A.pb [0,1,6,7] [0,1,6,7] 8 (A.mb 9 511) rfl (fun a w hf hh=>eqagg_neq39 (x:=(x4.1,x4.2.1,x4.2.2.1,x4.2.2.2)) (y:=(x10.1,x10.2.1,x10.2.2.1,x10.2.2.2)) (hf.eval rfl) (hf.eval rfl)) ?_
  refine A.AH.done ?_
  refine A.ex 1 ?_
  refine A.AX.cnd rfl hF (fun hb hF=>?_) (fun hb hF=>?_)
  ·refine A.xl 1 ?_
   refine A.q0 [] [] [.n] [(4,.bool false)] ?_
   refine A.dx 1 ?_
   obtain rfl:=Option.some.inj hF
   exact A.rt1 [] ⟨rfl,rfl⟩
  refine A.xl 3 ?_
  obtain⟨hc16,hF⟩:=A.gd_some hF
  refine A.q [] [] [.n,.n,.n] [Z.R64 (y1+1)] [(5,.int .i64 (y1+1))] hc16 ?_
  refine A.AL.done ?_
  exact A.j ⟨_,Nat.lt_succ_self _,⟨(y1+1),rfl,rfl,(Z.i64_has hc16),hF⟩⟩
 refine A.xl 3 ?_
 refine A.q0 [] [] [.n] [(4,.bool true)] ?_
 refine A.dx 1 ?_
 obtain rfl:=Option.some.inj hF
 exact A.rt1 [] ⟨rfl,rfl⟩
def F.R18_ahead (a0:D38)(a1:D38):Option Bool:=if a0.1≠a1.1 then(some (decide (a0.1<a1.1)))else(if a0.2.1<a1.2.1 then(some true)else(some (bif decide (a0.2.1=a1.2.1)then Op.bytesLess a0.2.2.1.toList a1.2.2.1.toList else false)))
theorem R18_ahead_ok (a0:D38)(a1:D38)(h0_:IntKind.i64.has a0.1)(h1_:IntKind.i64.has a0.2.1)(h2_:a0.2.2.1.size≤maxLen)(h3_:IntKind.i64.has a0.2.2.2)(h4_:IntKind.i64.has a1.1)(h5_:IntKind.i64.has a1.2.1)(h6_:a1.2.2.1.size≤maxLen)(h7_:IntKind.i64.has a1.2.2.2)(r:Bool)(hF:F.R18_ahead a0 a1=some r):
    A.Ct Tryd.prog 45 [.agg #[.int .i64 a0.1,.int .i64 a0.2.1,.string a0.2.2.1,.int .i64 a0.2.2.2],.agg #[.int .i64 a1.1,.int .i64 a1.2.1,.string a1.2.2.1,.int .i64 a1.2.2.2]] [] [] (fun v H'=>v=.bool r∧H'=[]):=by
 refine A.Ct.enter Tryd.func45 rfl Tryd.ntmps45 rfl fun w0 F0=>?_
 rw[F.R18_ahead]at hF
 refine A.xl 1 ?_
 refine A.AL.box 0 (cs:=[.int .i64 a0.1,.int .i64 a0.2.1,.string a0.2.2.1,.int .i64 a0.2.2.2]) fun g1=>?_
 refine A.AL.box 1 (cs:=[.int .i64 a1.1,.int .i64 a1.2.1,.string a1.2.2.1,.int .i64 a1.2.2.2]) fun g2=>?_
 refine A.q0 [] [] [.n] [] ?_
 refine A.dl 3 ?_
 refine A.q0 [0,1] [] [.n,.b 0 0,.n,.b 1 0,.n] [(9,.bool (decide (a0.1≠a1.1)))] ?_
 refine A.dx 1 ?_
 refine A.AX.cnd rfl hF (fun hb hF=>?_) (fun hb hF=>?_)
 ·refine A.xl 1 ?_
  refine A.q0 [0,1] [] [.n,.b 0 0,.n,.b 1 0,.n,.n] [(4,.bool (decide (a0.1<a1.1)))] ?_
  refine A.dx 1 ?_
  obtain rfl:=Option.some.inj hF
  exact A.rt1 [] ⟨rfl,rfl⟩
 refine A.xl 3 ?_
 refine A.q0 [0,1] [] [.n,.b 0 1,.n,.b 1 1,.n,.n] [(20,.bool (decide (a0.2.1<a1.2.1)))] ?_
 refine A.AL.cnp (j:=20) rfl hF (fun hb hF=>?_) (fun hb hF=>?_)
 ·refine A.q0 [] [] [.off,.off,.off,.off,.off,.off,.off,.off,.off,.off,.off,.off,.n,.n] [(4,.bool true)] ?_
  refine A.dx 1 ?_
  obtain rfl:=Option.some.inj hF
  exact A.rt1 [] ⟨rfl,rfl⟩
 refine A.q0 [0,1] [] [.on .n,.on (.b 0 1),.on .n,.on (.b 1 1),.on .n,.on .n,.sy .n,.sy (.b 0 2),.sy .n,.sy (.b 1 2),.sy .n,.on .pk,.n,.n] [(4,.bool (bif decide (a0.2.1=a1.2.1)then Op.bytesLess a0.2.2.1.toList a1.2.2.1.toList else false))] ?_
 refine A.dx 1 ?_
 obtain rfl:=Option.some.inj hF
 exact A.rt1 [] ⟨rfl,rfl⟩
end Go.Proofs.YtfpemeeadiigcaaDoor
end
section
set_option linter.unusedVariables false
set_option linter.unusedSimpArgs false
set_option maxRecDepth 20000
set_option maxHeartbeats 8000000
set_option synthInstance.maxSize 1000000
set_option synthInstance.maxHeartbeats 400000
namespace Go.Proofs.YtfpemeeadiigcaaDoor
open Go.RowKit
def F.R18_put_j1 (k1:(List D38)→Bool→Int→Option (List D38))(y6:Int)(x9:D38)(y15:Int)(xs20:List D38)(y21:Bool):Option (List D38):=A.gd ((List.length (α:=D38) xs20+List.length (α:=D38) [(x9.1,x9.2.1,x9.2.2.1,y15)])*40≤140737488355328) (A.gd (Z.R64 (y6+1)) (k1 (xs20++[(x9.1,x9.2.1,x9.2.2.1,y15)]) y21 (y6+1)))
def F.R18_put_j2 (k1:(List D38)→Bool→Int→Option (List D38))(a1:D38)(xs4:List D38)(y6:Int)(x9:D38)(y15:Int)(y17:Bool)(y27:Bool):Option (List D38):=if y27=true then(A.gd ((List.length (α:=D38) xs4+List.length (α:=D38) [(a1.1,a1.2.1,a1.2.2.1,a1.2.2.2)])*40≤140737488355328) (F.R18_put_j1 k1 y6 x9 y15 (xs4++[(a1.1,a1.2.1,a1.2.2.1,a1.2.2.2)]) true))else(F.R18_put_j1 k1 y6 x9 y15 xs4 y17)
def F.R18_put_j3 (k1:(List D38)→Bool→Int→Option (List D38))(a1:D38)(xs4:List D38)(y6:Int)(x9:D38)(y15:Int)(y17:Bool):Option (List D38):=if(!y17)=true then((F.R18_ahead (a1.1,a1.2.1,a1.2.2.1,a1.2.2.2) (x9.1,x9.2.1,x9.2.2.1,y15)).bind fun r32=>(F.R18_put_j2 k1 a1 xs4 y6 x9 y15 y17 r32))else(F.R18_put_j2 k1 a1 xs4 y6 x9 y15 y17 false)
def F.R18_put_j4 (k1:(List D38)→Bool→Int→Option (List D38))(a1:D38)(xs4:List D38)(y6:Int)(x9:D38)(y35:Int):Option (List D38):=F.R18_put_j3 k1 a1 xs4 y6 x9 y35 true
def F.R18_put_j5 (xs39:List D38):Option (List D38):=some xs39
def F.R18_put_l6 (a0:(List D38))(a1:D38)(a2:Bool):Nat→(List D38)→Bool→Int→Option (List D38)
 |0,_,_,_=>none
 |f+1,xs4,y5,y6=>if y6<((a0).length:Int)then((A.ix a0 y6).bind fun x9=>(if(bif bif decide (x9.1=a1.1)then decide (x9.2.1=a1.2.1)else false then decide (x9.2.2.1=a1.2.2.1)else false)=true then(A.gd (Z.R64 (x9.2.2.2+a1.2.2.2)) (if a2=true then(F.R18_put_j4 (F.R18_put_l6 a0 a1 a2 f) a1 xs4 y6 x9 1)else(F.R18_put_j4 (F.R18_put_l6 a0 a1 a2 f) a1 xs4 y6 x9 (min (x9.2.2.2+a1.2.2.2) 1099511627776))))else(F.R18_put_j3 (F.R18_put_l6 a0 a1 a2 f) a1 xs4 y6 x9 x9.2.2.2 y5)))else(if(!y5)=true then(A.gd ((List.length (α:=D38) xs4+List.length (α:=D38) [(a1.1,a1.2.1,a1.2.2.1,a1.2.2.2)])*40≤140737488355328) (F.R18_put_j5 (xs4++[(a1.1,a1.2.1,a1.2.2.1,a1.2.2.2)])))else(F.R18_put_j5 xs4))
def F.R18_put (a0:(List D38))(a1:D38)(a2:Bool):Option (List D38):=if a1.2.2.2=0 then(some a0)else(F.R18_put_l6 a0 a1 a2 A.FU [] false 0)
theorem R18_put_ok (a0:(List D38))(a1:D38)(a2:Bool)(A0_:Option Addr)(c1_:Nat)(h2_:IntKind.i64.has a1.1)(h3_:IntKind.i64.has a1.2.1)(h4_:a1.2.2.1.size≤maxLen)(h5_:IntKind.i64.has a1.2.2.2)(r:(List D38))(hF:F.R18_put a0 a1 a2=some r):
    A.Ct Tryd.prog 27 [.slice A0_ ((a0).length) c1_,.agg #[.int .i64 a1.1,.int .i64 a1.2.1,.string a1.2.2.1,.int .i64 a1.2.2.2],.bool a2] [(0,.sh (.slice T38) [.slice A0_ (a0).length c1_] a0)] [] (fun v H'=>∃(A0':Option Addr) (c1':Nat),v=.slice A0' ((r).length) c1'∧H'=[(0,.sh (.slice T38) [.slice A0' (r).length c1'] r)]):=by
 refine A.Ct.enter Tryd.func27 rfl Tryd.ntmps27 rfl fun w0 F0=>?_
 rw[F.R18_put]at hF
 refine A.xl 1 ?_
 refine A.AL.box 1 (cs:=[.int .i64 a1.1,.int .i64 a1.2.1,.string a1.2.2.1,.int .i64 a1.2.2.2]) fun g1=>?_
 refine A.q0 [] [] [.n] [] ?_
 refine A.dl 3 ?_
 refine A.q0 [1] [] [.n,.b 0 3,.n] [(13,.bool (decide (a1.2.2.2=0)))] ?_
 refine A.dx 1 ?_
 refine A.AX.cnd rfl hF (fun hb hF=>?_) (fun hb hF=>?_)
 ·refine A.xl 1 ?_
  refine A.q0 [] [] [.n,.n] [(6,.slice A0_ ((a0).length) c1_)] ?_
  refine A.dx 1 ?_
  obtain rfl:=Option.some.inj hF
  exact A.rt1 [(0,0)] ⟨A0_,c1_,rfl,rfl⟩
 refine A.xl 3 ?_
 refine A.q0 [] [] [.n] [(7,.slice none 0 0)] ?_
 refine A.dl 2 ?_
 refine A.q0 [] [] [.n] [(8,.bool false)] ?_
 refine A.dl 3 ?_
 refine A.q0 [] [] [.n] [(9,.int .i64 0)] ?_
 refine A.dx 2 ?_
 refine A.nil 93 T38 39 ?_
 refine A.lp_ [0,2,4] [0,1] (fun f nl nh=>∃(xs4:List D38),∃(y5:Bool),∃(y6:Int),∃(A2:Option Addr),∃(c3:Nat),nl=[(7,.slice A2 ((xs4).length) c3),(8,.bool y5),(9,.int .i64 y6)]∧nh=[(93,.own T38 39 A2 c3 xs4)]∧IntKind.i64.has y6∧F.R18_put_l6 a0 a1 a2 f xs4 y5 y6=some r) ⟨[],false,0,none,0,rfl,rfl,(A.hasl .i64 (0) rfl),hF⟩ ?_
 rintro f8 _ _ ⟨xs4,y5,y6,A2,c3,rfl,rfl,hy7,hF⟩
 rcases f8 with _|f8
 ·exact A.no0 hF
 rw[F.R18_put_l6]at hF
 refine A.xl 2 ?_
 refine A.q0 [] [] [.n,.n,.n,.n] [(18,.bool (decide (y6<((a0).length:Int))))] ?_
 refine A.dx 1 ?_
 refine A.AX.cnd rfl hF (fun hb hF=>?_) (fun hb hF=>?_)
 ·refine A.xl 5 ?_
  refine A.q0 [] [] [.n,.n] [(21,.slice A0_ ((a0).length) c1_),(22,.int .i64 y6)] ?_
  obtain⟨x9,hv10,hF⟩:=A.bd_some hF
  refine A.AL.ixs 0 185 hv10 fun ho11=>?_
  intro b12 o13
  refine A.q0 [] [185] [.e 0 0] [(24,.agg #[.int .i64 x9.1,.int .i64 x9.2.1,.string x9.2.2.1,.int .i64 x9.2.2.2])] ?_
  refine A.AL.alloc 186 (cs:=[.int .i64 0,.int .i64 0,.string (ByteArray.mk #[]),.int .i64 0]) Tryd.zeroValue39 fun g14=>?_
  refine A.sw 186 [] [.int .i64 x9.1,.int .i64 x9.2.1,.string x9.2.2.1,.int .i64 x9.2.2.2] ?_
  refine A.dx 1 ?_
  refine A.AX.join [0,2,4,7,9,10] [0,1,93] (fun nl nh=>∃(y15:Int),∃(y17:Bool),nl=[(8,.bool y17)]∧nh=[(186,.blk g14 39 [.int .i64 x9.1,.int .i64 x9.2.1,.string x9.2.2.1,.int .i64 y15])]∧IntKind.i64.has y15∧F.R18_put_j3 (F.R18_put_l6 a0 a1 a2 f8) a1 xs4 y6 x9 y15 y17=some r) ?_ ?_
  ·refine A.xl 1 ?_
   refine A.q0 [186,1] [] [.n,.b 0 0,.n,.b 1 0,.n,.n,.sy .n,.sy (.b 0 1),.sy .n,.sy (.b 1 1),.sy .n,.pk,.n,.sy .n,.sy (.b 0 2),.sy .n,.sy (.b 1 2),.sy .n,.pk] [(43,.bool (bif bif decide (x9.1=a1.1)then decide (x9.2.1=a1.2.1)else false then decide (x9.2.2.1=a1.2.2.1)else false))] ?_
   refine A.dx 1 ?_
   refine A.AX.cnb rfl hF (fun hb hF=>?_) (fun hb hF=>?_)
   ·refine A.xl 1 ?_
    obtain⟨hc34,hF⟩:=A.gd_some hF
    refine A.q [186,1] [] [.n,.b 0 3,.n,.b 1 3,.n,.n,.n] [Z.R64 (x9.2.2.2+a1.2.2.2)] [(49,.int .i64 (min (x9.2.2.2+a1.2.2.2) 1099511627776)),(50,.pointer (some ⟨g14,3,none⟩))] hc34 ?_
    refine A.AL.store 186 [] (new:=[.int .i64 (min (x9.2.2.2+a1.2.2.2) 1099511627776)]) (cs':=[.int .i64 x9.1,.int .i64 x9.2.1,.string x9.2.2.1,.int .i64 (min (x9.2.2.2+a1.2.2.2) 1099511627776)]) ?_
    refine A.dx 1 ?_
    refine A.AX.join [0,2,4,7,9,10] [0,1,93] (fun nl nh=>∃(y35:Int),nl=[]∧nh=[(186,.blk g14 39 [.int .i64 x9.1,.int .i64 x9.2.1,.string x9.2.2.1,.int .i64 y35])]∧IntKind.i64.has y35∧F.R18_put_j4 (F.R18_put_l6 a0 a1 a2 f8) a1 xs4 y6 x9 y35=some r) ?_ ?_
    ·refine A.xl 1 ?_
     refine A.q0 [] [] [.n] [(51,.bool a2)] ?_
     refine A.dx 1 ?_
     refine A.AX.cnb rfl hF (fun hb hF=>?_) (fun hb hF=>?_)
     ·refine A.xl 0 ?_
      refine A.q0 [] [] [.n] [(52,.pointer (some ⟨g14,3,none⟩))] ?_
      refine A.AL.store 186 [] (new:=[.int .i64 1]) (cs':=[.int .i64 x9.1,.int .i64 x9.2.1,.string x9.2.2.1,.int .i64 1]) ?_
      refine A.AL.done ?_
      exact A.j ⟨1,rfl,rfl,(A.hasl .i64 (1) rfl),hF⟩
     refine A.xe 1 ?_
     exact A.j ⟨(min (x9.2.2.2+a1.2.2.2) 1099511627776),rfl,rfl,(A.has_min (Z.i64_has hc34) (A.hasl .i64 (1099511627776) rfl)),hF⟩
    rintro _ _ ⟨y35,rfl,rfl,hy36,hF⟩
    rw[F.R18_put_j4]at hF
    refine A.xl 0 ?_
    refine A.q0 [] [] [.n] [(8,.bool true)] ?_
    refine A.AL.done ?_
    exact A.j ⟨y35,true,rfl,rfl,hy36,hF⟩
   refine A.xe 1 ?_
   exact A.j ⟨x9.2.2.2,y5,rfl,rfl,ho11.2.2.2,hF⟩
  rintro _ _ ⟨y15,y17,rfl,rfl,hy16,hF⟩
  rw[F.R18_put_j3]at hF
  refine A.AX.join [0,2,4,9,10] [0,1,186] (fun nl nh=>∃(xs20:List D38),∃(y21:Bool),∃(A18:Option Addr),∃(c19:Nat),nl=[(7,.slice A18 ((xs20).length) c19),(8,.bool y21)]∧nh=[(93,.own T38 39 A18 c19 xs20)]∧F.R18_put_j1 (F.R18_put_l6 a0 a1 a2 f8) y6 x9 y15 xs20 y21=some r) ?_ ?_
  ·refine A.AX.join [0,2,4,7,8,9,10] [0,1,93,186] (fun nl nh=>∃(y27:Bool),nl=[(59,.bool y27)]∧nh=[]∧F.R18_put_j2 (F.R18_put_l6 a0 a1 a2 f8) a1 xs4 y6 x9 y15 y17 y27=some r) ?_ ?_
   ·refine A.xl 0 ?_
    refine A.q0 [] [] [.n,.n,.n] [(55,.bool (!y17))] ?_
    refine A.AL.cnd (j:=55) rfl hF (fun hF=>?_) (fun hF=>?_)
    ·refine A.q0 [1,186] [] [.on (.b 0 0),.on (.b 1 0)] [(56,.agg #[.int .i64 a1.1,.int .i64 a1.2.1,.string a1.2.2.1,.int .i64 a1.2.2.2]),(57,.agg #[.int .i64 x9.1,.int .i64 x9.2.1,.string x9.2.2.1,.int .i64 y15])] ?_
     refine A.AL.on (dj:=55) rfl rfl ?_
     obtain⟨r32,hv33,hF⟩:=A.bd_some hF
     refine A.AL.call 187 [] (first:=[]) (cap:=[]) cf45 (R18_ahead_ok (a1.1,a1.2.1,a1.2.2.1,a1.2.2.2) (x9.1,x9.2.1,x9.2.2.1,y15) h2_ h3_ h4_ h5_ ho11.1 ho11.2.1 ho11.2.2.1 hy16 r32 hv33) .nil ?_
     rintro _ _ ⟨rfl,rfl⟩
     refine⟨by kernel_rfl,?_⟩
     refine A.q0 [] [] [.n] [(59,.bool r32)] ?_
     refine A.AL.done ?_
     exact A.j ⟨r32,rfl,rfl,hF⟩
    refine A.q0 [] [] [.off,.off,.off,.n] [(59,.bool false)] ?_
    refine A.AL.done ?_
    exact A.j ⟨false,rfl,rfl,hF⟩
   rintro _ _ ⟨y27,rfl,rfl,hF⟩
   rw[F.R18_put_j2]at hF
   refine A.AX.cnb rfl hF (fun hb hF=>?_) (fun hb hF=>?_)
   ·refine A.xl 1 ?_
    refine A.q0 [1] [] [.n,.b 0 0] [(60,.slice A2 ((xs4).length) c3),(61,.agg #[.int .i64 a1.1,.int .i64 a1.2.1,.string a1.2.2.1,.int .i64 a1.2.2.2])] ?_
    refine A.AL.bsl 227 (ty:=T38) (cs:=[.int .i64 a1.1,.int .i64 a1.2.1,.string a1.2.2.1,.int .i64 a1.2.2.2]) [(a1.1,a1.2.1,a1.2.2.1,a1.2.2.2)] ⟨⟨⟨rfl,h2_⟩,⟨rfl,h3_⟩,⟨rfl,h4_⟩,⟨rfl,h5_⟩⟩,rfl⟩ (fun g28=>?_) Tryd.zeroValue39 Tryd.sizeOf39
    obtain⟨hl31,hF⟩:=A.gd_some hF
    refine A.AL.app (k:=93) [] (A.rowO (k:=227) rfl) inf39 hl31 fun A29 c30=>?_
    refine A.q0 [] [] [.n] [(7,.slice A29 ((xs4++[(a1.1,a1.2.1,a1.2.2.1,a1.2.2.2)]).length) c30)] ?_
    refine A.dl 1 ?_
    refine A.q0 [] [] [.n] [(8,.bool true)] ?_
    refine A.AL.done ?_
    exact A.j ⟨(xs4++[(a1.1,a1.2.1,a1.2.2.1,a1.2.2.2)]),true,A29,c30,rfl,rfl,hF⟩
   refine A.xe 1 ?_
   exact A.j ⟨xs4,y17,A2,c3,rfl,rfl,hF⟩
  rintro _ _ ⟨xs20,y21,A18,c19,rfl,rfl,hF⟩
  rw[F.R18_put_j1]at hF
  refine A.xl 0 ?_
  refine A.q0 [186] [] [.n,.b 0 0] [(64,.slice A18 ((xs20).length) c19),(65,.agg #[.int .i64 x9.1,.int .i64 x9.2.1,.string x9.2.2.1,.int .i64 y15])] ?_
  refine A.AL.bsl 228 (ty:=T38) (cs:=[.int .i64 x9.1,.int .i64 x9.2.1,.string x9.2.2.1,.int .i64 y15]) [(x9.1,x9.2.1,x9.2.2.1,y15)] ⟨⟨⟨rfl,ho11.1⟩,⟨rfl,ho11.2.1⟩,⟨rfl,ho11.2.2.1⟩,⟨rfl,hy16⟩⟩,rfl⟩ (fun g22=>?_) Tryd.zeroValue39 Tryd.sizeOf39
  obtain⟨hl25,hF⟩:=A.gd_some hF
  refine A.AL.app (k:=93) [] (A.rowO (k:=228) rfl) inf39 hl25 fun A23 c24=>?_
  refine A.q0 [] [] [.n] [(7,.slice A23 ((xs20++[(x9.1,x9.2.1,x9.2.2.1,y15)]).length) c24)] ?_
  refine A.dl 2 ?_
  obtain⟨hc26,hF⟩:=A.gd_some hF
  refine A.q [] [] [.n,.n,.n] [Z.R64 (y6+1)] [(9,.int .i64 (y6+1))] hc26 ?_
  refine A.AL.done ?_
  exact A.j ⟨_,Nat.lt_succ_self _,⟨(xs20++[(x9.1,x9.2.1,x9.2.2.1,y15)]),y21,(y6+1),A23,c24,rfl,rfl,(Z.i64_has hc26),hF⟩⟩
 refine A.xx 2 ?_
 refine A.AX.join [] [] (fun nl nh=>∃(xs39:List D38),∃(A37:Option Addr),∃(c38:Nat),nl=[(7,.slice A37 ((xs39).length) c38)]∧nh=[(93,.own T38 39 A37 c38 xs39)]∧F.R18_put_j5 xs39=some r) ?_ ?_
 ·refine A.xl 1 ?_
  refine A.q0 [] [] [.n,.n] [(69,.bool (!y5))] ?_
  refine A.dx 1 ?_
  refine A.AX.cnb rfl hF (fun hb hF=>?_) (fun hb hF=>?_)
  ·refine A.xl 0 ?_
   refine A.q0 [1] [] [.n,.b 0 0] [(70,.slice A2 ((xs4).length) c3),(71,.agg #[.int .i64 a1.1,.int .i64 a1.2.1,.string a1.2.2.1,.int .i64 a1.2.2.2])] ?_
   refine A.AL.bsl 229 (ty:=T38) (cs:=[.int .i64 a1.1,.int .i64 a1.2.1,.string a1.2.2.1,.int .i64 a1.2.2.2]) [(a1.1,a1.2.1,a1.2.2.1,a1.2.2.2)] ⟨⟨⟨rfl,h2_⟩,⟨rfl,h3_⟩,⟨rfl,h4_⟩,⟨rfl,h5_⟩⟩,rfl⟩ (fun g40=>?_) Tryd.zeroValue39 Tryd.sizeOf39
   obtain⟨hl43,hF⟩:=A.gd_some hF
   refine A.AL.app (k:=93) [] (A.rowO (k:=229) rfl) inf39 hl43 fun A41 c42=>?_
   refine A.q0 [] [] [.n] [(7,.slice A41 ((xs4++[(a1.1,a1.2.1,a1.2.2.1,a1.2.2.2)]).length) c42)] ?_
   refine A.AL.done ?_
   exact A.j ⟨(xs4++[(a1.1,a1.2.1,a1.2.2.1,a1.2.2.2)]),A41,c42,rfl,rfl,hF⟩
  refine A.xe 1 ?_
  exact A.j ⟨xs4,A2,c3,rfl,rfl,hF⟩
 rintro _ _ ⟨xs39,A37,c38,rfl,rfl,hF⟩
 rw[F.R18_put_j5]at hF
 refine A.xl 1 ?_
 refine A.q0 [] [] [.n,.n] [(6,.slice A37 ((xs39).length) c38)] ?_
 refine A.dx 1 ?_
 obtain rfl:=Option.some.inj hF
 refine A.frz 93 [] ?_
 exact A.rt1 [(0,93)] ⟨A37,c38,rfl,rfl⟩
end Go.Proofs.YtfpemeeadiigcaaDoor
end
section
set_option linter.unusedVariables false
set_option linter.unusedSimpArgs false
set_option maxRecDepth 20000
set_option maxHeartbeats 8000000
set_option synthInstance.maxSize 1000000
set_option synthInstance.maxHeartbeats 400000
namespace Go.Proofs.YtfpemeeadiigcaaDoor
open Go.RowKit
def F.slices_Clone_api_Entry_api_Entry (a0:(List D38)):Option (List D38):=A.gd ((List.length (α:=D38) []+List.length (α:=D38) a0)*40≤140737488355328) (some ([]++a0))
theorem slices_Clone_api_Entry_api_Entry_ok (a0:(List D38))(A0_:Option Addr)(c1_:Nat)(r:(List D38))(hF:F.slices_Clone_api_Entry_api_Entry a0=some r):
    A.Ct Tryd.prog 13 [.slice A0_ ((a0).length) c1_] [(0,.ln T38 A0_ c1_ a0)] [] (fun v H'=>∃(A0':Option Addr) (c1':Nat),v=.slice A0' ((r).length) c1'∧H'=[(0,.own T38 39 A0' c1' r)]):=by
 refine A.Ct.enter Tryd.func13 rfl Tryd.ntmps13 rfl fun w0 F0=>?_
 rw[F.slices_Clone_api_Entry_api_Entry]at hF
 refine A.xl 1 ?_
 refine A.q0 [] [] [.n] [] ?_
 refine A.dl 3 ?_
 refine A.q0 [] [] [.n,.n] [(4,.bool A0_.isNone)] ?_
 refine A.dx 1 ?_
 refine A.AX.cnn rfl (fun hb=>?_) (fun hb=>?_)
 ·refine A.nilL 0 hb fun hb=>?_
  subst hb
  replace hF:some []=some r:=by simpa[A.gd,A.ix] using hF
  refine A.xl 1 ?_
  refine A.q0 [] [] [.n] [(2,.slice none 0 0)] ?_
  refine A.dx 1 ?_
  obtain rfl:=Option.some.inj hF
  refine A.nil 2 T38 39 ?_
  exact A.rt1 [(0,2)] ⟨none,0,rfl,rfl⟩
 refine A.xl 3 ?_
 refine A.AL.bs0 1 T38 (fun g1=>?_) Tryd.sizeOf39
 refine A.q0 [] [] [.n] [(6,.slice A0_ ((a0).length) c1_)] ?_
 obtain⟨hl4,hF⟩:=A.gd_some hF
 refine A.AL.app (k:=1) [] (A.rowL (k:=0) rfl) inf39 hl4 fun A2 c3=>?_
 refine A.q0 [] [] [.n] [(2,.slice A2 (([]++a0).length) c3)] ?_
 refine A.dx 1 ?_
 obtain rfl:=Option.some.inj hF
 exact A.rt1 [(0,1)] ⟨A2,c3,rfl,rfl⟩
def F.R06_Uses_l1 (y3:Int):Nat→(List Int)→Int→Option (List Int)
 |0,_,_=>none
 |f+1,xs7,y8=>if y8≤y3 then(A.gd ((List.length (α:=Int) xs7+List.length (α:=Int) [y8])*8≤140737488355328) (A.gd (Z.R64 (y8+1)) ((F.R06_Uses_l1 y3 f) (xs7++[y8]) (y8+1))))else(some xs7)
def F.R06_Uses_j2 (y1:Int)(y3:Int):Option (List Int):=F.R06_Uses_l1 y3 A.FU [] y1
def F.R06_Uses (a0:Int):Option (List Int):=if a0=2 then(F.R06_Uses_j2 1 8)else(if a0=3 then(F.R06_Uses_j2 11 13)else(if a0=4 then(F.R06_Uses_j2 21 22)else(if a0=8 then(F.R06_Uses_j2 31 34)else(if a0=11 then(F.R06_Uses_j2 41 42)else(F.R06_Uses_j2 1 0)))))
theorem R06_Uses_ok (a0:Int)(h0_:IntKind.i64.has a0)(r:(List Int))(hF:F.R06_Uses a0=some r):
    A.Ct Tryd.prog 90 [.int .i64 a0] [] [] (fun v H'=>∃(A0':Option Addr) (c1':Nat),v=.slice A0' ((r).length) c1'∧H'=[(0,.own (Z.Ty.int .i64) 3 A0' c1' r)]):=by
 refine A.Ct.enter Tryd.func90 rfl Tryd.ntmps90 rfl fun w0 F0=>?_
 rw[F.R06_Uses]at hF
 refine A.xl 1 ?_
 refine A.q0 [] [] [.n] [] ?_
 refine A.dl 2 ?_
 refine A.q0 [] [] [.n,.n] [(3,.int .i64 1),(4,.int .i64 0)] ?_
 refine A.dx 1 ?_
 refine A.AX.join [] [] (fun nl nh=>∃(y1:Int),∃(y3:Int),nl=[(3,.int .i64 y1),(4,.int .i64 y3)]∧nh=[]∧IntKind.i64.has y1∧IntKind.i64.has y3∧F.R06_Uses_j2 y1 y3=some r) ?_ ?_
 ·refine A.xl 1 ?_
  refine A.q0 [] [] [.n] [(7,.int .i64 a0)] ?_
  refine A.dl 3 ?_
  refine A.q0 [] [] [.n,.n] [(8,.bool (decide (a0=2)))] ?_
  refine A.dx 1 ?_
  refine A.AX.cnd rfl hF (fun hb hF=>?_) (fun hb hF=>?_)
  ·refine A.xl 0 ?_
   refine A.q0 [] [] [.n,.n] [(3,.int .i64 1),(4,.int .i64 8)] ?_
   refine A.de 1 ?_
   exact A.j ⟨1,8,rfl,rfl,(A.hasl .i64 (1) rfl),(A.hasl .i64 (8) rfl),hF⟩
  refine A.xl 1 ?_
  refine A.q0 [] [] [.n,.n] [(10,.bool (decide (a0=3)))] ?_
  refine A.dx 1 ?_
  refine A.AX.cnd rfl hF (fun hb hF=>?_) (fun hb hF=>?_)
  ·refine A.xl 0 ?_
   refine A.q0 [] [] [.n,.n] [(3,.int .i64 11),(4,.int .i64 13)] ?_
   refine A.de 1 ?_
   exact A.j ⟨11,13,rfl,rfl,(A.hasl .i64 (11) rfl),(A.hasl .i64 (13) rfl),hF⟩
  refine A.xl 1 ?_
  refine A.q0 [] [] [.n,.n] [(12,.bool (decide (a0=4)))] ?_
  refine A.dx 1 ?_
  refine A.AX.cnd rfl hF (fun hb hF=>?_) (fun hb hF=>?_)
  ·refine A.xl 0 ?_
   refine A.q0 [] [] [.n,.n] [(3,.int .i64 21),(4,.int .i64 22)] ?_
   refine A.de 1 ?_
   exact A.j ⟨21,22,rfl,rfl,(A.hasl .i64 (21) rfl),(A.hasl .i64 (22) rfl),hF⟩
  refine A.xl 1 ?_
  refine A.q0 [] [] [.n,.n] [(14,.bool (decide (a0=8)))] ?_
  refine A.dx 1 ?_
  refine A.AX.cnd rfl hF (fun hb hF=>?_) (fun hb hF=>?_)
  ·refine A.xl 0 ?_
   refine A.q0 [] [] [.n,.n] [(3,.int .i64 31),(4,.int .i64 34)] ?_
   refine A.de 1 ?_
   exact A.j ⟨31,34,rfl,rfl,(A.hasl .i64 (31) rfl),(A.hasl .i64 (34) rfl),hF⟩
  refine A.xl 1 ?_
  refine A.q0 [] [] [.n,.n] [(16,.bool (decide (a0=11)))] ?_
  refine A.dx 1 ?_
  refine A.AX.cnd rfl hF (fun hb hF=>?_) (fun hb hF=>?_)
  ·refine A.xl 0 ?_
   refine A.q0 [] [] [.n,.n] [(3,.int .i64 41),(4,.int .i64 42)] ?_
   refine A.de 1 ?_
   exact A.j ⟨41,42,rfl,rfl,(A.hasl .i64 (41) rfl),(A.hasl .i64 (42) rfl),hF⟩
  refine A.xe 2 ?_
  exact A.j ⟨1,0,rfl,rfl,(A.hasl .i64 (1) rfl),(A.hasl .i64 (0) rfl),hF⟩
 rintro _ _ ⟨y1,y3,rfl,rfl,hy2,hy4,hF⟩
 rw[F.R06_Uses_j2]at hF
 refine A.xl 1 ?_
 refine A.q0 [] [] [.n] [(5,.slice none 0 0)] ?_
 refine A.dl 3 ?_
 refine A.q0 [] [] [.n,.n] [(6,.int .i64 y1)] ?_
 refine A.dx 2 ?_
 refine A.nil 3 (Z.Ty.int .i64) 3 ?_
 refine A.lp_ [4] [] (fun f nl nh=>∃(xs7:List Int),∃(y8:Int),∃(A5:Option Addr),∃(c6:Nat),nl=[(5,.slice A5 ((xs7).length) c6),(6,.int .i64 y8)]∧nh=[(3,.own (Z.Ty.int .i64) 3 A5 c6 xs7)]∧IntKind.i64.has y8∧F.R06_Uses_l1 y3 f xs7 y8=some r) ⟨[],y1,none,0,rfl,rfl,hy2,hF⟩ ?_
 rintro f10 _ _ ⟨xs7,y8,A5,c6,rfl,rfl,hy9,hF⟩
 rcases f10 with _|f10
 ·exact A.no0 hF
 rw[F.R06_Uses_l1]at hF
 refine A.xl 2 ?_
 refine A.q0 [] [] [.n,.n,.n] [(21,.bool (decide (y8≤y3)))] ?_
 refine A.dx 1 ?_
 refine A.AX.cnd rfl hF (fun hb hF=>?_) (fun hb hF=>?_)
 ·refine A.xl 4 ?_
  refine A.q0 [] [] [.n,.n] [(24,.slice A5 ((xs7).length) c6),(25,.int .i64 y8)] ?_
  refine A.AL.bsl 6 (ty:=(Z.Ty.int .i64)) (cs:=[.int .i64 y8]) [y8] ⟨⟨rfl,hy9⟩,rfl⟩ (fun g11=>?_) Tryd.zeroValue3 Tryd.sizeOf3
  obtain⟨hl14,hF⟩:=A.gd_some hF
  refine A.AL.app (k:=3) [] (A.rowO (k:=6) rfl) inf3 hl14 fun A12 c13=>?_
  refine A.q0 [] [] [.n] [(5,.slice A12 ((xs7++[y8]).length) c13)] ?_
  refine A.dl 2 ?_
  obtain⟨hc15,hF⟩:=A.gd_some hF
  refine A.q [] [] [.n,.n,.n] [Z.R64 (y8+1)] [(6,.int .i64 (y8+1))] hc15 ?_
  refine A.AL.done ?_
  exact A.j ⟨_,Nat.lt_succ_self _,⟨(xs7++[y8]),(y8+1),A12,c13,rfl,rfl,(Z.i64_has hc15),hF⟩⟩
 refine A.xl 3 ?_
 refine A.q0 [] [] [.n,.n] [(2,.slice A5 ((xs7).length) c6)] ?_
 refine A.dx 1 ?_
 obtain rfl:=Option.some.inj hF
 exact A.rt1 [(0,3)] ⟨A5,c6,rfl,rfl⟩
def F.R06_number_j1 (a0:D23)(y3:Bool):Option Bool:=if y3=true then(some (bif decide ((1:Int)≤a0.2.1)then decide (a0.2.1≤1048576)else false))else(some (decide (a0.2.1=0)))
def F.R06_number_j2 (a0:D23)(y2:Bool):Option Bool:=if y2=true then(some (bif decide ((0:Int)≤a0.2.1)then decide (a0.2.1≤64)else false))else(if a0.1=6 then(F.R06_number_j1 a0 (decide (a0.1=6)))else(F.R06_number_j1 a0 (decide (a0.1=11))))
def F.R06_number (a0:D23):Option Bool:=if a0.1=3 then(F.R06_number_j2 a0 (decide (a0.1=3)))else(F.R06_number_j2 a0 (decide (a0.1=13)))
theorem R06_number_ok (a0:D23)(h0_:IntKind.i64.has a0.1)(h1_:IntKind.i64.has a0.2.1)(h2_:a0.2.2.size≤maxLen)(r:Bool)(hF:F.R06_number a0=some r):
    A.Ct Tryd.prog 91 [.agg #[.int .i64 a0.1,.int .i64 a0.2.1,.string a0.2.2]] [] [] (fun v H'=>v=.bool r∧H'=[]):=by
 refine A.Ct.enter Tryd.func91 rfl Tryd.ntmps91 rfl fun w0 F0=>?_
 rw[F.R06_number]at hF
 refine A.xl 1 ?_
 refine A.AL.box 0 (cs:=[.int .i64 a0.1,.int .i64 a0.2.1,.string a0.2.2]) fun g1=>?_
 refine A.q0 [] [] [.n] [] ?_
 refine A.dl 2 ?_
 refine A.q0 [0] [] [.n,.b 0 0] [(4,.int .i64 a0.1)] ?_
 refine A.dx 2 ?_
 refine A.AX.join [1,4] [0] (fun nl nh=>∃(y2:Bool),nl=[(8,.bool y2)]∧nh=[]∧F.R06_number_j2 a0 y2=some r) ?_ ?_
 ·refine A.xl 1 ?_
  refine A.q0 [] [] [.n,.n] [(8,.bool (decide (a0.1=3)))] ?_
  refine A.dx 1 ?_
  refine A.AX.cnd rfl hF (fun hb hF=>?_) (fun hb hF=>?_)
  ·refine A.xe 1 ?_
   exact A.j ⟨(decide (a0.1=3)),rfl,rfl,hF⟩
  refine A.xl 0 ?_
  refine A.q0 [] [] [.n,.n] [(8,.bool (decide (a0.1=13)))] ?_
  refine A.AL.done ?_
  exact A.j ⟨(decide (a0.1=13)),rfl,rfl,hF⟩
 rintro _ _ ⟨y2,rfl,rfl,hF⟩
 rw[F.R06_number_j2]at hF
 refine A.AX.cnb rfl hF (fun hb hF=>?_) (fun hb hF=>?_)
 ·refine A.xl 1 ?_
  refine A.q0 [0] [] [.n,.b 0 1,.n,.n,.sy .n,.sy (.b 0 1),.sy .n,.pk,.n] [(2,.bool (bif decide ((0:Int)≤a0.2.1)then decide (a0.2.1≤64)else false))] ?_
  refine A.dx 1 ?_
  obtain rfl:=Option.some.inj hF
  exact A.rt1 [] ⟨rfl,rfl⟩
 refine A.AX.join [1] [0] (fun nl nh=>∃(y3:Bool),nl=[(19,.bool y3)]∧nh=[]∧F.R06_number_j1 a0 y3=some r) ?_ ?_
 ·refine A.xl 1 ?_
  refine A.q0 [] [] [.n,.n] [(19,.bool (decide (a0.1=6)))] ?_
  refine A.dx 1 ?_
  refine A.AX.cnd rfl hF (fun hb hF=>?_) (fun hb hF=>?_)
  ·refine A.xe 1 ?_
   exact A.j ⟨(decide (a0.1=6)),rfl,rfl,hF⟩
  refine A.xl 0 ?_
  refine A.q0 [] [] [.n,.n] [(19,.bool (decide (a0.1=11)))] ?_
  refine A.AL.done ?_
  exact A.j ⟨(decide (a0.1=11)),rfl,rfl,hF⟩
 rintro _ _ ⟨y3,rfl,rfl,hF⟩
 rw[F.R06_number_j1]at hF
 refine A.AX.cnb rfl hF (fun hb hF=>?_) (fun hb hF=>?_)
 ·refine A.xl 1 ?_
  refine A.q0 [0] [] [.n,.b 0 1,.n,.n,.sy .n,.sy (.b 0 1),.sy .n,.pk,.n] [(2,.bool (bif decide ((1:Int)≤a0.2.1)then decide (a0.2.1≤1048576)else false))] ?_
  refine A.dx 1 ?_
  obtain rfl:=Option.some.inj hF
  exact A.rt1 [] ⟨rfl,rfl⟩
 refine A.xl 1 ?_
 refine A.q0 [0] [] [.n,.b 0 1,.n,.n] [(2,.bool (decide (a0.2.1=0)))] ?_
 refine A.dx 1 ?_
 obtain rfl:=Option.some.inj hF
 exact A.rt1 [] ⟨rfl,rfl⟩
end Go.Proofs.YtfpemeeadiigcaaDoor
end
section
set_option linter.unusedVariables false
set_option linter.unusedSimpArgs false
set_option maxRecDepth 20000
set_option maxHeartbeats 8000000
set_option synthInstance.maxSize 1000000
set_option synthInstance.maxHeartbeats 400000
namespace Go.Proofs.YtfpemeeadiigcaaDoor
open Go.RowKit
def F.R05_Runes_j1 (k1:(List D95)→Int→Option (List D95))(xs3:List D95)(y4:Int)(y10:Int)(y12:Int):Option (List D95):=A.gd ((List.length (α:=D95) xs3+List.length (α:=D95) [(y4,y12)])*16≤140737488355328) (A.gd (Z.R64 (y4+y10)) (k1 (xs3++[(y4,y12)]) (y4+y10)))
def F.R05_Runes_l2 (a0:ByteArray):Nat→(List D95)→Int→Option (List D95)
 |0,_,_=>none
 |f+1,xs3,y4=>if y4<(a0.size:Int)then((F.R05_width a0 y4).bind fun r7=>(if r7=1 then((A.ix a0.data.toList y4).bind fun x19=>(F.R05_Runes_j1 (F.R05_Runes_l2 a0 f) xs3 y4 r7 (IntKind.i32.wrap ((x19.toNat:Int)))))else(if r7=2 then(A.gd (Z.R64 (y4+1)) ((A.ix a0.data.toList y4).bind fun x22=>(A.gd ((32:Int)≠0) ((A.ix a0.data.toList (y4+1)).bind fun x25=>(A.gd ((64:Int)≠0) (F.R05_Runes_j1 (F.R05_Runes_l2 a0 f) xs3 y4 r7 (IntKind.i32.wrap ((IntKind.i32.wrap ((IntKind.i32.wrap (Int.tmod (x22.toNat:Int) 32))*64))+(IntKind.i32.wrap (Int.tmod (x25.toNat:Int) 64))))))))))else(if r7=3 then(A.gd (Z.R64 (y4+1)∧Z.R64 (y4+2)) ((A.ix a0.data.toList y4).bind fun x29=>(A.gd ((16:Int)≠0) ((A.ix a0.data.toList (y4+1)).bind fun x32=>(A.gd ((64:Int)≠0) ((A.ix a0.data.toList (y4+2)).bind fun x35=>(A.gd ((64:Int)≠0) (F.R05_Runes_j1 (F.R05_Runes_l2 a0 f) xs3 y4 r7 (IntKind.i32.wrap ((IntKind.i32.wrap ((IntKind.i32.wrap ((IntKind.i32.wrap ((IntKind.i32.wrap (Int.tmod (x29.toNat:Int) 16))*64))+(IntKind.i32.wrap (Int.tmod (x32.toNat:Int) 64))))*64))+(IntKind.i32.wrap (Int.tmod (x35.toNat:Int) 64))))))))))))else(if r7=4 then(A.gd (Z.R64 (y4+1)∧Z.R64 (y4+2)∧Z.R64 (y4+3)) ((A.ix a0.data.toList y4).bind fun x39=>(A.gd ((8:Int)≠0) ((A.ix a0.data.toList (y4+1)).bind fun x42=>(A.gd ((64:Int)≠0) ((A.ix a0.data.toList (y4+2)).bind fun x45=>(A.gd ((64:Int)≠0) ((A.ix a0.data.toList (y4+3)).bind fun x48=>(A.gd ((64:Int)≠0) (F.R05_Runes_j1 (F.R05_Runes_l2 a0 f) xs3 y4 r7 (IntKind.i32.wrap ((IntKind.i32.wrap ((IntKind.i32.wrap ((IntKind.i32.wrap ((IntKind.i32.wrap ((IntKind.i32.wrap ((IntKind.i32.wrap (Int.tmod (x39.toNat:Int) 8))*64))+(IntKind.i32.wrap (Int.tmod (x42.toNat:Int) 64))))*64))+(IntKind.i32.wrap (Int.tmod (x45.toNat:Int) 64))))*64))+(IntKind.i32.wrap (Int.tmod (x48.toNat:Int) 64))))))))))))))else(F.R05_Runes_j1 (F.R05_Runes_l2 a0 f) xs3 y4 1 65533))))))else(some xs3)
def F.R05_Runes (a0:ByteArray):Option (List D95):=F.R05_Runes_l2 a0 A.FU [] 0
theorem R05_Runes_ok (a0:ByteArray)(h0_:a0.size≤maxLen)(r:(List D95))(hF:F.R05_Runes a0=some r):
    A.Ct Tryd.prog 67 [.string a0] [] [] (fun v H'=>∃(A0':Option Addr) (c1':Nat),v=.slice A0' ((r).length) c1'∧H'=[(0,.own T95 96 A0' c1' r)]):=by
 refine A.Ct.enter Tryd.func67 rfl Tryd.ntmps67 rfl fun w0 F0=>?_
 rw[F.R05_Runes]at hF
 refine A.xl 1 ?_
 refine A.q0 [] [] [.n] [] ?_
 refine A.dl 2 ?_
 refine A.q0 [] [] [.n] [(3,.slice none 0 0)] ?_
 refine A.dl 3 ?_
 refine A.q0 [] [] [.n] [(4,.int .i64 0)] ?_
 refine A.dx 2 ?_
 refine A.nil 43 T95 96 ?_
 refine A.lp_ [0] [] (fun f nl nh=>∃(xs3:List D95),∃(y4:Int),∃(A1:Option Addr),∃(c2:Nat),nl=[(3,.slice A1 ((xs3).length) c2),(4,.int .i64 y4)]∧nh=[(43,.own T95 96 A1 c2 xs3)]∧IntKind.i64.has y4∧F.R05_Runes_l2 a0 f xs3 y4=some r) ⟨[],0,none,0,rfl,rfl,(A.hasl .i64 (0) rfl),hF⟩ ?_
 rintro f6 _ _ ⟨xs3,y4,A1,c2,rfl,rfl,hy5,hF⟩
 rcases f6 with _|f6
 ·exact A.no0 hF
 rw[F.R05_Runes_l2]at hF
 refine A.xl 2 ?_
 refine A.q0 [] [] [.n,.n,.n,.n] [(10,.bool (decide (y4<(a0.size:Int))))] ?_
 refine A.dx 1 ?_
 refine A.AX.cnd rfl hF (fun hb hF=>?_) (fun hb hF=>?_)
 ·refine A.xl 4 ?_
  refine A.q0 [] [] [.n,.n] [(11,.string a0),(12,.int .i64 y4)] ?_
  obtain⟨r7,hv8,hF⟩:=A.bd_some hF
  refine A.AL.call 126 [] (first:=[]) (cap:=[]) cf64 (R05_width_ok a0 y4 h0_ hy5 r7 hv8) .nil ?_
  rintro _ _ ⟨rfl,rfl,hr9⟩
  refine⟨by kernel_rfl,?_⟩
  refine A.q0 [] [] [.n] [(5,.int .i64 r7)] ?_
  refine A.dl 2 ?_
  refine A.q0 [] [] [.n] [(6,.int .i32 65533)] ?_
  refine A.dx 1 ?_
  refine A.AX.join [0,3,4] [43] (fun nl nh=>∃(y10:Int),∃(y12:Int),nl=[(5,.int .i64 y10),(6,.int .i32 y12)]∧nh=[]∧IntKind.i64.has y10∧IntKind.i32.has y12∧F.R05_Runes_j1 (F.R05_Runes_l2 a0 f6) xs3 y4 y10 y12=some r) ?_ ?_
  ·refine A.xl 1 ?_
   refine A.q0 [] [] [.n] [(14,.int .i64 r7)] ?_
   refine A.dl 3 ?_
   refine A.q0 [] [] [.n,.n] [(15,.bool (decide (r7=1)))] ?_
   refine A.dx 1 ?_
   refine A.AX.cnd rfl hF (fun hb hF=>?_) (fun hb hF=>?_)
   ·refine A.xl 0 ?_
    refine A.q0 [] [] [.n,.n] [(17,.string a0),(18,.int .i64 y4)] ?_
    obtain⟨x19,hv20,hF⟩:=A.bd_some hF
    refine A.AL.ixt hv20 ?_
    refine A.q0 [] [] [.n,.n] [(6,.int .i32 (IntKind.i32.wrap ((x19.toNat:Int))))] ?_
    refine A.de 1 ?_
    exact A.j ⟨r7,(IntKind.i32.wrap ((x19.toNat:Int))),rfl,rfl,hr9,(A.wrap_has _ _),hF⟩
   refine A.xl 1 ?_
   refine A.q0 [] [] [.n,.n] [(21,.bool (decide (r7=2)))] ?_
   refine A.dx 1 ?_
   refine A.AX.cnd rfl hF (fun hb hF=>?_) (fun hb hF=>?_)
   ·refine A.AX.dr mixed 14 14 (A.mb 14 0) ?_
    obtain⟨hc21,hF⟩:=A.gd_some hF
    refine A.AH.q A.pb [] [43] [] [] (A.mb 14 451) 9 [(0,.n),(1,.n),(6,.n),(7,.n),(8,.n)] [23,24,29,31] [Z.R64 (y4+1)] [(23,.string a0),(24,.int .i64 y4),(29,.string a0),(31,.int .i64 (y4+1))] hc21 ?_
    obtain⟨x22,hv23,hF⟩:=A.bd_some hF
    refine A.AH.v A.pb [43] [43] 2 (A.mb 14 455) rfl (fun a w hf hh=>A.r_ixt hv23 hf) ?_
    obtain⟨hc24,hF⟩:=A.gd_some hF
    refine A.AH.q A.pb [43] [43] [] [] (A.mb 14 511) 5 [(3,.n),(4,.n),(5,.n)] [28] [(32:Int)≠0] [(28,.int .i32 (IntKind.i32.wrap ((IntKind.i32.wrap (Int.tmod (x22.toNat:Int) 32))*64)))] hc24 ?_
    obtain⟨x25,hv26,hF⟩:=A.bd_some hF
    refine A.AH.v A.pb [43] [43] 9 (A.mb 14 1023) rfl (fun a w hf hh=>A.r_ixt hv26 hf) ?_
    obtain⟨hc27,hF⟩:=A.gd_some hF
    refine A.AH.q A.pb [43] [43] [] [] (A.mb 14 16383) 0 [(10,.n),(11,.n),(12,.n),(13,.n)] [6] [(64:Int)≠0] [(6,.int .i32 (IntKind.i32.wrap ((IntKind.i32.wrap ((IntKind.i32.wrap (Int.tmod (x22.toNat:Int) 32))*64))+(IntKind.i32.wrap (Int.tmod (x25.toNat:Int) 64)))))] hc27 ?_
    refine A.AH.done ?_
    refine A.ee 1 ?_
    exact A.j ⟨r7,(IntKind.i32.wrap ((IntKind.i32.wrap ((IntKind.i32.wrap (Int.tmod (x22.toNat:Int) 32))*64))+(IntKind.i32.wrap (Int.tmod (x25.toNat:Int) 64)))),rfl,rfl,hr9,(A.wrap_has _ _),hF⟩
   refine A.xl 1 ?_
   refine A.q0 [] [] [.n,.n] [(36,.bool (decide (r7=3)))] ?_
   refine A.dx 1 ?_
   refine A.AX.cnd rfl hF (fun hb hF=>?_) (fun hb hF=>?_)
   ·refine A.AX.dr mixed 22 22 (A.mb 22 0) ?_
    obtain⟨hc28,hF⟩:=A.gd_some hF
    refine A.AH.q A.pb [] [43] [] [] (A.mb 22 115139) 14 [(0,.n),(1,.n),(6,.n),(7,.n),(14,.n),(15,.n),(8,.n),(16,.n)] [38,39,44,52,46,54] [Z.R64 (y4+1),Z.R64 (y4+2)] [(38,.string a0),(39,.int .i64 y4),(44,.string a0),(52,.string a0),(46,.int .i64 (y4+1)),(54,.int .i64 (y4+2))] hc28 ?_
    obtain⟨x29,hv30,hF⟩:=A.bd_some hF
    refine A.AH.v A.pb [43] [43] 2 (A.mb 22 115143) rfl (fun a w hf hh=>A.r_ixt hv30 hf) ?_
    obtain⟨hc31,hF⟩:=A.gd_some hF
    refine A.AH.q A.pb [43] [43] [] [] (A.mb 22 115199) 10 [(3,.n),(4,.n),(5,.n)] [43] [(16:Int)≠0] [(43,.int .i32 (IntKind.i32.wrap ((IntKind.i32.wrap (Int.tmod (x29.toNat:Int) 16))*64)))] hc31 ?_
    obtain⟨x32,hv33,hF⟩:=A.bd_some hF
    refine A.AH.v A.pb [43] [43] 9 (A.mb 22 115711) rfl (fun a w hf hh=>A.r_ixt hv33 hf) ?_
    obtain⟨hc34,hF⟩:=A.gd_some hF
    refine A.AH.q A.pb [43] [43] [] [] (A.mb 22 131071) 5 [(10,.n),(11,.n),(12,.n),(13,.n)] [51] [(64:Int)≠0] [(51,.int .i32 (IntKind.i32.wrap ((IntKind.i32.wrap ((IntKind.i32.wrap ((IntKind.i32.wrap (Int.tmod (x29.toNat:Int) 16))*64))+(IntKind.i32.wrap (Int.tmod (x32.toNat:Int) 64))))*64)))] hc34 ?_
    obtain⟨x35,hv36,hF⟩:=A.bd_some hF
    refine A.AH.v A.pb [43] [43] 17 (A.mb 22 262143) rfl (fun a w hf hh=>A.r_ixt hv36 hf) ?_
    obtain⟨hc37,hF⟩:=A.gd_some hF
    refine A.AH.q A.pb [43] [43] [] [] (A.mb 22 4194303) 0 [(18,.n),(19,.n),(20,.n),(21,.n)] [6] [(64:Int)≠0] [(6,.int .i32 (IntKind.i32.wrap ((IntKind.i32.wrap ((IntKind.i32.wrap ((IntKind.i32.wrap ((IntKind.i32.wrap (Int.tmod (x29.toNat:Int) 16))*64))+(IntKind.i32.wrap (Int.tmod (x32.toNat:Int) 64))))*64))+(IntKind.i32.wrap (Int.tmod (x35.toNat:Int) 64)))))] hc37 ?_
    refine A.AH.done ?_
    refine A.ee 1 ?_
    exact A.j ⟨r7,(IntKind.i32.wrap ((IntKind.i32.wrap ((IntKind.i32.wrap ((IntKind.i32.wrap ((IntKind.i32.wrap (Int.tmod (x29.toNat:Int) 16))*64))+(IntKind.i32.wrap (Int.tmod (x32.toNat:Int) 64))))*64))+(IntKind.i32.wrap (Int.tmod (x35.toNat:Int) 64)))),rfl,rfl,hr9,(A.wrap_has _ _),hF⟩
   refine A.xl 1 ?_
   refine A.q0 [] [] [.n,.n] [(59,.bool (decide (r7=4)))] ?_
   refine A.dx 1 ?_
   refine A.AX.cnd rfl hF (fun hb hF=>?_) (fun hb hF=>?_)
   ·refine A.AX.dr mixed 30 30 (A.mb 30 0) ?_
    obtain⟨hc38,hF⟩:=A.gd_some hF
    refine A.AH.q A.pb [] [43] [] [] (A.mb 30 29475267) 19 [(0,.n),(1,.n),(6,.n),(7,.n),(14,.n),(15,.n),(22,.n),(23,.n),(8,.n),(16,.n),(24,.n)] [61,62,67,75,83,69,77,85] [Z.R64 (y4+1),Z.R64 (y4+2),Z.R64 (y4+3)] [(61,.string a0),(62,.int .i64 y4),(67,.string a0),(75,.string a0),(83,.string a0),(69,.int .i64 (y4+1)),(77,.int .i64 (y4+2)),(85,.int .i64 (y4+3))] hc38 ?_
    obtain⟨x39,hv40,hF⟩:=A.bd_some hF
    refine A.AH.v A.pb [43] [43] 2 (A.mb 30 29475271) rfl (fun a w hf hh=>A.r_ixt hv40 hf) ?_
    obtain⟨hc41,hF⟩:=A.gd_some hF
    refine A.AH.q A.pb [43] [43] [] [] (A.mb 30 29475327) 15 [(3,.n),(4,.n),(5,.n)] [66] [(8:Int)≠0] [(66,.int .i32 (IntKind.i32.wrap ((IntKind.i32.wrap (Int.tmod (x39.toNat:Int) 8))*64)))] hc41 ?_
    obtain⟨x42,hv43,hF⟩:=A.bd_some hF
    refine A.AH.v A.pb [43] [43] 9 (A.mb 30 29475839) rfl (fun a w hf hh=>A.r_ixt hv43 hf) ?_
    obtain⟨hc44,hF⟩:=A.gd_some hF
    refine A.AH.q A.pb [43] [43] [] [] (A.mb 30 29491199) 10 [(10,.n),(11,.n),(12,.n),(13,.n)] [74] [(64:Int)≠0] [(74,.int .i32 (IntKind.i32.wrap ((IntKind.i32.wrap ((IntKind.i32.wrap ((IntKind.i32.wrap (Int.tmod (x39.toNat:Int) 8))*64))+(IntKind.i32.wrap (Int.tmod (x42.toNat:Int) 64))))*64)))] hc44 ?_
    obtain⟨x45,hv46,hF⟩:=A.bd_some hF
    refine A.AH.v A.pb [43] [43] 17 (A.mb 30 29622271) rfl (fun a w hf hh=>A.r_ixt hv46 hf) ?_
    obtain⟨hc47,hF⟩:=A.gd_some hF
    refine A.AH.q A.pb [43] [43] [] [] (A.mb 30 33554431) 5 [(18,.n),(19,.n),(20,.n),(21,.n)] [82] [(64:Int)≠0] [(82,.int .i32 (IntKind.i32.wrap ((IntKind.i32.wrap ((IntKind.i32.wrap ((IntKind.i32.wrap ((IntKind.i32.wrap ((IntKind.i32.wrap (Int.tmod (x39.toNat:Int) 8))*64))+(IntKind.i32.wrap (Int.tmod (x42.toNat:Int) 64))))*64))+(IntKind.i32.wrap (Int.tmod (x45.toNat:Int) 64))))*64)))] hc47 ?_
    obtain⟨x48,hv49,hF⟩:=A.bd_some hF
    refine A.AH.v A.pb [43] [43] 25 (A.mb 30 67108863) rfl (fun a w hf hh=>A.r_ixt hv49 hf) ?_
    obtain⟨hc50,hF⟩:=A.gd_some hF
    refine A.AH.q A.pb [43] [43] [] [] (A.mb 30 1073741823) 0 [(26,.n),(27,.n),(28,.n),(29,.n)] [6] [(64:Int)≠0] [(6,.int .i32 (IntKind.i32.wrap ((IntKind.i32.wrap ((IntKind.i32.wrap ((IntKind.i32.wrap ((IntKind.i32.wrap ((IntKind.i32.wrap ((IntKind.i32.wrap (Int.tmod (x39.toNat:Int) 8))*64))+(IntKind.i32.wrap (Int.tmod (x42.toNat:Int) 64))))*64))+(IntKind.i32.wrap (Int.tmod (x45.toNat:Int) 64))))*64))+(IntKind.i32.wrap (Int.tmod (x48.toNat:Int) 64)))))] hc50 ?_
    refine A.AH.done ?_
    refine A.ee 1 ?_
    exact A.j ⟨r7,(IntKind.i32.wrap ((IntKind.i32.wrap ((IntKind.i32.wrap ((IntKind.i32.wrap ((IntKind.i32.wrap ((IntKind.i32.wrap ((IntKind.i32.wrap (Int.tmod (x39.toNat:Int) 8))*64))+(IntKind.i32.wrap (Int.tmod (x42.toNat:Int) 64))))*64))+(IntKind.i32.wrap (Int.tmod (x45.toNat:Int) 64))))*64))+(IntKind.i32.wrap (Int.tmod (x48.toNat:Int) 64)))),rfl,rfl,hr9,(A.wrap_has _ _),hF⟩
   refine A.xl 0 ?_
   refine A.q0 [] [] [.n] [(5,.int .i64 1)] ?_
   refine A.de 1 ?_
   exact A.j ⟨1,65533,rfl,rfl,(A.hasl .i64 (1) rfl),(A.hasl .i32 (65533) rfl),hF⟩
  rintro _ _ ⟨y10,y12,rfl,rfl,hy11,hy13,hF⟩
  rw[F.R05_Runes_j1]at hF
  refine A.xl 1 ?_
  refine A.q0 [] [] [.n,.n,.n,.n] [(90,.slice A1 ((xs3).length) c2),(93,.agg #[.int .i64 y4,.int .i32 y12])] ?_
  refine A.AL.bsl 166 (ty:=T95) (cs:=[.int .i64 y4,.int .i32 y12]) [(y4,y12)] ⟨⟨⟨rfl,hy5⟩,⟨rfl,hy13⟩⟩,rfl⟩ (fun g14=>?_) Tryd.zeroValue96 Tryd.sizeOf96
  obtain⟨hl17,hF⟩:=A.gd_some hF
  refine A.AL.app (k:=43) [] (A.rowO (k:=166) rfl) inf96 hl17 fun A15 c16=>?_
  refine A.q0 [] [] [.n] [(3,.slice A15 ((xs3++[(y4,y12)]).length) c16)] ?_
  refine A.dl 1 ?_
  obtain⟨hc18,hF⟩:=A.gd_some hF
  refine A.q [] [] [.n,.n,.n,.n] [Z.R64 (y4+y10)] [(4,.int .i64 (y4+y10))] hc18 ?_
  refine A.de 1 ?_
  exact A.j ⟨_,Nat.lt_succ_self _,⟨(xs3++[(y4,y12)]),(y4+y10),A15,c16,rfl,rfl,(Z.i64_has hc18),hF⟩⟩
 refine A.xl 3 ?_
 refine A.q0 [] [] [.n,.n] [(2,.slice A1 ((xs3).length) c2)] ?_
 refine A.dx 1 ?_
 obtain rfl:=Option.some.inj hF
 exact A.rt1 [(0,43)] ⟨A1,c2,rfl,rfl⟩
def F.R06_text_j1 (y2:Bool):Option Bool:=some y2
def F.R06_text_j2 (y6:Bool):Option Bool:=some y6
def F.R06_text_j3 (a0:D23)(y5:Bool):Option Bool:=if y5=true then(if(a0.2.2.size:Int)≤4 then((F.R05_Valid a0.2.2).bind fun r7=>(if r7=true then((F.R05_Runes a0.2.2).bind fun r9=>(F.R06_text_j2 (decide (((r9).length:Int)=1))))else(F.R06_text_j2 false)))else(F.R06_text_j2 false))else(some (decide (a0.2.2=(ByteArray.mk #[]))))
def F.R06_text (a0:D23):Option Bool:=if a0.1=5 then(if(bif decide ((1:Int)≤(a0.2.2.size:Int))then decide ((a0.2.2.size:Int)≤16)else false)=true then((F.R05_Valid a0.2.2).bind fun r3=>(F.R06_text_j1 r3))else(F.R06_text_j1 false))else(if a0.1=12 then(F.R06_text_j3 a0 (decide (a0.1=12)))else(F.R06_text_j3 a0 (decide (a0.1=22))))
theorem R06_text_ok (a0:D23)(h0_:IntKind.i64.has a0.1)(h1_:IntKind.i64.has a0.2.1)(h2_:a0.2.2.size≤maxLen)(r:Bool)(hF:F.R06_text a0=some r):
    A.Ct Tryd.prog 92 [.agg #[.int .i64 a0.1,.int .i64 a0.2.1,.string a0.2.2]] [] [] (fun v H'=>v=.bool r∧H'=[]):=by
 refine A.Ct.enter Tryd.func92 rfl Tryd.ntmps92 rfl fun w0 F0=>?_
 rw[F.R06_text]at hF
 refine A.xl 1 ?_
 refine A.AL.box 0 (cs:=[.int .i64 a0.1,.int .i64 a0.2.1,.string a0.2.2]) fun g1=>?_
 refine A.q0 [] [] [.n] [] ?_
 refine A.dl 2 ?_
 refine A.q0 [0] [] [.n,.b 0 0] [(4,.int .i64 a0.1)] ?_
 refine A.dl 3 ?_
 refine A.q0 [] [] [.n,.n] [(8,.bool (decide (a0.1=5)))] ?_
 refine A.dx 1 ?_
 refine A.AX.cnd rfl hF (fun hb hF=>?_) (fun hb hF=>?_)
 ·refine A.AX.join [] [] (fun nl nh=>∃(y2:Bool),nl=[(2,.bool y2)]∧nh=[]∧F.R06_text_j1 y2=some r) ?_ ?_
  ·refine A.xl 0 ?_
   refine A.q0 [0] [] [.n,.b 0 2,.n,.n,.n,.sy .n,.sy (.b 0 2),.sy .n,.sy .n,.pk,.n] [(20,.bool (bif decide ((1:Int)≤(a0.2.2.size:Int))then decide ((a0.2.2.size:Int)≤16)else false))] ?_
   refine A.AL.cnd (j:=20) rfl hF (fun hF=>?_) (fun hF=>?_)
   ·refine A.q0 [0] [] [.on .n,.on (.b 0 2)] [(22,.string a0.2.2)] ?_
    refine A.AL.on (dj:=20) rfl rfl ?_
    obtain⟨r3,hv4,hF⟩:=A.bd_some hF
    refine A.AL.call 1 [] (first:=[]) (cap:=[]) cf44 (R05_Valid_ok a0.2.2 h2_ r3 hv4) .nil ?_
    rintro _ _ ⟨rfl,rfl⟩
    refine⟨by kernel_rfl,?_⟩
    refine A.q0 [] [] [.n,.n] [(2,.bool r3)] ?_
    refine A.AL.done ?_
    exact A.j ⟨r3,rfl,rfl,hF⟩
   refine A.q0 [] [] [.off,.off,.off,.n,.n] [(2,.bool false)] ?_
   refine A.AL.done ?_
   exact A.j ⟨false,rfl,rfl,hF⟩
  rintro _ _ ⟨y2,rfl,rfl,hF⟩
  rw[F.R06_text_j1]at hF
  obtain rfl:=Option.some.inj hF
  exact A.rt1 [] ⟨rfl,rfl⟩
 refine A.AX.join [1] [0] (fun nl nh=>∃(y5:Bool),nl=[(25,.bool y5)]∧nh=[]∧F.R06_text_j3 a0 y5=some r) ?_ ?_
 ·refine A.xl 1 ?_
  refine A.q0 [] [] [.n,.n] [(25,.bool (decide (a0.1=12)))] ?_
  refine A.dx 1 ?_
  refine A.AX.cnd rfl hF (fun hb hF=>?_) (fun hb hF=>?_)
  ·refine A.xe 1 ?_
   exact A.j ⟨(decide (a0.1=12)),rfl,rfl,hF⟩
  refine A.xl 0 ?_
  refine A.q0 [] [] [.n,.n] [(25,.bool (decide (a0.1=22)))] ?_
  refine A.AL.done ?_
  exact A.j ⟨(decide (a0.1=22)),rfl,rfl,hF⟩
 rintro _ _ ⟨y5,rfl,rfl,hF⟩
 rw[F.R06_text_j3]at hF
 refine A.AX.cnb rfl hF (fun hb hF=>?_) (fun hb hF=>?_)
 ·refine A.AX.join [] [] (fun nl nh=>∃(y6:Bool),nl=[(2,.bool y6)]∧nh=[]∧F.R06_text_j2 y6=some r) ?_ ?_
  ·refine A.xl 0 ?_
   refine A.q0 [0] [] [.n,.b 0 2,.n,.n,.n] [(32,.bool (decide ((a0.2.2.size:Int)≤4)))] ?_
   refine A.AL.cnp (j:=32) rfl hF (fun hb hF=>?_) (fun hb hF=>?_)
   ·refine A.q0 [0] [] [.on .n,.on (.b 0 2)] [(34,.string a0.2.2)] ?_
    refine A.AL.on (dj:=32) rfl rfl ?_
    obtain⟨r7,hv8,hF⟩:=A.bd_some hF
    refine A.AL.call 41 [] (first:=[]) (cap:=[]) cf44 (R05_Valid_ok a0.2.2 h2_ r7 hv8) .nil ?_
    rintro _ _ ⟨rfl,rfl⟩
    refine⟨by kernel_rfl,?_⟩
    refine A.q0 [] [] [.n,.n] [(37,.bool r7)] ?_
    refine A.AL.cnd (j:=37) rfl hF (fun hF=>?_) (fun hF=>?_)
    ·refine A.q0 [0] [] [.on .n,.on (.b 0 2)] [(39,.string a0.2.2)] ?_
     refine A.AL.on (dj:=37) rfl rfl ?_
     obtain⟨r9,hv10,hF⟩:=A.bd_some hF
     refine A.AL.call 81 [] (first:=[]) (cap:=[]) cf67 (R05_Runes_ok a0.2.2 h2_ r9 hv10) .nil ?_
     rintro _ _ ⟨A11,c12,rfl,rfl⟩
     refine⟨by kernel_rfl,?_⟩
     refine A.q0 [] [] [.on .n,.on .n,.n,.n] [(2,.bool (decide (((r9).length:Int)=1)))] ?_
     refine A.AL.done ?_
     exact A.j ⟨(decide (((r9).length:Int)=1)),rfl,rfl,hF⟩
    refine A.q0 [] [] [.off,.off,.off,.off,.off,.n,.n] [(2,.bool false)] ?_
    refine A.AL.done ?_
    exact A.j ⟨false,rfl,rfl,hF⟩
   refine A.q0 [] [] [.off,.off,.off,.n,.n,.off,.off,.off,.off,.off,.n,.n] [(2,.bool false)] ?_
   refine A.AL.done ?_
   exact A.j ⟨false,rfl,rfl,hF⟩
  rintro _ _ ⟨y6,rfl,rfl,hF⟩
  rw[F.R06_text_j2]at hF
  obtain rfl:=Option.some.inj hF
  exact A.rt1 [] ⟨rfl,rfl⟩
 refine A.xl 1 ?_
 refine A.q0 [0] [] [.n,.b 0 2,.n,.n] [(2,.bool (decide (a0.2.2=(ByteArray.mk #[]))))] ?_
 refine A.dx 1 ?_
 obtain rfl:=Option.some.inj hF
 exact A.rt1 [] ⟨rfl,rfl⟩
def F.R06_Check_j1 (k1:Int→Option Int)(y7:Int)(y10:Bool):Option Int:=if y10=true then(some 0)else(A.gd (Z.R64 (y7+1)) (k1 (y7+1)))
def F.R06_Check_l2 (a1:D23)(r2:(List Int)):Nat→Int→Option Int
 |0,_=>none
 |f+1,y7=>if y7<((r2).length:Int)then((A.ix r2 y7).bind fun x12=>(if x12=a1.1 then((F.R06_number (a1.1,a1.2.1,a1.2.2)).bind fun r17=>(if r17=true then((F.R06_text (a1.1,a1.2.1,a1.2.2)).bind fun r19=>(F.R06_Check_j1 (F.R06_Check_l2 a1 r2 f) y7 r19))else(F.R06_Check_j1 (F.R06_Check_l2 a1 r2 f) y7 false)))else(F.R06_Check_j1 (F.R06_Check_l2 a1 r2 f) y7 false)))else(some 60)
def F.R06_Check_j3 (a1:D23)(r2:(List Int))(y6:Bool):Option Int:=if y6=true then(some 0)else(F.R06_Check_l2 a1 r2 A.FU 0)
def F.R06_Check (a0:Int)(a1:D23):Option Int:=(F.R06_Uses a0).bind fun r2=>(if((r2).length:Int)=0 then(F.R06_Check_j3 a1 r2 (decide ((a1.1,a1.2.1,a1.2.2)=(0,0,ByteArray.mk #[]))))else(F.R06_Check_j3 a1 r2 false))
theorem R06_Check_ok (a0:Int)(a1:D23)(h0_:IntKind.i64.has a0)(h1_:IntKind.i64.has a1.1)(h2_:IntKind.i64.has a1.2.1)(h3_:a1.2.2.size≤maxLen)(r:Int)(hF:F.R06_Check a0 a1=some r):
    A.Ct Tryd.prog 65 [.int .i64 a0,.agg #[.int .i64 a1.1,.int .i64 a1.2.1,.string a1.2.2]] [] [] (fun v H'=>v=.int .i64 r∧H'=[]∧IntKind.i64.has r):=by
 refine A.Ct.enter Tryd.func65 rfl Tryd.ntmps65 rfl fun w0 F0=>?_
 rw[F.R06_Check]at hF
 refine A.xl 1 ?_
 refine A.AL.box 0 (cs:=[.int .i64 a1.1,.int .i64 a1.2.1,.string a1.2.2]) fun g1=>?_
 refine A.q0 [] [] [.n] [] ?_
 refine A.dl 2 ?_
 refine A.q0 [] [] [.n] [(7,.int .i64 a0)] ?_
 obtain⟨r2,hv3,hF⟩:=A.bd_some hF
 refine A.AL.call 1 [] (first:=[]) (cap:=[]) cf90 (R06_Uses_ok a0 h0_ r2 hv3) .nil ?_
 rintro _ _ ⟨A4,c5,rfl,rfl⟩
 refine⟨by kernel_rfl,?_⟩
 refine A.q0 [] [] [.n] [(5,.slice A4 ((r2).length) c5)] ?_
 refine A.dx 2 ?_
 refine A.AX.join [3,5] [0,1] (fun nl nh=>∃(y6:Bool),nl=[(16,.bool y6)]∧nh=[]∧F.R06_Check_j3 a1 r2 y6=some r) ?_ ?_
 ·refine A.xl 0 ?_
  refine A.q0 [] [] [.n,.n,.n,.n] [(12,.bool (decide (((r2).length:Int)=0)))] ?_
  refine A.AL.cnp (j:=12) rfl hF (fun hb hF=>?_) (fun hb hF=>?_)
  ·refine A.q0 [0] [] [.on (.b 0 0),.on .n] [(13,.agg #[.int .i64 a1.1,.int .i64 a1.2.1,.string a1.2.2]),(14,.agg #[.int .i64 0,.int .i64 0,.string (ByteArray.mk #[])])] ?_
   refine A.AL.on (dj:=12) rfl rfl ?_
   refine A.AL.val rfl (fun a w hf hh=>eqagg_eql24 (x:=(a1.1,a1.2.1,a1.2.2)) (y:=(0,0,ByteArray.mk #[])) (hf.eval rfl) (hf.eval rfl)) ?_
   refine A.q0 [] [] [.n] [(16,.bool (decide ((a1.1,a1.2.1,a1.2.2)=(0,0,ByteArray.mk #[]))))] ?_
   refine A.AL.done ?_
   exact A.j ⟨(decide ((a1.1,a1.2.1,a1.2.2)=(0,0,ByteArray.mk #[]))),rfl,rfl,hF⟩
  refine A.q0 [] [] [.off,.off,.off,.n] [(16,.bool false)] ?_
  refine A.AL.done ?_
  exact A.j ⟨false,rfl,rfl,hF⟩
 rintro _ _ ⟨y6,rfl,rfl,hF⟩
 rw[F.R06_Check_j3]at hF
 refine A.AX.cnb rfl hF (fun hb hF=>?_) (fun hb hF=>?_)
 ·refine A.xl 1 ?_
  refine A.q0 [] [] [.n] [(4,.int .i64 0)] ?_
  refine A.dx 1 ?_
  obtain rfl:=Option.some.inj hF
  exact A.rt1 [] ⟨rfl,rfl,(A.hasl .i64 (0) rfl)⟩
 refine A.xl 4 ?_
 refine A.q0 [] [] [.n] [(6,.int .i64 0)] ?_
 refine A.dx 2 ?_
 refine A.lp_ [3,5] [0,1] (fun f nl nh=>∃(y7:Int),nl=[(6,.int .i64 y7)]∧nh=[]∧IntKind.i64.has y7∧F.R06_Check_l2 a1 r2 f y7=some r) ⟨0,rfl,rfl,(A.hasl .i64 (0) rfl),hF⟩ ?_
 rintro f9 _ _ ⟨y7,rfl,rfl,hy8,hF⟩
 rcases f9 with _|f9
 ·exact A.no0 hF
 rw[F.R06_Check_l2]at hF
 refine A.xl 2 ?_
 refine A.q0 [] [] [.n,.n,.n,.n] [(20,.bool (decide (y7<((r2).length:Int))))] ?_
 refine A.dx 1 ?_
 refine A.AX.cnd rfl hF (fun hb hF=>?_) (fun hb hF=>?_)
 ·refine A.xx 4 ?_
  refine A.AX.join [3,5,6] [0,1] (fun nl nh=>∃(y10:Bool),nl=[(37,.bool y10)]∧nh=[]∧F.R06_Check_j1 (F.R06_Check_l2 a1 r2 f9) y7 y10=some r) ?_ ?_
  ·refine A.AX.dr mixed 15 15 (A.mb 15 0) ?_
   refine A.hq A.pb [] [0,1] [0] [] (A.mb 15 51) 11 [(0,.n),(1,.n),(4,.n),(5,.b 0 0)] [(23,.slice A4 ((r2).length) c5),(24,.int .i64 y7),(28,.int .i64 a1.1)] ?_
   obtain⟨x12,hv13,hF⟩:=A.bd_some hF
   refine A.AH.pko 1 203 hv13 fun ho14=>?_
   intro g16 hA15
   refine A.AH.v A.pb [0,1] [0,1,203] 2 (A.mb 15 55) rfl (fun a w hf hh=>A.r_ixo (t:=(Z.Ty.int .i64)) hv13 hA15 hf) ?_
   refine A.hq A.pb [0,1,203] [0,1,203] [] [203] (A.mb 15 255) 7 [(3,.e 0 0),(6,.n),(7,.n)] [(30,.bool (decide (x12=a1.1)))] ?_
   refine A.AH.cnp (j:=30) rfl hF (fun hb hF=>?_) (fun hb hF=>?_)
   ·refine A.hq A.pb [0,1,203] [0,1,203] [0] [] (A.mb 15 511) 6 [(8,.on (.b 0 0))] [(31,.agg #[.int .i64 a1.1,.int .i64 a1.2.1,.string a1.2.2])] ?_
    refine A.AH.one 9 ?_
    refine A.AL.on (dj:=30) rfl rfl ?_
    obtain⟨r17,hv18,hF⟩:=A.bd_some hF
    refine A.AL.call 204 [] (first:=[]) (cap:=[]) cf91 (R06_number_ok (a1.1,a1.2.1,a1.2.2) h1_ h2_ h3_ r17 hv18) .nil ?_
    rintro _ _ ⟨rfl,rfl⟩
    refine⟨by kernel_rfl,?_⟩
    refine A.AH.nx (A.mb 15 1023) [0,1,203] ?_
    refine A.hq A.pb [0,1,203] [0,1,203] [] [] (A.mb 15 4095) 3 [(10,.n),(11,.n)] [(34,.bool r17)] ?_
    refine A.AH.cnd (j:=34) rfl hF (fun hF=>?_) (fun hF=>?_)
    ·refine A.hq A.pb [0,1,203] [0,1,203] [0] [] (A.mb 15 8191) 2 [(12,.on (.b 0 0))] [(35,.agg #[.int .i64 a1.1,.int .i64 a1.2.1,.string a1.2.2])] ?_
     refine A.AH.one 13 ?_
     refine A.AL.on (dj:=34) rfl rfl ?_
     obtain⟨r19,hv20,hF⟩:=A.bd_some hF
     refine A.AL.call 244 [] (first:=[]) (cap:=[]) cf92 (R06_text_ok (a1.1,a1.2.1,a1.2.2) h1_ h2_ h3_ r19 hv20) .nil ?_
     rintro _ _ ⟨rfl,rfl⟩
     refine⟨by kernel_rfl,?_⟩
     refine A.AH.nx (A.mb 15 16383) [0,1,203] ?_
     refine A.hq A.pb [0,1,203] [0,1,203] [] [] (A.mb 15 32767) 0 [(14,.n)] [(37,.bool r19)] ?_
     refine A.AH.done ?_
     exact A.j ⟨r19,rfl,rfl,hF⟩
    refine A.hq A.pb [0,1,203] [0,1,203] [] [] (A.mb 15 32767) 0 [(12,.off),(13,.off),(14,.n)] [(37,.bool false)] ?_
    refine A.AH.done ?_
    exact A.j ⟨false,rfl,rfl,hF⟩
   refine A.hq A.pb [0,1,203] [0,1,203] [] [] (A.mb 15 32767) 0 [(8,.off),(9,.off),(10,.n),(11,.n),(12,.off),(13,.off),(14,.n)] [(37,.bool false)] ?_
   refine A.AH.done ?_
   exact A.j ⟨false,rfl,rfl,hF⟩
  rintro _ _ ⟨y10,rfl,rfl,hF⟩
  rw[F.R06_Check_j1]at hF
  refine A.AX.cnb rfl hF (fun hb hF=>?_) (fun hb hF=>?_)
  ·refine A.xl 1 ?_
   refine A.q0 [] [] [.n] [(4,.int .i64 0)] ?_
   refine A.dx 1 ?_
   obtain rfl:=Option.some.inj hF
   exact A.rt1 [] ⟨rfl,rfl,(A.hasl .i64 (0) rfl)⟩
  refine A.xl 3 ?_
  obtain⟨hc11,hF⟩:=A.gd_some hF
  refine A.q [] [] [.n,.n,.n] [Z.R64 (y7+1)] [(6,.int .i64 (y7+1))] hc11 ?_
  refine A.AL.done ?_
  exact A.j ⟨_,Nat.lt_succ_self _,⟨(y7+1),rfl,rfl,(Z.i64_has hc11),hF⟩⟩
 refine A.xl 3 ?_
 refine A.q0 [] [] [.n] [(4,.int .i64 60)] ?_
 refine A.dx 1 ?_
 obtain rfl:=Option.some.inj hF
 exact A.rt1 [] ⟨rfl,rfl,(A.hasl .i64 (60) rfl)⟩
end Go.Proofs.YtfpemeeadiigcaaDoor
end
section
set_option linter.unusedVariables false
set_option linter.unusedSimpArgs false
set_option maxRecDepth 20000
set_option maxHeartbeats 8000000
set_option synthInstance.maxSize 1000000
set_option synthInstance.maxHeartbeats 400000
namespace Go.Proofs.YtfpemeeadiigcaaDoor
open Go.RowKit
def F.R18_form_j1 (y3:Bool):Option Bool:=some y3
def F.R18_form_j2 (y4:Bool):Option Bool:=some y4
def F.R18_form_j3 (y5:Bool):Option Bool:=some y5
def F.R18_form (a0:D27):Option Bool:=if a0.2.2.1=1 then(if a0.2.2.2.1=0 then(F.R18_form_j1 (decide ((a0.2.2.2.2.1,a0.2.2.2.2.2.1,a0.2.2.2.2.2.2)=(0,0,ByteArray.mk #[]))))else(F.R18_form_j1 false))else(if a0.2.2.1=2 then(if(bif decide ((0:Int)≤a0.2.2.2.1)then decide (a0.2.2.2.1≤1048576)else false)=true then(F.R18_form_j2 (decide ((a0.2.2.2.2.1,a0.2.2.2.2.2.1,a0.2.2.2.2.2.2)=(0,0,ByteArray.mk #[]))))else(F.R18_form_j2 false))else(if a0.2.2.1=3 then(if a0.2.2.2.1=0 then((F.R06_Check 2 (a0.2.2.2.2.1,a0.2.2.2.2.2.1,a0.2.2.2.2.2.2)).bind fun r6=>(F.R18_form_j3 (decide (r6=0))))else(F.R18_form_j3 false))else(some false)))
theorem R18_form_ok (a0:D27)(h0_:IntKind.i64.has a0.1)(h1_:IntKind.i64.has a0.2.1)(h2_:IntKind.i64.has a0.2.2.1)(h3_:IntKind.i64.has a0.2.2.2.1)(h4_:IntKind.i64.has a0.2.2.2.2.1)(h5_:IntKind.i64.has a0.2.2.2.2.2.1)(h6_:a0.2.2.2.2.2.2.size≤maxLen)(r:Bool)(hF:F.R18_form a0=some r):
    A.Ct Tryd.prog 46 [.agg #[.int .i64 a0.1,.int .i64 a0.2.1,.int .i64 a0.2.2.1,.int .i64 a0.2.2.2.1,.int .i64 a0.2.2.2.2.1,.int .i64 a0.2.2.2.2.2.1,.string a0.2.2.2.2.2.2]] [] [] (fun v H'=>v=.bool r∧H'=[]):=by
 refine A.Ct.enter Tryd.func46 rfl Tryd.ntmps46 rfl fun w0 F0=>?_
 rw[F.R18_form]at hF
 refine A.xl 1 ?_
 refine A.AL.box 0 (cs:=[.int .i64 a0.1,.int .i64 a0.2.1,.int .i64 a0.2.2.1,.int .i64 a0.2.2.2.1,.int .i64 a0.2.2.2.2.1,.int .i64 a0.2.2.2.2.2.1,.string a0.2.2.2.2.2.2]) fun g1=>?_
 refine A.q0 [] [] [.n] [] ?_
 refine A.dl 2 ?_
 refine A.q0 [] [] [.n] [(4,.agg #[.int .i64 0,.int .i64 0,.string (ByteArray.mk #[])])] ?_
 refine A.AL.alloc 1 (cs:=[.int .i64 0,.int .i64 0,.string (ByteArray.mk #[])]) Tryd.zeroValue24 fun g2=>?_
 refine A.sw 1 [] [.int .i64 0,.int .i64 0,.string (ByteArray.mk #[])] ?_
 refine A.dl 2 ?_
 refine A.q0 [0] [] [.n,.b 0 2] [(6,.int .i64 a0.2.2.1)] ?_
 refine A.dl 3 ?_
 refine A.q0 [] [] [.n,.n] [(7,.bool (decide (a0.2.2.1=1)))] ?_
 refine A.dx 1 ?_
 refine A.AX.cnd rfl hF (fun hb hF=>?_) (fun hb hF=>?_)
 ·refine A.AX.join [] [] (fun nl nh=>∃(y3:Bool),nl=[(2,.bool y3)]∧nh=[]∧F.R18_form_j1 y3=some r) ?_ ?_
  ·refine A.xl 0 ?_
   refine A.q0 [0] [] [.n,.b 0 3,.n,.n] [(12,.bool (decide (a0.2.2.2.1=0)))] ?_
   refine A.AL.cnp (j:=12) rfl hF (fun hb hF=>?_) (fun hb hF=>?_)
   ·refine A.q0 [0,1] [] [.on .n,.on (.b 0 4),.on (.b 1 0)] [(14,.agg #[.int .i64 a0.2.2.2.2.1,.int .i64 a0.2.2.2.2.2.1,.string a0.2.2.2.2.2.2]),(15,.agg #[.int .i64 0,.int .i64 0,.string (ByteArray.mk #[])])] ?_
    refine A.AL.on (dj:=12) rfl rfl ?_
    refine A.AL.val rfl (fun a w hf hh=>eqagg_eql24 (x:=(a0.2.2.2.2.1,a0.2.2.2.2.2.1,a0.2.2.2.2.2.2)) (y:=(0,0,ByteArray.mk #[])) (hf.eval rfl) (hf.eval rfl)) ?_
    refine A.q0 [] [] [.n,.n] [(2,.bool (decide ((a0.2.2.2.2.1,a0.2.2.2.2.2.1,a0.2.2.2.2.2.2)=(0,0,ByteArray.mk #[]))))] ?_
    refine A.AL.done ?_
    exact A.j ⟨(decide ((a0.2.2.2.2.1,a0.2.2.2.2.2.1,a0.2.2.2.2.2.2)=(0,0,ByteArray.mk #[]))),rfl,rfl,hF⟩
   refine A.q0 [] [] [.off,.off,.off,.off,.n,.n] [(2,.bool false)] ?_
   refine A.AL.done ?_
   exact A.j ⟨false,rfl,rfl,hF⟩
  rintro _ _ ⟨y3,rfl,rfl,hF⟩
  rw[F.R18_form_j1]at hF
  obtain rfl:=Option.some.inj hF
  exact A.rt1 [] ⟨rfl,rfl⟩
 refine A.xl 1 ?_
 refine A.q0 [] [] [.n,.n] [(18,.bool (decide (a0.2.2.1=2)))] ?_
 refine A.dx 1 ?_
 refine A.AX.cnd rfl hF (fun hb hF=>?_) (fun hb hF=>?_)
 ·refine A.AX.join [] [] (fun nl nh=>∃(y4:Bool),nl=[(2,.bool y4)]∧nh=[]∧F.R18_form_j2 y4=some r) ?_ ?_
  ·refine A.xl 0 ?_
   refine A.q0 [0] [] [.n,.b 0 3,.n,.n,.sy .n,.sy (.b 0 3),.sy .n,.pk,.n] [(28,.bool (bif decide ((0:Int)≤a0.2.2.2.1)then decide (a0.2.2.2.1≤1048576)else false))] ?_
   refine A.AL.cnd (j:=28) rfl hF (fun hF=>?_) (fun hF=>?_)
   ·refine A.q0 [0,1] [] [.on .n,.on (.b 0 4),.on (.b 1 0)] [(30,.agg #[.int .i64 a0.2.2.2.2.1,.int .i64 a0.2.2.2.2.2.1,.string a0.2.2.2.2.2.2]),(31,.agg #[.int .i64 0,.int .i64 0,.string (ByteArray.mk #[])])] ?_
    refine A.AL.on (dj:=28) rfl rfl ?_
    refine A.AL.val rfl (fun a w hf hh=>eqagg_eql24 (x:=(a0.2.2.2.2.1,a0.2.2.2.2.2.1,a0.2.2.2.2.2.2)) (y:=(0,0,ByteArray.mk #[])) (hf.eval rfl) (hf.eval rfl)) ?_
    refine A.q0 [] [] [.n,.n] [(2,.bool (decide ((a0.2.2.2.2.1,a0.2.2.2.2.2.1,a0.2.2.2.2.2.2)=(0,0,ByteArray.mk #[]))))] ?_
    refine A.AL.done ?_
    exact A.j ⟨(decide ((a0.2.2.2.2.1,a0.2.2.2.2.2.1,a0.2.2.2.2.2.2)=(0,0,ByteArray.mk #[]))),rfl,rfl,hF⟩
   refine A.q0 [] [] [.off,.off,.off,.off,.n,.n] [(2,.bool false)] ?_
   refine A.AL.done ?_
   exact A.j ⟨false,rfl,rfl,hF⟩
  rintro _ _ ⟨y4,rfl,rfl,hF⟩
  rw[F.R18_form_j2]at hF
  obtain rfl:=Option.some.inj hF
  exact A.rt1 [] ⟨rfl,rfl⟩
 refine A.xl 1 ?_
 refine A.q0 [] [] [.n,.n] [(34,.bool (decide (a0.2.2.1=3)))] ?_
 refine A.dx 1 ?_
 refine A.AX.cnd rfl hF (fun hb hF=>?_) (fun hb hF=>?_)
 ·refine A.AX.join [] [] (fun nl nh=>∃(y5:Bool),nl=[(2,.bool y5)]∧nh=[]∧F.R18_form_j3 y5=some r) ?_ ?_
  ·refine A.xl 0 ?_
   refine A.q0 [0] [] [.n,.b 0 3,.n,.n] [(39,.bool (decide (a0.2.2.2.1=0)))] ?_
   refine A.AL.cnp (j:=39) rfl hF (fun hb hF=>?_) (fun hb hF=>?_)
   ·refine A.q0 [0] [] [.on .n,.on (.b 0 4)] [(41,.agg #[.int .i64 a0.2.2.2.2.1,.int .i64 a0.2.2.2.2.2.1,.string a0.2.2.2.2.2.2])] ?_
    refine A.AL.on (dj:=39) rfl rfl ?_
    obtain⟨r6,hv7,hF⟩:=A.bd_some hF
    refine A.AL.call 2 [] (first:=[]) (cap:=[]) cf65 (R06_Check_ok 2 (a0.2.2.2.2.1,a0.2.2.2.2.2.1,a0.2.2.2.2.2.2) (A.hasl .i64 (2) rfl) h4_ h5_ h6_ r6 hv7) .nil ?_
    rintro _ _ ⟨rfl,rfl,hr8⟩
    refine⟨by kernel_rfl,?_⟩
    refine A.q0 [] [] [.on .n,.n,.n] [(2,.bool (decide (r6=0)))] ?_
    refine A.AL.done ?_
    exact A.j ⟨(decide (r6=0)),rfl,rfl,hF⟩
   refine A.q0 [] [] [.off,.off,.off,.off,.n,.n] [(2,.bool false)] ?_
   refine A.AL.done ?_
   exact A.j ⟨false,rfl,rfl,hF⟩
  rintro _ _ ⟨y5,rfl,rfl,hF⟩
  rw[F.R18_form_j3]at hF
  obtain rfl:=Option.some.inj hF
  exact A.rt1 [] ⟨rfl,rfl⟩
 refine A.xl 1 ?_
 refine A.q0 [] [] [.n] [(2,.bool false)] ?_
 refine A.dx 1 ?_
 obtain rfl:=Option.some.inj hF
 exact A.rt1 [] ⟨rfl,rfl⟩
def F.R18_Tag (a0:D25):Option (ByteArray×Bool):=if(bif decide (a0.2.1=11)then decide (a0.2.2.2.1.1=41)else false)=true then(some (ByteArray.mk #[116,111,116,97,108,47,111,110,101],true))else(if(bif decide (a0.2.1=11)then decide (a0.2.2.2.1.1=42)else false)=true then(some (ByteArray.mk #[116,111,116,97,108,47,115,105,122,101],true))else(if a0.2.1=16 then(some (ByteArray.mk #[102,114,101,115,104],true))else(some (ByteArray.mk #[],false))))
theorem R18_Tag_ok (a0:D25)(A2_:Option Addr)(c3_:Nat)(h0_:IntKind.i64.has a0.1)(h1_:IntKind.i64.has a0.2.1)(h4_:IntKind.i64.has a0.2.2.2.1.1)(h5_:IntKind.i64.has a0.2.2.2.1.2.1)(h6_:a0.2.2.2.1.2.2.size≤maxLen)(h7_:a0.2.2.2.2.1.size≤maxLen)(h8_:IntKind.i64.has a0.2.2.2.2.2.1)(h9_:IntKind.i64.has a0.2.2.2.2.2.2)(r:ByteArray×Bool)(hF:F.R18_Tag a0=some r):
    A.Ct Tryd.prog 47 [.agg #[.int .i64 a0.1,.int .i64 a0.2.1,.slice A2_ ((a0.2.2.1).length) c3_,.int .i64 a0.2.2.2.1.1,.int .i64 a0.2.2.2.1.2.1,.string a0.2.2.2.1.2.2,.string a0.2.2.2.2.1,.int .i64 a0.2.2.2.2.2.1,.int .i64 a0.2.2.2.2.2.2]] [(0,.sh (.slice (Z.Ty.int .i64)) [.slice A2_ (a0.2.2.1).length c3_] a0.2.2.1)] [] (fun v H'=>v=.tuple #[.string r.1,.bool r.2]∧H'=[]∧r.1.size≤maxLen):=by
 refine A.Ct.enter Tryd.func47 rfl Tryd.ntmps47 rfl fun w0 F0=>?_
 rw[F.R18_Tag]at hF
 refine A.xl 1 ?_
 refine A.AL.box 1 (cs:=[.int .i64 a0.1,.int .i64 a0.2.1,.slice A2_ ((a0.2.2.1).length) c3_,.int .i64 a0.2.2.2.1.1,.int .i64 a0.2.2.2.1.2.1,.string a0.2.2.2.1.2.2,.string a0.2.2.2.2.1,.int .i64 a0.2.2.2.2.2.1,.int .i64 a0.2.2.2.2.2.2]) fun g1=>?_
 refine A.q0 [] [] [.n,.n] [] ?_
 refine A.dl 4 ?_
 refine A.q0 [1] [] [.n,.b 0 1,.n,.n,.sy .n,.sy .n,.sy (.b 0 3),.sy .n,.pk,.n] [(4,.bool (bif decide (a0.2.1=11)then decide (a0.2.2.2.1.1=41)else false))] ?_
 refine A.dx 1 ?_
 refine A.AX.cnb rfl hF (fun hb hF=>?_) (fun hb hF=>?_)
 ·refine A.xl 1 ?_
  refine A.q0 [] [] [.n,.n] [(2,.string (ByteArray.mk #[116,111,116,97,108,47,111,110,101])),(3,.bool true)] ?_
  refine A.dx 1 ?_
  obtain rfl:=Option.some.inj hF
  exact A.rt2 [] ⟨rfl,rfl,(A.szl (ByteArray.mk #[116,111,116,97,108,47,111,110,101]) rfl)⟩
 refine A.xl 1 ?_
 refine A.q0 [1] [] [.n,.b 0 1,.n,.n,.sy .n,.sy .n,.sy (.b 0 3),.sy .n,.pk,.n] [(14,.bool (bif decide (a0.2.1=11)then decide (a0.2.2.2.1.1=42)else false))] ?_
 refine A.dx 1 ?_
 refine A.AX.cnb rfl hF (fun hb hF=>?_) (fun hb hF=>?_)
 ·refine A.xl 1 ?_
  refine A.q0 [] [] [.n,.n] [(2,.string (ByteArray.mk #[116,111,116,97,108,47,115,105,122,101])),(3,.bool true)] ?_
  refine A.dx 1 ?_
  obtain rfl:=Option.some.inj hF
  exact A.rt2 [] ⟨rfl,rfl,(A.szl (ByteArray.mk #[116,111,116,97,108,47,115,105,122,101]) rfl)⟩
 refine A.xl 1 ?_
 refine A.q0 [1] [] [.n,.b 0 1,.n,.n] [(24,.bool (decide (a0.2.1=16)))] ?_
 refine A.dx 1 ?_
 refine A.AX.cnd rfl hF (fun hb hF=>?_) (fun hb hF=>?_)
 ·refine A.xl 1 ?_
  refine A.q0 [] [] [.n,.n] [(2,.string (ByteArray.mk #[102,114,101,115,104])),(3,.bool true)] ?_
  refine A.dx 1 ?_
  obtain rfl:=Option.some.inj hF
  exact A.rt2 [] ⟨rfl,rfl,(A.szl (ByteArray.mk #[102,114,101,115,104]) rfl)⟩
 refine A.xl 4 ?_
 refine A.q0 [] [] [.n,.n] [(2,.string (ByteArray.mk #[])),(3,.bool false)] ?_
 refine A.dx 1 ?_
 obtain rfl:=Option.some.inj hF
 exact A.rt2 [] ⟨rfl,rfl,(A.szl (ByteArray.mk #[]) rfl)⟩
def F.R18_Fits_j1 (a0:D25)(a1:D25)(a2:D27)(y4:Bool):Option Int:=if y4=true then(some 180)else((F.R18_Tag (a0.1,a0.2.1,a0.2.2.1,(a0.2.2.2.1.1,a0.2.2.2.1.2.1,a0.2.2.2.1.2.2),a0.2.2.2.2.1,a0.2.2.2.2.2.1,a0.2.2.2.2.2.2)).bind fun r5=>((F.R18_Tag (a1.1,a1.2.1,a1.2.2.1,(a1.2.2.2.1.1,a1.2.2.2.1.2.1,a1.2.2.2.1.2.2),a1.2.2.2.2.1,a1.2.2.2.2.2.1,a1.2.2.2.2.2.2)).bind fun r8=>(if(bif bif !r5.2 then true else !r8.2 then true else decide (r5.1≠r8.1))=true then(some 181)else(if(bif decide (a2.2.2.1=2)then decide (r5.1=(ByteArray.mk #[102,114,101,115,104]))else false)=true then(some 181)else(some 0)))))
def F.R18_Fits (a0:D25)(a1:D25)(a2:D27):Option Int:=if(bif decide (a2.1≠a0.1)then true else decide (a2.2.1≠a1.1))=true then(F.R18_Fits_j1 a0 a1 a2 true)else((F.R18_form (a2.1,a2.2.1,a2.2.2.1,a2.2.2.2.1,(a2.2.2.2.2.1,a2.2.2.2.2.2.1,a2.2.2.2.2.2.2))).bind fun r11=>(F.R18_Fits_j1 a0 a1 a2 (!r11)))
theorem R18_Fits_ok (a0:D25)(a1:D25)(a2:D27)(A2_:Option Addr)(c3_:Nat)(A12_:Option Addr)(c13_:Nat)(h0_:IntKind.i64.has a0.1)(h1_:IntKind.i64.has a0.2.1)(h4_:IntKind.i64.has a0.2.2.2.1.1)(h5_:IntKind.i64.has a0.2.2.2.1.2.1)(h6_:a0.2.2.2.1.2.2.size≤maxLen)(h7_:a0.2.2.2.2.1.size≤maxLen)(h8_:IntKind.i64.has a0.2.2.2.2.2.1)(h9_:IntKind.i64.has a0.2.2.2.2.2.2)(h10_:IntKind.i64.has a1.1)(h11_:IntKind.i64.has a1.2.1)(h14_:IntKind.i64.has a1.2.2.2.1.1)(h15_:IntKind.i64.has a1.2.2.2.1.2.1)(h16_:a1.2.2.2.1.2.2.size≤maxLen)(h17_:a1.2.2.2.2.1.size≤maxLen)(h18_:IntKind.i64.has a1.2.2.2.2.2.1)(h19_:IntKind.i64.has a1.2.2.2.2.2.2)(h20_:IntKind.i64.has a2.1)(h21_:IntKind.i64.has a2.2.1)(h22_:IntKind.i64.has a2.2.2.1)(h23_:IntKind.i64.has a2.2.2.2.1)(h24_:IntKind.i64.has a2.2.2.2.2.1)(h25_:IntKind.i64.has a2.2.2.2.2.2.1)(h26_:a2.2.2.2.2.2.2.size≤maxLen)(r:Int)(hF:F.R18_Fits a0 a1 a2=some r):
    A.Ct Tryd.prog 28 [.agg #[.int .i64 a0.1,.int .i64 a0.2.1,.slice A2_ ((a0.2.2.1).length) c3_,.int .i64 a0.2.2.2.1.1,.int .i64 a0.2.2.2.1.2.1,.string a0.2.2.2.1.2.2,.string a0.2.2.2.2.1,.int .i64 a0.2.2.2.2.2.1,.int .i64 a0.2.2.2.2.2.2],.agg #[.int .i64 a1.1,.int .i64 a1.2.1,.slice A12_ ((a1.2.2.1).length) c13_,.int .i64 a1.2.2.2.1.1,.int .i64 a1.2.2.2.1.2.1,.string a1.2.2.2.1.2.2,.string a1.2.2.2.2.1,.int .i64 a1.2.2.2.2.2.1,.int .i64 a1.2.2.2.2.2.2],.agg #[.int .i64 a2.1,.int .i64 a2.2.1,.int .i64 a2.2.2.1,.int .i64 a2.2.2.2.1,.int .i64 a2.2.2.2.2.1,.int .i64 a2.2.2.2.2.2.1,.string a2.2.2.2.2.2.2]] [(0,.sh (.slice (Z.Ty.int .i64)) [.slice A2_ (a0.2.2.1).length c3_] a0.2.2.1),(1,.sh (.slice (Z.Ty.int .i64)) [.slice A12_ (a1.2.2.1).length c13_] a1.2.2.1)] [] (fun v H'=>v=.int .i64 r∧H'=[]∧IntKind.i64.has r):=by
 refine A.Ct.enter Tryd.func28 rfl Tryd.ntmps28 rfl fun w0 F0=>?_
 rw[F.R18_Fits]at hF
 refine A.xl 1 ?_
 refine A.AL.box 2 (cs:=[.int .i64 a0.1,.int .i64 a0.2.1,.slice A2_ ((a0.2.2.1).length) c3_,.int .i64 a0.2.2.2.1.1,.int .i64 a0.2.2.2.1.2.1,.string a0.2.2.2.1.2.2,.string a0.2.2.2.2.1,.int .i64 a0.2.2.2.2.2.1,.int .i64 a0.2.2.2.2.2.2]) fun g1=>?_
 refine A.AL.box 3 (cs:=[.int .i64 a1.1,.int .i64 a1.2.1,.slice A12_ ((a1.2.2.1).length) c13_,.int .i64 a1.2.2.2.1.1,.int .i64 a1.2.2.2.1.2.1,.string a1.2.2.2.1.2.2,.string a1.2.2.2.2.1,.int .i64 a1.2.2.2.2.2.1,.int .i64 a1.2.2.2.2.2.2]) fun g2=>?_
 refine A.AL.box 4 (cs:=[.int .i64 a2.1,.int .i64 a2.2.1,.int .i64 a2.2.2.1,.int .i64 a2.2.2.2.1,.int .i64 a2.2.2.2.2.1,.int .i64 a2.2.2.2.2.2.1,.string a2.2.2.2.2.2.2]) fun g3=>?_
 refine A.q0 [] [] [.n] [] ?_
 refine A.dx 2 ?_
 refine A.AX.join [3,4,5] [0,1,2,3,4] (fun nl nh=>∃(y4:Bool),nl=[(27,.bool y4)]∧nh=[]∧F.R18_Fits_j1 a0 a1 a2 y4=some r) ?_ ?_
 ·refine A.xl 0 ?_
  refine A.q0 [4,2,3] [] [.n,.b 0 0,.n,.b 1 0,.n,.n,.sy .n,.sy (.b 0 1),.sy .n,.sy (.b 2 0),.sy .n,.pk,.n] [(23,.bool (bif decide (a2.1≠a0.1)then true else decide (a2.2.1≠a1.1)))] ?_
  refine A.AL.cnd (j:=23) rfl hF (fun hF=>?_) (fun hF=>?_)
  ·refine A.q0 [] [] [.off,.off,.off,.n] [(27,.bool true)] ?_
   refine A.AL.done ?_
   exact A.j ⟨true,rfl,rfl,hF⟩
  refine A.q0 [4] [] [.on (.b 0 0)] [(24,.agg #[.int .i64 a2.1,.int .i64 a2.2.1,.int .i64 a2.2.2.1,.int .i64 a2.2.2.2.1,.int .i64 a2.2.2.2.2.1,.int .i64 a2.2.2.2.2.2.1,.string a2.2.2.2.2.2.2])] ?_
  refine A.AL.on (dj:=23) rfl rfl ?_
  obtain⟨r11,hv12,hF⟩:=A.bd_some hF
  refine A.AL.call 5 [] (first:=[]) (cap:=[]) cf46 (R18_form_ok (a2.1,a2.2.1,a2.2.2.1,a2.2.2.2.1,(a2.2.2.2.2.1,a2.2.2.2.2.2.1,a2.2.2.2.2.2.2)) h20_ h21_ h22_ h23_ h24_ h25_ h26_ r11 hv12) .nil ?_
  rintro _ _ ⟨rfl,rfl⟩
  refine⟨by kernel_rfl,?_⟩
  refine A.q0 [] [] [.on .n,.n] [(27,.bool (!r11))] ?_
  refine A.AL.done ?_
  exact A.j ⟨(!r11),rfl,rfl,hF⟩
 rintro _ _ ⟨y4,rfl,rfl,hF⟩
 rw[F.R18_Fits_j1]at hF
 refine A.AX.cnb rfl hF (fun hb hF=>?_) (fun hb hF=>?_)
 ·refine A.xl 1 ?_
  refine A.q0 [] [] [.n] [(6,.int .i64 180)] ?_
  refine A.dx 1 ?_
  obtain rfl:=Option.some.inj hF
  exact A.rt1 [] ⟨rfl,rfl,(A.hasl .i64 (180) rfl)⟩
 refine A.xl 3 ?_
 refine A.q0 [2] [] [.b 0 0] [(29,.agg #[.int .i64 a0.1,.int .i64 a0.2.1,.slice A2_ ((a0.2.2.1).length) c3_,.int .i64 a0.2.2.2.1.1,.int .i64 a0.2.2.2.1.2.1,.string a0.2.2.2.1.2.2,.string a0.2.2.2.2.1,.int .i64 a0.2.2.2.2.2.1,.int .i64 a0.2.2.2.2.2.2])] ?_
 obtain⟨r5,hv6,hF⟩:=A.bd_some hF
 refine A.AL.call 45 [] (first:=[]) (cap:=[]) cf47 (R18_Tag_ok (a0.1,a0.2.1,a0.2.2.1,(a0.2.2.2.1.1,a0.2.2.2.1.2.1,a0.2.2.2.1.2.2),a0.2.2.2.2.1,a0.2.2.2.2.2.1,a0.2.2.2.2.2.2) A2_ c3_ h0_ h1_ h4_ h5_ h6_ h7_ h8_ h9_ r5 hv6) (.s 0 .nil) ?_
 rintro _ _ ⟨rfl,rfl,hr7⟩
 refine⟨by kernel_rfl,?_⟩
 refine A.q0 [] [] [.n,.n,.n,.n,.n] [(7,.string r5.1),(8,.bool r5.2)] ?_
 refine A.dl 2 ?_
 refine A.q0 [3] [] [.b 0 0] [(34,.agg #[.int .i64 a1.1,.int .i64 a1.2.1,.slice A12_ ((a1.2.2.1).length) c13_,.int .i64 a1.2.2.2.1.1,.int .i64 a1.2.2.2.1.2.1,.string a1.2.2.2.1.2.2,.string a1.2.2.2.2.1,.int .i64 a1.2.2.2.2.2.1,.int .i64 a1.2.2.2.2.2.2])] ?_
 obtain⟨r8,hv9,hF⟩:=A.bd_some hF
 refine A.AL.call 85 [] (first:=[]) (cap:=[]) cf47 (R18_Tag_ok (a1.1,a1.2.1,a1.2.2.1,(a1.2.2.2.1.1,a1.2.2.2.1.2.1,a1.2.2.2.1.2.2),a1.2.2.2.2.1,a1.2.2.2.2.2.1,a1.2.2.2.2.2.2) A12_ c13_ h10_ h11_ h14_ h15_ h16_ h17_ h18_ h19_ r8 hv9) (.s 1 .nil) ?_
 rintro _ _ ⟨rfl,rfl,hr10⟩
 refine⟨by kernel_rfl,?_⟩
 refine A.q0 [] [] [.n,.n,.n,.n,.n] [(9,.string r8.1),(10,.bool r8.2)] ?_
 refine A.dl 3 ?_
 refine A.q0 [] [] [.n,.n,.n,.sy .n,.sy .n,.pk,.n,.sy .n,.sy .n,.sy .n,.pk,.n] [(49,.bool (bif bif !r5.2 then true else !r8.2 then true else decide (r5.1≠r8.1)))] ?_
 refine A.AL.cnd (j:=49) rfl hF (fun hF=>?_) (fun hF=>?_)
 ·refine A.q0 [] [] [.off,.off,.off,.off,.off,.off,.off,.n] [(57,.bool true)] ?_
  refine A.dx 1 ?_
  refine A.AX.cnt rfl ?_
  refine A.xl 1 ?_
  refine A.q0 [] [] [.n] [(6,.int .i64 181)] ?_
  refine A.dx 1 ?_
  obtain rfl:=Option.some.inj hF
  exact A.rt1 [] ⟨rfl,rfl,(A.hasl .i64 (181) rfl)⟩
 refine A.q0 [4] [] [.on .n,.on (.b 0 2),.on .n,.on .n,.sy .n,.sy .n,.on .pk,.n] [(57,.bool (bif decide (a2.2.2.1=2)then decide (r5.1=(ByteArray.mk #[102,114,101,115,104]))else false))] ?_
 refine A.dx 1 ?_
 refine A.AX.cnb rfl hF (fun hb hF=>?_) (fun hb hF=>?_)
 ·refine A.xl 1 ?_
  refine A.q0 [] [] [.n] [(6,.int .i64 181)] ?_
  refine A.dx 1 ?_
  obtain rfl:=Option.some.inj hF
  exact A.rt1 [] ⟨rfl,rfl,(A.hasl .i64 (181) rfl)⟩
 refine A.xl 3 ?_
 refine A.q0 [] [] [.n] [(6,.int .i64 0)] ?_
 refine A.dx 1 ?_
 obtain rfl:=Option.some.inj hF
 exact A.rt1 [] ⟨rfl,rfl,(A.hasl .i64 (0) rfl)⟩
def F.R18_scaled (a0:Int)(a1:Int):Option Int:=A.gd (((decide (a1≠0))=true→a1≠0)∧((decide (a1≠0))=true→Z.R64 (Int.tdiv 1099511627776 a1))) (if(bif decide (a1≠0)then decide (Int.tdiv 1099511627776 a1<a0)else false)=true then(some 1099511627776)else(A.gd (Z.R64 (a0*a1)) (some (a0*a1))))
theorem R18_scaled_ok (a0:Int)(a1:Int)(h0_:IntKind.i64.has a0)(h1_:IntKind.i64.has a1)(r:Int)(hF:F.R18_scaled a0 a1=some r):
    A.Ct Tryd.prog 48 [.int .i64 a0,.int .i64 a1] [] [] (fun v H'=>v=.int .i64 r∧H'=[]∧IntKind.i64.has r):=by
 refine A.Ct.enter Tryd.func48 rfl Tryd.ntmps48 rfl fun w0 F0=>?_
 rw[F.R18_scaled]at hF
 refine A.xl 1 ?_
 refine A.q0 [] [] [.n] [] ?_
 refine A.dl 3 ?_
 obtain⟨hc1,hF⟩:=A.gd_some hF
 refine A.q [] [] [.n,.n,.n,.sy .n,.sy .n,.sy .n,.sy .n,.pk] [(decide (a1≠0))=true→a1≠0,(decide (a1≠0))=true→Z.R64 (Int.tdiv 1099511627776 a1)] [(12,.bool (bif decide (a1≠0)then decide (Int.tdiv 1099511627776 a1<a0)else false))] hc1 ?_
 refine A.dx 1 ?_
 refine A.AX.cnb rfl hF (fun hb hF=>?_) (fun hb hF=>?_)
 ·refine A.xl 1 ?_
  refine A.q0 [] [] [.n] [(4,.int .i64 1099511627776)] ?_
  refine A.dx 1 ?_
  obtain rfl:=Option.some.inj hF
  exact A.rt1 [] ⟨rfl,rfl,(A.hasl .i64 (1099511627776) rfl)⟩
 refine A.xl 3 ?_
 obtain⟨hc2,hF⟩:=A.gd_some hF
 refine A.q [] [] [.n,.n,.n,.n] [Z.R64 (a0*a1)] [(4,.int .i64 (a0*a1))] hc2 ?_
 refine A.dx 1 ?_
 obtain rfl:=Option.some.inj hF
 exact A.rt1 [] ⟨rfl,rfl,(Z.i64_has hc2)⟩
def F.R06_may (a0:Int)(a1:D23)(a2:D59):Option Int:=(F.R06_Check a0 (a1.1,a1.2.1,a1.2.2)).bind fun r3=>(if r3≠0 then(some r3)else((F.R05_Check (a2.1,a2.2)).bind fun r6=>(some r6)))
theorem R06_may_ok (a0:Int)(a1:D23)(a2:D59)(h0_:IntKind.i64.has a0)(h1_:IntKind.i64.has a1.1)(h2_:IntKind.i64.has a1.2.1)(h3_:a1.2.2.size≤maxLen)(h4_:IntKind.i64.has a2.1)(h5_:a2.2.size≤maxLen)(r:Int)(hF:F.R06_may a0 a1 a2=some r):
    A.Ct Tryd.prog 66 [.int .i64 a0,.agg #[.int .i64 a1.1,.int .i64 a1.2.1,.string a1.2.2],.agg #[.int .i64 a2.1,.string a2.2]] [] [] (fun v H'=>v=.int .i64 r∧H'=[]∧IntKind.i64.has r):=by
 refine A.Ct.enter Tryd.func66 rfl Tryd.ntmps66 rfl fun w0 F0=>?_
 rw[F.R06_may]at hF
 refine A.xl 1 ?_
 refine A.AL.box 0 (cs:=[.int .i64 a1.1,.int .i64 a1.2.1,.string a1.2.2]) fun g1=>?_
 refine A.AL.box 1 (cs:=[.int .i64 a2.1,.string a2.2]) fun g2=>?_
 refine A.q0 [] [] [.n] [] ?_
 refine A.dl 3 ?_
 refine A.q0 [0] [] [.n,.b 0 0] [(8,.int .i64 a0),(9,.agg #[.int .i64 a1.1,.int .i64 a1.2.1,.string a1.2.2])] ?_
 obtain⟨r3,hv4,hF⟩:=A.bd_some hF
 refine A.AL.call 2 [] (first:=[]) (cap:=[]) cf65 (R06_Check_ok a0 (a1.1,a1.2.1,a1.2.2) h0_ h1_ h2_ h3_ r3 hv4) .nil ?_
 rintro _ _ ⟨rfl,rfl,hr5⟩
 refine⟨by kernel_rfl,?_⟩
 refine A.q0 [] [] [.n] [(7,.int .i64 r3)] ?_
 refine A.dl 2 ?_
 refine A.q0 [] [] [.n,.n] [(12,.bool (decide (r3≠0)))] ?_
 refine A.dx 1 ?_
 refine A.AX.cnd rfl hF (fun hb hF=>?_) (fun hb hF=>?_)
 ·refine A.xl 1 ?_
  refine A.q0 [] [] [.n,.n] [(6,.int .i64 r3)] ?_
  refine A.dx 1 ?_
  obtain rfl:=Option.some.inj hF
  exact A.rt1 [] ⟨rfl,rfl,hr5⟩
 refine A.xl 3 ?_
 refine A.q0 [1] [] [.b 0 0] [(14,.agg #[.int .i64 a2.1,.string a2.2])] ?_
 obtain⟨r6,hv7,hF⟩:=A.bd_some hF
 refine A.AL.call 42 [] (first:=[]) (cap:=[]) cf26 (R05_Check_ok (a2.1,a2.2) h4_ h5_ r6 hv7) .nil ?_
 rintro _ _ ⟨rfl,rfl,hr8⟩
 refine⟨by kernel_rfl,?_⟩
 refine A.q0 [] [] [.n] [(6,.int .i64 r6)] ?_
 refine A.dx 1 ?_
 obtain rfl:=Option.some.inj hF
 exact A.rt1 [] ⟨rfl,rfl,hr8⟩
def F.R06_upper_j1 (k1:(List UInt8)→Int→Option ByteArray)(y5:Int)(xs8:List UInt8):Option ByteArray:=A.gd (Z.R64 (y5+1)) (k1 xs8 (y5+1))
def F.R06_upper_j2 (k1:(List UInt8)→Int→Option ByteArray)(xs3:List UInt8)(y5:Int)(y11:Bool):Option ByteArray:=if y11=true then((A.ix xs3 y5).bind fun x12=>((A.ix xs3 y5).bind fun x14=>(F.R06_upper_j1 k1 y5 (xs3.set y5.toNat (A.b8 ((x12.toNat:Int)-32))))))else(F.R06_upper_j1 k1 y5 xs3)
def F.R06_upper_l3 (a0:ByteArray):Nat→(List UInt8)→Int→Option ByteArray
 |0,_,_=>none
 |f+1,xs3,y5=>if y5<((a0.data.toList).length:Int)then((A.ix xs3 y5).bind fun x16=>(if(97:Int)≤(x16.toNat:Int)then((A.ix xs3 y5).bind fun x18=>(F.R06_upper_j2 (F.R06_upper_l3 a0 f) xs3 y5 (decide ((x18.toNat:Int)≤122))))else(F.R06_upper_j2 (F.R06_upper_l3 a0 f) xs3 y5 false)))else(some (ByteArray.mk (xs3).toArray))
def F.R06_upper (a0:ByteArray):Option ByteArray:=F.R06_upper_l3 a0 A.FU a0.data.toList 0
theorem R06_upper_ok (a0:ByteArray)(h0_:a0.size≤maxLen)(r:ByteArray)(hF:F.R06_upper a0=some r):
    A.Ct Tryd.prog 68 [.string a0] [] [] (fun v H'=>v=.string r∧H'=[]∧r.size≤maxLen):=by
 refine A.Ct.enter Tryd.func68 rfl Tryd.ntmps68 rfl fun w0 F0=>?_
 rw[F.R06_upper]at hF
 refine A.xl 1 ?_
 refine A.q0 [] [] [.n] [] ?_
 refine A.dl 2 ?_
 refine A.q0 [] [] [.n] [(5,.string a0)] ?_
 refine A.AL.cvb 0 h0_ fun g1 c2=>?_
 refine A.q0 [] [] [.n] [(3,.slice (some ⟨g1,0,none⟩) ((a0.data.toList).length) c2)] ?_
 refine A.dl 3 ?_
 refine A.q0 [] [] [.n] [(4,.int .i64 0)] ?_
 refine A.dx 2 ?_
 refine A.lp_ [3] [] (fun f nl nh=>∃(xs3:List UInt8),∃(y5:Int),nl=[(4,.int .i64 y5)]∧nh=[(0,.ob g1 (A.Bs 5 c2 xs3))]∧(a0.data.toList).length=xs3.length∧IntKind.i64.has y5∧F.R06_upper_l3 a0 f xs3 y5=some r) ⟨a0.data.toList,0,rfl,rfl,rfl,(A.hasl .i64 (0) rfl),hF⟩ ?_
 rintro f7 _ _ ⟨xs3,y5,rfl,rfl,hn4,hy6,hF⟩
 rcases f7 with _|f7
 ·exact A.no0 hF
 rw[F.R06_upper_l3]at hF
 refine A.xl 2 ?_
 refine A.q0 [] [] [.n,.n,.n,.n] [(10,.bool (decide (y5<((a0.data.toList).length:Int))))] ?_
 refine A.dx 1 ?_
 refine A.AX.cnd rfl hF (fun hb hF=>?_) (fun hb hF=>?_)
 ·refine A.xx 2 ?_
  refine A.AX.join [3,4] [] (fun nl nh=>∃(xs8:List UInt8),nl=[]∧nh=[(0,.ob g1 (A.Bs 5 c2 xs8))]∧(a0.data.toList).length=xs8.length∧F.R06_upper_j1 (F.R06_upper_l3 a0 f7) y5 xs8=some r) ?_ ?_
  ·refine A.xx 1 ?_
   refine A.AX.join [3,4] [0] (fun nl nh=>∃(y11:Bool),nl=[(24,.bool y11)]∧nh=[]∧F.R06_upper_j2 (F.R06_upper_l3 a0 f7) xs3 y5 y11=some r) ?_ ?_
   ·refine A.xl 0 ?_
    refine A.q0 [] [] [.n,.n] [(13,.slice (some ⟨g1,0,none⟩) ((a0.data.toList).length) c2),(14,.int .i64 y5)] ?_
    obtain⟨x16,hv17,hF⟩:=A.bd_some hF
    refine A.AL.ixB 0 9 hv17 hn4 ?_
    refine A.q0 [] [9] [.e 0 0,.n,.n] [(18,.bool (decide ((97:Int)≤(x16.toNat:Int))))] ?_
    refine A.AL.cnp (j:=18) rfl hF (fun hb hF=>?_) (fun hb hF=>?_)
    ·refine A.q0 [] [] [.on .n,.on .n] [(19,.slice (some ⟨g1,0,none⟩) ((a0.data.toList).length) c2),(20,.int .i64 y5)] ?_
     refine A.AL.on (dj:=18) rfl rfl ?_
     obtain⟨x18,hv19,hF⟩:=A.bd_some hF
     refine A.AL.ixB 0 10 hv19 hn4 ?_
     refine A.q0 [] [10] [.on (.e 0 0),.on .n,.n] [(24,.bool (decide ((x18.toNat:Int)≤122)))] ?_
     refine A.AL.done ?_
     exact A.j ⟨(decide ((x18.toNat:Int)≤122)),rfl,rfl,hF⟩
    refine A.q0 [] [] [.off,.off,.off,.off,.off,.n] [(24,.bool false)] ?_
    refine A.AL.done ?_
    exact A.j ⟨false,rfl,rfl,hF⟩
   rintro _ _ ⟨y11,rfl,rfl,hF⟩
   rw[F.R06_upper_j2]at hF
   refine A.AX.cnb rfl hF (fun hb hF=>?_) (fun hb hF=>?_)
   ·refine A.xl 0 ?_
    refine A.q0 [] [] [.n,.n] [(25,.slice (some ⟨g1,0,none⟩) ((a0.data.toList).length) c2),(26,.int .i64 y5)] ?_
    obtain⟨x12,hv13,hF⟩:=A.bd_some hF
    refine A.AL.ixB 0 11 hv13 hn4 ?_
    refine A.q0 [] [11] [.e 0 0,.n] [(29,.int .u8 (IntKind.u8.wrap ((x12.toNat:Int)-32)))] ?_
    obtain⟨x14,hv15,hF⟩:=A.bd_some hF
    refine A.AL.ixB 0 12 hv15 hn4 ?_
    refine A.AL.stB 0 12 [11,12] (A.b8 ((x12.toNat:Int)-32)) hv15 (A.b8_wrap _) ?_
    refine A.de 1 ?_
    exact A.j ⟨(xs3.set y5.toNat (A.b8 ((x12.toNat:Int)-32))),rfl,rfl,(by rw[List.length_set];exact hn4),hF⟩
   refine A.xe 2 ?_
   exact A.j ⟨xs3,rfl,rfl,hn4,hF⟩
  rintro _ _ ⟨xs8,rfl,rfl,hn9,hF⟩
  rw[F.R06_upper_j1]at hF
  refine A.xl 0 ?_
  obtain⟨hc10,hF⟩:=A.gd_some hF
  refine A.q [] [] [.n,.n,.n] [Z.R64 (y5+1)] [(4,.int .i64 (y5+1))] hc10 ?_
  refine A.AL.done ?_
  exact A.j ⟨_,Nat.lt_succ_self _,⟨xs8,(y5+1),rfl,rfl,hn9,(Z.i64_has hc10),hF⟩⟩
 refine A.xl 3 ?_
 refine A.q0 [] [] [.n] [(31,.slice (some ⟨g1,0,none⟩) ((a0.data.toList).length) c2)] ?_
 refine A.okB 0 fun hl20=>?_
 refine A.AL.cbs 0 hn4 ?_
 refine A.q0 [] [] [.n] [(2,.string (ByteArray.mk (xs3).toArray))] ?_
 refine A.dx 1 ?_
 obtain rfl:=Option.some.inj hF
 exact A.rt1 [] ⟨rfl,rfl,(A.mk_le hl20)⟩
end Go.Proofs.YtfpemeeadiigcaaDoor
end
section
set_option linter.unusedVariables false
set_option linter.unusedSimpArgs false
set_option maxRecDepth 20000
set_option maxHeartbeats 8000000
set_option synthInstance.maxSize 1000000
set_option synthInstance.maxHeartbeats 400000
namespace Go.Proofs.YtfpemeeadiigcaaDoor
open Go.RowKit
def F.R06_part_j1 (a0:ByteArray)(y1:Int)(y3:Int):Option ByteArray:=A.gd (0≤y1∧y1≤y3∧y3≤(a0.size:Int)) (some (a0.extract y1.toNat y3.toNat))
def F.R06_part_j2 (a0:ByteArray)(a1:(List D95))(a3:Int)(y1:Int):Option ByteArray:=if a3<((a1).length:Int)then((A.ix a1 a3).bind fun x6=>(F.R06_part_j1 a0 y1 x6.1))else(F.R06_part_j1 a0 y1 (a0.size:Int))
def F.R06_part (a0:ByteArray)(a1:(List D95))(a2:Int)(a3:Int):Option ByteArray:=if a2<((a1).length:Int)then((A.ix a1 a2).bind fun x11=>(F.R06_part_j2 a0 a1 a3 x11.1))else(F.R06_part_j2 a0 a1 a3 (a0.size:Int))
theorem R06_part_ok (a0:ByteArray)(a1:(List D95))(a2:Int)(a3:Int)(A1_:Option Addr)(c2_:Nat)(h0_:a0.size≤maxLen)(h3_:IntKind.i64.has a2)(h4_:IntKind.i64.has a3)(r:ByteArray)(hF:F.R06_part a0 a1 a2 a3=some r):
    A.Ct Tryd.prog 69 [.string a0,.slice A1_ ((a1).length) c2_,.int .i64 a2,.int .i64 a3] [(0,.ln T95 A1_ c2_ a1)] [] (fun v H'=>v=.string r∧H'=[]∧r.size≤maxLen):=by
 refine A.Ct.enter Tryd.func69 rfl Tryd.ntmps69 rfl fun w0 F0=>?_
 rw[F.R06_part]at hF
 refine A.xl 1 ?_
 refine A.q0 [] [] [.n] [] ?_
 refine A.dl 2 ?_
 refine A.q0 [] [] [.n,.n,.n,.n,.n,.n] [(9,.int .i64 (a0.size:Int)),(10,.int .i64 (a0.size:Int))] ?_
 refine A.dx 1 ?_
 refine A.AX.join [0,1,3,10] [0] (fun nl nh=>∃(y1:Int),nl=[(9,.int .i64 y1)]∧nh=[]∧IntKind.i64.has y1∧F.R06_part_j2 a0 a1 a3 y1=some r) ?_ ?_
 ·refine A.xl 1 ?_
  refine A.q0 [] [] [.n,.n,.n,.n] [(18,.bool (decide (a2<((a1).length:Int))))] ?_
  refine A.dx 1 ?_
  refine A.AX.cnd rfl hF (fun hb hF=>?_) (fun hb hF=>?_)
  ·refine A.xl 0 ?_
   refine A.q0 [] [] [.n,.n] [(19,.slice A1_ ((a1).length) c2_),(20,.int .i64 a2)] ?_
   obtain⟨x11,hv12,hF⟩:=A.bd_some hF
   refine A.AL.ixl 0 1 hv12 fun ho13=>?_
   intro b14 o15
   refine A.q0 [] [1] [.n,.e 0 0,.n] [(9,.int .i64 x11.1)] ?_
   refine A.AL.done ?_
   exact A.j ⟨x11.1,rfl,rfl,ho13.1,hF⟩
  refine A.xe 1 ?_
  exact A.j ⟨(a0.size:Int),rfl,rfl,(A.has_nat h0_),hF⟩
 rintro _ _ ⟨y1,rfl,rfl,hy2,hF⟩
 rw[F.R06_part_j2]at hF
 refine A.AX.join [0,9] [] (fun nl nh=>∃(y3:Int),nl=[(10,.int .i64 y3)]∧nh=[]∧IntKind.i64.has y3∧F.R06_part_j1 a0 y1 y3=some r) ?_ ?_
 ·refine A.xl 1 ?_
  refine A.q0 [] [] [.n,.n,.n,.n] [(27,.bool (decide (a3<((a1).length:Int))))] ?_
  refine A.dx 1 ?_
  refine A.AX.cnd rfl hF (fun hb hF=>?_) (fun hb hF=>?_)
  ·refine A.xl 0 ?_
   refine A.q0 [] [] [.n,.n] [(28,.slice A1_ ((a1).length) c2_),(29,.int .i64 a3)] ?_
   obtain⟨x6,hv7,hF⟩:=A.bd_some hF
   refine A.AL.ixl 0 2 hv7 fun ho8=>?_
   intro b9 o10
   refine A.q0 [] [2] [.n,.e 0 0,.n] [(10,.int .i64 x6.1)] ?_
   refine A.AL.done ?_
   exact A.j ⟨x6.1,rfl,rfl,ho8.1,hF⟩
  refine A.xe 1 ?_
  exact A.j ⟨(a0.size:Int),rfl,rfl,(A.has_nat h0_),hF⟩
 rintro _ _ ⟨y3,rfl,rfl,hy4,hF⟩
 rw[F.R06_part_j1]at hF
 refine A.xl 1 ?_
 refine A.q0 [] [] [.n,.n,.n] [(33,.string a0),(34,.int .i64 y1),(35,.int .i64 y3)] ?_
 obtain⟨hc5,hF⟩:=A.gd_some hF
 refine A.AL.slb hc5 ?_
 refine A.q0 [] [] [.n] [(8,.string (a0.extract y1.toNat y3.toNat))] ?_
 refine A.dx 1 ?_
 obtain rfl:=Option.some.inj hF
 exact A.rt1 [] ⟨rfl,rfl,(A.ext_le h0_)⟩
def F.R06_turn_l1 (a0:ByteArray)(r1:(List D95)):Nat→ByteArray→Int→Option ByteArray
 |0,_,_=>none
 |f+1,y5,y7=>if y7<((r1).length:Int)then(A.gd (Z.R64 (y7+1)) ((F.R06_part a0 r1 y7 (y7+1)).bind fun r11=>(A.gd (r11.size+y5.size≤9223372036854775807) (A.gd (Z.R64 (y7+1)) ((F.R06_turn_l1 a0 r1 f) (r11++y5) (y7+1))))))else(some y5)
def F.R06_turn (a0:ByteArray):Option ByteArray:=(F.R05_Runes a0).bind fun r1=>(F.R06_turn_l1 a0 r1 A.FU (ByteArray.mk #[]) 0)
theorem R06_turn_ok (a0:ByteArray)(h0_:a0.size≤maxLen)(r:ByteArray)(hF:F.R06_turn a0=some r):
    A.Ct Tryd.prog 70 [.string a0] [] [] (fun v H'=>v=.string r∧H'=[]∧r.size≤maxLen):=by
 refine A.Ct.enter Tryd.func70 rfl Tryd.ntmps70 rfl fun w0 F0=>?_
 rw[F.R06_turn]at hF
 refine A.xl 1 ?_
 refine A.q0 [] [] [.n] [] ?_
 refine A.dl 2 ?_
 refine A.q0 [] [] [.n] [(6,.string a0)] ?_
 obtain⟨r1,hv2,hF⟩:=A.bd_some hF
 refine A.AL.call 0 [] (first:=[]) (cap:=[]) cf67 (R05_Runes_ok a0 h0_ r1 hv2) .nil ?_
 rintro _ _ ⟨A3,c4,rfl,rfl⟩
 refine⟨by kernel_rfl,?_⟩
 refine A.q0 [] [] [.n] [(3,.slice A3 ((r1).length) c4)] ?_
 refine A.dl 2 ?_
 refine A.q0 [] [] [.n] [(4,.string (ByteArray.mk #[]))] ?_
 refine A.dl 3 ?_
 refine A.q0 [] [] [.n] [(5,.int .i64 0)] ?_
 refine A.dx 2 ?_
 refine A.lp_ [0,3] [0] (fun f nl nh=>∃(y5:ByteArray),∃(y7:Int),nl=[(4,.string y5),(5,.int .i64 y7)]∧nh=[]∧y5.size≤maxLen∧IntKind.i64.has y7∧F.R06_turn_l1 a0 r1 f y5 y7=some r) ⟨(ByteArray.mk #[]),0,rfl,rfl,(A.szl (ByteArray.mk #[]) rfl),(A.hasl .i64 (0) rfl),hF⟩ ?_
 rintro f9 _ _ ⟨y5,y7,rfl,rfl,hy6,hy8,hF⟩
 rcases f9 with _|f9
 ·exact A.no0 hF
 rw[F.R06_turn_l1]at hF
 refine A.xl 2 ?_
 refine A.q0 [] [] [.n,.n,.n,.n] [(11,.bool (decide (y7<((r1).length:Int))))] ?_
 refine A.dx 1 ?_
 refine A.AX.cnd rfl hF (fun hb hF=>?_) (fun hb hF=>?_)
 ·refine A.xl 4 ?_
  obtain⟨hc10,hF⟩:=A.gd_some hF
  refine A.q [] [] [.n,.n,.n,.n,.n] [Z.R64 (y7+1)] [(14,.string a0),(15,.slice A3 ((r1).length) c4),(16,.int .i64 y7),(18,.int .i64 (y7+1))] hc10 ?_
  obtain⟨r11,hv12,hF⟩:=A.bd_some hF
  refine A.AL.call 120 [] (first:=[]) (cap:=[]) cf69 (R06_part_ok a0 r1 y7 (y7+1) A3 c4 h0_ hy8 (Z.i64_has hc10) r11 hv12) (.o 0 .nil) ?_
  rintro _ _ ⟨rfl,rfl,hr13⟩
  refine⟨by kernel_rfl,?_⟩
  obtain⟨hc14,hF⟩:=A.gd_some hF
  refine A.q [] [] [.n,.n,.n] [r11.size+y5.size≤9223372036854775807] [(4,.string (r11++y5))] hc14 ?_
  refine A.dl 2 ?_
  obtain⟨hc15,hF⟩:=A.gd_some hF
  refine A.q [] [] [.n,.n,.n] [Z.R64 (y7+1)] [(5,.int .i64 (y7+1))] hc15 ?_
  refine A.AL.done ?_
  exact A.j ⟨_,Nat.lt_succ_self _,⟨(r11++y5),(y7+1),rfl,rfl,(A.cat_le hc14),(Z.i64_has hc15),hF⟩⟩
 refine A.xl 3 ?_
 refine A.q0 [] [] [.n,.n] [(2,.string y5)] ?_
 refine A.dx 1 ?_
 obtain rfl:=Option.some.inj hF
 exact A.rt1 [] ⟨rfl,rfl,hy6⟩
def F.R05_Cut_j1 (k1:Int→Int→Option ByteArray)(y7:Int)(y10:Int):Option ByteArray:=A.gd (Z.R64 (y7+1)) (k1 y10 (y7+1))
def F.R05_Cut_j2 (k1:Int→Int→Option ByteArray)(a1:Int)(y5:Int)(y7:Int)(y13:Int):Option ByteArray:=if y13≤a1 then(F.R05_Cut_j1 k1 y7 y13)else(F.R05_Cut_j1 k1 y7 y5)
def F.R05_Cut_l3 (a0:ByteArray)(a1:Int)(r1:(List D95)):Nat→Int→Int→Option ByteArray
 |0,_,_=>none
 |f+1,y5,y7=>if y7<((r1).length:Int)then(A.gd (Z.R64 (y7+1)) (if y7+1<((r1).length:Int)then(A.gd (Z.R64 (y7+1)) ((A.ix r1 (y7+1)).bind fun x17=>(F.R05_Cut_j2 (F.R05_Cut_l3 a0 a1 r1 f) a1 y5 y7 x17.1)))else(F.R05_Cut_j2 (F.R05_Cut_l3 a0 a1 r1 f) a1 y5 y7 (a0.size:Int))))else(A.gd (0≤y5∧y5≤(a0.size:Int)) (some (a0.extract 0 y5.toNat)))
def F.R05_Cut (a0:ByteArray)(a1:Int):Option ByteArray:=(F.R05_Runes a0).bind fun r1=>(F.R05_Cut_l3 a0 a1 r1 A.FU 0 0)
theorem R05_Cut_ok (a0:ByteArray)(a1:Int)(h0_:a0.size≤maxLen)(h1_:IntKind.i64.has a1)(r:ByteArray)(hF:F.R05_Cut a0 a1=some r):
    A.Ct Tryd.prog 71 [.string a0,.int .i64 a1] [] [] (fun v H'=>v=.string r∧H'=[]∧r.size≤maxLen):=by
 refine A.Ct.enter Tryd.func71 rfl Tryd.ntmps71 rfl fun w0 F0=>?_
 rw[F.R05_Cut]at hF
 refine A.xl 1 ?_
 refine A.q0 [] [] [.n] [] ?_
 refine A.dl 2 ?_
 refine A.q0 [] [] [.n] [(9,.string a0)] ?_
 obtain⟨r1,hv2,hF⟩:=A.bd_some hF
 refine A.AL.call 0 [] (first:=[]) (cap:=[]) cf67 (R05_Runes_ok a0 h0_ r1 hv2) .nil ?_
 rintro _ _ ⟨A3,c4,rfl,rfl⟩
 refine⟨by kernel_rfl,?_⟩
 refine A.q0 [] [] [.n] [(5,.slice A3 ((r1).length) c4)] ?_
 refine A.dl 2 ?_
 refine A.q0 [] [] [.n] [(6,.int .i64 0)] ?_
 refine A.dl 3 ?_
 refine A.q0 [] [] [.n] [(7,.int .i64 0)] ?_
 refine A.dx 2 ?_
 refine A.lp_ [0,1,5] [0] (fun f nl nh=>∃(y5:Int),∃(y7:Int),nl=[(6,.int .i64 y5),(7,.int .i64 y7)]∧nh=[]∧IntKind.i64.has y5∧IntKind.i64.has y7∧F.R05_Cut_l3 a0 a1 r1 f y5 y7=some r) ⟨0,0,rfl,rfl,(A.hasl .i64 (0) rfl),(A.hasl .i64 (0) rfl),hF⟩ ?_
 rintro f9 _ _ ⟨y5,y7,rfl,rfl,hy6,hy8,hF⟩
 rcases f9 with _|f9
 ·exact A.no0 hF
 rw[F.R05_Cut_l3]at hF
 refine A.xl 2 ?_
 refine A.q0 [] [] [.n,.n,.n,.n] [(14,.bool (decide (y7<((r1).length:Int))))] ?_
 refine A.dx 1 ?_
 refine A.AX.cnd rfl hF (fun hb hF=>?_) (fun hb hF=>?_)
 ·refine A.xx 2 ?_
  refine A.AX.join [0,1,5,7] [0] (fun nl nh=>∃(y10:Int),nl=[(6,.int .i64 y10)]∧nh=[]∧IntKind.i64.has y10∧F.R05_Cut_j1 (F.R05_Cut_l3 a0 a1 r1 f9) y7 y10=some r) ?_ ?_
  ·refine A.xl 2 ?_
   refine A.q0 [] [] [.n,.n,.n] [(8,.int .i64 (a0.size:Int))] ?_
   refine A.dx 1 ?_
   refine A.AX.join [0,1,5,6,7] [0] (fun nl nh=>∃(y13:Int),nl=[(8,.int .i64 y13)]∧nh=[]∧IntKind.i64.has y13∧F.R05_Cut_j2 (F.R05_Cut_l3 a0 a1 r1 f9) a1 y5 y7 y13=some r) ?_ ?_
   ·refine A.xl 1 ?_
    obtain⟨hc15,hF⟩:=A.gd_some hF
    refine A.q [] [] [.n,.n,.n,.n,.n] [Z.R64 (y7+1)] [(23,.bool (decide (y7+1<((r1).length:Int))))] hc15 ?_
    refine A.dx 1 ?_
    refine A.AX.cnd rfl hF (fun hb hF=>?_) (fun hb hF=>?_)
    ·refine A.xl 0 ?_
     obtain⟨hc16,hF⟩:=A.gd_some hF
     refine A.q [] [] [.n,.n,.n] [Z.R64 (y7+1)] [(24,.slice A3 ((r1).length) c4),(26,.int .i64 (y7+1))] hc16 ?_
     obtain⟨x17,hv18,hF⟩:=A.bd_some hF
     refine A.AL.ixo 0 42 hv18 fun ho19=>?_
     intro g20 hA21
     refine A.q0 [] [42] [.n,.e 0 0,.n] [(8,.int .i64 x17.1)] ?_
     refine A.AL.done ?_
     exact A.j ⟨x17.1,rfl,rfl,ho19.1,hF⟩
    refine A.xe 1 ?_
    exact A.j ⟨(a0.size:Int),rfl,rfl,(A.has_nat h0_),hF⟩
   rintro _ _ ⟨y13,rfl,rfl,hy14,hF⟩
   rw[F.R05_Cut_j2]at hF
   refine A.xl 1 ?_
   refine A.q0 [] [] [.n,.n,.n] [(32,.bool (decide (y13≤a1)))] ?_
   refine A.dx 1 ?_
   refine A.AX.cnd rfl hF (fun hb hF=>?_) (fun hb hF=>?_)
   ·refine A.xl 0 ?_
    refine A.q0 [] [] [.n,.n] [(6,.int .i64 y13)] ?_
    refine A.de 1 ?_
    exact A.j ⟨y13,rfl,rfl,hy14,hF⟩
   refine A.xe 2 ?_
   exact A.j ⟨y5,rfl,rfl,hy6,hF⟩
  rintro _ _ ⟨y10,rfl,rfl,hy11,hF⟩
  rw[F.R05_Cut_j1]at hF
  refine A.xl 0 ?_
  obtain⟨hc12,hF⟩:=A.gd_some hF
  refine A.q [] [] [.n,.n,.n] [Z.R64 (y7+1)] [(7,.int .i64 (y7+1))] hc12 ?_
  refine A.AL.done ?_
  exact A.j ⟨_,Nat.lt_succ_self _,⟨y10,(y7+1),rfl,rfl,hy11,(Z.i64_has hc12),hF⟩⟩
 refine A.xl 3 ?_
 refine A.q0 [] [] [.n,.n] [(34,.string a0),(35,.int .i64 y5)] ?_
 obtain⟨hc22,hF⟩:=A.gd_some hF
 refine A.AL.slh hc22 ?_
 refine A.q0 [] [] [.n] [(4,.string (a0.extract 0 y5.toNat))] ?_
 refine A.dx 1 ?_
 obtain rfl:=Option.some.inj hF
 exact A.rt1 [] ⟨rfl,rfl,(A.ext_le h0_)⟩
def F.R06_Map_j1 (y11:Int)(y13:ByteArray):Option (D59×Int):=some ((y11,y13),0)
def F.R06_Map (a0:D23)(a1:D59):Option (D59×Int):=(F.R06_may 2 (a0.1,a0.2.1,a0.2.2) (a1.1,a1.2)).bind fun r4=>(if r4≠0 then(some ((0,ByteArray.mk #[]),r4))else((F.R05_Runes a1.2).bind fun r7=>(if a0.1=2 then((F.R06_upper a1.2).bind fun r15=>(F.R06_Map_j1 a1.1 r15))else(if a0.1=3 then((F.R06_part a1.2 r7 0 a0.2.1).bind fun r18=>(F.R06_Map_j1 a1.1 r18))else(if a0.1=4 then((F.R06_turn a1.2).bind fun r21=>(F.R06_Map_j1 a1.1 r21))else(if a0.1=5 then(A.gd (a1.2.size+a0.2.2.size≤9223372036854775807) ((F.R05_Cut (a1.2++a0.2.2) 64).bind fun r25=>(F.R06_Map_j1 a1.1 r25)))else(if a0.1=6 then(A.gd (a0.2.1≠0∧Z.R64 ((Int.tmod a1.1 a0.2.1)+a0.2.1)∧a0.2.1≠0) (F.R06_Map_j1 (Int.tmod ((Int.tmod a1.1 a0.2.1)+a0.2.1) a0.2.1) a1.2))else(if a0.1=7 then(F.R06_Map_j1 ((r7).length:Int) a1.2)else(if a0.1=8 then(if(0:Int)<((r7).length:Int)then((A.ix r7 0).bind fun x30=>(A.gd (Z.R64 (x30.2)) (F.R06_Map_j1 x30.2 a1.2)))else(F.R06_Map_j1 0 a1.2))else(F.R06_Map_j1 a1.1 a1.2))))))))))
theorem R06_Map_ok (a0:D23)(a1:D59)(h0_:IntKind.i64.has a0.1)(h1_:IntKind.i64.has a0.2.1)(h2_:a0.2.2.size≤maxLen)(h3_:IntKind.i64.has a1.1)(h4_:a1.2.size≤maxLen)(r:D59×Int)(hF:F.R06_Map a0 a1=some r):
    A.Ct Tryd.prog 49 [.agg #[.int .i64 a0.1,.int .i64 a0.2.1,.string a0.2.2],.agg #[.int .i64 a1.1,.string a1.2]] [] [] (fun v H'=>v=.tuple #[.agg #[.int .i64 r.1.1,.string r.1.2],.int .i64 r.2]∧H'=[]∧IntKind.i64.has r.1.1∧r.1.2.size≤maxLen∧IntKind.i64.has r.2):=by
 refine A.Ct.enter Tryd.func49 rfl Tryd.ntmps49 rfl fun w0 F0=>?_
 rw[F.R06_Map]at hF
 refine A.xl 1 ?_
 refine A.AL.box 0 (cs:=[.int .i64 a0.1,.int .i64 a0.2.1,.string a0.2.2]) fun g1=>?_
 refine A.AL.box 1 (cs:=[.int .i64 a1.1,.string a1.2]) fun g2=>?_
 refine A.AL.alloc 2 (cs:=[.int .i64 0,.string (ByteArray.mk #[])]) Tryd.zeroValue60 fun g3=>?_
 refine A.q0 [] [] [.n] [] ?_
 refine A.dl 3 ?_
 refine A.q0 [0,1] [] [.b 0 0,.b 1 0] [(8,.agg #[.int .i64 a0.1,.int .i64 a0.2.1,.string a0.2.2]),(9,.agg #[.int .i64 a1.1,.string a1.2])] ?_
 obtain⟨r4,hv5,hF⟩:=A.bd_some hF
 refine A.AL.call 3 [] (first:=[]) (cap:=[]) cf66 (R06_may_ok 2 (a0.1,a0.2.1,a0.2.2) (a1.1,a1.2) (A.hasl .i64 (2) rfl) h0_ h1_ h2_ h3_ h4_ r4 hv5) .nil ?_
 rintro _ _ ⟨rfl,rfl,hr6⟩
 refine⟨by kernel_rfl,?_⟩
 refine A.q0 [] [] [.n] [(6,.int .i64 r4)] ?_
 refine A.dl 2 ?_
 refine A.q0 [] [] [.n,.n] [(12,.bool (decide (r4≠0)))] ?_
 refine A.dx 1 ?_
 refine A.AX.cnd rfl hF (fun hb hF=>?_) (fun hb hF=>?_)
 ·refine A.xl 1 ?_
  refine A.q0 [] [] [.n,.n] [(13,.agg #[.int .i64 0,.string (ByteArray.mk #[])]),(14,.int .i64 r4)] ?_
  refine A.sw 2 [] [.int .i64 0,.string (ByteArray.mk #[])] ?_
  refine A.q0 [] [] [.n] [(5,.int .i64 r4)] ?_
  refine A.dx 1 ?_
  obtain rfl:=Option.some.inj hF
  exact A.AX.ret [] (.tuple #[.agg #[.int .i64 0,.string (ByteArray.mk #[])],.int .i64 r4]) (fun a w hf hh=>Z.resv2 rfl (Z.rv_n hf rfl Tryd.isAgg60 Tryd.sizeOf60 (A.Hp.blk hh 2) rfl) (Z.rv_t hf rfl)) (⟨rfl,rfl,(A.hasl .i64 (0) rfl),(A.szl (ByteArray.mk #[]) rfl),hr6⟩)
 refine A.xl 3 ?_
 refine A.q0 [1] [] [.n,.b 0 1] [(16,.string a1.2)] ?_
 obtain⟨r7,hv8,hF⟩:=A.bd_some hF
 refine A.AL.call 43 [] (first:=[]) (cap:=[]) cf67 (R05_Runes_ok a1.2 h4_ r7 hv8) .nil ?_
 rintro _ _ ⟨A9,c10,rfl,rfl⟩
 refine⟨by kernel_rfl,?_⟩
 refine A.q0 [] [] [.n] [(7,.slice A9 ((r7).length) c10)] ?_
 refine A.dx 1 ?_
 refine A.AX.join [3,4] [2] (fun nl nh=>∃(y11:Int),∃(y13:ByteArray),nl=[]∧nh=[(1,.blk g2 60 [.int .i64 y11,.string y13])]∧IntKind.i64.has y11∧y13.size≤maxLen∧F.R06_Map_j1 y11 y13=some r) ?_ ?_
 ·refine A.xl 1 ?_
  refine A.q0 [0] [] [.n,.b 0 0] [(19,.int .i64 a0.1)] ?_
  refine A.dl 3 ?_
  refine A.q0 [] [] [.n,.n] [(20,.bool (decide (a0.1=2)))] ?_
  refine A.dx 1 ?_
  refine A.AX.cnd rfl hF (fun hb hF=>?_) (fun hb hF=>?_)
  ·refine A.xl 0 ?_
   refine A.q0 [1] [] [.n,.b 0 1] [(23,.string a1.2)] ?_
   obtain⟨r15,hv16,hF⟩:=A.bd_some hF
   refine A.AL.call 83 [] (first:=[]) (cap:=[]) cf68 (R06_upper_ok a1.2 h4_ r15 hv16) .nil ?_
   rintro _ _ ⟨rfl,rfl,hr17⟩
   refine⟨by kernel_rfl,?_⟩
   refine A.q0 [] [] [.n] [(25,.pointer (some ⟨g2,1,none⟩))] ?_
   refine A.AL.store 1 [] (new:=[.string r15]) (cs':=[.int .i64 a1.1,.string r15]) ?_
   refine A.de 1 ?_
   exact A.j ⟨a1.1,r15,rfl,rfl,h3_,hr17,hF⟩
  refine A.xl 1 ?_
  refine A.q0 [] [] [.n,.n] [(26,.bool (decide (a0.1=3)))] ?_
  refine A.dx 1 ?_
  refine A.AX.cnd rfl hF (fun hb hF=>?_) (fun hb hF=>?_)
  ·refine A.xl 0 ?_
   refine A.q0 [1,0] [] [.n,.b 0 1,.n,.n,.b 1 1] [(29,.string a1.2),(30,.slice A9 ((r7).length) c10),(32,.int .i64 a0.2.1)] ?_
   obtain⟨r18,hv19,hF⟩:=A.bd_some hF
   refine A.AL.call 123 [] (first:=[]) (cap:=[]) cf69 (R06_part_ok a1.2 r7 0 a0.2.1 A9 c10 h4_ (A.hasl .i64 (0) rfl) h1_ r18 hv19) (.o 43 .nil) ?_
   rintro _ _ ⟨rfl,rfl,hr20⟩
   refine⟨by kernel_rfl,?_⟩
   refine A.q0 [] [] [.n] [(34,.pointer (some ⟨g2,1,none⟩))] ?_
   refine A.AL.store 1 [] (new:=[.string r18]) (cs':=[.int .i64 a1.1,.string r18]) ?_
   refine A.de 1 ?_
   exact A.j ⟨a1.1,r18,rfl,rfl,h3_,hr20,hF⟩
  refine A.xl 1 ?_
  refine A.q0 [] [] [.n,.n] [(35,.bool (decide (a0.1=4)))] ?_
  refine A.dx 1 ?_
  refine A.AX.cnd rfl hF (fun hb hF=>?_) (fun hb hF=>?_)
  ·refine A.xl 0 ?_
   refine A.q0 [1] [] [.n,.b 0 1] [(38,.string a1.2)] ?_
   obtain⟨r21,hv22,hF⟩:=A.bd_some hF
   refine A.AL.call 163 [] (first:=[]) (cap:=[]) cf70 (R06_turn_ok a1.2 h4_ r21 hv22) .nil ?_
   rintro _ _ ⟨rfl,rfl,hr23⟩
   refine⟨by kernel_rfl,?_⟩
   refine A.q0 [] [] [.n] [(40,.pointer (some ⟨g2,1,none⟩))] ?_
   refine A.AL.store 1 [] (new:=[.string r21]) (cs':=[.int .i64 a1.1,.string r21]) ?_
   refine A.de 1 ?_
   exact A.j ⟨a1.1,r21,rfl,rfl,h3_,hr23,hF⟩
  refine A.xl 1 ?_
  refine A.q0 [] [] [.n,.n] [(41,.bool (decide (a0.1=5)))] ?_
  refine A.dx 1 ?_
  refine A.AX.cnd rfl hF (fun hb hF=>?_) (fun hb hF=>?_)
  ·refine A.xl 0 ?_
   obtain⟨hc24,hF⟩:=A.gd_some hF
   refine A.q [1,0] [] [.n,.b 0 1,.n,.b 1 2,.n] [a1.2.size+a0.2.2.size≤9223372036854775807] [(47,.string (a1.2++a0.2.2))] hc24 ?_
   obtain⟨r25,hv26,hF⟩:=A.bd_some hF
   refine A.AL.call 203 [] (first:=[]) (cap:=[]) cf71 (R05_Cut_ok (a1.2++a0.2.2) 64 (A.cat_le hc24) (A.hasl .i64 (64) rfl) r25 hv26) .nil ?_
   rintro _ _ ⟨rfl,rfl,hr27⟩
   refine⟨by kernel_rfl,?_⟩
   refine A.q0 [] [] [.n] [(49,.pointer (some ⟨g2,1,none⟩))] ?_
   refine A.AL.store 1 [] (new:=[.string r25]) (cs':=[.int .i64 a1.1,.string r25]) ?_
   refine A.de 1 ?_
   exact A.j ⟨a1.1,r25,rfl,rfl,h3_,hr27,hF⟩
  refine A.xl 1 ?_
  refine A.q0 [] [] [.n,.n] [(50,.bool (decide (a0.1=6)))] ?_
  refine A.dx 1 ?_
  refine A.AX.cnd rfl hF (fun hb hF=>?_) (fun hb hF=>?_)
  ·refine A.AX.dr mixed 12 13 (A.mb 13 0) ?_
   obtain⟨hc28,hF⟩:=A.gd_some hF
   refine A.AH.q A.pb [] [0,1,2,43] [1,0] [] (A.mb 13 4095) 1 [(0,.n),(2,.n),(5,.n),(8,.n),(1,.b 0 0),(3,.b 1 1),(6,.b 1 1),(9,.b 1 1),(4,.n),(7,.n),(10,.n),(11,.n)] [62,63] [a0.2.1≠0,Z.R64 ((Int.tmod a1.1 a0.2.1)+a0.2.1),a0.2.1≠0] [(62,.int .i64 (Int.tmod ((Int.tmod a1.1 a0.2.1)+a0.2.1) a0.2.1)),(63,.pointer (some ⟨g2,0,none⟩))] hc28 ?_
   refine A.AH.one 12 ?_
   refine A.AL.store 1 [] (new:=[.int .i64 (Int.tmod ((Int.tmod a1.1 a0.2.1)+a0.2.1) a0.2.1)]) (cs':=[.int .i64 (Int.tmod ((Int.tmod a1.1 a0.2.1)+a0.2.1) a0.2.1),.string a1.2]) ?_
   refine A.AH.nm (A.mb 13 8191) ?_
   refine A.AH.done ?_
   refine A.ee 1 ?_
   exact A.j ⟨(Int.tmod ((Int.tmod a1.1 a0.2.1)+a0.2.1) a0.2.1),a1.2,rfl,rfl,(A.tmod_has (Z.i64_has hc28.2.1)),h4_,hF⟩
  refine A.xl 1 ?_
  refine A.q0 [] [] [.n,.n] [(64,.bool (decide (a0.1=7)))] ?_
  refine A.dx 1 ?_
  refine A.AX.cnd rfl hF (fun hb hF=>?_) (fun hb hF=>?_)
  ·refine A.xl 0 ?_
   refine A.q0 [] [] [.n,.n,.n] [(67,.int .i64 ((r7).length:Int)),(68,.pointer (some ⟨g2,0,none⟩))] ?_
   refine A.AL.store 1 [] (new:=[.int .i64 ((r7).length:Int)]) (cs':=[.int .i64 ((r7).length:Int),.string a1.2]) ?_
   refine A.de 1 ?_
   refine A.oko 43 fun hl29=>?_
   exact A.j ⟨((r7).length:Int),a1.2,rfl,rfl,(A.has_len hl29.1),h4_,hF⟩
  refine A.xl 1 ?_
  refine A.q0 [] [] [.n,.n] [(69,.bool (decide (a0.1=8)))] ?_
  refine A.dx 1 ?_
  refine A.AX.cnd rfl hF (fun hb hF=>?_) (fun hb hF=>?_)
  ·refine A.xl 1 ?_
   refine A.q0 [] [] [.n] [(71,.pointer (some ⟨g2,0,none⟩))] ?_
   refine A.AL.store 1 [] (new:=[.int .i64 0]) (cs':=[.int .i64 0,.string a1.2]) ?_
   refine A.dl 2 ?_
   refine A.q0 [] [] [.n,.n,.n] [(74,.bool (decide ((0:Int)<((r7).length:Int))))] ?_
   refine A.dx 1 ?_
   refine A.AX.cnd rfl hF (fun hb hF=>?_) (fun hb hF=>?_)
   ·refine A.xl 0 ?_
    refine A.q0 [] [] [.n] [(75,.slice A9 ((r7).length) c10)] ?_
    obtain⟨x30,hv31,hF⟩:=A.bd_some hF
    refine A.AL.ixo 43 243 hv31 fun ho32=>?_
    intro g33 hA34
    obtain⟨hc35,hF⟩:=A.gd_some hF
    refine A.q [] [243] [.n,.e 0 1,.n,.n] [Z.R64 (x30.2)] [(79,.int .i64 x30.2),(80,.pointer (some ⟨g2,0,none⟩))] hc35 ?_
    refine A.AL.store 1 [] (new:=[.int .i64 x30.2]) (cs':=[.int .i64 x30.2,.string a1.2]) ?_
    refine A.de 1 ?_
    exact A.j ⟨x30.2,a1.2,rfl,rfl,(Z.i64_has hc35),h4_,hF⟩
   refine A.xe 2 ?_
   exact A.j ⟨0,a1.2,rfl,rfl,(A.hasl .i64 (0) rfl),h4_,hF⟩
  refine A.xe 2 ?_
  exact A.j ⟨a1.1,a1.2,rfl,rfl,h3_,h4_,hF⟩
 rintro _ _ ⟨y11,y13,rfl,rfl,hy12,hy14,hF⟩
 rw[F.R06_Map_j1]at hF
 refine A.xl 1 ?_
 refine A.q0 [1] [] [.b 0 0] [(81,.agg #[.int .i64 y11,.string y13])] ?_
 refine A.sw 2 [] [.int .i64 y11,.string y13] ?_
 refine A.q0 [] [] [.n] [(5,.int .i64 0)] ?_
 refine A.dx 1 ?_
 obtain rfl:=Option.some.inj hF
 exact A.AX.ret [] (.tuple #[.agg #[.int .i64 y11,.string y13],.int .i64 0]) (fun a w hf hh=>Z.resv2 rfl (Z.rv_n hf rfl Tryd.isAgg60 Tryd.sizeOf60 (A.Hp.blk hh 2) rfl) (Z.rv_t hf rfl)) (⟨rfl,rfl,hy12,hy14,(A.hasl .i64 (0) rfl)⟩)
def F.R18_moved_j1 (a0:D25)(y5:Int)(y7:ByteArray)(y9:Int):Option D38:=some (a0.1,y5,y7,y9)
def F.R18_moved (a0:D25)(a1:D27)(a2:D38):Option D38:=if a1.2.2.1=2 then((F.R18_scaled a2.2.2.2 a1.2.2.2.1).bind fun r11=>(F.R18_moved_j1 a0 a2.2.1 a2.2.2.1 r11))else(if a1.2.2.1=3 then((F.R06_Map (a1.2.2.2.2.1,a1.2.2.2.2.2.1,a1.2.2.2.2.2.2) (a2.2.1,a2.2.2.1)).bind fun r14=>(if a0.2.1=16 then(F.R18_moved_j1 a0 r14.1.1 r14.1.2 a2.2.2.2)else(F.R18_moved_j1 a0 r14.1.1 a2.2.2.1 a2.2.2.2)))else(F.R18_moved_j1 a0 a2.2.1 a2.2.2.1 a2.2.2.2))
theorem R18_moved_ok (a0:D25)(a1:D27)(a2:D38)(A2_:Option Addr)(c3_:Nat)(h0_:IntKind.i64.has a0.1)(h1_:IntKind.i64.has a0.2.1)(h4_:IntKind.i64.has a0.2.2.2.1.1)(h5_:IntKind.i64.has a0.2.2.2.1.2.1)(h6_:a0.2.2.2.1.2.2.size≤maxLen)(h7_:a0.2.2.2.2.1.size≤maxLen)(h8_:IntKind.i64.has a0.2.2.2.2.2.1)(h9_:IntKind.i64.has a0.2.2.2.2.2.2)(h10_:IntKind.i64.has a1.1)(h11_:IntKind.i64.has a1.2.1)(h12_:IntKind.i64.has a1.2.2.1)(h13_:IntKind.i64.has a1.2.2.2.1)(h14_:IntKind.i64.has a1.2.2.2.2.1)(h15_:IntKind.i64.has a1.2.2.2.2.2.1)(h16_:a1.2.2.2.2.2.2.size≤maxLen)(h17_:IntKind.i64.has a2.1)(h18_:IntKind.i64.has a2.2.1)(h19_:a2.2.2.1.size≤maxLen)(h20_:IntKind.i64.has a2.2.2.2)(r:D38)(hF:F.R18_moved a0 a1 a2=some r):
    A.Ct Tryd.prog 29 [.agg #[.int .i64 a0.1,.int .i64 a0.2.1,.slice A2_ ((a0.2.2.1).length) c3_,.int .i64 a0.2.2.2.1.1,.int .i64 a0.2.2.2.1.2.1,.string a0.2.2.2.1.2.2,.string a0.2.2.2.2.1,.int .i64 a0.2.2.2.2.2.1,.int .i64 a0.2.2.2.2.2.2],.agg #[.int .i64 a1.1,.int .i64 a1.2.1,.int .i64 a1.2.2.1,.int .i64 a1.2.2.2.1,.int .i64 a1.2.2.2.2.1,.int .i64 a1.2.2.2.2.2.1,.string a1.2.2.2.2.2.2],.agg #[.int .i64 a2.1,.int .i64 a2.2.1,.string a2.2.2.1,.int .i64 a2.2.2.2]] [(0,.sh (.slice (Z.Ty.int .i64)) [.slice A2_ (a0.2.2.1).length c3_] a0.2.2.1)] [] (fun v H'=>v=.agg #[.int .i64 r.1,.int .i64 r.2.1,.string r.2.2.1,.int .i64 r.2.2.2]∧H'=[]∧IntKind.i64.has r.1∧IntKind.i64.has r.2.1∧r.2.2.1.size≤maxLen∧IntKind.i64.has r.2.2.2):=by
 refine A.Ct.enter Tryd.func29 rfl Tryd.ntmps29 rfl fun w0 F0=>?_
 rw[F.R18_moved]at hF
 refine A.xl 1 ?_
 refine A.AL.box 1 (cs:=[.int .i64 a0.1,.int .i64 a0.2.1,.slice A2_ ((a0.2.2.1).length) c3_,.int .i64 a0.2.2.2.1.1,.int .i64 a0.2.2.2.1.2.1,.string a0.2.2.2.1.2.2,.string a0.2.2.2.2.1,.int .i64 a0.2.2.2.2.2.1,.int .i64 a0.2.2.2.2.2.2]) fun g1=>?_
 refine A.AL.box 2 (cs:=[.int .i64 a1.1,.int .i64 a1.2.1,.int .i64 a1.2.2.1,.int .i64 a1.2.2.2.1,.int .i64 a1.2.2.2.2.1,.int .i64 a1.2.2.2.2.2.1,.string a1.2.2.2.2.2.2]) fun g2=>?_
 refine A.AL.box 3 (cs:=[.int .i64 a2.1,.int .i64 a2.2.1,.string a2.2.2.1,.int .i64 a2.2.2.2]) fun g3=>?_
 refine A.AL.alloc 4 (cs:=[.int .i64 0,.int .i64 0,.string (ByteArray.mk #[]),.int .i64 0]) Tryd.zeroValue39 fun g4=>?_
 refine A.dl 2 ?_
 refine A.q0 [1] [] [.n,.b 0 0,.n] [(10,.int .i64 a0.1),(11,.pointer (some ⟨g3,0,none⟩))] ?_
 refine A.AL.store 3 [] (new:=[.int .i64 a0.1]) (cs':=[.int .i64 a0.1,.int .i64 a2.2.1,.string a2.2.2.1,.int .i64 a2.2.2.2]) ?_
 refine A.dx 1 ?_
 refine A.AX.join [5,6] [4] (fun nl nh=>∃(y5:Int),∃(y7:ByteArray),∃(y9:Int),nl=[]∧nh=[(3,.blk g3 39 [.int .i64 a0.1,.int .i64 y5,.string y7,.int .i64 y9])]∧IntKind.i64.has y5∧y7.size≤maxLen∧IntKind.i64.has y9∧F.R18_moved_j1 a0 y5 y7 y9=some r) ?_ ?_
 ·refine A.xl 1 ?_
  refine A.q0 [2] [] [.n,.b 0 2] [(13,.int .i64 a1.2.2.1)] ?_
  refine A.dl 3 ?_
  refine A.q0 [] [] [.n,.n] [(14,.bool (decide (a1.2.2.1=2)))] ?_
  refine A.dx 1 ?_
  refine A.AX.cnd rfl hF (fun hb hF=>?_) (fun hb hF=>?_)
  ·refine A.xl 0 ?_
   refine A.q0 [3,2] [] [.n,.b 0 3,.n,.b 1 3] [(17,.int .i64 a2.2.2.2),(19,.int .i64 a1.2.2.2.1)] ?_
   obtain⟨r11,hv12,hF⟩:=A.bd_some hF
   refine A.AL.call 5 [] (first:=[]) (cap:=[]) cf48 (R18_scaled_ok a2.2.2.2 a1.2.2.2.1 h20_ h13_ r11 hv12) .nil ?_
   rintro _ _ ⟨rfl,rfl,hr13⟩
   refine⟨by kernel_rfl,?_⟩
   refine A.q0 [] [] [.n] [(21,.pointer (some ⟨g3,3,none⟩))] ?_
   refine A.AL.store 3 [] (new:=[.int .i64 r11]) (cs':=[.int .i64 a0.1,.int .i64 a2.2.1,.string a2.2.2.1,.int .i64 r11]) ?_
   refine A.de 1 ?_
   exact A.j ⟨a2.2.1,a2.2.2.1,r11,rfl,rfl,h18_,h19_,hr13,hF⟩
  refine A.xl 1 ?_
  refine A.q0 [] [] [.n,.n] [(22,.bool (decide (a1.2.2.1=3)))] ?_
  refine A.dx 1 ?_
  refine A.AX.cnd rfl hF (fun hb hF=>?_) (fun hb hF=>?_)
  ·refine A.xl 1 ?_
   refine A.q0 [2,3] [] [.n,.b 0 4,.n,.b 1 1,.n,.b 1 2,.n] [(26,.agg #[.int .i64 a1.2.2.2.2.1,.int .i64 a1.2.2.2.2.2.1,.string a1.2.2.2.2.2.2]),(31,.agg #[.int .i64 a2.2.1,.string a2.2.2.1])] ?_
   obtain⟨r14,hv15,hF⟩:=A.bd_some hF
   refine A.AL.call 45 [] (first:=[]) (cap:=[]) cf49 (R06_Map_ok (a1.2.2.2.2.1,a1.2.2.2.2.2.1,a1.2.2.2.2.2.2) (a2.2.1,a2.2.2.1) h14_ h15_ h16_ h18_ h19_ r14 hv15) .nil ?_
   rintro _ _ ⟨rfl,rfl,hr16,hr17,hr18⟩
   refine⟨by kernel_rfl,?_⟩
   refine A.q0 [] [] [.n,.n,.n] [(33,.agg #[.int .i64 r14.1.1,.string r14.1.2]),(34,.int .i64 r14.2)] ?_
   refine A.AL.alloc 85 (cs:=[.int .i64 0,.string (ByteArray.mk #[])]) Tryd.zeroValue60 fun g19=>?_
   refine A.sw 85 [] [.int .i64 r14.1.1,.string r14.1.2] ?_
   refine A.q0 [] [] [.n] [] ?_
   refine A.dl 2 ?_
   refine A.q0 [85] [] [.n,.b 0 0,.n] [(36,.int .i64 r14.1.1),(37,.pointer (some ⟨g3,1,none⟩))] ?_
   refine A.AL.store 3 [] (new:=[.int .i64 r14.1.1]) (cs':=[.int .i64 a0.1,.int .i64 r14.1.1,.string a2.2.2.1,.int .i64 a2.2.2.2]) ?_
   refine A.dl 2 ?_
   refine A.q0 [1] [] [.n,.b 0 1,.n] [(40,.bool (decide (a0.2.1=16)))] ?_
   refine A.dx 1 ?_
   refine A.AX.cnd rfl hF (fun hb hF=>?_) (fun hb hF=>?_)
   ·refine A.xl 0 ?_
    refine A.q0 [85] [] [.n,.b 0 1,.n] [(42,.string r14.1.2),(43,.pointer (some ⟨g3,2,none⟩))] ?_
    refine A.AL.store 3 [] (new:=[.string r14.1.2]) (cs':=[.int .i64 a0.1,.int .i64 r14.1.1,.string r14.1.2,.int .i64 a2.2.2.2]) ?_
    refine A.de 1 ?_
    exact A.j ⟨r14.1.1,r14.1.2,a2.2.2.2,rfl,rfl,hr16,hr17,h20_,hF⟩
   refine A.xe 2 ?_
   exact A.j ⟨r14.1.1,a2.2.2.1,a2.2.2.2,rfl,rfl,hr16,h19_,h20_,hF⟩
  refine A.xe 2 ?_
  exact A.j ⟨a2.2.1,a2.2.2.1,a2.2.2.2,rfl,rfl,h18_,h19_,h20_,hF⟩
 rintro _ _ ⟨y5,y7,y9,rfl,rfl,hy6,hy8,hy10,hF⟩
 rw[F.R18_moved_j1]at hF
 refine A.xl 1 ?_
 refine A.q0 [3] [] [.b 0 0] [(44,.agg #[.int .i64 a0.1,.int .i64 y5,.string y7,.int .i64 y9])] ?_
 refine A.sw 4 [] [.int .i64 a0.1,.int .i64 y5,.string y7,.int .i64 y9] ?_
 refine A.dx 1 ?_
 obtain rfl:=Option.some.inj hF
 exact A.AX.ret [] (.agg #[.int .i64 a0.1,.int .i64 y5,.string y7,.int .i64 y9]) (fun a w hf hh=>Z.resv1 rfl (Z.rv_n hf rfl Tryd.isAgg39 Tryd.sizeOf39 (A.Hp.blk hh 4) rfl)) (⟨rfl,rfl,h0_,hy6,hy8,hy10⟩)
end Go.Proofs.YtfpemeeadiigcaaDoor
end
section
set_option linter.unusedVariables false
set_option linter.unusedSimpArgs false
set_option maxRecDepth 20000
set_option maxHeartbeats 8000000
set_option synthInstance.maxSize 1000000
set_option synthInstance.maxHeartbeats 400000
namespace Go.Proofs.YtfpemeeadiigcaaDoor
open Go.RowKit
def F.R18_Migrate_l1 (a0:D25)(a1:D27)(a2:(List D38)):Nat→(List D38)→Int→Option ((List D38)×Int)
 |0,_,_=>none
 |f+1,xs10,y11=>if y11<((a2).length:Int)then((A.ix a2 y11).bind fun x14=>((F.R18_moved (a0.1,a0.2.1,a0.2.2.1,(a0.2.2.2.1.1,a0.2.2.2.1.2.1,a0.2.2.2.1.2.2),a0.2.2.2.2.1,a0.2.2.2.2.2.1,a0.2.2.2.2.2.2) (a1.1,a1.2.1,a1.2.2.1,a1.2.2.2.1,(a1.2.2.2.2.1,a1.2.2.2.2.2.1,a1.2.2.2.2.2.2)) (x14.1,x14.2.1,x14.2.2.1,x14.2.2.2)).bind fun r20=>((F.R18_put xs10 (r20.1,r20.2.1,r20.2.2.1,r20.2.2.2) (decide (a0.2.1=16))).bind fun r26=>(A.gd (Z.R64 (y11+1)) ((F.R18_Migrate_l1 a0 a1 a2 f) r26 (y11+1))))))else(some (xs10,0))
def F.R18_Migrate_j2 (a0:D25)(a1:D27)(a2:(List D38))(y4:Bool):Option ((List D38)×Int):=if y4=true then(some ([],180))else((F.R17_CheckState (a1.1,a0.2.1,a0.2.2.1,(a0.2.2.2.1.1,a0.2.2.2.1.2.1,a0.2.2.2.1.2.2),a0.2.2.2.2.1,a0.2.2.2.2.2.1,a0.2.2.2.2.2.2) a2).bind fun r5=>(if r5≠0 then(some ([],r5))else(F.R18_Migrate_l1 a0 a1 a2 A.FU [] 0)))
def F.R18_Migrate (a0:D25)(a1:D27)(a2:(List D38)):Option ((List D38)×Int):=if a0.1≠a1.2.1 then(F.R18_Migrate_j2 a0 a1 a2 true)else((F.R18_Fits (a1.1,a0.2.1,a0.2.2.1,(a0.2.2.2.1.1,a0.2.2.2.1.2.1,a0.2.2.2.1.2.2),a0.2.2.2.2.1,a0.2.2.2.2.2.1,a0.2.2.2.2.2.2) (a0.1,a0.2.1,a0.2.2.1,(a0.2.2.2.1.1,a0.2.2.2.1.2.1,a0.2.2.2.1.2.2),a0.2.2.2.2.1,a0.2.2.2.2.2.1,a0.2.2.2.2.2.2) (a1.1,a1.2.1,a1.2.2.1,a1.2.2.2.1,(a1.2.2.2.2.1,a1.2.2.2.2.2.1,a1.2.2.2.2.2.2))).bind fun r31=>(F.R18_Migrate_j2 a0 a1 a2 (decide (r31≠0))))
theorem R18_Migrate_ok (a0:D25)(a1:D27)(a2:(List D38))(A2_:Option Addr)(c3_:Nat)(A17_:Option Addr)(c18_:Nat)(h0_:IntKind.i64.has a0.1)(h1_:IntKind.i64.has a0.2.1)(h4_:IntKind.i64.has a0.2.2.2.1.1)(h5_:IntKind.i64.has a0.2.2.2.1.2.1)(h6_:a0.2.2.2.1.2.2.size≤maxLen)(h7_:a0.2.2.2.2.1.size≤maxLen)(h8_:IntKind.i64.has a0.2.2.2.2.2.1)(h9_:IntKind.i64.has a0.2.2.2.2.2.2)(h10_:IntKind.i64.has a1.1)(h11_:IntKind.i64.has a1.2.1)(h12_:IntKind.i64.has a1.2.2.1)(h13_:IntKind.i64.has a1.2.2.2.1)(h14_:IntKind.i64.has a1.2.2.2.2.1)(h15_:IntKind.i64.has a1.2.2.2.2.2.1)(h16_:a1.2.2.2.2.2.2.size≤maxLen)(r:(List D38)×Int)(hF:F.R18_Migrate a0 a1 a2=some r):
    A.Ct Tryd.prog 14 [.agg #[.int .i64 a0.1,.int .i64 a0.2.1,.slice A2_ ((a0.2.2.1).length) c3_,.int .i64 a0.2.2.2.1.1,.int .i64 a0.2.2.2.1.2.1,.string a0.2.2.2.1.2.2,.string a0.2.2.2.2.1,.int .i64 a0.2.2.2.2.2.1,.int .i64 a0.2.2.2.2.2.2],.agg #[.int .i64 a1.1,.int .i64 a1.2.1,.int .i64 a1.2.2.1,.int .i64 a1.2.2.2.1,.int .i64 a1.2.2.2.2.1,.int .i64 a1.2.2.2.2.2.1,.string a1.2.2.2.2.2.2],.slice A17_ ((a2).length) c18_] [(0,.sh (.slice (Z.Ty.int .i64)) [.slice A2_ (a0.2.2.1).length c3_] a0.2.2.1),(1,.ln T38 A17_ c18_ a2)] [] (fun v H'=>∃(A0':Option Addr) (c1':Nat),v=.tuple #[.slice A0' ((r.1).length) c1',.int .i64 r.2]∧H'=[(0,.sh (.slice T38) [.slice A0' (r.1).length c1'] r.1)]∧IntKind.i64.has r.2):=by
 refine A.Ct.enter Tryd.func14 rfl Tryd.ntmps14 rfl fun w0 F0=>?_
 rw[F.R18_Migrate]at hF
 refine A.xl 1 ?_
 refine A.AL.box 2 (cs:=[.int .i64 a0.1,.int .i64 a0.2.1,.slice A2_ ((a0.2.2.1).length) c3_,.int .i64 a0.2.2.2.1.1,.int .i64 a0.2.2.2.1.2.1,.string a0.2.2.2.1.2.2,.string a0.2.2.2.2.1,.int .i64 a0.2.2.2.2.2.1,.int .i64 a0.2.2.2.2.2.2]) fun g1=>?_
 refine A.AL.box 3 (cs:=[.int .i64 a1.1,.int .i64 a1.2.1,.int .i64 a1.2.2.1,.int .i64 a1.2.2.2.1,.int .i64 a1.2.2.2.2.1,.int .i64 a1.2.2.2.2.2.1,.string a1.2.2.2.2.2.2]) fun g2=>?_
 refine A.q0 [] [] [.n,.n] [] ?_
 refine A.dl 2 ?_
 refine A.q0 [2] [] [.b 0 0] [(12,.agg #[.int .i64 a0.1,.int .i64 a0.2.1,.slice A2_ ((a0.2.2.1).length) c3_,.int .i64 a0.2.2.2.1.1,.int .i64 a0.2.2.2.1.2.1,.string a0.2.2.2.1.2.2,.string a0.2.2.2.2.1,.int .i64 a0.2.2.2.2.2.1,.int .i64 a0.2.2.2.2.2.2])] ?_
 refine A.AL.alloc 4 (cs:=[.int .i64 0,.int .i64 0,.slice none 0 0,.int .i64 0,.int .i64 0,.string (ByteArray.mk #[]),.string (ByteArray.mk #[]),.int .i64 0,.int .i64 0]) Tryd.zeroValue26 fun g3=>?_
 refine A.sw 4 [] [.int .i64 a0.1,.int .i64 a0.2.1,.slice A2_ ((a0.2.2.1).length) c3_,.int .i64 a0.2.2.2.1.1,.int .i64 a0.2.2.2.1.2.1,.string a0.2.2.2.1.2.2,.string a0.2.2.2.2.1,.int .i64 a0.2.2.2.2.2.1,.int .i64 a0.2.2.2.2.2.2] ?_
 refine A.dl 2 ?_
 refine A.q0 [3] [] [.n,.b 0 0,.n] [(14,.int .i64 a1.1),(15,.pointer (some ⟨g3,0,none⟩))] ?_
 refine A.AL.store 4 [] (new:=[.int .i64 a1.1]) (cs':=[.int .i64 a1.1,.int .i64 a0.2.1,.slice A2_ ((a0.2.2.1).length) c3_,.int .i64 a0.2.2.2.1.1,.int .i64 a0.2.2.2.1.2.1,.string a0.2.2.2.1.2.2,.string a0.2.2.2.2.1,.int .i64 a0.2.2.2.2.2.1,.int .i64 a0.2.2.2.2.2.2]) ?_
 refine A.dx 2 ?_
 refine A.AX.join [2,3,4,8] [0,1,2,3,4] (fun nl nh=>∃(y4:Bool),nl=[(27,.bool y4)]∧nh=[]∧F.R18_Migrate_j2 a0 a1 a2 y4=some r) ?_ ?_
 ·refine A.xl 0 ?_
  refine A.q0 [2,3] [] [.n,.b 0 0,.n,.b 1 1,.n,.n] [(21,.bool (decide (a0.1≠a1.2.1)))] ?_
  refine A.AL.cnp (j:=21) rfl hF (fun hb hF=>?_) (fun hb hF=>?_)
  ·refine A.q0 [] [] [.off,.off,.off,.off,.off,.n] [(27,.bool true)] ?_
   refine A.AL.done ?_
   exact A.j ⟨true,rfl,rfl,hF⟩
  refine A.q0 [4,2,3] [] [.on (.b 0 0),.on (.b 1 0),.on (.b 2 0)] [(22,.agg #[.int .i64 a1.1,.int .i64 a0.2.1,.slice A2_ ((a0.2.2.1).length) c3_,.int .i64 a0.2.2.2.1.1,.int .i64 a0.2.2.2.1.2.1,.string a0.2.2.2.1.2.2,.string a0.2.2.2.2.1,.int .i64 a0.2.2.2.2.2.1,.int .i64 a0.2.2.2.2.2.2]),(23,.agg #[.int .i64 a0.1,.int .i64 a0.2.1,.slice A2_ ((a0.2.2.1).length) c3_,.int .i64 a0.2.2.2.1.1,.int .i64 a0.2.2.2.1.2.1,.string a0.2.2.2.1.2.2,.string a0.2.2.2.2.1,.int .i64 a0.2.2.2.2.2.1,.int .i64 a0.2.2.2.2.2.2]),(24,.agg #[.int .i64 a1.1,.int .i64 a1.2.1,.int .i64 a1.2.2.1,.int .i64 a1.2.2.2.1,.int .i64 a1.2.2.2.2.1,.int .i64 a1.2.2.2.2.2.1,.string a1.2.2.2.2.2.2])] ?_
  refine A.AL.on (dj:=21) rfl rfl ?_
  obtain⟨r31,hv32,hF⟩:=A.bd_some hF
  refine A.AL.call 5 [] (first:=[]) (cap:=[]) cf28 (R18_Fits_ok (a1.1,a0.2.1,a0.2.2.1,(a0.2.2.2.1.1,a0.2.2.2.1.2.1,a0.2.2.2.1.2.2),a0.2.2.2.2.1,a0.2.2.2.2.2.1,a0.2.2.2.2.2.2) (a0.1,a0.2.1,a0.2.2.1,(a0.2.2.2.1.1,a0.2.2.2.1.2.1,a0.2.2.2.1.2.2),a0.2.2.2.2.1,a0.2.2.2.2.2.1,a0.2.2.2.2.2.2) (a1.1,a1.2.1,a1.2.2.1,a1.2.2.2.1,(a1.2.2.2.2.1,a1.2.2.2.2.2.1,a1.2.2.2.2.2.2)) A2_ c3_ A2_ c3_ h10_ h1_ h4_ h5_ h6_ h7_ h8_ h9_ h0_ h1_ h4_ h5_ h6_ h7_ h8_ h9_ h10_ h11_ h12_ h13_ h14_ h15_ h16_ r31 hv32) (.s 0 (.s 0 .nil)) ?_
  rintro _ _ ⟨rfl,rfl,hr33⟩
  refine⟨by kernel_rfl,?_⟩
  refine A.q0 [] [] [.on .n,.n] [(27,.bool (decide (r31≠0)))] ?_
  refine A.AL.done ?_
  exact A.j ⟨(decide (r31≠0)),rfl,rfl,hF⟩
 rintro _ _ ⟨y4,rfl,rfl,hF⟩
 rw[F.R18_Migrate_j2]at hF
 refine A.AX.cnb rfl hF (fun hb hF=>?_) (fun hb hF=>?_)
 ·refine A.xl 1 ?_
  refine A.q0 [] [] [.n,.n] [(6,.slice none 0 0),(7,.int .i64 180)] ?_
  refine A.dx 1 ?_
  obtain rfl:=Option.some.inj hF
  refine A.snil 45 T38 ?_
  exact A.rt2 [(0,45)] ⟨none,0,rfl,rfl,(A.hasl .i64 (180) rfl)⟩
 refine A.xl 4 ?_
 refine A.q0 [4] [] [.b 0 0,.n] [(28,.agg #[.int .i64 a1.1,.int .i64 a0.2.1,.slice A2_ ((a0.2.2.1).length) c3_,.int .i64 a0.2.2.2.1.1,.int .i64 a0.2.2.2.1.2.1,.string a0.2.2.2.1.2.2,.string a0.2.2.2.2.1,.int .i64 a0.2.2.2.2.2.1,.int .i64 a0.2.2.2.2.2.2]),(29,.slice A17_ ((a2).length) c18_)] ?_
 obtain⟨r5,hv6,hF⟩:=A.bd_some hF
 refine A.AL.call 46 [] (first:=[]) (cap:=[]) cf10 (R17_CheckState_ok (a1.1,a0.2.1,a0.2.2.1,(a0.2.2.2.1.1,a0.2.2.2.1.2.1,a0.2.2.2.1.2.2),a0.2.2.2.2.1,a0.2.2.2.2.2.1,a0.2.2.2.2.2.2) a2 A2_ c3_ A17_ c18_ h10_ h1_ h4_ h5_ h6_ h7_ h8_ h9_ r5 hv6) (.s 0 (.s 1 .nil)) ?_
 rintro _ _ ⟨rfl,rfl,hr7⟩
 refine⟨by kernel_rfl,?_⟩
 refine A.q0 [] [] [.n] [(9,.int .i64 r5)] ?_
 refine A.dl 2 ?_
 refine A.q0 [] [] [.n,.n] [(32,.bool (decide (r5≠0)))] ?_
 refine A.dx 1 ?_
 refine A.AX.cnd rfl hF (fun hb hF=>?_) (fun hb hF=>?_)
 ·refine A.xl 1 ?_
  refine A.q0 [] [] [.n,.n,.n] [(6,.slice none 0 0),(7,.int .i64 r5)] ?_
  refine A.dx 1 ?_
  obtain rfl:=Option.some.inj hF
  refine A.snil 86 T38 ?_
  exact A.rt2 [(0,86)] ⟨none,0,rfl,rfl,hr7⟩
 refine A.xl 3 ?_
 refine A.q0 [] [] [.n] [(10,.slice none 0 0)] ?_
 refine A.dl 3 ?_
 refine A.q0 [] [] [.n] [(11,.int .i64 0)] ?_
 refine A.dx 2 ?_
 refine A.snil 169 T38 ?_
 refine A.lp_ [2,3,4] [0,1,2,3] (fun f nl nh=>∃(xs10:List D38),∃(y11:Int),∃(A8:Option Addr),∃(c9:Nat),nl=[(10,.slice A8 ((xs10).length) c9),(11,.int .i64 y11)]∧nh=[(169,.sh (.slice T38) [.slice A8 (xs10).length c9] xs10)]∧IntKind.i64.has y11∧F.R18_Migrate_l1 a0 a1 a2 f xs10 y11=some r) ⟨[],0,none,0,rfl,rfl,(A.hasl .i64 (0) rfl),hF⟩ ?_
 rintro f13 _ _ ⟨xs10,y11,A8,c9,rfl,rfl,hy12,hF⟩
 rcases f13 with _|f13
 ·exact A.no0 hF
 rw[F.R18_Migrate_l1]at hF
 refine A.xl 2 ?_
 refine A.q0 [] [] [.n,.n,.n,.n] [(37,.bool (decide (y11<((a2).length:Int))))] ?_
 refine A.dx 1 ?_
 refine A.AX.cnd rfl hF (fun hb hF=>?_) (fun hb hF=>?_)
 ·refine A.xx 4 ?_
  refine A.AX.dr mixed 13 13 (A.mb 13 0) ?_
  refine A.hq A.pb [] [0,1,2,3,169] [2,3] [] (A.mb 13 1823) 5 [(0,.n),(1,.b 0 0),(2,.b 1 0),(3,.n),(4,.n),(8,.n),(9,.b 0 1),(10,.n)] [(40,.slice A8 ((xs10).length) c9),(41,.agg #[.int .i64 a0.1,.int .i64 a0.2.1,.slice A2_ ((a0.2.2.1).length) c3_,.int .i64 a0.2.2.2.1.1,.int .i64 a0.2.2.2.1.2.1,.string a0.2.2.2.1.2.2,.string a0.2.2.2.2.1,.int .i64 a0.2.2.2.2.2.1,.int .i64 a0.2.2.2.2.2.2]),(42,.agg #[.int .i64 a1.1,.int .i64 a1.2.1,.int .i64 a1.2.2.1,.int .i64 a1.2.2.2.1,.int .i64 a1.2.2.2.2.1,.int .i64 a1.2.2.2.2.2.1,.string a1.2.2.2.2.2.2]),(43,.slice A17_ ((a2).length) c18_),(44,.int .i64 y11),(50,.bool (decide (a0.2.1=16)))] ?_
  obtain⟨x14,hv15,hF⟩:=A.bd_some hF
  refine A.AH.pkl 1 334 hv15 fun ho16=>?_
  intro b18 o19 hA17
  refine A.AH.v A.pb [0,1,2,3,169] [0,1,2,3,169,334] 5 (A.mb 13 1855) rfl (fun a w hf hh=>A.r_ixa (t:=T38) hv15 hA17 hf) ?_
  refine A.hq A.pb [0,1,2,3,169,334] [0,1,2,3,169,334] [] [334] (A.mb 13 1919) 3 [(6,.e 0 0)] [(46,.agg #[.int .i64 x14.1,.int .i64 x14.2.1,.string x14.2.2.1,.int .i64 x14.2.2.2])] ?_
  refine A.AH.one 7 ?_
  obtain⟨r20,hv21,hF⟩:=A.bd_some hF
  refine A.AL.call 335 [] (first:=[]) (cap:=[]) cf29 (R18_moved_ok (a0.1,a0.2.1,a0.2.2.1,(a0.2.2.2.1.1,a0.2.2.2.1.2.1,a0.2.2.2.1.2.2),a0.2.2.2.2.1,a0.2.2.2.2.2.1,a0.2.2.2.2.2.2) (a1.1,a1.2.1,a1.2.2.1,a1.2.2.2.1,(a1.2.2.2.2.1,a1.2.2.2.2.2.1,a1.2.2.2.2.2.2)) (x14.1,x14.2.1,x14.2.2.1,x14.2.2.2) A2_ c3_ h0_ h1_ h4_ h5_ h6_ h7_ h8_ h9_ h10_ h11_ h12_ h13_ h14_ h15_ h16_ ho16.1 ho16.2.1 ho16.2.2.1 ho16.2.2.2 r20 hv21) (.s 0 .nil) ?_
  rintro _ _ ⟨rfl,rfl,hr22,hr23,hr24,hr25⟩
  refine⟨by kernel_rfl,?_⟩
  refine A.AH.nx (A.mb 13 2047) [0,1,2,3,169,334] ?_
  refine A.AH.one 11 ?_
  obtain⟨r26,hv27,hF⟩:=A.bd_some hF
  refine A.AL.call 375 [] (first:=[]) (cap:=[]) cf27 (R18_put_ok xs10 (r20.1,r20.2.1,r20.2.2.1,r20.2.2.2) (decide (a0.2.1=16)) A8 c9 hr22 hr23 hr24 hr25 r26 hv27) (.s 169 .nil) ?_
  rintro _ _ ⟨A28,c29,rfl,rfl⟩
  refine⟨by kernel_rfl,?_⟩
  refine A.AH.nx (A.mb 13 4095) [0,1,2,3,169,334] ?_
  refine A.hq A.pb [0,1,2,3,169,334] [0,1,2,3,169,334,375] [] [] (A.mb 13 8191) 0 [(12,.n)] [(10,.slice A28 ((r26).length) c29)] ?_
  refine A.AH.done ?_
  refine A.el 2 ?_
  obtain⟨hc30,hF⟩:=A.gd_some hF
  refine A.q [] [] [.n,.n,.n] [Z.R64 (y11+1)] [(11,.int .i64 (y11+1))] hc30 ?_
  refine A.AL.done ?_
  refine A.mv 169 415 [] ?_
  refine A.mvd 375 169 [] ?_
  exact A.j ⟨_,Nat.lt_succ_self _,⟨r26,(y11+1),A28,c29,rfl,rfl,(Z.i64_has hc30),hF⟩⟩
 refine A.xl 3 ?_
 refine A.q0 [] [] [.n,.n,.n] [(6,.slice A8 ((xs10).length) c9),(7,.int .i64 0)] ?_
 refine A.dx 1 ?_
 obtain rfl:=Option.some.inj hF
 exact A.rt2 [(0,169)] ⟨A8,c9,rfl,rfl,(A.hasl .i64 (0) rfl)⟩
def F.L18_SchemaMoves_j1 (y20:Bool):Option Bool:=some y20
def F.L18_SchemaMoves_j2 (a0:D25)(a1:D27)(a2:(List D38))(y3:Bool):Option Bool:=if y3=true then((F.L18_begun).bind fun r4=>(some r4))else((F.slices_Clone_api_Entry_api_Entry a2).bind fun r6=>((F.schema_Migrate (a0.1,a0.2.1,a0.2.2.1,(a0.2.2.2.1.1,a0.2.2.2.1.2.1,a0.2.2.2.1.2.2),a0.2.2.2.2.1,a0.2.2.2.2.2.1,a0.2.2.2.2.2.2) (a1.1,a1.2.1,a1.2.2.1,a1.2.2.2.1,(a1.2.2.2.2.1,a1.2.2.2.2.2.1,a1.2.2.2.2.2.2)) a2).bind fun r10=>((F.R18_Migrate (a0.1,a0.2.1,a0.2.2.1,(a0.2.2.2.1.1,a0.2.2.2.1.2.1,a0.2.2.2.1.2.2),a0.2.2.2.2.1,a0.2.2.2.2.2.1,a0.2.2.2.2.2.2) (a1.1,a1.2.1,a1.2.2.1,a1.2.2.2.1,(a1.2.2.2.2.1,a1.2.2.2.2.2.1,a1.2.2.2.2.2.2)) a2).bind fun r15=>((F.R18_Same r10.1 r15.1).bind fun r21=>(if(bif r21 then decide (r10.2=r15.2)else false)=true then((F.slices_Equal_api_Entry_api_Entry a2 r6).bind fun r23=>(F.L18_SchemaMoves_j1 r23))else(F.L18_SchemaMoves_j1 false))))))
def F.L18_SchemaMoves (a0:D25)(a1:D27)(a2:(List D38)):Option Bool:=(F.L18_begun).bind fun r25=>(if(!r25)=true then(F.L18_SchemaMoves_j2 a0 a1 a2 true)else((F.L18_few a2).bind fun r27=>(F.L18_SchemaMoves_j2 a0 a1 a2 (bif !r27 then true else decide ((3000:Int)<(a1.2.2.2.2.2.2.size:Int))))))
theorem L18_SchemaMoves_ok (a0:D25)(a1:D27)(a2:(List D38))(A2_:Option Addr)(c3_:Nat)(A17_:Option Addr)(c18_:Nat)(h0_:IntKind.i64.has a0.1)(h1_:IntKind.i64.has a0.2.1)(h4_:IntKind.i64.has a0.2.2.2.1.1)(h5_:IntKind.i64.has a0.2.2.2.1.2.1)(h6_:a0.2.2.2.1.2.2.size≤maxLen)(h7_:a0.2.2.2.2.1.size≤maxLen)(h8_:IntKind.i64.has a0.2.2.2.2.2.1)(h9_:IntKind.i64.has a0.2.2.2.2.2.2)(h10_:IntKind.i64.has a1.1)(h11_:IntKind.i64.has a1.2.1)(h12_:IntKind.i64.has a1.2.2.1)(h13_:IntKind.i64.has a1.2.2.2.1)(h14_:IntKind.i64.has a1.2.2.2.2.1)(h15_:IntKind.i64.has a1.2.2.2.2.2.1)(h16_:a1.2.2.2.2.2.2.size≤maxLen)(r:Bool)(hF:F.L18_SchemaMoves a0 a1 a2=some r):
    A.Ct Tryd.prog 5 [.agg #[.int .i64 a0.1,.int .i64 a0.2.1,.slice A2_ ((a0.2.2.1).length) c3_,.int .i64 a0.2.2.2.1.1,.int .i64 a0.2.2.2.1.2.1,.string a0.2.2.2.1.2.2,.string a0.2.2.2.2.1,.int .i64 a0.2.2.2.2.2.1,.int .i64 a0.2.2.2.2.2.2],.agg #[.int .i64 a1.1,.int .i64 a1.2.1,.int .i64 a1.2.2.1,.int .i64 a1.2.2.2.1,.int .i64 a1.2.2.2.2.1,.int .i64 a1.2.2.2.2.2.1,.string a1.2.2.2.2.2.2],.slice A17_ ((a2).length) c18_] [(0,.sh (.slice (Z.Ty.int .i64)) [.slice A2_ (a0.2.2.1).length c3_] a0.2.2.1),(1,.sh (.slice T38) [.slice A17_ (a2).length c18_] a2),(2,.el none 0 0 A.tabF),(3,.el none 1 0 A.tabA)] [] (fun v H'=>v=.bool r∧H'=[]):=by
 refine A.Ct.enter Tryd.func5 rfl Tryd.ntmps5 rfl fun w0 F0=>?_
 rw[F.L18_SchemaMoves]at hF
 refine A.xl 1 ?_
 refine A.AL.box 4 (cs:=[.int .i64 a0.1,.int .i64 a0.2.1,.slice A2_ ((a0.2.2.1).length) c3_,.int .i64 a0.2.2.2.1.1,.int .i64 a0.2.2.2.1.2.1,.string a0.2.2.2.1.2.2,.string a0.2.2.2.2.1,.int .i64 a0.2.2.2.2.2.1,.int .i64 a0.2.2.2.2.2.2]) fun g1=>?_
 refine A.AL.box 5 (cs:=[.int .i64 a1.1,.int .i64 a1.2.1,.int .i64 a1.2.2.1,.int .i64 a1.2.2.2.1,.int .i64 a1.2.2.2.2.1,.int .i64 a1.2.2.2.2.2.1,.string a1.2.2.2.2.2.2]) fun g2=>?_
 refine A.q0 [] [] [.n] [] ?_
 refine A.dx 2 ?_
 refine A.AX.join [2,3,4] [0,1,2,3,4,5] (fun nl nh=>∃(y3:Bool),nl=[(25,.bool y3)]∧nh=[]∧F.L18_SchemaMoves_j2 a0 a1 a2 y3=some r) ?_ ?_
 ·refine A.xl 0 ?_
  obtain⟨r25,hv26,hF⟩:=A.bd_some hF
  refine A.AL.call 6 [] (first:=[]) (cap:=[]) cf7 (L18_begun_ok r25 hv26) (.s 2 (.s 3 .nil)) ?_
  rintro _ _ ⟨rfl,rfl⟩
  refine⟨by kernel_rfl,?_⟩
  refine A.q0 [] [] [.n,.n] [(14,.bool (!r25))] ?_
  refine A.AL.cnd (j:=14) rfl hF (fun hF=>?_) (fun hF=>?_)
  ·refine A.q0 [] [] [.off,.off,.off,.n,.n,.off,.off,.off,.off,.off,.n] [(25,.bool true)] ?_
   refine A.AL.done ?_
   exact A.j ⟨true,rfl,rfl,hF⟩
  refine A.q0 [] [] [.on .n] [(15,.slice A17_ ((a2).length) c18_)] ?_
  refine A.AL.on (dj:=14) rfl rfl ?_
  obtain⟨r27,hv28,hF⟩:=A.bd_some hF
  refine A.AL.call 46 [] (first:=[]) (cap:=[]) cf8 (L18_few_ok a2 A17_ c18_ r27 hv28) (.s 1 .nil) ?_
  rintro _ _ ⟨rfl,rfl⟩
  refine⟨by kernel_rfl,?_⟩
  refine A.q0 [5] [] [.on .n,.n,.n,.sy .n,.sy .n,.sy (.b 0 6),.sy .n,.sy .n,.pk] [(25,.bool (bif !r27 then true else decide ((3000:Int)<(a1.2.2.2.2.2.2.size:Int))))] ?_
  refine A.AL.done ?_
  exact A.j ⟨(bif !r27 then true else decide ((3000:Int)<(a1.2.2.2.2.2.2.size:Int))),rfl,rfl,hF⟩
 rintro _ _ ⟨y3,rfl,rfl,hF⟩
 rw[F.L18_SchemaMoves_j2]at hF
 refine A.AX.cnb rfl hF (fun hb hF=>?_) (fun hb hF=>?_)
 ·refine A.xl 1 ?_
  obtain⟨r4,hv5,hF⟩:=A.bd_some hF
  refine A.AL.call 86 [] (first:=[]) (cap:=[]) cf7 (L18_begun_ok r4 hv5) (.s 2 (.s 3 .nil)) ?_
  rintro _ _ ⟨rfl,rfl⟩
  refine⟨by kernel_rfl,?_⟩
  refine A.q0 [] [] [.n] [(6,.bool r4)] ?_
  refine A.dx 1 ?_
  obtain rfl:=Option.some.inj hF
  exact A.rt1 [] ⟨rfl,rfl⟩
 refine A.xl 3 ?_
 refine A.q0 [] [] [.n] [(27,.slice A17_ ((a2).length) c18_)] ?_
 obtain⟨r6,hv7,hF⟩:=A.bd_some hF
 refine A.AL.call 126 [] (first:=[]) (cap:=[]) cf13 (slices_Clone_api_Entry_api_Entry_ok a2 A17_ c18_ r6 hv7) (.l 1 .nil) ?_
 rintro _ _ ⟨A8,c9,rfl,rfl⟩
 refine⟨by kernel_rfl,?_⟩
 refine A.q0 [] [] [.n] [(7,.slice A8 ((r6).length) c9)] ?_
 refine A.dl 2 ?_
 refine A.q0 [4,5] [] [.b 0 0,.b 1 0,.n] [(30,.agg #[.int .i64 a0.1,.int .i64 a0.2.1,.slice A2_ ((a0.2.2.1).length) c3_,.int .i64 a0.2.2.2.1.1,.int .i64 a0.2.2.2.1.2.1,.string a0.2.2.2.1.2.2,.string a0.2.2.2.2.1,.int .i64 a0.2.2.2.2.2.1,.int .i64 a0.2.2.2.2.2.2]),(31,.agg #[.int .i64 a1.1,.int .i64 a1.2.1,.int .i64 a1.2.2.1,.int .i64 a1.2.2.2.1,.int .i64 a1.2.2.2.2.1,.int .i64 a1.2.2.2.2.2.1,.string a1.2.2.2.2.2.2]),(32,.slice A17_ ((a2).length) c18_)] ?_
 obtain⟨r10,hv11,hF⟩:=A.bd_some hF
 refine A.AL.call 166 [] (first:=[]) (cap:=[]) cf9 (schema_Migrate_ok (a0.1,a0.2.1,a0.2.2.1,(a0.2.2.2.1.1,a0.2.2.2.1.2.1,a0.2.2.2.1.2.2),a0.2.2.2.2.1,a0.2.2.2.2.2.1,a0.2.2.2.2.2.2) (a1.1,a1.2.1,a1.2.2.1,a1.2.2.2.1,(a1.2.2.2.2.1,a1.2.2.2.2.2.1,a1.2.2.2.2.2.2)) a2 A2_ c3_ A17_ c18_ h0_ h1_ h4_ h5_ h6_ h7_ h8_ h9_ h10_ h11_ h12_ h13_ h14_ h15_ h16_ r10 hv11) (.s 0 (.l 1 (.s 2 (.s 3 .nil)))) ?_
 rintro _ _ ⟨A12,c13,rfl,rfl,hr14⟩
 refine⟨by kernel_rfl,?_⟩
 refine A.q0 [] [] [.n,.n,.n,.n,.n] [(8,.slice A12 ((r10.1).length) c13),(9,.int .i64 r10.2)] ?_
 refine A.dl 2 ?_
 refine A.q0 [4,5] [] [.b 0 0,.b 1 0,.n] [(37,.agg #[.int .i64 a0.1,.int .i64 a0.2.1,.slice A2_ ((a0.2.2.1).length) c3_,.int .i64 a0.2.2.2.1.1,.int .i64 a0.2.2.2.1.2.1,.string a0.2.2.2.1.2.2,.string a0.2.2.2.2.1,.int .i64 a0.2.2.2.2.2.1,.int .i64 a0.2.2.2.2.2.2]),(38,.agg #[.int .i64 a1.1,.int .i64 a1.2.1,.int .i64 a1.2.2.1,.int .i64 a1.2.2.2.1,.int .i64 a1.2.2.2.2.1,.int .i64 a1.2.2.2.2.2.1,.string a1.2.2.2.2.2.2]),(39,.slice A17_ ((a2).length) c18_)] ?_
 obtain⟨r15,hv16,hF⟩:=A.bd_some hF
 refine A.AL.call 206 [] (first:=[]) (cap:=[]) cf14 (R18_Migrate_ok (a0.1,a0.2.1,a0.2.2.1,(a0.2.2.2.1.1,a0.2.2.2.1.2.1,a0.2.2.2.1.2.2),a0.2.2.2.2.1,a0.2.2.2.2.2.1,a0.2.2.2.2.2.2) (a1.1,a1.2.1,a1.2.2.1,a1.2.2.2.1,(a1.2.2.2.2.1,a1.2.2.2.2.2.1,a1.2.2.2.2.2.2)) a2 A2_ c3_ A17_ c18_ h0_ h1_ h4_ h5_ h6_ h7_ h8_ h9_ h10_ h11_ h12_ h13_ h14_ h15_ h16_ r15 hv16) (.s 0 (.l 1 .nil)) ?_
 rintro _ _ ⟨A17,c18,rfl,rfl,hr19⟩
 refine⟨by kernel_rfl,?_⟩
 refine A.q0 [] [] [.n,.n,.n,.n,.n] [(10,.slice A17 ((r15.1).length) c18),(11,.int .i64 r15.2)] ?_
 refine A.dx 1 ?_
 refine A.AX.join [] [2,3] (fun nl nh=>∃(y20:Bool),nl=[(6,.bool y20)]∧nh=[]∧F.L18_SchemaMoves_j1 y20=some r) ?_ ?_
 ·refine A.xl 0 ?_
  refine A.q0 [] [] [.n,.n] [(43,.slice A12 ((r10.1).length) c13),(44,.slice A17 ((r15.1).length) c18)] ?_
  obtain⟨r21,hv22,hF⟩:=A.bd_some hF
  refine A.AL.call 246 [] (first:=[]) (cap:=[]) cf11 (R18_Same_ok r10.1 r15.1 A12 c13 A17 c18 r21 hv22) (.o 166 (.l 206 .nil)) ?_
  rintro _ _ ⟨rfl,rfl⟩
  refine⟨by kernel_rfl,?_⟩
  refine A.q0 [] [] [.n,.sy .n,.sy .n,.sy .n,.pk,.n] [(51,.bool (bif r21 then decide (r10.2=r15.2)else false))] ?_
  refine A.AL.cnd (j:=51) rfl hF (fun hF=>?_) (fun hF=>?_)
  ·refine A.q0 [] [] [.on .n,.on .n] [(52,.slice A17_ ((a2).length) c18_),(53,.slice A8 ((r6).length) c9)] ?_
   refine A.AL.on (dj:=51) rfl rfl ?_
   obtain⟨r23,hv24,hF⟩:=A.bd_some hF
   refine A.AL.call 286 [] (first:=[]) (cap:=[]) cf15 (slices_Equal_api_Entry_api_Entry_ok a2 r6 A17_ c18_ A8 c9 r23 hv24) (.l 1 (.o 126 .nil)) ?_
   rintro _ _ ⟨rfl,rfl⟩
   refine⟨by kernel_rfl,?_⟩
   refine A.q0 [] [] [.n,.n] [(6,.bool r23)] ?_
   refine A.AL.done ?_
   exact A.j ⟨r23,rfl,rfl,hF⟩
  refine A.q0 [] [] [.off,.off,.off,.n,.n] [(6,.bool false)] ?_
  refine A.AL.done ?_
  exact A.j ⟨false,rfl,rfl,hF⟩
 rintro _ _ ⟨y20,rfl,rfl,hF⟩
 rw[F.L18_SchemaMoves_j1]at hF
 obtain rfl:=Option.some.inj hF
 exact A.rt1 [] ⟨rfl,rfl⟩
end Go.Proofs.YtfpemeeadiigcaaDoor
end
section
set_option linter.unusedVariables false
set_option linter.unusedSimpArgs false
set_option maxRecDepth 20000
set_option maxHeartbeats 8000000
set_option synthInstance.maxSize 1000000
set_option synthInstance.maxHeartbeats 400000
namespace Go.Proofs.YtfpemeeadiigcaaDoor
open Go.RowKit
end Go.Proofs.YtfpemeeadiigcaaDoor
end
section
end
section
set_option linter.unusedVariables false
namespace Go.A
open Go.RowKit Go.Z Go.Shelf Go.Proofs Go.Lib
def Hall (W:World):List (Nat×Res)→Prop
 | []=>True
 |p::H=>(p.2.bl=[]∧p.2.ref=none∧p.2.holds W (fun _=>True) (fun _ _=>False))∧Hall W H
theorem Hall.at {W:World}: ∀{H:List (Nat×Res)} {k:Nat} {r:Res},Hall W H→hk H k=some r→r.bl=[]∧r.ref=none∧r.holds W (fun _=>True) (fun _ _=>False)
 | [],_,_,_,h=>by cases h
 |(d,u)::H,k,r,ha,h=>by
  rw[hk_cons]at h
  split at h
  ·injection h with h;subst h;exact ha.1
  ·exact ha.2.at h
theorem Hp.start {W:World}{H:List (Nat×Res)}(h:Hall W H):Hp ⟨0,[],W,[],fun _=>True⟩ H W:=by
 have hb: ∀k b,¬Bk H k b:=fun k b ⟨r,h1,h2⟩=>by rw[(h.at h1).1]at h2;cases h2
 refine⟨Ch.refl W,fun k r hk=>?_,fun k b hB=>(hb k b hB).elim,fun k k' b hB=>(hb k b hB).elim,fun k r j hk hr=>?_⟩
 ·exact Res.to (S:=[]) (h.at hk).2.2 (Ch.refl W) (fun b _ _=>⟨by simp,fun k=>hb k b,.inl trivial⟩) (fun b _ _=>⟨by simp,fun k=>hb k b⟩) (fun i b _ hf=>hf.elim) (by simp)
 ·rw[(h.at hk).2.1]at hr;cases hr
theorem Hall.sh {W:World}{t:Ty}{cs:List Value}{x:t.den}{F:Nat→Prop}(h:t.rep W F cs x):(Res.sh t cs x).bl=[]∧(Res.sh t cs x).ref=none∧(Res.sh t cs x).holds W (fun _=>True) (fun _ _=>False):=
 ⟨rfl,rfl,rep_as h fun _ _ _=>trivial⟩
theorem Hall.ln {W:World}{t:Ty}{A:Option Addr}{c n:Nat}{xs:List t.den}{F:Nat→Prop}(h:(Ty.slice t).rep W F [.slice A xs.length c] xs):(Res.ln t A c xs).bl=[]∧(Res.ln t A c xs).ref=none∧(Res.ln t A c xs).holds W (fun _=>True) (fun _ _=>False):=
 ⟨rfl,rfl,Row.to (S:=[]) (Row.of h) (Ch.refl W) (fun _ _ _=>⟨by simp,trivial⟩) (fun _ _ _=>⟨by simp,fun _ h=>h⟩)⟩
def putCells (cs:List Value):Obj→Obj
 | .cells _ t frozen=>.cells cs.toArray t frozen
 |o=>o
theorem tab_cells {w:World}{g3 g4:Nat}(h:Lib.Utf8Tabs g3 g4 w):Cells w ⟨g3,0,none⟩ tabF∧Cells w ⟨g4,0,none⟩ tabA:=by
 constructor
 ·intro j u hu
  rw[Addr.add_lit,Nat.zero_add]
  have hj:j<256:=by have:=(List.getElem?_eq_some_iff.1 hu).1;simpa[tabF] using this
  have e:tabF[j]?=some (.int .u8 (firstT j)):=by simp[tabF,hj]
  rw[e]at hu;injection hu with hu;subst hu
  exact h.1 j hj
 ·intro j u hu
  rw[Addr.add_lit,Nat.zero_add]
  have hj:j<32:=by have:=(List.getElem?_eq_some_iff.1 hu).1;simpa[tabA] using this
  have e:tabA[j]?=some (.int .u8 (if j%2=0 then accLo (j / 2)else accHi (j / 2))):=by simp[tabA,hj]
  rw[e]at hu;injection hu with hu;subst hu
  have:=h.2 (j / 2) (by omega)
  by_cases he:j%2=0
  ·rw[if_pos he]
   have hj2:j=2*(j / 2):=by omega
   rw[hj2];simpa using this.1
  ·rw[if_neg he]
   have hj2:j=2*(j / 2)+1:=by omega
   have h3:(2*(j / 2)+1) / 2=j / 2:=by omega
   rw[hj2,h3];exact this.2
theorem Hall.tabs {w:World}{g3 g4 i j:Nat}(h:Lib.Utf8Tabs g3 g4 w):Hall w [(i,.el none g3 0 tabF),(j,.el none g4 0 tabA)]:=by
 obtain⟨h1,h2⟩:=tab_cells h
 exact⟨⟨rfl,rfl,h1,World.block_lt_of_cell? w _ (h1 0 (.int .u8 (firstT 0)) (by simp[tabF])),fun _ h=>h⟩,⟨rfl,rfl,h2,World.block_lt_of_cell? w _ (h2 0 (.int .u8 (accLo 0)) (by simp[tabA])),fun _ h=>h⟩,trivial⟩
end Go.A
end
section
namespace Go.Graph
abbrev Fun:=Int×Int×ByteArray
abbrev Nd:=Int×Int×List Int×Fun×ByteArray×Int×Int
abbrev id (x:Nd):Int:=x.1
abbrev kind (x:Nd):Int:=x.2.1
abbrev fn (x:Nd):Fun:=x.2.2.2.1
abbrev name (x:Nd):ByteArray:=x.2.2.2.2.1
abbrev cap (x:Nd):Int:=x.2.2.2.2.2.1
def Few (g:List Nd):Prop:=g.length≤40∧∀x,x∈g→x.2.2.1.length≤5000∧x.2.2.2.2.1.size≤5000∧x.2.2.2.1.2.2.size≤5000
theorem Few.in {g:List Nd}{k:Nat}{x:Nd}(h:Few g)(hx:g[k]?=some x):x.2.2.1.length≤5000:=(h.2 x (List.mem_of_getElem? hx)).1
def insK (k:Int):Int:=if k<1∨16<k then-1 else if k=1 then 0 else if k=5∨k=9 then 2 else 1
def letter (c:UInt8):Bool:=decide ((97:Int)≤(c.toNat:Int)∧(c.toNat:Int)≤122∨(65:Int)≤(c.toNat:Int)∧(c.toNat:Int)≤90)
def digit (c:UInt8):Bool:=decide ((48:Int)≤(c.toNat:Int)∧(c.toNat:Int)≤57)
def wordy (l:List UInt8):Bool:=l.all fun c=>letter c||digit c
def named (s:ByteArray):Bool:=decide (s≠ByteArray.mk #[])&&decide ((s.size:Int)≤16)&&letter (Z.bat s 0)&&wordy s.data.toList
theorem drop_bat {s:ByteArray}{i:Nat}(h:i<s.size):s.data.toList.drop i=Z.bat s i::s.data.toList.drop (i+1):=by
 have h':i<s.data.toList.length:=by simpa using h
 rw[List.drop_eq_getElem_cons h']
 have h2:i<s.data.size:=h
 congr 1
 simp[Z.bat,Array.getElem?_eq_getElem h2]
theorem drop_end {s:ByteArray}{i:Nat}(h: ¬i<s.size):s.data.toList.drop i=[]:=
 List.drop_eq_nil_of_le (by have h1:s.data.toList.length=s.size:=rfl;omega)
theorem size_pos {s:ByteArray}(h:s≠ByteArray.mk #[]):0<s.size:=by
 rcases Nat.eq_zero_or_pos s.size with h0|h0
 ·have h1:s.data=#[]:=Array.eq_empty_of_size_eq_zero h0
  exact absurd (by cases s;simp_all) h
 ·exact h0
def idxF (id:Int):Nat→List Nd→Int
 |_,[]=> -1
 |k,x::r=>if x.1=id then(k:Int)else idxF id (k+1) r
def idx (g:List Nd)(id:Int):Int:=idxF id 0 g
def namedF (kd:Int)(s:ByteArray):List Nd→Int×Bool
 | []=>(0,false)
 |x::r=>if kind x=kd∧name x=s then(x.1,true)else namedF kd s r
def z0:Nd:=(0,0,[],(0,0,ByteArray.mk #[]),ByteArray.mk #[],0,0)
def at_ (g:List Nd)(i:Int):Nd:=(g[i.toNat]?).getD z0
def ownT (g:List Nd)(n:Nd):Bool:=if n.2.1≠1∧n.2.1≠15 then decide (n.2.2.2.2.1=ByteArray.mk #[])else named n.2.2.2.2.1&&decide ((namedF n.2.1 n.2.2.2.2.1 g).1=n.1)
def ownC (n:Nd):Prop:=n.2.1=14∧(n.2.2.2.2.2.1<1∨8<n.2.2.2.2.2.1∨n.2.2.2.2.2.2<1∨4<n.2.2.2.2.2.2)∨n.2.1≠14∧(n.2.2.2.2.2.1≠0∨n.2.2.2.2.2.2≠0)
instance (n:Nd):Decidable (ownC n):=by unfold ownC;infer_instance
def own (g:List Nd)(i:Int)(n:Nd):Bool:=
 if n.1<1∨255<n.1∨0<i∧n.1≤(at_ g (i-1)).1∨insK n.2.1<0∨(n.2.2.1.length:Int)≠insK n.2.1 then false else if ownC n then false else ownT g n
def bget (l:List Bool)(i:Int):Bool:=(l[i.toNat]?).getD false
def iget (l:List Int)(i:Int):Int:=(l[i.toNat]?).getD 0
def readyF (g:List Nd)(done:List Bool)(kd:Int):List Int→Bool
 | []=>true
 |k::r=>if kd≠14∧bget done (idx g k)=false then false else readyF g done kd r
def ready (g:List Nd)(done:List Bool)(n:Nd):Bool:=readyF g done n.2.1 n.2.2.1
def firstF (g:List Nd)(done:List Bool):Nat→List Nd→Int→Int
 |_,[],a=>a
 |i,x::r,a=>firstF g done (i+1) r (if(a<0∧bget done i=false)∧ready g done x=true then i else a)
def orderF (g:List Nd):Nat→List Bool→List Int→Option (List Int)
 |0,_,l=>some l
 |f+1,done,l=>if firstF g done 0 g (-1)<0 then none else orderF g f (done.set (firstF g done 0 g (-1)).toNat true) (l++[firstF g done 0 g (-1)])
def order (g:List Nd):List Int×Bool:=match orderF g g.length (List.replicate g.length false) []with
 |some l=>(l,true)
 |none=>([],false)
def d0:List Int→Int
 | []=>0
 |a::_=>a
abbrev inD (g:List Nd) (d:List Int) (l:List Int):List Int:=l.map fun k=>iget d (idx g k)
def InB (d:List Int):Prop:=∀i,0≤iget d i∧iget d i≤4
theorem InB.rep (n:Nat):InB (List.replicate n 0):=fun i=>by
 unfold iget;rw[List.getElem?_replicate];split<;>simp
theorem InB.set {d:List Int}(h:InB d)(p:Nat){v:Int}(h0:0≤v)(h1:v≤4):InB (d.set p v):=fun i=>by
 unfold iget;rw[List.getElem?_set]
 have:=h i
 unfold iget at this
 split
 ·split<;>simp<;>omega
 ·exact this
theorem InB.d0 {d:List Int}(h:InB d)(g:List Nd)(l:List Int): -1≤Graph.d0 (inD g d l)∧Graph.d0 (inD g d l)≤4:=by
 cases l with
 |nil=>simp[Graph.d0]
 |cons k r=>have:=h (idx g k);simp only[inD,List.map_cons,Graph.d0];omega
theorem width_pos (s:ByteArray)(pos:Nat):1≤(Utf8.decode s pos).2:=by
 unfold Utf8.decode;simp only[];repeat' split
 all_goals first|exact Nat.le_refl 1|(simp;done)|omega
def numberF (f:Fun):Bool:=if f.1=3∨f.1=13 then decide (0≤f.2.1∧f.2.1≤64)else if f.1=6∨f.1=11 then decide (1≤f.2.1∧f.2.1≤1048576)else decide (f.2.1=0)
def tail5 (c:UInt8):Bool:=decide (128≤(c.toNat:Int)∧(c.toNat:Int)≤191)
end Go.Graph
end
section
set_option linter.unusedVariables false
set_option linter.unusedSimpArgs false
namespace Go.A
open Go.Z
theorem r64n {n:Nat}(h:n<4611686018427387904):R64 ((n:Int)+1):=⟨by omega,by omega⟩
theorem gd1 {α:Type}{p:Prop}[Decidable p](h:p)(x:Option α):gd p x=x:=if_pos h
theorem ixn {α:Type}{xs:List α}{k:Nat}{x:α}(h:xs[k]?=some x):ix xs (k:Int)=some x:=by rw[ix_nat];exact h
theorem dropx {α:Type}{xs:List α}{k:Nat}{x:α}(h:xs[k]?=some x):xs.drop k=x::xs.drop (k+1):=by
 obtain⟨h1,h2⟩:=List.getElem?_eq_some_iff.1 h
 rw[List.drop_eq_getElem_cons h1,h2]
theorem ba {p q:Prop}[Decidable p][Decidable q]:(bif decide p then decide q else false)=decide (p∧q):=by by_cases h:p<;>simp[h]
theorem bo {p q:Prop}[Decidable p][Decidable q]:(bif decide p then true else decide q)=decide (p∨q):=by by_cases h:p<;>simp[h]
theorem bn {p:Prop}[Decidable p]:(!decide p)=decide (¬p):=by by_cases h:p<;>simp[h]
theorem lp {α σ ρ:Type}(xs:List α)(L:Nat→σ→Int→Option ρ)(G:Nat→List α→σ→Option ρ)(P:Nat→σ→Prop)
  (h0: ∀f s,P xs.length s→L (f+1) s (xs.length:Int)=G xs.length [] s)
  (h1: ∀f s (k:Nat) x,xs[k]?=some x→k<xs.length→P k s→(∀s',P (k+1) s'→L f s' ((k:Int)+1)=G (k+1) (xs.drop (k+1)) s')→L (f+1) s k=G k (x::xs.drop (k+1)) s)
  (hl:xs.length<FU) (s:σ) (hs:P 0 s):L FU s 0=G 0 xs s:=by
 have main: ∀(n k f:Nat) (s:σ),k+n=xs.length→n<f→P k s→L f s (k:Int)=G k (xs.drop k) s:=by
  intro n
  induction n with
  |zero=>
   intro k f s hk hf hp
   obtain⟨f,rfl⟩: ∃f',f=f'+1:=⟨f-1,by omega⟩
   obtain rfl:k=xs.length:=by omega
   rw[List.drop_eq_nil_of_le (Nat.le_refl _)];exact h0 f s hp
  |succ n ih=>
   intro k f s hk hf hp
   obtain⟨f,rfl⟩: ∃f',f=f'+1:=⟨f-1,by omega⟩
   have hx:xs[k]?=some xs[k]:=List.getElem?_eq_getElem (by omega)
   rw[dropx hx]
   exact h1 f s k _ hx (by omega) hp fun s' hp'=>ih (k+1) f s' (by omega) (by omega) hp'
 have:=main xs.length 0 FU s (by omega) hl hs
 simpa using this
theorem lp0 {α ρ:Type}(xs:List α)(L:Nat→Int→Option ρ)(G:Nat→List α→Option ρ)
  (h0: ∀f,L (f+1) (xs.length:Int)=G xs.length [])
  (h1: ∀f (k:Nat) x,xs[k]?=some x→k<xs.length→L f ((k:Int)+1)=G (k+1) (xs.drop (k+1))→L (f+1) k=G k (x::xs.drop (k+1)))
  (hl:xs.length<FU):L FU 0=G 0 xs:=
 lp xs (fun f (_:Unit) y=>L f y) (fun k l _=>G k l) (fun _ _=>True) (fun f s _=>h0 f) (fun f s k x hx hk _ ih=>h1 f k x hx hk (ih () trivial)) hl () trivial
end Go.A
namespace Go.Proofs.YtfpemeeadiigcaaDoor
open Go.RowKit Go.Graph
theorem FU_big:(18446744073709551616:Nat)<A.FU:=by decide
theorem ixb {s:ByteArray}{k:Nat}(h:k<s.size):A.ix s.data.toList (k:Int)=some (Z.bat s k):=by
 refine A.ixn ?_
 have:=drop_bat h
 rw[←List.head?_drop,this];rfl
theorem size_list (s:ByteArray):s.data.toList.length=s.size:=rfl
end Go.Proofs.YtfpemeeadiigcaaDoor
end
section
set_option linter.unusedVariables false
set_option linter.unusedSimpArgs false
namespace Go.Proofs.YtfpemeeadiigcaaDoor
open Go.RowKit Go.Graph
theorem bat_get (s:ByteArray)(i:Nat):(s.get! i)=Z.bat s i:=by
 cases s;simp[ByteArray.get!,Z.bat,getElem!_def,Option.getD]
 rfl
theorem dec_at (s:ByteArray)(i:Nat):Utf8.decode s i=Lib.decodeN (s.size-i) (Z.bat s i).toNat (Z.bat s (i+1)).toNat (Z.bat s (i+2)).toNat (Z.bat s (i+3)).toNat:=by
 rw[Lib.decode_at,bat_get,bat_get,bat_get,bat_get]
end Go.Proofs.YtfpemeeadiigcaaDoor
end
section
set_option maxRecDepth 20000
set_option linter.unusedVariables false
set_option linter.unusedSimpArgs false
namespace Go.Proofs.YtfpemeeadiigcaaDoor
open Go.RowKit Go.Graph
theorem tail_eq (c:UInt8):F.R05_tail c=some (tail5 c):=by
 unfold F.R05_tail tail5
 by_cases h1:(128:Int)≤(c.toNat:Int)<;>by_cases h2:(c.toNat:Int)≤191<;>simp[h1,h2]
theorem ixk (s:ByteArray)(p k:Nat):A.ix s.data.toList ((p:Int)+(k:Int))=if p+k<s.size then some (Z.bat s (p+k))else none:=by
 have e:(p:Int)+(k:Int)=((p+k:Nat):Int):=by omega
 rw[e]
 by_cases h:p+k<s.size
 ·rw[if_pos h];exact ixb h
 ·rw[if_neg h,A.ix_nat];exact List.getElem?_eq_none (by rw[size_list];omega)
def wid (s:ByteArray)(p:Nat):Nat:=if Utf8.decode s p=(65533,1)then 0 else(Utf8.decode s p).2
theorem wid_le {s:ByteArray}{p:Nat}(h:p<s.size):p+wid s p≤s.size:=by
 unfold wid
 split
 ·omega
 ·rw[dec_at]
  unfold Lib.decodeN
  repeat' split
  all_goals simp only[]
  all_goals omega
def widN (n a b c d:Nat):Nat:=
 if a<128 then 1
 else if(194≤a∧a≤223)∧2≤n∧(128≤b∧b≤191)then 2
 else if(224≤a∧a≤239)∧3≤n∧(128≤b∧b≤191)∧(128≤c∧c≤191)∧¬(a=224∧b<160)∧¬(a=237∧159<b)then 3
 else if(240≤a∧a≤244)∧4≤n∧(128≤b∧b≤191)∧(128≤c∧c≤191)∧(128≤d∧d≤191)∧¬(a=240∧b<144)∧¬(a=244∧143<b)then 4
 else 0
theorem pq (c:Prop)[Decidable c](x w:Nat)(hw:w≠1):(if(if c then(x,w)else(65533,1))=(65533,1)then 0 else(if c then(x,w)else(65533,1)).2)=if c then w else 0:=by
 by_cases h:c<;>simp[h,hw]
theorem widN_eq (n a b c d:Nat)(ha:a<256)(hb:b<256)(hc:c<256)(hd:d<256):(if Lib.decodeN n a b c d=(65533,1)then 0 else(Lib.decodeN n a b c d).2)=widN n a b c d:=by
 unfold Lib.decodeN widN
 by_cases h0:a<128
 ·simp only[h0,if_true,Prod.mk.injEq];rw[if_neg (by omega)]
 ·simp only[h0,if_false]
  by_cases h1:a / 32=6∧1<n∧b / 64=2
  ·simp only[if_pos h1]
   rw[pq _ _ _ (by decide)]
   repeat' split
   all_goals omega
  ·simp only[if_neg h1]
   by_cases h3:a / 16=14∧(1<n∧b / 64=2)∧2<n∧c / 64=2
   ·simp only[if_pos h3]
    rw[pq _ _ _ (by decide)]
    repeat' split
    all_goals omega
   ·simp only[if_neg h3]
    by_cases h5:a / 8=30∧(1<n∧b / 64=2)∧(2<n∧c / 64=2)∧3<n∧d / 64=2
    ·simp only[if_pos h5]
     rw[pq _ _ _ (by decide)]
     repeat' split
     all_goals omega
    ·simp only[if_neg h5,if_true]
     repeat' split
     all_goals omega
theorem wid_N (s:ByteArray)(p:Nat):wid s p=widN (s.size-p) (Z.bat s p).toNat (Z.bat s (p+1)).toNat (Z.bat s (p+2)).toNat (Z.bat s (p+3)).toNat:=by
 rw[←widN_eq _ _ _ _ _ (UInt8.toNat_lt _) (UInt8.toNat_lt _) (UInt8.toNat_lt _) (UInt8.toNat_lt _),←dec_at];rfl
theorem cnd {α:Type}{p:Prop}[Decidable p](x y:α):(bif decide p then x else y)=if p then x else y:=by by_cases h:p<;>simp[h]
set_option maxHeartbeats 4000000 in
theorem width_eq (s:ByteArray)(p:Nat)(hp:p<s.size)(hs:s.size≤5000):F.R05_width s p=some (wid s p:Int):=by
 have i1:A.ix s.data.toList ((p:Int)+1)=if p+1<s.size then some (Z.bat s (p+1))else none:=ixk s p 1
 have i2:A.ix s.data.toList ((p:Int)+2)=if p+2<s.size then some (Z.bat s (p+2))else none:=ixk s p 2
 have i3:A.ix s.data.toList ((p:Int)+3)=if p+3<s.size then some (Z.bat s (p+3))else none:=ixk s p 3
 have r1:Z.R64 ((p:Int)+1):=⟨by omega,by omega⟩
 have r2:Z.R64 ((p:Int)+2):=⟨by omega,by omega⟩
 have r3:Z.R64 ((p:Int)+3):=⟨by omega,by omega⟩
 unfold F.R05_width
 rw[A.gd1 ⟨by omega,by omega⟩,ixb hp,Option.bind_some,A.gd1 r1,i1,wid_N]
 generalize Z.bat s p=c0 at*
 generalize Z.bat s (p+1)=c1 at*
 generalize Z.bat s (p+2)=c2 at*
 generalize Z.bat s (p+3)=c3 at*
 have t (c:UInt8):tail5 c=decide (128≤c.toNat∧c.toNat≤191):=by unfold tail5;congr 1;exact propext ⟨fun h=>by omega,fun h=>by omega⟩
 by_cases h1:(1:Int)<(s.size:Int)-(p:Int)
 ·rw[if_pos h1,if_pos (by omega),Option.bind_some]
  simp only[F.R05_width_j4,F.R05_width_j3,F.R05_width_j2,F.R05_width_j1,tail_eq,Option.bind_some,t,A.gd1 r2,A.gd1 r3,i2,i3]
  unfold widN
  generalize hn:s.size-p=n
  have e2:((2:Int)≤(s.size:Int)-(p:Int))=(2≤n):=propext ⟨fun h=>by omega,fun h=>by omega⟩
  have e3:((3:Int)≤(s.size:Int)-(p:Int))=(3≤n):=propext ⟨fun h=>by omega,fun h=>by omega⟩
  have e4:((4:Int)≤(s.size:Int)-(p:Int))=(4≤n):=propext ⟨fun h=>by omega,fun h=>by omega⟩
  have f2:(p+2<s.size)=(3≤n):=propext ⟨fun h=>by omega,fun h=>by omega⟩
  have f3:(p+3<s.size)=(4≤n):=propext ⟨fun h=>by omega,fun h=>by omega⟩
  have hn2:2≤n:=by omega
  simp only[e2,e3,e4,f2,f3,A.ba,decide_eq_true_eq,hn2,and_true,true_and]
  have q0:((c0.toNat:Int)<128)=(c0.toNat<128):=propext ⟨fun h=>by omega,fun h=>by omega⟩
  have q1:((194:Int)≤(c0.toNat:Int)∧(c0.toNat:Int)≤223)=(194≤c0.toNat∧c0.toNat≤223):=propext ⟨fun h=>by omega,fun h=>by omega⟩
  have q2:((224:Int)≤(c0.toNat:Int)∧(c0.toNat:Int)≤239)=(224≤c0.toNat∧c0.toNat≤239):=propext ⟨fun h=>by omega,fun h=>by omega⟩
  have q3:((240:Int)≤(c0.toNat:Int)∧(c0.toNat:Int)≤244)=(240≤c0.toNat∧c0.toNat≤244):=propext ⟨fun h=>by omega,fun h=>by omega⟩
  have q4:((c0.toNat:Int)=224∧(c1.toNat:Int)<160)=(c0.toNat=224∧c1.toNat<160):=propext ⟨fun h=>by omega,fun h=>by omega⟩
  have q5:((c0.toNat:Int)=237∧(159:Int)<(c1.toNat:Int))=(c0.toNat=237∧159<c1.toNat):=propext ⟨fun h=>by omega,fun h=>by omega⟩
  have q6:((c0.toNat:Int)=240∧(c1.toNat:Int)<144)=(c0.toNat=240∧c1.toNat<144):=propext ⟨fun h=>by omega,fun h=>by omega⟩
  have q7:((c0.toNat:Int)=244∧(143:Int)<(c1.toNat:Int))=(c0.toNat=244∧143<c1.toNat):=propext ⟨fun h=>by omega,fun h=>by omega⟩
  simp only[q0,q1,q2,q3,q4,q5,q6,q7]
  have x1:240≤c0.toNat∧c0.toNat≤244→¬(224≤c0.toNat∧c0.toNat≤239):=fun h h2=>by omega
  have x2:240≤c0.toNat∧c0.toNat≤244→¬(194≤c0.toNat∧c0.toNat≤223):=fun h h2=>by omega
  have x3:224≤c0.toNat∧c0.toNat≤239→¬(194≤c0.toNat∧c0.toNat≤223):=fun h h2=>by omega
  by_cases K0:c0.toNat<128
  ·simp[K0]
  by_cases m1:128≤c1.toNat∧c1.toNat≤191
  ·by_cases K1:194≤c0.toNat∧c0.toNat≤223
   ·simp only[if_neg K0,if_pos K1,if_pos m1,K1,m1,and_self,if_true];rfl
   ·by_cases K2:224≤c0.toNat∧c0.toNat≤239
    ·have K3: ¬(240≤c0.toNat∧c0.toNat≤244):=fun h=>x1 h K2
     by_cases k3:3≤n
     ·by_cases m2:128≤c2.toNat∧c2.toNat≤191
      ·by_cases y1:c0.toNat=224∧c1.toNat<160
       ·simp only[if_neg K0,if_neg K1,if_pos (And.intro K2 k3),if_pos m1,if_pos k3,Option.bind_some,if_pos m2,eq_true y1,if_true,false_and,K1,K3,eq_true y1,not_true_eq_false,and_false,if_false];rfl
       ·by_cases y2:c0.toNat=237∧159<c1.toNat
        ·simp only[if_neg K0,if_neg K1,if_pos (And.intro K2 k3),if_pos m1,if_pos k3,Option.bind_some,if_pos m2,if_neg y1,eq_true y2,if_true,false_and,K1,K3,eq_true y2,not_true_eq_false,and_false,if_false];rfl
        ·simp only[if_neg K0,if_neg K1,if_pos (And.intro K2 k3),if_pos m1,if_pos k3,Option.bind_some,if_pos m2,if_neg y1,if_neg y2,false_and,K1,K2,k3,m1,m2,y1,y2,not_false_eq_true,and_self,if_true,if_false];rfl
      ·simp only[if_neg K0,if_neg K1,if_pos (And.intro K2 k3),if_pos m1,if_pos k3,Option.bind_some,if_neg m2,if_neg K3,false_and,K1,K3,m2,and_false,if_false,Bool.false_eq_true];rfl
     ·simp only[if_neg K0,if_neg K1,k3,and_false,if_neg K3,false_and,K1,K3,if_false];rfl
    ·by_cases K3:240≤c0.toNat∧c0.toNat≤244
     ·by_cases k4:4≤n
      ·have k3:3≤n:=by omega
       by_cases m2:128≤c2.toNat∧c2.toNat≤191
       ·by_cases m3:128≤c3.toNat∧c3.toNat≤191
        ·by_cases y1:c0.toNat=240∧c1.toNat<144
         ·simp only[if_neg K0,if_neg K1,if_neg K2,K2,false_and,if_pos (And.intro K3 k4),if_pos m1,if_pos k3,if_pos k4,Option.bind_some,if_pos m2,if_pos m3,eq_true y1,if_true,K1,eq_true y1,not_true_eq_false,and_false,if_false];rfl
         ·by_cases y2:c0.toNat=244∧143<c1.toNat
          ·simp only[if_neg K0,if_neg K1,if_neg K2,K2,false_and,if_pos (And.intro K3 k4),if_pos m1,if_pos k3,if_pos k4,Option.bind_some,if_pos m2,if_pos m3,if_neg y1,eq_true y2,if_true,K1,eq_true y2,not_true_eq_false,and_false,if_false];rfl
          ·simp only[if_neg K0,if_neg K1,if_neg K2,K2,false_and,if_pos (And.intro K3 k4),if_pos m1,if_pos k3,if_pos k4,Option.bind_some,if_pos m2,if_pos m3,if_neg y1,if_neg y2,K1,K3,k4,m1,m2,m3,y1,y2,not_false_eq_true,and_self,if_true,if_false];rfl
        ·simp only[if_neg K0,if_neg K1,if_neg K2,K2,false_and,if_pos (And.intro K3 k4),if_pos m1,if_pos k3,if_pos k4,Option.bind_some,if_pos m2,if_neg m3,K1,m3,and_false,if_false,Bool.false_eq_true];rfl
       ·simp only[if_neg K0,if_neg K1,if_neg K2,K2,false_and,if_pos (And.intro K3 k4),if_pos m1,if_pos k3,Option.bind_some,if_neg m2,K1,m2,and_false,if_false,Bool.false_eq_true];rfl
      ·simp only[if_neg K0,if_neg K1,if_neg K2,K2,false_and,k4,and_false,K1,if_false];rfl
     ·simp only[if_neg K0,if_neg K1,if_neg K2,if_neg K3,K1,K2,K3,false_and,if_false];rfl
  ·simp[K0,m1]
 ·rw[if_neg h1]
  simp only[F.R05_width_j4,F.R05_width_j3,F.R05_width_j2,F.R05_width_j1,A.ba,decide_eq_true_eq]
  unfold widN
  have w0:(c0.toNat:Int)<128↔c0.toNat<128:=⟨fun h=>by omega,fun h=>by omega⟩
  by_cases h2:c0.toNat<128
  ·rw[if_pos (w0.2 h2),if_pos h2];rfl
  ·have a1: ¬((194≤c0.toNat∧c0.toNat≤223)∧2≤s.size-p∧128≤c1.toNat∧c1.toNat≤191):=fun h=>by omega
   have a2: ¬((224≤c0.toNat∧c0.toNat≤239)∧3≤s.size-p∧(128≤c1.toNat∧c1.toNat≤191)∧(128≤c2.toNat∧c2.toNat≤191)∧¬(c0.toNat=224∧c1.toNat<160)∧¬(c0.toNat=237∧159<c1.toNat)):=fun h=>by omega
   have a3: ¬((240≤c0.toNat∧c0.toNat≤244)∧4≤s.size-p∧(128≤c1.toNat∧c1.toNat≤191)∧(128≤c2.toNat∧c2.toNat≤191)∧(128≤c3.toNat∧c3.toNat≤191)∧¬(c0.toNat=240∧c1.toNat<144)∧¬(c0.toNat=244∧143<c1.toNat)):=fun h=>by omega
   rw[if_neg (fun h=>h2 (w0.1 h)),if_neg h2,if_neg a1,if_neg a2,if_neg a3]
   simp only[Bool.false_eq_true,if_false]
   rw[if_neg (fun h=>by omega),if_neg (fun h=>by omega),if_neg (fun h=>by omega)];rfl
def vld (s:ByteArray):Nat→Nat→Bool
 |0,_=>true
 |n+1,p=>if p<s.size then(if wid s p=0 then false else vld s n (p+wid s p))else true
def cnt (s:ByteArray):Nat→Nat→Nat
 |0,_=>0
 |n+1,p=>if p<s.size then 1+cnt s n (p+(Utf8.decode s p).2)else 0
theorem wid_4 (s:ByteArray)(p:Nat):wid s p≤4:=by
 rw[wid_N];unfold widN;repeat' split
 all_goals omega
theorem wid_dec {s:ByteArray}{p:Nat}(h:wid s p≠0):(Utf8.decode s p).2=wid s p:=by
 unfold wid at h ⊢;split at h
 ·exact absurd rfl h
 ·rename_i h2;rw[if_neg h2]
theorem Valid_eq (s:ByteArray)(hs:s.size≤5000):F.R05_Valid s=some (vld s s.size 0):=by
 have loop: ∀(n p f:Nat),s.size-p≤n→n<f→p≤5010→F.R05_Valid_l1 s f (p:Int)=some (vld s n p):=by
  intro n
  induction n with
  |zero=>
   intro p f hp hf _
   obtain⟨f,rfl⟩: ∃f',f=f'+1:=⟨f-1,by omega⟩
   rw[F.R05_Valid_l1,if_neg (by omega)];rfl
  |succ n ih=>
   intro p f hp hf hp5
   obtain⟨f,rfl⟩: ∃f',f=f'+1:=⟨f-1,by omega⟩
   rw[F.R05_Valid_l1,vld]
   by_cases h:p<s.size
   ·rw[if_pos (by omega),if_pos h,width_eq s p h hs,Option.bind_some]
    have:=wid_le h
    by_cases hw:wid s p=0
    ·rw[if_pos (by omega),if_pos hw]
    ·rw[if_neg (by omega),if_neg hw,A.gd1 ⟨by omega,by omega⟩]
     have e:(p:Int)+(wid s p:Int)=((p+wid s p:Nat):Int):=by omega
     rw[e];exact ih _ f (by omega) (by omega) (by omega)
   ·rw[if_neg (by omega),if_neg h]
 exact loop s.size 0 A.FU (by omega) (by have:=FU_big;omega) (by omega)
theorem validD_eq (s:ByteArray):Lib.validD s.data.toList=vld s s.size 0:=by
 have loop: ∀(n p:Nat),Lib.validGoD n (s.data.toList.drop p)=vld s n p:=by
  intro n
  induction n with
  |zero=>intro p;rfl
  |succ n ih=>
   intro p
   rw[Lib.validGoD,vld]
   by_cases h:p<s.size
   ·have hne:s.data.toList.drop p≠[]:=by rw[drop_bat h];simp
    rw[if_neg hne,if_pos h,Lib.decodeL_drop,List.drop_drop]
    by_cases hw:Utf8.decode s p=(65533,1)
    ·rw[if_pos (by rw[hw];exact⟨rfl,rfl⟩),if_pos (by unfold wid;rw[if_pos hw])]
    ·have e:wid s p=(Utf8.decode s p).2:=by unfold wid;rw[if_neg hw]
     rw[if_neg (fun h2=>hw (Prod.ext h2.1 h2.2)),if_neg (by rw[e];have:=width_pos s p;omega),ih,e]
   ·rw[if_pos (drop_end h),if_neg h]
 have:=loop s.size 0
 rw[List.drop_zero]at this
 exact this
theorem Runes_eq (s:ByteArray)(hs:s.size≤5000)(hv:vld s s.size 0=true): ∃l,F.R05_Runes s=some l∧l.length=cnt s s.size 0:=by
 have loop: ∀(n p f:Nat) (xs:List (Int×Int)),s.size-p≤n→n<f→xs.length≤p→p≤5010→vld s n p=true→∃l,F.R05_Runes_l2 s f xs (p:Int)=some l∧l.length=xs.length+cnt s n p:=by
  intro n
  induction n with
  |zero=>
   intro p f xs hp hf _ _ _
   obtain⟨f,rfl⟩: ∃f',f=f'+1:=⟨f-1,by omega⟩
   rw[F.R05_Runes_l2,if_neg (by omega)];exact⟨_,rfl,rfl⟩
  |succ n ih=>
   intro p f xs hp hf hxs hp5 hv
   obtain⟨f,rfl⟩: ∃f',f=f'+1:=⟨f-1,by omega⟩
   rw[F.R05_Runes_l2]
   rw[vld]at hv
   rw[cnt]
   by_cases h:p<s.size
   ·rw[if_pos h]at hv
    have hl:=wid_le h
    have h4:=wid_4 s p
    by_cases hw:wid s p=0
    ·rw[if_pos hw]at hv;cases hv
    rw[if_neg hw]at hv
    have hj: ∀(w c:Int),w=(wid s p:Int)→∃l,F.R05_Runes_j1 (F.R05_Runes_l2 s f) xs (p:Int) w c=some l∧l.length=xs.length+(1+cnt s n (p+(Utf8.decode s p).2)):=fun w c hwc=>by
     subst hwc
     rw[F.R05_Runes_j1,A.gd1 (by simp only[List.length_cons,List.length_nil];omega),A.gd1 ⟨by omega,by omega⟩,wid_dec hw]
     have e:(p:Int)+(wid s p:Int)=((p+wid s p:Nat):Int):=by omega
     rw[e]
     obtain⟨l,h1,h2⟩:=ih (p+wid s p) f (xs++[((p:Int),c)]) (by omega) (by omega) (by simp only[List.length_append,List.length_cons,List.length_nil];omega) (by omega) hv
     exact⟨l,h1,by rw[h2,List.length_append];simp only[List.length_cons,List.length_nil];omega⟩
    have i0:=ixb (s:=s) h
    have i1:A.ix s.data.toList ((p:Int)+1)=if p+1<s.size then some (Z.bat s (p+1))else none:=ixk s p 1
    have i2:A.ix s.data.toList ((p:Int)+2)=if p+2<s.size then some (Z.bat s (p+2))else none:=ixk s p 2
    have i3:A.ix s.data.toList ((p:Int)+3)=if p+3<s.size then some (Z.bat s (p+3))else none:=ixk s p 3
    have r1:Z.R64 ((p:Int)+1):=⟨by omega,by omega⟩
    have r2:Z.R64 ((p:Int)+2):=⟨by omega,by omega⟩
    have r3:Z.R64 ((p:Int)+3):=⟨by omega,by omega⟩
    rw[if_pos (by omega),if_pos h,width_eq s p h hs,Option.bind_some]
    by_cases w1:wid s p=1
    ·rw[if_pos (by omega),i0,Option.bind_some];exact hj _ _ rfl
    rw[if_neg (by omega)]
    by_cases w2:wid s p=2
    ·rw[if_pos (by omega),A.gd1 r1,i0,Option.bind_some,A.gd1 (by decide),i1,if_pos (by omega),Option.bind_some,A.gd1 (by decide)];exact hj _ _ rfl
    rw[if_neg (by omega)]
    by_cases w3:wid s p=3
    ·rw[if_pos (by omega),A.gd1 ⟨r1,r2⟩,i0,Option.bind_some,A.gd1 (by decide),i1,if_pos (by omega),Option.bind_some,A.gd1 (by decide),i2,if_pos (by omega),Option.bind_some,A.gd1 (by decide)];exact hj _ _ rfl
    rw[if_neg (by omega),if_pos (by omega),A.gd1 ⟨r1,r2,r3⟩,i0,Option.bind_some,A.gd1 (by decide),i1,if_pos (by omega),Option.bind_some,A.gd1 (by decide),i2,if_pos (by omega),Option.bind_some,A.gd1 (by decide),i3,if_pos (by omega),Option.bind_some,A.gd1 (by decide)];exact hj _ _ rfl
   ·rw[if_neg (by omega),if_neg h];exact⟨_,rfl,rfl⟩
 obtain⟨l,h1,h2⟩:=loop s.size 0 A.FU [] (by omega) (by have:=FU_big;omega) (by simp) (by omega) hv
 exact⟨l,h1,by simpa using h2⟩
theorem single_eq (s:ByteArray)(hs:s.size≤9223372036854775807):F.fn_single s=some (if cnt s s.size 0=1 then vld s s.size 0 else false):=by
 have loop: ∀(n p f:Nat) (y:Int),s.size-p≤n→n<f→0≤y→y+n≤9223372036854775807→F.fn_single_l2 s f p y=some (if y+(cnt s n p:Int)=1 then vld s s.size 0 else false):=by
  intro n
  induction n with
  |zero=>
   intro p f y hp hf _ _
   obtain⟨f,rfl⟩: ∃f',f=f'+1:=⟨f-1,by omega⟩
   rw[F.fn_single_l2,if_neg (by omega),F.utf8_ValidString,validD_eq,Option.bind_some]
   simp only[F.fn_single_j1]
   have e:y+(cnt s 0 p:Int)=y:=by rw[cnt];omega
   by_cases h:y=1
   ·rw[if_pos h,if_pos (by omega)]
   ·rw[if_neg h,if_neg (by omega)]
  |succ n ih=>
   intro p f y hp hf h0 h2
   obtain⟨f,rfl⟩: ∃f',f=f'+1:=⟨f-1,by omega⟩
   rw[F.fn_single_l2,cnt]
   by_cases h:p<s.size
   ·rw[if_pos h,if_pos h,A.gd1 ⟨by omega,by omega⟩]
    have hw:=width_pos s p
    rw[ih _ f (y+1) (by omega) (by omega) (by omega) (by omega)]
    congr 2
    exact propext ⟨fun h=>by omega,fun h=>by omega⟩
   ·rw[if_neg h,if_neg h,F.utf8_ValidString,validD_eq,Option.bind_some]
    simp only[F.fn_single_j1]
    by_cases h:y=1
    ·rw[if_pos h,if_pos (by omega)]
    ·rw[if_neg h,if_neg (by omega)]
 unfold F.fn_single
 rw[loop s.size 0 A.FU 0 (by omega) (by have:=FU_big;omega) (by omega) (by omega)]
 congr 2
 exact propext ⟨fun h=>by omega,fun h=>by omega⟩
theorem one_small {s:ByteArray}(h1:cnt s s.size 0=1)(h2:vld s s.size 0=true):s.size≤4:=by
 generalize hn:s.size=n at h1 h2
 cases n with
 |zero=>omega
 |succ n=>
  rw[cnt,if_pos (by omega)]at h1
  rw[vld,if_pos (by omega)]at h2
  by_cases hw:wid s 0=0
  ·rw[if_pos hw]at h2;cases h2
  rw[wid_dec hw]at h1
  have:=wid_4 s 0
  cases n with
  |zero=>omega
  |succ n=>
   rw[cnt]at h1
   by_cases h3:0+wid s 0<s.size
   ·rw[if_pos h3]at h1;omega
   ·omega
end Go.Proofs.YtfpemeeadiigcaaDoor
end
section
set_option linter.unusedVariables false
set_option linter.unusedSimpArgs false
namespace Go.Proofs.YtfpemeeadiigcaaDoor
open Go.RowKit Go.Graph
def textP (f:Fun):Bool:=if f.1=5 then decide (f.2.2≠ByteArray.mk #[])&&decide ((f.2.2.size:Int)≤16)&&vld f.2.2 f.2.2.size 0 else if f.1=12∨f.1=22 then decide (cnt f.2.2 f.2.2.size 0=1)&&vld f.2.2 f.2.2.size 0 else decide (f.2.2=ByteArray.mk #[])
theorem number_eq (f:Fun):F.fn_number f=some (numberF f):=by
 unfold F.fn_number F.fn_number_j2 F.fn_number_j1 numberF
 simp only[A.ba,decide_eq_true_eq]
 by_cases h3:f.1=3
 ·simp[h3]
 ·by_cases h13:f.1=13
  ·simp[h13]
  ·by_cases h6:f.1=6
   ·simp[h6]
   ·by_cases h11:f.1=11<;>simp[h3,h13,h6,h11]
theorem R06_number_eq (f:Fun):F.R06_number f=some (numberF f):=number_eq f
theorem text_eq (f:Fun)(hs:f.2.2.size≤9223372036854775807):F.fn_text f=some (textP f):=by
 unfold F.fn_text textP
 simp only[F.fn_text_j1,F.fn_text_j2,A.ba,single_eq _ hs,F.utf8_ValidString,validD_eq,Option.bind_some,decide_eq_true_eq]
 by_cases h5:f.1=5
 ·simp only[h5,if_true]
  by_cases h1:f.2.2=ByteArray.mk #[]<;>by_cases h2:(f.2.2.size:Int)≤16<;>simp[h1,h2]
 ·by_cases h12:f.1=12
  ·simp[h12]
  ·by_cases h22:f.1=22<;>simp[h5,h12,h22]
theorem one_le {s:ByteArray}:(1:Int)≤(s.size:Int)↔s≠ByteArray.mk #[]:=by
 constructor
 ·intro h e;subst e;exact absurd h (by decide)
 ·intro h;have:=size_pos h;omega
theorem R06_text_eq (f:Fun)(hs:f.2.2.size≤5000):F.R06_text f=some (textP f):=by
 have hj: ∀y,F.R06_text_j3 f y=some (if y=true then decide (cnt f.2.2 f.2.2.size 0=1)&&vld f.2.2 f.2.2.size 0 else decide (f.2.2=ByteArray.mk #[])):=by
  intro y
  unfold F.R06_text_j3
  simp only[F.R06_text_j2,Valid_eq _ hs,Option.bind_some]
  cases y with
  |false=>simp
  |true=>
   simp only[if_true]
   by_cases h4:(f.2.2.size:Int)≤4
   ·rw[if_pos h4]
    cases hv:vld f.2.2 f.2.2.size 0 with
    |true=>
     obtain⟨l,h1,h2⟩:=Runes_eq f.2.2 hs hv
     rw[if_pos rfl,h1,Option.bind_some,Bool.and_true]
     congr 2
     rw[h2];exact propext ⟨fun h=>by omega,fun h=>by omega⟩
    |false=>simp
   ·rw[if_neg h4]
    congr 1
    cases hv:vld f.2.2 f.2.2.size 0 with
    |false=>simp
    |true=>
     by_cases h1:cnt f.2.2 f.2.2.size 0=1
     ·have:=one_small h1 hv;omega
     ·simp[h1]
 unfold F.R06_text textP
 simp only[F.R06_text_j1,hj,A.ba,Valid_eq _ hs,Option.bind_some,decide_eq_true_eq,one_le]
 by_cases h5:f.1=5
 ·simp only[h5,if_true]
  by_cases h1:f.2.2=ByteArray.mk #[]<;>by_cases h2:(f.2.2.size:Int)≤16<;>simp[h1,h2]
 ·by_cases h12:f.1=12
  ·simp[h12]
  ·by_cases h22:f.1=22<;>simp[h5,h12,h22]
def anyF (f:Fun)(l:List Int):Int:=if l.any (fun y=>decide (y=f.1)&&(numberF f&&textP f))=true then 0 else 60
def kinds (k:Int):List Int:=if k=2 then [1,2,3,4,5,6,7,8]else if k=3 then [11,12,13]else if k=4 then [21,22]else if k=8 then [31,32,33,34]else if k=11 then [41,42]else []
def chk (k:Int)(f:Fun):Int:=if kinds k=[]then(if f=(0,0,ByteArray.mk #[])then 0 else 60)else anyF f (kinds k)
theorem chk_l (f:Fun)(hs:f.2.2.size≤9223372036854775807): ∀l,F.fn_Check_l2 f l=some (anyF f l)
 | []=>rfl
 |y::l=>by
  have ih:=chk_l f hs l
  unfold F.fn_Check_l2
  simp only[F.fn_Check_j1,number_eq,text_eq _ hs,Option.bind_some,ih,anyF,List.any_cons]
  by_cases h:y=f.1
  ·subst h
   cases hn:numberF f<;>cases ht:textP f<;>simp
  ·simp[h]
theorem fn_Check_eq (k:Int)(f:Fun)(hs:f.2.2.size≤9223372036854775807):F.fn_Check k f=some (chk k f):=by
 have u2:F.fn_Uses_1_it 1 8=some [1,2,3,4,5,6,7,8]:=by kernel_rfl
 have u3:F.fn_Uses_1_it 11 13=some [11,12,13]:=by kernel_rfl
 have u4:F.fn_Uses_1_it 21 22=some [21,22]:=by kernel_rfl
 have u8:F.fn_Uses_1_it 31 34=some [31,32,33,34]:=by kernel_rfl
 have u11:F.fn_Uses_1_it 41 42=some [41,42]:=by kernel_rfl
 unfold F.fn_Check F.fn_Uses F.fn_uses chk kinds
 by_cases h2:k=2
 ·simp[h2,u2,chk_l f hs]
 ·by_cases h3:k=3
  ·simp[h3,u3,chk_l f hs]
  ·by_cases h4:k=4
   ·simp[h4,u4,chk_l f hs]
   ·by_cases h8:k=8
    ·simp[h8,u8,chk_l f hs]
    ·by_cases h11:k=11
     ·simp[h11,u11,chk_l f hs]
     ·simp only[h2,h3,h4,h8,h11,if_false,Option.bind_some]
      rw[if_pos (by decide),if_pos trivial]
      by_cases hz:f=(0,0,ByteArray.mk #[])
      ·rw[if_neg (fun h=>h hz),if_pos hz]
      ·rw[if_pos hz,if_neg hz]
theorem R06_l (f:Fun)(hs:f.2.2.size≤5000)(l:List Int)(hl:l.length≤100):F.R06_Check_l2 f l A.FU 0=some (anyF f l):=
 A.lp0 l (fun n y=>F.R06_Check_l2 f l n y) (fun _ t=>some (anyF f t))
  (fun n=>by rw[F.R06_Check_l2,if_neg (by omega)];rfl)
  (fun n k x hx hk ih=>by
   rw[F.R06_Check_l2,if_pos (by omega),A.ixn hx,Option.bind_some]
   simp only[F.R06_Check_j1,R06_number_eq,R06_text_eq _ hs,Option.bind_some,ih,A.gd1 (A.r64n (n:=k) (by omega)),anyF,List.any_cons]
   by_cases h:x=f.1
   ·subst h
    cases hn:numberF f<;>cases ht:textP f<;>simp
   ·simp[h])
  (by have:=FU_big;omega)
theorem R06_Check_eq (k:Int)(f:Fun)(hs:f.2.2.size≤5000):F.R06_Check k f=some (chk k f):=by
 have u2:F.R06_Uses 2=some [1,2,3,4,5,6,7,8]:=by kernel_rfl
 have u3:F.R06_Uses 3=some [11,12,13]:=by kernel_rfl
 have u4:F.R06_Uses 4=some [21,22]:=by kernel_rfl
 have u8:F.R06_Uses 8=some [31,32,33,34]:=by kernel_rfl
 have u11:F.R06_Uses 11=some [41,42]:=by kernel_rfl
 have u0:F.R06_Uses_j2 1 0=some []:=by kernel_rfl
 unfold F.R06_Check chk kinds
 by_cases h2:k=2
 ·subst h2;rw[u2,Option.bind_some,if_neg (by simp),F.R06_Check_j3,if_neg (by simp),R06_l f hs _ (by simp)];simp
 ·by_cases h3:k=3
  ·subst h3;rw[u3,Option.bind_some,if_neg (by simp),F.R06_Check_j3,if_neg (by simp),R06_l f hs _ (by simp)];simp
  ·by_cases h4:k=4
   ·subst h4;rw[u4,Option.bind_some,if_neg (by simp),F.R06_Check_j3,if_neg (by simp),R06_l f hs _ (by simp)];simp
   ·by_cases h8:k=8
    ·subst h8;rw[u8,Option.bind_some,if_neg (by simp),F.R06_Check_j3,if_neg (by simp),R06_l f hs _ (by simp)];simp
    ·by_cases h11:k=11
     ·subst h11;rw[u11,Option.bind_some,if_neg (by simp),F.R06_Check_j3,if_neg (by simp),R06_l f hs _ (by simp)];simp
     ·have u:F.R06_Uses k=some []:=by unfold F.R06_Uses;simp only[h2,h3,h4,h8,h11,if_false,u0]
      rw[u,Option.bind_some,if_pos (by simp),F.R06_Check_j3,R06_l f hs _ (by simp)]
      simp only[h2,h3,h4,h8,h11,if_false,if_true,decide_eq_true_eq,anyF,List.any_nil,Bool.false_eq_true]
      by_cases hz:f=(0,0,ByteArray.mk #[])
      ·rw[if_pos hz,if_pos hz]
      ·rw[if_neg hz,if_neg hz]
end Go.Proofs.YtfpemeeadiigcaaDoor
end
section
set_option linter.unusedVariables false
set_option linter.unusedSimpArgs false
namespace Go.Utf
open Go.Lib
abbrev Rn:=List UInt8×Int
theorem enc_eq (r:Int):(Utf8.encode r).data.toList=encodeRune r:=by
 unfold Utf8.encode encodeRune
 by_cases h1:0≤r∧r≤127
 ·rw[encodeRuneZ_one h1.1 h1.2]
  have hv:Utf8.valid r=true:=by simp[Utf8.valid];omega
  rw[if_pos hv]
  have hc:r.toNat<128:=by omega
  simp only[hc,if_true]
  simp
 by_cases h2:128≤r∧r≤2047
 ·rw[encodeRuneZ_two h2.1 h2.2]
  have hv:Utf8.valid r=true:=by simp[Utf8.valid];omega
  rw[if_pos hv]
  obtain⟨n,rfl⟩: ∃n:Nat,r=n:=⟨r.toNat,by omega⟩
  have hc: ¬(n<128):=by omega
  have hc2:n<2048:=by omega
  simp only[Int.toNat_natCast,hc,if_false,hc2,if_true,List.map_cons,List.map_nil]
  have e1:(192+(n:Int) / 64).toNat=192+n / 64:=by omega
  have e2:(128+(n:Int)%64).toNat=128+n%64:=by omega
  rw[e1,e2]
 by_cases h3:(2048≤r∧r<55296)∨(57343<r∧r≤65535)
 ·rw[encodeRuneZ_three h3]
  have hv:Utf8.valid r=true:=by simp[Utf8.valid];omega
  rw[if_pos hv]
  obtain⟨n,rfl⟩: ∃n:Nat,r=n:=⟨r.toNat,by omega⟩
  have hc: ¬(n<128):=by omega
  have hc2: ¬n<2048:=by omega
  have hc3:n<65536:=by omega
  simp only[Int.toNat_natCast,hc,if_false,hc2,hc3,if_true,List.map_cons,List.map_nil]
  have e1:(224+(n:Int) / 4096).toNat=224+n / 4096:=by omega
  have e2:(128+(n:Int) / 64%64).toNat=128+n / 64%64:=by omega
  have e3:(128+(n:Int)%64).toNat=128+n%64:=by omega
  rw[e1,e2,e3]
 by_cases h4:65536≤r∧r≤1114111
 ·rw[encodeRuneZ_four h4.1 h4.2]
  have hv:Utf8.valid r=true:=by simp[Utf8.valid];omega
  rw[if_pos hv]
  obtain⟨n,rfl⟩: ∃n:Nat,r=n:=⟨r.toNat,by omega⟩
  have hc: ¬(n<128):=by omega
  have hc2: ¬n<2048:=by omega
  have hc3: ¬n<65536:=by omega
  simp only[Int.toNat_natCast,hc,if_false,hc2,hc3,List.map_cons,List.map_nil]
  have e0:(240+(n:Int) / 262144).toNat=240+n / 262144:=by omega
  have e1:(128+(n:Int) / 4096%64).toNat=128+n / 4096%64:=by omega
  have e2:(128+(n:Int) / 64%64).toNat=128+n / 64%64:=by omega
  have e3:(128+(n:Int)%64).toNat=128+n%64:=by omega
  rw[e0,e1,e2,e3]
 ·rw[encodeRuneZ_bad (by omega)]
  have hv: ¬Utf8.valid r=true:=by simp[Utf8.valid];omega
  rw[if_neg hv]
  rfl
theorem decN_ext {n n' b0 b1 b2 b3 c1 c2 c3:Nat}{r k:Nat}(h:decodeN n b0 b1 b2 b3=(r,k))(hv: ¬(r=65533∧k=1))(hn:k≤n')(h1:1<k→c1=b1)(h2:2<k→c2=b2)(h3:3<k→c3=b3):decodeN n' b0 c1 c2 c3=(r,k):=by
 rcases decodeN_shape n b0 b1 b2 b3 with⟨q,e⟩|⟨q1,q2,q3,qv,e⟩|⟨q1,q2,q3,q4,qv,qs,e⟩|⟨q1,q2,q3,q4,q5,qv,qw,e⟩|e
 ·rw[e]at h;injection h with e1 e2;subst e1;subst e2
  unfold decodeN;rw[if_pos q]
 ·rw[e]at h;injection h with e1 e2;subst e1;subst e2
  obtain rfl:=h1 (by omega)
  unfold decodeN
  rw[if_neg (by omega),if_pos ⟨q1,by omega,q3⟩,if_pos qv]
 ·rw[e]at h;injection h with e1 e2;subst e1;subst e2
  obtain rfl:=h1 (by omega)
  obtain rfl:=h2 (by omega)
  unfold decodeN
  rw[if_neg (by omega),if_neg (by omega),if_pos ⟨q1,⟨by omega,q3⟩,by omega,q4⟩,if_pos ⟨qv,by omega⟩]
 ·rw[e]at h;injection h with e1 e2;subst e1;subst e2
  obtain rfl:=h1 (by omega)
  obtain rfl:=h2 (by omega)
  obtain rfl:=h3 (by omega)
  unfold decodeN
  rw[if_neg (by omega),if_neg (by omega),if_neg (by omega),if_pos ⟨q1,⟨by omega,q3⟩,⟨by omega,q4⟩,by omega,q5⟩,if_pos ⟨qv,.inr ⟨by omega,qw⟩⟩]
 ·rw[e]at h;injection h with e1 e2;subst e1;subst e2
  exact absurd ⟨rfl,rfl⟩ hv
structure Ck (c:Rn):Prop where
 ne:c.1≠[]
 four:c.1.length≤4
 enc:(Utf8.encode c.2).data.toList=c.1
 dec: ∀rest,decodeL (c.1++rest)=(c.2.toNat,c.1.length)
 nn:0≤c.2
 top:c.2≤1114111
 ok: ¬(c.2.toNat=65533∧c.1.length=1)
theorem decodeL_four (l:List UInt8):(decodeL l).2≤4:=by
 rw[decodeL_N]
 rcases decodeN_shape l.length (l.getD 0 0).toNat (l.getD 1 0).toNat (l.getD 2 0).toNat (l.getD 3 0).toNat with⟨c,e⟩|⟨c1,c2,c3,cv,e⟩|⟨c1,c2,c3,c4,cv,cs,e⟩|⟨c1,c2,c3,c4,c5,cv,cw,e⟩|e
 all_goals (rw[e];simp)
theorem Ck.of {l:List UInt8}(hne:l≠[])(hv: ¬((decodeL l).1=65533∧(decodeL l).2=1)):Ck (l.take (decodeL l).2,((decodeL l).1:Int)):=by
 have hw:=decodeL_width l
 have hle:=decodeL_le l hne
 have hlen:(l.take (decodeL l).2).length=(decodeL l).2:=by rw[List.length_take];omega
 refine⟨fun h=>?_,by show(l.take _).length≤4;rw[hlen];exact decodeL_four l,?_,fun rest=>?_,by simp,?_,?_⟩
 ·have:=congrArg List.length h
  simp only[List.length_nil]at this
  rw[hlen]at this;omega
 ·exact(enc_eq _).trans (encode_decode l hne hv)
 ·show decodeL (l.take (decodeL l).2++rest)=((((decodeL l).1:Nat):Int).toNat,(l.take (decodeL l).2).length)
  rw[hlen,Int.toNat_natCast]
  have e:decodeL l=decodeN l.length (l.getD 0 0).toNat (l.getD 1 0).toNat (l.getD 2 0).toNat (l.getD 3 0).toNat:=decodeL_N l
  obtain⟨r,k,hrk⟩: ∃r k,decodeL l=(r,k):=⟨_,_,rfl⟩
  rw[hrk]at hv hw hle hlen ⊢
  rw[hrk]at e
  simp only at hv hw hle hlen ⊢
  have hg: ∀i,i<k→(l.take k++rest).getD i 0=l.getD i 0:=fun i hi=>by
   simp only[List.getD]
   rw[List.getElem?_append_left (by rw[hlen];exact hi),List.getElem?_take_of_lt hi]
  rw[decodeL_N,hg 0 (by omega)]
  refine decN_ext e.symm hv (by rw[List.length_append,hlen];omega) (fun h=>by rw[hg 1 h]) (fun h=>by rw[hg 2 h]) (fun h=>by rw[hg 3 h])
 ·have:=decodeL_rune l
  show((decodeL l).1:Int)≤1114111
  omega
 ·show ¬((((decodeL l).1:Nat):Int).toNat=65533∧(l.take (decodeL l).2).length=1)
  rw[hlen,Int.toNat_natCast];exact hv
theorem Ck.len {c:Rn}(h:Ck c):1≤c.1.length:=by
 cases hc:c.1 with
 |nil=>exact absurd hc h.ne
 |cons a b=>simp
def ckF:Nat→List UInt8→List Rn
 |0,_=>[]
 |n+1,l=>if l=[]then []else(l.take (decodeL l).2,((decodeL l).1:Int))::ckF n (l.drop (decodeL l).2)
def cks (l:List UInt8):List Rn:=ckF l.length l
abbrev flat (cs:List Rn):List UInt8:=cs.flatMap (·.1)
theorem flat_cons (c:Rn)(cs:List Rn):flat (c::cs)=c.1++flat cs:=rfl
theorem flat_ckF: ∀(n:Nat) (l:List UInt8),l.length≤n→flat (ckF n l)=l
 |0,l,h=>by rw[List.eq_nil_of_length_eq_zero (Nat.le_zero.1 h)];rfl
 |n+1,l,h=>by
  unfold ckF
  by_cases hl:l=[]
  ·rw[if_pos hl,hl];rfl
  ·rw[if_neg hl,flat_cons,flat_ckF n _ (by have:=decodeL_width l;rw[List.length_drop];have:=List.length_pos_iff.2 hl;omega)]
   exact List.take_append_drop _ _
theorem valid_ckF: ∀(n:Nat) (l:List UInt8),l.length≤n→validGoD n l=true→∀c,c∈ckF n l→Ck c
 |0,l,h,_,c,hc=>by cases hc
 |n+1,l,h,hv,c,hc=>by
  unfold ckF at hc
  unfold validGoD at hv
  by_cases hl:l=[]
  ·rw[if_pos hl]at hc;cases hc
  ·rw[if_neg hl]at hc hv
   split at hv
   ·cases hv
   ·rename_i hb
    rcases List.mem_cons.1 hc with rfl|hc
    ·exact Ck.of hl hb
    ·exact valid_ckF n _ (by have:=decodeL_width l;rw[List.length_drop];have:=List.length_pos_iff.2 hl;omega) hv c hc
theorem ckF_flat: ∀(cs:List Rn) (n:Nat),(∀c,c∈cs→Ck c)→(flat cs).length≤n→ckF n (flat cs)=cs∧validGoD n (flat cs)=true
 | [],n,_,_=>by cases n with
  |zero=>exact⟨rfl,rfl⟩
  |succ n=>exact⟨by unfold ckF;rw[if_pos (show flat ([]:List Rn)=[]from rfl)],by unfold validGoD;rw[if_pos (show flat ([]:List Rn)=[]from rfl)]⟩
 |c::cs,n,h,hn=>by
  have hc:=h c (List.mem_cons_self ..)
  have h1:=hc.len
  rw[flat_cons]at hn ⊢
  rw[List.length_append]at hn
  obtain⟨n,rfl⟩: ∃m,n=m+1:=⟨n-1,by omega⟩
  have hne:c.1++flat cs≠[]:=fun e=>hc.ne (List.append_eq_nil_iff.1 e).1
  obtain⟨i1,i2⟩:=ckF_flat cs n (fun x hx=>h x (List.mem_cons_of_mem _ hx)) (by omega)
  unfold ckF validGoD
  rw[if_neg hne,if_neg hne,hc.dec]
  simp only[List.take_left,List.drop_left]
  rw[if_neg hc.ok,i1,Int.toNat_of_nonneg hc.nn]
  exact⟨rfl,i2⟩
theorem cks_flat {cs:List Rn}(h: ∀c,c∈cs→Ck c):cks (flat cs)=cs:=(ckF_flat cs _ h (Nat.le_refl _)).1
theorem valid_flat {cs:List Rn}(h: ∀c,c∈cs→Ck c):validD (flat cs)=true:=(ckF_flat cs _ h (Nat.le_refl _)).2
theorem valid_cks {l:List UInt8}(h:validD l=true):flat (cks l)=l∧∀c,c∈cks l→Ck c:=⟨flat_ckF _ _ (Nat.le_refl _),valid_ckF _ _ (Nat.le_refl _) h⟩
theorem foldl_toList (ns:List Int): ∀s:ByteArray,(ns.foldl (fun r n=>r++Utf8.encode n) s).data.toList=s.data.toList++ns.flatMap fun n=>(Utf8.encode n).data.toList:=by
 induction ns with
 |nil=>intro s;simp
 |cons n ns ih=>intro s;rw[List.foldl_cons,ih];simp[ByteArray.data_append]
theorem runes_flat {cs:List Rn}(h: ∀c,c∈cs→Ck c):(runesBytes (cs.map (·.2))).data.toList=flat cs:=by
 unfold runesBytes
 rw[foldl_toList]
 have:ByteArray.empty.data.toList=[]:=rfl
 rw[this,List.nil_append,List.flatMap_map]
 induction cs with
 |nil=>rfl
 |cons c cs ih=>
  rw[List.flatMap_cons,flat_cons,ih fun x hx=>h x (List.mem_cons_of_mem _ hx),(h c (List.mem_cons_self ..)).enc]
theorem ba_eq {s t:ByteArray}(h:s.data.toList=t.data.toList):s=t:=by
 cases s;cases t;congr;exact Array.toList_inj.1 h
def ats:Int→List Rn→List (Int×Int)
 |_,[]=>[]
 |p,c::cs=>(p,c.2)::ats (p+c.1.length) cs
theorem ats_len: ∀(p:Int) (cs:List Rn),(ats p cs).length=cs.length
 |_,[]=>rfl
 |p,c::cs=>by rw[ats,List.length_cons,ats_len _ cs,List.length_cons]
theorem ats_get: ∀(cs:List Rn) (p:Int) (k:Nat),(ats p cs)[k]?=(cs[k]?).map fun c=>(p+((flat (cs.take k)).length:Int),c.2)
 | [],p,k=>by simp[ats]
 |c::cs,p,0=>by simp[ats]
 |c::cs,p,k+1=>by
  rw[ats,List.getElem?_cons_succ,ats_get cs _ k,List.getElem?_cons_succ,List.take_succ_cons,flat_cons,List.length_append]
  congr;funext c';congr 1;omega
def bd (n:Nat):Nat→List Rn→Nat
 |p,[]=>p
 |p,c::cs=>if p+c.1.length≤n then bd n (p+c.1.length) cs else p
theorem bd_pre (n:Nat): ∀(cs:List Rn) (p:Nat),p≤n→∃k,bd n p cs=p+(flat (cs.take k)).length∧bd n p cs≤n
 | [],p,h=>⟨0,by simp[bd],by simpa[bd] using h⟩
 |c::cs,p,h=>by
  unfold bd
  split
  ·rename_i hp
   obtain⟨k,h1,h2⟩:=bd_pre n cs _ hp
   exact⟨k+1,by rw[h1,List.take_succ_cons,flat_cons,List.length_append];omega,h2⟩
  ·exact⟨0,by simp,h⟩
theorem flat_take (cs:List Rn)(k:Nat):(flat cs).take (flat (cs.take k)).length=flat (cs.take k):=by
 have:flat cs=flat (cs.take k)++flat (cs.drop k):=by rw[←List.flatMap_append,List.take_append_drop]
 rw[this,List.take_left]
end Go.Utf
end
section
set_option maxRecDepth 20000
set_option linter.unusedVariables false
set_option linter.unusedSimpArgs false
namespace Go.Proofs.YtfpemeeadiigcaaDoor
open Go.RowKit Go.Graph Go.Utf
theorem drop_ne {s:ByteArray}{p:Nat}(h:p<s.size):s.data.toList.drop p≠[]:=fun e=>by
 have:=congrArg List.length e
 rw[List.length_drop,size_list]at this
 simp only[List.length_nil]at this;omega
theorem drop_nil {s:ByteArray}{p:Nat}(h: ¬p<s.size):s.data.toList.drop p=[]:=List.drop_eq_nil_of_le (by rw[size_list];omega)
theorem ck_step {s:ByteArray}{n p:Nat}(h:p<s.size):ckF (n+1) (s.data.toList.drop p)=((s.data.toList.drop p).take (Utf8.decode s p).2,((Utf8.decode s p).1:Int))::ckF n (s.data.toList.drop (p+(Utf8.decode s p).2)):=by
 rw[ckF,if_neg (drop_ne h),Lib.decodeL_drop,List.drop_drop]
theorem ck_end {s:ByteArray}{n p:Nat}(h: ¬p<s.size):ckF n (s.data.toList.drop p)=[]:=by
 rw[drop_nil h]
 cases n with
 |zero=>rfl
 |succ n=>rw[ckF,if_pos rfl]
theorem cks_0 (s:ByteArray):cks s.data.toList=ckF s.size (s.data.toList.drop 0):=rfl
theorem dec_fits {s:ByteArray}{p:Nat}(h:p<s.size):1≤(Utf8.decode s p).2∧p+(Utf8.decode s p).2≤s.size:=by
 rw[←Lib.decodeL_drop]
 have h1:=Lib.decodeL_width (s.data.toList.drop p)
 have h2:=Lib.decodeL_le _ (drop_ne h)
 rw[List.length_drop,size_list]at h2
 omega
theorem runes_F (s:ByteArray)(hs:s.size≤1099511627776):F.fn_runes s=some ((cks s.data.toList).map (·.2)):=by
 have loop: ∀(n p f:Nat) (xs:List Int),s.size-p≤n→n<f→xs.length≤p→F.fn_runes_l1 s f p xs=some (xs++(ckF n (s.data.toList.drop p)).map (·.2)):=by
  intro n
  induction n with
  |zero=>
   intro p f xs hp hf _
   obtain⟨f,rfl⟩: ∃f',f=f'+1:=⟨f-1,by omega⟩
   rw[F.fn_runes_l1,if_neg (by omega),ck_end (by omega)];simp
  |succ n ih=>
   intro p f xs hp hf hx
   obtain⟨f,rfl⟩: ∃f',f=f'+1:=⟨f-1,by omega⟩
   by_cases h:p<s.size
   ·have hd:=dec_fits h
    rw[F.fn_runes_l1,if_pos h,A.gd1 (by simp only[List.length_cons,List.length_nil];omega),ih _ _ _ (by omega) (by omega) (by simp only[List.length_append,List.length_cons,List.length_nil];omega),ck_step h]
    simp
   ·rw[F.fn_runes_l1,if_neg h,ck_end h];simp
 have:=loop s.size 0 A.FU [] (by omega) (by have:=FU_big;omega) (by simp)
 rw[F.fn_runes,this,cks_0];simp
theorem flat_append (a b:List Rn):flat (a++b)=flat a++flat b:=List.flatMap_append
theorem i32_small {x:Int}(h0:0≤x)(h1:x<2147483648):IntKind.i32.wrap x=x:=by
 simp[IntKind.wrap,IntKind.bits,IntKind.signed]
 omega
theorem dec_shape {s:ByteArray}{p:Nat}(hw:wid s p≠0):
  (wid s p=1∧(Utf8.decode s p).1=(Z.bat s p).toNat)∨
  (wid s p=2∧(Utf8.decode s p).1=(Z.bat s p).toNat%32*64+(Z.bat s (p+1)).toNat%64)∨
  (wid s p=3∧(Utf8.decode s p).1=(Z.bat s p).toNat%16*4096+(Z.bat s (p+1)).toNat%64*64+(Z.bat s (p+2)).toNat%64)∨
  (wid s p=4∧(Utf8.decode s p).1=(Z.bat s p).toNat%8*262144+(Z.bat s (p+1)).toNat%64*4096+(Z.bat s (p+2)).toNat%64*64+(Z.bat s (p+3)).toNat%64):=by
 have h2:=wid_dec hw
 have h3:Utf8.decode s p≠(65533,1):=fun e=>hw (by unfold wid;rw[if_pos e])
 rw[←h2]
 rw[dec_at]at h3 ⊢
 rcases Lib.decodeN_shape (s.size-p) (Z.bat s p).toNat (Z.bat s (p+1)).toNat (Z.bat s (p+2)).toNat (Z.bat s (p+3)).toNat with⟨c,e⟩|⟨c1,c2,c3,cv,e⟩|⟨c1,c2,c3,c4,cv,cs,e⟩|⟨c1,c2,c3,c4,c5,cv,cw,e⟩|e
 ·rw[e];exact .inl ⟨rfl,rfl⟩
 ·rw[e];exact .inr (.inl ⟨rfl,rfl⟩)
 ·rw[e];exact .inr (.inr (.inl ⟨rfl,rfl⟩))
 ·rw[e];exact .inr (.inr (.inr ⟨rfl,rfl⟩))
 ·exact absurd e h3
theorem Runes_ats (s:ByteArray)(hs:s.size≤5000)(hv:vld s s.size 0=true):F.R05_Runes s=some (ats 0 (cks s.data.toList)):=by
 have loop: ∀(n p f:Nat) (xs:List (Int×Int)),s.size-p≤n→n<f→xs.length≤p→p≤5010→vld s n p=true→F.R05_Runes_l2 s f xs (p:Int)=some (xs++ats p (ckF n (s.data.toList.drop p))):=by
  intro n
  induction n with
  |zero=>
   intro p f xs hp hf _ _ _
   obtain⟨f,rfl⟩: ∃f',f=f'+1:=⟨f-1,by omega⟩
   rw[F.R05_Runes_l2,if_neg (by omega),ck_end (by omega)];simp[ats]
  |succ n ih=>
   intro p f xs hp hf hxs hp5 hv
   obtain⟨f,rfl⟩: ∃f',f=f'+1:=⟨f-1,by omega⟩
   rw[F.R05_Runes_l2]
   rw[vld]at hv
   by_cases h:p<s.size
   ·rw[if_pos h]at hv
    have hl:=wid_le h
    have h4:=wid_4 s p
    by_cases hw:wid s p=0
    ·rw[if_pos hw]at hv;cases hv
    rw[if_neg hw]at hv
    have hd:=dec_fits h
    have hj: ∀(w c:Int),w=(wid s p:Int)→c=((Utf8.decode s p).1:Int)→F.R05_Runes_j1 (F.R05_Runes_l2 s f) xs (p:Int) w c=some (xs++ats p (ckF (n+1) (s.data.toList.drop p))):=fun w c hwc hc=>by
     subst hwc;subst hc
     rw[F.R05_Runes_j1,A.gd1 (by simp only[List.length_cons,List.length_nil];omega),A.gd1 ⟨by omega,by omega⟩]
     have e:(p:Int)+(wid s p:Int)=((p+wid s p:Nat):Int):=by omega
     have e2:((s.data.toList.drop p).take (Utf8.decode s p).2).length=wid s p:=by
      rw[List.length_take,List.length_drop,size_list,←wid_dec hw];omega
     rw[e,ih (p+wid s p) f (xs++[((p:Int),((Utf8.decode s p).1:Int))]) (by omega) (by omega) (by simp only[List.length_append,List.length_cons,List.length_nil];omega) (by omega) hv,ck_step h,ats,e2,wid_dec hw,←e]
     simp
    have i0:=ixb (s:=s) h
    have i1:A.ix s.data.toList ((p:Int)+1)=if p+1<s.size then some (Z.bat s (p+1))else none:=ixk s p 1
    have i2:A.ix s.data.toList ((p:Int)+2)=if p+2<s.size then some (Z.bat s (p+2))else none:=ixk s p 2
    have i3:A.ix s.data.toList ((p:Int)+3)=if p+3<s.size then some (Z.bat s (p+3))else none:=ixk s p 3
    have r1:Z.R64 ((p:Int)+1):=⟨by omega,by omega⟩
    have r2:Z.R64 ((p:Int)+2):=⟨by omega,by omega⟩
    have r3:Z.R64 ((p:Int)+3):=⟨by omega,by omega⟩
    have k0:=(Z.bat s p).toNat_lt
    have k1:=(Z.bat s (p+1)).toNat_lt
    have k2:=(Z.bat s (p+2)).toNat_lt
    have k3:=(Z.bat s (p+3)).toNat_lt
    rw[if_pos (by omega),width_eq s p h hs,Option.bind_some]
    have tm: ∀(b m:Nat),Int.tmod (b:Int) (m:Int)=((b%m:Nat):Int):=fun b m=>by
     rw[Int.tmod_eq_emod_of_nonneg (by omega)];rfl
    rcases dec_shape hw with⟨w1,e⟩|⟨w2,e⟩|⟨w3,e⟩|⟨w4,e⟩
    ·rw[if_pos (by omega),i0,Option.bind_some]
     exact hj _ _ rfl (by rw[e,i32_small (by omega) (by omega)])
    ·rw[if_neg (by omega),if_pos (by omega),A.gd1 r1,i0,Option.bind_some,A.gd1 (by decide),i1,if_pos (by omega),Option.bind_some,A.gd1 (by decide)]
     refine hj _ _ rfl ?_
     have t1:Int.tmod ((Z.bat s p).toNat:Int) 32=(((Z.bat s p).toNat%32:Nat):Int):=tm _ 32
     have t2:Int.tmod ((Z.bat s (p+1)).toNat:Int) 64=(((Z.bat s (p+1)).toNat%64:Nat):Int):=tm _ 64
     rw[e,t1,t2]
     rw[i32_small (x:=(((Z.bat s p).toNat%32:Nat):Int)) (by omega) (by omega),i32_small (x:=(((Z.bat s p).toNat%32:Nat):Int)*64) (by omega) (by omega),i32_small (x:=(((Z.bat s (p+1)).toNat%64:Nat):Int)) (by omega) (by omega),i32_small (by omega) (by omega)]
     omega
    ·rw[if_neg (by omega),if_neg (by omega),if_pos (by omega),A.gd1 ⟨r1,r2⟩,i0,Option.bind_some,A.gd1 (by decide),i1,if_pos (by omega),Option.bind_some,A.gd1 (by decide),i2,if_pos (by omega),Option.bind_some,A.gd1 (by decide)]
     refine hj _ _ rfl ?_
     have t1:Int.tmod ((Z.bat s p).toNat:Int) 16=(((Z.bat s p).toNat%16:Nat):Int):=tm _ 16
     have t2:Int.tmod ((Z.bat s (p+1)).toNat:Int) 64=(((Z.bat s (p+1)).toNat%64:Nat):Int):=tm _ 64
     have t3:Int.tmod ((Z.bat s (p+2)).toNat:Int) 64=(((Z.bat s (p+2)).toNat%64:Nat):Int):=tm _ 64
     rw[e,t1,t2,t3]
     generalize hu:(Z.bat s p).toNat%16=u
     generalize hx:(Z.bat s (p+1)).toNat%64=x
     generalize hy:(Z.bat s (p+2)).toNat%64=y
     have hu':u<16:=by omega
     have hx':x<64:=by omega
     have hy':y<64:=by omega
     rw[i32_small (x:=(u:Int)) (by omega) (by omega),i32_small (x:=(u:Int)*64) (by omega) (by omega),i32_small (x:=(x:Int)) (by omega) (by omega),i32_small (x:=(u:Int)*64+(x:Int)) (by omega) (by omega),i32_small (x:=((u:Int)*64+(x:Int))*64) (by omega) (by omega),i32_small (x:=(y:Int)) (by omega) (by omega),i32_small (by omega) (by omega)]
     omega
    ·rw[if_neg (by omega),if_neg (by omega),if_neg (by omega),if_pos (by omega),A.gd1 ⟨r1,r2,r3⟩,i0,Option.bind_some,A.gd1 (by decide),i1,if_pos (by omega),Option.bind_some,A.gd1 (by decide),i2,if_pos (by omega),Option.bind_some,A.gd1 (by decide),i3,if_pos (by omega),Option.bind_some,A.gd1 (by decide)]
     refine hj _ _ rfl ?_
     have t1:Int.tmod ((Z.bat s p).toNat:Int) 8=(((Z.bat s p).toNat%8:Nat):Int):=tm _ 8
     have t2:Int.tmod ((Z.bat s (p+1)).toNat:Int) 64=(((Z.bat s (p+1)).toNat%64:Nat):Int):=tm _ 64
     have t3:Int.tmod ((Z.bat s (p+2)).toNat:Int) 64=(((Z.bat s (p+2)).toNat%64:Nat):Int):=tm _ 64
     have t4:Int.tmod ((Z.bat s (p+3)).toNat:Int) 64=(((Z.bat s (p+3)).toNat%64:Nat):Int):=tm _ 64
     rw[e,t1,t2,t3,t4]
     generalize hu:(Z.bat s p).toNat%8=u
     generalize hx:(Z.bat s (p+1)).toNat%64=x
     generalize hy:(Z.bat s (p+2)).toNat%64=y
     generalize hz:(Z.bat s (p+3)).toNat%64=z
     have hu':u<8:=by omega
     have hx':x<64:=by omega
     have hy':y<64:=by omega
     have hz':z<64:=by omega
     rw[i32_small (x:=(u:Int)) (by omega) (by omega),i32_small (x:=(u:Int)*64) (by omega) (by omega),i32_small (x:=(x:Int)) (by omega) (by omega),i32_small (x:=(u:Int)*64+(x:Int)) (by omega) (by omega),i32_small (x:=((u:Int)*64+(x:Int))*64) (by omega) (by omega),i32_small (x:=(y:Int)) (by omega) (by omega),
      i32_small (x:=((u:Int)*64+(x:Int))*64+(y:Int)) (by omega) (by omega),i32_small (x:=(((u:Int)*64+(x:Int))*64+(y:Int))*64) (by omega) (by omega),i32_small (x:=(z:Int)) (by omega) (by omega),i32_small (by omega) (by omega)]
     omega
   ·rw[if_neg (by omega),ck_end h];simp[ats]
 have:=loop s.size 0 A.FU [] (by omega) (by have:=FU_big;omega) (by simp) (by omega) hv
 rw[F.R05_Runes]
 exact this
theorem iter_F (s:ByteArray):F.rec_Runes_1_it s=some (ats 0 (cks s.data.toList))∨9223372036854775807<s.size:=by
 by_cases hs:s.size≤9223372036854775807
 ·left
  have loop: ∀(n p f:Nat),s.size-p≤n→n<f→F.rec_Runes_1_it_l1 s f p=some (ats p (ckF n (s.data.toList.drop p))):=by
   intro n
   induction n with
   |zero=>
    intro p f hp hf
    obtain⟨f,rfl⟩: ∃f',f=f'+1:=⟨f-1,by omega⟩
    rw[F.rec_Runes_1_it_l1,if_neg (by omega),ck_end (by omega)];rfl
   |succ n ih=>
    intro p f hp hf
    obtain⟨f,rfl⟩: ∃f',f=f'+1:=⟨f-1,by omega⟩
    by_cases h:p<s.size
    ·have hd:=dec_fits h
     rw[F.rec_Runes_1_it_l1,if_pos h,ih _ _ (by omega) (by omega),ck_step h,ats]
     have e2:((s.data.toList.drop p).take (Utf8.decode s p).2).length=(Utf8.decode s p).2:=by
      rw[List.length_take,List.length_drop,size_list];omega
     rw[e2]
     simp[A.cns]
    ·rw[F.rec_Runes_1_it_l1,if_neg h,ck_end h];rfl
  exact loop s.size 0 A.FU (by omega) (by have:=FU_big;omega)
 ·right;omega
theorem ext_all (s:ByteArray):s.extract 0 s.size=s:=by
 refine ba_eq ?_
 rw[ByteArray.data_extract,Array.toList_extract]
 simp[List.extract_eq_take_drop]
 exact List.take_of_length_le (Nat.le_of_eq (size_list s))
theorem rcut_l (s:ByteArray)(n:Nat): ∀(cs:List Rn) (p e:Nat),p+(flat cs).length=s.size→e≤s.size→F.rec_Cut_l1 s n (ats p cs) e=some (s.extract 0 (if p≤n then bd n p cs else e))
 | [],p,e,hp,he=>by
  simp only[List.flatMap_nil,List.length_nil,Nat.add_zero]at hp
  subst hp
  rw[ats,F.rec_Cut_l1,bd]
  by_cases h:s.size≤n
  ·rw[if_pos (by omega),if_pos h,ext_all]
  ·rw[if_neg (by omega),if_neg h,A.gd1 ⟨by omega,by omega⟩,Int.toNat_natCast]
 |c::cs,p,e,hp,he=>by
  rw[flat_cons,List.length_append]at hp
  rw[ats,F.rec_Cut_l1,bd]
  by_cases h:p≤n
  ·rw[if_neg (by simp;omega),if_pos h]
   have e1:(p:Int)+(c.1.length:Int)=((p+c.1.length:Nat):Int):=by omega
   show F.rec_Cut_l1 s n (ats ((p:Int)+(c.1.length:Int)) cs) (p:Int)=_
   rw[e1]
   exact rcut_l s n cs (p+c.1.length) p (by omega) (by omega)
  ·rw[if_pos (by simp;omega),if_neg h,A.gd1 ⟨by omega,by omega⟩,Int.toNat_natCast]
theorem rec_Cut_eq (s:ByteArray)(n:Nat)(hs:s.size≤9223372036854775807):F.rec_Cut s n=some (s.extract 0 (bd n 0 (cks s.data.toList))):=by
 rw[F.rec_Cut,F.rec_Runes,Option.bind_some]
 rcases iter_F s with h|h
 ·rw[h,Option.bind_some]
  have hf:(flat (cks s.data.toList)).length=s.size:=by
   have:flat (cks s.data.toList)=s.data.toList:=flat_ckF _ _ (Nat.le_refl _)
   rw[this,size_list]
  have:=rcut_l s n (cks s.data.toList) 0 0 (by omega) (by omega)
  rw[if_pos (Nat.zero_le _)]at this
  exact this
 ·omega
theorem R05_Cut_eq (s:ByteArray)(n:Nat)(hs:s.size≤5000)(hv:vld s s.size 0=true):F.R05_Cut s n=some (s.extract 0 (bd n 0 (cks s.data.toList))):=by
 rw[F.R05_Cut,Runes_ats s hs hv,Option.bind_some]
 obtain⟨cs,hcs⟩: ∃cs,cs=cks s.data.toList:=⟨_,rfl⟩
 have hf:flat cs=s.data.toList:=by rw[hcs];exact flat_ckF _ _ (Nat.le_refl _)
 have hfl:(flat cs).length=s.size:=by rw[hf,size_list]
 have hcl:cs.length≤s.size:=by
  rw[hcs]
  have: ∀(n:Nat) (l:List UInt8),(ckF n l).length≤n:=by
   intro n
   induction n with
   |zero=>intro l;simp[ckF]
   |succ n ih=>intro l;unfold ckF;split<;>simp;exact ih _
  exact this _ _
 rw[←hcs]
 have loop: ∀(m k f e:Nat),k+m=cs.length→m<f→e≤s.size→((flat (cs.take k)).length≤n→e=(flat (cs.take k)).length)→F.R05_Cut_l3 s n (ats 0 cs) f e k=some (s.extract 0 (if(flat (cs.take k)).length≤n then bd n (flat (cs.take k)).length (cs.drop k)else e)):=by
  intro m
  induction m with
  |zero=>
   intro k f e hk hf he hp
   obtain⟨f,rfl⟩: ∃f',f=f'+1:=⟨f-1,by omega⟩
   rw[F.R05_Cut_l3,if_neg (by rw[ats_len];omega),List.drop_eq_nil_of_le (by omega),bd,A.gd1 ⟨by omega,by omega⟩,Int.toNat_natCast]
   split
   ·rename_i h;rw[hp h]
   ·rfl
  |succ m ih=>
   intro k f e hk hf he hp
   obtain⟨f,rfl⟩: ∃f',f=f'+1:=⟨f-1,by omega⟩
   have hck:cs[k]?=some cs[k]:=List.getElem?_eq_getElem (by omega)
   have htk:cs.take (k+1)=cs.take k++[cs[k]]:=by rw[List.take_add_one,hck];rfl
   have hq:(flat (cs.take (k+1))).length=(flat (cs.take k)).length+cs[k].1.length:=by rw[htk,flat_append,List.length_append];simp
   have hqs:(flat (cs.take (k+1))).length≤s.size:=by
    have h1:=congrArg List.length (flat_take cs (k+1))
    rw[List.length_take]at h1;omega
   have next: ∀q:Nat,q=(flat (cs.take (k+1))).length→F.R05_Cut_j2 (F.R05_Cut_l3 s n (ats 0 cs) f) n e k q=some (s.extract 0 (if(flat (cs.take k)).length≤n then bd n (flat (cs.take k)).length (cs.drop k)else e)):=fun q hqq=>by
    have ek:(k:Int)+1=((k+1:Nat):Int):=by omega
    rw[F.R05_Cut_j2,A.dropx hck,bd,←hq,←hqq]
    by_cases h:q≤n
    ·rw[if_pos (by omega),F.R05_Cut_j1,A.gd1 ⟨by omega,by omega⟩,ek,ih (k+1) f q (by omega) (by omega) (by omega) (fun _=>hqq),←hqq,if_pos h,if_pos h,if_pos (by omega)]
    ·rw[if_neg (by omega),F.R05_Cut_j1,A.gd1 ⟨by omega,by omega⟩,ek,ih (k+1) f e (by omega) (by omega) he (fun h2=>by omega),←hqq,if_neg h,if_neg h]
     split
     ·rename_i h3;rw[hp h3]
     ·rfl
   rw[F.R05_Cut_l3,if_pos (by rw[ats_len];omega),A.gd1 ⟨by omega,by omega⟩]
   by_cases hl:k+1<cs.length
   ·have hx:(ats 0 cs)[k+1]?=some ((0:Int)+((flat (cs.take (k+1))).length:Int),cs[k+1].2):=by
     rw[ats_get,List.getElem?_eq_getElem hl];rfl
    rw[if_pos (by rw[ats_len];omega),A.gd1 ⟨by omega,by omega⟩,show(k:Int)+1=((k+1:Nat):Int) by omega,A.ixn hx,Option.bind_some]
    show F.R05_Cut_j2 _ _ _ _ ((0:Int)+((flat (cs.take (k+1))).length:Int))=_
    rw[Int.zero_add]
    exact next _ rfl
   ·rw[if_neg (by rw[ats_len];omega)]
    exact next _ (by rw[List.take_of_length_le (by omega),hfl])
 have:=loop cs.length 0 A.FU 0 (by omega) (by have:=FU_big;omega) (by omega) (by simp)
 simpa using this
end Go.Proofs.YtfpemeeadiigcaaDoor
end
section
set_option maxRecDepth 20000
set_option linter.unusedVariables false
set_option linter.unusedSimpArgs false
namespace Go.Proofs.YtfpemeeadiigcaaDoor
open Go.RowKit Go.Graph Go.Utf
theorem Reverse_eq (l:List Int)(hl:l.length≤4611686018427387904):F.slices_Reverse_rune_rune l=some l.reverse:=by
 have loop: ∀(m f:Nat) (X0 M B:List Int),M.length≤m→m<f→X0.length+M.length≤4611686018427387904→F.slices_Reverse_rune_rune_l1 f (X0++M++B) (X0.length:Int) ((X0.length:Int)+(M.length:Int)-1)=some (X0++M.reverse++B):=by
  intro m
  induction m with
  |zero=>
   intro f X0 M B hm hf _
   obtain⟨f,rfl⟩: ∃f',f=f'+1:=⟨f-1,by omega⟩
   obtain rfl:M=[]:=List.eq_nil_of_length_eq_zero (by omega)
   rw[F.slices_Reverse_rune_rune_l1,if_neg (by simp only[List.length_nil];omega)];simp
  |succ m ih=>
   intro f X0 M B hm hf hlen
   obtain⟨f,rfl⟩: ∃f',f=f'+1:=⟨f-1,by omega⟩
   by_cases h2:M.length<2
   ·have hr:M.reverse=M:=by
     match M,h2 with
     | [],_=>rfl
     | [x],_=>rfl
    rw[F.slices_Reverse_rune_rune_l1,if_neg (by omega),hr]
   ·obtain⟨x,M1,rfl⟩: ∃x M1,M=x::M1:=by
     cases M with
     |nil=>simp at h2
     |cons x M1=>exact⟨x,M1,rfl⟩
    obtain⟨M2,y,rfl⟩: ∃M2 y,M1=M2++[y]:=by
     have hne:M1≠[]:=fun e=>by subst e;simp at h2
     exact⟨M1.dropLast,M1.getLast hne,(List.dropLast_concat_getLast hne).symm⟩
    simp only[List.length_cons,List.length_append,List.length_nil]at hm hlen h2 ⊢
    have ei:(X0.length:Int)+((M2.length+(0+1)+1:Nat):Int)-1=((X0.length+M2.length+1:Nat):Int):=by omega
    rw[ei]
    have hy:(X0++(x::(M2++[y]))++B)[X0.length+M2.length+1]?=some y:=by
     rw[List.append_assoc,List.getElem?_append_right (by omega),show X0.length+M2.length+1-X0.length=M2.length+1 by omega,List.cons_append,List.getElem?_cons_succ,List.append_assoc,List.getElem?_append_right (Nat.le_refl _)]
     simp
    have hx:(X0++(x::(M2++[y]))++B)[X0.length]?=some x:=by
     rw[List.append_assoc,List.getElem?_append_right (Nat.le_refl _)];simp
    have hs1:(X0++(x::(M2++[y]))++B).set X0.length y=X0++(y::(M2++[y]))++B:=by
     rw[List.append_assoc,List.set_append_right _ _ (Nat.le_refl _)];simp
    have hy2:(X0++(y::(M2++[y]))++B)[X0.length+M2.length+1]?=some y:=by
     rw[List.append_assoc,List.getElem?_append_right (by omega),show X0.length+M2.length+1-X0.length=M2.length+1 by omega,List.cons_append,List.getElem?_cons_succ,List.append_assoc,List.getElem?_append_right (Nat.le_refl _)]
     simp
    have hs2:(X0++(y::(M2++[y]))++B).set (X0.length+M2.length+1) x=(X0++[y])++M2++([x]++B):=by
     rw[List.append_assoc,List.set_append_right _ _ (by omega),show X0.length+M2.length+1-X0.length=M2.length+1 by omega,List.cons_append,List.set_cons_succ,List.append_assoc,List.set_append_right _ _ (Nat.le_refl _)]
     simp
    rw[F.slices_Reverse_rune_rune_l1,if_pos (by omega),A.ixn hy,Option.bind_some,A.ixn hx,Option.bind_some,Option.bind_some,Int.toNat_natCast,hs1,A.ixn hy2,Option.bind_some,A.gd1 ⟨⟨by omega,by omega⟩,by omega,by omega⟩,Int.toNat_natCast,hs2]
    have:=ih f (X0++[y]) M2 ([x]++B) (by omega) (by omega) (by simp only[List.length_append,List.length_cons,List.length_nil];omega)
    simp only[List.length_append,List.length_cons,List.length_nil]at this
    rw[show((X0.length:Nat):Int)+1=((X0.length+(0+1):Nat):Int) by omega,show((X0.length+M2.length+1:Nat):Int)-1=((X0.length+(0+1):Nat):Int)+(M2.length:Int)-1 by omega,this]
    simp
 have:=loop l.length A.FU [] l [] (Nat.le_refl _) (by have:=FU_big;omega) (by simp;omega)
 rw[F.slices_Reverse_rune_rune,A.gd1 ⟨by omega,by omega⟩]
 simpa using this
def upB (b:UInt8):UInt8:=if 97≤b.toNat∧b.toNat≤122 then UInt8.ofNat (b.toNat-32)else b
def upper (s:ByteArray):ByteArray:=⟨(s.data.toList.map upB).toArray⟩
theorem up_set {l:List UInt8}{k:Nat}{x:UInt8}(h:l[k]?=some x):((l.take k).map upB++l.drop k).set k (upB x)=(l.take (k+1)).map upB++l.drop (k+1):=by
 have hlt:=(List.getElem?_eq_some_iff.1 h).1
 have hk:((l.take k).map upB).length=k:=by rw[List.length_map,List.length_take];omega
 rw[List.set_append_right _ _ (by omega),hk,Nat.sub_self,A.dropx h,List.take_add_one,h]
 simp
theorem up_get {l:List UInt8}{k:Nat}{x:UInt8}(h:l[k]?=some x):((l.take k).map upB++l.drop k)[k]?=some x:=by
 have hlt:=(List.getElem?_eq_some_iff.1 h).1
 have hk:((l.take k).map upB).length=k:=by rw[List.length_map,List.length_take];omega
 rw[List.getElem?_append_right (by omega),hk,Nat.sub_self,A.dropx h];rfl
theorem up_same {l:List UInt8}{k:Nat}{x:UInt8}(h:l[k]?=some x)(hx:upB x=x):(l.take k).map upB++l.drop k=(l.take (k+1)).map upB++l.drop (k+1):=by
 rw[←up_set h,hx]
 refine(List.ext_getElem? fun i=>?_)
 rw[List.getElem?_set]
 split
 ·rename_i e;subst e
  rw[up_get h]
  split
  ·rfl
  ·rename_i h2
   have:=up_get h
   rw[List.getElem?_eq_none (by omega)]at this;cases this
 ·rfl
theorem b8_up {x:UInt8}(h:97≤x.toNat∧x.toNat≤122):A.b8 ((x.toNat:Int)-32)=upB x:=by
 unfold A.b8 upB
 rw[if_pos h]
 congr 1;omega
theorem wrap8 {x:Int}(h0:0≤x)(h1:x<256):IntKind.u8.wrap x=x:=by
 simp[IntKind.wrap,IntKind.bits,IntKind.signed];omega
theorem upper_F (s:ByteArray)(hs:s.size≤9223372036854775806):F.fn_upper s=some (upper s):=by
 have:=A.lp s.data.toList (fun f (xs:List UInt8) y=>F.fn_upper_l2 s f xs y) (fun _ _ _=>some (upper s)) (fun k xs=>xs=(s.data.toList.take k).map upB++s.data.toList.drop k)
  (fun f xs hp=>by
   show F.fn_upper_l2 s (f+1) xs _=_
   rw[F.fn_upper_l2,if_neg (by omega),hp,List.take_length,List.drop_length,List.append_nil];rfl)
  (fun f xs k x hx hk hp ih=>by
   subst hp
   have hkz:k<s.size:=by rw[←size_list];exact hk
   show F.fn_upper_l2 s (f+1) _ _=_
   rw[F.fn_upper_l2,if_pos (by omega),A.ixn (up_get hx),Option.bind_some]
   simp only[A.ba]
   by_cases h:97≤x.toNat∧x.toNat≤122
   ·rw[if_pos (by simp;omega),Option.bind_some,F.fn_upper_j1,A.gd1 ⟨by omega,by omega⟩,wrap8 (by omega) (by omega),show(x.toNat:Int)-97+65=(x.toNat:Int)-32 by omega,b8_up h,Int.toNat_natCast,up_set hx]
    exact ih _ rfl
   ·have hx2:upB x=x:=by unfold upB;rw[if_neg h]
    rw[if_neg (by simp;omega),F.fn_upper_j1,A.gd1 ⟨by omega,by omega⟩,up_same hx hx2]
    exact ih _ rfl)
  (by have:=FU_big;rw[size_list];omega) s.data.toList (by simp)
 rw[F.fn_upper];exact this
theorem R06_upper_eq (s:ByteArray)(hs:s.size≤9223372036854775806):F.R06_upper s=some (upper s):=by
 have:=A.lp s.data.toList (fun f (xs:List UInt8) y=>F.R06_upper_l3 s f xs y) (fun _ _ _=>some (upper s)) (fun k xs=>xs=(s.data.toList.take k).map upB++s.data.toList.drop k)
  (fun f xs hp=>by
   show F.R06_upper_l3 s (f+1) xs _=_
   rw[F.R06_upper_l3,if_neg (by omega),hp,List.take_length,List.drop_length,List.append_nil];rfl)
  (fun f xs k x hx hk hp ih=>by
   subst hp
   have hkz:k<s.size:=by rw[←size_list];exact hk
   show F.R06_upper_l3 s (f+1) _ _=_
   have no:upB x=x→F.R06_upper_j2 (F.R06_upper_l3 s f) ((s.data.toList.take k).map upB++s.data.toList.drop k) (k:Int) false=some (upper s):=fun hx2=>by
    rw[F.R06_upper_j2,if_neg (by simp),F.R06_upper_j1,A.gd1 ⟨by omega,by omega⟩,up_same hx hx2]
    exact ih _ rfl
   rw[F.R06_upper_l3,if_pos (by omega),A.ixn (up_get hx),Option.bind_some]
   by_cases h:97≤x.toNat
   ·rw[if_pos (by omega),Option.bind_some]
    by_cases h2:x.toNat≤122
    ·rw[show decide ((x.toNat:Int)≤122)=true from decide_eq_true (by omega),F.R06_upper_j2,if_pos rfl,A.ixn (up_get hx),Option.bind_some,Option.bind_some,F.R06_upper_j1,A.gd1 ⟨by omega,by omega⟩,b8_up ⟨h,h2⟩,Int.toNat_natCast,up_set hx]
     exact ih _ rfl
    ·rw[show decide ((x.toNat:Int)≤122)=false from decide_eq_false (by omega)]
     exact no (by unfold upB;rw[if_neg (by omega)])
   ·rw[if_neg (by omega)]
    exact no (by unfold upB;rw[if_neg (by omega)]))
  (by have:=FU_big;rw[size_list];omega) s.data.toList (by simp)
 rw[F.R06_upper];exact this
abbrev pos (cs:List Rn) (k:Nat):Nat:=(flat (cs.take k)).length
theorem pos_le (cs:List Rn){a b:Nat}(h:a≤b):pos cs a≤pos cs b:=by
 have:cs.take b=cs.take a++(cs.take b).drop a:=by
  rw[List.drop_take]
  have:=List.take_append_drop a (cs.take b)
  rw[List.take_take,Nat.min_eq_left h,List.drop_take]at this
  exact this.symm
 show(flat _).length≤(flat _).length
 rw[this,flat_append,List.length_append];omega
theorem pos_end {s:ByteArray}{cs:List Rn}(hf:flat cs=s.data.toList)(k:Nat):pos cs k≤s.size:=by
 have h1:=congrArg List.length (flat_take cs k)
 rw[List.length_take,hf,size_list]at h1
 show(flat (cs.take k)).length≤_
 omega
theorem pos_all {s:ByteArray}{cs:List Rn}(hf:flat cs=s.data.toList){k:Nat}(h:cs.length≤k):pos cs k=s.size:=by
 show(flat (cs.take k)).length=_
 rw[List.take_of_length_le h,hf,size_list]
theorem part_eq {s:ByteArray}{cs:List Rn}(hf:flat cs=s.data.toList){a b:Nat}(h:a≤b):F.R06_part s (ats 0 cs) a b=some (s.extract (pos cs a) (pos cs b)):=by
 have j1: ∀u v:Nat,u=pos cs a→v=pos cs b→F.R06_part_j1 s u v=some (s.extract (pos cs a) (pos cs b)):=fun u v hu hv=>by
  have:=pos_le cs h
  have:=pos_end hf b
  rw[F.R06_part_j1,A.gd1 ⟨by omega,by omega,by omega⟩,Int.toNat_natCast,Int.toNat_natCast,hu,hv]
 have at_: ∀k,k<cs.length→(ats 0 cs)[k]?=some ((pos cs k:Int),cs[k]!.2):=fun k hk=>by
  rw[ats_get,List.getElem?_eq_getElem hk,Option.map_some,Int.zero_add,getElem!_pos cs k hk]
 have j2: ∀u:Nat,u=pos cs a→F.R06_part_j2 s (ats 0 cs) b u=some (s.extract (pos cs a) (pos cs b)):=fun u hu=>by
  rw[F.R06_part_j2,ats_len]
  by_cases hb:b<cs.length
  ·rw[if_pos (by omega),A.ixn (at_ b hb),Option.bind_some];exact j1 u _ hu rfl
  ·rw[if_neg (by omega)];exact j1 u _ hu (pos_all hf (by omega)).symm
 rw[F.R06_part,ats_len]
 by_cases ha:a<cs.length
 ·rw[if_pos (by omega),A.ixn (at_ a ha),Option.bind_some];exact j2 _ rfl
 ·rw[if_neg (by omega)];exact j2 _ (pos_all hf (by omega)).symm
theorem ext_flat {s:ByteArray}{cs:List Rn}(hf:flat cs=s.data.toList)(a b:Nat):(s.extract (pos cs a) (pos cs b)).data.toList=flat ((cs.take b).drop a):=by
 rw[ByteArray.data_extract,Array.toList_extract,List.extract_eq_take_drop,←hf]
 by_cases h:a≤b
 ·have e1:cs.take b=cs.take a++(cs.take b).drop a:=by
   have:=List.take_append_drop a (cs.take b)
   rw[List.take_take,Nat.min_eq_left h]at this
   exact this.symm
  have e2:flat (cs.take b)=flat (cs.take a)++flat ((cs.take b).drop a):=by rw[←flat_append,←e1]
  have e3:flat cs=flat (cs.take a)++(flat ((cs.take b).drop a)++flat (cs.drop b)):=by
   rw[←List.append_assoc,←e2,←flat_append,List.take_append_drop]
  have e4:pos cs b-pos cs a=(flat ((cs.take b).drop a)).length:=by
   show(flat (cs.take b)).length -(flat (cs.take a)).length=_
   rw[e2,List.length_append];omega
  rw[e3,show pos cs a=(flat (cs.take a)).length from rfl,List.drop_left]
  rw[show(flat (cs.take b)).length -(flat (cs.take a)).length=(flat ((cs.take b).drop a)).length from e4,List.take_left]
 ·have h1:=pos_le cs (show b≤a by omega)
  have h2:(cs.take b).drop a=[]:=List.drop_eq_nil_of_le (by rw[List.length_take];omega)
  rw[show pos cs b-pos cs a=0 by omega,h2,List.take_zero];rfl
theorem turn_eq (s:ByteArray)(hs:s.size≤5000)(hv:vld s s.size 0=true):F.R06_turn s=some ⟨(flat (cks s.data.toList).reverse).toArray⟩:=by
 rw[F.R06_turn,Runes_ats s hs hv,Option.bind_some]
 obtain⟨cs,hcs⟩: ∃cs,cs=cks s.data.toList:=⟨_,rfl⟩
 have hf:flat cs=s.data.toList:=by rw[hcs];exact flat_ckF _ _ (Nat.le_refl _)
 rw[←hcs]
 have hrl: ∀k,(flat (cs.take k).reverse).length=pos cs k:=fun k=>by
  show(flat _).length=(flat _).length
  simp only[List.length_flatMap]
  rw[List.map_reverse,List.sum_reverse]
 have hcl:cs.length≤5000:=by
  have: ∀(n:Nat) (l:List UInt8),(ckF n l).length≤n:=by
   intro n
   induction n with
   |zero=>intro l;simp[ckF]
   |succ n ih=>intro l;unfold ckF;split<;>simp;exact ih _
  have:=this s.data.toList.length s.data.toList
  rw[hcs];rw[size_list]at this
  exact Nat.le_trans this hs
 have:=A.lp cs (fun f (y:ByteArray) k=>F.R06_turn_l1 s (ats 0 cs) f y k) (fun _ _ _=>some (⟨(flat cs.reverse).toArray⟩:ByteArray)) (fun k y=>y=⟨(flat (cs.take k).reverse).toArray⟩)
  (fun f y hp=>by
   show F.R06_turn_l1 s (ats 0 cs) (f+1) y _=_
   rw[F.R06_turn_l1,if_neg (by rw[ats_len];omega),hp,List.take_length])
  (fun f y k x hx hk hp ih=>by
   subst hp
   show F.R06_turn_l1 s (ats 0 cs) (f+1) _ _=_
   have hr:Z.R64 ((k:Int)+1):=⟨by omega,by omega⟩
   have ek:(k:Int)+1=((k+1:Nat):Int):=by omega
   have hsz:(ByteArray.mk (flat (cs.take k).reverse).toArray).size=pos cs k:=by
    show(flat (cs.take k).reverse).toArray.size=_
    rw[List.size_toArray,hrl]
   have hp1:=pos_end hf (k+1)
   have hp0:=pos_end hf k
   have hes:(s.extract (pos cs k) (pos cs (k+1))).size≤s.size:=by rw[ByteArray.size_extract];omega
   rw[F.R06_turn_l1,if_pos (by rw[ats_len];omega),A.gd1 hr,ek,part_eq hf (show k≤k+1 by omega),Option.bind_some,A.gd1 (by rw[hsz];omega),A.gd1 (by rw[←ek];exact hr),←ek]
   refine ih _ ?_
   refine ba_eq ?_
   rw[ByteArray.data_append,Array.toList_append,ext_flat hf]
   have e1:(cs.take (k+1)).drop k=[x]:=by
    rw[List.take_add_one,hx,List.drop_append_of_le_length (by rw[List.length_take];omega),List.drop_eq_nil_of_le (by rw[List.length_take];omega)];rfl
   have e2:(cs.take (k+1)).reverse=x::(cs.take k).reverse:=by rw[List.take_add_one,hx];simp
   rw[e1,e2,flat_cons]
   simp)
  (by have:=FU_big;omega) (ByteArray.mk #[]) (by simp)
 exact this
end Go.Proofs.YtfpemeeadiigcaaDoor
end
section
set_option maxRecDepth 20000
set_option linter.unusedVariables false
set_option linter.unusedSimpArgs false
namespace Go.Proofs.YtfpemeeadiigcaaDoor
open Go.RowKit Go.Graph Go.Utf
abbrev Rec:=Int×ByteArray
def okT (s:ByteArray):Bool:=decide (s.size≤64)&&vld s s.size 0
theorem rec_Check_eq (r:Rec):F.rec_Check r=some (if okT r.2=true then 0 else 50):=by
 rw[F.rec_Check]
 unfold okT
 by_cases h:r.2.size≤64
 ·rw[if_neg (by omega),F.utf8_ValidString,validD_eq,Option.bind_some,F.rec_Check_j1,decide_eq_true h,Bool.true_and]
  cases vld r.2 r.2.size 0<;>rfl
 ·rw[if_pos (by omega),F.rec_Check_j1,if_pos rfl,decide_eq_false h];rfl
theorem R05_Check_eq (r:Rec):F.R05_Check r=some (if okT r.2=true then 0 else 50):=by
 rw[F.R05_Check]
 unfold okT
 by_cases h:r.2.size≤64
 ·rw[if_neg (by omega),Valid_eq _ (by omega),Option.bind_some,F.R05_Check_j1,decide_eq_true h,Bool.true_and]
  cases vld r.2 r.2.size 0<;>rfl
 ·rw[if_pos (by omega),F.R05_Check_j1,if_pos rfl,decide_eq_false h];rfl
theorem okT_iff {s:ByteArray}:okT s=true↔s.size≤64∧vld s s.size 0=true:=by unfold okT;simp
theorem vld_cks {s:ByteArray}(h:vld s s.size 0=true):flat (cks s.data.toList)=s.data.toList∧∀c,c∈cks s.data.toList→Ck c:=valid_cks (by rw[validD_eq];exact h)
theorem vld_of {s:ByteArray}{cs:List Rn}(h:s.data.toList=flat cs)(hc: ∀c,c∈cs→Ck c):vld s s.size 0=true:=by
 rw[←validD_eq,h];exact valid_flat hc
theorem cks_of {s:ByteArray}{cs:List Rn}(h:s.data.toList=flat cs)(hc: ∀c,c∈cs→Ck c):cks s.data.toList=cs:=by rw[h];exact cks_flat hc
theorem app_list (s t:ByteArray):(s++t).data.toList=s.data.toList++t.data.toList:=by rw[ByteArray.data_append,Array.toList_append]
theorem vld_app {s t:ByteArray}(hs:vld s s.size 0=true)(ht:vld t t.size 0=true):vld (s++t) (s++t).size 0=true∧cks (s++t).data.toList=cks s.data.toList++cks t.data.toList:=by
 obtain⟨h1,h2⟩:=vld_cks hs
 obtain⟨h3,h4⟩:=vld_cks ht
 have e:(s++t).data.toList=flat (cks s.data.toList++cks t.data.toList):=by rw[flat_append,h1,h3,app_list]
 have hc: ∀c,c∈cks s.data.toList++cks t.data.toList→Ck c:=fun c hc=>(List.mem_append.1 hc).elim (h2 c) (h4 c)
 exact⟨vld_of e hc,cks_of e hc⟩
theorem cks_len (s:ByteArray):(cks s.data.toList).length≤s.size:=by
 have: ∀(n:Nat) (l:List UInt8),(ckF n l).length≤n:=by
  intro n
  induction n with
  |zero=>intro l;simp[ckF]
  |succ n ih=>intro l;unfold ckF;split<;>simp;exact ih _
 exact this _ _
def mapK (f:Fun)(r:Rec):Rec:=
 if f.1=2 then(r.1,upper r.2)else if f.1=3 then(r.1,⟨(flat ((cks r.2.data.toList).take f.2.1.toNat)).toArray⟩)else if f.1=4 then(r.1,⟨(flat (cks r.2.data.toList).reverse).toArray⟩)
 else if f.1=5 then(r.1,(r.2++f.2.2).extract 0 (bd 64 0 (cks (r.2++f.2.2).data.toList)))else if f.1=6 then(Int.tmod (Int.tmod r.1 f.2.1+f.2.1) f.2.1,r.2)
 else if f.1=7 then(((cks r.2.data.toList).length:Int),r.2)else if f.1=8 then((((cks r.2.data.toList).map (·.2))[0]?).getD 0,r.2)else r
def mapP (f:Fun)(r:Rec):Rec×Int:=if chk 2 f≠0 then((0,ByteArray.mk #[]),chk 2 f)else if okT r.2=true then(mapK f r,0)else((0,ByteArray.mk #[]),50)
theorem chk_map {f:Fun}(h:chk 2 f=0):(1≤f.1∧f.1≤8)∧numberF f=true∧textP f=true:=by
 have hk:chk 2 f=anyF f [1,2,3,4,5,6,7,8]:=rfl
 rw[hk]at h
 unfold anyF at h
 split at h
 ·rename_i h1
  rw[List.any_eq_true]at h1
  obtain⟨y,hy,h2⟩:=h1
  simp only[Bool.and_eq_true,decide_eq_true_eq]at h2
  obtain⟨rfl,h3,h4⟩:=h2
  refine⟨?_,h3,h4⟩
  simp only[List.mem_cons,List.mem_nil_iff,or_false]at hy
  omega
 ·cases h
theorem num_cut {f:Fun}(h:chk 2 f=0)(h3:f.1=3):0≤f.2.1∧f.2.1≤64:=by
 have:=(chk_map h).2.1
 unfold numberF at this
 rw[if_pos (.inl h3)]at this
 simpa using this
theorem num_mod {f:Fun}(h:chk 2 f=0)(h3:f.1=6):1≤f.2.1∧f.2.1≤1048576:=by
 have:=(chk_map h).2.1
 unfold numberF at this
 rw[if_neg (by omega),if_pos (.inl h3)]at this
 simpa using this
theorem txt_behind {f:Fun}(h:chk 2 f=0)(h3:f.1=5):f.2.2.size≤16∧vld f.2.2 f.2.2.size 0=true:=by
 have:=(chk_map h).2.2
 unfold textP at this
 rw[if_pos h3]at this
 simp only[Bool.and_eq_true,decide_eq_true_eq]at this
 exact⟨by omega,this.2⟩
theorem runes_mk {cs:List Rn}(h: ∀c,c∈cs→Ck c):runesBytes (cs.map (·.2))=⟨(flat cs).toArray⟩:=ba_eq (by rw[runes_flat h])
theorem mk_size (l:List UInt8):(ByteArray.mk l.toArray).size=l.length:=by show l.toArray.size=_;simp
theorem flat_sub {cs:List Rn}(k:Nat):(flat (cs.take k)).length≤(flat cs).length:=by
 have:=congrArg List.length (flat_take cs k)
 rw[List.length_take]at this;omega
theorem flat_rev (cs:List Rn):(flat cs.reverse).length=(flat cs).length:=by
 show(cs.reverse.flatMap (·.1)).length=(cs.flatMap (·.1)).length
 simp only[List.length_flatMap]
 rw[List.map_reverse,List.sum_reverse]
theorem rest_eq {n b:Int}(h1:1≤b)(h2:b≤1048576):F.fn_rest n b=some (Int.tmod (Int.tmod n b+b) b):=by
 have t1:Int.tmod n b<b:=Int.tmod_lt_of_pos n (by omega)
 have t2: -b<Int.tmod n b:=by
  have:=Int.tmod_lt_of_pos (-n) (show 0<b by omega)
  rw[Int.neg_tmod]at this;omega
 rw[F.fn_rest,A.gd1 (by omega)]
 by_cases h:Int.tmod n b<0
 ·rw[if_pos h,A.gd1 ⟨by omega,by omega⟩,F.fn_rest_j1,Int.tmod_eq_of_lt (a:=Int.tmod n b+b) (by omega) (by omega)]
 ·rw[if_neg h,F.fn_rest_j1]
  congr 1
  rw[Int.tmod_eq_emod_of_nonneg (a:=Int.tmod n b+b) (by omega),Int.add_emod_right,Int.emod_eq_of_lt (by omega) t1]
theorem rune_fits {cs:List Rn}(h: ∀c,c∈cs→Ck c){x:Int}(hx:(cs.map (·.2))[0]?=some x):0≤x∧x≤1114111:=by
 rw[List.getElem?_map,Option.map_eq_some_iff]at hx
 obtain⟨c,hc,rfl⟩:=hx
 have:=h c (List.mem_of_getElem? hc)
 exact⟨this.nn,this.top⟩
theorem fn_both_eq (f:Fun)(r:Rec)(hs:f.2.2.size≤9223372036854775807):F.fn_both 2 f r=some (if chk 2 f≠0 then chk 2 f else if okT r.2=true then 0 else 50):=by
 rw[F.fn_both]
 show(F.fn_Check 2 f).bind _=_
 rw[fn_Check_eq 2 f hs,Option.bind_some]
 by_cases h:chk 2 f=0
 ·rw[if_neg (fun h2=>h2 h),if_neg (fun h2=>h2 h)]
  show(F.rec_Check r).bind _=_
  rw[rec_Check_eq];rfl
 ·rw[if_pos h,if_pos h]
theorem R06_may_eq (f:Fun)(r:Rec)(hs:f.2.2.size≤5000):F.R06_may 2 f r=some (if chk 2 f≠0 then chk 2 f else if okT r.2=true then 0 else 50):=by
 rw[F.R06_may]
 show(F.R06_Check 2 f).bind _=_
 rw[R06_Check_eq 2 f hs,Option.bind_some]
 by_cases h:chk 2 f=0
 ·rw[if_neg (fun h2=>h2 h),if_neg (fun h2=>h2 h)]
  show(F.R05_Check r).bind _=_
  rw[R05_Check_eq];rfl
 ·rw[if_pos h,if_pos h]
theorem fn_Map_eq (f:Fun)(r:Rec)(hs:f.2.2.size≤9223372036854775807):F.fn_Map f r=some (mapP f r):=by
 rw[F.fn_Map]
 show(F.fn_both 2 f r).bind _=_
 rw[fn_both_eq f r hs,Option.bind_some]
 unfold mapP
 by_cases h:chk 2 f=0
 case neg=>rw[show(if chk 2 f≠0 then chk 2 f else if okT r.2=true then 0 else 50)=chk 2 f from if_pos h,if_pos h,if_pos h]
 rw[show(if chk 2 f≠0 then chk 2 f else if okT r.2=true then 0 else 50)=if okT r.2=true then 0 else 50 from if_neg (fun h2=>h2 h),if_neg (show ¬(chk 2 f≠0)from fun h2=>h2 h)]
 by_cases ho:okT r.2=true
 case neg=>rw[show(if okT r.2=true then(0:Int)else 50)=50 from if_neg ho,if_neg ho];rfl
 rw[show(if okT r.2=true then(0:Int)else 50)=0 from if_pos ho,if_pos ho,if_neg (show ¬((0:Int)≠0)from fun h2=>h2 rfl)]
 obtain⟨h64,hv⟩:=okT_iff.1 ho
 obtain⟨hf,hc⟩:=vld_cks hv
 have hfl:(flat (cks r.2.data.toList)).length=r.2.size:=by rw[hf,size_list]
 have hcl:=cks_len r.2
 rw[runes_F _ (by omega),Option.bind_some]
 unfold mapK
 by_cases e2:f.1=2
 ·rw[if_pos e2,if_pos e2,upper_F _ (by omega)];rfl
 rw[if_neg e2,if_neg e2]
 by_cases e3:f.1=3
 ·obtain⟨n1,n2⟩:=num_cut h e3
  have e:List.take (min (((cks r.2.data.toList).map (·.2)).length:Int) f.2.1).toNat ((cks r.2.data.toList).map (·.2))=((cks r.2.data.toList).take f.2.1.toNat).map (·.2):=by
   rw[List.map_take,List.length_map]
   by_cases hm:((cks r.2.data.toList).length:Int)≤f.2.1
   ·rw[Int.min_eq_left hm,Int.toNat_natCast,List.take_of_length_le (by rw[List.length_map];omega),List.take_of_length_le (by rw[List.length_map];omega)]
   ·rw[Int.min_eq_right (by omega)]
  have hsub:=flat_sub (cs:=cks r.2.data.toList) f.2.1.toNat
  rw[if_pos e3,if_pos e3,A.gd1 ⟨by omega,by rw[List.length_map];omega⟩,e,runes_mk fun c hcm=>hc c (List.mem_of_mem_take hcm),A.gd1 (by rw[mk_size];omega)]
  rfl
 rw[if_neg e3,if_neg e3]
 by_cases e4:f.1=4
 ·have hr:=flat_rev (cks r.2.data.toList)
  rw[if_pos e4,if_pos e4,Reverse_eq _ (by rw[List.length_map];omega),Option.bind_some,←List.map_reverse,runes_mk fun c hcm=>hc c (List.mem_reverse.1 hcm),A.gd1 (by rw[mk_size];omega)]
  rfl
 rw[if_neg e4,if_neg e4]
 by_cases e5:f.1=5
 ·obtain⟨n1,n2⟩:=txt_behind h e5
  have:=rec_Cut_eq (r.2++f.2.2) 64 (by rw[ByteArray.size_append];omega)
  rw[if_pos e5,if_pos e5,A.gd1 (by omega),show(64:Int)=((64:Nat):Int)from rfl,this]
  rfl
 rw[if_neg e5,if_neg e5]
 by_cases e6:f.1=6
 ·obtain⟨n1,n2⟩:=num_mod h e6
  rw[if_pos e6,if_pos e6,rest_eq n1 n2];rfl
 rw[if_neg e6,if_neg e6]
 by_cases e7:f.1=7
 ·rw[if_pos e7,if_pos e7,List.length_map];rfl
 rw[if_neg e7,if_neg e7]
 by_cases e8:f.1=8
 ·rw[if_pos e8,if_pos e8]
  cases hx:((cks r.2.data.toList).map (·.2))[0]? with
  |none=>
   have:((cks r.2.data.toList).map (·.2)).length=0:=by
    have:=List.getElem?_eq_none_iff.1 hx;omega
   rw[if_neg (by omega)];rfl
  |some x=>
   have hlt:=(List.getElem?_eq_some_iff.1 hx).1
   have hr:=rune_fits hc hx
   rw[if_pos (by omega),show A.ix ((cks r.2.data.toList).map (·.2)) 0=some x from A.ixn (k:=0) hx,Option.bind_some,A.gd1 ⟨by omega,by omega⟩];rfl
 rw[if_neg e8,if_neg e8];rfl
theorem R06_Map_eq (f:Fun)(r:Rec)(hs:f.2.2.size≤5000):F.R06_Map f r=some (mapP f r):=by
 rw[F.R06_Map]
 show(F.R06_may 2 f r).bind _=_
 rw[R06_may_eq f r hs,Option.bind_some]
 unfold mapP
 by_cases h:chk 2 f=0
 case neg=>rw[show(if chk 2 f≠0 then chk 2 f else if okT r.2=true then 0 else 50)=chk 2 f from if_pos h,if_pos h,if_pos h]
 rw[show(if chk 2 f≠0 then chk 2 f else if okT r.2=true then 0 else 50)=if okT r.2=true then 0 else 50 from if_neg (fun h2=>h2 h),if_neg (show ¬(chk 2 f≠0)from fun h2=>h2 h)]
 by_cases ho:okT r.2=true
 case neg=>rw[show(if okT r.2=true then(0:Int)else 50)=50 from if_neg ho,if_neg ho];rfl
 rw[show(if okT r.2=true then(0:Int)else 50)=0 from if_pos ho,if_pos ho,if_neg (show ¬((0:Int)≠0)from fun h2=>h2 rfl)]
 obtain⟨h64,hv⟩:=okT_iff.1 ho
 obtain⟨hf,hc⟩:=vld_cks hv
 have hfl:(flat (cks r.2.data.toList)).length=r.2.size:=by rw[hf,size_list]
 have hcl:=cks_len r.2
 rw[Runes_ats _ (by omega) hv,Option.bind_some]
 unfold mapK
 by_cases e2:f.1=2
 ·rw[if_pos e2,if_pos e2,R06_upper_eq _ (by omega)];rfl
 rw[if_neg e2,if_neg e2]
 by_cases e3:f.1=3
 ·obtain⟨n1,n2⟩:=num_cut h e3
  have ea:f.2.1=((f.2.1.toNat:Nat):Int):=by omega
  have hp:=part_eq hf (a:=0) (b:=f.2.1.toNat) (Nat.zero_le _)
  rw[←ea]at hp
  have hp':F.R06_part r.2 (ats 0 (cks r.2.data.toList)) 0 f.2.1=_:=hp
  rw[if_pos e3,if_pos e3,hp',Option.bind_some]
  have:r.2.extract (pos (cks r.2.data.toList) 0) (pos (cks r.2.data.toList) f.2.1.toNat)=⟨(flat ((cks r.2.data.toList).take f.2.1.toNat)).toArray⟩:=ba_eq (by rw[ext_flat hf,List.drop_zero])
  rw[this];rfl
 rw[if_neg e3,if_neg e3]
 by_cases e4:f.1=4
 ·rw[if_pos e4,if_pos e4,turn_eq _ (by omega) hv];rfl
 rw[if_neg e4,if_neg e4]
 by_cases e5:f.1=5
 ·obtain⟨n1,n2⟩:=txt_behind h e5
  have:=R05_Cut_eq (r.2++f.2.2) 64 (by rw[ByteArray.size_append];omega) (vld_app hv n2).1
  rw[if_pos e5,if_pos e5,A.gd1 (by omega),show(64:Int)=((64:Nat):Int)from rfl,this]
  rfl
 rw[if_neg e5,if_neg e5]
 by_cases e6:f.1=6
 ·obtain⟨n1,n2⟩:=num_mod h e6
  have t1:Int.tmod r.1 f.2.1<f.2.1:=Int.tmod_lt_of_pos _ (by omega)
  have t2: -f.2.1<Int.tmod r.1 f.2.1:=by
   have:=Int.tmod_lt_of_pos (-r.1) (show 0<f.2.1 by omega)
   rw[Int.neg_tmod]at this;omega
  rw[if_pos e6,if_pos e6,A.gd1 ⟨by omega,⟨by omega,by omega⟩,by omega⟩];rfl
 rw[if_neg e6,if_neg e6]
 by_cases e7:f.1=7
 ·rw[if_pos e7,if_pos e7,ats_len];rfl
 rw[if_neg e7,if_neg e7]
 by_cases e8:f.1=8
 ·rw[if_pos e8,if_pos e8]
  have hg:=ats_get (cks r.2.data.toList) 0 0
  cases hx:(cks r.2.data.toList)[0]? with
  |none=>
   have:(cks r.2.data.toList).length=0:=by
    have:=List.getElem?_eq_none_iff.1 hx;omega
   rw[if_neg (by rw[ats_len];omega),List.getElem?_map,hx];rfl
  |some x=>
   have hlt:=(List.getElem?_eq_some_iff.1 hx).1
   have hx2:((cks r.2.data.toList).map (·.2))[0]?=some x.2:=by rw[List.getElem?_map,hx];rfl
   have hr:=rune_fits hc hx2
   rw[hx]at hg
   rw[if_pos (by rw[ats_len];omega),show A.ix (ats 0 (cks r.2.data.toList)) 0=some _ from A.ixn (k:=0) hg,Option.bind_some,A.gd1 ⟨by show _≤x.2;omega,by show x.2≤_;omega⟩,hx2];rfl
 rw[if_neg e8,if_neg e8];rfl
theorem Ck.one {b:UInt8}(h:b.toNat<128):Ck ([b],(b.toNat:Int)):=by
 have hd:Lib.decodeL [b]=(b.toNat,1):=by
  rw[Lib.decodeL_N]
  unfold Lib.decodeN
  rw[if_pos (by simpa using h)];rfl
 have:=Ck.of (l:=[b]) (by simp) (by rw[hd];intro h2;have:=h2.1;simp only at this;omega)
 rw[hd]at this
 exact this
theorem Ck.kinds {c:Rn}(h:Ck c):(∃b:UInt8,b.toNat<128∧c=([b],(b.toNat:Int)))∨∀b,b∈c.1→128≤b.toNat:=by
 have hd:=h.dec []
 rw[List.append_nil]at hd
 have hok:=h.ok
 have hlen:=h.len
 rw[Lib.decodeL_N]at hd
 have k0:=(c.1.getD 0 0).toNat_lt
 rcases Lib.decodeN_shape c.1.length (c.1.getD 0 0).toNat (c.1.getD 1 0).toNat (c.1.getD 2 0).toNat (c.1.getD 3 0).toNat with⟨q,e⟩|⟨c1,c2,c3,cv,e⟩|⟨c1,c2,c3,c4,cv,cs,e⟩|⟨c1,c2,c3,c4,c5,cv,cw,e⟩|e
 ·left
  rw[e]at hd
  injection hd with h1 h2
  have hc1:=Lib.takeA c.1 (by omega)
  rw[List.take_of_length_le (by omega)]at hc1
  refine⟨c.1.getD 0 0,q,?_⟩
  have hnn:=h.nn
  refine Prod.ext hc1 ?_
  show c.2=_
  rw[h1];omega
 ·right
  rw[e]at hd
  injection hd with h1 h2
  have hc1:=Lib.takeB c.1 (by omega)
  rw[List.take_of_length_le (by omega)]at hc1
  intro b hb
  rw[hc1]at hb
  simp only[List.mem_cons,List.mem_nil_iff,or_false]at hb
  rcases hb with rfl|rfl<;>omega
 ·right
  rw[e]at hd
  injection hd with h1 h2
  have hc1:=Lib.takeC c.1 (by omega)
  rw[List.take_of_length_le (by omega)]at hc1
  intro b hb
  rw[hc1]at hb
  simp only[List.mem_cons,List.mem_nil_iff,or_false]at hb
  rcases hb with rfl|rfl|rfl<;>omega
 ·right
  rw[e]at hd
  injection hd with h1 h2
  have hc1:=Lib.takeD c.1 (by omega)
  rw[List.take_of_length_le (by omega)]at hc1
  intro b hb
  rw[hc1]at hb
  simp only[List.mem_cons,List.mem_nil_iff,or_false]at hb
  rcases hb with rfl|rfl|rfl|rfl<;>omega
 ·rw[e]at hd
  injection hd with h1 h2
  exact absurd ⟨h1.symm,h2.symm⟩ hok
theorem upB_lt {b:UInt8}(h:b.toNat<128):(upB b).toNat <128:=by
 unfold upB
 split
 ·rename_i h2
  have e:(UInt8.ofNat (b.toNat-32)).toNat=b.toNat-32:=by
   rw[UInt8.toNat_ofNat'];omega
  rw[e];omega
 ·exact h
theorem upB_ge {b:UInt8}(h:128≤b.toNat):upB b=b:=by unfold upB;rw[if_neg (by omega)]
theorem up_ck {cs:List Rn}(h: ∀c,c∈cs→Ck c): ∃cs',(∀c,c∈cs'→Ck c)∧flat cs'=(flat cs).map upB:=by
 induction cs with
 |nil=>exact⟨[],by simp,rfl⟩
 |cons c cs ih=>
  obtain⟨cs',h1,h2⟩:=ih fun x hx=>h x (List.mem_cons_of_mem _ hx)
  have hc:=h c (List.mem_cons_self ..)
  rcases Ck.kinds hc with⟨b,hb,rfl⟩|hb
  ·exact⟨([upB b],((upB b).toNat:Int))::cs',fun x hx=>(List.mem_cons.1 hx).elim (fun e=>e▸Ck.one (upB_lt hb)) (h1 x),by rw[flat_cons,flat_cons,h2];simp⟩
  ·refine⟨c::cs',fun x hx=>(List.mem_cons.1 hx).elim (fun e=>e▸hc) (h1 x),?_⟩
   rw[flat_cons,flat_cons,h2,List.map_append]
   congr 1
   refine((List.map_congr_left fun b hbm=>upB_ge (hb b hbm)).trans ?_).symm
   simp
theorem mapK_ok {f:Fun}{r:Rec}(h:chk 2 f=0)(ho:okT r.2=true):okT (mapK f r).2=true:=by
 obtain⟨h64,hv⟩:=okT_iff.1 ho
 obtain⟨hf,hc⟩:=vld_cks hv
 have hfl:(flat (cks r.2.data.toList)).length=r.2.size:=by rw[hf,size_list]
 unfold mapK
 by_cases e2:f.1=2
 ·rw[if_pos e2]
  obtain⟨cs',h1,h2⟩:=up_ck hc
  rw[hf]at h2
  refine okT_iff.2 ⟨?_,vld_of (cs:=cs') (by rw[h2];rfl) h1⟩
  show(upper r.2).size≤64
  unfold upper
  rw[mk_size,List.length_map,size_list];exact h64
 rw[if_neg e2]
 by_cases e3:f.1=3
 ·rw[if_pos e3]
  have hsub:=flat_sub (cs:=cks r.2.data.toList) f.2.1.toNat
  exact okT_iff.2 ⟨by show(ByteArray.mk _).size≤64;rw[mk_size];omega,vld_of (cs:=(cks r.2.data.toList).take f.2.1.toNat) rfl fun c hcm=>hc c (List.mem_of_mem_take hcm)⟩
 rw[if_neg e3]
 by_cases e4:f.1=4
 ·rw[if_pos e4]
  have hr:=flat_rev (cks r.2.data.toList)
  exact okT_iff.2 ⟨by show(ByteArray.mk _).size≤64;rw[mk_size];omega,vld_of (cs:=(cks r.2.data.toList).reverse) rfl fun c hcm=>hc c (List.mem_reverse.1 hcm)⟩
 rw[if_neg e4]
 by_cases e5:f.1=5
 ·rw[if_pos e5]
  obtain⟨n1,n2⟩:=txt_behind h e5
  obtain⟨v1,v2⟩:=vld_app hv n2
  obtain⟨g1,g2⟩:=vld_cks v1
  obtain⟨k,b1,b2⟩:=bd_pre 64 (cks (r.2++f.2.2).data.toList) 0 (Nat.zero_le _)
  have e:((r.2++f.2.2).extract 0 (bd 64 0 (cks (r.2++f.2.2).data.toList))).data.toList=flat ((cks (r.2++f.2.2).data.toList).take k):=by
   have:=ext_flat g1 0 k
   rw[List.drop_zero]at this
   rw[b1,Nat.zero_add]
   exact this
  refine okT_iff.2 ⟨?_,vld_of e fun c hcm=>g2 c (List.mem_of_mem_take hcm)⟩
  show((r.2++f.2.2).extract 0 _).size≤64
  rw[ByteArray.size_extract];omega
 rw[if_neg e5]
 by_cases e6:f.1=6
 ·rw[if_pos e6];exact ho
 rw[if_neg e6]
 by_cases e7:f.1=7
 ·rw[if_pos e7];exact ho
 rw[if_neg e7]
 by_cases e8:f.1=8
 ·rw[if_pos e8];exact ho
 rw[if_neg e8];exact ho
end Go.Proofs.YtfpemeeadiigcaaDoor
end
