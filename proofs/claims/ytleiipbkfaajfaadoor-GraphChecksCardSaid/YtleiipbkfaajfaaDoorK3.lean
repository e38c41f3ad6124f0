/- Functions on data, and that the code computes them. * Functions on data, and that the code computes them. * Functions on data, and that the code computes them. * Functions on data, and that the code computes them. * Functions on data, and that the code computes them. * Functions on data, and that the code computes them. * Functions on data, and that the code computes them. -/
import Derived.Test.YtleiipbkfaajfaaDoorK0
import Derived.Test.YtleiipbkfaajfaaDoorK1
import Derived.Test.YtleiipbkfaajfaaDoorK2
section
set_option linter.unusedVariables false
set_option linter.unusedSimpArgs false
set_option maxRecDepth 20000
set_option maxHeartbeats 8000000
set_option synthInstance.maxSize 1000000
set_option synthInstance.maxHeartbeats 400000
namespace Go.Proofs.YtleiipbkfaajfaaDoor
open Go.RowKit
def F.graph_Depth (a0 : D23) (a1 : Int) : Option (Int × Int) := (F.graph_whole a0).bind fun r2 => A.om r2.1 (if r2.2 ≠ 0 then (some (0, r2.2)) else (none)) fun p5 => (if r2.2 ≠ 0 then (some (0, r2.2)) else (A.lt (Z.mget (0 : Int) p5.2.2 a1) fun x12 => (if (!(Z.mhas p5.2.2 a1)) = true then (some (0, 4)) else (some (x12, 0)))))
theorem graph_Depth_ok (a0 : D23) (a1 : Int) (A0_ : Option Addr) (c1_ : Nat) (h2_ : IntKind.i64.has a1) (r : Int × Int) (hF : F.graph_Depth a0 a1 = some r) :
    A.Ct Tryd.prog 32 [.agg #[.slice A0_ ((a0).length) c1_], .int .i64 a1] [(0, .sh (.slice T39) [.slice A0_ (a0).length c1_] a0), (1, .el none 0 0 A.tabF), (2, .el none 1 0 A.tabA)] [] (fun v H' => v = .tuple #[.int .i64 r.1, .int .i64 r.2] ∧ H' = [] ∧ IntKind.i64.has r.1 ∧ IntKind.i64.has r.2) := by
  refine A.Ct.enter Tryd.func32 rfl Tryd.ntmps32 rfl fun w0 F0 => ?_
  rw [F.graph_Depth] at hF
  refine A.AX.sr ?_
  refine A.AL.box 3 (cs := [.slice A0_ ((a0).length) c1_]) fun g1 => ?_
  refine A.AL.q [] [] [.n, .n] [] [] [] trivial ?_
  refine A.AL.dn ?_
  refine A.AX.sr ?_
  refine A.AL.q [3] [] [.b 0 0] [11] [] [(11, .agg #[.slice A0_ ((a0).length) c1_])] trivial ?_
  obtain ⟨r2, hv3, hF⟩ := A.bd_some hF
  refine A.AL.call 4 [] (first := []) (cap := []) cf53 (graph_whole_ok a0 A0_ c1_ r2 hv3) (.s 0 (.s 1 (.s 2 .nil))) ?_
  rintro _ _ (⟨hp15, rfl, rfl, hr4⟩ | ⟨p5, hp15, g6, b7, A8, c9, b10, rfl, rfl, hr11⟩)
  · refine ⟨by kernel_rfl, ?_⟩
    rw [A.om_n hp15] at hF
    refine A.AL.q [] [] [.n, .n, .n, .n, .n] [6, 7] [] [(6, .pointer none), (7, .int .i64 r2.2)] trivial ?_
    refine A.AL.dn ?_
    refine A.AX.seq ?_
    refine A.AX.sr ?_
    refine A.AL.q [] [] [.n, .n] [16] [] [(16, .bool (decide (r2.2 ≠ 0)))] trivial ?_
    refine A.AL.dn ?_
    refine A.AX.cnd rfl hF (fun hb hF => ?_) (fun hb hF => ?_)
    · refine A.AX.sr ?_
      refine A.AL.q [] [] [.n, .n, .n] [4, 5] [] [(4, .int .i64 0), (5, .int .i64 r2.2)] trivial ?_
      refine A.AL.dn ?_
      obtain rfl := Option.some.inj hF
      exact A.AX.ret [] (.tuple #[.int .i64 0, .int .i64 r2.2]) (fun a w hf hh => Z.resv2 rfl (Z.rv_t hf rfl) (Z.rv_t hf rfl)) (⟨rfl, rfl, (A.hasl .i64 (0) rfl), hr4⟩)
    · refine A.AX.skip ?_
      refine A.AE.c ?_
      refine A.AX.sr ?_
      refine A.AL.q [] [] [.n] [19] [] [(19, .pointer none)] trivial ?_
      exact A.no0 hF
  · refine ⟨by kernel_rfl, ?_⟩
    rw [A.om_s hp15] at hF
    refine A.AL.q [] [] [.n, .n, .n, .n, .n] [6, 7] [] [(6, .pointer (some ⟨g6, 0, none⟩)), (7, .int .i64 r2.2)] trivial ?_
    refine A.AL.dn ?_
    refine A.AX.seq ?_
    refine A.AX.sr ?_
    refine A.AL.q [] [] [.n, .n] [16] [] [(16, .bool (decide (r2.2 ≠ 0)))] trivial ?_
    refine A.AL.dn ?_
    refine A.AX.cnd rfl hF (fun hb hF => ?_) (fun hb hF => ?_)
    · refine A.AX.sr ?_
      refine A.AL.q [] [] [.n, .n, .n] [4, 5] [] [(4, .int .i64 0), (5, .int .i64 r2.2)] trivial ?_
      refine A.AL.dn ?_
      obtain rfl := Option.some.inj hF
      exact A.AX.ret [] (.tuple #[.int .i64 0, .int .i64 r2.2]) (fun a w hf hh => Z.resv2 rfl (Z.rv_t hf rfl) (Z.rv_t hf rfl)) (⟨rfl, rfl, (A.hasl .i64 (0) rfl), hr11⟩)
    · refine A.AX.skip ?_
      refine A.AE.c ?_
      refine A.AX.sr ?_
      refine A.AL.q [4] [] [.n, .n, .n, .b 0 2, .n] [22, 23] [] [(22, .map (some b10)), (23, .int .i64 a1)] trivial ?_
      obtain ⟨x12, hv13, hF⟩ := A.lt_some hF
      refine A.AL.lk2 (t := (Z.Ty.int .i64)) 7 44 (z := (0 : Int)) (zs := [.int .i64 0]) ky3 a1 Tryd.zeroValue3 ⟨rfl, by decide⟩ hv13 fun ho14 => ?_
      refine A.AL.q [] [] [.n, .n, .n, .n, .n] [8, 9] [] [(8, .int .i64 x12), (9, .bool (Z.mhas p5.2.2 a1))] trivial ?_
      refine A.AL.dn ?_
      refine A.AX.seq ?_
      refine A.AX.sr ?_
      refine A.AL.q [] [] [.n, .n] [28] [] [(28, .bool (!(Z.mhas p5.2.2 a1)))] trivial ?_
      refine A.AL.dn ?_
      refine A.AX.cnb rfl hF (fun hb hF => ?_) (fun hb hF => ?_)
      · refine A.AX.sr ?_
        refine A.AL.q [] [] [.n, .n] [4, 5] [] [(4, .int .i64 0), (5, .int .i64 4)] trivial ?_
        refine A.AL.dn ?_
        obtain rfl := Option.some.inj hF
        exact A.AX.ret [] (.tuple #[.int .i64 0, .int .i64 4]) (fun a w hf hh => Z.resv2 rfl (Z.rv_t hf rfl) (Z.rv_t hf rfl)) (⟨rfl, rfl, (A.hasl .i64 (0) rfl), (A.hasl .i64 (4) rfl)⟩)
      · refine A.AX.skip ?_
        refine A.AE.c ?_
        refine A.AX.sr ?_
        refine A.AL.q [] [] [.n, .n, .n] [4, 5] [] [(4, .int .i64 x12), (5, .int .i64 0)] trivial ?_
        refine A.AL.dn ?_
        obtain rfl := Option.some.inj hF
        exact A.AX.ret [] (.tuple #[.int .i64 x12, .int .i64 0]) (fun a w hf hh => Z.resv2 rfl (Z.rv_t hf rfl) (Z.rv_t hf rfl)) (⟨rfl, rfl, ho14, (A.hasl .i64 (0) rfl)⟩)

def F.graph_Order (a0 : D23) : Option ((List Int) × Int) := (F.graph_whole a0).bind fun r2 => A.om r2.1 (if r2.2 ≠ 0 then (some ([], r2.2)) else (none)) fun p5 => (if r2.2 ≠ 0 then (some ([], r2.2)) else (some (p5.2.1, 0)))
theorem graph_Order_ok (a0 : D23) (A0_ : Option Addr) (c1_ : Nat) (r : (List Int) × Int) (hF : F.graph_Order a0 = some r) :
    A.Ct Tryd.prog 12 [.agg #[.slice A0_ ((a0).length) c1_]] [(0, .sh (.slice T39) [.slice A0_ (a0).length c1_] a0), (1, .el none 0 0 A.tabF), (2, .el none 1 0 A.tabA)] [] (fun v H' => ∃ (A0' : Option Addr) (c1' : Nat), v = .tuple #[.slice A0' ((r.1).length) c1', .int .i64 r.2] ∧ H' = [(0, .own (Z.Ty.int .i64) 3 A0' c1' r.1)] ∧ IntKind.i64.has r.2) := by
  refine A.Ct.enter Tryd.func12 rfl Tryd.ntmps12 rfl fun w0 F0 => ?_
  rw [F.graph_Order] at hF
  refine A.AX.sr ?_
  refine A.AL.box 3 (cs := [.slice A0_ ((a0).length) c1_]) fun g1 => ?_
  refine A.AL.q [] [] [.n, .n] [] [] [] trivial ?_
  refine A.AL.dn ?_
  refine A.AX.sr ?_
  refine A.AL.q [3] [] [.b 0 0] [7] [] [(7, .agg #[.slice A0_ ((a0).length) c1_])] trivial ?_
  obtain ⟨r2, hv3, hF⟩ := A.bd_some hF
  refine A.AL.call 4 [] (first := []) (cap := []) cf53 (graph_whole_ok a0 A0_ c1_ r2 hv3) (.s 0 (.s 1 (.s 2 .nil))) ?_
  rintro _ _ (⟨hp12, rfl, rfl, hr4⟩ | ⟨p5, hp12, g6, b7, A8, c9, b10, rfl, rfl, hr11⟩)
  · refine ⟨by kernel_rfl, ?_⟩
    rw [A.om_n hp12] at hF
    refine A.AL.q [] [] [.n, .n, .n, .n, .n] [4, 5] [] [(4, .pointer none), (5, .int .i64 r2.2)] trivial ?_
    refine A.AL.dn ?_
    refine A.AX.seq ?_
    refine A.AX.sr ?_
    refine A.AL.q [] [] [.n, .n] [12] [] [(12, .bool (decide (r2.2 ≠ 0)))] trivial ?_
    refine A.AL.dn ?_
    refine A.AX.cnd rfl hF (fun hb hF => ?_) (fun hb hF => ?_)
    · refine A.AX.sr ?_
      refine A.AL.q [] [] [.n, .n, .n] [2, 3] [] [(2, .slice none 0 0), (3, .int .i64 r2.2)] trivial ?_
      refine A.AL.dn ?_
      obtain rfl := Option.some.inj hF
      refine A.nil 44 (Z.Ty.int .i64) 3 ?_
      exact A.AX.ret [(0, 44)] (.tuple #[.slice none 0 0, .int .i64 r2.2]) (fun a w hf hh => Z.resv2 rfl (Z.rv_t hf rfl) (Z.rv_t hf rfl)) (⟨none, 0, rfl, rfl, hr4⟩)
    · refine A.AX.skip ?_
      refine A.AE.c ?_
      refine A.AX.sr ?_
      refine A.AL.q [] [] [.n] [14] [] [(14, .pointer none)] trivial ?_
      exact A.no0 hF
  · refine ⟨by kernel_rfl, ?_⟩
    rw [A.om_s hp12] at hF
    refine A.AL.q [] [] [.n, .n, .n, .n, .n] [4, 5] [] [(4, .pointer (some ⟨g6, 0, none⟩)), (5, .int .i64 r2.2)] trivial ?_
    refine A.AL.dn ?_
    refine A.AX.seq ?_
    refine A.AX.sr ?_
    refine A.AL.q [] [] [.n, .n] [12] [] [(12, .bool (decide (r2.2 ≠ 0)))] trivial ?_
    refine A.AL.dn ?_
    refine A.AX.cnd rfl hF (fun hb hF => ?_) (fun hb hF => ?_)
    · refine A.AX.sr ?_
      refine A.AL.q [] [] [.n, .n, .n] [2, 3] [] [(2, .slice none 0 0), (3, .int .i64 r2.2)] trivial ?_
      refine A.AL.dn ?_
      obtain rfl := Option.some.inj hF
      refine A.nil 45 (Z.Ty.int .i64) 3 ?_
      exact A.AX.ret [(0, 45)] (.tuple #[.slice none 0 0, .int .i64 r2.2]) (fun a w hf hh => Z.resv2 rfl (Z.rv_t hf rfl) (Z.rv_t hf rfl)) (⟨none, 0, rfl, rfl, hr11⟩)
    · refine A.AX.skip ?_
      refine A.AE.c ?_
      refine A.AX.sr ?_
      refine A.AL.q [4] [] [.n, .n, .n, .b 0 1, .n, .n] [2, 3] [] [(2, .slice A8 ((p5.2.1).length) c9), (3, .int .i64 0)] trivial ?_
      refine A.AL.dn ?_
      obtain rfl := Option.some.inj hF
      exact A.AX.ret [(0, 6)] (.tuple #[.slice A8 ((p5.2.1).length) c9, .int .i64 0]) (fun a w hf hh => Z.resv2 rfl (Z.rv_t hf rfl) (Z.rv_t hf rfl)) (⟨A8, c9, rfl, rfl, (A.hasl .i64 (0) rfl)⟩)

def F.graph_Check (a0 : D23) : Option Int := (F.graph_whole a0).bind fun r2 => A.om r2.1 (some r2.2) fun p5 => (some r2.2)
theorem graph_Check_ok (a0 : D23) (A0_ : Option Addr) (c1_ : Nat) (r : Int) (hF : F.graph_Check a0 = some r) :
    A.Ct Tryd.prog 14 [.agg #[.slice A0_ ((a0).length) c1_]] [(0, .sh (.slice T39) [.slice A0_ (a0).length c1_] a0), (1, .el none 0 0 A.tabF), (2, .el none 1 0 A.tabA)] [] (fun v H' => v = .int .i64 r ∧ H' = [] ∧ IntKind.i64.has r) := by
  refine A.Ct.enter Tryd.func14 rfl Tryd.ntmps14 rfl fun w0 F0 => ?_
  rw [F.graph_Check] at hF
  refine A.AX.sr ?_
  refine A.AL.box 3 (cs := [.slice A0_ ((a0).length) c1_]) fun g1 => ?_
  refine A.AL.q [] [] [.n] [] [] [] trivial ?_
  refine A.AL.dn ?_
  refine A.AX.sr ?_
  refine A.AL.q [3] [] [.b 0 0] [6] [] [(6, .agg #[.slice A0_ ((a0).length) c1_])] trivial ?_
  obtain ⟨r2, hv3, hF⟩ := A.bd_some hF
  refine A.AL.call 4 [] (first := []) (cap := []) cf53 (graph_whole_ok a0 A0_ c1_ r2 hv3) (.s 0 (.s 1 (.s 2 .nil))) ?_
  rintro _ _ (⟨hp12, rfl, rfl, hr4⟩ | ⟨p5, hp12, g6, b7, A8, c9, b10, rfl, rfl, hr11⟩)
  · refine ⟨by kernel_rfl, ?_⟩
    rw [A.om_n hp12] at hF
    refine A.AL.q [] [] [.n, .n, .n, .n, .n] [4] [] [(4, .int .i64 r2.2)] trivial ?_
    refine A.AL.dn ?_
    refine A.AX.sr ?_
    refine A.AL.q [] [] [.n, .n] [2] [] [(2, .int .i64 r2.2)] trivial ?_
    refine A.AL.dn ?_
    obtain rfl := Option.some.inj hF
    exact A.AX.ret [] (.int .i64 r2.2) (fun a w hf hh => Z.resv1 rfl (Z.rv_t hf rfl)) (⟨rfl, rfl, hr4⟩)
  · refine ⟨by kernel_rfl, ?_⟩
    rw [A.om_s hp12] at hF
    refine A.AL.q [] [] [.n, .n, .n, .n, .n] [4] [] [(4, .int .i64 r2.2)] trivial ?_
    refine A.AL.dn ?_
    refine A.AX.sr ?_
    refine A.AL.q [] [] [.n, .n] [2] [] [(2, .int .i64 r2.2)] trivial ?_
    refine A.AL.dn ?_
    obtain rfl := Option.some.inj hF
    exact A.AX.ret [] (.int .i64 r2.2) (fun a w hf hh => Z.resv1 rfl (Z.rv_t hf rfl)) (⟨rfl, rfl, hr11⟩)

def F.slices_Equal_int_int_l1 (a0 : (List Int)) (a1 : (List Int)) : Nat → Int → Option Bool
  | 0, _ => none
  | f + 1, y1 => if y1 < ((a0).length : Int) then ((A.ix a0 y1).bind fun x4 => ((A.ix a1 y1).bind fun x10 => (if x4 ≠ x10 then (some false) else (A.gd (Z.R64 (y1 + 1)) ((F.slices_Equal_int_int_l1 a0 a1 f) (y1 + 1)))))) else (some true)
def F.slices_Equal_int_int (a0 : (List Int)) (a1 : (List Int)) : Option Bool := if ((a0).length : Int) ≠ ((a1).length : Int) then (some false) else (F.slices_Equal_int_int_l1 a0 a1 A.FU 0)
theorem slices_Equal_int_int_ok (a0 : (List Int)) (a1 : (List Int)) (A0_ : Option Addr) (c1_ : Nat) (A2_ : Option Addr) (c3_ : Nat) (r : Bool) (hF : F.slices_Equal_int_int a0 a1 = some r) :
    A.Ct Tryd.prog 16 [.slice A0_ ((a0).length) c1_, .slice A2_ ((a1).length) c3_] [(0, .ln (Z.Ty.int .i64) A0_ c1_ a0), (1, .ln (Z.Ty.int .i64) A2_ c3_ a1)] [] (fun v H' => v = .bool r ∧ H' = []) := by
  refine A.Ct.enter Tryd.func16 rfl Tryd.ntmps16 rfl fun w0 F0 => ?_
  rw [F.slices_Equal_int_int] at hF
  refine A.AX.sr ?_
  refine A.AL.q [] [] [.n] [] [] [] trivial ?_
  refine A.AL.dn ?_
  refine A.AX.seq ?_
  refine A.AX.sr ?_
  refine A.AL.q [] [] [.n, .n, .n, .n, .n] [10] [] [(10, .bool (decide (((a0).length : Int) ≠ ((a1).length : Int))))] trivial ?_
  refine A.AL.dn ?_
  refine A.AX.cnd rfl hF (fun hb hF => ?_) (fun hb hF => ?_)
  · refine A.AX.sr ?_
    refine A.AL.q [] [] [.n] [4] [] [(4, .bool false)] trivial ?_
    refine A.AL.dn ?_
    obtain rfl := Option.some.inj hF
    exact A.AX.ret [] (.bool false) (fun a w hf hh => Z.resv1 rfl (Z.rv_t hf rfl)) (⟨rfl, rfl⟩)
  · refine A.AX.skip ?_
    refine A.AE.c ?_
    refine A.AX.seq ?_
    refine A.AX.sr ?_
    refine A.AL.q [] [] [.n, .n, .n] [12, 13] [] [(12, .int .i64 ((a0).length : Int)), (13, .int .i64 0)] trivial ?_
    refine A.AL.dn ?_
    refine A.AX.block ?_
    refine A.AX.loop [0, 1, 12] [0, 1] [0, 1] (fun f nl nh => ∃ (y1 : Int), nl = [(13, .int .i64 y1)] ∧ nh = [] ∧ IntKind.i64.has y1 ∧ F.slices_Equal_int_int_l1 a0 a1 f y1 = some r) A.FU [(13, .int .i64 0)] [] ⟨0, rfl, rfl, (A.hasl .i64 (0) rfl), hF⟩ ?_
    rintro f3 _ _ ⟨y1, rfl, rfl, hy2, hF⟩
    cases f3 with
    | zero => exact A.no0 hF
    | succ f3 =>
      rw [F.slices_Equal_int_int_l1] at hF
      refine A.AX.sr ?_
      refine A.AL.q [] [] [.n] [14] [] [(14, .bool (decide (y1 < ((a0).length : Int))))] trivial ?_
      refine A.AL.dn ?_
      refine A.AX.seq ?_
      refine A.AX.cnd rfl hF (fun hb hF => ?_) (fun hb hF => ?_)
      · refine A.AX.skip ?_
        refine A.AE.c ?_
        refine A.AX.seq ?_
        refine A.AX.block ?_
        refine A.AX.sr ?_
        refine A.AL.q [] [] [.n, .n] [5] [] [(5, .int .i64 y1)] trivial ?_
        refine A.AL.dn ?_
        refine A.AX.seq ?_
        refine A.AX.dr mixed 9 9 [false, false, false, false, false, false, false, false, false] ?_
        refine A.AH.q (A.pk_kont (Z.Pq.body _ _ _)) [] [0, 1] [] [] [true, true, false, false, true, true, false, false, false] 5 [(0, .n), (1, .n), (4, .n), (5, .n)] [16, 17, 20, 21] [] [(16, .slice A0_ ((a0).length) c1_), (17, .int .i64 y1), (20, .slice A2_ ((a1).length) c3_), (21, .int .i64 y1)] trivial ?_
        obtain ⟨x4, hv5, hF⟩ := A.bd_some hF
        refine A.AH.pkl 0 6 hv5 fun ho6 => ?_
        intro b8 o9 hA7
        refine A.AH.v (A.pk_kont (Z.Pq.body _ _ _)) [0, 1] [0, 1, 6] 2 [true, true, true, false, true, true, false, false, false] rfl (fun a w hf hh => A.r_ixa (t := (Z.Ty.int .i64)) hv5 hA7 hf) ?_
        refine A.AH.q (A.pk_kont (Z.Pq.body _ _ _)) [0, 1, 6] [0, 1, 6] [] [6] [true, true, true, true, true, true, false, false, false] 3 [(3, .e 0 0)] [19] [] [(19, .int .i64 x4)] trivial ?_
        obtain ⟨x10, hv11, hF⟩ := A.bd_some hF
        refine A.AH.pkl 1 7 hv11 fun ho12 => ?_
        intro b14 o15 hA13
        refine A.AH.v (A.pk_kont (Z.Pq.body _ _ _)) [0, 1, 6] [0, 1, 6, 7] 6 [true, true, true, true, true, true, true, false, false] rfl (fun a w hf hh => A.r_ixa (t := (Z.Ty.int .i64)) hv11 hA13 hf) ?_
        refine A.AH.q (A.pk_kont (Z.Pq.body _ _ _)) [0, 1, 6, 7] [0, 1, 6, 7] [] [7] [true, true, true, true, true, true, true, true, true] 0 [(7, .e 0 0), (8, .n)] [24] [] [(24, .bool (decide (x4 ≠ x10)))] trivial ?_
        refine A.AH.done ?_
        refine A.AE.c ?_
        refine A.AX.cnd rfl hF (fun hb hF => ?_) (fun hb hF => ?_)
        · refine A.AX.sr ?_
          refine A.AL.q [] [] [.n] [4] [] [(4, .bool false)] trivial ?_
          refine A.AL.dn ?_
          obtain rfl := Option.some.inj hF
          exact A.AX.ret [] (.bool false) (fun a w hf hh => Z.resv1 rfl (Z.rv_t hf rfl)) (⟨rfl, rfl⟩)
        · refine A.AX.skip ?_
          refine A.AE.b ?_
          refine A.AE.c ?_
          refine A.AX.reg ?_
          obtain ⟨hc16, hF⟩ := A.gd_some hF
          refine A.AL.q [] [] [.n, .n] [13] [Z.R64 (y1 + 1)] [(13, .int .i64 (y1 + 1))] hc16 ?_
          refine A.AL.done ?_
          exact A.AE.j [0, 1] [(13, .int .i64 (y1 + 1))] [] ⟨_, Nat.lt_succ_self _, ⟨(y1 + 1), rfl, rfl, (Z.i64_has hc16), hF⟩⟩
      · refine A.AX.exit rfl ?_
        refine A.AE.c ?_
        refine A.AX.sr ?_
        refine A.AL.q [] [] [.n] [4] [] [(4, .bool true)] trivial ?_
        refine A.AL.dn ?_
        obtain rfl := Option.some.inj hF
        exact A.AX.ret [] (.bool true) (fun a w hf hh => Z.resv1 rfl (Z.rv_t hf rfl)) (⟨rfl, rfl⟩)

def F.L08_loop (a0 : Int) : Option D23 := some [(1, 1, [], (0, 0, ByteArray.mk #[]), ByteArray.mk #[97], 0, 0), (2, 12, [1], (0, 0, ByteArray.mk #[]), ByteArray.mk #[], 0, 0), (3, 14, [a0], (0, 0, ByteArray.mk #[]), ByteArray.mk #[], 3, 1), (4, 5, [2, 3], (0, 0, ByteArray.mk #[]), ByteArray.mk #[], 0, 0), (5, 2, [4], (1, 0, ByteArray.mk #[]), ByteArray.mk #[], 0, 0), (6, 13, [5], (0, 0, ByteArray.mk #[]), ByteArray.mk #[], 0, 0), (7, 15, [6], (0, 0, ByteArray.mk #[]), ByteArray.mk #[98], 0, 0), (8, 12, [6], (0, 0, ByteArray.mk #[]), ByteArray.mk #[], 0, 0)]
theorem L08_loop_ok (a0 : Int) (h0_ : IntKind.i64.has a0) (r : D23) (hF : F.L08_loop a0 = some r) :
    A.Ct Tryd.prog 52 [.int .i64 a0] [] [] (fun v H' => ∃ (A0' : Option Addr) (c1' : Nat), v = .agg #[.slice A0' ((r).length) c1'] ∧ H' = [(0, .sh (.slice T39) [.slice A0' (r).length c1'] r)]) := by
  refine A.Ct.enter Tryd.func52 rfl Tryd.ntmps52 rfl fun w0 F0 => ?_
  rw [F.L08_loop] at hF
  refine A.AX.sr ?_
  refine A.AL.alloc 0 (cs := [.slice none 0 0]) Tryd.zeroValue24 fun g1 => ?_
  refine A.AL.dn ?_
  refine A.AX.sr ?_
  refine A.AL.q [] [] [.n] [3] [] [(3, .agg #[.int .i64 1, .int .i64 1, .slice none 0 0, .int .i64 0, .int .i64 0, .string (ByteArray.mk #[]), .string (ByteArray.mk #[97]), .int .i64 0, .int .i64 0])] trivial ?_
  refine A.AL.bsl 1 (ty := (Z.Ty.int .i64)) (cs := [.int .i64 1]) [1] ⟨⟨rfl, (A.hasl .i64 (1) rfl)⟩, rfl⟩ (fun g2 => ?_) Tryd.zeroValue3 Tryd.sizeOf3
  refine A.AL.q [] [] [.n, .n] [5, 6] [] [(5, .agg #[.int .i64 2, .int .i64 12, .slice (some ⟨g2, 0, none⟩) 1 1, .int .i64 0, .int .i64 0, .string (ByteArray.mk #[]), .string (ByteArray.mk #[]), .int .i64 0, .int .i64 0]), (6, .int .i64 a0)] trivial ?_
  refine A.AL.bsl 2 (ty := (Z.Ty.int .i64)) (cs := [.int .i64 a0]) [a0] ⟨⟨rfl, h0_⟩, rfl⟩ (fun g3 => ?_) Tryd.zeroValue3 Tryd.sizeOf3
  refine A.AL.q [] [] [.n] [8] [] [(8, .agg #[.int .i64 3, .int .i64 14, .slice (some ⟨g3, 0, none⟩) 1 1, .int .i64 0, .int .i64 0, .string (ByteArray.mk #[]), .string (ByteArray.mk #[]), .int .i64 3, .int .i64 1])] trivial ?_
  refine A.AL.bsl 3 (ty := (Z.Ty.int .i64)) (cs := [.int .i64 2, .int .i64 3]) [2, 3] ⟨⟨rfl, (A.hasl .i64 (2) rfl)⟩, ⟨⟨rfl, (A.hasl .i64 (3) rfl)⟩, rfl⟩⟩ (fun g4 => ?_) Tryd.zeroValue3 Tryd.sizeOf3
  refine A.AL.q [] [] [.n] [10] [] [(10, .agg #[.int .i64 4, .int .i64 5, .slice (some ⟨g4, 0, none⟩) 2 2, .int .i64 0, .int .i64 0, .string (ByteArray.mk #[]), .string (ByteArray.mk #[]), .int .i64 0, .int .i64 0])] trivial ?_
  refine A.AL.bsl 4 (ty := (Z.Ty.int .i64)) (cs := [.int .i64 4]) [4] ⟨⟨rfl, (A.hasl .i64 (4) rfl)⟩, rfl⟩ (fun g5 => ?_) Tryd.zeroValue3 Tryd.sizeOf3
  refine A.AL.q [] [] [.n, .n] [13] [] [(13, .agg #[.int .i64 5, .int .i64 2, .slice (some ⟨g5, 0, none⟩) 1 1, .int .i64 1, .int .i64 0, .string (ByteArray.mk #[]), .string (ByteArray.mk #[]), .int .i64 0, .int .i64 0])] trivial ?_
  refine A.AL.bsl 5 (ty := (Z.Ty.int .i64)) (cs := [.int .i64 5]) [5] ⟨⟨rfl, (A.hasl .i64 (5) rfl)⟩, rfl⟩ (fun g6 => ?_) Tryd.zeroValue3 Tryd.sizeOf3
  refine A.AL.q [] [] [.n] [15] [] [(15, .agg #[.int .i64 6, .int .i64 13, .slice (some ⟨g6, 0, none⟩) 1 1, .int .i64 0, .int .i64 0, .string (ByteArray.mk #[]), .string (ByteArray.mk #[]), .int .i64 0, .int .i64 0])] trivial ?_
  refine A.AL.bsl 6 (ty := (Z.Ty.int .i64)) (cs := [.int .i64 6]) [6] ⟨⟨rfl, (A.hasl .i64 (6) rfl)⟩, rfl⟩ (fun g7 => ?_) Tryd.zeroValue3 Tryd.sizeOf3
  refine A.AL.q [] [] [.n] [17] [] [(17, .agg #[.int .i64 7, .int .i64 15, .slice (some ⟨g7, 0, none⟩) 1 1, .int .i64 0, .int .i64 0, .string (ByteArray.mk #[]), .string (ByteArray.mk #[98]), .int .i64 0, .int .i64 0])] trivial ?_
  refine A.AL.bsl 7 (ty := (Z.Ty.int .i64)) (cs := [.int .i64 6]) [6] ⟨⟨rfl, (A.hasl .i64 (6) rfl)⟩, rfl⟩ (fun g8 => ?_) Tryd.zeroValue3 Tryd.sizeOf3
  refine A.AL.q [] [] [.n] [19] [] [(19, .agg #[.int .i64 8, .int .i64 12, .slice (some ⟨g8, 0, none⟩) 1 1, .int .i64 0, .int .i64 0, .string (ByteArray.mk #[]), .string (ByteArray.mk #[]), .int .i64 0, .int .i64 0])] trivial ?_
  refine A.frz 1 [] ?_
  refine A.frz 2 [] ?_
  refine A.frz 3 [] ?_
  refine A.frz 4 [] ?_
  refine A.frz 5 [] ?_
  refine A.frz 6 [] ?_
  refine A.frz 7 [] ?_
  refine A.AL.bsl 8 (ty := T39) (cs := [.int .i64 1, .int .i64 1, .slice none 0 0, .int .i64 0, .int .i64 0, .string (ByteArray.mk #[]), .string (ByteArray.mk #[97]), .int .i64 0, .int .i64 0, .int .i64 2, .int .i64 12, .slice (some ⟨g2, 0, none⟩) 1 1, .int .i64 0, .int .i64 0, .string (ByteArray.mk #[]), .string (ByteArray.mk #[]), .int .i64 0, .int .i64 0, .int .i64 3, .int .i64 14, .slice (some ⟨g3, 0, none⟩) 1 1, .int .i64 0, .int .i64 0, .string (ByteArray.mk #[]), .string (ByteArray.mk #[]), .int .i64 3, .int .i64 1, .int .i64 4, .int .i64 5, .slice (some ⟨g4, 0, none⟩) 2 2, .int .i64 0, .int .i64 0, .string (ByteArray.mk #[]), .string (ByteArray.mk #[]), .int .i64 0, .int .i64 0, .int .i64 5, .int .i64 2, .slice (some ⟨g5, 0, none⟩) 1 1, .int .i64 1, .int .i64 0, .string (ByteArray.mk #[]), .string (ByteArray.mk #[]), .int .i64 0, .int .i64 0, .int .i64 6, .int .i64 13, .slice (some ⟨g6, 0, none⟩) 1 1, .int .i64 0, .int .i64 0, .string (ByteArray.mk #[]), .string (ByteArray.mk #[]), .int .i64 0, .int .i64 0, .int .i64 7, .int .i64 15, .slice (some ⟨g7, 0, none⟩) 1 1, .int .i64 0, .int .i64 0, .string (ByteArray.mk #[]), .string (ByteArray.mk #[98]), .int .i64 0, .int .i64 0, .int .i64 8, .int .i64 12, .slice (some ⟨g8, 0, none⟩) 1 1, .int .i64 0, .int .i64 0, .string (ByteArray.mk #[]), .string (ByteArray.mk #[]), .int .i64 0, .int .i64 0]) [(1, 1, [], (0, 0, ByteArray.mk #[]), ByteArray.mk #[97], 0, 0), (2, 12, [1], (0, 0, ByteArray.mk #[]), ByteArray.mk #[], 0, 0), (3, 14, [a0], (0, 0, ByteArray.mk #[]), ByteArray.mk #[], 3, 1), (4, 5, [2, 3], (0, 0, ByteArray.mk #[]), ByteArray.mk #[], 0, 0), (5, 2, [4], (1, 0, ByteArray.mk #[]), ByteArray.mk #[], 0, 0), (6, 13, [5], (0, 0, ByteArray.mk #[]), ByteArray.mk #[], 0, 0), (7, 15, [6], (0, 0, ByteArray.mk #[]), ByteArray.mk #[98], 0, 0), (8, 12, [6], (0, 0, ByteArray.mk #[]), ByteArray.mk #[], 0, 0)] ⟨⟨⟨rfl, (A.hasl .i64 (1) rfl)⟩, ⟨rfl, (A.hasl .i64 (1) rfl)⟩, .inr ⟨rfl, rfl⟩, ⟨⟨rfl, (A.hasl .i64 (0) rfl)⟩, ⟨rfl, (A.hasl .i64 (0) rfl)⟩, ⟨rfl, (A.szl (ByteArray.mk #[]) rfl)⟩⟩, ⟨rfl, (A.szl (ByteArray.mk #[97]) rfl)⟩, ⟨rfl, (A.hasl .i64 (0) rfl)⟩, ⟨rfl, (A.hasl .i64 (0) rfl)⟩⟩, ⟨⟨⟨rfl, (A.hasl .i64 (2) rfl)⟩, ⟨rfl, (A.hasl .i64 (12) rfl)⟩, .inl ⟨1, rfl⟩, ⟨⟨rfl, (A.hasl .i64 (0) rfl)⟩, ⟨rfl, (A.hasl .i64 (0) rfl)⟩, ⟨rfl, (A.szl (ByteArray.mk #[]) rfl)⟩⟩, ⟨rfl, (A.szl (ByteArray.mk #[]) rfl)⟩, ⟨rfl, (A.hasl .i64 (0) rfl)⟩, ⟨rfl, (A.hasl .i64 (0) rfl)⟩⟩, ⟨⟨⟨rfl, (A.hasl .i64 (3) rfl)⟩, ⟨rfl, (A.hasl .i64 (14) rfl)⟩, .inl ⟨2, rfl⟩, ⟨⟨rfl, (A.hasl .i64 (0) rfl)⟩, ⟨rfl, (A.hasl .i64 (0) rfl)⟩, ⟨rfl, (A.szl (ByteArray.mk #[]) rfl)⟩⟩, ⟨rfl, (A.szl (ByteArray.mk #[]) rfl)⟩, ⟨rfl, (A.hasl .i64 (3) rfl)⟩, ⟨rfl, (A.hasl .i64 (1) rfl)⟩⟩, ⟨⟨⟨rfl, (A.hasl .i64 (4) rfl)⟩, ⟨rfl, (A.hasl .i64 (5) rfl)⟩, .inl ⟨3, rfl⟩, ⟨⟨rfl, (A.hasl .i64 (0) rfl)⟩, ⟨rfl, (A.hasl .i64 (0) rfl)⟩, ⟨rfl, (A.szl (ByteArray.mk #[]) rfl)⟩⟩, ⟨rfl, (A.szl (ByteArray.mk #[]) rfl)⟩, ⟨rfl, (A.hasl .i64 (0) rfl)⟩, ⟨rfl, (A.hasl .i64 (0) rfl)⟩⟩, ⟨⟨⟨rfl, (A.hasl .i64 (5) rfl)⟩, ⟨rfl, (A.hasl .i64 (2) rfl)⟩, .inl ⟨4, rfl⟩, ⟨⟨rfl, (A.hasl .i64 (1) rfl)⟩, ⟨rfl, (A.hasl .i64 (0) rfl)⟩, ⟨rfl, (A.szl (ByteArray.mk #[]) rfl)⟩⟩, ⟨rfl, (A.szl (ByteArray.mk #[]) rfl)⟩, ⟨rfl, (A.hasl .i64 (0) rfl)⟩, ⟨rfl, (A.hasl .i64 (0) rfl)⟩⟩, ⟨⟨⟨rfl, (A.hasl .i64 (6) rfl)⟩, ⟨rfl, (A.hasl .i64 (13) rfl)⟩, .inl ⟨5, rfl⟩, ⟨⟨rfl, (A.hasl .i64 (0) rfl)⟩, ⟨rfl, (A.hasl .i64 (0) rfl)⟩, ⟨rfl, (A.szl (ByteArray.mk #[]) rfl)⟩⟩, ⟨rfl, (A.szl (ByteArray.mk #[]) rfl)⟩, ⟨rfl, (A.hasl .i64 (0) rfl)⟩, ⟨rfl, (A.hasl .i64 (0) rfl)⟩⟩, ⟨⟨⟨rfl, (A.hasl .i64 (7) rfl)⟩, ⟨rfl, (A.hasl .i64 (15) rfl)⟩, .inl ⟨6, rfl⟩, ⟨⟨rfl, (A.hasl .i64 (0) rfl)⟩, ⟨rfl, (A.hasl .i64 (0) rfl)⟩, ⟨rfl, (A.szl (ByteArray.mk #[]) rfl)⟩⟩, ⟨rfl, (A.szl (ByteArray.mk #[98]) rfl)⟩, ⟨rfl, (A.hasl .i64 (0) rfl)⟩, ⟨rfl, (A.hasl .i64 (0) rfl)⟩⟩, ⟨⟨⟨rfl, (A.hasl .i64 (8) rfl)⟩, ⟨rfl, (A.hasl .i64 (12) rfl)⟩, .inl ⟨7, rfl⟩, ⟨⟨rfl, (A.hasl .i64 (0) rfl)⟩, ⟨rfl, (A.hasl .i64 (0) rfl)⟩, ⟨rfl, (A.szl (ByteArray.mk #[]) rfl)⟩⟩, ⟨rfl, (A.szl (ByteArray.mk #[]) rfl)⟩, ⟨rfl, (A.hasl .i64 (0) rfl)⟩, ⟨rfl, (A.hasl .i64 (0) rfl)⟩⟩, rfl⟩⟩⟩⟩⟩⟩⟩⟩ (fun g9 => ?_) Tryd.zeroValue40 Tryd.sizeOf40
  refine A.AL.q [] [] [.n] [21] [] [(21, .agg #[.slice (some ⟨g9, 0, none⟩) 8 8])] trivial ?_
  refine A.AL.store 0 [] (new := [.slice (some ⟨g9, 0, none⟩) 8 8]) (cs' := [.slice (some ⟨g9, 0, none⟩) 8 8]) ?_
  refine A.AL.dn ?_
  obtain rfl := Option.some.inj hF
  refine A.frz 8 [] ?_
  exact A.AX.ret [(0, 8)] (.agg #[.slice (some ⟨g9, 0, none⟩) 8 8]) (fun a w hf hh => Z.resv1 rfl (Z.rv_n hf rfl Tryd.isAgg24 Tryd.sizeOf24 (A.Hp.blk hh 0) rfl)) (⟨(some ⟨g9, 0, none⟩), 8, rfl, rfl⟩)

def F.L08_begun_j1 (y18 : Bool) : Option Bool := some y18
def F.L08_begun  : Option Bool := (F.L08_loop 5).bind fun r1 => ((F.graph_Depth r1 4).bind fun r5 => ((F.L08_loop 5).bind fun r9 => ((F.graph_Order r9).bind fun r13 => (if (bif bif decide (r5.2 = 0) then decide (r5.1 = 1) else false then decide (r13.2 = 0) else false) = true then ((F.slices_Equal_int_int r13.1 [1, 2, 3, 4, 5, 6, 7, 8]).bind fun r20 => (if r20 = true then ((F.L08_loop 8).bind fun r22 => ((F.graph_Check r22).bind fun r26 => (F.L08_begun_j1 (decide (r26 = 81))))) else (F.L08_begun_j1 false))) else (F.L08_begun_j1 false)))))
theorem L08_begun_ok  (r : Bool) (hF : F.L08_begun = some r) :
    A.Ct Tryd.prog 10 [] [(0, .el none 0 0 A.tabF), (1, .el none 1 0 A.tabA)] [] (fun v H' => v = .bool r ∧ H' = []) := by
  refine A.Ct.enter Tryd.func10 rfl Tryd.ntmps10 rfl fun w0 F0 => ?_
  rw [F.L08_begun] at hF
  refine A.AX.sr ?_
  refine A.AL.q [] [] [.n] [] [] [] trivial ?_
  refine A.AL.dn ?_
  refine A.AX.sr ?_
  obtain ⟨r1, hv2, hF⟩ := A.bd_some hF
  refine A.AL.call 2 [] (first := []) (cap := []) cf52 (L08_loop_ok 5 (A.hasl .i64 (5) rfl) r1 hv2) .nil ?_
  rintro _ _ ⟨A3, c4, rfl, rfl⟩
  refine ⟨by kernel_rfl, ?_⟩
  obtain ⟨r5, hv6, hF⟩ := A.bd_some hF
  refine A.AL.call 42 [] (first := []) (cap := []) cf32 (graph_Depth_ok r1 4 A3 c4 (A.hasl .i64 (4) rfl) r5 hv6) (.s 2 (.s 0 (.s 1 .nil))) ?_
  rintro _ _ ⟨rfl, rfl, hr7, hr8⟩
  refine ⟨by kernel_rfl, ?_⟩
  refine A.AL.q [] [] [.n, .n, .n, .n, .n] [1, 2] [] [(1, .int .i64 r5.1), (2, .int .i64 r5.2)] trivial ?_
  refine A.AL.dn ?_
  refine A.AX.sr ?_
  obtain ⟨r9, hv10, hF⟩ := A.bd_some hF
  refine A.AL.call 82 [] (first := []) (cap := []) cf52 (L08_loop_ok 5 (A.hasl .i64 (5) rfl) r9 hv10) .nil ?_
  rintro _ _ ⟨A11, c12, rfl, rfl⟩
  refine ⟨by kernel_rfl, ?_⟩
  obtain ⟨r13, hv14, hF⟩ := A.bd_some hF
  refine A.AL.call 122 [] (first := []) (cap := []) cf12 (graph_Order_ok r9 A11 c12 r13 hv14) (.s 82 (.s 0 (.s 1 .nil))) ?_
  rintro _ _ ⟨A15, c16, rfl, rfl, hr17⟩
  refine ⟨by kernel_rfl, ?_⟩
  refine A.AL.q [] [] [.n, .n, .n, .n, .n] [3, 4] [] [(3, .slice A15 ((r13.1).length) c16), (4, .int .i64 r13.2)] trivial ?_
  refine A.AL.dn ?_
  refine A.AX.join [] [0, 1] (fun nl nh => ∃ (y18 : Bool), nl = [(0, .bool y18)] ∧ nh = [] ∧ F.L08_begun_j1 y18 = some r) ?_ ?_
  · refine A.AX.reg ?_
    refine A.AL.q [] [] [.n, .n, .n, .sy .n, .sy .n, .pk, .n, .sy .n, .sy .n, .pk, .n] [25] [] [(25, .bool (bif bif decide (r5.2 = 0) then decide (r5.1 = 1) else false then decide (r13.2 = 0) else false))] trivial ?_
    refine A.AL.cnd (j := 25) rfl hF (fun hF => ?_) (fun hF => ?_)
    · refine A.AL.q [] [] [.on .n] [26] [] [(26, .slice A15 ((r13.1).length) c16)] trivial ?_
      refine A.AL.on (dj := 25) rfl rfl ?_
      refine A.AL.bsl 162 (ty := (Z.Ty.int .i64)) (cs := [.int .i64 1, .int .i64 2, .int .i64 3, .int .i64 4, .int .i64 5, .int .i64 6, .int .i64 7, .int .i64 8]) [1, 2, 3, 4, 5, 6, 7, 8] ⟨⟨rfl, (A.hasl .i64 (1) rfl)⟩, ⟨⟨rfl, (A.hasl .i64 (2) rfl)⟩, ⟨⟨rfl, (A.hasl .i64 (3) rfl)⟩, ⟨⟨rfl, (A.hasl .i64 (4) rfl)⟩, ⟨⟨rfl, (A.hasl .i64 (5) rfl)⟩, ⟨⟨rfl, (A.hasl .i64 (6) rfl)⟩, ⟨⟨rfl, (A.hasl .i64 (7) rfl)⟩, ⟨⟨rfl, (A.hasl .i64 (8) rfl)⟩, rfl⟩⟩⟩⟩⟩⟩⟩⟩ (fun g19 => ?_) Tryd.zeroValue3 Tryd.sizeOf3
      refine A.AL.on (dj := 25) rfl rfl ?_
      obtain ⟨r20, hv21, hF⟩ := A.bd_some hF
      refine A.AL.call 163 [] (first := []) (cap := []) cf16 (slices_Equal_int_int_ok r13.1 [1, 2, 3, 4, 5, 6, 7, 8] A15 c16 (some ⟨g19, 0, none⟩) 8 r20 hv21) (.o 122 (.o 162 .nil)) ?_
      rintro _ _ ⟨rfl, rfl⟩
      refine ⟨by kernel_rfl, ?_⟩
      refine A.AL.q [] [] [.n, .n] [30] [] [(30, .bool r20)] trivial ?_
      refine A.AL.cnd (j := 30) rfl hF (fun hF => ?_) (fun hF => ?_)
      · refine A.AL.on (dj := 30) rfl rfl ?_
        obtain ⟨r22, hv23, hF⟩ := A.bd_some hF
        refine A.AL.call 203 [] (first := []) (cap := []) cf52 (L08_loop_ok 8 (A.hasl .i64 (8) rfl) r22 hv23) .nil ?_
        rintro _ _ ⟨A24, c25, rfl, rfl⟩
        refine ⟨by kernel_rfl, ?_⟩
        refine A.AL.on (dj := 30) rfl rfl ?_
        obtain ⟨r26, hv27, hF⟩ := A.bd_some hF
        refine A.AL.call 243 [] (first := []) (cap := []) cf14 (graph_Check_ok r22 A24 c25 r26 hv27) (.s 203 (.s 0 (.s 1 .nil))) ?_
        rintro _ _ ⟨rfl, rfl, hr28⟩
        refine ⟨by kernel_rfl, ?_⟩
        refine A.AL.q [] [] [.on .n, .n, .n] [0] [] [(0, .bool (decide (r26 = 81)))] trivial ?_
        refine A.AL.done ?_
        exact A.AE.j [0, 1] [(0, .bool (decide (r26 = 81)))] [] ⟨(decide (r26 = 81)), rfl, rfl, hF⟩
      · refine A.AL.q [] [] [.off, .off, .off, .n, .n] [0] [] [(0, .bool false)] trivial ?_
        refine A.AL.done ?_
        exact A.AE.j [0, 1] [(0, .bool false)] [] ⟨false, rfl, rfl, hF⟩
    · refine A.AL.q [] [] [.off, .off, .off, .n, .n, .off, .off, .off, .n, .n] [0] [] [(0, .bool false)] trivial ?_
      refine A.AL.done ?_
      exact A.AE.j [0, 1] [(0, .bool false)] [] ⟨false, rfl, rfl, hF⟩
  · rintro _ _ ⟨y18, rfl, rfl, hF⟩
    rw [F.L08_begun_j1] at hF
    obtain rfl := Option.some.inj hF
    exact A.AX.ret [] (.bool y18) (fun a w hf hh => Z.resv1 rfl (Z.rv_t hf rfl)) (⟨rfl, rfl⟩)

def F.L08_few_l1 (a0 : D23) : Nat → Int → Int → Option Bool
  | 0, _, _ => none
  | f + 1, y5, y7 => if y7 < ((List.take ((min ((a0).length : Int) 99).toNat) a0).length : Int) then ((A.ix (List.take ((min ((a0).length : Int) 99).toNat) a0) y7).bind fun x10 => (A.gd (Z.R64 (y5 + (min ((x10.2.2.1).length : Int) 1048576)) ∧ Z.R64 ((y5 + (min ((x10.2.2.1).length : Int) 1048576)) + (min (x10.2.2.2.2.1.size : Int) 1048576)) ∧ Z.R64 (((y5 + (min ((x10.2.2.1).length : Int) 1048576)) + (min (x10.2.2.2.2.1.size : Int) 1048576)) + (min (x10.2.2.2.1.2.2.size : Int) 1048576))) (A.gd (Z.R64 (y7 + 1)) ((F.L08_few_l1 a0 f) (min (((y5 + (min ((x10.2.2.1).length : Int) 1048576)) + (min (x10.2.2.2.2.1.size : Int) 1048576)) + (min (x10.2.2.2.1.2.2.size : Int) 1048576)) 1048576) (y7 + 1))))) else (some (bif decide (((a0).length : Int) ≤ 40) then decide (y5 ≤ 5000) else false))
def F.L08_few (a0 : D23) : Option Bool := A.gd (0 ≤ min ((a0).length : Int) 99 ∧ (min ((a0).length : Int) 99).toNat ≤ (a0).length) (F.L08_few_l1 a0 A.FU 0 0)
theorem L08_few_ok (a0 : D23) (A0_ : Option Addr) (c1_ : Nat) (r : Bool) (hF : F.L08_few a0 = some r) :
    A.Ct Tryd.prog 11 [.agg #[.slice A0_ ((a0).length) c1_]] [(0, .sh (.slice T39) [.slice A0_ (a0).length c1_] a0)] [] (fun v H' => v = .bool r ∧ H' = []) := by
  refine A.Ct.enter Tryd.func11 rfl Tryd.ntmps11 rfl fun w0 F0 => ?_
  rw [F.L08_few] at hF
  refine A.AX.sr ?_
  refine A.AL.box 1 (cs := [.slice A0_ ((a0).length) c1_]) fun g1 => ?_
  refine A.AL.q [] [] [.n] [] [] [] trivial ?_
  refine A.AL.dn ?_
  refine A.AX.sr ?_
  refine A.AL.q [] [] [.n] [3] [] [(3, .int .i64 0)] trivial ?_
  refine A.AL.dn ?_
  refine A.AX.seq ?_
  refine A.AX.sr ?_
  refine A.AL.q [1] [] [.n, .b 0 0, .n, .b 0 0, .n, .n] [7, 11] [] [(7, .slice A0_ ((a0).length) c1_), (11, .int .i64 (min ((a0).length : Int) 99))] trivial ?_
  obtain ⟨hc2, hF⟩ := A.gd_some hF
  refine A.AL.cuth 0 2 (v := (min ((a0).length : Int) 99).toNat) (Int.toNat_of_nonneg hc2.1).symm hc2.2 fun c4 => ?_
  refine A.AL.q [] [] [.n, .n] [13, 14] [] [(13, .int .i64 ((List.take ((min ((a0).length : Int) 99).toNat) a0).length : Int)), (14, .int .i64 0)] trivial ?_
  refine A.AL.dn ?_
  refine A.AX.block ?_
  refine A.AX.loop [1, 12, 13] [0, 1, 2] [0, 1, 2] (fun f nl nh => ∃ (y5 : Int), ∃ (y7 : Int), nl = [(3, .int .i64 y5), (14, .int .i64 y7)] ∧ nh = [] ∧ IntKind.i64.has y5 ∧ IntKind.i64.has y7 ∧ F.L08_few_l1 a0 f y5 y7 = some r) A.FU [(3, .int .i64 0), (14, .int .i64 0)] [] ⟨0, 0, rfl, rfl, (A.hasl .i64 (0) rfl), (A.hasl .i64 (0) rfl), hF⟩ ?_
  rintro f9 _ _ ⟨y5, y7, rfl, rfl, hy6, hy8, hF⟩
  cases f9 with
  | zero => exact A.no0 hF
  | succ f9 =>
    rw [F.L08_few_l1] at hF
    refine A.AX.sr ?_
    refine A.AL.q [] [] [.n] [15] [] [(15, .bool (decide (y7 < ((List.take ((min ((a0).length : Int) 99).toNat) a0).length : Int))))] trivial ?_
    refine A.AL.dn ?_
    refine A.AX.seq ?_
    refine A.AX.cnd rfl hF (fun hb hF => ?_) (fun hb hF => ?_)
    · refine A.AX.skip ?_
      refine A.AE.c ?_
      refine A.AX.seq ?_
      refine A.AX.block ?_
      refine A.AX.sr ?_
      obtain ⟨x10, hv11, hF⟩ := A.bd_some hF
      refine A.AL.ixs 2 9 hv11 fun ho12 => ?_
      intro A13 c14 b15 o16
      refine A.AL.q [] [9] [.e 0 0] [17] [] [(17, .agg #[.int .i64 x10.1, .int .i64 x10.2.1, .slice A13 ((x10.2.2.1).length) c14, .int .i64 x10.2.2.2.1.1, .int .i64 x10.2.2.2.1.2.1, .string x10.2.2.2.1.2.2, .string x10.2.2.2.2.1, .int .i64 x10.2.2.2.2.2.1, .int .i64 x10.2.2.2.2.2.2])] trivial ?_
      refine A.AL.alloc 11 (cs := [.int .i64 0, .int .i64 0, .slice none 0 0, .int .i64 0, .int .i64 0, .string (ByteArray.mk #[]), .string (ByteArray.mk #[]), .int .i64 0, .int .i64 0]) Tryd.zeroValue40 fun g17 => ?_
      refine A.AL.store 11 [] (new := [.int .i64 x10.1, .int .i64 x10.2.1, .slice A13 ((x10.2.2.1).length) c14, .int .i64 x10.2.2.2.1.1, .int .i64 x10.2.2.2.1.2.1, .string x10.2.2.2.1.2.2, .string x10.2.2.2.2.1, .int .i64 x10.2.2.2.2.2.1, .int .i64 x10.2.2.2.2.2.2]) (cs' := [.int .i64 x10.1, .int .i64 x10.2.1, .slice A13 ((x10.2.2.1).length) c14, .int .i64 x10.2.2.2.1.1, .int .i64 x10.2.2.2.1.2.1, .string x10.2.2.2.1.2.2, .string x10.2.2.2.2.1, .int .i64 x10.2.2.2.2.2.1, .int .i64 x10.2.2.2.2.2.2]) ?_
      refine A.AL.dn ?_
      refine A.AX.reg ?_
      obtain ⟨hc18, hF⟩ := A.gd_some hF
      refine A.AL.q [11] [] [.n, .n, .b 0 2, .n, .n, .n, .n, .b 0 6, .n, .n, .n, .n, .n, .b 0 5, .n, .n, .n, .n, .n] [3] [Z.R64 (y5 + (min ((x10.2.2.1).length : Int) 1048576)), Z.R64 ((y5 + (min ((x10.2.2.1).length : Int) 1048576)) + (min (x10.2.2.2.2.1.size : Int) 1048576)), Z.R64 (((y5 + (min ((x10.2.2.1).length : Int) 1048576)) + (min (x10.2.2.2.2.1.size : Int) 1048576)) + (min (x10.2.2.2.1.2.2.size : Int) 1048576))] [(3, .int .i64 (min (((y5 + (min ((x10.2.2.1).length : Int) 1048576)) + (min (x10.2.2.2.2.1.size : Int) 1048576)) + (min (x10.2.2.2.1.2.2.size : Int) 1048576)) 1048576))] hc18 ?_
      refine A.AL.done ?_
      refine A.AE.b ?_
      refine A.AE.c ?_
      refine A.AX.reg ?_
      obtain ⟨hc19, hF⟩ := A.gd_some hF
      refine A.AL.q [] [] [.n, .n] [14] [Z.R64 (y7 + 1)] [(14, .int .i64 (y7 + 1))] hc19 ?_
      refine A.AL.done ?_
      exact A.AE.j [0, 1, 2] [(3, .int .i64 (min (((y5 + (min ((x10.2.2.1).length : Int) 1048576)) + (min (x10.2.2.2.2.1.size : Int) 1048576)) + (min (x10.2.2.2.1.2.2.size : Int) 1048576)) 1048576)), (14, .int .i64 (y7 + 1))] [] ⟨_, Nat.lt_succ_self _, ⟨(min (((y5 + (min ((x10.2.2.1).length : Int) 1048576)) + (min (x10.2.2.2.2.1.size : Int) 1048576)) + (min (x10.2.2.2.1.2.2.size : Int) 1048576)) 1048576), (y7 + 1), rfl, rfl, (A.has_min (Z.i64_has hc18.2.2) (A.hasl .i64 (1048576) rfl)), (Z.i64_has hc19), hF⟩⟩
    · refine A.AX.exit rfl ?_
      refine A.AE.c ?_
      refine A.AX.sr ?_
      refine A.AL.q [1] [] [.n, .b 0 0, .n, .n, .n, .sy .n, .sy .n, .pk, .n] [2] [] [(2, .bool (bif decide (((a0).length : Int) ≤ 40) then decide (y5 ≤ 5000) else false))] trivial ?_
      refine A.AL.dn ?_
      obtain rfl := Option.some.inj hF
      exact A.AX.ret [] (.bool (bif decide (((a0).length : Int) ≤ 40) then decide (y5 ≤ 5000) else false)) (fun a w hf hh => Z.resv1 rfl (Z.rv_t hf rfl)) (⟨rfl, rfl⟩)

def F.R08_index_l1 (a0 : D23) (a1 : Int) : Nat → Int → Option Int
  | 0, _ => none
  | f + 1, y2 => if y2 < ((a0).length : Int) then ((A.ix a0 y2).bind fun x5 => (if x5.1 = a1 then (some y2) else (A.gd (Z.R64 (y2 + 1)) ((F.R08_index_l1 a0 a1 f) (y2 + 1))))) else (some (-1))
def F.R08_index (a0 : D23) (a1 : Int) : Option Int := F.R08_index_l1 a0 a1 A.FU 0
theorem R08_index_ok (a0 : D23) (a1 : Int) (A0_ : Option Addr) (c1_ : Nat) (h2_ : IntKind.i64.has a1) (r : Int) (hF : F.R08_index a0 a1 = some r) :
    A.Ct Tryd.prog 60 [.agg #[.slice A0_ ((a0).length) c1_], .int .i64 a1] [(0, .sh (.slice T39) [.slice A0_ (a0).length c1_] a0)] [] (fun v H' => v = .int .i64 r ∧ H' = [] ∧ IntKind.i64.has r) := by
  refine A.Ct.enter Tryd.func60 rfl Tryd.ntmps60 rfl fun w0 F0 => ?_
  rw [F.R08_index] at hF
  refine A.AX.sr ?_
  refine A.AL.box 1 (cs := [.slice A0_ ((a0).length) c1_]) fun g1 => ?_
  refine A.AL.q [] [] [.n] [] [] [] trivial ?_
  refine A.AL.dn ?_
  refine A.AX.seq ?_
  refine A.AX.sr ?_
  refine A.AL.q [] [] [.n] [5] [] [(5, .int .i64 0)] trivial ?_
  refine A.AL.dn ?_
  refine A.AX.block ?_
  refine A.AX.loop [1, 2] [0, 1] [0, 1] (fun f nl nh => ∃ (y2 : Int), nl = [(5, .int .i64 y2)] ∧ nh = [] ∧ IntKind.i64.has y2 ∧ F.R08_index_l1 a0 a1 f y2 = some r) A.FU [(5, .int .i64 0)] [] ⟨0, rfl, rfl, (A.hasl .i64 (0) rfl), hF⟩ ?_
  rintro f4 _ _ ⟨y2, rfl, rfl, hy3, hF⟩
  cases f4 with
  | zero => exact A.no0 hF
  | succ f4 =>
    rw [F.R08_index_l1] at hF
    refine A.AX.seq ?_
    refine A.AX.sr ?_
    refine A.AL.q [1] [] [.n, .n, .b 0 0, .n, .n] [10] [] [(10, .bool (decide (y2 < ((a0).length : Int))))] trivial ?_
    refine A.AL.dn ?_
    refine A.AX.cnd rfl hF (fun hb hF => ?_) (fun hb hF => ?_)
    · refine A.AX.skip ?_
      refine A.AE.c ?_
      refine A.AX.seq ?_
      refine A.AX.block ?_
      refine A.AX.sr ?_
      refine A.AL.q [1] [] [.n, .b 0 0, .n] [14, 15] [] [(14, .slice A0_ ((a0).length) c1_), (15, .int .i64 y2)] trivial ?_
      obtain ⟨x5, hv6, hF⟩ := A.bd_some hF
      refine A.AL.ixs 0 6 hv6 fun ho7 => ?_
      intro A8 c9 b10 o11
      refine A.AL.q [] [6] [.n, .e 0 0, .n, .n] [20] [] [(20, .bool (decide (x5.1 = a1)))] trivial ?_
      refine A.AL.dn ?_
      refine A.AX.cnd rfl hF (fun hb hF => ?_) (fun hb hF => ?_)
      · refine A.AX.sr ?_
        refine A.AL.q [] [] [.n, .n] [4] [] [(4, .int .i64 y2)] trivial ?_
        refine A.AL.dn ?_
        obtain rfl := Option.some.inj hF
        exact A.AX.ret [] (.int .i64 y2) (fun a w hf hh => Z.resv1 rfl (Z.rv_t hf rfl)) (⟨rfl, rfl, hy3⟩)
      · refine A.AX.skip ?_
        refine A.AE.b ?_
        refine A.AE.c ?_
        refine A.AX.reg ?_
        obtain ⟨hc12, hF⟩ := A.gd_some hF
        refine A.AL.q [] [] [.n, .n, .n] [5] [Z.R64 (y2 + 1)] [(5, .int .i64 (y2 + 1))] hc12 ?_
        refine A.AL.done ?_
        exact A.AE.j [0, 1] [(5, .int .i64 (y2 + 1))] [] ⟨_, Nat.lt_succ_self _, ⟨(y2 + 1), rfl, rfl, (Z.i64_has hc12), hF⟩⟩
    · refine A.AX.exit rfl ?_
      refine A.AE.c ?_
      refine A.AX.sr ?_
      refine A.AL.q [] [] [.n] [4] [] [(4, .int .i64 (-1))] trivial ?_
      refine A.AL.dn ?_
      obtain rfl := Option.some.inj hF
      exact A.AX.ret [] (.int .i64 (-1)) (fun a w hf hh => Z.resv1 rfl (Z.rv_t hf rfl)) (⟨rfl, rfl, (A.hasl .i64 (-1) rfl)⟩)
end Go.Proofs.YtleiipbkfaajfaaDoor
end

section
set_option linter.unusedVariables false
set_option linter.unusedSimpArgs false
set_option maxRecDepth 20000
set_option maxHeartbeats 8000000
set_option synthInstance.maxSize 1000000
set_option synthInstance.maxHeartbeats 400000
namespace Go.Proofs.YtleiipbkfaajfaaDoor
open Go.RowKit
def F.R08_spots_j1 (k8 : (List D84) → Int → Option (List D84)) (y5 : Int) (xs10 : List D84) : Option (List D84) := A.gd (Z.R64 (y5 + 1)) (k8 xs10 (y5 + 1))
def F.R08_spots_l2 (k8 : (List D84) → Int → Option (List D84)) (a0 : D23) (a1 : (List Int)) (y5 : Int) (x12 : D39) : Nat → (List D84) → Int → Option (List D84)
  | 0, _, _ => none
  | f + 1, xs22, y23 => if y23 < ((x12.2.2.1).length : Int) then ((A.ix x12.2.2.1 y23).bind fun x26 => ((F.R08_index a0 x26).bind fun r32 => ((A.ix a1 r32).bind fun x35 => (A.gd ((List.length (α := D84) xs22 + List.length (α := D84) [((x12.1, y23), x35)]) * 24 ≤ 140737488355328) (A.gd (Z.R64 (y23 + 1)) ((F.R08_spots_l2 k8 a0 a1 y5 x12 f) (xs22 ++ [((x12.1, y23), x35)]) (y23 + 1))))))) else (if x12.2.1 ≠ 15 then ((A.ix a1 y5).bind fun x46 => (A.gd ((List.length (α := D84) xs22 + List.length (α := D84) [((x12.1, 2), x46)]) * 24 ≤ 140737488355328) (F.R08_spots_j1 k8 y5 (xs22 ++ [((x12.1, 2), x46)])))) else (F.R08_spots_j1 k8 y5 xs22))
def F.R08_spots_l3 (a0 : D23) (a1 : (List Int)) : Nat → (List D84) → Int → Option (List D84)
  | 0, _, _ => none
  | f + 1, xs4, y5 => if (bif decide (y5 < ((a0).length : Int)) then decide (y5 < ((a1).length : Int)) else false) = true then ((A.ix a0 y5).bind fun x12 => (F.R08_spots_l2 (F.R08_spots_l3 a0 a1 f) a0 a1 y5 x12 A.FU xs4 0)) else (some xs4)
def F.R08_spots (a0 : D23) (a1 : (List Int)) : Option (List D84) := F.R08_spots_l3 a0 a1 A.FU [] 0
theorem R08_spots_ok (a0 : D23) (a1 : (List Int)) (A0_ : Option Addr) (c1_ : Nat) (A2_ : Option Addr) (c3_ : Nat) (r : (List D84)) (hF : F.R08_spots a0 a1 = some r) :
    A.Ct Tryd.prog 73 [.agg #[.slice A0_ ((a0).length) c1_], .slice A2_ ((a1).length) c3_] [(0, .sh (.slice T39) [.slice A0_ (a0).length c1_] a0), (1, .ln (Z.Ty.int .i64) A2_ c3_ a1)] [] (fun v H' => ∃ (A0' : Option Addr) (c1' : Nat), v = .slice A0' ((r).length) c1' ∧ H' = [(0, .own T84 85 A0' c1' r)]) := by
  refine A.Ct.enter Tryd.func73 rfl Tryd.ntmps73 rfl fun w0 F0 => ?_
  rw [F.R08_spots] at hF
  refine A.AX.sr ?_
  refine A.AL.box 2 (cs := [.slice A0_ ((a0).length) c1_]) fun g1 => ?_
  refine A.AL.q [] [] [.n] [] [] [] trivial ?_
  refine A.AL.dn ?_
  refine A.AX.sr ?_
  refine A.AL.q [] [] [.n] [5] [] [(5, .slice none 0 0)] trivial ?_
  refine A.AL.dn ?_
  refine A.AX.seq ?_
  refine A.AX.sr ?_
  refine A.AL.q [] [] [.n] [6] [] [(6, .int .i64 0)] trivial ?_
  refine A.AL.dn ?_
  refine A.AX.block ?_
  refine A.nil 329 T84 85 ?_
  refine A.AX.loop [1, 2] [0, 1, 2] [329, 0, 1, 2] (fun f nl nh => ∃ (xs4 : List D84), ∃ (y5 : Int), ∃ (A2 : Option Addr), ∃ (c3 : Nat), nl = [(5, .slice A2 ((xs4).length) c3), (6, .int .i64 y5)] ∧ nh = [(329, .own T84 85 A2 c3 xs4)] ∧ IntKind.i64.has y5 ∧ F.R08_spots_l3 a0 a1 f xs4 y5 = some r) A.FU [(5, .slice none 0 0), (6, .int .i64 0)] [(329, .own T84 85 none 0 [])] ⟨[], 0, none, 0, rfl, rfl, (A.hasl .i64 (0) rfl), hF⟩ ?_
  rintro f7 _ _ ⟨xs4, y5, A2, c3, rfl, rfl, hy6, hF⟩
  cases f7 with
  | zero => exact A.no0 hF
  | succ f7 =>
    rw [F.R08_spots_l3] at hF
    refine A.AX.seq ?_
    refine A.AX.sr ?_
    refine A.AL.q [2] [] [.n, .n, .b 0 0, .n, .n, .n, .sy .n, .sy .n, .sy .n, .sy .n, .pk] [19] [] [(19, .bool (bif decide (y5 < ((a0).length : Int)) then decide (y5 < ((a1).length : Int)) else false))] trivial ?_
    refine A.AL.dn ?_
    refine A.AX.cnb rfl hF (fun hb hF => ?_) (fun hb hF => ?_)
    · refine A.AX.skip ?_
      refine A.AE.c ?_
      refine A.AX.join [1, 2, 6] [0, 1, 2] (fun nl nh => ∃ (xs10 : List D84), ∃ (A8 : Option Addr), ∃ (c9 : Nat), nl = [(5, .slice A8 ((xs10).length) c9)] ∧ nh = [(329, .own T84 85 A8 c9 xs10)] ∧ F.R08_spots_j1 (F.R08_spots_l3 a0 a1 f7) y5 xs10 = some r) ?_ ?_
      · refine A.AX.block ?_
        refine A.AX.sr ?_
        refine A.AL.q [2] [] [.n, .b 0 0, .n] [23, 24] [] [(23, .slice A0_ ((a0).length) c1_), (24, .int .i64 y5)] trivial ?_
        obtain ⟨x12, hv13, hF⟩ := A.bd_some hF
        refine A.AL.ixs 0 606 hv13 fun ho14 => ?_
        intro A15 c16 b17 o18
        refine A.AL.q [] [606] [.e 0 0] [26] [] [(26, .agg #[.int .i64 x12.1, .int .i64 x12.2.1, .slice A15 ((x12.2.2.1).length) c16, .int .i64 x12.2.2.2.1.1, .int .i64 x12.2.2.2.1.2.1, .string x12.2.2.2.1.2.2, .string x12.2.2.2.2.1, .int .i64 x12.2.2.2.2.2.1, .int .i64 x12.2.2.2.2.2.2])] trivial ?_
        refine A.AL.alloc 608 (cs := [.int .i64 0, .int .i64 0, .slice none 0 0, .int .i64 0, .int .i64 0, .string (ByteArray.mk #[]), .string (ByteArray.mk #[]), .int .i64 0, .int .i64 0]) Tryd.zeroValue40 fun g19 => ?_
        refine A.AL.store 608 [] (new := [.int .i64 x12.1, .int .i64 x12.2.1, .slice A15 ((x12.2.2.1).length) c16, .int .i64 x12.2.2.2.1.1, .int .i64 x12.2.2.2.1.2.1, .string x12.2.2.2.1.2.2, .string x12.2.2.2.2.1, .int .i64 x12.2.2.2.2.2.1, .int .i64 x12.2.2.2.2.2.2]) (cs' := [.int .i64 x12.1, .int .i64 x12.2.1, .slice A15 ((x12.2.2.1).length) c16, .int .i64 x12.2.2.2.1.1, .int .i64 x12.2.2.2.1.2.1, .string x12.2.2.2.1.2.2, .string x12.2.2.2.2.1, .int .i64 x12.2.2.2.2.2.1, .int .i64 x12.2.2.2.2.2.2]) ?_
        refine A.AL.dn ?_
        refine A.AX.seq ?_
        refine A.AX.sr ?_
        refine A.AL.q [] [] [.n] [8] [] [(8, .int .i64 0)] trivial ?_
        refine A.AL.dn ?_
        refine A.AX.block ?_
        refine A.AX.loop [1, 2, 6, 7] [0, 1, 2, 607, 608] [329, 0, 1, 2, 607, 608] (fun f nl nh => ∃ (xs22 : List D84), ∃ (y23 : Int), ∃ (A20 : Option Addr), ∃ (c21 : Nat), nl = [(5, .slice A20 ((xs22).length) c21), (8, .int .i64 y23)] ∧ nh = [(329, .own T84 85 A20 c21 xs22)] ∧ IntKind.i64.has y23 ∧ F.R08_spots_l2 (F.R08_spots_l3 a0 a1 f7) a0 a1 y5 x12 f xs22 y23 = some r) A.FU [(5, .slice A2 ((xs4).length) c3), (8, .int .i64 0)] [(329, .own T84 85 A2 c3 xs4)] ⟨xs4, 0, A2, c3, rfl, rfl, (A.hasl .i64 (0) rfl), hF⟩ ?_
        rintro f25 _ _ ⟨xs22, y23, A20, c21, rfl, rfl, hy24, hF⟩
        cases f25 with
        | zero => exact A.no0 hF
        | succ f25 =>
          rw [F.R08_spots_l2] at hF
          refine A.AX.seq ?_
          refine A.AX.sr ?_
          refine A.AL.q [608] [] [.n, .n, .b 0 2, .n, .n] [31] [] [(31, .bool (decide (y23 < ((x12.2.2.1).length : Int))))] trivial ?_
          refine A.AL.dn ?_
          refine A.AX.cnd rfl hF (fun hb hF => ?_) (fun hb hF => ?_)
          · refine A.AX.skip ?_
            refine A.AE.c ?_
            refine A.AX.seq ?_
            refine A.AX.block ?_
            refine A.AX.dr mixed 19 19 [false, false, false, false, false, false, false, false, false, false, false, false, false, false, false, false, false, false, false] ?_
            refine A.AH.q (A.pk_kont (Z.Pq.body _ _ _)) [] [0, 1, 2, 607, 608] [2, 608] [] [true, true, true, true, true, true, true, true, true, true, false, false, false, false, false, false, false, false, false] 9 [(0, .n), (1, .n), (3, .n), (5, .n), (6, .b 0 0), (7, .n), (9, .n), (2, .b 1 0), (8, .b 1 2), (4, .n)] [34, 39, 40, 43, 42, 38] [] [(34, .slice A20 ((xs22).length) c21), (39, .slice A2_ ((a1).length) c3_), (40, .agg #[.slice A0_ ((a0).length) c1_]), (43, .int .i64 y23), (42, .slice A15 ((x12.2.2.1).length) c16), (38, .agg #[.int .i64 x12.1, .int .i64 y23])] trivial ?_
            obtain ⟨x26, hv27, hF⟩ := A.bd_some hF
            refine A.AH.pks 607 699 hv27 fun ho28 => ?_
            intro b30 o31 hA29
            refine A.AH.v (A.pk_kont (Z.Pq.body _ _ _)) [0, 1, 2, 607, 608] [0, 1, 2, 607, 608, 699] 10 [true, true, true, true, true, true, true, true, true, true, true, false, false, false, false, false, false, false, false] rfl (fun a w hf hh => A.r_ixa (t := (Z.Ty.int .i64)) hv27 hA29 hf) ?_
            refine A.AH.q (A.pk_kont (Z.Pq.body _ _ _)) [0, 1, 2, 607, 608, 699] [0, 1, 2, 607, 608, 699] [] [699] [true, true, true, true, true, true, true, true, true, true, true, true, false, false, false, false, false, false, false] 7 [(11, .e 0 0)] [45] [] [(45, .int .i64 x26)] trivial ?_
            refine A.AH.one 12 ?_
            obtain ⟨r32, hv33, hF⟩ := A.bd_some hF
            refine A.AL.call 700 [] (first := []) (cap := []) cf60 (R08_index_ok a0 x26 A0_ c1_ ho28 r32 hv33) (.s 0 .nil) ?_
            rintro _ _ ⟨rfl, rfl, hr34⟩
            refine ⟨by kernel_rfl, ?_⟩
            refine A.AH.nx [true, true, true, true, true, true, true, true, true, true, true, true, true, false, false, false, false, false, false] [0, 1, 2, 607, 608, 699] ?_
            obtain ⟨x35, hv36, hF⟩ := A.bd_some hF
            refine A.AH.pkl 1 740 hv36 fun ho37 => ?_
            intro b39 o40 hA38
            refine A.AH.v (A.pk_kont (Z.Pq.body _ _ _)) [0, 1, 2, 607, 608, 699] [0, 1, 2, 607, 608, 699, 740] 13 [true, true, true, true, true, true, true, true, true, true, true, true, true, true, false, false, false, false, false] rfl (fun a w hf hh => A.r_ixa (t := (Z.Ty.int .i64)) hv36 hA38 hf) ?_
            refine A.AH.q (A.pk_kont (Z.Pq.body _ _ _)) [0, 1, 2, 607, 608, 699, 740] [0, 1, 2, 607, 608, 699, 740] [] [740] [true, true, true, true, true, true, true, true, true, true, true, true, true, true, true, true, false, false, false] 3 [(14, .e 0 0), (15, .n)] [49] [] [(49, .agg #[.int .i64 x12.1, .int .i64 y23, .int .i64 x35])] trivial ?_
            refine A.AH.one 16 ?_
            refine A.AL.bsl 741 (ty := T84) (cs := [.int .i64 x12.1, .int .i64 y23, .int .i64 x35]) [((x12.1, y23), x35)] ⟨⟨⟨⟨rfl, ho14.1⟩, ⟨rfl, hy24⟩⟩, ⟨rfl, ho37⟩⟩, rfl⟩ (fun g41 => ?_) Tryd.zeroValue85 Tryd.sizeOf85
            refine A.AH.nx [true, true, true, true, true, true, true, true, true, true, true, true, true, true, true, true, true, false, false] [0, 1, 2, 607, 608, 699, 740] ?_
            refine A.AH.one 17 ?_
            obtain ⟨hl44, hF⟩ := A.gd_some hF
            refine A.AL.app (k := 329) [] (A.rowO (k := 741) rfl) inf85 hl44 fun A42 c43 => ?_
            refine A.AH.nx [true, true, true, true, true, true, true, true, true, true, true, true, true, true, true, true, true, true, false] [0, 1, 2, 607, 608, 699, 740] ?_
            refine A.AH.q (A.pk_kont (Z.Pq.body _ _ _)) [0, 1, 2, 607, 608, 699, 740] [0, 1, 2, 329, 607, 608, 699, 740, 741] [] [] [true, true, true, true, true, true, true, true, true, true, true, true, true, true, true, true, true, true, true] 0 [(18, .n)] [5] [] [(5, .slice A42 ((xs22 ++ [((x12.1, y23), x35)]).length) c43)] trivial ?_
            refine A.AH.done ?_
            refine A.AE.b ?_
            refine A.AE.c ?_
            refine A.AX.reg ?_
            obtain ⟨hc45, hF⟩ := A.gd_some hF
            refine A.AL.q [] [] [.n, .n, .n] [8] [Z.R64 (y23 + 1)] [(8, .int .i64 (y23 + 1))] hc45 ?_
            refine A.AL.done ?_
            exact A.AE.j [329, 0, 1, 2, 607, 608] [(5, .slice A42 ((xs22 ++ [((x12.1, y23), x35)]).length) c43), (8, .int .i64 (y23 + 1))] [(329, .own T84 85 A42 c43 (xs22 ++ [((x12.1, y23), x35)]))] ⟨_, Nat.lt_succ_self _, ⟨(xs22 ++ [((x12.1, y23), x35)]), (y23 + 1), A42, c43, rfl, rfl, (Z.i64_has hc45), hF⟩⟩
          · refine A.AX.exit rfl ?_
            refine A.AE.c ?_
            refine A.AX.sr ?_
            refine A.AL.q [608] [] [.n, .b 0 1, .n] [54] [] [(54, .bool (decide (x12.2.1 ≠ 15)))] trivial ?_
            refine A.AL.dn ?_
            refine A.AX.cnd rfl hF (fun hb hF => ?_) (fun hb hF => ?_)
            · refine A.AX.dr mixed 12 12 [false, false, false, false, false, false, false, false, false, false, false, false] ?_
              refine A.AH.q (A.pk_kont (Z.Pq.body _ _ _)) [] [0, 1, 2, 607, 608] [608] [] [true, true, true, true, true, true, false, false, false, false, false, false] 6 [(0, .n), (1, .n), (4, .n), (5, .n), (2, .b 0 0), (3, .n)] [55, 59, 60, 58] [] [(55, .slice A20 ((xs22).length) c21), (59, .slice A2_ ((a1).length) c3_), (60, .int .i64 y5), (58, .agg #[.int .i64 x12.1, .int .i64 2])] trivial ?_
              obtain ⟨x46, hv47, hF⟩ := A.bd_some hF
              refine A.AH.pkl 1 742 hv47 fun ho48 => ?_
              intro b50 o51 hA49
              refine A.AH.v (A.pk_kont (Z.Pq.body _ _ _)) [0, 1, 2, 607, 608] [0, 1, 2, 607, 608, 742] 6 [true, true, true, true, true, true, true, false, false, false, false, false] rfl (fun a w hf hh => A.r_ixa (t := (Z.Ty.int .i64)) hv47 hA49 hf) ?_
              refine A.AH.q (A.pk_kont (Z.Pq.body _ _ _)) [0, 1, 2, 607, 608, 742] [0, 1, 2, 607, 608, 742] [] [742] [true, true, true, true, true, true, true, true, true, false, false, false] 3 [(7, .e 0 0), (8, .n)] [63] [] [(63, .agg #[.int .i64 x12.1, .int .i64 2, .int .i64 x46])] trivial ?_
              refine A.AH.one 9 ?_
              refine A.AL.bsl 743 (ty := T84) (cs := [.int .i64 x12.1, .int .i64 2, .int .i64 x46]) [((x12.1, 2), x46)] ⟨⟨⟨⟨rfl, ho14.1⟩, ⟨rfl, (A.hasl .i64 (2) rfl)⟩⟩, ⟨rfl, ho48⟩⟩, rfl⟩ (fun g52 => ?_) Tryd.zeroValue85 Tryd.sizeOf85
              refine A.AH.nx [true, true, true, true, true, true, true, true, true, true, false, false] [0, 1, 2, 607, 608, 742] ?_
              refine A.AH.one 10 ?_
              obtain ⟨hl55, hF⟩ := A.gd_some hF
              refine A.AL.app (k := 329) [] (A.rowO (k := 743) rfl) inf85 hl55 fun A53 c54 => ?_
              refine A.AH.nx [true, true, true, true, true, true, true, true, true, true, true, false] [0, 1, 2, 607, 608, 742] ?_
              refine A.AH.q (A.pk_kont (Z.Pq.body _ _ _)) [0, 1, 2, 607, 608, 742] [0, 1, 2, 329, 607, 608, 742, 743] [] [] [true, true, true, true, true, true, true, true, true, true, true, true] 0 [(11, .n)] [5] [] [(5, .slice A53 ((xs22 ++ [((x12.1, 2), x46)]).length) c54)] trivial ?_
              refine A.AH.done ?_
              refine A.AE.b ?_
              exact A.AE.j [329, 0, 1, 2] [(5, .slice A53 ((xs22 ++ [((x12.1, 2), x46)]).length) c54)] [(329, .own T84 85 A53 c54 (xs22 ++ [((x12.1, 2), x46)]))] ⟨(xs22 ++ [((x12.1, 2), x46)]), A53, c54, rfl, rfl, hF⟩
            · refine A.AX.skip ?_
              refine A.AE.b ?_
              exact A.AE.j [329, 0, 1, 2] [(5, .slice A20 ((xs22).length) c21)] [(329, .own T84 85 A20 c21 xs22)] ⟨xs22, A20, c21, rfl, rfl, hF⟩
      · rintro _ _ ⟨xs10, A8, c9, rfl, rfl, hF⟩
        rw [F.R08_spots_j1] at hF
        refine A.AX.reg ?_
        obtain ⟨hc11, hF⟩ := A.gd_some hF
        refine A.AL.q [] [] [.n, .n, .n] [6] [Z.R64 (y5 + 1)] [(6, .int .i64 (y5 + 1))] hc11 ?_
        refine A.AL.done ?_
        exact A.AE.j [329, 0, 1, 2] [(5, .slice A8 ((xs10).length) c9), (6, .int .i64 (y5 + 1))] [(329, .own T84 85 A8 c9 xs10)] ⟨_, Nat.lt_succ_self _, ⟨xs10, (y5 + 1), A8, c9, rfl, rfl, (Z.i64_has hc11), hF⟩⟩
    · refine A.AX.exit rfl ?_
      refine A.AE.c ?_
      refine A.AX.sr ?_
      refine A.AL.q [] [] [.n, .n] [4] [] [(4, .slice A2 ((xs4).length) c3)] trivial ?_
      refine A.AL.dn ?_
      obtain rfl := Option.some.inj hF
      exact A.AX.ret [(0, 329)] (.slice A2 ((xs4).length) c3) (fun a w hf hh => Z.resv1 rfl (Z.rv_t hf rfl)) (⟨A2, c3, rfl, rfl⟩)

def F.R02_Check_j1 (k1 : Int → Option Int) (y3 : Int) (y6 : Bool) : Option Int := if y6 = true then (some 20) else (A.gd (Z.R64 (y3 + 1)) (k1 (y3 + 1)))
def F.R02_Check_l2 (a0 : D68) : Nat → Int → Option Int
  | 0, _ => none
  | f + 1, y3 => if y3 < 4 then ((A.ix [a0.2.2.2.2.1, a0.2.2.2.2.2.1, a0.2.2.2.2.2.2.1, a0.2.2.2.2.2.2.2] y3).bind fun x8 => (if x8 < 0 then (F.R02_Check_j1 (F.R02_Check_l2 a0 f) y3 true) else ((A.ix [a0.2.2.2.2.1, a0.2.2.2.2.2.1, a0.2.2.2.2.2.2.1, a0.2.2.2.2.2.2.2] y3).bind fun x10 => (if (1048576 : Int) < x10 then (F.R02_Check_j1 (F.R02_Check_l2 a0 f) y3 true) else (if a0.2.2.2.1 ≤ y3 then ((A.ix [a0.2.2.2.2.1, a0.2.2.2.2.2.1, a0.2.2.2.2.2.2.1, a0.2.2.2.2.2.2.2] y3).bind fun x12 => (F.R02_Check_j1 (F.R02_Check_l2 a0 f) y3 (decide (x12 ≠ 0)))) else (F.R02_Check_j1 (F.R02_Check_l2 a0 f) y3 false)))))) else (some 0)
def F.R02_Check (a0 : D68) : Option Int := A.gd (((bif bif bif bif bif decide (a0.1 < 0) then true else decide ((4 : Int) < a0.1) then true else decide (a0.2.2.2.1 < 0) then true else decide ((4 : Int) < a0.2.2.2.1) then true else decide (a0.2.1 < 0) then true else decide (a0.1 < a0.2.1)) = false → Z.R64 (a0.2.1 + a0.2.2.2.1))) (if (bif bif bif bif bif bif bif bif decide (a0.1 < 0) then true else decide ((4 : Int) < a0.1) then true else decide (a0.2.2.2.1 < 0) then true else decide ((4 : Int) < a0.2.2.2.1) then true else decide (a0.2.1 < 0) then true else decide (a0.1 < a0.2.1) then true else decide ((4 : Int) < a0.2.1 + a0.2.2.2.1) then true else decide (a0.2.2.1 < 0) then true else decide ((1048576 : Int) < a0.2.2.1)) = true then (some 20) else (if (bif decide (a0.2.1 = 0) then decide (a0.2.2.1 ≠ 0) else false) = true then (some 20) else (F.R02_Check_l2 a0 A.FU 0)))
theorem R02_Check_ok (a0 : D68) (h0_ : IntKind.i64.has a0.1) (h1_ : IntKind.i64.has a0.2.1) (h2_ : IntKind.i64.has a0.2.2.1) (h3_ : IntKind.i64.has a0.2.2.2.1) (h4_ : IntKind.i64.has a0.2.2.2.2.1) (h5_ : IntKind.i64.has a0.2.2.2.2.2.1) (h6_ : IntKind.i64.has a0.2.2.2.2.2.2.1) (h7_ : IntKind.i64.has a0.2.2.2.2.2.2.2) (r : Int) (hF : F.R02_Check a0 = some r) :
    A.Ct Tryd.prog 68 [.agg #[.int .i64 a0.1, .int .i64 a0.2.1, .int .i64 a0.2.2.1, .int .i64 a0.2.2.2.1, .int .i64 a0.2.2.2.2.1, .int .i64 a0.2.2.2.2.2.1, .int .i64 a0.2.2.2.2.2.2.1, .int .i64 a0.2.2.2.2.2.2.2]] [] [] (fun v H' => v = .int .i64 r ∧ H' = [] ∧ IntKind.i64.has r) := by
  refine A.Ct.enter Tryd.func68 rfl Tryd.ntmps68 rfl fun w0 F0 => ?_
  rw [F.R02_Check] at hF
  refine A.AX.sr ?_
  refine A.AL.box 0 (cs := [.int .i64 a0.1, .int .i64 a0.2.1, .int .i64 a0.2.2.1, .int .i64 a0.2.2.2.1, .int .i64 a0.2.2.2.2.1, .int .i64 a0.2.2.2.2.2.1, .int .i64 a0.2.2.2.2.2.2.1, .int .i64 a0.2.2.2.2.2.2.2]) fun g1 => ?_
  refine A.AL.q [] [] [.n] [] [] [] trivial ?_
  refine A.AL.dn ?_
  refine A.AX.seq ?_
  refine A.AX.sr ?_
  obtain ⟨hc2, hF⟩ := A.gd_some hF
  refine A.AL.q [0] [] [.n, .b 0 0, .n, .n, .sy .n, .sy (.b 0 0), .sy .n, .pk, .n, .sy .n, .sy (.b 0 3), .sy .n, .pk, .n, .sy .n, .sy (.b 0 3), .sy .n, .pk, .n, .sy .n, .sy (.b 0 1), .sy .n, .pk, .n, .sy .n, .sy (.b 0 1), .sy .n, .sy (.b 0 0), .sy .n, .pk, .n, .sy .n, .sy (.b 0 1), .sy .n, .sy (.b 0 3), .sy .n, .sy .n, .pk, .n, .sy .n, .sy (.b 0 2), .sy .n, .pk, .n, .sy .n, .sy (.b 0 2), .sy .n, .pk, .n] [52] [(bif bif bif bif bif decide (a0.1 < 0) then true else decide ((4 : Int) < a0.1) then true else decide (a0.2.2.2.1 < 0) then true else decide ((4 : Int) < a0.2.2.2.1) then true else decide (a0.2.1 < 0) then true else decide (a0.1 < a0.2.1)) = false → Z.R64 (a0.2.1 + a0.2.2.2.1)] [(52, .bool (bif bif bif bif bif bif bif bif decide (a0.1 < 0) then true else decide ((4 : Int) < a0.1) then true else decide (a0.2.2.2.1 < 0) then true else decide ((4 : Int) < a0.2.2.2.1) then true else decide (a0.2.1 < 0) then true else decide (a0.1 < a0.2.1) then true else decide ((4 : Int) < a0.2.1 + a0.2.2.2.1) then true else decide (a0.2.2.1 < 0) then true else decide ((1048576 : Int) < a0.2.2.1)))] hc2 ?_
  refine A.AL.cnd (j := 52) rfl hF (fun hF => ?_) (fun hF => ?_)
  · refine A.AL.q [] [] [.off, .off, .off, .off, .off, .off, .off, .off, .n] [61] [] [(61, .bool true)] trivial ?_
    refine A.AL.dn ?_
    refine A.AX.cnt rfl ?_
    refine A.AX.sr ?_
    refine A.AL.q [] [] [.n] [2] [] [(2, .int .i64 20)] trivial ?_
    refine A.AL.dn ?_
    obtain rfl := Option.some.inj hF
    exact A.AX.ret [] (.int .i64 20) (fun a w hf hh => Z.resv1 rfl (Z.rv_t hf rfl)) (⟨rfl, rfl, (A.hasl .i64 (20) rfl)⟩)
  · refine A.AL.q [0] [] [.on .n, .on (.b 0 1), .on .n, .on .n, .sy .n, .sy (.b 0 2), .sy .n, .on .pk, .n] [61] [] [(61, .bool (bif decide (a0.2.1 = 0) then decide (a0.2.2.1 ≠ 0) else false))] trivial ?_
    refine A.AL.dn ?_
    refine A.AX.cnb rfl hF (fun hb hF => ?_) (fun hb hF => ?_)
    · refine A.AX.sr ?_
      refine A.AL.q [] [] [.n] [2] [] [(2, .int .i64 20)] trivial ?_
      refine A.AL.dn ?_
      obtain rfl := Option.some.inj hF
      exact A.AX.ret [] (.int .i64 20) (fun a w hf hh => Z.resv1 rfl (Z.rv_t hf rfl)) (⟨rfl, rfl, (A.hasl .i64 (20) rfl)⟩)
    · refine A.AX.skip ?_
      refine A.AE.c ?_
      refine A.AX.seq ?_
      refine A.AX.sr ?_
      refine A.AL.q [] [] [.n] [3] [] [(3, .int .i64 0)] trivial ?_
      refine A.AL.dn ?_
      refine A.AX.block ?_
      refine A.AX.loop [1] [0] [0] (fun f nl nh => ∃ (y3 : Int), nl = [(3, .int .i64 y3)] ∧ nh = [] ∧ IntKind.i64.has y3 ∧ F.R02_Check_l2 a0 f y3 = some r) A.FU [(3, .int .i64 0)] [] ⟨0, rfl, rfl, (A.hasl .i64 (0) rfl), hF⟩ ?_
      rintro f5 _ _ ⟨y3, rfl, rfl, hy4, hF⟩
      cases f5 with
      | zero => exact A.no0 hF
      | succ f5 =>
        rw [F.R02_Check_l2] at hF
        refine A.AX.seq ?_
        refine A.AX.sr ?_
        refine A.AL.q [] [] [.n, .n] [63] [] [(63, .bool (decide (y3 < 4)))] trivial ?_
        refine A.AL.dn ?_
        refine A.AX.cnd rfl hF (fun hb hF => ?_) (fun hb hF => ?_)
        · refine A.AX.skip ?_
          refine A.AE.c ?_
          refine A.AX.seq ?_
          refine A.AX.block ?_
          refine A.AX.join [1, 3] [0] (fun nl nh => ∃ (y6 : Bool), nl = [(90, .bool y6)] ∧ nh = [] ∧ F.R02_Check_j1 (F.R02_Check_l2 a0 f5) y3 y6 = some r) ?_ ?_
          · refine A.AX.reg ?_
            refine A.AL.q [] [] [.n, .n] [66, 67] [] [(66, .int .i64 y3), (67, .pointer (some ⟨g1, 4, none⟩))] trivial ?_
            obtain ⟨x8, hv9, hF⟩ := A.bd_some hF
            refine A.AL.ixb 0 4 (fun v : Int => .int .i64 v) [a0.2.2.2.2.1, a0.2.2.2.2.2.1, a0.2.2.2.2.2.2.1, a0.2.2.2.2.2.2.2] hv9 ?_
            refine A.AL.q [] [4] [.e 0 0, .n, .n] [71] [] [(71, .bool (decide (x8 < 0)))] trivial ?_
            refine A.AL.cnp (j := 71) rfl hF (fun hb hF => ?_) (fun hb hF => ?_)
            · refine A.AL.q [] [] [.off, .off, .off, .off, .off, .n, .n, .off, .off, .off, .off, .off, .off, .off, .off, .off, .off, .off, .n] [90] [] [(90, .bool true)] trivial ?_
              refine A.AL.done ?_
              exact A.AE.j [0] [(90, .bool true)] [] ⟨true, rfl, rfl, hF⟩
            · refine A.AL.q [] [] [.on .n, .on .n] [72, 73] [] [(72, .int .i64 y3), (73, .pointer (some ⟨g1, 4, none⟩))] trivial ?_
              refine A.AL.on (dj := 71) rfl rfl ?_
              obtain ⟨x10, hv11, hF⟩ := A.bd_some hF
              refine A.AL.ixb 0 5 (fun v : Int => .int .i64 v) [a0.2.2.2.2.1, a0.2.2.2.2.2.1, a0.2.2.2.2.2.2.1, a0.2.2.2.2.2.2.2] hv11 ?_
              refine A.AL.q [] [5] [.on (.e 0 0), .on .n, .n, .n] [78] [] [(78, .bool (decide ((1048576 : Int) < x10)))] trivial ?_
              refine A.AL.cnp (j := 78) rfl hF (fun hb hF => ?_) (fun hb hF => ?_)
              · refine A.AL.q [] [] [.off, .off, .off, .off, .off, .off, .off, .off, .off, .off, .off, .n] [90] [] [(90, .bool true)] trivial ?_
                refine A.AL.done ?_
                exact A.AE.j [0] [(90, .bool true)] [] ⟨true, rfl, rfl, hF⟩
              · refine A.AL.q [0] [] [.on .n, .on .n, .on (.b 0 3), .on .n, .on .n] [83] [] [(83, .bool (decide (a0.2.2.2.1 ≤ y3)))] trivial ?_
                refine A.AL.cnp (j := 83) rfl hF (fun hb hF => ?_) (fun hb hF => ?_)
                · refine A.AL.q [] [] [.on .n, .on .n] [84, 85] [] [(84, .int .i64 y3), (85, .pointer (some ⟨g1, 4, none⟩))] trivial ?_
                  refine A.AL.on (dj := 83) rfl rfl ?_
                  obtain ⟨x12, hv13, hF⟩ := A.bd_some hF
                  refine A.AL.ixb 0 6 (fun v : Int => .int .i64 v) [a0.2.2.2.2.1, a0.2.2.2.2.2.1, a0.2.2.2.2.2.2.1, a0.2.2.2.2.2.2.2] hv13 ?_
                  refine A.AL.q [] [6] [.on (.e 0 0), .on .n, .on .n, .n] [90] [] [(90, .bool (decide (x12 ≠ 0)))] trivial ?_
                  refine A.AL.done ?_
                  exact A.AE.j [0] [(90, .bool (decide (x12 ≠ 0)))] [] ⟨(decide (x12 ≠ 0)), rfl, rfl, hF⟩
                · refine A.AL.q [] [] [.off, .off, .off, .off, .off, .on .n, .n] [90] [] [(90, .bool false)] trivial ?_
                  refine A.AL.done ?_
                  exact A.AE.j [0] [(90, .bool false)] [] ⟨false, rfl, rfl, hF⟩
          · rintro _ _ ⟨y6, rfl, rfl, hF⟩
            rw [F.R02_Check_j1] at hF
            refine A.AX.cnb rfl hF (fun hb hF => ?_) (fun hb hF => ?_)
            · refine A.AX.sr ?_
              refine A.AL.q [] [] [.n] [2] [] [(2, .int .i64 20)] trivial ?_
              refine A.AL.dn ?_
              obtain rfl := Option.some.inj hF
              exact A.AX.ret [] (.int .i64 20) (fun a w hf hh => Z.resv1 rfl (Z.rv_t hf rfl)) (⟨rfl, rfl, (A.hasl .i64 (20) rfl)⟩)
            · refine A.AX.skip ?_
              refine A.AE.b ?_
              refine A.AE.c ?_
              refine A.AX.reg ?_
              obtain ⟨hc7, hF⟩ := A.gd_some hF
              refine A.AL.q [] [] [.n, .n, .n] [3] [Z.R64 (y3 + 1)] [(3, .int .i64 (y3 + 1))] hc7 ?_
              refine A.AL.done ?_
              exact A.AE.j [0] [(3, .int .i64 (y3 + 1))] [] ⟨_, Nat.lt_succ_self _, ⟨(y3 + 1), rfl, rfl, (Z.i64_has hc7), hF⟩⟩
        · refine A.AX.exit rfl ?_
          refine A.AE.c ?_
          refine A.AX.sr ?_
          refine A.AL.q [] [] [.n] [2] [] [(2, .int .i64 0)] trivial ?_
          refine A.AL.dn ?_
          obtain rfl := Option.some.inj hF
          exact A.AX.ret [] (.int .i64 0) (fun a w hf hh => Z.resv1 rfl (Z.rv_t hf rfl)) (⟨rfl, rfl, (A.hasl .i64 (0) rfl)⟩)

def F.R02_step (a0 : Int) (a1 : Int) (a2 : Int) (a3 : Int) : Option (D68 × Int) := (F.R02_Check (a0, a1, a2, a3, (0, 0, 0, 0))).bind fun r3 => (if r3 ≠ 0 then (some ((0, 0, 0, 0, (0, 0, 0, 0)), 11)) else (some ((a0, a1, a2, a3, (0, 0, 0, 0)), 0)))
theorem R02_step_ok (a0 : Int) (a1 : Int) (a2 : Int) (a3 : Int) (h0_ : IntKind.i64.has a0) (h1_ : IntKind.i64.has a1) (h2_ : IntKind.i64.has a2) (h3_ : IntKind.i64.has a3) (r : D68 × Int) (hF : F.R02_step a0 a1 a2 a3 = some r) :
    A.Ct Tryd.prog 70 [.int .i64 a0, .int .i64 a1, .int .i64 a2, .int .i64 a3] [] [] (fun v H' => v = .tuple #[.agg #[.int .i64 r.1.1, .int .i64 r.1.2.1, .int .i64 r.1.2.2.1, .int .i64 r.1.2.2.2.1, .int .i64 r.1.2.2.2.2.1, .int .i64 r.1.2.2.2.2.2.1, .int .i64 r.1.2.2.2.2.2.2.1, .int .i64 r.1.2.2.2.2.2.2.2], .int .i64 r.2] ∧ H' = [] ∧ IntKind.i64.has r.1.1 ∧ IntKind.i64.has r.1.2.1 ∧ IntKind.i64.has r.1.2.2.1 ∧ IntKind.i64.has r.1.2.2.2.1 ∧ IntKind.i64.has r.1.2.2.2.2.1 ∧ IntKind.i64.has r.1.2.2.2.2.2.1 ∧ IntKind.i64.has r.1.2.2.2.2.2.2.1 ∧ IntKind.i64.has r.1.2.2.2.2.2.2.2 ∧ IntKind.i64.has r.2) := by
  refine A.Ct.enter Tryd.func70 rfl Tryd.ntmps70 rfl fun w0 F0 => ?_
  rw [F.R02_step] at hF
  refine A.AX.sr ?_
  refine A.AL.alloc 0 (cs := [.int .i64 0, .int .i64 0, .int .i64 0, .int .i64 0, .int .i64 0, .int .i64 0, .int .i64 0, .int .i64 0]) Tryd.zeroValue69 fun g1 => ?_
  refine A.AL.q [] [] [.n] [] [] [] trivial ?_
  refine A.AL.dn ?_
  refine A.AX.sr ?_
  refine A.AL.q [] [] [.n, .n, .n, .n, .n] [15] [] [(15, .agg #[.int .i64 a0, .int .i64 a1, .int .i64 a2, .int .i64 a3, .int .i64 0, .int .i64 0, .int .i64 0, .int .i64 0])] trivial ?_
  refine A.AL.alloc 1 (cs := [.int .i64 0, .int .i64 0, .int .i64 0, .int .i64 0, .int .i64 0, .int .i64 0, .int .i64 0, .int .i64 0]) Tryd.zeroValue69 fun g2 => ?_
  refine A.AL.store 1 [] (new := [.int .i64 a0, .int .i64 a1, .int .i64 a2, .int .i64 a3, .int .i64 0, .int .i64 0, .int .i64 0, .int .i64 0]) (cs' := [.int .i64 a0, .int .i64 a1, .int .i64 a2, .int .i64 a3, .int .i64 0, .int .i64 0, .int .i64 0, .int .i64 0]) ?_
  refine A.AL.dn ?_
  refine A.AX.seq ?_
  refine A.AX.sr ?_
  refine A.AL.q [1] [] [.b 0 0] [16] [] [(16, .agg #[.int .i64 a0, .int .i64 a1, .int .i64 a2, .int .i64 a3, .int .i64 0, .int .i64 0, .int .i64 0, .int .i64 0])] trivial ?_
  obtain ⟨r3, hv4, hF⟩ := A.bd_some hF
  refine A.AL.call 2 [] (first := []) (cap := []) cf68 (R02_Check_ok (a0, a1, a2, a3, (0, 0, 0, 0)) h0_ h1_ h2_ h3_ (A.hasl .i64 (0) rfl) (A.hasl .i64 (0) rfl) (A.hasl .i64 (0) rfl) (A.hasl .i64 (0) rfl) r3 hv4) .nil ?_
  rintro _ _ ⟨rfl, rfl, hr5⟩
  refine ⟨by kernel_rfl, ?_⟩
  refine A.AL.q [] [] [.n] [18] [] [(18, .bool (decide (r3 ≠ 0)))] trivial ?_
  refine A.AL.dn ?_
  refine A.AX.cnd rfl hF (fun hb hF => ?_) (fun hb hF => ?_)
  · refine A.AX.sr ?_
    refine A.AL.q [] [] [.n] [19] [] [(19, .agg #[.int .i64 0, .int .i64 0, .int .i64 0, .int .i64 0, .int .i64 0, .int .i64 0, .int .i64 0, .int .i64 0])] trivial ?_
    refine A.AL.store 0 [] (new := [.int .i64 0, .int .i64 0, .int .i64 0, .int .i64 0, .int .i64 0, .int .i64 0, .int .i64 0, .int .i64 0]) (cs' := [.int .i64 0, .int .i64 0, .int .i64 0, .int .i64 0, .int .i64 0, .int .i64 0, .int .i64 0, .int .i64 0]) ?_
    refine A.AL.q [] [] [.n] [9] [] [(9, .int .i64 11)] trivial ?_
    refine A.AL.dn ?_
    obtain rfl := Option.some.inj hF
    exact A.AX.ret [] (.tuple #[.agg #[.int .i64 0, .int .i64 0, .int .i64 0, .int .i64 0, .int .i64 0, .int .i64 0, .int .i64 0, .int .i64 0], .int .i64 11]) (fun a w hf hh => Z.resv2 rfl (Z.rv_n hf rfl Tryd.isAgg69 Tryd.sizeOf69 (A.Hp.blk hh 0) rfl) (Z.rv_t hf rfl)) (⟨rfl, rfl, (A.hasl .i64 (0) rfl), (A.hasl .i64 (0) rfl), (A.hasl .i64 (0) rfl), (A.hasl .i64 (0) rfl), (A.hasl .i64 (0) rfl), (A.hasl .i64 (0) rfl), (A.hasl .i64 (0) rfl), (A.hasl .i64 (0) rfl), (A.hasl .i64 (11) rfl)⟩)
  · refine A.AX.skip ?_
    refine A.AE.c ?_
    refine A.AX.sr ?_
    refine A.AL.q [1] [] [.b 0 0] [20] [] [(20, .agg #[.int .i64 a0, .int .i64 a1, .int .i64 a2, .int .i64 a3, .int .i64 0, .int .i64 0, .int .i64 0, .int .i64 0])] trivial ?_
    refine A.AL.store 0 [] (new := [.int .i64 a0, .int .i64 a1, .int .i64 a2, .int .i64 a3, .int .i64 0, .int .i64 0, .int .i64 0, .int .i64 0]) (cs' := [.int .i64 a0, .int .i64 a1, .int .i64 a2, .int .i64 a3, .int .i64 0, .int .i64 0, .int .i64 0, .int .i64 0]) ?_
    refine A.AL.q [] [] [.n] [9] [] [(9, .int .i64 0)] trivial ?_
    refine A.AL.dn ?_
    obtain rfl := Option.some.inj hF
    exact A.AX.ret [] (.tuple #[.agg #[.int .i64 a0, .int .i64 a1, .int .i64 a2, .int .i64 a3, .int .i64 0, .int .i64 0, .int .i64 0, .int .i64 0], .int .i64 0]) (fun a w hf hh => Z.resv2 rfl (Z.rv_n hf rfl Tryd.isAgg69 Tryd.sizeOf69 (A.Hp.blk hh 0) rfl) (Z.rv_t hf rfl)) (⟨rfl, rfl, h0_, h1_, h2_, h3_, (A.hasl .i64 (0) rfl), (A.hasl .i64 (0) rfl), (A.hasl .i64 (0) rfl), (A.hasl .i64 (0) rfl), (A.hasl .i64 (0) rfl)⟩)

def F.R02_Id (a0 : Int) : Option (D68 × Int) := (F.R02_step a0 a0 0 0).bind fun r2 => (some ((r2.1.1, r2.1.2.1, r2.1.2.2.1, r2.1.2.2.2.1, (r2.1.2.2.2.2.1, r2.1.2.2.2.2.2.1, r2.1.2.2.2.2.2.2.1, r2.1.2.2.2.2.2.2.2)), r2.2))
theorem R02_Id_ok (a0 : Int) (h0_ : IntKind.i64.has a0) (r : D68 × Int) (hF : F.R02_Id a0 = some r) :
    A.Ct Tryd.prog 41 [.int .i64 a0] [] [] (fun v H' => v = .tuple #[.agg #[.int .i64 r.1.1, .int .i64 r.1.2.1, .int .i64 r.1.2.2.1, .int .i64 r.1.2.2.2.1, .int .i64 r.1.2.2.2.2.1, .int .i64 r.1.2.2.2.2.2.1, .int .i64 r.1.2.2.2.2.2.2.1, .int .i64 r.1.2.2.2.2.2.2.2], .int .i64 r.2] ∧ H' = [] ∧ IntKind.i64.has r.1.1 ∧ IntKind.i64.has r.1.2.1 ∧ IntKind.i64.has r.1.2.2.1 ∧ IntKind.i64.has r.1.2.2.2.1 ∧ IntKind.i64.has r.1.2.2.2.2.1 ∧ IntKind.i64.has r.1.2.2.2.2.2.1 ∧ IntKind.i64.has r.1.2.2.2.2.2.2.1 ∧ IntKind.i64.has r.1.2.2.2.2.2.2.2 ∧ IntKind.i64.has r.2) := by
  refine A.Ct.enter Tryd.func41 rfl Tryd.ntmps41 rfl fun w0 F0 => ?_
  rw [F.R02_Id] at hF
  refine A.AX.sr ?_
  refine A.AL.alloc 0 (cs := [.int .i64 0, .int .i64 0, .int .i64 0, .int .i64 0, .int .i64 0, .int .i64 0, .int .i64 0, .int .i64 0]) Tryd.zeroValue69 fun g1 => ?_
  refine A.AL.q [] [] [.n] [] [] [] trivial ?_
  refine A.AL.dn ?_
  refine A.AX.sr ?_
  refine A.AL.q [] [] [.n, .n] [4, 5] [] [(4, .int .i64 a0), (5, .int .i64 a0)] trivial ?_
  obtain ⟨r2, hv3, hF⟩ := A.bd_some hF
  refine A.AL.call 1 [] (first := []) (cap := []) cf70 (R02_step_ok a0 a0 0 0 h0_ h0_ (A.hasl .i64 (0) rfl) (A.hasl .i64 (0) rfl) r2 hv3) .nil ?_
  rintro _ _ ⟨rfl, rfl, hr4, hr5, hr6, hr7, hr8, hr9, hr10, hr11, hr12⟩
  refine ⟨by kernel_rfl, ?_⟩
  refine A.AL.q [] [] [.n, .n] [7, 8] [] [(7, .agg #[.int .i64 r2.1.1, .int .i64 r2.1.2.1, .int .i64 r2.1.2.2.1, .int .i64 r2.1.2.2.2.1, .int .i64 r2.1.2.2.2.2.1, .int .i64 r2.1.2.2.2.2.2.1, .int .i64 r2.1.2.2.2.2.2.2.1, .int .i64 r2.1.2.2.2.2.2.2.2]), (8, .int .i64 r2.2)] trivial ?_
  refine A.AL.store 0 [] (new := [.int .i64 r2.1.1, .int .i64 r2.1.2.1, .int .i64 r2.1.2.2.1, .int .i64 r2.1.2.2.2.1, .int .i64 r2.1.2.2.2.2.1, .int .i64 r2.1.2.2.2.2.2.1, .int .i64 r2.1.2.2.2.2.2.2.1, .int .i64 r2.1.2.2.2.2.2.2.2]) (cs' := [.int .i64 r2.1.1, .int .i64 r2.1.2.1, .int .i64 r2.1.2.2.1, .int .i64 r2.1.2.2.2.1, .int .i64 r2.1.2.2.2.2.1, .int .i64 r2.1.2.2.2.2.2.1, .int .i64 r2.1.2.2.2.2.2.2.1, .int .i64 r2.1.2.2.2.2.2.2.2]) ?_
  refine A.AL.q [] [] [.n] [3] [] [(3, .int .i64 r2.2)] trivial ?_
  refine A.AL.dn ?_
  obtain rfl := Option.some.inj hF
  exact A.AX.ret [] (.tuple #[.agg #[.int .i64 r2.1.1, .int .i64 r2.1.2.1, .int .i64 r2.1.2.2.1, .int .i64 r2.1.2.2.2.1, .int .i64 r2.1.2.2.2.2.1, .int .i64 r2.1.2.2.2.2.2.1, .int .i64 r2.1.2.2.2.2.2.2.1, .int .i64 r2.1.2.2.2.2.2.2.2], .int .i64 r2.2]) (fun a w hf hh => Z.resv2 rfl (Z.rv_n hf rfl Tryd.isAgg69 Tryd.sizeOf69 (A.Hp.blk hh 0) rfl) (Z.rv_t hf rfl)) (⟨rfl, rfl, hr4, hr5, hr6, hr7, hr8, hr9, hr10, hr11, hr12⟩)

def F.R02_Enter (a0 : Int) : Option (D68 × Int) := (F.R02_step a0 a0 0 1).bind fun r2 => (some ((r2.1.1, r2.1.2.1, r2.1.2.2.1, r2.1.2.2.2.1, (r2.1.2.2.2.2.1, r2.1.2.2.2.2.2.1, r2.1.2.2.2.2.2.2.1, r2.1.2.2.2.2.2.2.2)), r2.2))
theorem R02_Enter_ok (a0 : Int) (h0_ : IntKind.i64.has a0) (r : D68 × Int) (hF : F.R02_Enter a0 = some r) :
    A.Ct Tryd.prog 115 [.int .i64 a0] [] [] (fun v H' => v = .tuple #[.agg #[.int .i64 r.1.1, .int .i64 r.1.2.1, .int .i64 r.1.2.2.1, .int .i64 r.1.2.2.2.1, .int .i64 r.1.2.2.2.2.1, .int .i64 r.1.2.2.2.2.2.1, .int .i64 r.1.2.2.2.2.2.2.1, .int .i64 r.1.2.2.2.2.2.2.2], .int .i64 r.2] ∧ H' = [] ∧ IntKind.i64.has r.1.1 ∧ IntKind.i64.has r.1.2.1 ∧ IntKind.i64.has r.1.2.2.1 ∧ IntKind.i64.has r.1.2.2.2.1 ∧ IntKind.i64.has r.1.2.2.2.2.1 ∧ IntKind.i64.has r.1.2.2.2.2.2.1 ∧ IntKind.i64.has r.1.2.2.2.2.2.2.1 ∧ IntKind.i64.has r.1.2.2.2.2.2.2.2 ∧ IntKind.i64.has r.2) := by
  refine A.Ct.enter Tryd.func115 rfl Tryd.ntmps115 rfl fun w0 F0 => ?_
  rw [F.R02_Enter] at hF
  refine A.AX.sr ?_
  refine A.AL.alloc 0 (cs := [.int .i64 0, .int .i64 0, .int .i64 0, .int .i64 0, .int .i64 0, .int .i64 0, .int .i64 0, .int .i64 0]) Tryd.zeroValue69 fun g1 => ?_
  refine A.AL.q [] [] [.n] [] [] [] trivial ?_
  refine A.AL.dn ?_
  refine A.AX.sr ?_
  refine A.AL.q [] [] [.n, .n] [4, 5] [] [(4, .int .i64 a0), (5, .int .i64 a0)] trivial ?_
  obtain ⟨r2, hv3, hF⟩ := A.bd_some hF
  refine A.AL.call 1 [] (first := []) (cap := []) cf70 (R02_step_ok a0 a0 0 1 h0_ h0_ (A.hasl .i64 (0) rfl) (A.hasl .i64 (1) rfl) r2 hv3) .nil ?_
  rintro _ _ ⟨rfl, rfl, hr4, hr5, hr6, hr7, hr8, hr9, hr10, hr11, hr12⟩
  refine ⟨by kernel_rfl, ?_⟩
  refine A.AL.q [] [] [.n, .n] [7, 8] [] [(7, .agg #[.int .i64 r2.1.1, .int .i64 r2.1.2.1, .int .i64 r2.1.2.2.1, .int .i64 r2.1.2.2.2.1, .int .i64 r2.1.2.2.2.2.1, .int .i64 r2.1.2.2.2.2.2.1, .int .i64 r2.1.2.2.2.2.2.2.1, .int .i64 r2.1.2.2.2.2.2.2.2]), (8, .int .i64 r2.2)] trivial ?_
  refine A.AL.store 0 [] (new := [.int .i64 r2.1.1, .int .i64 r2.1.2.1, .int .i64 r2.1.2.2.1, .int .i64 r2.1.2.2.2.1, .int .i64 r2.1.2.2.2.2.1, .int .i64 r2.1.2.2.2.2.2.1, .int .i64 r2.1.2.2.2.2.2.2.1, .int .i64 r2.1.2.2.2.2.2.2.2]) (cs' := [.int .i64 r2.1.1, .int .i64 r2.1.2.1, .int .i64 r2.1.2.2.1, .int .i64 r2.1.2.2.2.1, .int .i64 r2.1.2.2.2.2.1, .int .i64 r2.1.2.2.2.2.2.1, .int .i64 r2.1.2.2.2.2.2.2.1, .int .i64 r2.1.2.2.2.2.2.2.2]) ?_
  refine A.AL.q [] [] [.n] [3] [] [(3, .int .i64 r2.2)] trivial ?_
  refine A.AL.dn ?_
  obtain rfl := Option.some.inj hF
  exact A.AX.ret [] (.tuple #[.agg #[.int .i64 r2.1.1, .int .i64 r2.1.2.1, .int .i64 r2.1.2.2.1, .int .i64 r2.1.2.2.2.1, .int .i64 r2.1.2.2.2.2.1, .int .i64 r2.1.2.2.2.2.2.1, .int .i64 r2.1.2.2.2.2.2.2.1, .int .i64 r2.1.2.2.2.2.2.2.2], .int .i64 r2.2]) (fun a w hf hh => Z.resv2 rfl (Z.rv_n hf rfl Tryd.isAgg69 Tryd.sizeOf69 (A.Hp.blk hh 0) rfl) (Z.rv_t hf rfl)) (⟨rfl, rfl, hr4, hr5, hr6, hr7, hr8, hr9, hr10, hr11, hr12⟩)
end Go.Proofs.YtleiipbkfaajfaaDoor
end

section
set_option linter.unusedVariables false
set_option linter.unusedSimpArgs false
set_option maxRecDepth 20000
set_option maxHeartbeats 8000000
set_option synthInstance.maxSize 1000000
set_option synthInstance.maxHeartbeats 400000
namespace Go.Proofs.YtleiipbkfaajfaaDoor
open Go.RowKit
def F.R02_Leave (a0 : Int) : Option (D68 × Int) := if a0 < 1 then (some ((0, 0, 0, 0, (0, 0, 0, 0)), 11)) else (A.gd (Z.R64 (a0 - 1)) ((F.R02_step a0 (a0 - 1) 0 0).bind fun r3 => (some ((r3.1.1, r3.1.2.1, r3.1.2.2.1, r3.1.2.2.2.1, (r3.1.2.2.2.2.1, r3.1.2.2.2.2.2.1, r3.1.2.2.2.2.2.2.1, r3.1.2.2.2.2.2.2.2)), r3.2))))
theorem R02_Leave_ok (a0 : Int) (h0_ : IntKind.i64.has a0) (r : D68 × Int) (hF : F.R02_Leave a0 = some r) :
    A.Ct Tryd.prog 116 [.int .i64 a0] [] [] (fun v H' => v = .tuple #[.agg #[.int .i64 r.1.1, .int .i64 r.1.2.1, .int .i64 r.1.2.2.1, .int .i64 r.1.2.2.2.1, .int .i64 r.1.2.2.2.2.1, .int .i64 r.1.2.2.2.2.2.1, .int .i64 r.1.2.2.2.2.2.2.1, .int .i64 r.1.2.2.2.2.2.2.2], .int .i64 r.2] ∧ H' = [] ∧ IntKind.i64.has r.1.1 ∧ IntKind.i64.has r.1.2.1 ∧ IntKind.i64.has r.1.2.2.1 ∧ IntKind.i64.has r.1.2.2.2.1 ∧ IntKind.i64.has r.1.2.2.2.2.1 ∧ IntKind.i64.has r.1.2.2.2.2.2.1 ∧ IntKind.i64.has r.1.2.2.2.2.2.2.1 ∧ IntKind.i64.has r.1.2.2.2.2.2.2.2 ∧ IntKind.i64.has r.2) := by
  refine A.Ct.enter Tryd.func116 rfl Tryd.ntmps116 rfl fun w0 F0 => ?_
  rw [F.R02_Leave] at hF
  refine A.AX.sr ?_
  refine A.AL.alloc 0 (cs := [.int .i64 0, .int .i64 0, .int .i64 0, .int .i64 0, .int .i64 0, .int .i64 0, .int .i64 0, .int .i64 0]) Tryd.zeroValue69 fun g1 => ?_
  refine A.AL.q [] [] [.n] [] [] [] trivial ?_
  refine A.AL.dn ?_
  refine A.AX.seq ?_
  refine A.AX.sr ?_
  refine A.AL.q [] [] [.n, .n] [5] [] [(5, .bool (decide (a0 < 1)))] trivial ?_
  refine A.AL.dn ?_
  refine A.AX.cnd rfl hF (fun hb hF => ?_) (fun hb hF => ?_)
  · refine A.AX.sr ?_
    refine A.AL.q [] [] [.n] [6] [] [(6, .agg #[.int .i64 0, .int .i64 0, .int .i64 0, .int .i64 0, .int .i64 0, .int .i64 0, .int .i64 0, .int .i64 0])] trivial ?_
    refine A.AL.store 0 [] (new := [.int .i64 0, .int .i64 0, .int .i64 0, .int .i64 0, .int .i64 0, .int .i64 0, .int .i64 0, .int .i64 0]) (cs' := [.int .i64 0, .int .i64 0, .int .i64 0, .int .i64 0, .int .i64 0, .int .i64 0, .int .i64 0, .int .i64 0]) ?_
    refine A.AL.q [] [] [.n] [3] [] [(3, .int .i64 11)] trivial ?_
    refine A.AL.dn ?_
    obtain rfl := Option.some.inj hF
    exact A.AX.ret [] (.tuple #[.agg #[.int .i64 0, .int .i64 0, .int .i64 0, .int .i64 0, .int .i64 0, .int .i64 0, .int .i64 0, .int .i64 0], .int .i64 11]) (fun a w hf hh => Z.resv2 rfl (Z.rv_n hf rfl Tryd.isAgg69 Tryd.sizeOf69 (A.Hp.blk hh 0) rfl) (Z.rv_t hf rfl)) (⟨rfl, rfl, (A.hasl .i64 (0) rfl), (A.hasl .i64 (0) rfl), (A.hasl .i64 (0) rfl), (A.hasl .i64 (0) rfl), (A.hasl .i64 (0) rfl), (A.hasl .i64 (0) rfl), (A.hasl .i64 (0) rfl), (A.hasl .i64 (0) rfl), (A.hasl .i64 (11) rfl)⟩)
  · refine A.AX.skip ?_
    refine A.AE.c ?_
    refine A.AX.sr ?_
    obtain ⟨hc2, hF⟩ := A.gd_some hF
    refine A.AL.q [] [] [.n, .n, .n] [7, 9] [Z.R64 (a0 - 1)] [(7, .int .i64 a0), (9, .int .i64 (a0 - 1))] hc2 ?_
    obtain ⟨r3, hv4, hF⟩ := A.bd_some hF
    refine A.AL.call 1 [] (first := []) (cap := []) cf70 (R02_step_ok a0 (a0 - 1) 0 0 h0_ (Z.i64_has hc2) (A.hasl .i64 (0) rfl) (A.hasl .i64 (0) rfl) r3 hv4) .nil ?_
    rintro _ _ ⟨rfl, rfl, hr5, hr6, hr7, hr8, hr9, hr10, hr11, hr12, hr13⟩
    refine ⟨by kernel_rfl, ?_⟩
    refine A.AL.q [] [] [.n, .n] [11, 12] [] [(11, .agg #[.int .i64 r3.1.1, .int .i64 r3.1.2.1, .int .i64 r3.1.2.2.1, .int .i64 r3.1.2.2.2.1, .int .i64 r3.1.2.2.2.2.1, .int .i64 r3.1.2.2.2.2.2.1, .int .i64 r3.1.2.2.2.2.2.2.1, .int .i64 r3.1.2.2.2.2.2.2.2]), (12, .int .i64 r3.2)] trivial ?_
    refine A.AL.store 0 [] (new := [.int .i64 r3.1.1, .int .i64 r3.1.2.1, .int .i64 r3.1.2.2.1, .int .i64 r3.1.2.2.2.1, .int .i64 r3.1.2.2.2.2.1, .int .i64 r3.1.2.2.2.2.2.1, .int .i64 r3.1.2.2.2.2.2.2.1, .int .i64 r3.1.2.2.2.2.2.2.2]) (cs' := [.int .i64 r3.1.1, .int .i64 r3.1.2.1, .int .i64 r3.1.2.2.1, .int .i64 r3.1.2.2.2.1, .int .i64 r3.1.2.2.2.2.1, .int .i64 r3.1.2.2.2.2.2.1, .int .i64 r3.1.2.2.2.2.2.2.1, .int .i64 r3.1.2.2.2.2.2.2.2]) ?_
    refine A.AL.q [] [] [.n] [3] [] [(3, .int .i64 r3.2)] trivial ?_
    refine A.AL.dn ?_
    obtain rfl := Option.some.inj hF
    exact A.AX.ret [] (.tuple #[.agg #[.int .i64 r3.1.1, .int .i64 r3.1.2.1, .int .i64 r3.1.2.2.1, .int .i64 r3.1.2.2.2.1, .int .i64 r3.1.2.2.2.2.1, .int .i64 r3.1.2.2.2.2.2.1, .int .i64 r3.1.2.2.2.2.2.2.1, .int .i64 r3.1.2.2.2.2.2.2.2], .int .i64 r3.2]) (fun a w hf hh => Z.resv2 rfl (Z.rv_n hf rfl Tryd.isAgg69 Tryd.sizeOf69 (A.Hp.blk hh 0) rfl) (Z.rv_t hf rfl)) (⟨rfl, rfl, hr5, hr6, hr7, hr8, hr9, hr10, hr11, hr12, hr13⟩)

def F.R02_Next (a0 : Int) : Option (D68 × Int) := (F.R02_step a0 a0 1 0).bind fun r2 => (some ((r2.1.1, r2.1.2.1, r2.1.2.2.1, r2.1.2.2.2.1, (r2.1.2.2.2.2.1, r2.1.2.2.2.2.2.1, r2.1.2.2.2.2.2.2.1, r2.1.2.2.2.2.2.2.2)), r2.2))
theorem R02_Next_ok (a0 : Int) (h0_ : IntKind.i64.has a0) (r : D68 × Int) (hF : F.R02_Next a0 = some r) :
    A.Ct Tryd.prog 117 [.int .i64 a0] [] [] (fun v H' => v = .tuple #[.agg #[.int .i64 r.1.1, .int .i64 r.1.2.1, .int .i64 r.1.2.2.1, .int .i64 r.1.2.2.2.1, .int .i64 r.1.2.2.2.2.1, .int .i64 r.1.2.2.2.2.2.1, .int .i64 r.1.2.2.2.2.2.2.1, .int .i64 r.1.2.2.2.2.2.2.2], .int .i64 r.2] ∧ H' = [] ∧ IntKind.i64.has r.1.1 ∧ IntKind.i64.has r.1.2.1 ∧ IntKind.i64.has r.1.2.2.1 ∧ IntKind.i64.has r.1.2.2.2.1 ∧ IntKind.i64.has r.1.2.2.2.2.1 ∧ IntKind.i64.has r.1.2.2.2.2.2.1 ∧ IntKind.i64.has r.1.2.2.2.2.2.2.1 ∧ IntKind.i64.has r.1.2.2.2.2.2.2.2 ∧ IntKind.i64.has r.2) := by
  refine A.Ct.enter Tryd.func117 rfl Tryd.ntmps117 rfl fun w0 F0 => ?_
  rw [F.R02_Next] at hF
  refine A.AX.sr ?_
  refine A.AL.alloc 0 (cs := [.int .i64 0, .int .i64 0, .int .i64 0, .int .i64 0, .int .i64 0, .int .i64 0, .int .i64 0, .int .i64 0]) Tryd.zeroValue69 fun g1 => ?_
  refine A.AL.q [] [] [.n] [] [] [] trivial ?_
  refine A.AL.dn ?_
  refine A.AX.sr ?_
  refine A.AL.q [] [] [.n, .n] [4, 5] [] [(4, .int .i64 a0), (5, .int .i64 a0)] trivial ?_
  obtain ⟨r2, hv3, hF⟩ := A.bd_some hF
  refine A.AL.call 1 [] (first := []) (cap := []) cf70 (R02_step_ok a0 a0 1 0 h0_ h0_ (A.hasl .i64 (1) rfl) (A.hasl .i64 (0) rfl) r2 hv3) .nil ?_
  rintro _ _ ⟨rfl, rfl, hr4, hr5, hr6, hr7, hr8, hr9, hr10, hr11, hr12⟩
  refine ⟨by kernel_rfl, ?_⟩
  refine A.AL.q [] [] [.n, .n] [7, 8] [] [(7, .agg #[.int .i64 r2.1.1, .int .i64 r2.1.2.1, .int .i64 r2.1.2.2.1, .int .i64 r2.1.2.2.2.1, .int .i64 r2.1.2.2.2.2.1, .int .i64 r2.1.2.2.2.2.2.1, .int .i64 r2.1.2.2.2.2.2.2.1, .int .i64 r2.1.2.2.2.2.2.2.2]), (8, .int .i64 r2.2)] trivial ?_
  refine A.AL.store 0 [] (new := [.int .i64 r2.1.1, .int .i64 r2.1.2.1, .int .i64 r2.1.2.2.1, .int .i64 r2.1.2.2.2.1, .int .i64 r2.1.2.2.2.2.1, .int .i64 r2.1.2.2.2.2.2.1, .int .i64 r2.1.2.2.2.2.2.2.1, .int .i64 r2.1.2.2.2.2.2.2.2]) (cs' := [.int .i64 r2.1.1, .int .i64 r2.1.2.1, .int .i64 r2.1.2.2.1, .int .i64 r2.1.2.2.2.1, .int .i64 r2.1.2.2.2.2.1, .int .i64 r2.1.2.2.2.2.2.1, .int .i64 r2.1.2.2.2.2.2.2.1, .int .i64 r2.1.2.2.2.2.2.2.2]) ?_
  refine A.AL.q [] [] [.n] [3] [] [(3, .int .i64 r2.2)] trivial ?_
  refine A.AL.dn ?_
  obtain rfl := Option.some.inj hF
  exact A.AX.ret [] (.tuple #[.agg #[.int .i64 r2.1.1, .int .i64 r2.1.2.1, .int .i64 r2.1.2.2.1, .int .i64 r2.1.2.2.2.1, .int .i64 r2.1.2.2.2.2.1, .int .i64 r2.1.2.2.2.2.2.1, .int .i64 r2.1.2.2.2.2.2.2.1, .int .i64 r2.1.2.2.2.2.2.2.2], .int .i64 r2.2]) (fun a w hf hh => Z.resv2 rfl (Z.rv_n hf rfl Tryd.isAgg69 Tryd.sizeOf69 (A.Hp.blk hh 0) rfl) (Z.rv_t hf rfl)) (⟨rfl, rfl, hr4, hr5, hr6, hr7, hr8, hr9, hr10, hr11, hr12⟩)

def F.R08_within_j1 (y15 : Int) (y17 : Int) (y19 : Int) (y21 : Int) (y23 : Int) (y25 : Int) (y27 : Int) (y29 : Int) : Option D68 := some (y15, y17, y19, y21, (y23, y25, y27, y29))
def F.R08_within (a0 : D39) (a1 : Int) : Option D68 := (F.R02_Id a1).bind fun r3 => (if a0.2.1 = 12 then ((F.R02_Enter a1).bind fun r31 => (F.R08_within_j1 r31.1.1 r31.1.2.1 r31.1.2.2.1 r31.1.2.2.2.1 r31.1.2.2.2.2.1 r31.1.2.2.2.2.2.1 r31.1.2.2.2.2.2.2.1 r31.1.2.2.2.2.2.2.2)) else (if a0.2.1 = 13 then ((F.R02_Leave a1).bind fun r42 => (F.R08_within_j1 r42.1.1 r42.1.2.1 r42.1.2.2.1 r42.1.2.2.2.1 r42.1.2.2.2.2.1 r42.1.2.2.2.2.2.1 r42.1.2.2.2.2.2.2.1 r42.1.2.2.2.2.2.2.2)) else (if a0.2.1 = 14 then ((F.R02_Next a1).bind fun r53 => (F.R08_within_j1 r53.1.1 r53.1.2.1 r53.1.2.2.1 r53.1.2.2.2.1 r53.1.2.2.2.2.1 r53.1.2.2.2.2.2.1 r53.1.2.2.2.2.2.2.1 r53.1.2.2.2.2.2.2.2)) else (F.R08_within_j1 r3.1.1 r3.1.2.1 r3.1.2.2.1 r3.1.2.2.2.1 r3.1.2.2.2.2.1 r3.1.2.2.2.2.2.1 r3.1.2.2.2.2.2.2.1 r3.1.2.2.2.2.2.2.2))))
theorem R08_within_ok (a0 : D39) (a1 : Int) (A2_ : Option Addr) (c3_ : Nat) (h0_ : IntKind.i64.has a0.1) (h1_ : IntKind.i64.has a0.2.1) (h4_ : IntKind.i64.has a0.2.2.2.1.1) (h5_ : IntKind.i64.has a0.2.2.2.1.2.1) (h6_ : a0.2.2.2.1.2.2.size ≤ maxLen) (h7_ : a0.2.2.2.2.1.size ≤ maxLen) (h8_ : IntKind.i64.has a0.2.2.2.2.2.1) (h9_ : IntKind.i64.has a0.2.2.2.2.2.2) (h10_ : IntKind.i64.has a1) (r : D68) (hF : F.R08_within a0 a1 = some r) :
    A.Ct Tryd.prog 93 [.agg #[.int .i64 a0.1, .int .i64 a0.2.1, .slice A2_ ((a0.2.2.1).length) c3_, .int .i64 a0.2.2.2.1.1, .int .i64 a0.2.2.2.1.2.1, .string a0.2.2.2.1.2.2, .string a0.2.2.2.2.1, .int .i64 a0.2.2.2.2.2.1, .int .i64 a0.2.2.2.2.2.2], .int .i64 a1] [(0, .sh (.slice (Z.Ty.int .i64)) [.slice A2_ (a0.2.2.1).length c3_] a0.2.2.1)] [] (fun v H' => v = .agg #[.int .i64 r.1, .int .i64 r.2.1, .int .i64 r.2.2.1, .int .i64 r.2.2.2.1, .int .i64 r.2.2.2.2.1, .int .i64 r.2.2.2.2.2.1, .int .i64 r.2.2.2.2.2.2.1, .int .i64 r.2.2.2.2.2.2.2] ∧ H' = [] ∧ IntKind.i64.has r.1 ∧ IntKind.i64.has r.2.1 ∧ IntKind.i64.has r.2.2.1 ∧ IntKind.i64.has r.2.2.2.1 ∧ IntKind.i64.has r.2.2.2.2.1 ∧ IntKind.i64.has r.2.2.2.2.2.1 ∧ IntKind.i64.has r.2.2.2.2.2.2.1 ∧ IntKind.i64.has r.2.2.2.2.2.2.2) := by
  refine A.Ct.enter Tryd.func93 rfl Tryd.ntmps93 rfl fun w0 F0 => ?_
  rw [F.R08_within] at hF
  refine A.AX.sr ?_
  refine A.AL.box 1 (cs := [.int .i64 a0.1, .int .i64 a0.2.1, .slice A2_ ((a0.2.2.1).length) c3_, .int .i64 a0.2.2.2.1.1, .int .i64 a0.2.2.2.1.2.1, .string a0.2.2.2.1.2.2, .string a0.2.2.2.2.1, .int .i64 a0.2.2.2.2.2.1, .int .i64 a0.2.2.2.2.2.2]) fun g1 => ?_
  refine A.AL.alloc 2 (cs := [.int .i64 0, .int .i64 0, .int .i64 0, .int .i64 0, .int .i64 0, .int .i64 0, .int .i64 0, .int .i64 0]) Tryd.zeroValue69 fun g2 => ?_
  refine A.AL.dn ?_
  refine A.AX.sr ?_
  refine A.AL.q [] [] [.n] [8] [] [(8, .int .i64 a1)] trivial ?_
  obtain ⟨r3, hv4, hF⟩ := A.bd_some hF
  refine A.AL.call 3 [] (first := []) (cap := []) cf41 (R02_Id_ok a1 h10_ r3 hv4) .nil ?_
  rintro _ _ ⟨rfl, rfl, hr5, hr6, hr7, hr8, hr9, hr10, hr11, hr12, hr13⟩
  refine ⟨by kernel_rfl, ?_⟩
  refine A.AL.q [] [] [.n, .n, .n] [10, 11] [] [(10, .agg #[.int .i64 r3.1.1, .int .i64 r3.1.2.1, .int .i64 r3.1.2.2.1, .int .i64 r3.1.2.2.2.1, .int .i64 r3.1.2.2.2.2.1, .int .i64 r3.1.2.2.2.2.2.1, .int .i64 r3.1.2.2.2.2.2.2.1, .int .i64 r3.1.2.2.2.2.2.2.2]), (11, .int .i64 r3.2)] trivial ?_
  refine A.AL.alloc 43 (cs := [.int .i64 0, .int .i64 0, .int .i64 0, .int .i64 0, .int .i64 0, .int .i64 0, .int .i64 0, .int .i64 0]) Tryd.zeroValue69 fun g14 => ?_
  refine A.AL.store 43 [] (new := [.int .i64 r3.1.1, .int .i64 r3.1.2.1, .int .i64 r3.1.2.2.1, .int .i64 r3.1.2.2.2.1, .int .i64 r3.1.2.2.2.2.1, .int .i64 r3.1.2.2.2.2.2.1, .int .i64 r3.1.2.2.2.2.2.2.1, .int .i64 r3.1.2.2.2.2.2.2.2]) (cs' := [.int .i64 r3.1.1, .int .i64 r3.1.2.1, .int .i64 r3.1.2.2.1, .int .i64 r3.1.2.2.2.1, .int .i64 r3.1.2.2.2.2.1, .int .i64 r3.1.2.2.2.2.2.1, .int .i64 r3.1.2.2.2.2.2.2.1, .int .i64 r3.1.2.2.2.2.2.2.2]) ?_
  refine A.AL.q [] [] [.n] [] [] [] trivial ?_
  refine A.AL.dn ?_
  refine A.AX.join [4, 5] [2] (fun nl nh => ∃ (y15 : Int), ∃ (y17 : Int), ∃ (y19 : Int), ∃ (y21 : Int), ∃ (y23 : Int), ∃ (y25 : Int), ∃ (y27 : Int), ∃ (y29 : Int), nl = [] ∧ nh = [(43, .blk g14 69 [.int .i64 y15, .int .i64 y17, .int .i64 y19, .int .i64 y21, .int .i64 y23, .int .i64 y25, .int .i64 y27, .int .i64 y29])] ∧ IntKind.i64.has y15 ∧ IntKind.i64.has y17 ∧ IntKind.i64.has y19 ∧ IntKind.i64.has y21 ∧ IntKind.i64.has y23 ∧ IntKind.i64.has y25 ∧ IntKind.i64.has y27 ∧ IntKind.i64.has y29 ∧ F.R08_within_j1 y15 y17 y19 y21 y23 y25 y27 y29 = some r) ?_ ?_
  · refine A.AX.sr ?_
    refine A.AL.q [1] [] [.n, .b 0 1] [13] [] [(13, .int .i64 a0.2.1)] trivial ?_
    refine A.AL.dn ?_
    refine A.AX.block ?_
    refine A.AX.sr ?_
    refine A.AL.q [] [] [.n, .n] [14] [] [(14, .bool (decide (a0.2.1 = 12)))] trivial ?_
    refine A.AL.dn ?_
    refine A.AX.cnd rfl hF (fun hb hF => ?_) (fun hb hF => ?_)
    · refine A.AX.reg ?_
      refine A.AL.q [] [] [.n] [17] [] [(17, .int .i64 a1)] trivial ?_
      obtain ⟨r31, hv32, hF⟩ := A.bd_some hF
      refine A.AL.call 44 [] (first := []) (cap := []) cf115 (R02_Enter_ok a1 h10_ r31 hv32) .nil ?_
      rintro _ _ ⟨rfl, rfl, hr33, hr34, hr35, hr36, hr37, hr38, hr39, hr40, hr41⟩
      refine ⟨by kernel_rfl, ?_⟩
      refine A.AL.q [] [] [.n, .n, .n] [19] [] [(19, .agg #[.int .i64 r31.1.1, .int .i64 r31.1.2.1, .int .i64 r31.1.2.2.1, .int .i64 r31.1.2.2.2.1, .int .i64 r31.1.2.2.2.2.1, .int .i64 r31.1.2.2.2.2.2.1, .int .i64 r31.1.2.2.2.2.2.2.1, .int .i64 r31.1.2.2.2.2.2.2.2])] trivial ?_
      refine A.AL.store 43 [] (new := [.int .i64 r31.1.1, .int .i64 r31.1.2.1, .int .i64 r31.1.2.2.1, .int .i64 r31.1.2.2.2.1, .int .i64 r31.1.2.2.2.2.1, .int .i64 r31.1.2.2.2.2.2.1, .int .i64 r31.1.2.2.2.2.2.2.1, .int .i64 r31.1.2.2.2.2.2.2.2]) (cs' := [.int .i64 r31.1.1, .int .i64 r31.1.2.1, .int .i64 r31.1.2.2.1, .int .i64 r31.1.2.2.2.1, .int .i64 r31.1.2.2.2.2.1, .int .i64 r31.1.2.2.2.2.2.1, .int .i64 r31.1.2.2.2.2.2.2.1, .int .i64 r31.1.2.2.2.2.2.2.2]) ?_
      refine A.AL.done ?_
      refine A.AE.b ?_
      exact A.AE.j [43, 2] [] [(43, .blk g14 69 [.int .i64 r31.1.1, .int .i64 r31.1.2.1, .int .i64 r31.1.2.2.1, .int .i64 r31.1.2.2.2.1, .int .i64 r31.1.2.2.2.2.1, .int .i64 r31.1.2.2.2.2.2.1, .int .i64 r31.1.2.2.2.2.2.2.1, .int .i64 r31.1.2.2.2.2.2.2.2])] ⟨r31.1.1, r31.1.2.1, r31.1.2.2.1, r31.1.2.2.2.1, r31.1.2.2.2.2.1, r31.1.2.2.2.2.2.1, r31.1.2.2.2.2.2.2.1, r31.1.2.2.2.2.2.2.2, rfl, rfl, hr33, hr34, hr35, hr36, hr37, hr38, hr39, hr40, hF⟩
    · refine A.AX.sr ?_
      refine A.AL.q [] [] [.n, .n] [21] [] [(21, .bool (decide (a0.2.1 = 13)))] trivial ?_
      refine A.AL.dn ?_
      refine A.AX.cnd rfl hF (fun hb hF => ?_) (fun hb hF => ?_)
      · refine A.AX.reg ?_
        refine A.AL.q [] [] [.n] [24] [] [(24, .int .i64 a1)] trivial ?_
        obtain ⟨r42, hv43, hF⟩ := A.bd_some hF
        refine A.AL.call 84 [] (first := []) (cap := []) cf116 (R02_Leave_ok a1 h10_ r42 hv43) .nil ?_
        rintro _ _ ⟨rfl, rfl, hr44, hr45, hr46, hr47, hr48, hr49, hr50, hr51, hr52⟩
        refine ⟨by kernel_rfl, ?_⟩
        refine A.AL.q [] [] [.n, .n, .n] [26] [] [(26, .agg #[.int .i64 r42.1.1, .int .i64 r42.1.2.1, .int .i64 r42.1.2.2.1, .int .i64 r42.1.2.2.2.1, .int .i64 r42.1.2.2.2.2.1, .int .i64 r42.1.2.2.2.2.2.1, .int .i64 r42.1.2.2.2.2.2.2.1, .int .i64 r42.1.2.2.2.2.2.2.2])] trivial ?_
        refine A.AL.store 43 [] (new := [.int .i64 r42.1.1, .int .i64 r42.1.2.1, .int .i64 r42.1.2.2.1, .int .i64 r42.1.2.2.2.1, .int .i64 r42.1.2.2.2.2.1, .int .i64 r42.1.2.2.2.2.2.1, .int .i64 r42.1.2.2.2.2.2.2.1, .int .i64 r42.1.2.2.2.2.2.2.2]) (cs' := [.int .i64 r42.1.1, .int .i64 r42.1.2.1, .int .i64 r42.1.2.2.1, .int .i64 r42.1.2.2.2.1, .int .i64 r42.1.2.2.2.2.1, .int .i64 r42.1.2.2.2.2.2.1, .int .i64 r42.1.2.2.2.2.2.2.1, .int .i64 r42.1.2.2.2.2.2.2.2]) ?_
        refine A.AL.done ?_
        refine A.AE.b ?_
        exact A.AE.j [43, 2] [] [(43, .blk g14 69 [.int .i64 r42.1.1, .int .i64 r42.1.2.1, .int .i64 r42.1.2.2.1, .int .i64 r42.1.2.2.2.1, .int .i64 r42.1.2.2.2.2.1, .int .i64 r42.1.2.2.2.2.2.1, .int .i64 r42.1.2.2.2.2.2.2.1, .int .i64 r42.1.2.2.2.2.2.2.2])] ⟨r42.1.1, r42.1.2.1, r42.1.2.2.1, r42.1.2.2.2.1, r42.1.2.2.2.2.1, r42.1.2.2.2.2.2.1, r42.1.2.2.2.2.2.2.1, r42.1.2.2.2.2.2.2.2, rfl, rfl, hr44, hr45, hr46, hr47, hr48, hr49, hr50, hr51, hF⟩
      · refine A.AX.sr ?_
        refine A.AL.q [] [] [.n, .n] [28] [] [(28, .bool (decide (a0.2.1 = 14)))] trivial ?_
        refine A.AL.dn ?_
        refine A.AX.cnd rfl hF (fun hb hF => ?_) (fun hb hF => ?_)
        · refine A.AX.reg ?_
          refine A.AL.q [] [] [.n] [31] [] [(31, .int .i64 a1)] trivial ?_
          obtain ⟨r53, hv54, hF⟩ := A.bd_some hF
          refine A.AL.call 124 [] (first := []) (cap := []) cf117 (R02_Next_ok a1 h10_ r53 hv54) .nil ?_
          rintro _ _ ⟨rfl, rfl, hr55, hr56, hr57, hr58, hr59, hr60, hr61, hr62, hr63⟩
          refine ⟨by kernel_rfl, ?_⟩
          refine A.AL.q [] [] [.n, .n, .n] [33] [] [(33, .agg #[.int .i64 r53.1.1, .int .i64 r53.1.2.1, .int .i64 r53.1.2.2.1, .int .i64 r53.1.2.2.2.1, .int .i64 r53.1.2.2.2.2.1, .int .i64 r53.1.2.2.2.2.2.1, .int .i64 r53.1.2.2.2.2.2.2.1, .int .i64 r53.1.2.2.2.2.2.2.2])] trivial ?_
          refine A.AL.store 43 [] (new := [.int .i64 r53.1.1, .int .i64 r53.1.2.1, .int .i64 r53.1.2.2.1, .int .i64 r53.1.2.2.2.1, .int .i64 r53.1.2.2.2.2.1, .int .i64 r53.1.2.2.2.2.2.1, .int .i64 r53.1.2.2.2.2.2.2.1, .int .i64 r53.1.2.2.2.2.2.2.2]) (cs' := [.int .i64 r53.1.1, .int .i64 r53.1.2.1, .int .i64 r53.1.2.2.1, .int .i64 r53.1.2.2.2.1, .int .i64 r53.1.2.2.2.2.1, .int .i64 r53.1.2.2.2.2.2.1, .int .i64 r53.1.2.2.2.2.2.2.1, .int .i64 r53.1.2.2.2.2.2.2.2]) ?_
          refine A.AL.done ?_
          refine A.AE.b ?_
          exact A.AE.j [43, 2] [] [(43, .blk g14 69 [.int .i64 r53.1.1, .int .i64 r53.1.2.1, .int .i64 r53.1.2.2.1, .int .i64 r53.1.2.2.2.1, .int .i64 r53.1.2.2.2.2.1, .int .i64 r53.1.2.2.2.2.2.1, .int .i64 r53.1.2.2.2.2.2.2.1, .int .i64 r53.1.2.2.2.2.2.2.2])] ⟨r53.1.1, r53.1.2.1, r53.1.2.2.1, r53.1.2.2.2.1, r53.1.2.2.2.2.1, r53.1.2.2.2.2.2.1, r53.1.2.2.2.2.2.2.1, r53.1.2.2.2.2.2.2.2, rfl, rfl, hr55, hr56, hr57, hr58, hr59, hr60, hr61, hr62, hF⟩
        · refine A.AX.skip ?_
          refine A.AE.b ?_
          exact A.AE.j [43, 2] [] [(43, .blk g14 69 [.int .i64 r3.1.1, .int .i64 r3.1.2.1, .int .i64 r3.1.2.2.1, .int .i64 r3.1.2.2.2.1, .int .i64 r3.1.2.2.2.2.1, .int .i64 r3.1.2.2.2.2.2.1, .int .i64 r3.1.2.2.2.2.2.2.1, .int .i64 r3.1.2.2.2.2.2.2.2])] ⟨r3.1.1, r3.1.2.1, r3.1.2.2.1, r3.1.2.2.2.1, r3.1.2.2.2.2.1, r3.1.2.2.2.2.2.1, r3.1.2.2.2.2.2.2.1, r3.1.2.2.2.2.2.2.2, rfl, rfl, hr5, hr6, hr7, hr8, hr9, hr10, hr11, hr12, hF⟩
  · rintro _ _ ⟨y15, y17, y19, y21, y23, y25, y27, y29, rfl, rfl, hy16, hy18, hy20, hy22, hy24, hy26, hy28, hy30, hF⟩
    rw [F.R08_within_j1] at hF
    refine A.AX.sr ?_
    refine A.AL.q [43] [] [.b 0 0] [35] [] [(35, .agg #[.int .i64 y15, .int .i64 y17, .int .i64 y19, .int .i64 y21, .int .i64 y23, .int .i64 y25, .int .i64 y27, .int .i64 y29])] trivial ?_
    refine A.AL.store 2 [] (new := [.int .i64 y15, .int .i64 y17, .int .i64 y19, .int .i64 y21, .int .i64 y23, .int .i64 y25, .int .i64 y27, .int .i64 y29]) (cs' := [.int .i64 y15, .int .i64 y17, .int .i64 y19, .int .i64 y21, .int .i64 y23, .int .i64 y25, .int .i64 y27, .int .i64 y29]) ?_
    refine A.AL.dn ?_
    obtain rfl := Option.some.inj hF
    exact A.AX.ret [] (.agg #[.int .i64 y15, .int .i64 y17, .int .i64 y19, .int .i64 y21, .int .i64 y23, .int .i64 y25, .int .i64 y27, .int .i64 y29]) (fun a w hf hh => Z.resv1 rfl (Z.rv_n hf rfl Tryd.isAgg69 Tryd.sizeOf69 (A.Hp.blk hh 2) rfl)) (⟨rfl, rfl, hy16, hy18, hy20, hy22, hy24, hy26, hy28, hy30⟩)

def F.R08_Find (a0 : D23) (a1 : Int) : Option (D39 × Bool) := (F.R08_index a0 a1).bind fun r3 => (if r3 < 0 then (some ((0, 0, [], (0, 0, ByteArray.mk #[]), ByteArray.mk #[], 0, 0), false)) else ((A.ix a0 r3).bind fun x6 => (A.gd ((List.length (α := Int) [] + List.length (α := Int) x6.2.2.1) * 8 ≤ 140737488355328) (some ((x6.1, x6.2.1, [] ++ x6.2.2.1, (x6.2.2.2.1.1, x6.2.2.2.1.2.1, x6.2.2.2.1.2.2), x6.2.2.2.2.1, x6.2.2.2.2.2.1, x6.2.2.2.2.2.2), true)))))
theorem R08_Find_ok (a0 : D23) (a1 : Int) (A0_ : Option Addr) (c1_ : Nat) (h2_ : IntKind.i64.has a1) (r : D39 × Bool) (hF : F.R08_Find a0 a1 = some r) :
    A.Ct Tryd.prog 29 [.agg #[.slice A0_ ((a0).length) c1_], .int .i64 a1] [(0, .sh (.slice T39) [.slice A0_ (a0).length c1_] a0)] [] (fun v H' => ∃ (A0' : Option Addr) (c1' : Nat), v = .tuple #[.agg #[.int .i64 r.1.1, .int .i64 r.1.2.1, .slice A0' ((r.1.2.2.1).length) c1', .int .i64 r.1.2.2.2.1.1, .int .i64 r.1.2.2.2.1.2.1, .string r.1.2.2.2.1.2.2, .string r.1.2.2.2.2.1, .int .i64 r.1.2.2.2.2.2.1, .int .i64 r.1.2.2.2.2.2.2], .bool r.2] ∧ H' = [(0, .sh (.slice (Z.Ty.int .i64)) [.slice A0' (r.1.2.2.1).length c1'] r.1.2.2.1)] ∧ IntKind.i64.has r.1.1 ∧ IntKind.i64.has r.1.2.1 ∧ IntKind.i64.has r.1.2.2.2.1.1 ∧ IntKind.i64.has r.1.2.2.2.1.2.1 ∧ r.1.2.2.2.1.2.2.size ≤ maxLen ∧ r.1.2.2.2.2.1.size ≤ maxLen ∧ IntKind.i64.has r.1.2.2.2.2.2.1 ∧ IntKind.i64.has r.1.2.2.2.2.2.2) := by
  refine A.Ct.enter Tryd.func29 rfl Tryd.ntmps29 rfl fun w0 F0 => ?_
  rw [F.R08_Find] at hF
  refine A.AX.sr ?_
  refine A.AL.box 1 (cs := [.slice A0_ ((a0).length) c1_]) fun g1 => ?_
  refine A.AL.alloc 2 (cs := [.int .i64 0, .int .i64 0, .slice none 0 0, .int .i64 0, .int .i64 0, .string (ByteArray.mk #[]), .string (ByteArray.mk #[]), .int .i64 0, .int .i64 0]) Tryd.zeroValue40 fun g2 => ?_
  refine A.AL.q [] [] [.n] [] [] [] trivial ?_
  refine A.AL.dn ?_
  refine A.AX.sr ?_
  refine A.AL.q [1] [] [.b 0 0, .n] [8, 9] [] [(8, .agg #[.slice A0_ ((a0).length) c1_]), (9, .int .i64 a1)] trivial ?_
  obtain ⟨r3, hv4, hF⟩ := A.bd_some hF
  refine A.AL.call 3 [] (first := []) (cap := []) cf60 (R08_index_ok a0 a1 A0_ c1_ h2_ r3 hv4) (.s 0 .nil) ?_
  rintro _ _ ⟨rfl, rfl, hr5⟩
  refine ⟨by kernel_rfl, ?_⟩
  refine A.AL.q [] [] [.n] [6] [] [(6, .int .i64 r3)] trivial ?_
  refine A.AL.dn ?_
  refine A.AX.seq ?_
  refine A.AX.sr ?_
  refine A.AL.q [] [] [.n, .n] [12] [] [(12, .bool (decide (r3 < 0)))] trivial ?_
  refine A.AL.dn ?_
  refine A.AX.cnd rfl hF (fun hb hF => ?_) (fun hb hF => ?_)
  · refine A.AX.sr ?_
    refine A.AL.q [] [] [.n] [13] [] [(13, .agg #[.int .i64 0, .int .i64 0, .slice none 0 0, .int .i64 0, .int .i64 0, .string (ByteArray.mk #[]), .string (ByteArray.mk #[]), .int .i64 0, .int .i64 0])] trivial ?_
    refine A.AL.store 2 [] (new := [.int .i64 0, .int .i64 0, .slice none 0 0, .int .i64 0, .int .i64 0, .string (ByteArray.mk #[]), .string (ByteArray.mk #[]), .int .i64 0, .int .i64 0]) (cs' := [.int .i64 0, .int .i64 0, .slice none 0 0, .int .i64 0, .int .i64 0, .string (ByteArray.mk #[]), .string (ByteArray.mk #[]), .int .i64 0, .int .i64 0]) ?_
    refine A.AL.q [] [] [.n] [5] [] [(5, .bool false)] trivial ?_
    refine A.AL.dn ?_
    obtain rfl := Option.some.inj hF
    refine A.snil 43 (Z.Ty.int .i64) ?_
    exact A.AX.ret [(0, 43)] (.tuple #[.agg #[.int .i64 0, .int .i64 0, .slice none 0 0, .int .i64 0, .int .i64 0, .string (ByteArray.mk #[]), .string (ByteArray.mk #[]), .int .i64 0, .int .i64 0], .bool false]) (fun a w hf hh => Z.resv2 rfl (Z.rv_n hf rfl Tryd.isAgg40 Tryd.sizeOf40 (A.Hp.blk hh 2) rfl) (Z.rv_t hf rfl)) (⟨none, 0, rfl, rfl, (A.hasl .i64 (0) rfl), (A.hasl .i64 (0) rfl), (A.hasl .i64 (0) rfl), (A.hasl .i64 (0) rfl), (A.szl (ByteArray.mk #[]) rfl), (A.szl (ByteArray.mk #[]) rfl), (A.hasl .i64 (0) rfl), (A.hasl .i64 (0) rfl)⟩)
  · refine A.AX.skip ?_
    refine A.AE.c ?_
    refine A.AX.sr ?_
    refine A.AL.q [1] [] [.n, .b 0 0, .n] [15, 16] [] [(15, .slice A0_ ((a0).length) c1_), (16, .int .i64 r3)] trivial ?_
    obtain ⟨x6, hv7, hF⟩ := A.bd_some hF
    refine A.AL.ixs 0 44 hv7 fun ho8 => ?_
    intro A9 c10 b11 o12
    refine A.AL.q [] [44] [.e 0 0] [18] [] [(18, .agg #[.int .i64 x6.1, .int .i64 x6.2.1, .slice A9 ((x6.2.2.1).length) c10, .int .i64 x6.2.2.2.1.1, .int .i64 x6.2.2.2.1.2.1, .string x6.2.2.2.1.2.2, .string x6.2.2.2.2.1, .int .i64 x6.2.2.2.2.2.1, .int .i64 x6.2.2.2.2.2.2])] trivial ?_
    refine A.AL.alloc 46 (cs := [.int .i64 0, .int .i64 0, .slice none 0 0, .int .i64 0, .int .i64 0, .string (ByteArray.mk #[]), .string (ByteArray.mk #[]), .int .i64 0, .int .i64 0]) Tryd.zeroValue40 fun g13 => ?_
    refine A.AL.store 46 [] (new := [.int .i64 x6.1, .int .i64 x6.2.1, .slice A9 ((x6.2.2.1).length) c10, .int .i64 x6.2.2.2.1.1, .int .i64 x6.2.2.2.1.2.1, .string x6.2.2.2.1.2.2, .string x6.2.2.2.2.1, .int .i64 x6.2.2.2.2.2.1, .int .i64 x6.2.2.2.2.2.2]) (cs' := [.int .i64 x6.1, .int .i64 x6.2.1, .slice A9 ((x6.2.2.1).length) c10, .int .i64 x6.2.2.2.1.1, .int .i64 x6.2.2.2.1.2.1, .string x6.2.2.2.1.2.2, .string x6.2.2.2.2.1, .int .i64 x6.2.2.2.2.2.1, .int .i64 x6.2.2.2.2.2.2]) ?_
    refine A.AL.dn ?_
    refine A.AX.sr ?_
    refine A.AL.q [46] [] [.n, .b 0 2] [20] [] [(20, .slice A9 ((x6.2.2.1).length) c10)] trivial ?_
    refine A.nil 47 (Z.Ty.int .i64) 3 ?_
    obtain ⟨hl16, hF⟩ := A.gd_some hF
    refine A.AL.app (k := 47) [] (A.rowS (k := 45) rfl) inf3 hl16 fun A14 c15 => ?_
    refine A.AL.q [] [] [.n] [22] [] [(22, .pointer (some ⟨g13, 2, none⟩))] trivial ?_
    refine A.AL.store 46 [] (new := [.slice A14 (([] ++ x6.2.2.1).length) c15]) (cs' := [.int .i64 x6.1, .int .i64 x6.2.1, .slice A14 (([] ++ x6.2.2.1).length) c15, .int .i64 x6.2.2.2.1.1, .int .i64 x6.2.2.2.1.2.1, .string x6.2.2.2.1.2.2, .string x6.2.2.2.2.1, .int .i64 x6.2.2.2.2.2.1, .int .i64 x6.2.2.2.2.2.2]) ?_
    refine A.AL.dn ?_
    refine A.AX.sr ?_
    refine A.AL.q [46] [] [.b 0 0] [23] [] [(23, .agg #[.int .i64 x6.1, .int .i64 x6.2.1, .slice A14 (([] ++ x6.2.2.1).length) c15, .int .i64 x6.2.2.2.1.1, .int .i64 x6.2.2.2.1.2.1, .string x6.2.2.2.1.2.2, .string x6.2.2.2.2.1, .int .i64 x6.2.2.2.2.2.1, .int .i64 x6.2.2.2.2.2.2])] trivial ?_
    refine A.AL.store 2 [] (new := [.int .i64 x6.1, .int .i64 x6.2.1, .slice A14 (([] ++ x6.2.2.1).length) c15, .int .i64 x6.2.2.2.1.1, .int .i64 x6.2.2.2.1.2.1, .string x6.2.2.2.1.2.2, .string x6.2.2.2.2.1, .int .i64 x6.2.2.2.2.2.1, .int .i64 x6.2.2.2.2.2.2]) (cs' := [.int .i64 x6.1, .int .i64 x6.2.1, .slice A14 (([] ++ x6.2.2.1).length) c15, .int .i64 x6.2.2.2.1.1, .int .i64 x6.2.2.2.1.2.1, .string x6.2.2.2.1.2.2, .string x6.2.2.2.2.1, .int .i64 x6.2.2.2.2.2.1, .int .i64 x6.2.2.2.2.2.2]) ?_
    refine A.AL.q [] [] [.n] [5] [] [(5, .bool true)] trivial ?_
    refine A.AL.dn ?_
    obtain rfl := Option.some.inj hF
    refine A.frz 47 [] ?_
    exact A.AX.ret [(0, 47)] (.tuple #[.agg #[.int .i64 x6.1, .int .i64 x6.2.1, .slice A14 (([] ++ x6.2.2.1).length) c15, .int .i64 x6.2.2.2.1.1, .int .i64 x6.2.2.2.1.2.1, .string x6.2.2.2.1.2.2, .string x6.2.2.2.2.1, .int .i64 x6.2.2.2.2.2.1, .int .i64 x6.2.2.2.2.2.2], .bool true]) (fun a w hf hh => Z.resv2 rfl (Z.rv_n hf rfl Tryd.isAgg40 Tryd.sizeOf40 (A.Hp.blk hh 2) rfl) (Z.rv_t hf rfl)) (⟨A14, c15, rfl, rfl, ho8.1, ho8.2.1, ho8.2.2.2.1.1, ho8.2.2.2.1.2.1, ho8.2.2.2.1.2.2, ho8.2.2.2.2.1, ho8.2.2.2.2.2.1, ho8.2.2.2.2.2.2⟩)
end Go.Proofs.YtleiipbkfaajfaaDoor
end

section
set_option linter.unusedVariables false
set_option linter.unusedSimpArgs false
set_option maxRecDepth 20000
set_option maxHeartbeats 8000000
set_option synthInstance.maxSize 1000000
set_option synthInstance.maxHeartbeats 400000
namespace Go.Proofs.YtleiipbkfaajfaaDoor
open Go.RowKit
def F.R08_edges_j1 (k30 : (List D70) → Int → Option (List D70)) (y5 : Int) (xs10 : List D70) : Option (List D70) := A.gd (Z.R64 (y5 + 1)) (k30 xs10 (y5 + 1))
def F.R08_edges_j2 (k30 : (List D70) → Int → Option (List D70)) (y5 : Int) (xs33 : List D70) : Option (List D70) := F.R08_edges_j1 k30 y5 xs33
def F.R08_edges_j3 (k38 : (List D70) → Int → Option (List D70)) (y80 : Int) (xs92 : List D70) : Option (List D70) := A.gd (Z.R64 (y80 + 1)) (k38 xs92 (y80 + 1))
def F.R08_edges_l4 (k37 : (List D70) → Int → Option (List D70)) (a0 : D23) (x12 : D84) (r18 : D39 × Bool) (r59 : D68 × Int) (y74 : Int) : Nat → (List D70) → Int → Option (List D70)
  | 0, _, _ => none
  | f + 1, xs79, y80 => (A.ix a0 y74).bind fun x83 => (if y80 < ((x83.2.2.1).length : Int) then ((A.ix a0 y74).bind fun x94 => ((A.ix x94.2.2.1 y80).bind fun x102 => (if x102 = r18.1.1 then ((A.ix a0 y74).bind fun x108 => (A.gd ((List.length (α := D70) xs79 + List.length (α := D70) [((x12.1.1, x12.1.2), (x108.1, y80), (r59.1.1, r59.1.2.1, r59.1.2.2.1, r59.1.2.2.2.1, (r59.1.2.2.2.2.1, r59.1.2.2.2.2.2.1, r59.1.2.2.2.2.2.2.1, r59.1.2.2.2.2.2.2.2)))]) * 96 ≤ 140737488355328) (F.R08_edges_j3 (F.R08_edges_l4 k37 a0 x12 r18 r59 y74 f) y80 (xs79 ++ [((x12.1.1, x12.1.2), (x108.1, y80), (r59.1.1, r59.1.2.1, r59.1.2.2.1, r59.1.2.2.2.1, (r59.1.2.2.2.2.1, r59.1.2.2.2.2.2.1, r59.1.2.2.2.2.2.2.1, r59.1.2.2.2.2.2.2.2)))])))) else (F.R08_edges_j3 (F.R08_edges_l4 k37 a0 x12 r18 r59 y74 f) y80 xs79)))) else (A.gd (Z.R64 (y74 + 1)) (k37 xs79 (y74 + 1))))
def F.R08_edges_l5 (k30 : (List D70) → Int → Option (List D70)) (a0 : D23) (y5 : Int) (x12 : D84) (r18 : D39 × Bool) (r59 : D68 × Int) : Nat → (List D70) → Int → Option (List D70)
  | 0, _, _ => none
  | f + 1, xs73, y74 => if y74 < ((a0).length : Int) then (F.R08_edges_l4 (F.R08_edges_l5 k30 a0 y5 x12 r18 r59 f) a0 x12 r18 r59 y74 A.FU xs73 0) else (F.R08_edges_j1 k30 y5 xs73)
def F.R08_edges_l6 (a0 : D23) (a1 : (List D84)) : Nat → (List D70) → Int → Option (List D70)
  | 0, _, _ => none
  | f + 1, xs4, y5 => if y5 < ((a1).length : Int) then ((A.ix a1 y5).bind fun x12 => ((F.R08_Find a0 x12.1.1).bind fun r18 => (if x12.1.2 ≠ 2 then (if r18.1.2.1 ≠ 15 then ((A.ix a1 y5).bind fun x34 => ((F.R08_within (r18.1.1, r18.1.2.1, r18.1.2.2.1, (r18.1.2.2.2.1.1, r18.1.2.2.2.1.2.1, r18.1.2.2.2.1.2.2), r18.1.2.2.2.2.1, r18.1.2.2.2.2.2.1, r18.1.2.2.2.2.2.2) x34.2).bind fun r40 => (A.gd ((List.length (α := D70) xs4 + List.length (α := D70) [((x12.1.1, x12.1.2), (r18.1.1, 2), (r40.1, r40.2.1, r40.2.2.1, r40.2.2.2.1, (r40.2.2.2.2.1, r40.2.2.2.2.2.1, r40.2.2.2.2.2.2.1, r40.2.2.2.2.2.2.2)))]) * 96 ≤ 140737488355328) (F.R08_edges_j2 (F.R08_edges_l6 a0 a1 f) y5 (xs4 ++ [((x12.1.1, x12.1.2), (r18.1.1, 2), (r40.1, r40.2.1, r40.2.2.1, r40.2.2.2.1, (r40.2.2.2.2.1, r40.2.2.2.2.2.1, r40.2.2.2.2.2.2.1, r40.2.2.2.2.2.2.2)))]))))) else (F.R08_edges_j2 (F.R08_edges_l6 a0 a1 f) y5 xs4)) else ((A.ix a1 y5).bind fun x54 => ((F.R02_Id x54.2).bind fun r59 => (F.R08_edges_l5 (F.R08_edges_l6 a0 a1 f) a0 y5 x12 r18 r59 A.FU xs4 0)))))) else (some xs4)
def F.R08_edges (a0 : D23) (a1 : (List D84)) : Option (List D70) := F.R08_edges_l6 a0 a1 A.FU [] 0
theorem R08_edges_ok (a0 : D23) (a1 : (List D84)) (A0_ : Option Addr) (c1_ : Nat) (A2_ : Option Addr) (c3_ : Nat) (r : (List D70)) (hF : F.R08_edges a0 a1 = some r) :
    A.Ct Tryd.prog 74 [.agg #[.slice A0_ ((a0).length) c1_], .slice A2_ ((a1).length) c3_] [(0, .sh (.slice T39) [.slice A0_ (a0).length c1_] a0), (1, .ln T84 A2_ c3_ a1)] [] (fun v H' => ∃ (A0' : Option Addr) (c1' : Nat), v = .slice A0' ((r).length) c1' ∧ H' = [(0, .own T70 71 A0' c1' r)]) := by
  refine A.Ct.enter Tryd.func74 rfl Tryd.ntmps74 rfl fun w0 F0 => ?_
  rw [F.R08_edges] at hF
  refine A.AX.sr ?_
  refine A.AL.box 2 (cs := [.slice A0_ ((a0).length) c1_]) fun g1 => ?_
  refine A.AL.q [] [] [.n] [] [] [] trivial ?_
  refine A.AL.dn ?_
  refine A.AX.sr ?_
  refine A.AL.q [] [] [.n] [5] [] [(5, .slice none 0 0)] trivial ?_
  refine A.AL.dn ?_
  refine A.AX.seq ?_
  refine A.AX.sr ?_
  refine A.AL.q [] [] [.n] [6] [] [(6, .int .i64 0)] trivial ?_
  refine A.AL.dn ?_
  refine A.AX.block ?_
  refine A.nil 489 T70 71 ?_
  refine A.AX.loop [1, 2] [0, 1, 2] [489, 0, 1, 2] (fun f nl nh => ∃ (xs4 : List D70), ∃ (y5 : Int), ∃ (A2 : Option Addr), ∃ (c3 : Nat), nl = [(5, .slice A2 ((xs4).length) c3), (6, .int .i64 y5)] ∧ nh = [(489, .own T70 71 A2 c3 xs4)] ∧ IntKind.i64.has y5 ∧ F.R08_edges_l6 a0 a1 f xs4 y5 = some r) A.FU [(5, .slice none 0 0), (6, .int .i64 0)] [(489, .own T70 71 none 0 [])] ⟨[], 0, none, 0, rfl, rfl, (A.hasl .i64 (0) rfl), hF⟩ ?_
  rintro f7 _ _ ⟨xs4, y5, A2, c3, rfl, rfl, hy6, hF⟩
  cases f7 with
  | zero => exact A.no0 hF
  | succ f7 =>
    rw [F.R08_edges_l6] at hF
    refine A.AX.seq ?_
    refine A.AX.sr ?_
    refine A.AL.q [] [] [.n, .n, .n, .n] [17] [] [(17, .bool (decide (y5 < ((a1).length : Int))))] trivial ?_
    refine A.AL.dn ?_
    refine A.AX.cnd rfl hF (fun hb hF => ?_) (fun hb hF => ?_)
    · refine A.AX.skip ?_
      refine A.AE.c ?_
      refine A.AX.join [1, 2, 6] [0, 1, 2] (fun nl nh => ∃ (xs10 : List D70), ∃ (A8 : Option Addr), ∃ (c9 : Nat), nl = [(5, .slice A8 ((xs10).length) c9)] ∧ nh = [(489, .own T70 71 A8 c9 xs10)] ∧ F.R08_edges_j1 (F.R08_edges_l6 a0 a1 f7) y5 xs10 = some r) ?_ ?_
      · refine A.AX.block ?_
        refine A.AX.sr ?_
        refine A.AL.q [] [] [.n, .n] [20, 21] [] [(20, .slice A2_ ((a1).length) c3_), (21, .int .i64 y5)] trivial ?_
        obtain ⟨x12, hv13, hF⟩ := A.bd_some hF
        refine A.AL.ixl 1 888 hv13 fun ho14 => ?_
        intro b15 o16
        refine A.AL.q [] [888] [.n, .e 0 0] [24] [] [(24, .agg #[.int .i64 x12.1.1, .int .i64 x12.1.2])] trivial ?_
        refine A.AL.alloc 889 (cs := [.int .i64 0, .int .i64 0]) Tryd.zeroValue55 fun g17 => ?_
        refine A.AL.store 889 [] (new := [.int .i64 x12.1.1, .int .i64 x12.1.2]) (cs' := [.int .i64 x12.1.1, .int .i64 x12.1.2]) ?_
        refine A.AL.dn ?_
        refine A.AX.sr ?_
        refine A.AL.q [2, 889] [] [.b 0 0, .n, .b 1 0] [26, 28] [] [(26, .agg #[.slice A0_ ((a0).length) c1_]), (28, .int .i64 x12.1.1)] trivial ?_
        obtain ⟨r18, hv19, hF⟩ := A.bd_some hF
        refine A.AL.call 890 [] (first := []) (cap := []) cf29 (R08_Find_ok a0 x12.1.1 A0_ c1_ ho14.1.1 r18 hv19) (.s 0 .nil) ?_
        rintro _ _ ⟨A22, c23, rfl, rfl, hr20, hr21, hr24, hr25, hr26, hr27, hr28, hr29⟩
        refine ⟨by kernel_rfl, ?_⟩
        refine A.AL.q [] [] [.n, .n, .n] [30, 31] [] [(30, .agg #[.int .i64 r18.1.1, .int .i64 r18.1.2.1, .slice A22 ((r18.1.2.2.1).length) c23, .int .i64 r18.1.2.2.2.1.1, .int .i64 r18.1.2.2.2.1.2.1, .string r18.1.2.2.2.1.2.2, .string r18.1.2.2.2.2.1, .int .i64 r18.1.2.2.2.2.2.1, .int .i64 r18.1.2.2.2.2.2.2]), (31, .bool r18.2)] trivial ?_
        refine A.AL.alloc 930 (cs := [.int .i64 0, .int .i64 0, .slice none 0 0, .int .i64 0, .int .i64 0, .string (ByteArray.mk #[]), .string (ByteArray.mk #[]), .int .i64 0, .int .i64 0]) Tryd.zeroValue40 fun g30 => ?_
        refine A.AL.store 930 [] (new := [.int .i64 r18.1.1, .int .i64 r18.1.2.1, .slice A22 ((r18.1.2.2.1).length) c23, .int .i64 r18.1.2.2.2.1.1, .int .i64 r18.1.2.2.2.1.2.1, .string r18.1.2.2.2.1.2.2, .string r18.1.2.2.2.2.1, .int .i64 r18.1.2.2.2.2.2.1, .int .i64 r18.1.2.2.2.2.2.2]) (cs' := [.int .i64 r18.1.1, .int .i64 r18.1.2.1, .slice A22 ((r18.1.2.2.1).length) c23, .int .i64 r18.1.2.2.2.1.1, .int .i64 r18.1.2.2.2.1.2.1, .string r18.1.2.2.2.1.2.2, .string r18.1.2.2.2.2.1, .int .i64 r18.1.2.2.2.2.2.1, .int .i64 r18.1.2.2.2.2.2.2]) ?_
        refine A.AL.q [] [] [.n] [] [] [] trivial ?_
        refine A.AL.dn ?_
        refine A.AX.seq ?_
        refine A.AX.sr ?_
        refine A.AL.q [889] [] [.n, .b 0 1, .n] [34] [] [(34, .bool (decide (x12.1.2 ≠ 2)))] trivial ?_
        refine A.AL.dn ?_
        refine A.AX.cnd rfl hF (fun hb hF => ?_) (fun hb hF => ?_)
        · refine A.AX.join [1, 2, 6] [0, 1, 2] (fun nl nh => ∃ (xs33 : List D70), ∃ (A31 : Option Addr), ∃ (c32 : Nat), nl = [(5, .slice A31 ((xs33).length) c32)] ∧ nh = [(489, .own T70 71 A31 c32 xs33)] ∧ F.R08_edges_j2 (F.R08_edges_l6 a0 a1 f7) y5 xs33 = some r) ?_ ?_
          · refine A.AX.sr ?_
            refine A.AL.q [930] [] [.n, .b 0 1, .n] [37] [] [(37, .bool (decide (r18.1.2.1 ≠ 15)))] trivial ?_
            refine A.AL.dn ?_
            refine A.AX.cnd rfl hF (fun hb hF => ?_) (fun hb hF => ?_)
            · refine A.AX.dr mixed 16 16 [false, false, false, false, false, false, false, false, false, false, false, false, false, false, false, false] ?_
              refine A.AH.q (A.pk_kont (Z.Pq.body _ _ _)) [] [0, 1, 2, 888, 889, 890, 930] [889, 930] [] [true, true, true, true, true, true, true, true, false, false, false, false, false, false, false, false] 8 [(0, .n), (1, .b 0 0), (2, .n), (5, .b 1 0), (6, .n), (7, .n), (3, .b 1 0), (4, .n)] [38, 39, 43, 44, 45, 42] [] [(38, .slice A2 ((xs4).length) c3), (39, .agg #[.int .i64 x12.1.1, .int .i64 x12.1.2]), (43, .agg #[.int .i64 r18.1.1, .int .i64 r18.1.2.1, .slice A22 ((r18.1.2.2.1).length) c23, .int .i64 r18.1.2.2.2.1.1, .int .i64 r18.1.2.2.2.1.2.1, .string r18.1.2.2.2.1.2.2, .string r18.1.2.2.2.2.1, .int .i64 r18.1.2.2.2.2.2.1, .int .i64 r18.1.2.2.2.2.2.2]), (44, .slice A2_ ((a1).length) c3_), (45, .int .i64 y5), (42, .agg #[.int .i64 r18.1.1, .int .i64 2])] trivial ?_
              obtain ⟨x34, hv35, hF⟩ := A.bd_some hF
              refine A.AH.pkl 1 931 hv35 fun ho36 => ?_
              intro b38 o39 hA37
              refine A.AH.v (A.pk_kont (Z.Pq.body _ _ _)) [0, 1, 2, 888, 889, 890, 930] [0, 1, 2, 888, 889, 890, 930, 931] 8 [true, true, true, true, true, true, true, true, true, false, false, false, false, false, false, false] rfl (fun a w hf hh => A.r_ixa (t := T84) hv35 hA37 hf) ?_
              refine A.AH.q (A.pk_kont (Z.Pq.body _ _ _)) [0, 1, 2, 888, 889, 890, 930, 931] [0, 1, 2, 888, 889, 890, 930, 931] [] [931] [true, true, true, true, true, true, true, true, true, true, true, false, false, false, false, false] 5 [(9, .n), (10, .e 0 2)] [48] [] [(48, .int .i64 x34.2)] trivial ?_
              refine A.AH.one 11 ?_
              obtain ⟨r40, hv41, hF⟩ := A.bd_some hF
              refine A.AL.call 932 [] (first := []) (cap := []) cf93 (R08_within_ok (r18.1.1, r18.1.2.1, r18.1.2.2.1, (r18.1.2.2.2.1.1, r18.1.2.2.2.1.2.1, r18.1.2.2.2.1.2.2), r18.1.2.2.2.2.1, r18.1.2.2.2.2.2.1, r18.1.2.2.2.2.2.2) x34.2 A22 c23 hr20 hr21 hr24 hr25 hr26 hr27 hr28 hr29 ho36.2 r40 hv41) (.s 890 .nil) ?_
              rintro _ _ ⟨rfl, rfl, hr42, hr43, hr44, hr45, hr46, hr47, hr48, hr49⟩
              refine ⟨by kernel_rfl, ?_⟩
              refine A.AH.nx [true, true, true, true, true, true, true, true, true, true, true, true, false, false, false, false] [0, 1, 2, 888, 889, 890, 930, 931] ?_
              refine A.AH.q (A.pk_kont (Z.Pq.body _ _ _)) [0, 1, 2, 888, 889, 890, 930, 931] [0, 1, 2, 888, 889, 890, 930, 931] [] [] [true, true, true, true, true, true, true, true, true, true, true, true, true, false, false, false] 3 [(12, .n)] [50] [] [(50, .agg #[.int .i64 x12.1.1, .int .i64 x12.1.2, .int .i64 r18.1.1, .int .i64 2, .int .i64 r40.1, .int .i64 r40.2.1, .int .i64 r40.2.2.1, .int .i64 r40.2.2.2.1, .int .i64 r40.2.2.2.2.1, .int .i64 r40.2.2.2.2.2.1, .int .i64 r40.2.2.2.2.2.2.1, .int .i64 r40.2.2.2.2.2.2.2])] trivial ?_
              refine A.AH.one 13 ?_
              refine A.AL.bsl 972 (ty := T70) (cs := [.int .i64 x12.1.1, .int .i64 x12.1.2, .int .i64 r18.1.1, .int .i64 2, .int .i64 r40.1, .int .i64 r40.2.1, .int .i64 r40.2.2.1, .int .i64 r40.2.2.2.1, .int .i64 r40.2.2.2.2.1, .int .i64 r40.2.2.2.2.2.1, .int .i64 r40.2.2.2.2.2.2.1, .int .i64 r40.2.2.2.2.2.2.2]) [((x12.1.1, x12.1.2), (r18.1.1, 2), (r40.1, r40.2.1, r40.2.2.1, r40.2.2.2.1, (r40.2.2.2.2.1, r40.2.2.2.2.2.1, r40.2.2.2.2.2.2.1, r40.2.2.2.2.2.2.2)))] ⟨⟨⟨⟨rfl, ho14.1.1⟩, ⟨rfl, ho14.1.2⟩⟩, ⟨⟨rfl, hr20⟩, ⟨rfl, (A.hasl .i64 (2) rfl)⟩⟩, ⟨⟨rfl, hr42⟩, ⟨rfl, hr43⟩, ⟨rfl, hr44⟩, ⟨rfl, hr45⟩, ⟨⟨rfl, hr46⟩, ⟨rfl, hr47⟩, ⟨rfl, hr48⟩, ⟨rfl, hr49⟩⟩⟩⟩, rfl⟩ (fun g50 => ?_) Tryd.zeroValue71 Tryd.sizeOf71
              refine A.AH.nx [true, true, true, true, true, true, true, true, true, true, true, true, true, true, false, false] [0, 1, 2, 888, 889, 890, 930, 931] ?_
              refine A.AH.one 14 ?_
              obtain ⟨hl53, hF⟩ := A.gd_some hF
              refine A.AL.app (k := 489) [] (A.rowO (k := 972) rfl) inf71 hl53 fun A51 c52 => ?_
              refine A.AH.nx [true, true, true, true, true, true, true, true, true, true, true, true, true, true, true, false] [0, 1, 2, 888, 889, 890, 930, 931] ?_
              refine A.AH.q (A.pk_kont (Z.Pq.body _ _ _)) [0, 1, 2, 888, 889, 890, 930, 931] [0, 1, 2, 489, 888, 889, 890, 930, 931, 972] [] [] [true, true, true, true, true, true, true, true, true, true, true, true, true, true, true, true] 0 [(15, .n)] [5] [] [(5, .slice A51 ((xs4 ++ [((x12.1.1, x12.1.2), (r18.1.1, 2), (r40.1, r40.2.1, r40.2.2.1, r40.2.2.2.1, (r40.2.2.2.2.1, r40.2.2.2.2.2.1, r40.2.2.2.2.2.2.1, r40.2.2.2.2.2.2.2)))]).length) c52)] trivial ?_
              refine A.AH.done ?_
              exact A.AE.j [489, 0, 1, 2] [(5, .slice A51 ((xs4 ++ [((x12.1.1, x12.1.2), (r18.1.1, 2), (r40.1, r40.2.1, r40.2.2.1, r40.2.2.2.1, (r40.2.2.2.2.1, r40.2.2.2.2.2.1, r40.2.2.2.2.2.2.1, r40.2.2.2.2.2.2.2)))]).length) c52)] [(489, .own T70 71 A51 c52 (xs4 ++ [((x12.1.1, x12.1.2), (r18.1.1, 2), (r40.1, r40.2.1, r40.2.2.1, r40.2.2.2.1, (r40.2.2.2.2.1, r40.2.2.2.2.2.1, r40.2.2.2.2.2.2.1, r40.2.2.2.2.2.2.2)))]))] ⟨(xs4 ++ [((x12.1.1, x12.1.2), (r18.1.1, 2), (r40.1, r40.2.1, r40.2.2.1, r40.2.2.2.1, (r40.2.2.2.2.1, r40.2.2.2.2.2.1, r40.2.2.2.2.2.2.1, r40.2.2.2.2.2.2.2)))]), A51, c52, rfl, rfl, hF⟩
            · refine A.AX.skip ?_
              exact A.AE.j [489, 0, 1, 2] [(5, .slice A2 ((xs4).length) c3)] [(489, .own T70 71 A2 c3 xs4)] ⟨xs4, A2, c3, rfl, rfl, hF⟩
          · rintro _ _ ⟨xs33, A31, c32, rfl, rfl, hF⟩
            rw [F.R08_edges_j2] at hF
            refine A.AX.exit rfl ?_
            exact A.AE.j [489, 0, 1, 2] [(5, .slice A31 ((xs33).length) c32)] [(489, .own T70 71 A31 c32 xs33)] ⟨xs33, A31, c32, rfl, rfl, hF⟩
        · refine A.AX.skip ?_
          refine A.AE.c ?_
          refine A.AX.sr ?_
          refine A.AL.q [] [] [.n, .n] [54, 55] [] [(54, .slice A2_ ((a1).length) c3_), (55, .int .i64 y5)] trivial ?_
          obtain ⟨x54, hv55, hF⟩ := A.bd_some hF
          refine A.AL.ixl 1 973 hv55 fun ho56 => ?_
          intro b57 o58
          refine A.AL.q [] [973] [.n, .e 0 2] [58] [] [(58, .int .i64 x54.2)] trivial ?_
          obtain ⟨r59, hv60, hF⟩ := A.bd_some hF
          refine A.AL.call 974 [] (first := []) (cap := []) cf41 (R02_Id_ok x54.2 ho56.2 r59 hv60) .nil ?_
          rintro _ _ ⟨rfl, rfl, hr61, hr62, hr63, hr64, hr65, hr66, hr67, hr68, hr69⟩
          refine ⟨by kernel_rfl, ?_⟩
          refine A.AL.q [] [] [.n, .n, .n] [60, 61] [] [(60, .agg #[.int .i64 r59.1.1, .int .i64 r59.1.2.1, .int .i64 r59.1.2.2.1, .int .i64 r59.1.2.2.2.1, .int .i64 r59.1.2.2.2.2.1, .int .i64 r59.1.2.2.2.2.2.1, .int .i64 r59.1.2.2.2.2.2.2.1, .int .i64 r59.1.2.2.2.2.2.2.2]), (61, .int .i64 r59.2)] trivial ?_
          refine A.AL.alloc 1014 (cs := [.int .i64 0, .int .i64 0, .int .i64 0, .int .i64 0, .int .i64 0, .int .i64 0, .int .i64 0, .int .i64 0]) Tryd.zeroValue69 fun g70 => ?_
          refine A.AL.store 1014 [] (new := [.int .i64 r59.1.1, .int .i64 r59.1.2.1, .int .i64 r59.1.2.2.1, .int .i64 r59.1.2.2.2.1, .int .i64 r59.1.2.2.2.2.1, .int .i64 r59.1.2.2.2.2.2.1, .int .i64 r59.1.2.2.2.2.2.2.1, .int .i64 r59.1.2.2.2.2.2.2.2]) (cs' := [.int .i64 r59.1.1, .int .i64 r59.1.2.1, .int .i64 r59.1.2.2.1, .int .i64 r59.1.2.2.2.1, .int .i64 r59.1.2.2.2.2.1, .int .i64 r59.1.2.2.2.2.2.1, .int .i64 r59.1.2.2.2.2.2.2.1, .int .i64 r59.1.2.2.2.2.2.2.2]) ?_
          refine A.AL.q [] [] [.n] [] [] [] trivial ?_
          refine A.AL.dn ?_
          refine A.AX.sr ?_
          refine A.AL.q [] [] [.n] [12] [] [(12, .int .i64 0)] trivial ?_
          refine A.AL.dn ?_
          refine A.AX.block ?_
          refine A.AX.loop [1, 2, 6, 7, 8, 10] [0, 1, 2, 889, 890, 930, 1014] [489, 0, 1, 2, 889, 890, 930, 1014] (fun f nl nh => ∃ (xs73 : List D70), ∃ (y74 : Int), ∃ (A71 : Option Addr), ∃ (c72 : Nat), nl = [(5, .slice A71 ((xs73).length) c72), (12, .int .i64 y74)] ∧ nh = [(489, .own T70 71 A71 c72 xs73)] ∧ IntKind.i64.has y74 ∧ F.R08_edges_l5 (F.R08_edges_l6 a0 a1 f7) a0 y5 x12 r18 r59 f xs73 y74 = some r) A.FU [(5, .slice A2 ((xs4).length) c3), (12, .int .i64 0)] [(489, .own T70 71 A2 c3 xs4)] ⟨xs4, 0, A2, c3, rfl, rfl, (A.hasl .i64 (0) rfl), hF⟩ ?_
          rintro f76 _ _ ⟨xs73, y74, A71, c72, rfl, rfl, hy75, hF⟩
          cases f76 with
          | zero => exact A.no0 hF
          | succ f76 =>
            rw [F.R08_edges_l5] at hF
            refine A.AX.seq ?_
            refine A.AX.sr ?_
            refine A.AL.q [2] [] [.n, .n, .b 0 0, .n, .n] [66] [] [(66, .bool (decide (y74 < ((a0).length : Int))))] trivial ?_
            refine A.AL.dn ?_
            refine A.AX.cnd rfl hF (fun hb hF => ?_) (fun hb hF => ?_)
            · refine A.AX.skip ?_
              refine A.AE.c ?_
              refine A.AX.seq ?_
              refine A.AX.block ?_
              refine A.AX.sr ?_
              refine A.AL.q [] [] [.n] [13] [] [(13, .int .i64 0)] trivial ?_
              refine A.AL.dn ?_
              refine A.AX.block ?_
              refine A.AX.loop [1, 2, 6, 7, 8, 10, 12] [0, 1, 2, 889, 890, 930, 1014] [489, 0, 1, 2, 889, 890, 930, 1014] (fun f nl nh => ∃ (xs79 : List D70), ∃ (y80 : Int), ∃ (A77 : Option Addr), ∃ (c78 : Nat), nl = [(5, .slice A77 ((xs79).length) c78), (13, .int .i64 y80)] ∧ nh = [(489, .own T70 71 A77 c78 xs79)] ∧ IntKind.i64.has y80 ∧ F.R08_edges_l4 (F.R08_edges_l5 (F.R08_edges_l6 a0 a1 f7) a0 y5 x12 r18 r59 f76) a0 x12 r18 r59 y74 f xs79 y80 = some r) A.FU [(5, .slice A71 ((xs73).length) c72), (13, .int .i64 0)] [(489, .own T70 71 A71 c72 xs73)] ⟨xs73, 0, A71, c72, rfl, rfl, (A.hasl .i64 (0) rfl), hF⟩ ?_
              rintro f82 _ _ ⟨xs79, y80, A77, c78, rfl, rfl, hy81, hF⟩
              cases f82 with
              | zero => exact A.no0 hF
              | succ f82 =>
                rw [F.R08_edges_l4] at hF
                refine A.AX.seq ?_
                refine A.AX.sr ?_
                refine A.AL.q [2] [] [.n, .n, .b 0 0, .n] [69, 71, 72] [] [(69, .int .i64 y80), (71, .slice A0_ ((a0).length) c1_), (72, .int .i64 y74)] trivial ?_
                obtain ⟨x83, hv84, hF⟩ := A.bd_some hF
                refine A.AL.ixs 0 1079 hv84 fun ho85 => ?_
                intro A86 c87 b88 o89
                refine A.AL.q [] [1079] [.n, .e 0 2, .n, .n] [77] [] [(77, .bool (decide (y80 < ((x83.2.2.1).length : Int))))] trivial ?_
                refine A.AL.dn ?_
                refine A.AX.cnd rfl hF (fun hb hF => ?_) (fun hb hF => ?_)
                · refine A.AX.skip ?_
                  refine A.AE.c ?_
                  refine A.AX.join [1, 2, 6, 7, 8, 10, 12, 13] [0, 1, 2, 889, 890, 930, 1014] (fun nl nh => ∃ (xs92 : List D70), ∃ (A90 : Option Addr), ∃ (c91 : Nat), nl = [(5, .slice A90 ((xs92).length) c91)] ∧ nh = [(489, .own T70 71 A90 c91 xs92)] ∧ F.R08_edges_j3 (F.R08_edges_l4 (F.R08_edges_l5 (F.R08_edges_l6 a0 a1 f7) a0 y5 x12 r18 r59 f76) a0 x12 r18 r59 y74 f82) y80 xs92 = some r) ?_ ?_
                  · refine A.AX.block ?_
                    refine A.AX.seq ?_
                    refine A.AX.dr mixed 12 12 [false, false, false, false, false, false, false, false, false, false, false, false] ?_
                    refine A.AH.q (A.pk_kont (Z.Pq.body _ _ _)) [] [0, 1, 2, 489, 889, 890, 930, 1014, 1079, 1080] [2, 930] [] [true, true, true, false, false, false, true, false, false, true, true, false] 6 [(0, .n), (2, .n), (6, .n), (9, .n), (1, .b 0 0), (10, .b 1 0)] [82, 86, 81, 90] [] [(82, .int .i64 y74), (86, .int .i64 y80), (81, .slice A0_ ((a0).length) c1_), (90, .int .i64 r18.1.1)] trivial ?_
                    obtain ⟨x94, hv95, hF⟩ := A.bd_some hF
                    refine A.AH.pks 0 1081 hv95 fun ho96 => ?_
                    intro A98 c99 b100 o101 hA97
                    refine A.AH.v (A.pk_kont (Z.Pq.body _ _ _)) [0, 1, 2, 489, 889, 890, 930, 1014, 1079, 1080] [0, 1, 2, 489, 889, 890, 930, 1014, 1079, 1080, 1081, 1082] 3 [true, true, true, true, false, false, true, false, false, true, true, false] rfl (fun a w hf hh => A.r_ixa (t := T39) hv95 hA97 hf) ?_
                    refine A.AH.q (A.pk_kont (Z.Pq.body _ _ _)) [0, 1, 2, 489, 889, 890, 930, 1014, 1079, 1080, 1081, 1082] [0, 1, 2, 489, 889, 890, 930, 1014, 1079, 1080, 1081, 1082] [] [1081] [true, true, true, true, true, true, true, false, false, true, true, false] 3 [(4, .n), (5, .e 0 2)] [85] [] [(85, .slice A98 ((x94.2.2.1).length) c99)] trivial ?_
                    obtain ⟨x102, hv103, hF⟩ := A.bd_some hF
                    refine A.AH.pks 1082 1083 hv103 fun ho104 => ?_
                    intro b106 o107 hA105
                    refine A.AH.v (A.pk_kont (Z.Pq.body _ _ _)) [0, 1, 2, 489, 889, 890, 930, 1014, 1079, 1080, 1081, 1082] [0, 1, 2, 489, 889, 890, 930, 1014, 1079, 1080, 1081, 1082, 1083] 7 [true, true, true, true, true, true, true, true, false, true, true, false] rfl (fun a w hf hh => A.r_ixa (t := (Z.Ty.int .i64)) hv103 hA105 hf) ?_
                    refine A.AH.q (A.pk_kont (Z.Pq.body _ _ _)) [0, 1, 2, 489, 889, 890, 930, 1014, 1079, 1080, 1081, 1082, 1083] [0, 1, 2, 489, 889, 890, 930, 1014, 1079, 1080, 1081, 1082, 1083] [] [1083] [true, true, true, true, true, true, true, true, true, true, true, true] 0 [(8, .e 0 0), (11, .n)] [91] [] [(91, .bool (decide (x102 = r18.1.1)))] trivial ?_
                    refine A.AH.done ?_
                    refine A.AE.c ?_
                    refine A.AX.cnd rfl hF (fun hb hF => ?_) (fun hb hF => ?_)
                    · refine A.AX.dr mixed 15 15 [false, false, false, false, false, false, false, false, false, false, false, false, false, false, false] ?_
                      refine A.AH.q (A.pk_kont (Z.Pq.body _ _ _)) [] [0, 1, 2, 889, 890, 930, 1014, 1079, 1080, 1081, 1082, 1083] [889, 1014, 2] [] [true, true, true, true, true, false, false, false, true, false, true, false, false, false, false] 8 [(0, .n), (1, .b 0 0), (2, .n), (4, .n), (8, .n), (10, .b 1 0), (3, .b 2 0)] [92, 93, 96, 100, 102, 95] [] [(92, .slice A77 ((xs79).length) c78), (93, .agg #[.int .i64 x12.1.1, .int .i64 x12.1.2]), (96, .int .i64 y74), (100, .int .i64 y80), (102, .agg #[.int .i64 r59.1.1, .int .i64 r59.1.2.1, .int .i64 r59.1.2.2.1, .int .i64 r59.1.2.2.2.1, .int .i64 r59.1.2.2.2.2.1, .int .i64 r59.1.2.2.2.2.2.1, .int .i64 r59.1.2.2.2.2.2.2.1, .int .i64 r59.1.2.2.2.2.2.2.2]), (95, .slice A0_ ((a0).length) c1_)] trivial ?_
                      obtain ⟨x108, hv109, hF⟩ := A.bd_some hF
                      refine A.AH.pks 0 1084 hv109 fun ho110 => ?_
                      intro A112 c113 b114 o115 hA111
                      refine A.AH.v (A.pk_kont (Z.Pq.body _ _ _)) [0, 1, 2, 889, 890, 930, 1014, 1079, 1080, 1081, 1082, 1083] [0, 1, 2, 889, 890, 930, 1014, 1079, 1080, 1081, 1082, 1083, 1084, 1085] 5 [true, true, true, true, true, true, false, false, true, false, true, false, false, false, false] rfl (fun a w hf hh => A.r_ixa (t := T39) hv109 hA111 hf) ?_
                      refine A.AH.q (A.pk_kont (Z.Pq.body _ _ _)) [0, 1, 2, 889, 890, 930, 1014, 1079, 1080, 1081, 1082, 1083, 1084, 1085] [0, 1, 2, 889, 890, 930, 1014, 1079, 1080, 1081, 1082, 1083, 1084, 1085] [] [1084] [true, true, true, true, true, true, true, true, true, true, true, true, false, false, false] 3 [(6, .n), (7, .e 0 0), (9, .n), (11, .n)] [103] [] [(103, .agg #[.int .i64 x12.1.1, .int .i64 x12.1.2, .int .i64 x108.1, .int .i64 y80, .int .i64 r59.1.1, .int .i64 r59.1.2.1, .int .i64 r59.1.2.2.1, .int .i64 r59.1.2.2.2.1, .int .i64 r59.1.2.2.2.2.1, .int .i64 r59.1.2.2.2.2.2.1, .int .i64 r59.1.2.2.2.2.2.2.1, .int .i64 r59.1.2.2.2.2.2.2.2])] trivial ?_
                      refine A.AH.one 12 ?_
                      refine A.AL.bsl 1086 (ty := T70) (cs := [.int .i64 x12.1.1, .int .i64 x12.1.2, .int .i64 x108.1, .int .i64 y80, .int .i64 r59.1.1, .int .i64 r59.1.2.1, .int .i64 r59.1.2.2.1, .int .i64 r59.1.2.2.2.1, .int .i64 r59.1.2.2.2.2.1, .int .i64 r59.1.2.2.2.2.2.1, .int .i64 r59.1.2.2.2.2.2.2.1, .int .i64 r59.1.2.2.2.2.2.2.2]) [((x12.1.1, x12.1.2), (x108.1, y80), (r59.1.1, r59.1.2.1, r59.1.2.2.1, r59.1.2.2.2.1, (r59.1.2.2.2.2.1, r59.1.2.2.2.2.2.1, r59.1.2.2.2.2.2.2.1, r59.1.2.2.2.2.2.2.2)))] ⟨⟨⟨⟨rfl, ho14.1.1⟩, ⟨rfl, ho14.1.2⟩⟩, ⟨⟨rfl, ho110.1⟩, ⟨rfl, hy81⟩⟩, ⟨⟨rfl, hr61⟩, ⟨rfl, hr62⟩, ⟨rfl, hr63⟩, ⟨rfl, hr64⟩, ⟨⟨rfl, hr65⟩, ⟨rfl, hr66⟩, ⟨rfl, hr67⟩, ⟨rfl, hr68⟩⟩⟩⟩, rfl⟩ (fun g116 => ?_) Tryd.zeroValue71 Tryd.sizeOf71
                      refine A.AH.nx [true, true, true, true, true, true, true, true, true, true, true, true, true, false, false] [0, 1, 2, 889, 890, 930, 1014, 1079, 1080, 1081, 1082, 1083, 1084, 1085] ?_
                      refine A.AH.one 13 ?_
                      obtain ⟨hl119, hF⟩ := A.gd_some hF
                      refine A.AL.app (k := 489) [] (A.rowO (k := 1086) rfl) inf71 hl119 fun A117 c118 => ?_
                      refine A.AH.nx [true, true, true, true, true, true, true, true, true, true, true, true, true, true, false] [0, 1, 2, 889, 890, 930, 1014, 1079, 1080, 1081, 1082, 1083, 1084, 1085] ?_
                      refine A.AH.q (A.pk_kont (Z.Pq.body _ _ _)) [0, 1, 2, 889, 890, 930, 1014, 1079, 1080, 1081, 1082, 1083, 1084, 1085] [0, 1, 2, 489, 889, 890, 930, 1014, 1079, 1080, 1081, 1082, 1083, 1084, 1085, 1086] [] [] [true, true, true, true, true, true, true, true, true, true, true, true, true, true, true] 0 [(14, .n)] [5] [] [(5, .slice A117 ((xs79 ++ [((x12.1.1, x12.1.2), (x108.1, y80), (r59.1.1, r59.1.2.1, r59.1.2.2.1, r59.1.2.2.2.1, (r59.1.2.2.2.2.1, r59.1.2.2.2.2.2.1, r59.1.2.2.2.2.2.2.1, r59.1.2.2.2.2.2.2.2)))]).length) c118)] trivial ?_
                      refine A.AH.done ?_
                      refine A.AE.b ?_
                      exact A.AE.j [489, 0, 1, 2, 889, 890, 930, 1014] [(5, .slice A117 ((xs79 ++ [((x12.1.1, x12.1.2), (x108.1, y80), (r59.1.1, r59.1.2.1, r59.1.2.2.1, r59.1.2.2.2.1, (r59.1.2.2.2.2.1, r59.1.2.2.2.2.2.1, r59.1.2.2.2.2.2.2.1, r59.1.2.2.2.2.2.2.2)))]).length) c118)] [(489, .own T70 71 A117 c118 (xs79 ++ [((x12.1.1, x12.1.2), (x108.1, y80), (r59.1.1, r59.1.2.1, r59.1.2.2.1, r59.1.2.2.2.1, (r59.1.2.2.2.2.1, r59.1.2.2.2.2.2.1, r59.1.2.2.2.2.2.2.1, r59.1.2.2.2.2.2.2.2)))]))] ⟨(xs79 ++ [((x12.1.1, x12.1.2), (x108.1, y80), (r59.1.1, r59.1.2.1, r59.1.2.2.1, r59.1.2.2.2.1, (r59.1.2.2.2.2.1, r59.1.2.2.2.2.2.1, r59.1.2.2.2.2.2.2.1, r59.1.2.2.2.2.2.2.2)))]), A117, c118, rfl, rfl, hF⟩
                    · refine A.AX.skip ?_
                      refine A.AE.b ?_
                      exact A.AE.j [489, 0, 1, 2, 889, 890, 930, 1014] [(5, .slice A77 ((xs79).length) c78)] [(489, .own T70 71 A77 c78 xs79)] ⟨xs79, A77, c78, rfl, rfl, hF⟩
                  · rintro _ _ ⟨xs92, A90, c91, rfl, rfl, hF⟩
                    rw [F.R08_edges_j3] at hF
                    refine A.AX.reg ?_
                    obtain ⟨hc93, hF⟩ := A.gd_some hF
                    refine A.AL.q [] [] [.n, .n, .n] [13] [Z.R64 (y80 + 1)] [(13, .int .i64 (y80 + 1))] hc93 ?_
                    refine A.AL.done ?_
                    exact A.AE.j [489, 0, 1, 2, 889, 890, 930, 1014] [(5, .slice A90 ((xs92).length) c91), (13, .int .i64 (y80 + 1))] [(489, .own T70 71 A90 c91 xs92)] ⟨_, Nat.lt_succ_self _, ⟨xs92, (y80 + 1), A90, c91, rfl, rfl, (Z.i64_has hc93), hF⟩⟩
                · refine A.AX.exit rfl ?_
                  refine A.AE.b ?_
                  refine A.AE.c ?_
                  refine A.AX.reg ?_
                  obtain ⟨hc120, hF⟩ := A.gd_some hF
                  refine A.AL.q [] [] [.n, .n, .n] [12] [Z.R64 (y74 + 1)] [(12, .int .i64 (y74 + 1))] hc120 ?_
                  refine A.AL.done ?_
                  exact A.AE.j [489, 0, 1, 2, 889, 890, 930, 1014] [(5, .slice A77 ((xs79).length) c78), (12, .int .i64 (y74 + 1))] [(489, .own T70 71 A77 c78 xs79)] ⟨_, Nat.lt_succ_self _, ⟨xs79, (y74 + 1), A77, c78, rfl, rfl, (Z.i64_has hc120), hF⟩⟩
            · refine A.AX.exit rfl ?_
              refine A.AE.b ?_
              exact A.AE.j [489, 0, 1, 2] [(5, .slice A71 ((xs73).length) c72)] [(489, .own T70 71 A71 c72 xs73)] ⟨xs73, A71, c72, rfl, rfl, hF⟩
      · rintro _ _ ⟨xs10, A8, c9, rfl, rfl, hF⟩
        rw [F.R08_edges_j1] at hF
        refine A.AX.reg ?_
        obtain ⟨hc11, hF⟩ := A.gd_some hF
        refine A.AL.q [] [] [.n, .n, .n] [6] [Z.R64 (y5 + 1)] [(6, .int .i64 (y5 + 1))] hc11 ?_
        refine A.AL.done ?_
        exact A.AE.j [489, 0, 1, 2] [(5, .slice A8 ((xs10).length) c9), (6, .int .i64 (y5 + 1))] [(489, .own T70 71 A8 c9 xs10)] ⟨_, Nat.lt_succ_self _, ⟨xs10, (y5 + 1), A8, c9, rfl, rfl, (Z.i64_has hc11), hF⟩⟩
    · refine A.AX.exit rfl ?_
      refine A.AE.c ?_
      refine A.AX.sr ?_
      refine A.AL.q [] [] [.n, .n] [4] [] [(4, .slice A2 ((xs4).length) c3)] trivial ?_
      refine A.AL.dn ?_
      obtain rfl := Option.some.inj hF
      exact A.AX.ret [(0, 489)] (.slice A2 ((xs4).length) c3) (fun a w hf hh => Z.resv1 rfl (Z.rv_t hf rfl)) (⟨A2, c3, rfl, rfl⟩)

def F.R08_letter (a0 : UInt8) : Option Bool := if (bif decide ((97 : Int) ≤ (a0.toNat : Int)) then decide ((a0.toNat : Int) ≤ 122) else false) = true then (some true) else (some (bif decide ((65 : Int) ≤ (a0.toNat : Int)) then decide ((a0.toNat : Int) ≤ 90) else false))
theorem R08_letter_ok (a0 : UInt8) (r : Bool) (hF : F.R08_letter a0 = some r) :
    A.Ct Tryd.prog 128 [.int .u8 (a0.toNat : Int)] [] [] (fun v H' => v = .bool r ∧ H' = []) := by
  refine A.Ct.enter Tryd.func128 rfl Tryd.ntmps128 rfl fun w0 F0 => ?_
  rw [F.R08_letter] at hF
  refine A.AX.sr ?_
  refine A.AL.q [] [] [.n] [] [] [] trivial ?_
  refine A.AL.dn ?_
  refine A.AX.sr ?_
  refine A.AL.q [] [] [.n, .n, .n, .sy .n, .sy .n, .pk, .n] [9] [] [(9, .bool (bif decide ((97 : Int) ≤ (a0.toNat : Int)) then decide ((a0.toNat : Int) ≤ 122) else false))] trivial ?_
  refine A.AL.cnd (j := 9) rfl hF (fun hF => ?_) (fun hF => ?_)
  · refine A.AL.q [] [] [.off, .off, .off, .off, .off, .off, .n, .n] [2] [] [(2, .bool true)] trivial ?_
    refine A.AL.dn ?_
    obtain rfl := Option.some.inj hF
    exact A.AX.ret [] (.bool true) (fun a w hf hh => Z.resv1 rfl (Z.rv_t hf rfl)) (⟨rfl, rfl⟩)
  · refine A.AL.q [] [] [.on .n, .on .n, .on .n, .sy .n, .sy .n, .on .pk, .n, .n] [2] [] [(2, .bool (bif decide ((65 : Int) ≤ (a0.toNat : Int)) then decide ((a0.toNat : Int) ≤ 90) else false))] trivial ?_
    refine A.AL.dn ?_
    obtain rfl := Option.some.inj hF
    exact A.AX.ret [] (.bool (bif decide ((65 : Int) ≤ (a0.toNat : Int)) then decide ((a0.toNat : Int) ≤ 90) else false)) (fun a w hf hh => Z.resv1 rfl (Z.rv_t hf rfl)) (⟨rfl, rfl⟩)

def F.R08_digit (a0 : UInt8) : Option Bool := some (bif decide ((48 : Int) ≤ (a0.toNat : Int)) then decide ((a0.toNat : Int) ≤ 57) else false)
theorem R08_digit_ok (a0 : UInt8) (r : Bool) (hF : F.R08_digit a0 = some r) :
    A.Ct Tryd.prog 129 [.int .u8 (a0.toNat : Int)] [] [] (fun v H' => v = .bool r ∧ H' = []) := by
  refine A.Ct.enter Tryd.func129 rfl Tryd.ntmps129 rfl fun w0 F0 => ?_
  rw [F.R08_digit] at hF
  refine A.AX.sr ?_
  refine A.AL.q [] [] [.n] [] [] [] trivial ?_
  refine A.AL.dn ?_
  refine A.AX.sr ?_
  refine A.AL.q [] [] [.n, .n, .n, .sy .n, .sy .n, .pk, .n] [2] [] [(2, .bool (bif decide ((48 : Int) ≤ (a0.toNat : Int)) then decide ((a0.toNat : Int) ≤ 57) else false))] trivial ?_
  refine A.AL.dn ?_
  obtain rfl := Option.some.inj hF
  exact A.AX.ret [] (.bool (bif decide ((48 : Int) ≤ (a0.toNat : Int)) then decide ((a0.toNat : Int) ≤ 57) else false)) (fun a w hf hh => Z.resv1 rfl (Z.rv_t hf rfl)) (⟨rfl, rfl⟩)

def F.R08_name_j1 (k1 : Int → Option Bool) (y2 : Int) (y5 : Bool) : Option Bool := if y5 = true then (some false) else (A.gd (Z.R64 (y2 + 1)) (k1 (y2 + 1)))
def F.R08_name_l2 (a0 : ByteArray) : Nat → Int → Option Bool
  | 0, _ => none
  | f + 1, y2 => if y2 < (a0.size : Int) then ((A.ix a0.data.toList y2).bind fun x7 => ((F.R08_letter x7).bind fun r9 => (if (!r9) = true then ((A.ix a0.data.toList y2).bind fun x11 => ((F.R08_digit x11).bind fun r13 => (F.R08_name_j1 (F.R08_name_l2 a0 f) y2 (!r13)))) else (F.R08_name_j1 (F.R08_name_l2 a0 f) y2 false)))) else (some true)
def F.R08_name_j3 (a0 : ByteArray) (y1 : Bool) : Option Bool := if y1 = true then (some false) else (F.R08_name_l2 a0 A.FU 0)
def F.R08_name (a0 : ByteArray) : Option Bool := if (bif decide (a0 = (ByteArray.mk #[])) then true else decide ((16 : Int) < (a0.size : Int))) = true then (F.R08_name_j3 a0 true) else ((A.ix a0.data.toList 0).bind fun x15 => ((F.R08_letter x15).bind fun r17 => (F.R08_name_j3 a0 (!r17))))
theorem R08_name_ok (a0 : ByteArray) (h0_ : a0.size ≤ maxLen) (r : Bool) (hF : F.R08_name a0 = some r) :
    A.Ct Tryd.prog 121 [.string a0] [] [] (fun v H' => v = .bool r ∧ H' = []) := by
  refine A.Ct.enter Tryd.func121 rfl Tryd.ntmps121 rfl fun w0 F0 => ?_
  rw [F.R08_name] at hF
  refine A.AX.sr ?_
  refine A.AL.q [] [] [.n] [] [] [] trivial ?_
  refine A.AL.dn ?_
  refine A.AX.seq ?_
  refine A.AX.join [0] [] (fun nl nh => ∃ (y1 : Bool), nl = [(16, .bool y1)] ∧ nh = [] ∧ F.R08_name_j3 a0 y1 = some r) ?_ ?_
  · refine A.AX.reg ?_
    refine A.AL.q [] [] [.n, .n, .n, .sy .n, .sy .n, .sy .n, .pk, .n] [11] [] [(11, .bool (bif decide (a0 = (ByteArray.mk #[])) then true else decide ((16 : Int) < (a0.size : Int))))] trivial ?_
    refine A.AL.cnd (j := 11) rfl hF (fun hF => ?_) (fun hF => ?_)
    · refine A.AL.q [] [] [.off, .off, .off, .off, .n] [16] [] [(16, .bool true)] trivial ?_
      refine A.AL.done ?_
      exact A.AE.j [] [(16, .bool true)] [] ⟨true, rfl, rfl, hF⟩
    · refine A.AL.q [] [] [.on .n] [12] [] [(12, .string a0)] trivial ?_
      refine A.AL.on (dj := 11) rfl rfl ?_
      obtain ⟨x15, hv16, hF⟩ := A.bd_some hF
      refine A.AL.ixt hv16 ?_
      refine A.AL.on (dj := 11) rfl rfl ?_
      obtain ⟨r17, hv18, hF⟩ := A.bd_some hF
      refine A.AL.call 0 [] (first := []) (cap := []) cf128 (R08_letter_ok x15 r17 hv18) .nil ?_
      rintro _ _ ⟨rfl, rfl⟩
      refine ⟨by kernel_rfl, ?_⟩
      refine A.AL.q [] [] [.on .n, .n] [16] [] [(16, .bool (!r17))] trivial ?_
      refine A.AL.done ?_
      exact A.AE.j [] [(16, .bool (!r17))] [] ⟨(!r17), rfl, rfl, hF⟩
  · rintro _ _ ⟨y1, rfl, rfl, hF⟩
    rw [F.R08_name_j3] at hF
    refine A.AX.cnb rfl hF (fun hb hF => ?_) (fun hb hF => ?_)
    · refine A.AX.sr ?_
      refine A.AL.q [] [] [.n] [2] [] [(2, .bool false)] trivial ?_
      refine A.AL.dn ?_
      obtain rfl := Option.some.inj hF
      exact A.AX.ret [] (.bool false) (fun a w hf hh => Z.resv1 rfl (Z.rv_t hf rfl)) (⟨rfl, rfl⟩)
    · refine A.AX.skip ?_
      refine A.AE.c ?_
      refine A.AX.seq ?_
      refine A.AX.sr ?_
      refine A.AL.q [] [] [.n] [3] [] [(3, .int .i64 0)] trivial ?_
      refine A.AL.dn ?_
      refine A.AX.block ?_
      refine A.AX.loop [0] [] [] (fun f nl nh => ∃ (y2 : Int), nl = [(3, .int .i64 y2)] ∧ nh = [] ∧ IntKind.i64.has y2 ∧ F.R08_name_l2 a0 f y2 = some r) A.FU [(3, .int .i64 0)] [] ⟨0, rfl, rfl, (A.hasl .i64 (0) rfl), hF⟩ ?_
      rintro f4 _ _ ⟨y2, rfl, rfl, hy3, hF⟩
      cases f4 with
      | zero => exact A.no0 hF
      | succ f4 =>
        rw [F.R08_name_l2] at hF
        refine A.AX.seq ?_
        refine A.AX.sr ?_
        refine A.AL.q [] [] [.n, .n, .n, .n] [20] [] [(20, .bool (decide (y2 < (a0.size : Int))))] trivial ?_
        refine A.AL.dn ?_
        refine A.AX.cnd rfl hF (fun hb hF => ?_) (fun hb hF => ?_)
        · refine A.AX.skip ?_
          refine A.AE.c ?_
          refine A.AX.seq ?_
          refine A.AX.block ?_
          refine A.AX.join [0, 3] [] (fun nl nh => ∃ (y5 : Bool), nl = [(34, .bool y5)] ∧ nh = [] ∧ F.R08_name_j1 (F.R08_name_l2 a0 f4) y2 y5 = some r) ?_ ?_
          · refine A.AX.reg ?_
            refine A.AL.q [] [] [.n, .n] [23, 24] [] [(23, .string a0), (24, .int .i64 y2)] trivial ?_
            obtain ⟨x7, hv8, hF⟩ := A.bd_some hF
            refine A.AL.ixt hv8 ?_
            obtain ⟨r9, hv10, hF⟩ := A.bd_some hF
            refine A.AL.call 200 [] (first := []) (cap := []) cf128 (R08_letter_ok x7 r9 hv10) .nil ?_
            rintro _ _ ⟨rfl, rfl⟩
            refine ⟨by kernel_rfl, ?_⟩
            refine A.AL.q [] [] [.n, .n] [28] [] [(28, .bool (!r9))] trivial ?_
            refine A.AL.cnd (j := 28) rfl hF (fun hF => ?_) (fun hF => ?_)
            · refine A.AL.q [] [] [.on .n, .on .n] [29, 30] [] [(29, .string a0), (30, .int .i64 y2)] trivial ?_
              refine A.AL.on (dj := 28) rfl rfl ?_
              obtain ⟨x11, hv12, hF⟩ := A.bd_some hF
              refine A.AL.ixt hv12 ?_
              refine A.AL.on (dj := 28) rfl rfl ?_
              obtain ⟨r13, hv14, hF⟩ := A.bd_some hF
              refine A.AL.call 240 [] (first := []) (cap := []) cf129 (R08_digit_ok x11 r13 hv14) .nil ?_
              rintro _ _ ⟨rfl, rfl⟩
              refine ⟨by kernel_rfl, ?_⟩
              refine A.AL.q [] [] [.on .n, .n] [34] [] [(34, .bool (!r13))] trivial ?_
              refine A.AL.done ?_
              exact A.AE.j [] [(34, .bool (!r13))] [] ⟨(!r13), rfl, rfl, hF⟩
            · refine A.AL.q [] [] [.off, .off, .off, .off, .off, .n] [34] [] [(34, .bool false)] trivial ?_
              refine A.AL.done ?_
              exact A.AE.j [] [(34, .bool false)] [] ⟨false, rfl, rfl, hF⟩
          · rintro _ _ ⟨y5, rfl, rfl, hF⟩
            rw [F.R08_name_j1] at hF
            refine A.AX.cnb rfl hF (fun hb hF => ?_) (fun hb hF => ?_)
            · refine A.AX.sr ?_
              refine A.AL.q [] [] [.n] [2] [] [(2, .bool false)] trivial ?_
              refine A.AL.dn ?_
              obtain rfl := Option.some.inj hF
              exact A.AX.ret [] (.bool false) (fun a w hf hh => Z.resv1 rfl (Z.rv_t hf rfl)) (⟨rfl, rfl⟩)
            · refine A.AX.skip ?_
              refine A.AE.b ?_
              refine A.AE.c ?_
              refine A.AX.reg ?_
              obtain ⟨hc6, hF⟩ := A.gd_some hF
              refine A.AL.q [] [] [.n, .n, .n] [3] [Z.R64 (y2 + 1)] [(3, .int .i64 (y2 + 1))] hc6 ?_
              refine A.AL.done ?_
              exact A.AE.j [] [(3, .int .i64 (y2 + 1))] [] ⟨_, Nat.lt_succ_self _, ⟨(y2 + 1), rfl, rfl, (Z.i64_has hc6), hF⟩⟩
        · refine A.AX.exit rfl ?_
          refine A.AE.c ?_
          refine A.AX.sr ?_
          refine A.AL.q [] [] [.n] [2] [] [(2, .bool true)] trivial ?_
          refine A.AL.dn ?_
          obtain rfl := Option.some.inj hF
          exact A.AX.ret [] (.bool true) (fun a w hf hh => Z.resv1 rfl (Z.rv_t hf rfl)) (⟨rfl, rfl⟩)
end Go.Proofs.YtleiipbkfaajfaaDoor
end

section
set_option linter.unusedVariables false
set_option linter.unusedSimpArgs false
set_option maxRecDepth 20000
set_option maxHeartbeats 8000000
set_option synthInstance.maxSize 1000000
set_option synthInstance.maxHeartbeats 400000
namespace Go.Proofs.YtleiipbkfaajfaaDoor
open Go.RowKit
def F.R08_Ins (a0 : Int) : Option Int := if (bif decide (a0 < 1) then true else decide ((16 : Int) < a0)) = true then (some (-1)) else (if a0 = 1 then (some 0) else (if (bif decide (a0 = 5) then true else decide (a0 = 9)) = true then (some 2) else (some 1)))
theorem R08_Ins_ok (a0 : Int) (h0_ : IntKind.i64.has a0) (r : Int) (hF : F.R08_Ins a0 = some r) :
    A.Ct Tryd.prog 18 [.int .i64 a0] [] [] (fun v H' => v = .int .i64 r ∧ H' = [] ∧ IntKind.i64.has r) := by
  refine A.Ct.enter Tryd.func18 rfl Tryd.ntmps18 rfl fun w0 F0 => ?_
  rw [F.R08_Ins] at hF
  refine A.AX.sr ?_
  refine A.AL.q [] [] [.n] [] [] [] trivial ?_
  refine A.AL.dn ?_
  refine A.AX.seq ?_
  refine A.AX.block ?_
  refine A.AX.sr ?_
  refine A.AL.q [] [] [.n, .n, .n, .sy .n, .sy .n, .pk, .n] [3] [] [(3, .bool (bif decide (a0 < 1) then true else decide ((16 : Int) < a0)))] trivial ?_
  refine A.AL.dn ?_
  refine A.AX.cnb rfl hF (fun hb hF => ?_) (fun hb hF => ?_)
  · refine A.AX.sr ?_
    refine A.AL.q [] [] [.n] [2] [] [(2, .int .i64 (-1))] trivial ?_
    refine A.AL.dn ?_
    obtain rfl := Option.some.inj hF
    exact A.AX.ret [] (.int .i64 (-1)) (fun a w hf hh => Z.resv1 rfl (Z.rv_t hf rfl)) (⟨rfl, rfl, (A.hasl .i64 (-1) rfl)⟩)
  · refine A.AX.sr ?_
    refine A.AL.q [] [] [.n, .n, .n] [10] [] [(10, .bool (decide (a0 = 1)))] trivial ?_
    refine A.AL.dn ?_
    refine A.AX.cnd rfl hF (fun hb hF => ?_) (fun hb hF => ?_)
    · refine A.AX.sr ?_
      refine A.AL.q [] [] [.n] [2] [] [(2, .int .i64 0)] trivial ?_
      refine A.AL.dn ?_
      obtain rfl := Option.some.inj hF
      exact A.AX.ret [] (.int .i64 0) (fun a w hf hh => Z.resv1 rfl (Z.rv_t hf rfl)) (⟨rfl, rfl, (A.hasl .i64 (0) rfl)⟩)
    · refine A.AX.sr ?_
      refine A.AL.q [] [] [.n, .n, .n, .sy .n, .sy .n, .pk, .n] [13] [] [(13, .bool (bif decide (a0 = 5) then true else decide (a0 = 9)))] trivial ?_
      refine A.AL.dn ?_
      refine A.AX.cnb rfl hF (fun hb hF => ?_) (fun hb hF => ?_)
      · refine A.AX.sr ?_
        refine A.AL.q [] [] [.n] [2] [] [(2, .int .i64 2)] trivial ?_
        refine A.AL.dn ?_
        obtain rfl := Option.some.inj hF
        exact A.AX.ret [] (.int .i64 2) (fun a w hf hh => Z.resv1 rfl (Z.rv_t hf rfl)) (⟨rfl, rfl, (A.hasl .i64 (2) rfl)⟩)
      · refine A.AX.skip ?_
        refine A.AE.b ?_
        refine A.AE.c ?_
        refine A.AX.sr ?_
        refine A.AL.q [] [] [.n] [2] [] [(2, .int .i64 1)] trivial ?_
        refine A.AL.dn ?_
        obtain rfl := Option.some.inj hF
        exact A.AX.ret [] (.int .i64 1) (fun a w hf hh => Z.resv1 rfl (Z.rv_t hf rfl)) (⟨rfl, rfl, (A.hasl .i64 (1) rfl)⟩)

def F.R08_Named_j1 (k1 : Int → Option (Int × Bool)) (a0 : D23) (y2 : Int) (y5 : Bool) : Option (Int × Bool) := if y5 = true then ((A.ix a0 y2).bind fun x6 => (some (x6.1, true))) else (A.gd (Z.R64 (y2 + 1)) (k1 (y2 + 1)))
def F.R08_Named_l2 (a0 : D23) (a1 : Int) (a2 : ByteArray) : Nat → Int → Option (Int × Bool)
  | 0, _ => none
  | f + 1, y2 => if y2 < ((a0).length : Int) then ((A.ix a0 y2).bind fun x14 => (if x14.2.1 = a1 then ((A.ix a0 y2).bind fun x21 => (F.R08_Named_j1 (F.R08_Named_l2 a0 a1 a2 f) a0 y2 (decide (x21.2.2.2.2.1 = a2)))) else (F.R08_Named_j1 (F.R08_Named_l2 a0 a1 a2 f) a0 y2 false))) else (some (0, false))
def F.R08_Named (a0 : D23) (a1 : Int) (a2 : ByteArray) : Option (Int × Bool) := F.R08_Named_l2 a0 a1 a2 A.FU 0
theorem R08_Named_ok (a0 : D23) (a1 : Int) (a2 : ByteArray) (A0_ : Option Addr) (c1_ : Nat) (h2_ : IntKind.i64.has a1) (h3_ : a2.size ≤ maxLen) (r : Int × Bool) (hF : F.R08_Named a0 a1 a2 = some r) :
    A.Ct Tryd.prog 31 [.agg #[.slice A0_ ((a0).length) c1_], .int .i64 a1, .string a2] [(0, .sh (.slice T39) [.slice A0_ (a0).length c1_] a0)] [] (fun v H' => v = .tuple #[.int .i64 r.1, .bool r.2] ∧ H' = [] ∧ IntKind.i64.has r.1) := by
  refine A.Ct.enter Tryd.func31 rfl Tryd.ntmps31 rfl fun w0 F0 => ?_
  rw [F.R08_Named] at hF
  refine A.AX.sr ?_
  refine A.AL.box 1 (cs := [.slice A0_ ((a0).length) c1_]) fun g1 => ?_
  refine A.AL.q [] [] [.n, .n] [] [] [] trivial ?_
  refine A.AL.dn ?_
  refine A.AX.seq ?_
  refine A.AX.sr ?_
  refine A.AL.q [] [] [.n] [8] [] [(8, .int .i64 0)] trivial ?_
  refine A.AL.dn ?_
  refine A.AX.block ?_
  refine A.AX.loop [1, 2, 3] [0, 1] [0, 1] (fun f nl nh => ∃ (y2 : Int), nl = [(8, .int .i64 y2)] ∧ nh = [] ∧ IntKind.i64.has y2 ∧ F.R08_Named_l2 a0 a1 a2 f y2 = some r) A.FU [(8, .int .i64 0)] [] ⟨0, rfl, rfl, (A.hasl .i64 (0) rfl), hF⟩ ?_
  rintro f4 _ _ ⟨y2, rfl, rfl, hy3, hF⟩
  cases f4 with
  | zero => exact A.no0 hF
  | succ f4 =>
    rw [F.R08_Named_l2] at hF
    refine A.AX.seq ?_
    refine A.AX.sr ?_
    refine A.AL.q [1] [] [.n, .n, .b 0 0, .n, .n] [13] [] [(13, .bool (decide (y2 < ((a0).length : Int))))] trivial ?_
    refine A.AL.dn ?_
    refine A.AX.cnd rfl hF (fun hb hF => ?_) (fun hb hF => ?_)
    · refine A.AX.skip ?_
      refine A.AE.c ?_
      refine A.AX.seq ?_
      refine A.AX.block ?_
      refine A.AX.join [1, 2, 3, 8] [0, 1] (fun nl nh => ∃ (y5 : Bool), nl = [(33, .bool y5)] ∧ nh = [] ∧ F.R08_Named_j1 (F.R08_Named_l2 a0 a1 a2 f4) a0 y2 y5 = some r) ?_ ?_
      · refine A.AX.reg ?_
        refine A.AL.q [1] [] [.n, .b 0 0, .n] [17, 18] [] [(17, .slice A0_ ((a0).length) c1_), (18, .int .i64 y2)] trivial ?_
        obtain ⟨x14, hv15, hF⟩ := A.bd_some hF
        refine A.AL.ixs 0 14 hv15 fun ho16 => ?_
        intro A17 c18 b19 o20
        refine A.AL.q [] [14] [.n, .e 0 1, .n, .n, .n] [24] [] [(24, .bool (decide (x14.2.1 = a1)))] trivial ?_
        refine A.AL.cnp (j := 24) rfl hF (fun hb hF => ?_) (fun hb hF => ?_)
        · refine A.AL.q [1] [] [.on .n, .on (.b 0 0), .on .n] [26, 27] [] [(26, .slice A0_ ((a0).length) c1_), (27, .int .i64 y2)] trivial ?_
          refine A.AL.on (dj := 24) rfl rfl ?_
          obtain ⟨x21, hv22, hF⟩ := A.bd_some hF
          refine A.AL.ixs 0 16 hv22 fun ho23 => ?_
          intro A24 c25 b26 o27
          refine A.AL.q [] [16] [.on .n, .on (.e 0 6), .on .n, .on .n, .n] [33] [] [(33, .bool (decide (x21.2.2.2.2.1 = a2)))] trivial ?_
          refine A.AL.done ?_
          exact A.AE.j [0, 1] [(33, .bool (decide (x21.2.2.2.2.1 = a2)))] [] ⟨(decide (x21.2.2.2.2.1 = a2)), rfl, rfl, hF⟩
        · refine A.AL.q [] [] [.off, .off, .off, .off, .off, .off, .off, .off, .n] [33] [] [(33, .bool false)] trivial ?_
          refine A.AL.done ?_
          exact A.AE.j [0, 1] [(33, .bool false)] [] ⟨false, rfl, rfl, hF⟩
      · rintro _ _ ⟨y5, rfl, rfl, hF⟩
        rw [F.R08_Named_j1] at hF
        refine A.AX.cnb rfl hF (fun hb hF => ?_) (fun hb hF => ?_)
        · refine A.AX.sr ?_
          refine A.AL.q [1] [] [.n, .b 0 0, .n] [35, 36] [] [(35, .slice A0_ ((a0).length) c1_), (36, .int .i64 y2)] trivial ?_
          obtain ⟨x6, hv7, hF⟩ := A.bd_some hF
          refine A.AL.ixs 0 18 hv7 fun ho8 => ?_
          intro A9 c10 b11 o12
          refine A.AL.q [] [18] [.n, .e 0 0, .n, .n] [6, 7] [] [(6, .int .i64 x6.1), (7, .bool true)] trivial ?_
          refine A.AL.dn ?_
          obtain rfl := Option.some.inj hF
          exact A.AX.ret [] (.tuple #[.int .i64 x6.1, .bool true]) (fun a w hf hh => Z.resv2 rfl (Z.rv_t hf rfl) (Z.rv_t hf rfl)) (⟨rfl, rfl, ho8.1⟩)
        · refine A.AX.skip ?_
          refine A.AE.b ?_
          refine A.AE.c ?_
          refine A.AX.reg ?_
          obtain ⟨hc13, hF⟩ := A.gd_some hF
          refine A.AL.q [] [] [.n, .n, .n] [8] [Z.R64 (y2 + 1)] [(8, .int .i64 (y2 + 1))] hc13 ?_
          refine A.AL.done ?_
          exact A.AE.j [0, 1] [(8, .int .i64 (y2 + 1))] [] ⟨_, Nat.lt_succ_self _, ⟨(y2 + 1), rfl, rfl, (Z.i64_has hc13), hF⟩⟩
    · refine A.AX.exit rfl ?_
      refine A.AE.c ?_
      refine A.AX.sr ?_
      refine A.AL.q [] [] [.n, .n] [6, 7] [] [(6, .int .i64 0), (7, .bool false)] trivial ?_
      refine A.AL.dn ?_
      obtain rfl := Option.some.inj hF
      exact A.AX.ret [] (.tuple #[.int .i64 0, .bool false]) (fun a w hf hh => Z.resv2 rfl (Z.rv_t hf rfl) (Z.rv_t hf rfl)) (⟨rfl, rfl, (A.hasl .i64 (0) rfl)⟩)

def F.R08_own_j1 (a0 : D23) (x2 : D39) : Option Bool := if (bif decide (x2.2.1 ≠ 1) then decide (x2.2.1 ≠ 15) else false) = true then (some (decide (x2.2.2.2.2.1 = (ByteArray.mk #[])))) else ((F.R08_Named a0 x2.2.1 x2.2.2.2.2.1).bind fun r11 => ((F.R08_name x2.2.2.2.2.1).bind fun r14 => (some (bif r14 then decide (r11.1 = x2.1) else false))))
def F.R08_own_j2 (a0 : D23) (x2 : D39) (y10 : Bool) : Option Bool := if y10 = true then (some false) else (if x2.2.1 = 14 then (if (bif bif bif decide (x2.2.2.2.2.2.1 < 1) then true else decide ((8 : Int) < x2.2.2.2.2.2.1) then true else decide (x2.2.2.2.2.2.2 < 1) then true else decide ((4 : Int) < x2.2.2.2.2.2.2)) = true then (some false) else (F.R08_own_j1 a0 x2)) else (if (bif decide (x2.2.2.2.2.2.1 ≠ 0) then true else decide (x2.2.2.2.2.2.2 ≠ 0)) = true then (some false) else (F.R08_own_j1 a0 x2)))
def F.R08_own (a0 : D23) (a1 : Int) : Option Bool := (A.ix a0 a1).bind fun x2 => (if (bif decide (x2.1 < 1) then true else decide ((255 : Int) < x2.1)) = true then (F.R08_own_j2 a0 x2 true) else (if (0 : Int) < a1 then (A.gd (Z.R64 (a1 - 1)) ((A.ix a0 (a1 - 1)).bind fun x17 => (if x2.1 ≤ x17.1 then (F.R08_own_j2 a0 x2 true) else ((F.R08_Ins x2.2.1).bind fun r25 => (if r25 < 0 then (F.R08_own_j2 a0 x2 true) else ((F.R08_Ins x2.2.1).bind fun r28 => (F.R08_own_j2 a0 x2 (decide (((x2.2.2.1).length : Int) ≠ r28))))))))) else ((F.R08_Ins x2.2.1).bind fun r31 => (if r31 < 0 then (F.R08_own_j2 a0 x2 true) else ((F.R08_Ins x2.2.1).bind fun r34 => (F.R08_own_j2 a0 x2 (decide (((x2.2.2.1).length : Int) ≠ r34))))))))
theorem R08_own_ok (a0 : D23) (a1 : Int) (A0_ : Option Addr) (c1_ : Nat) (h2_ : IntKind.i64.has a1) (r : Bool) (hF : F.R08_own a0 a1 = some r) :
    A.Ct Tryd.prog 101 [.agg #[.slice A0_ ((a0).length) c1_], .int .i64 a1] [(0, .sh (.slice T39) [.slice A0_ (a0).length c1_] a0)] [] (fun v H' => v = .bool r ∧ H' = []) := by
  refine A.Ct.enter Tryd.func101 rfl Tryd.ntmps101 rfl fun w0 F0 => ?_
  rw [F.R08_own] at hF
  refine A.AX.sr ?_
  refine A.AL.box 1 (cs := [.slice A0_ ((a0).length) c1_]) fun g1 => ?_
  refine A.AL.q [] [] [.n] [] [] [] trivial ?_
  refine A.AL.dn ?_
  refine A.AX.sr ?_
  refine A.AL.q [1] [] [.n, .b 0 0, .n] [9, 10] [] [(9, .slice A0_ ((a0).length) c1_), (10, .int .i64 a1)] trivial ?_
  obtain ⟨x2, hv3, hF⟩ := A.bd_some hF
  refine A.AL.ixs 0 2 hv3 fun ho4 => ?_
  intro A5 c6 b7 o8
  refine A.AL.q [] [2] [.e 0 0] [12] [] [(12, .agg #[.int .i64 x2.1, .int .i64 x2.2.1, .slice A5 ((x2.2.2.1).length) c6, .int .i64 x2.2.2.2.1.1, .int .i64 x2.2.2.2.1.2.1, .string x2.2.2.2.1.2.2, .string x2.2.2.2.2.1, .int .i64 x2.2.2.2.2.2.1, .int .i64 x2.2.2.2.2.2.2])] trivial ?_
  refine A.AL.alloc 4 (cs := [.int .i64 0, .int .i64 0, .slice none 0 0, .int .i64 0, .int .i64 0, .string (ByteArray.mk #[]), .string (ByteArray.mk #[]), .int .i64 0, .int .i64 0]) Tryd.zeroValue40 fun g9 => ?_
  refine A.AL.store 4 [] (new := [.int .i64 x2.1, .int .i64 x2.2.1, .slice A5 ((x2.2.2.1).length) c6, .int .i64 x2.2.2.2.1.1, .int .i64 x2.2.2.2.1.2.1, .string x2.2.2.2.1.2.2, .string x2.2.2.2.2.1, .int .i64 x2.2.2.2.2.2.1, .int .i64 x2.2.2.2.2.2.2]) (cs' := [.int .i64 x2.1, .int .i64 x2.2.1, .slice A5 ((x2.2.2.1).length) c6, .int .i64 x2.2.2.2.1.1, .int .i64 x2.2.2.2.1.2.1, .string x2.2.2.2.1.2.2, .string x2.2.2.2.2.1, .int .i64 x2.2.2.2.2.2.1, .int .i64 x2.2.2.2.2.2.2]) ?_
  refine A.AL.dn ?_
  refine A.AX.seq ?_
  refine A.AX.join [2, 5] [0, 1, 3, 4] (fun nl nh => ∃ (y10 : Bool), nl = [(51, .bool y10)] ∧ nh = [] ∧ F.R08_own_j2 a0 x2 y10 = some r) ?_ ?_
  · refine A.AX.dr mixed 39 39 [false, false, false, false, false, false, false, false, false, false, false, false, false, false, false, false, false, false, false, false, false, false, false, false, false, false, false, false, false, false, false, false, false, false, false, false, false, false, false] ?_
    refine A.AH.q (A.pk_kont (Z.Pq.body _ _ _)) [] [0, 1, 2, 3, 4] [4] [] [true, true, true, true, true, true, true, true, true, false, false, false, false, false, false, false, false, false, false, false, false, false, false, false, false, false, false, false, false, false, false, false, false, false, false, false, false, false, false] 30 [(0, .n), (1, .b 0 0), (2, .n), (3, .n), (4, .sy .n), (5, .sy (.b 0 0)), (6, .sy .n), (7, .pk), (8, .n)] [21] [] [(21, .bool (bif decide (x2.1 < 1) then true else decide ((255 : Int) < x2.1)))] trivial ?_
    refine A.AH.cnd (j := 21) rfl hF (fun hF => ?_) (fun hF => ?_)
    · refine A.AH.q (A.pk_kont (Z.Pq.body _ _ _)) [0, 1, 2, 3, 4] [0, 1, 2, 3, 4] [] [] [true, true, true, true, true, true, true, true, true, true, true, true, true, true, true, true, true, true, true, true, true, true, true, true, true, true, true, true, true, true, true, true, true, true, true, true, true, true, true] 0 [(9, .off), (10, .off), (11, .off), (12, .off), (14, .off), (16, .off), (13, .off), (15, .off), (17, .off), (18, .off), (19, .off), (20, .off), (21, .off), (22, .off), (23, .n), (24, .n), (25, .off), (26, .off), (27, .off), (28, .off), (29, .n), (30, .n), (31, .off), (34, .off), (32, .off), (35, .off), (33, .off), (36, .off), (37, .off), (38, .n)] [51] [] [(51, .bool true)] trivial ?_
      refine A.AH.done ?_
      exact A.AE.j [0, 1, 3, 4] [(51, .bool true)] [] ⟨true, rfl, rfl, hF⟩
    · refine A.AH.q (A.pk_kont (Z.Pq.body _ _ _)) [0, 1, 2, 3, 4] [0, 1, 2, 3, 4] [] [] [true, true, true, true, true, true, true, true, true, true, true, true, false, false, false, false, false, false, false, false, false, false, false, false, false, false, false, false, false, false, false, false, false, false, false, false, false, false, false] 27 [(9, .on .n), (10, .on .n), (11, .on .n)] [24] [] [(24, .bool (decide ((0 : Int) < a1)))] trivial ?_
      refine A.AH.cnp (j := 24) rfl hF (fun hb hF => ?_) (fun hb hF => ?_)
      · obtain ⟨hc16, hF⟩ := A.gd_some hF
        refine A.AH.q (A.pk_kont (Z.Pq.body _ _ _)) [0, 1, 2, 3, 4] [0, 1, 2, 3, 4] [4, 1] [] [true, true, true, true, true, true, true, true, true, true, true, true, true, true, true, true, true, true, false, false, false, false, false, false, false, false, false, false, false, false, false, false, false, false, false, false, false, false, false] 21 [(12, .on .n), (14, .on .n), (16, .on .n), (13, .on (.b 0 0)), (15, .on (.b 1 0)), (17, .on .n)] [26, 28, 30] [Z.R64 (a1 - 1)] [(26, .int .i64 x2.1), (28, .slice A0_ ((a0).length) c1_), (30, .int .i64 (a1 - 1))] hc16 ?_
        obtain ⟨x17, hv18, hF⟩ := A.bd_some hF
        refine A.AH.pks 0 5 hv18 fun ho19 => ?_
        intro A21 c22 b23 o24 hA20
        refine A.AH.vg (A.pk_kont (Z.Pq.body _ _ _)) [0, 1, 2, 3, 4] [0, 1, 2, 3, 4, 5, 6] 18 [true, true, true, true, true, true, true, true, true, true, true, true, true, true, true, true, true, true, true, false, false, false, false, false, false, false, false, false, false, false, false, false, false, false, false, false, false, false, false] (dj := 24) rfl (fun a w hf hh => A.r_ixa (t := T39) hv18 hA20 hf) ?_
        refine A.AH.q (A.pk_kont (Z.Pq.body _ _ _)) [0, 1, 2, 3, 4, 5, 6] [0, 1, 2, 3, 4, 5, 6] [] [5] [true, true, true, true, true, true, true, true, true, true, true, true, true, true, true, true, true, true, true, true, true, true, true, true, true, false, false, false, false, false, false, false, false, false, false, false, false, false, false] 14 [(19, .on .n), (20, .on (.e 0 0)), (21, .on .n), (22, .on .n), (23, .n), (24, .n)] [37] [] [(37, .bool (decide (x2.1 ≤ x17.1)))] trivial ?_
        refine A.AH.cnp (j := 37) rfl hF (fun hb hF => ?_) (fun hb hF => ?_)
        · refine A.AH.q (A.pk_kont (Z.Pq.body _ _ _)) [0, 1, 2, 3, 4, 5, 6] [0, 1, 2, 3, 4, 5, 6] [] [] [true, true, true, true, true, true, true, true, true, true, true, true, true, true, true, true, true, true, true, true, true, true, true, true, true, true, true, true, true, true, true, true, true, true, true, true, true, true, true] 0 [(25, .off), (26, .off), (27, .off), (28, .off), (29, .n), (30, .n), (31, .off), (34, .off), (32, .off), (35, .off), (33, .off), (36, .off), (37, .off), (38, .n)] [51] [] [(51, .bool true)] trivial ?_
          refine A.AH.done ?_
          exact A.AE.j [0, 1, 3, 4] [(51, .bool true)] [] ⟨true, rfl, rfl, hF⟩
        · refine A.AH.q (A.pk_kont (Z.Pq.body _ _ _)) [0, 1, 2, 3, 4, 5, 6] [0, 1, 2, 3, 4, 5, 6] [4] [] [true, true, true, true, true, true, true, true, true, true, true, true, true, true, true, true, true, true, true, true, true, true, true, true, true, true, true, false, false, false, false, false, false, false, false, false, false, false, false] 12 [(25, .on .n), (26, .on (.b 0 1))] [39] [] [(39, .int .i64 x2.2.1)] trivial ?_
          refine A.AH.one 27 ?_
          refine A.AL.on (dj := 37) rfl rfl ?_
          obtain ⟨r25, hv26, hF⟩ := A.bd_some hF
          refine A.AL.call 7 [] (first := []) (cap := []) cf18 (R08_Ins_ok x2.2.1 ho4.2.1 r25 hv26) .nil ?_
          rintro _ _ ⟨rfl, rfl, hr27⟩
          refine ⟨by kernel_rfl, ?_⟩
          refine A.AH.nx [true, true, true, true, true, true, true, true, true, true, true, true, true, true, true, true, true, true, true, true, true, true, true, true, true, true, true, true, false, false, false, false, false, false, false, false, false, false, false] [0, 1, 2, 3, 4, 5, 6] ?_
          refine A.AH.q (A.pk_kont (Z.Pq.body _ _ _)) [0, 1, 2, 3, 4, 5, 6] [0, 1, 2, 3, 4, 5, 6] [] [] [true, true, true, true, true, true, true, true, true, true, true, true, true, true, true, true, true, true, true, true, true, true, true, true, true, true, true, true, true, true, true, false, false, false, false, false, false, false, false] 8 [(28, .on .n), (29, .n), (30, .n)] [43] [] [(43, .bool (decide (r25 < 0)))] trivial ?_
          refine A.AH.cnp (j := 43) rfl hF (fun hb hF => ?_) (fun hb hF => ?_)
          · refine A.AH.q (A.pk_kont (Z.Pq.body _ _ _)) [0, 1, 2, 3, 4, 5, 6] [0, 1, 2, 3, 4, 5, 6] [] [] [true, true, true, true, true, true, true, true, true, true, true, true, true, true, true, true, true, true, true, true, true, true, true, true, true, true, true, true, true, true, true, true, true, true, true, true, true, true, true] 0 [(31, .off), (34, .off), (32, .off), (35, .off), (33, .off), (36, .off), (37, .off), (38, .n)] [51] [] [(51, .bool true)] trivial ?_
            refine A.AH.done ?_
            exact A.AE.j [0, 1, 3, 4] [(51, .bool true)] [] ⟨true, rfl, rfl, hF⟩
          · refine A.AH.q (A.pk_kont (Z.Pq.body _ _ _)) [0, 1, 2, 3, 4, 5, 6] [0, 1, 2, 3, 4, 5, 6] [4] [] [true, true, true, true, true, true, true, true, true, true, true, true, true, true, true, true, true, true, true, true, true, true, true, true, true, true, true, true, true, true, true, true, true, true, true, true, false, false, false] 3 [(31, .on .n), (34, .on .n), (32, .on (.b 0 2)), (35, .on (.b 0 1)), (33, .on .n)] [48, 46] [] [(48, .int .i64 x2.2.1), (46, .int .i64 ((x2.2.2.1).length : Int))] trivial ?_
            refine A.AH.one 36 ?_
            refine A.AL.on (dj := 43) rfl rfl ?_
            obtain ⟨r28, hv29, hF⟩ := A.bd_some hF
            refine A.AL.call 47 [] (first := []) (cap := []) cf18 (R08_Ins_ok x2.2.1 ho4.2.1 r28 hv29) .nil ?_
            rintro _ _ ⟨rfl, rfl, hr30⟩
            refine ⟨by kernel_rfl, ?_⟩
            refine A.AH.nx [true, true, true, true, true, true, true, true, true, true, true, true, true, true, true, true, true, true, true, true, true, true, true, true, true, true, true, true, true, true, true, true, true, true, true, true, true, false, false] [0, 1, 2, 3, 4, 5, 6] ?_
            refine A.AH.q (A.pk_kont (Z.Pq.body _ _ _)) [0, 1, 2, 3, 4, 5, 6] [0, 1, 2, 3, 4, 5, 6] [] [] [true, true, true, true, true, true, true, true, true, true, true, true, true, true, true, true, true, true, true, true, true, true, true, true, true, true, true, true, true, true, true, true, true, true, true, true, true, true, true] 0 [(37, .on .n), (38, .n)] [51] [] [(51, .bool (decide (((x2.2.2.1).length : Int) ≠ r28)))] trivial ?_
            refine A.AH.done ?_
            exact A.AE.j [0, 1, 3, 4] [(51, .bool (decide (((x2.2.2.1).length : Int) ≠ r28)))] [] ⟨(decide (((x2.2.2.1).length : Int) ≠ r28)), rfl, rfl, hF⟩
      · refine A.AH.q (A.pk_kont (Z.Pq.body _ _ _)) [0, 1, 2, 3, 4] [0, 1, 2, 3, 4] [4] [] [true, true, true, true, true, true, true, true, true, true, true, true, true, true, true, true, true, true, true, true, true, true, true, true, true, true, true, false, false, false, false, false, false, false, false, false, false, false, false] 12 [(12, .off), (14, .off), (16, .off), (13, .off), (15, .off), (17, .off), (18, .off), (19, .off), (20, .off), (21, .off), (22, .on .n), (23, .n), (24, .n), (25, .on .n), (26, .on (.b 0 1))] [37, 39] [] [(37, .bool false), (39, .int .i64 x2.2.1)] trivial ?_
        refine A.AH.one 27 ?_
        refine A.AL.on (dj := 37) rfl rfl ?_
        obtain ⟨r31, hv32, hF⟩ := A.bd_some hF
        refine A.AL.call 87 [] (first := []) (cap := []) cf18 (R08_Ins_ok x2.2.1 ho4.2.1 r31 hv32) .nil ?_
        rintro _ _ ⟨rfl, rfl, hr33⟩
        refine ⟨by kernel_rfl, ?_⟩
        refine A.AH.nx [true, true, true, true, true, true, true, true, true, true, true, true, true, true, true, true, true, true, true, true, true, true, true, true, true, true, true, true, false, false, false, false, false, false, false, false, false, false, false] [0, 1, 2, 3, 4] ?_
        refine A.AH.q (A.pk_kont (Z.Pq.body _ _ _)) [0, 1, 2, 3, 4] [0, 1, 2, 3, 4] [] [] [true, true, true, true, true, true, true, true, true, true, true, true, true, true, true, true, true, true, true, true, true, true, true, true, true, true, true, true, true, true, true, false, false, false, false, false, false, false, false] 8 [(28, .on .n), (29, .n), (30, .n)] [43] [] [(43, .bool (decide (r31 < 0)))] trivial ?_
        refine A.AH.cnp (j := 43) rfl hF (fun hb hF => ?_) (fun hb hF => ?_)
        · refine A.AH.q (A.pk_kont (Z.Pq.body _ _ _)) [0, 1, 2, 3, 4] [0, 1, 2, 3, 4] [] [] [true, true, true, true, true, true, true, true, true, true, true, true, true, true, true, true, true, true, true, true, true, true, true, true, true, true, true, true, true, true, true, true, true, true, true, true, true, true, true] 0 [(31, .off), (34, .off), (32, .off), (35, .off), (33, .off), (36, .off), (37, .off), (38, .n)] [51] [] [(51, .bool true)] trivial ?_
          refine A.AH.done ?_
          exact A.AE.j [0, 1, 3, 4] [(51, .bool true)] [] ⟨true, rfl, rfl, hF⟩
        · refine A.AH.q (A.pk_kont (Z.Pq.body _ _ _)) [0, 1, 2, 3, 4] [0, 1, 2, 3, 4] [4] [] [true, true, true, true, true, true, true, true, true, true, true, true, true, true, true, true, true, true, true, true, true, true, true, true, true, true, true, true, true, true, true, true, true, true, true, true, false, false, false] 3 [(31, .on .n), (34, .on .n), (32, .on (.b 0 2)), (35, .on (.b 0 1)), (33, .on .n)] [48, 46] [] [(48, .int .i64 x2.2.1), (46, .int .i64 ((x2.2.2.1).length : Int))] trivial ?_
          refine A.AH.one 36 ?_
          refine A.AL.on (dj := 43) rfl rfl ?_
          obtain ⟨r34, hv35, hF⟩ := A.bd_some hF
          refine A.AL.call 127 [] (first := []) (cap := []) cf18 (R08_Ins_ok x2.2.1 ho4.2.1 r34 hv35) .nil ?_
          rintro _ _ ⟨rfl, rfl, hr36⟩
          refine ⟨by kernel_rfl, ?_⟩
          refine A.AH.nx [true, true, true, true, true, true, true, true, true, true, true, true, true, true, true, true, true, true, true, true, true, true, true, true, true, true, true, true, true, true, true, true, true, true, true, true, true, false, false] [0, 1, 2, 3, 4] ?_
          refine A.AH.q (A.pk_kont (Z.Pq.body _ _ _)) [0, 1, 2, 3, 4] [0, 1, 2, 3, 4] [] [] [true, true, true, true, true, true, true, true, true, true, true, true, true, true, true, true, true, true, true, true, true, true, true, true, true, true, true, true, true, true, true, true, true, true, true, true, true, true, true] 0 [(37, .on .n), (38, .n)] [51] [] [(51, .bool (decide (((x2.2.2.1).length : Int) ≠ r34)))] trivial ?_
          refine A.AH.done ?_
          exact A.AE.j [0, 1, 3, 4] [(51, .bool (decide (((x2.2.2.1).length : Int) ≠ r34)))] [] ⟨(decide (((x2.2.2.1).length : Int) ≠ r34)), rfl, rfl, hF⟩
  · rintro _ _ ⟨y10, rfl, rfl, hF⟩
    rw [F.R08_own_j2] at hF
    refine A.AX.cnb rfl hF (fun hb hF => ?_) (fun hb hF => ?_)
    · refine A.AX.sr ?_
      refine A.AL.q [] [] [.n] [4] [] [(4, .bool false)] trivial ?_
      refine A.AL.dn ?_
      obtain rfl := Option.some.inj hF
      exact A.AX.ret [] (.bool false) (fun a w hf hh => Z.resv1 rfl (Z.rv_t hf rfl)) (⟨rfl, rfl⟩)
    · refine A.AX.skip ?_
      refine A.AE.c ?_
      refine A.AX.join [2, 5] [0, 1, 3, 4] (fun nl nh => nl = [] ∧ nh = [] ∧ F.R08_own_j1 a0 x2 = some r) ?_ ?_
      · refine A.AX.sr ?_
        refine A.AL.q [4] [] [.n, .b 0 1, .n] [54] [] [(54, .bool (decide (x2.2.1 = 14)))] trivial ?_
        refine A.AL.dn ?_
        refine A.AX.cnd rfl hF (fun hb hF => ?_) (fun hb hF => ?_)
        · refine A.AX.sr ?_
          refine A.AL.q [4] [] [.n, .b 0 7, .n, .n, .sy .n, .sy (.b 0 7), .sy .n, .pk, .n, .sy .n, .sy (.b 0 8), .sy .n, .pk, .n, .sy .n, .sy (.b 0 8), .sy .n, .pk] [72] [] [(72, .bool (bif bif bif decide (x2.2.2.2.2.2.1 < 1) then true else decide ((8 : Int) < x2.2.2.2.2.2.1) then true else decide (x2.2.2.2.2.2.2 < 1) then true else decide ((4 : Int) < x2.2.2.2.2.2.2)))] trivial ?_
          refine A.AL.dn ?_
          refine A.AX.cnb rfl hF (fun hb hF => ?_) (fun hb hF => ?_)
          · refine A.AX.sr ?_
            refine A.AL.q [] [] [.n] [4] [] [(4, .bool false)] trivial ?_
            refine A.AL.dn ?_
            obtain rfl := Option.some.inj hF
            exact A.AX.ret [] (.bool false) (fun a w hf hh => Z.resv1 rfl (Z.rv_t hf rfl)) (⟨rfl, rfl⟩)
          · refine A.AX.skip ?_
            exact A.AE.j [0, 1, 3, 4] [] [] ⟨rfl, rfl, hF⟩
        · refine A.AX.sr ?_
          refine A.AL.q [4] [] [.n, .b 0 7, .n, .n, .sy .n, .sy (.b 0 8), .sy .n, .pk] [80] [] [(80, .bool (bif decide (x2.2.2.2.2.2.1 ≠ 0) then true else decide (x2.2.2.2.2.2.2 ≠ 0)))] trivial ?_
          refine A.AL.dn ?_
          refine A.AX.cnb rfl hF (fun hb hF => ?_) (fun hb hF => ?_)
          · refine A.AX.sr ?_
            refine A.AL.q [] [] [.n] [4] [] [(4, .bool false)] trivial ?_
            refine A.AL.dn ?_
            obtain rfl := Option.some.inj hF
            exact A.AX.ret [] (.bool false) (fun a w hf hh => Z.resv1 rfl (Z.rv_t hf rfl)) (⟨rfl, rfl⟩)
          · refine A.AX.skip ?_
            exact A.AE.j [0, 1, 3, 4] [] [] ⟨rfl, rfl, hF⟩
      · rintro _ _ ⟨rfl, rfl, hF⟩
        rw [F.R08_own_j1] at hF
        refine A.AX.seq ?_
        refine A.AX.sr ?_
        refine A.AL.q [4] [] [.n, .b 0 1, .n, .n, .sy .n, .sy (.b 0 1), .sy .n, .pk] [88] [] [(88, .bool (bif decide (x2.2.1 ≠ 1) then decide (x2.2.1 ≠ 15) else false))] trivial ?_
        refine A.AL.dn ?_
        refine A.AX.cnb rfl hF (fun hb hF => ?_) (fun hb hF => ?_)
        · refine A.AX.sr ?_
          refine A.AL.q [4] [] [.n, .b 0 6, .n, .n] [4] [] [(4, .bool (decide (x2.2.2.2.2.1 = (ByteArray.mk #[]))))] trivial ?_
          refine A.AL.dn ?_
          obtain rfl := Option.some.inj hF
          exact A.AX.ret [] (.bool (decide (x2.2.2.2.2.1 = (ByteArray.mk #[])))) (fun a w hf hh => Z.resv1 rfl (Z.rv_t hf rfl)) (⟨rfl, rfl⟩)
        · refine A.AX.skip ?_
          refine A.AE.c ?_
          refine A.AX.sr ?_
          refine A.AL.q [1, 4] [] [.b 0 0, .n, .b 1 1, .n, .b 1 6] [93, 95, 97] [] [(93, .agg #[.slice A0_ ((a0).length) c1_]), (95, .int .i64 x2.2.1), (97, .string x2.2.2.2.2.1)] trivial ?_
          obtain ⟨r11, hv12, hF⟩ := A.bd_some hF
          refine A.AL.call 167 [] (first := []) (cap := []) cf31 (R08_Named_ok a0 x2.2.1 x2.2.2.2.2.1 A0_ c1_ ho4.2.1 ho4.2.2.2.2.1 r11 hv12) (.s 0 .nil) ?_
          rintro _ _ ⟨rfl, rfl, hr13⟩
          refine ⟨by kernel_rfl, ?_⟩
          refine A.AL.q [] [] [.n, .n, .n, .n, .n] [6] [] [(6, .int .i64 r11.1)] trivial ?_
          refine A.AL.dn ?_
          refine A.AX.sr ?_
          refine A.AL.q [4] [] [.n, .b 0 6] [102] [] [(102, .string x2.2.2.2.2.1)] trivial ?_
          obtain ⟨r14, hv15, hF⟩ := A.bd_some hF
          refine A.AL.call 207 [] (first := []) (cap := []) cf121 (R08_name_ok x2.2.2.2.2.1 ho4.2.2.2.2.1 r14 hv15) .nil ?_
          rintro _ _ ⟨rfl, rfl⟩
          refine ⟨by kernel_rfl, ?_⟩
          refine A.AL.q [4] [] [.n, .sy .n, .sy .n, .sy (.b 0 0), .sy .n, .pk, .n] [4] [] [(4, .bool (bif r14 then decide (r11.1 = x2.1) else false))] trivial ?_
          refine A.AL.dn ?_
          obtain rfl := Option.some.inj hF
          exact A.AX.ret [] (.bool (bif r14 then decide (r11.1 = x2.1) else false)) (fun a w hf hh => Z.resv1 rfl (Z.rv_t hf rfl)) (⟨rfl, rfl⟩)

def F.R06_Uses_l1 (y3 : Int) : Nat → (List Int) → Int → Option (List Int)
  | 0, _, _ => none
  | f + 1, xs7, y8 => if y8 ≤ y3 then (A.gd ((List.length (α := Int) xs7 + List.length (α := Int) [y8]) * 8 ≤ 140737488355328) (A.gd (Z.R64 (y8 + 1)) ((F.R06_Uses_l1 y3 f) (xs7 ++ [y8]) (y8 + 1)))) else (some xs7)
def F.R06_Uses_j2 (y1 : Int) (y3 : Int) : Option (List Int) := F.R06_Uses_l1 y3 A.FU [] y1
def F.R06_Uses (a0 : Int) : Option (List Int) := if a0 = 2 then (F.R06_Uses_j2 1 8) else (if a0 = 3 then (F.R06_Uses_j2 11 13) else (if a0 = 4 then (F.R06_Uses_j2 21 22) else (if a0 = 8 then (F.R06_Uses_j2 31 34) else (if a0 = 11 then (F.R06_Uses_j2 41 42) else (F.R06_Uses_j2 1 0)))))
theorem R06_Uses_ok (a0 : Int) (h0_ : IntKind.i64.has a0) (r : (List Int)) (hF : F.R06_Uses a0 = some r) :
    A.Ct Tryd.prog 122 [.int .i64 a0] [] [] (fun v H' => ∃ (A0' : Option Addr) (c1' : Nat), v = .slice A0' ((r).length) c1' ∧ H' = [(0, .own (Z.Ty.int .i64) 3 A0' c1' r)]) := by
  refine A.Ct.enter Tryd.func122 rfl Tryd.ntmps122 rfl fun w0 F0 => ?_
  rw [F.R06_Uses] at hF
  refine A.AX.sr ?_
  refine A.AL.q [] [] [.n] [] [] [] trivial ?_
  refine A.AL.dn ?_
  refine A.AX.sr ?_
  refine A.AL.q [] [] [.n, .n] [3, 4] [] [(3, .int .i64 1), (4, .int .i64 0)] trivial ?_
  refine A.AL.dn ?_
  refine A.AX.join [] [] (fun nl nh => ∃ (y1 : Int), ∃ (y3 : Int), nl = [(3, .int .i64 y1), (4, .int .i64 y3)] ∧ nh = [] ∧ IntKind.i64.has y1 ∧ IntKind.i64.has y3 ∧ F.R06_Uses_j2 y1 y3 = some r) ?_ ?_
  · refine A.AX.sr ?_
    refine A.AL.q [] [] [.n] [7] [] [(7, .int .i64 a0)] trivial ?_
    refine A.AL.dn ?_
    refine A.AX.block ?_
    refine A.AX.sr ?_
    refine A.AL.q [] [] [.n, .n] [8] [] [(8, .bool (decide (a0 = 2)))] trivial ?_
    refine A.AL.dn ?_
    refine A.AX.cnd rfl hF (fun hb hF => ?_) (fun hb hF => ?_)
    · refine A.AX.reg ?_
      refine A.AL.q [] [] [.n, .n] [3, 4] [] [(3, .int .i64 1), (4, .int .i64 8)] trivial ?_
      refine A.AL.done ?_
      refine A.AE.b ?_
      exact A.AE.j [] [(3, .int .i64 1), (4, .int .i64 8)] [] ⟨1, 8, rfl, rfl, (A.hasl .i64 (1) rfl), (A.hasl .i64 (8) rfl), hF⟩
    · refine A.AX.sr ?_
      refine A.AL.q [] [] [.n, .n] [10] [] [(10, .bool (decide (a0 = 3)))] trivial ?_
      refine A.AL.dn ?_
      refine A.AX.cnd rfl hF (fun hb hF => ?_) (fun hb hF => ?_)
      · refine A.AX.reg ?_
        refine A.AL.q [] [] [.n, .n] [3, 4] [] [(3, .int .i64 11), (4, .int .i64 13)] trivial ?_
        refine A.AL.done ?_
        refine A.AE.b ?_
        exact A.AE.j [] [(3, .int .i64 11), (4, .int .i64 13)] [] ⟨11, 13, rfl, rfl, (A.hasl .i64 (11) rfl), (A.hasl .i64 (13) rfl), hF⟩
      · refine A.AX.sr ?_
        refine A.AL.q [] [] [.n, .n] [12] [] [(12, .bool (decide (a0 = 4)))] trivial ?_
        refine A.AL.dn ?_
        refine A.AX.cnd rfl hF (fun hb hF => ?_) (fun hb hF => ?_)
        · refine A.AX.reg ?_
          refine A.AL.q [] [] [.n, .n] [3, 4] [] [(3, .int .i64 21), (4, .int .i64 22)] trivial ?_
          refine A.AL.done ?_
          refine A.AE.b ?_
          exact A.AE.j [] [(3, .int .i64 21), (4, .int .i64 22)] [] ⟨21, 22, rfl, rfl, (A.hasl .i64 (21) rfl), (A.hasl .i64 (22) rfl), hF⟩
        · refine A.AX.sr ?_
          refine A.AL.q [] [] [.n, .n] [14] [] [(14, .bool (decide (a0 = 8)))] trivial ?_
          refine A.AL.dn ?_
          refine A.AX.cnd rfl hF (fun hb hF => ?_) (fun hb hF => ?_)
          · refine A.AX.reg ?_
            refine A.AL.q [] [] [.n, .n] [3, 4] [] [(3, .int .i64 31), (4, .int .i64 34)] trivial ?_
            refine A.AL.done ?_
            refine A.AE.b ?_
            exact A.AE.j [] [(3, .int .i64 31), (4, .int .i64 34)] [] ⟨31, 34, rfl, rfl, (A.hasl .i64 (31) rfl), (A.hasl .i64 (34) rfl), hF⟩
          · refine A.AX.sr ?_
            refine A.AL.q [] [] [.n, .n] [16] [] [(16, .bool (decide (a0 = 11)))] trivial ?_
            refine A.AL.dn ?_
            refine A.AX.cnd rfl hF (fun hb hF => ?_) (fun hb hF => ?_)
            · refine A.AX.reg ?_
              refine A.AL.q [] [] [.n, .n] [3, 4] [] [(3, .int .i64 41), (4, .int .i64 42)] trivial ?_
              refine A.AL.done ?_
              refine A.AE.b ?_
              exact A.AE.j [] [(3, .int .i64 41), (4, .int .i64 42)] [] ⟨41, 42, rfl, rfl, (A.hasl .i64 (41) rfl), (A.hasl .i64 (42) rfl), hF⟩
            · refine A.AX.skip ?_
              refine A.AE.b ?_
              exact A.AE.j [] [(3, .int .i64 1), (4, .int .i64 0)] [] ⟨1, 0, rfl, rfl, (A.hasl .i64 (1) rfl), (A.hasl .i64 (0) rfl), hF⟩
  · rintro _ _ ⟨y1, y3, rfl, rfl, hy2, hy4, hF⟩
    rw [F.R06_Uses_j2] at hF
    refine A.AX.sr ?_
    refine A.AL.q [] [] [.n] [5] [] [(5, .slice none 0 0)] trivial ?_
    refine A.AL.dn ?_
    refine A.AX.seq ?_
    refine A.AX.sr ?_
    refine A.AL.q [] [] [.n, .n] [6] [] [(6, .int .i64 y1)] trivial ?_
    refine A.AL.dn ?_
    refine A.AX.block ?_
    refine A.nil 3 (Z.Ty.int .i64) 3 ?_
    refine A.AX.loop [4] [] [3] (fun f nl nh => ∃ (xs7 : List Int), ∃ (y8 : Int), ∃ (A5 : Option Addr), ∃ (c6 : Nat), nl = [(5, .slice A5 ((xs7).length) c6), (6, .int .i64 y8)] ∧ nh = [(3, .own (Z.Ty.int .i64) 3 A5 c6 xs7)] ∧ IntKind.i64.has y8 ∧ F.R06_Uses_l1 y3 f xs7 y8 = some r) A.FU [(5, .slice none 0 0), (6, .int .i64 y1)] [(3, .own (Z.Ty.int .i64) 3 none 0 [])] ⟨[], y1, none, 0, rfl, rfl, hy2, hF⟩ ?_
    rintro f10 _ _ ⟨xs7, y8, A5, c6, rfl, rfl, hy9, hF⟩
    cases f10 with
    | zero => exact A.no0 hF
    | succ f10 =>
      rw [F.R06_Uses_l1] at hF
      refine A.AX.seq ?_
      refine A.AX.sr ?_
      refine A.AL.q [] [] [.n, .n, .n] [21] [] [(21, .bool (decide (y8 ≤ y3)))] trivial ?_
      refine A.AL.dn ?_
      refine A.AX.cnd rfl hF (fun hb hF => ?_) (fun hb hF => ?_)
      · refine A.AX.skip ?_
        refine A.AE.c ?_
        refine A.AX.seq ?_
        refine A.AX.block ?_
        refine A.AX.reg ?_
        refine A.AL.q [] [] [.n, .n] [24, 25] [] [(24, .slice A5 ((xs7).length) c6), (25, .int .i64 y8)] trivial ?_
        refine A.AL.bsl 6 (ty := (Z.Ty.int .i64)) (cs := [.int .i64 y8]) [y8] ⟨⟨rfl, hy9⟩, rfl⟩ (fun g11 => ?_) Tryd.zeroValue3 Tryd.sizeOf3
        obtain ⟨hl14, hF⟩ := A.gd_some hF
        refine A.AL.app (k := 3) [] (A.rowO (k := 6) rfl) inf3 hl14 fun A12 c13 => ?_
        refine A.AL.q [] [] [.n] [5] [] [(5, .slice A12 ((xs7 ++ [y8]).length) c13)] trivial ?_
        refine A.AL.done ?_
        refine A.AE.b ?_
        refine A.AE.c ?_
        refine A.AX.reg ?_
        obtain ⟨hc15, hF⟩ := A.gd_some hF
        refine A.AL.q [] [] [.n, .n, .n] [6] [Z.R64 (y8 + 1)] [(6, .int .i64 (y8 + 1))] hc15 ?_
        refine A.AL.done ?_
        exact A.AE.j [3] [(5, .slice A12 ((xs7 ++ [y8]).length) c13), (6, .int .i64 (y8 + 1))] [(3, .own (Z.Ty.int .i64) 3 A12 c13 (xs7 ++ [y8]))] ⟨_, Nat.lt_succ_self _, ⟨(xs7 ++ [y8]), (y8 + 1), A12, c13, rfl, rfl, (Z.i64_has hc15), hF⟩⟩
      · refine A.AX.exit rfl ?_
        refine A.AE.c ?_
        refine A.AX.sr ?_
        refine A.AL.q [] [] [.n, .n] [2] [] [(2, .slice A5 ((xs7).length) c6)] trivial ?_
        refine A.AL.dn ?_
        obtain rfl := Option.some.inj hF
        exact A.AX.ret [(0, 3)] (.slice A5 ((xs7).length) c6) (fun a w hf hh => Z.resv1 rfl (Z.rv_t hf rfl)) (⟨A5, c6, rfl, rfl⟩)

def F.R06_number_j1 (a0 : D37) (y3 : Bool) : Option Bool := if y3 = true then (some (bif decide ((1 : Int) ≤ a0.2.1) then decide (a0.2.1 ≤ 1048576) else false)) else (some (decide (a0.2.1 = 0)))
def F.R06_number_j2 (a0 : D37) (y2 : Bool) : Option Bool := if y2 = true then (some (bif decide ((0 : Int) ≤ a0.2.1) then decide (a0.2.1 ≤ 64) else false)) else (if a0.1 = 6 then (F.R06_number_j1 a0 (decide (a0.1 = 6))) else (F.R06_number_j1 a0 (decide (a0.1 = 11))))
def F.R06_number (a0 : D37) : Option Bool := if a0.1 = 3 then (F.R06_number_j2 a0 (decide (a0.1 = 3))) else (F.R06_number_j2 a0 (decide (a0.1 = 13)))
theorem R06_number_ok (a0 : D37) (h0_ : IntKind.i64.has a0.1) (h1_ : IntKind.i64.has a0.2.1) (h2_ : a0.2.2.size ≤ maxLen) (r : Bool) (hF : F.R06_number a0 = some r) :
    A.Ct Tryd.prog 123 [.agg #[.int .i64 a0.1, .int .i64 a0.2.1, .string a0.2.2]] [] [] (fun v H' => v = .bool r ∧ H' = []) := by
  refine A.Ct.enter Tryd.func123 rfl Tryd.ntmps123 rfl fun w0 F0 => ?_
  rw [F.R06_number] at hF
  refine A.AX.sr ?_
  refine A.AL.box 0 (cs := [.int .i64 a0.1, .int .i64 a0.2.1, .string a0.2.2]) fun g1 => ?_
  refine A.AL.q [] [] [.n] [] [] [] trivial ?_
  refine A.AL.dn ?_
  refine A.AX.sr ?_
  refine A.AL.q [0] [] [.n, .b 0 0] [4] [] [(4, .int .i64 a0.1)] trivial ?_
  refine A.AL.dn ?_
  refine A.AX.block ?_
  refine A.AX.join [1, 4] [0] (fun nl nh => ∃ (y2 : Bool), nl = [(8, .bool y2)] ∧ nh = [] ∧ F.R06_number_j2 a0 y2 = some r) ?_ ?_
  · refine A.AX.sr ?_
    refine A.AL.q [] [] [.n, .n] [8] [] [(8, .bool (decide (a0.1 = 3)))] trivial ?_
    refine A.AL.dn ?_
    refine A.AX.cnd rfl hF (fun hb hF => ?_) (fun hb hF => ?_)
    · refine A.AX.skip ?_
      exact A.AE.j [0] [(8, .bool (decide (a0.1 = 3)))] [] ⟨(decide (a0.1 = 3)), rfl, rfl, hF⟩
    · refine A.AX.reg ?_
      refine A.AL.q [] [] [.n, .n] [8] [] [(8, .bool (decide (a0.1 = 13)))] trivial ?_
      refine A.AL.done ?_
      exact A.AE.j [0] [(8, .bool (decide (a0.1 = 13)))] [] ⟨(decide (a0.1 = 13)), rfl, rfl, hF⟩
  · rintro _ _ ⟨y2, rfl, rfl, hF⟩
    rw [F.R06_number_j2] at hF
    refine A.AX.cnb rfl hF (fun hb hF => ?_) (fun hb hF => ?_)
    · refine A.AX.sr ?_
      refine A.AL.q [0] [] [.n, .b 0 1, .n, .n, .sy .n, .sy (.b 0 1), .sy .n, .pk, .n] [2] [] [(2, .bool (bif decide ((0 : Int) ≤ a0.2.1) then decide (a0.2.1 ≤ 64) else false))] trivial ?_
      refine A.AL.dn ?_
      obtain rfl := Option.some.inj hF
      exact A.AX.ret [] (.bool (bif decide ((0 : Int) ≤ a0.2.1) then decide (a0.2.1 ≤ 64) else false)) (fun a w hf hh => Z.resv1 rfl (Z.rv_t hf rfl)) (⟨rfl, rfl⟩)
    · refine A.AX.join [1] [0] (fun nl nh => ∃ (y3 : Bool), nl = [(19, .bool y3)] ∧ nh = [] ∧ F.R06_number_j1 a0 y3 = some r) ?_ ?_
      · refine A.AX.sr ?_
        refine A.AL.q [] [] [.n, .n] [19] [] [(19, .bool (decide (a0.1 = 6)))] trivial ?_
        refine A.AL.dn ?_
        refine A.AX.cnd rfl hF (fun hb hF => ?_) (fun hb hF => ?_)
        · refine A.AX.skip ?_
          exact A.AE.j [0] [(19, .bool (decide (a0.1 = 6)))] [] ⟨(decide (a0.1 = 6)), rfl, rfl, hF⟩
        · refine A.AX.reg ?_
          refine A.AL.q [] [] [.n, .n] [19] [] [(19, .bool (decide (a0.1 = 11)))] trivial ?_
          refine A.AL.done ?_
          exact A.AE.j [0] [(19, .bool (decide (a0.1 = 11)))] [] ⟨(decide (a0.1 = 11)), rfl, rfl, hF⟩
      · rintro _ _ ⟨y3, rfl, rfl, hF⟩
        rw [F.R06_number_j1] at hF
        refine A.AX.cnb rfl hF (fun hb hF => ?_) (fun hb hF => ?_)
        · refine A.AX.sr ?_
          refine A.AL.q [0] [] [.n, .b 0 1, .n, .n, .sy .n, .sy (.b 0 1), .sy .n, .pk, .n] [2] [] [(2, .bool (bif decide ((1 : Int) ≤ a0.2.1) then decide (a0.2.1 ≤ 1048576) else false))] trivial ?_
          refine A.AL.dn ?_
          obtain rfl := Option.some.inj hF
          exact A.AX.ret [] (.bool (bif decide ((1 : Int) ≤ a0.2.1) then decide (a0.2.1 ≤ 1048576) else false)) (fun a w hf hh => Z.resv1 rfl (Z.rv_t hf rfl)) (⟨rfl, rfl⟩)
        · refine A.AX.sr ?_
          refine A.AL.q [0] [] [.n, .b 0 1, .n, .n] [2] [] [(2, .bool (decide (a0.2.1 = 0)))] trivial ?_
          refine A.AL.dn ?_
          obtain rfl := Option.some.inj hF
          exact A.AX.ret [] (.bool (decide (a0.2.1 = 0))) (fun a w hf hh => Z.resv1 rfl (Z.rv_t hf rfl)) (⟨rfl, rfl⟩)
end Go.Proofs.YtleiipbkfaajfaaDoor
end

section
set_option linter.unusedVariables false
set_option linter.unusedSimpArgs false
set_option maxRecDepth 20000
set_option maxHeartbeats 8000000
set_option synthInstance.maxSize 1000000
set_option synthInstance.maxHeartbeats 400000
namespace Go.Proofs.YtleiipbkfaajfaaDoor
open Go.RowKit
def F.R05_tail (a0 : UInt8) : Option Bool := some (bif decide ((128 : Int) ≤ (a0.toNat : Int)) then decide ((a0.toNat : Int) ≤ 191) else false)
theorem R05_tail_ok (a0 : UInt8) (r : Bool) (hF : F.R05_tail a0 = some r) :
    A.Ct Tryd.prog 134 [.int .u8 (a0.toNat : Int)] [] [] (fun v H' => v = .bool r ∧ H' = []) := by
  refine A.Ct.enter Tryd.func134 rfl Tryd.ntmps134 rfl fun w0 F0 => ?_
  rw [F.R05_tail] at hF
  refine A.AX.sr ?_
  refine A.AL.q [] [] [.n] [] [] [] trivial ?_
  refine A.AL.dn ?_
  refine A.AX.sr ?_
  refine A.AL.q [] [] [.n, .n, .n, .sy .n, .sy .n, .pk, .n] [2] [] [(2, .bool (bif decide ((128 : Int) ≤ (a0.toNat : Int)) then decide ((a0.toNat : Int) ≤ 191) else false))] trivial ?_
  refine A.AL.dn ?_
  obtain rfl := Option.some.inj hF
  exact A.AX.ret [] (.bool (bif decide ((128 : Int) ≤ (a0.toNat : Int)) then decide ((a0.toNat : Int) ≤ 191) else false)) (fun a w hf hh => Z.resv1 rfl (Z.rv_t hf rfl)) (⟨rfl, rfl⟩)

def F.R05_width_j1 (x2 : UInt8) (y4 : UInt8) (y7 : Bool) : Option Int := if y7 = true then (if (bif decide ((x2.toNat : Int) = 240) then decide ((y4.toNat : Int) < 144) else false) = true then (some 0) else (if (bif decide ((x2.toNat : Int) = 244) then decide ((143 : Int) < (y4.toNat : Int)) else false) = true then (some 0) else (some 4))) else (some 0)
def F.R05_width_j2 (a0 : ByteArray) (a1 : Int) (x2 : UInt8) (y4 : UInt8) (y6 : Bool) : Option Int := if y6 = true then (if (bif decide ((x2.toNat : Int) = 224) then decide ((y4.toNat : Int) < 160) else false) = true then (some 0) else (if (bif decide ((x2.toNat : Int) = 237) then decide ((159 : Int) < (y4.toNat : Int)) else false) = true then (some 0) else (some 3))) else (if (bif bif decide ((240 : Int) ≤ (x2.toNat : Int)) then decide ((x2.toNat : Int) ≤ 244) else false then decide ((4 : Int) ≤ (a0.size : Int) - a1) else false) = true then ((F.R05_tail y4).bind fun r8 => (if r8 = true then (A.gd (Z.R64 (a1 + 2)) ((A.ix a0.data.toList (a1 + 2)).bind fun x11 => ((F.R05_tail x11).bind fun r13 => (if r13 = true then (A.gd (Z.R64 (a1 + 3)) ((A.ix a0.data.toList (a1 + 3)).bind fun x16 => ((F.R05_tail x16).bind fun r18 => (F.R05_width_j1 x2 y4 r18)))) else (F.R05_width_j1 x2 y4 false))))) else (F.R05_width_j1 x2 y4 false))) else (F.R05_width_j1 x2 y4 false))
def F.R05_width_j3 (a0 : ByteArray) (a1 : Int) (x2 : UInt8) (y4 : UInt8) (y5 : Bool) : Option Int := if y5 = true then (some 2) else (if (bif bif decide ((224 : Int) ≤ (x2.toNat : Int)) then decide ((x2.toNat : Int) ≤ 239) else false then decide ((3 : Int) ≤ (a0.size : Int) - a1) else false) = true then ((F.R05_tail y4).bind fun r20 => (if r20 = true then (A.gd (Z.R64 (a1 + 2)) ((A.ix a0.data.toList (a1 + 2)).bind fun x23 => ((F.R05_tail x23).bind fun r25 => (F.R05_width_j2 a0 a1 x2 y4 r25)))) else (F.R05_width_j2 a0 a1 x2 y4 false))) else (F.R05_width_j2 a0 a1 x2 y4 false))
def F.R05_width_j4 (a0 : ByteArray) (a1 : Int) (x2 : UInt8) (y4 : UInt8) : Option Int := if (x2.toNat : Int) < 128 then (some 1) else (if (bif bif decide ((194 : Int) ≤ (x2.toNat : Int)) then decide ((x2.toNat : Int) ≤ 223) else false then decide ((2 : Int) ≤ (a0.size : Int) - a1) else false) = true then ((F.R05_tail y4).bind fun r27 => (F.R05_width_j3 a0 a1 x2 y4 r27)) else (F.R05_width_j3 a0 a1 x2 y4 false))
def F.R05_width (a0 : ByteArray) (a1 : Int) : Option Int := A.gd (Z.R64 ((a0.size : Int) - a1)) ((A.ix a0.data.toList a1).bind fun x2 => (if (1 : Int) < (a0.size : Int) - a1 then (A.gd (Z.R64 (a1 + 1)) ((A.ix a0.data.toList (a1 + 1)).bind fun x30 => (F.R05_width_j4 a0 a1 x2 x30))) else (F.R05_width_j4 a0 a1 x2 (0 : UInt8))))
theorem R05_width_ok (a0 : ByteArray) (a1 : Int) (h0_ : a0.size ≤ maxLen) (h1_ : IntKind.i64.has a1) (r : Int) (hF : F.R05_width a0 a1 = some r) :
    A.Ct Tryd.prog 133 [.string a0, .int .i64 a1] [] [] (fun v H' => v = .int .i64 r ∧ H' = [] ∧ IntKind.i64.has r) := by
  refine A.Ct.enter Tryd.func133 rfl Tryd.ntmps133 rfl fun w0 F0 => ?_
  rw [F.R05_width] at hF
  refine A.AX.sr ?_
  refine A.AL.q [] [] [.n] [] [] [] trivial ?_
  refine A.AL.dn ?_
  refine A.AX.sr ?_
  obtain ⟨hc1, hF⟩ := A.gd_some hF
  refine A.AL.q [] [] [.n, .n, .n, .n, .n] [5] [Z.R64 ((a0.size : Int) - a1)] [(5, .int .i64 ((a0.size : Int) - a1))] hc1 ?_
  refine A.AL.dn ?_
  refine A.AX.sr ?_
  refine A.AL.q [] [] [.n, .n] [12, 13] [] [(12, .string a0), (13, .int .i64 a1)] trivial ?_
  obtain ⟨x2, hv3, hF⟩ := A.bd_some hF
  refine A.AL.ixt hv3 ?_
  refine A.AL.q [] [] [.n] [6] [] [(6, .int .u8 (x2.toNat : Int))] trivial ?_
  refine A.AL.dn ?_
  refine A.AX.sr ?_
  refine A.AL.q [] [] [.n] [7] [] [(7, .int .u8 0)] trivial ?_
  refine A.AL.dn ?_
  refine A.AX.join [0, 1, 5, 6] [] (fun nl nh => ∃ (y4 : UInt8), nl = [(7, .int .u8 (y4.toNat : Int))] ∧ nh = [] ∧ F.R05_width_j4 a0 a1 x2 y4 = some r) ?_ ?_
  · refine A.AX.sr ?_
    refine A.AL.q [] [] [.n, .n] [16] [] [(16, .bool (decide ((1 : Int) < (a0.size : Int) - a1)))] trivial ?_
    refine A.AL.dn ?_
    refine A.AX.cnd rfl hF (fun hb hF => ?_) (fun hb hF => ?_)
    · refine A.AX.reg ?_
      obtain ⟨hc29, hF⟩ := A.gd_some hF
      refine A.AL.q [] [] [.n, .n, .n] [17, 19] [Z.R64 (a1 + 1)] [(17, .string a0), (19, .int .i64 (a1 + 1))] hc29 ?_
      obtain ⟨x30, hv31, hF⟩ := A.bd_some hF
      refine A.AL.ixt hv31 ?_
      refine A.AL.q [] [] [.n] [7] [] [(7, .int .u8 (x30.toNat : Int))] trivial ?_
      refine A.AL.done ?_
      exact A.AE.j [] [(7, .int .u8 (x30.toNat : Int))] [] ⟨x30, rfl, rfl, hF⟩
    · refine A.AX.skip ?_
      exact A.AE.j [] [(7, .int .u8 0)] [] ⟨(0 : UInt8), rfl, rfl, hF⟩
  · rintro _ _ ⟨y4, rfl, rfl, hF⟩
    rw [F.R05_width_j4] at hF
    refine A.AX.block ?_
    refine A.AX.sr ?_
    refine A.AL.q [] [] [.n, .n, .n] [21] [] [(21, .bool (decide ((x2.toNat : Int) < 128)))] trivial ?_
    refine A.AL.dn ?_
    refine A.AX.cnd rfl hF (fun hb hF => ?_) (fun hb hF => ?_)
    · refine A.AX.sr ?_
      refine A.AL.q [] [] [.n] [4] [] [(4, .int .i64 1)] trivial ?_
      refine A.AL.dn ?_
      obtain rfl := Option.some.inj hF
      exact A.AX.ret [] (.int .i64 1) (fun a w hf hh => Z.resv1 rfl (Z.rv_t hf rfl)) (⟨rfl, rfl, (A.hasl .i64 (1) rfl)⟩)
    · refine A.AX.join [0, 1, 5, 6, 7] [] (fun nl nh => ∃ (y5 : Bool), nl = [(24, .bool y5)] ∧ nh = [] ∧ F.R05_width_j3 a0 a1 x2 y4 y5 = some r) ?_ ?_
      · refine A.AX.reg ?_
        refine A.AL.q [] [] [.n, .n, .n, .sy .n, .sy .n, .pk, .n, .sy .n, .sy .n, .pk, .n] [35] [] [(35, .bool (bif bif decide ((194 : Int) ≤ (x2.toNat : Int)) then decide ((x2.toNat : Int) ≤ 223) else false then decide ((2 : Int) ≤ (a0.size : Int) - a1) else false))] trivial ?_
        refine A.AL.cnd (j := 35) rfl hF (fun hF => ?_) (fun hF => ?_)
        · refine A.AL.q [] [] [.on .n] [36] [] [(36, .int .u8 (y4.toNat : Int))] trivial ?_
          refine A.AL.on (dj := 35) rfl rfl ?_
          obtain ⟨r27, hv28, hF⟩ := A.bd_some hF
          refine A.AL.call 0 [] (first := []) (cap := []) cf134 (R05_tail_ok y4 r27 hv28) .nil ?_
          rintro _ _ ⟨rfl, rfl⟩
          refine ⟨by kernel_rfl, ?_⟩
          refine A.AL.q [] [] [.n, .n] [24] [] [(24, .bool r27)] trivial ?_
          refine A.AL.done ?_
          exact A.AE.j [] [(24, .bool r27)] [] ⟨r27, rfl, rfl, hF⟩
        · refine A.AL.q [] [] [.off, .off, .n, .n] [24] [] [(24, .bool false)] trivial ?_
          refine A.AL.done ?_
          exact A.AE.j [] [(24, .bool false)] [] ⟨false, rfl, rfl, hF⟩
      · rintro _ _ ⟨y5, rfl, rfl, hF⟩
        rw [F.R05_width_j3] at hF
        refine A.AX.cnb rfl hF (fun hb hF => ?_) (fun hb hF => ?_)
        · refine A.AX.sr ?_
          refine A.AL.q [] [] [.n] [4] [] [(4, .int .i64 2)] trivial ?_
          refine A.AL.dn ?_
          obtain rfl := Option.some.inj hF
          exact A.AX.ret [] (.int .i64 2) (fun a w hf hh => Z.resv1 rfl (Z.rv_t hf rfl)) (⟨rfl, rfl, (A.hasl .i64 (2) rfl)⟩)
        · refine A.AX.join [0, 1, 5, 6, 7] [] (fun nl nh => ∃ (y6 : Bool), nl = [(39, .bool y6)] ∧ nh = [] ∧ F.R05_width_j2 a0 a1 x2 y4 y6 = some r) ?_ ?_
          · refine A.AX.reg ?_
            refine A.AL.q [] [] [.n, .n, .n, .sy .n, .sy .n, .pk, .n, .sy .n, .sy .n, .pk, .n] [50] [] [(50, .bool (bif bif decide ((224 : Int) ≤ (x2.toNat : Int)) then decide ((x2.toNat : Int) ≤ 239) else false then decide ((3 : Int) ≤ (a0.size : Int) - a1) else false))] trivial ?_
            refine A.AL.cnd (j := 50) rfl hF (fun hF => ?_) (fun hF => ?_)
            · refine A.AL.q [] [] [.on .n] [51] [] [(51, .int .u8 (y4.toNat : Int))] trivial ?_
              refine A.AL.on (dj := 50) rfl rfl ?_
              obtain ⟨r20, hv21, hF⟩ := A.bd_some hF
              refine A.AL.call 40 [] (first := []) (cap := []) cf134 (R05_tail_ok y4 r20 hv21) .nil ?_
              rintro _ _ ⟨rfl, rfl⟩
              refine ⟨by kernel_rfl, ?_⟩
              refine A.AL.q [] [] [.n, .n] [54] [] [(54, .bool r20)] trivial ?_
              refine A.AL.cnd (j := 54) rfl hF (fun hF => ?_) (fun hF => ?_)
              · obtain ⟨hc22, hF⟩ := A.gd_some hF
                refine A.AL.q [] [] [.on .n, .on .n, .on .n] [55, 57] [Z.R64 (a1 + 2)] [(55, .string a0), (57, .int .i64 (a1 + 2))] hc22 ?_
                refine A.AL.on (dj := 54) rfl rfl ?_
                obtain ⟨x23, hv24, hF⟩ := A.bd_some hF
                refine A.AL.ixt hv24 ?_
                refine A.AL.on (dj := 54) rfl rfl ?_
                obtain ⟨r25, hv26, hF⟩ := A.bd_some hF
                refine A.AL.call 80 [] (first := []) (cap := []) cf134 (R05_tail_ok x23 r25 hv26) .nil ?_
                rintro _ _ ⟨rfl, rfl⟩
                refine ⟨by kernel_rfl, ?_⟩
                refine A.AL.q [] [] [.n, .n] [39] [] [(39, .bool r25)] trivial ?_
                refine A.AL.done ?_
                exact A.AE.j [] [(39, .bool r25)] [] ⟨r25, rfl, rfl, hF⟩
              · refine A.AL.q [] [] [.off, .off, .off, .off, .off, .n, .n] [39] [] [(39, .bool false)] trivial ?_
                refine A.AL.done ?_
                exact A.AE.j [] [(39, .bool false)] [] ⟨false, rfl, rfl, hF⟩
            · refine A.AL.q [] [] [.off, .off, .n, .n, .off, .off, .off, .off, .off, .n, .n] [39] [] [(39, .bool false)] trivial ?_
              refine A.AL.done ?_
              exact A.AE.j [] [(39, .bool false)] [] ⟨false, rfl, rfl, hF⟩
          · rintro _ _ ⟨y6, rfl, rfl, hF⟩
            rw [F.R05_width_j2] at hF
            refine A.AX.cnb rfl hF (fun hb hF => ?_) (fun hb hF => ?_)
            · refine A.AX.seq ?_
              refine A.AX.sr ?_
              refine A.AL.q [] [] [.n, .n, .n, .sy .n, .sy .n, .pk, .n] [67] [] [(67, .bool (bif decide ((x2.toNat : Int) = 224) then decide ((y4.toNat : Int) < 160) else false))] trivial ?_
              refine A.AL.cnd (j := 67) rfl hF (fun hF => ?_) (fun hF => ?_)
              · refine A.AL.q [] [] [.off, .off, .off, .off, .off, .off, .n] [74] [] [(74, .bool true)] trivial ?_
                refine A.AL.dn ?_
                refine A.AX.cnt rfl ?_
                refine A.AX.sr ?_
                refine A.AL.q [] [] [.n] [4] [] [(4, .int .i64 0)] trivial ?_
                refine A.AL.dn ?_
                obtain rfl := Option.some.inj hF
                exact A.AX.ret [] (.int .i64 0) (fun a w hf hh => Z.resv1 rfl (Z.rv_t hf rfl)) (⟨rfl, rfl, (A.hasl .i64 (0) rfl)⟩)
              · refine A.AL.q [] [] [.on .n, .on .n, .on .n, .sy .n, .sy .n, .on .pk, .n] [74] [] [(74, .bool (bif decide ((x2.toNat : Int) = 237) then decide ((159 : Int) < (y4.toNat : Int)) else false))] trivial ?_
                refine A.AL.dn ?_
                refine A.AX.cnb rfl hF (fun hb hF => ?_) (fun hb hF => ?_)
                · refine A.AX.sr ?_
                  refine A.AL.q [] [] [.n] [4] [] [(4, .int .i64 0)] trivial ?_
                  refine A.AL.dn ?_
                  obtain rfl := Option.some.inj hF
                  exact A.AX.ret [] (.int .i64 0) (fun a w hf hh => Z.resv1 rfl (Z.rv_t hf rfl)) (⟨rfl, rfl, (A.hasl .i64 (0) rfl)⟩)
                · refine A.AX.skip ?_
                  refine A.AE.c ?_
                  refine A.AX.sr ?_
                  refine A.AL.q [] [] [.n] [4] [] [(4, .int .i64 3)] trivial ?_
                  refine A.AL.dn ?_
                  obtain rfl := Option.some.inj hF
                  exact A.AX.ret [] (.int .i64 3) (fun a w hf hh => Z.resv1 rfl (Z.rv_t hf rfl)) (⟨rfl, rfl, (A.hasl .i64 (3) rfl)⟩)
            · refine A.AX.join [6, 7] [] (fun nl nh => ∃ (y7 : Bool), nl = [(75, .bool y7)] ∧ nh = [] ∧ F.R05_width_j1 x2 y4 y7 = some r) ?_ ?_
              · refine A.AX.reg ?_
                refine A.AL.q [] [] [.n, .n, .n, .sy .n, .sy .n, .pk, .n, .sy .n, .sy .n, .pk, .n] [86] [] [(86, .bool (bif bif decide ((240 : Int) ≤ (x2.toNat : Int)) then decide ((x2.toNat : Int) ≤ 244) else false then decide ((4 : Int) ≤ (a0.size : Int) - a1) else false))] trivial ?_
                refine A.AL.cnd (j := 86) rfl hF (fun hF => ?_) (fun hF => ?_)
                · refine A.AL.q [] [] [.on .n] [87] [] [(87, .int .u8 (y4.toNat : Int))] trivial ?_
                  refine A.AL.on (dj := 86) rfl rfl ?_
                  obtain ⟨r8, hv9, hF⟩ := A.bd_some hF
                  refine A.AL.call 120 [] (first := []) (cap := []) cf134 (R05_tail_ok y4 r8 hv9) .nil ?_
                  rintro _ _ ⟨rfl, rfl⟩
                  refine ⟨by kernel_rfl, ?_⟩
                  refine A.AL.q [] [] [.n, .n] [90] [] [(90, .bool r8)] trivial ?_
                  refine A.AL.cnd (j := 90) rfl hF (fun hF => ?_) (fun hF => ?_)
                  · obtain ⟨hc10, hF⟩ := A.gd_some hF
                    refine A.AL.q [] [] [.on .n, .on .n, .on .n] [91, 93] [Z.R64 (a1 + 2)] [(91, .string a0), (93, .int .i64 (a1 + 2))] hc10 ?_
                    refine A.AL.on (dj := 90) rfl rfl ?_
                    obtain ⟨x11, hv12, hF⟩ := A.bd_some hF
                    refine A.AL.ixt hv12 ?_
                    refine A.AL.on (dj := 90) rfl rfl ?_
                    obtain ⟨r13, hv14, hF⟩ := A.bd_some hF
                    refine A.AL.call 160 [] (first := []) (cap := []) cf134 (R05_tail_ok x11 r13 hv14) .nil ?_
                    rintro _ _ ⟨rfl, rfl⟩
                    refine ⟨by kernel_rfl, ?_⟩
                    refine A.AL.q [] [] [.n, .n] [97] [] [(97, .bool r13)] trivial ?_
                    refine A.AL.cnd (j := 97) rfl hF (fun hF => ?_) (fun hF => ?_)
                    · obtain ⟨hc15, hF⟩ := A.gd_some hF
                      refine A.AL.q [] [] [.on .n, .on .n, .on .n] [98, 100] [Z.R64 (a1 + 3)] [(98, .string a0), (100, .int .i64 (a1 + 3))] hc15 ?_
                      refine A.AL.on (dj := 97) rfl rfl ?_
                      obtain ⟨x16, hv17, hF⟩ := A.bd_some hF
                      refine A.AL.ixt hv17 ?_
                      refine A.AL.on (dj := 97) rfl rfl ?_
                      obtain ⟨r18, hv19, hF⟩ := A.bd_some hF
                      refine A.AL.call 200 [] (first := []) (cap := []) cf134 (R05_tail_ok x16 r18 hv19) .nil ?_
                      rintro _ _ ⟨rfl, rfl⟩
                      refine ⟨by kernel_rfl, ?_⟩
                      refine A.AL.q [] [] [.n, .n] [75] [] [(75, .bool r18)] trivial ?_
                      refine A.AL.done ?_
                      exact A.AE.j [] [(75, .bool r18)] [] ⟨r18, rfl, rfl, hF⟩
                    · refine A.AL.q [] [] [.off, .off, .off, .off, .off, .n, .n] [75] [] [(75, .bool false)] trivial ?_
                      refine A.AL.done ?_
                      exact A.AE.j [] [(75, .bool false)] [] ⟨false, rfl, rfl, hF⟩
                  · refine A.AL.q [] [] [.off, .off, .off, .off, .off, .n, .n, .off, .off, .off, .off, .off, .n, .n] [75] [] [(75, .bool false)] trivial ?_
                    refine A.AL.done ?_
                    exact A.AE.j [] [(75, .bool false)] [] ⟨false, rfl, rfl, hF⟩
                · refine A.AL.q [] [] [.off, .off, .n, .n, .off, .off, .off, .off, .off, .n, .n, .off, .off, .off, .off, .off, .n, .n] [75] [] [(75, .bool false)] trivial ?_
                  refine A.AL.done ?_
                  exact A.AE.j [] [(75, .bool false)] [] ⟨false, rfl, rfl, hF⟩
              · rintro _ _ ⟨y7, rfl, rfl, hF⟩
                rw [F.R05_width_j1] at hF
                refine A.AX.cnb rfl hF (fun hb hF => ?_) (fun hb hF => ?_)
                · refine A.AX.seq ?_
                  refine A.AX.sr ?_
                  refine A.AL.q [] [] [.n, .n, .n, .sy .n, .sy .n, .pk, .n] [110] [] [(110, .bool (bif decide ((x2.toNat : Int) = 240) then decide ((y4.toNat : Int) < 144) else false))] trivial ?_
                  refine A.AL.cnd (j := 110) rfl hF (fun hF => ?_) (fun hF => ?_)
                  · refine A.AL.q [] [] [.off, .off, .off, .off, .off, .off, .n] [117] [] [(117, .bool true)] trivial ?_
                    refine A.AL.dn ?_
                    refine A.AX.cnt rfl ?_
                    refine A.AX.sr ?_
                    refine A.AL.q [] [] [.n] [4] [] [(4, .int .i64 0)] trivial ?_
                    refine A.AL.dn ?_
                    obtain rfl := Option.some.inj hF
                    exact A.AX.ret [] (.int .i64 0) (fun a w hf hh => Z.resv1 rfl (Z.rv_t hf rfl)) (⟨rfl, rfl, (A.hasl .i64 (0) rfl)⟩)
                  · refine A.AL.q [] [] [.on .n, .on .n, .on .n, .sy .n, .sy .n, .on .pk, .n] [117] [] [(117, .bool (bif decide ((x2.toNat : Int) = 244) then decide ((143 : Int) < (y4.toNat : Int)) else false))] trivial ?_
                    refine A.AL.dn ?_
                    refine A.AX.cnb rfl hF (fun hb hF => ?_) (fun hb hF => ?_)
                    · refine A.AX.sr ?_
                      refine A.AL.q [] [] [.n] [4] [] [(4, .int .i64 0)] trivial ?_
                      refine A.AL.dn ?_
                      obtain rfl := Option.some.inj hF
                      exact A.AX.ret [] (.int .i64 0) (fun a w hf hh => Z.resv1 rfl (Z.rv_t hf rfl)) (⟨rfl, rfl, (A.hasl .i64 (0) rfl)⟩)
                    · refine A.AX.skip ?_
                      refine A.AE.c ?_
                      refine A.AX.sr ?_
                      refine A.AL.q [] [] [.n] [4] [] [(4, .int .i64 4)] trivial ?_
                      refine A.AL.dn ?_
                      obtain rfl := Option.some.inj hF
                      exact A.AX.ret [] (.int .i64 4) (fun a w hf hh => Z.resv1 rfl (Z.rv_t hf rfl)) (⟨rfl, rfl, (A.hasl .i64 (4) rfl)⟩)
                · refine A.AX.sr ?_
                  refine A.AL.q [] [] [.n] [4] [] [(4, .int .i64 0)] trivial ?_
                  refine A.AL.dn ?_
                  obtain rfl := Option.some.inj hF
                  exact A.AX.ret [] (.int .i64 0) (fun a w hf hh => Z.resv1 rfl (Z.rv_t hf rfl)) (⟨rfl, rfl, (A.hasl .i64 (0) rfl)⟩)

def F.R05_Valid_l1 (a0 : ByteArray) : Nat → Int → Option Bool
  | 0, _ => none
  | f + 1, y1 => if y1 < (a0.size : Int) then ((F.R05_width a0 y1).bind fun r4 => (if r4 = 0 then (some false) else (A.gd (Z.R64 (y1 + r4)) ((F.R05_Valid_l1 a0 f) (y1 + r4))))) else (some true)
def F.R05_Valid (a0 : ByteArray) : Option Bool := F.R05_Valid_l1 a0 A.FU 0
theorem R05_Valid_ok (a0 : ByteArray) (h0_ : a0.size ≤ maxLen) (r : Bool) (hF : F.R05_Valid a0 = some r) :
    A.Ct Tryd.prog 130 [.string a0] [] [] (fun v H' => v = .bool r ∧ H' = []) := by
  refine A.Ct.enter Tryd.func130 rfl Tryd.ntmps130 rfl fun w0 F0 => ?_
  rw [F.R05_Valid] at hF
  refine A.AX.sr ?_
  refine A.AL.q [] [] [.n] [] [] [] trivial ?_
  refine A.AL.dn ?_
  refine A.AX.seq ?_
  refine A.AX.sr ?_
  refine A.AL.q [] [] [.n] [3] [] [(3, .int .i64 0)] trivial ?_
  refine A.AL.dn ?_
  refine A.AX.block ?_
  refine A.AX.loop [0] [] [] (fun f nl nh => ∃ (y1 : Int), nl = [(3, .int .i64 y1)] ∧ nh = [] ∧ IntKind.i64.has y1 ∧ F.R05_Valid_l1 a0 f y1 = some r) A.FU [(3, .int .i64 0)] [] ⟨0, rfl, rfl, (A.hasl .i64 (0) rfl), hF⟩ ?_
  rintro f3 _ _ ⟨y1, rfl, rfl, hy2, hF⟩
  cases f3 with
  | zero => exact A.no0 hF
  | succ f3 =>
    rw [F.R05_Valid_l1] at hF
    refine A.AX.seq ?_
    refine A.AX.sr ?_
    refine A.AL.q [] [] [.n, .n, .n, .n] [8] [] [(8, .bool (decide (y1 < (a0.size : Int))))] trivial ?_
    refine A.AL.dn ?_
    refine A.AX.cnd rfl hF (fun hb hF => ?_) (fun hb hF => ?_)
    · refine A.AX.skip ?_
      refine A.AE.c ?_
      refine A.AX.block ?_
      refine A.AX.sr ?_
      refine A.AL.q [] [] [.n, .n] [9, 10] [] [(9, .string a0), (10, .int .i64 y1)] trivial ?_
      obtain ⟨r4, hv5, hF⟩ := A.bd_some hF
      refine A.AL.call 80 [] (first := []) (cap := []) cf133 (R05_width_ok a0 y1 h0_ hy2 r4 hv5) .nil ?_
      rintro _ _ ⟨rfl, rfl, hr6⟩
      refine ⟨by kernel_rfl, ?_⟩
      refine A.AL.q [] [] [.n] [4] [] [(4, .int .i64 r4)] trivial ?_
      refine A.AL.dn ?_
      refine A.AX.seq ?_
      refine A.AX.sr ?_
      refine A.AL.q [] [] [.n, .n] [13] [] [(13, .bool (decide (r4 = 0)))] trivial ?_
      refine A.AL.dn ?_
      refine A.AX.cnd rfl hF (fun hb hF => ?_) (fun hb hF => ?_)
      · refine A.AX.sr ?_
        refine A.AL.q [] [] [.n] [2] [] [(2, .bool false)] trivial ?_
        refine A.AL.dn ?_
        obtain rfl := Option.some.inj hF
        exact A.AX.ret [] (.bool false) (fun a w hf hh => Z.resv1 rfl (Z.rv_t hf rfl)) (⟨rfl, rfl⟩)
      · refine A.AX.skip ?_
        refine A.AE.c ?_
        refine A.AX.reg ?_
        obtain ⟨hc7, hF⟩ := A.gd_some hF
        refine A.AL.q [] [] [.n, .n, .n, .n] [3] [Z.R64 (y1 + r4)] [(3, .int .i64 (y1 + r4))] hc7 ?_
        refine A.AL.done ?_
        refine A.AE.b ?_
        exact A.AE.j [] [(3, .int .i64 (y1 + r4))] [] ⟨_, Nat.lt_succ_self _, ⟨(y1 + r4), rfl, rfl, (Z.i64_has hc7), hF⟩⟩
    · refine A.AX.exit rfl ?_
      refine A.AE.c ?_
      refine A.AX.sr ?_
      refine A.AL.q [] [] [.n] [2] [] [(2, .bool true)] trivial ?_
      refine A.AL.dn ?_
      obtain rfl := Option.some.inj hF
      exact A.AX.ret [] (.bool true) (fun a w hf hh => Z.resv1 rfl (Z.rv_t hf rfl)) (⟨rfl, rfl⟩)
end Go.Proofs.YtleiipbkfaajfaaDoor
end

section
set_option linter.unusedVariables false
set_option linter.unusedSimpArgs false
set_option maxRecDepth 20000
set_option maxHeartbeats 8000000
set_option synthInstance.maxSize 1000000
set_option synthInstance.maxHeartbeats 400000
namespace Go.Proofs.YtleiipbkfaajfaaDoor
open Go.RowKit
def F.R05_Runes_j1 (k1 : (List D165) → Int → Option (List D165)) (xs3 : List D165) (y4 : Int) (y10 : Int) (y12 : Int) : Option (List D165) := A.gd ((List.length (α := D165) xs3 + List.length (α := D165) [(y4, y12)]) * 16 ≤ 140737488355328) (A.gd (Z.R64 (y4 + y10)) (k1 (xs3 ++ [(y4, y12)]) (y4 + y10)))
def F.R05_Runes_l2 (a0 : ByteArray) : Nat → (List D165) → Int → Option (List D165)
  | 0, _, _ => none
  | f + 1, xs3, y4 => if y4 < (a0.size : Int) then ((F.R05_width a0 y4).bind fun r7 => (if r7 = 1 then ((A.ix a0.data.toList y4).bind fun x19 => (F.R05_Runes_j1 (F.R05_Runes_l2 a0 f) xs3 y4 r7 (IntKind.i32.wrap ((x19.toNat : Int))))) else (if r7 = 2 then (A.gd (Z.R64 (y4 + 1)) ((A.ix a0.data.toList y4).bind fun x22 => (A.gd ((32 : Int) ≠ 0) ((A.ix a0.data.toList (y4 + 1)).bind fun x25 => (A.gd ((64 : Int) ≠ 0) (F.R05_Runes_j1 (F.R05_Runes_l2 a0 f) xs3 y4 r7 (IntKind.i32.wrap ((IntKind.i32.wrap ((IntKind.i32.wrap (Int.tmod (x22.toNat : Int) 32)) * 64)) + (IntKind.i32.wrap (Int.tmod (x25.toNat : Int) 64)))))))))) else (if r7 = 3 then (A.gd (Z.R64 (y4 + 1) ∧ Z.R64 (y4 + 2)) ((A.ix a0.data.toList y4).bind fun x29 => (A.gd ((16 : Int) ≠ 0) ((A.ix a0.data.toList (y4 + 1)).bind fun x32 => (A.gd ((64 : Int) ≠ 0) ((A.ix a0.data.toList (y4 + 2)).bind fun x35 => (A.gd ((64 : Int) ≠ 0) (F.R05_Runes_j1 (F.R05_Runes_l2 a0 f) xs3 y4 r7 (IntKind.i32.wrap ((IntKind.i32.wrap ((IntKind.i32.wrap ((IntKind.i32.wrap ((IntKind.i32.wrap (Int.tmod (x29.toNat : Int) 16)) * 64)) + (IntKind.i32.wrap (Int.tmod (x32.toNat : Int) 64)))) * 64)) + (IntKind.i32.wrap (Int.tmod (x35.toNat : Int) 64)))))))))))) else (if r7 = 4 then (A.gd (Z.R64 (y4 + 1) ∧ Z.R64 (y4 + 2) ∧ Z.R64 (y4 + 3)) ((A.ix a0.data.toList y4).bind fun x39 => (A.gd ((8 : Int) ≠ 0) ((A.ix a0.data.toList (y4 + 1)).bind fun x42 => (A.gd ((64 : Int) ≠ 0) ((A.ix a0.data.toList (y4 + 2)).bind fun x45 => (A.gd ((64 : Int) ≠ 0) ((A.ix a0.data.toList (y4 + 3)).bind fun x48 => (A.gd ((64 : Int) ≠ 0) (F.R05_Runes_j1 (F.R05_Runes_l2 a0 f) xs3 y4 r7 (IntKind.i32.wrap ((IntKind.i32.wrap ((IntKind.i32.wrap ((IntKind.i32.wrap ((IntKind.i32.wrap ((IntKind.i32.wrap ((IntKind.i32.wrap (Int.tmod (x39.toNat : Int) 8)) * 64)) + (IntKind.i32.wrap (Int.tmod (x42.toNat : Int) 64)))) * 64)) + (IntKind.i32.wrap (Int.tmod (x45.toNat : Int) 64)))) * 64)) + (IntKind.i32.wrap (Int.tmod (x48.toNat : Int) 64)))))))))))))) else (F.R05_Runes_j1 (F.R05_Runes_l2 a0 f) xs3 y4 1 65533)))))) else (some xs3)
def F.R05_Runes (a0 : ByteArray) : Option (List D165) := F.R05_Runes_l2 a0 A.FU [] 0
theorem R05_Runes_ok (a0 : ByteArray) (h0_ : a0.size ≤ maxLen) (r : (List D165)) (hF : F.R05_Runes a0 = some r) :
    A.Ct Tryd.prog 131 [.string a0] [] [] (fun v H' => ∃ (A0' : Option Addr) (c1' : Nat), v = .slice A0' ((r).length) c1' ∧ H' = [(0, .own T165 166 A0' c1' r)]) := by
  refine A.Ct.enter Tryd.func131 rfl Tryd.ntmps131 rfl fun w0 F0 => ?_
  rw [F.R05_Runes] at hF
  refine A.AX.sr ?_
  refine A.AL.q [] [] [.n] [] [] [] trivial ?_
  refine A.AL.dn ?_
  refine A.AX.sr ?_
  refine A.AL.q [] [] [.n] [3] [] [(3, .slice none 0 0)] trivial ?_
  refine A.AL.dn ?_
  refine A.AX.seq ?_
  refine A.AX.sr ?_
  refine A.AL.q [] [] [.n] [4] [] [(4, .int .i64 0)] trivial ?_
  refine A.AL.dn ?_
  refine A.AX.block ?_
  refine A.nil 43 T165 166 ?_
  refine A.AX.loop [0] [] [43] (fun f nl nh => ∃ (xs3 : List D165), ∃ (y4 : Int), ∃ (A1 : Option Addr), ∃ (c2 : Nat), nl = [(3, .slice A1 ((xs3).length) c2), (4, .int .i64 y4)] ∧ nh = [(43, .own T165 166 A1 c2 xs3)] ∧ IntKind.i64.has y4 ∧ F.R05_Runes_l2 a0 f xs3 y4 = some r) A.FU [(3, .slice none 0 0), (4, .int .i64 0)] [(43, .own T165 166 none 0 [])] ⟨[], 0, none, 0, rfl, rfl, (A.hasl .i64 (0) rfl), hF⟩ ?_
  rintro f6 _ _ ⟨xs3, y4, A1, c2, rfl, rfl, hy5, hF⟩
  cases f6 with
  | zero => exact A.no0 hF
  | succ f6 =>
    rw [F.R05_Runes_l2] at hF
    refine A.AX.seq ?_
    refine A.AX.sr ?_
    refine A.AL.q [] [] [.n, .n, .n, .n] [10] [] [(10, .bool (decide (y4 < (a0.size : Int))))] trivial ?_
    refine A.AL.dn ?_
    refine A.AX.cnd rfl hF (fun hb hF => ?_) (fun hb hF => ?_)
    · refine A.AX.skip ?_
      refine A.AE.c ?_
      refine A.AX.block ?_
      refine A.AX.sr ?_
      refine A.AL.q [] [] [.n, .n] [11, 12] [] [(11, .string a0), (12, .int .i64 y4)] trivial ?_
      obtain ⟨r7, hv8, hF⟩ := A.bd_some hF
      refine A.AL.call 126 [] (first := []) (cap := []) cf133 (R05_width_ok a0 y4 h0_ hy5 r7 hv8) .nil ?_
      rintro _ _ ⟨rfl, rfl, hr9⟩
      refine ⟨by kernel_rfl, ?_⟩
      refine A.AL.q [] [] [.n] [5] [] [(5, .int .i64 r7)] trivial ?_
      refine A.AL.dn ?_
      refine A.AX.sr ?_
      refine A.AL.q [] [] [.n] [6] [] [(6, .int .i32 65533)] trivial ?_
      refine A.AL.dn ?_
      refine A.AX.join [0, 3, 4] [43] (fun nl nh => ∃ (y10 : Int), ∃ (y12 : Int), nl = [(5, .int .i64 y10), (6, .int .i32 y12)] ∧ nh = [] ∧ IntKind.i64.has y10 ∧ IntKind.i32.has y12 ∧ F.R05_Runes_j1 (F.R05_Runes_l2 a0 f6) xs3 y4 y10 y12 = some r) ?_ ?_
      · refine A.AX.sr ?_
        refine A.AL.q [] [] [.n] [14] [] [(14, .int .i64 r7)] trivial ?_
        refine A.AL.dn ?_
        refine A.AX.block ?_
        refine A.AX.sr ?_
        refine A.AL.q [] [] [.n, .n] [15] [] [(15, .bool (decide (r7 = 1)))] trivial ?_
        refine A.AL.dn ?_
        refine A.AX.cnd rfl hF (fun hb hF => ?_) (fun hb hF => ?_)
        · refine A.AX.reg ?_
          refine A.AL.q [] [] [.n, .n] [17, 18] [] [(17, .string a0), (18, .int .i64 y4)] trivial ?_
          obtain ⟨x19, hv20, hF⟩ := A.bd_some hF
          refine A.AL.ixt hv20 ?_
          refine A.AL.q [] [] [.n, .n] [6] [] [(6, .int .i32 (IntKind.i32.wrap ((x19.toNat : Int))))] trivial ?_
          refine A.AL.done ?_
          refine A.AE.b ?_
          exact A.AE.j [43] [(5, .int .i64 r7), (6, .int .i32 (IntKind.i32.wrap ((x19.toNat : Int))))] [] ⟨r7, (IntKind.i32.wrap ((x19.toNat : Int))), rfl, rfl, hr9, (A.wrap_has _ _), hF⟩
        · refine A.AX.sr ?_
          refine A.AL.q [] [] [.n, .n] [21] [] [(21, .bool (decide (r7 = 2)))] trivial ?_
          refine A.AL.dn ?_
          refine A.AX.cnd rfl hF (fun hb hF => ?_) (fun hb hF => ?_)
          · refine A.AX.dr mixed 14 14 [false, false, false, false, false, false, false, false, false, false, false, false, false, false] ?_
            obtain ⟨hc21, hF⟩ := A.gd_some hF
            refine A.AH.q (A.pk_kont (Z.Pq.body _ _ _)) [] [43] [] [] [true, true, false, false, false, false, true, true, true, false, false, false, false, false] 9 [(0, .n), (1, .n), (6, .n), (7, .n), (8, .n)] [23, 24, 29, 31] [Z.R64 (y4 + 1)] [(23, .string a0), (24, .int .i64 y4), (29, .string a0), (31, .int .i64 (y4 + 1))] hc21 ?_
            obtain ⟨x22, hv23, hF⟩ := A.bd_some hF
            refine A.AH.v (A.pk_kont (Z.Pq.body _ _ _)) [43] [43] 2 [true, true, true, false, false, false, true, true, true, false, false, false, false, false] rfl (fun a w hf hh => A.r_ixt hv23 hf) ?_
            obtain ⟨hc24, hF⟩ := A.gd_some hF
            refine A.AH.q (A.pk_kont (Z.Pq.body _ _ _)) [43] [43] [] [] [true, true, true, true, true, true, true, true, true, false, false, false, false, false] 5 [(3, .n), (4, .n), (5, .n)] [28] [(32 : Int) ≠ 0] [(28, .int .i32 (IntKind.i32.wrap ((IntKind.i32.wrap (Int.tmod (x22.toNat : Int) 32)) * 64)))] hc24 ?_
            obtain ⟨x25, hv26, hF⟩ := A.bd_some hF
            refine A.AH.v (A.pk_kont (Z.Pq.body _ _ _)) [43] [43] 9 [true, true, true, true, true, true, true, true, true, true, false, false, false, false] rfl (fun a w hf hh => A.r_ixt hv26 hf) ?_
            obtain ⟨hc27, hF⟩ := A.gd_some hF
            refine A.AH.q (A.pk_kont (Z.Pq.body _ _ _)) [43] [43] [] [] [true, true, true, true, true, true, true, true, true, true, true, true, true, true] 0 [(10, .n), (11, .n), (12, .n), (13, .n)] [6] [(64 : Int) ≠ 0] [(6, .int .i32 (IntKind.i32.wrap ((IntKind.i32.wrap ((IntKind.i32.wrap (Int.tmod (x22.toNat : Int) 32)) * 64)) + (IntKind.i32.wrap (Int.tmod (x25.toNat : Int) 64)))))] hc27 ?_
            refine A.AH.done ?_
            refine A.AE.b ?_
            exact A.AE.j [43] [(5, .int .i64 r7), (6, .int .i32 (IntKind.i32.wrap ((IntKind.i32.wrap ((IntKind.i32.wrap (Int.tmod (x22.toNat : Int) 32)) * 64)) + (IntKind.i32.wrap (Int.tmod (x25.toNat : Int) 64)))))] [] ⟨r7, (IntKind.i32.wrap ((IntKind.i32.wrap ((IntKind.i32.wrap (Int.tmod (x22.toNat : Int) 32)) * 64)) + (IntKind.i32.wrap (Int.tmod (x25.toNat : Int) 64)))), rfl, rfl, hr9, (A.wrap_has _ _), hF⟩
          · refine A.AX.sr ?_
            refine A.AL.q [] [] [.n, .n] [36] [] [(36, .bool (decide (r7 = 3)))] trivial ?_
            refine A.AL.dn ?_
            refine A.AX.cnd rfl hF (fun hb hF => ?_) (fun hb hF => ?_)
            · refine A.AX.dr mixed 22 22 [false, false, false, false, false, false, false, false, false, false, false, false, false, false, false, false, false, false, false, false, false, false] ?_
              obtain ⟨hc28, hF⟩ := A.gd_some hF
              refine A.AH.q (A.pk_kont (Z.Pq.body _ _ _)) [] [43] [] [] [true, true, false, false, false, false, true, true, true, false, false, false, false, false, true, true, true, false, false, false, false, false] 14 [(0, .n), (1, .n), (6, .n), (7, .n), (14, .n), (15, .n), (8, .n), (16, .n)] [38, 39, 44, 52, 46, 54] [Z.R64 (y4 + 1), Z.R64 (y4 + 2)] [(38, .string a0), (39, .int .i64 y4), (44, .string a0), (52, .string a0), (46, .int .i64 (y4 + 1)), (54, .int .i64 (y4 + 2))] hc28 ?_
              obtain ⟨x29, hv30, hF⟩ := A.bd_some hF
              refine A.AH.v (A.pk_kont (Z.Pq.body _ _ _)) [43] [43] 2 [true, true, true, false, false, false, true, true, true, false, false, false, false, false, true, true, true, false, false, false, false, false] rfl (fun a w hf hh => A.r_ixt hv30 hf) ?_
              obtain ⟨hc31, hF⟩ := A.gd_some hF
              refine A.AH.q (A.pk_kont (Z.Pq.body _ _ _)) [43] [43] [] [] [true, true, true, true, true, true, true, true, true, false, false, false, false, false, true, true, true, false, false, false, false, false] 10 [(3, .n), (4, .n), (5, .n)] [43] [(16 : Int) ≠ 0] [(43, .int .i32 (IntKind.i32.wrap ((IntKind.i32.wrap (Int.tmod (x29.toNat : Int) 16)) * 64)))] hc31 ?_
              obtain ⟨x32, hv33, hF⟩ := A.bd_some hF
              refine A.AH.v (A.pk_kont (Z.Pq.body _ _ _)) [43] [43] 9 [true, true, true, true, true, true, true, true, true, true, false, false, false, false, true, true, true, false, false, false, false, false] rfl (fun a w hf hh => A.r_ixt hv33 hf) ?_
              obtain ⟨hc34, hF⟩ := A.gd_some hF
              refine A.AH.q (A.pk_kont (Z.Pq.body _ _ _)) [43] [43] [] [] [true, true, true, true, true, true, true, true, true, true, true, true, true, true, true, true, true, false, false, false, false, false] 5 [(10, .n), (11, .n), (12, .n), (13, .n)] [51] [(64 : Int) ≠ 0] [(51, .int .i32 (IntKind.i32.wrap ((IntKind.i32.wrap ((IntKind.i32.wrap ((IntKind.i32.wrap (Int.tmod (x29.toNat : Int) 16)) * 64)) + (IntKind.i32.wrap (Int.tmod (x32.toNat : Int) 64)))) * 64)))] hc34 ?_
              obtain ⟨x35, hv36, hF⟩ := A.bd_some hF
              refine A.AH.v (A.pk_kont (Z.Pq.body _ _ _)) [43] [43] 17 [true, true, true, true, true, true, true, true, true, true, true, true, true, true, true, true, true, true, false, false, false, false] rfl (fun a w hf hh => A.r_ixt hv36 hf) ?_
              obtain ⟨hc37, hF⟩ := A.gd_some hF
              refine A.AH.q (A.pk_kont (Z.Pq.body _ _ _)) [43] [43] [] [] [true, true, true, true, true, true, true, true, true, true, true, true, true, true, true, true, true, true, true, true, true, true] 0 [(18, .n), (19, .n), (20, .n), (21, .n)] [6] [(64 : Int) ≠ 0] [(6, .int .i32 (IntKind.i32.wrap ((IntKind.i32.wrap ((IntKind.i32.wrap ((IntKind.i32.wrap ((IntKind.i32.wrap (Int.tmod (x29.toNat : Int) 16)) * 64)) + (IntKind.i32.wrap (Int.tmod (x32.toNat : Int) 64)))) * 64)) + (IntKind.i32.wrap (Int.tmod (x35.toNat : Int) 64)))))] hc37 ?_
              refine A.AH.done ?_
              refine A.AE.b ?_
              exact A.AE.j [43] [(5, .int .i64 r7), (6, .int .i32 (IntKind.i32.wrap ((IntKind.i32.wrap ((IntKind.i32.wrap ((IntKind.i32.wrap ((IntKind.i32.wrap (Int.tmod (x29.toNat : Int) 16)) * 64)) + (IntKind.i32.wrap (Int.tmod (x32.toNat : Int) 64)))) * 64)) + (IntKind.i32.wrap (Int.tmod (x35.toNat : Int) 64)))))] [] ⟨r7, (IntKind.i32.wrap ((IntKind.i32.wrap ((IntKind.i32.wrap ((IntKind.i32.wrap ((IntKind.i32.wrap (Int.tmod (x29.toNat : Int) 16)) * 64)) + (IntKind.i32.wrap (Int.tmod (x32.toNat : Int) 64)))) * 64)) + (IntKind.i32.wrap (Int.tmod (x35.toNat : Int) 64)))), rfl, rfl, hr9, (A.wrap_has _ _), hF⟩
            · refine A.AX.sr ?_
              refine A.AL.q [] [] [.n, .n] [59] [] [(59, .bool (decide (r7 = 4)))] trivial ?_
              refine A.AL.dn ?_
              refine A.AX.cnd rfl hF (fun hb hF => ?_) (fun hb hF => ?_)
              · refine A.AX.dr mixed 30 30 [false, false, false, false, false, false, false, false, false, false, false, false, false, false, false, false, false, false, false, false, false, false, false, false, false, false, false, false, false, false] ?_
                obtain ⟨hc38, hF⟩ := A.gd_some hF
                refine A.AH.q (A.pk_kont (Z.Pq.body _ _ _)) [] [43] [] [] [true, true, false, false, false, false, true, true, true, false, false, false, false, false, true, true, true, false, false, false, false, false, true, true, true, false, false, false, false, false] 19 [(0, .n), (1, .n), (6, .n), (7, .n), (14, .n), (15, .n), (22, .n), (23, .n), (8, .n), (16, .n), (24, .n)] [61, 62, 67, 75, 83, 69, 77, 85] [Z.R64 (y4 + 1), Z.R64 (y4 + 2), Z.R64 (y4 + 3)] [(61, .string a0), (62, .int .i64 y4), (67, .string a0), (75, .string a0), (83, .string a0), (69, .int .i64 (y4 + 1)), (77, .int .i64 (y4 + 2)), (85, .int .i64 (y4 + 3))] hc38 ?_
                obtain ⟨x39, hv40, hF⟩ := A.bd_some hF
                refine A.AH.v (A.pk_kont (Z.Pq.body _ _ _)) [43] [43] 2 [true, true, true, false, false, false, true, true, true, false, false, false, false, false, true, true, true, false, false, false, false, false, true, true, true, false, false, false, false, false] rfl (fun a w hf hh => A.r_ixt hv40 hf) ?_
                obtain ⟨hc41, hF⟩ := A.gd_some hF
                refine A.AH.q (A.pk_kont (Z.Pq.body _ _ _)) [43] [43] [] [] [true, true, true, true, true, true, true, true, true, false, false, false, false, false, true, true, true, false, false, false, false, false, true, true, true, false, false, false, false, false] 15 [(3, .n), (4, .n), (5, .n)] [66] [(8 : Int) ≠ 0] [(66, .int .i32 (IntKind.i32.wrap ((IntKind.i32.wrap (Int.tmod (x39.toNat : Int) 8)) * 64)))] hc41 ?_
                obtain ⟨x42, hv43, hF⟩ := A.bd_some hF
                refine A.AH.v (A.pk_kont (Z.Pq.body _ _ _)) [43] [43] 9 [true, true, true, true, true, true, true, true, true, true, false, false, false, false, true, true, true, false, false, false, false, false, true, true, true, false, false, false, false, false] rfl (fun a w hf hh => A.r_ixt hv43 hf) ?_
                obtain ⟨hc44, hF⟩ := A.gd_some hF
                refine A.AH.q (A.pk_kont (Z.Pq.body _ _ _)) [43] [43] [] [] [true, true, true, true, true, true, true, true, true, true, true, true, true, true, true, true, true, false, false, false, false, false, true, true, true, false, false, false, false, false] 10 [(10, .n), (11, .n), (12, .n), (13, .n)] [74] [(64 : Int) ≠ 0] [(74, .int .i32 (IntKind.i32.wrap ((IntKind.i32.wrap ((IntKind.i32.wrap ((IntKind.i32.wrap (Int.tmod (x39.toNat : Int) 8)) * 64)) + (IntKind.i32.wrap (Int.tmod (x42.toNat : Int) 64)))) * 64)))] hc44 ?_
                obtain ⟨x45, hv46, hF⟩ := A.bd_some hF
                refine A.AH.v (A.pk_kont (Z.Pq.body _ _ _)) [43] [43] 17 [true, true, true, true, true, true, true, true, true, true, true, true, true, true, true, true, true, true, false, false, false, false, true, true, true, false, false, false, false, false] rfl (fun a w hf hh => A.r_ixt hv46 hf) ?_
                obtain ⟨hc47, hF⟩ := A.gd_some hF
                refine A.AH.q (A.pk_kont (Z.Pq.body _ _ _)) [43] [43] [] [] [true, true, true, true, true, true, true, true, true, true, true, true, true, true, true, true, true, true, true, true, true, true, true, true, true, false, false, false, false, false] 5 [(18, .n), (19, .n), (20, .n), (21, .n)] [82] [(64 : Int) ≠ 0] [(82, .int .i32 (IntKind.i32.wrap ((IntKind.i32.wrap ((IntKind.i32.wrap ((IntKind.i32.wrap ((IntKind.i32.wrap ((IntKind.i32.wrap (Int.tmod (x39.toNat : Int) 8)) * 64)) + (IntKind.i32.wrap (Int.tmod (x42.toNat : Int) 64)))) * 64)) + (IntKind.i32.wrap (Int.tmod (x45.toNat : Int) 64)))) * 64)))] hc47 ?_
                obtain ⟨x48, hv49, hF⟩ := A.bd_some hF
                refine A.AH.v (A.pk_kont (Z.Pq.body _ _ _)) [43] [43] 25 [true, true, true, true, true, true, true, true, true, true, true, true, true, true, true, true, true, true, true, true, true, true, true, true, true, true, false, false, false, false] rfl (fun a w hf hh => A.r_ixt hv49 hf) ?_
                obtain ⟨hc50, hF⟩ := A.gd_some hF
                refine A.AH.q (A.pk_kont (Z.Pq.body _ _ _)) [43] [43] [] [] [true, true, true, true, true, true, true, true, true, true, true, true, true, true, true, true, true, true, true, true, true, true, true, true, true, true, true, true, true, true] 0 [(26, .n), (27, .n), (28, .n), (29, .n)] [6] [(64 : Int) ≠ 0] [(6, .int .i32 (IntKind.i32.wrap ((IntKind.i32.wrap ((IntKind.i32.wrap ((IntKind.i32.wrap ((IntKind.i32.wrap ((IntKind.i32.wrap ((IntKind.i32.wrap (Int.tmod (x39.toNat : Int) 8)) * 64)) + (IntKind.i32.wrap (Int.tmod (x42.toNat : Int) 64)))) * 64)) + (IntKind.i32.wrap (Int.tmod (x45.toNat : Int) 64)))) * 64)) + (IntKind.i32.wrap (Int.tmod (x48.toNat : Int) 64)))))] hc50 ?_
                refine A.AH.done ?_
                refine A.AE.b ?_
                exact A.AE.j [43] [(5, .int .i64 r7), (6, .int .i32 (IntKind.i32.wrap ((IntKind.i32.wrap ((IntKind.i32.wrap ((IntKind.i32.wrap ((IntKind.i32.wrap ((IntKind.i32.wrap ((IntKind.i32.wrap (Int.tmod (x39.toNat : Int) 8)) * 64)) + (IntKind.i32.wrap (Int.tmod (x42.toNat : Int) 64)))) * 64)) + (IntKind.i32.wrap (Int.tmod (x45.toNat : Int) 64)))) * 64)) + (IntKind.i32.wrap (Int.tmod (x48.toNat : Int) 64)))))] [] ⟨r7, (IntKind.i32.wrap ((IntKind.i32.wrap ((IntKind.i32.wrap ((IntKind.i32.wrap ((IntKind.i32.wrap ((IntKind.i32.wrap ((IntKind.i32.wrap (Int.tmod (x39.toNat : Int) 8)) * 64)) + (IntKind.i32.wrap (Int.tmod (x42.toNat : Int) 64)))) * 64)) + (IntKind.i32.wrap (Int.tmod (x45.toNat : Int) 64)))) * 64)) + (IntKind.i32.wrap (Int.tmod (x48.toNat : Int) 64)))), rfl, rfl, hr9, (A.wrap_has _ _), hF⟩
              · refine A.AX.reg ?_
                refine A.AL.q [] [] [.n] [5] [] [(5, .int .i64 1)] trivial ?_
                refine A.AL.done ?_
                refine A.AE.b ?_
                exact A.AE.j [43] [(5, .int .i64 1), (6, .int .i32 65533)] [] ⟨1, 65533, rfl, rfl, (A.hasl .i64 (1) rfl), (A.hasl .i32 (65533) rfl), hF⟩
      · rintro _ _ ⟨y10, y12, rfl, rfl, hy11, hy13, hF⟩
        rw [F.R05_Runes_j1] at hF
        refine A.AX.sr ?_
        refine A.AL.q [] [] [.n, .n, .n, .n] [90, 93] [] [(90, .slice A1 ((xs3).length) c2), (93, .agg #[.int .i64 y4, .int .i32 y12])] trivial ?_
        refine A.AL.bsl 166 (ty := T165) (cs := [.int .i64 y4, .int .i32 y12]) [(y4, y12)] ⟨⟨⟨rfl, hy5⟩, ⟨rfl, hy13⟩⟩, rfl⟩ (fun g14 => ?_) Tryd.zeroValue166 Tryd.sizeOf166
        obtain ⟨hl17, hF⟩ := A.gd_some hF
        refine A.AL.app (k := 43) [] (A.rowO (k := 166) rfl) inf166 hl17 fun A15 c16 => ?_
        refine A.AL.q [] [] [.n] [3] [] [(3, .slice A15 ((xs3 ++ [(y4, y12)]).length) c16)] trivial ?_
        refine A.AL.dn ?_
        refine A.AX.reg ?_
        obtain ⟨hc18, hF⟩ := A.gd_some hF
        refine A.AL.q [] [] [.n, .n, .n, .n] [4] [Z.R64 (y4 + y10)] [(4, .int .i64 (y4 + y10))] hc18 ?_
        refine A.AL.done ?_
        refine A.AE.b ?_
        exact A.AE.j [43] [(3, .slice A15 ((xs3 ++ [(y4, y12)]).length) c16), (4, .int .i64 (y4 + y10))] [(43, .own T165 166 A15 c16 (xs3 ++ [(y4, y12)]))] ⟨_, Nat.lt_succ_self _, ⟨(xs3 ++ [(y4, y12)]), (y4 + y10), A15, c16, rfl, rfl, (Z.i64_has hc18), hF⟩⟩
    · refine A.AX.exit rfl ?_
      refine A.AE.c ?_
      refine A.AX.sr ?_
      refine A.AL.q [] [] [.n, .n] [2] [] [(2, .slice A1 ((xs3).length) c2)] trivial ?_
      refine A.AL.dn ?_
      obtain rfl := Option.some.inj hF
      exact A.AX.ret [(0, 43)] (.slice A1 ((xs3).length) c2) (fun a w hf hh => Z.resv1 rfl (Z.rv_t hf rfl)) (⟨A1, c2, rfl, rfl⟩)

def F.R06_text_j1 (y2 : Bool) : Option Bool := some y2
def F.R06_text_j2 (y6 : Bool) : Option Bool := some y6
def F.R06_text_j3 (a0 : D37) (y5 : Bool) : Option Bool := if y5 = true then (if (a0.2.2.size : Int) ≤ 4 then ((F.R05_Valid a0.2.2).bind fun r7 => (if r7 = true then ((F.R05_Runes a0.2.2).bind fun r9 => (F.R06_text_j2 (decide (((r9).length : Int) = 1)))) else (F.R06_text_j2 false))) else (F.R06_text_j2 false)) else (some (decide (a0.2.2 = (ByteArray.mk #[]))))
def F.R06_text (a0 : D37) : Option Bool := if a0.1 = 5 then (if (bif decide ((1 : Int) ≤ (a0.2.2.size : Int)) then decide ((a0.2.2.size : Int) ≤ 16) else false) = true then ((F.R05_Valid a0.2.2).bind fun r3 => (F.R06_text_j1 r3)) else (F.R06_text_j1 false)) else (if a0.1 = 12 then (F.R06_text_j3 a0 (decide (a0.1 = 12))) else (F.R06_text_j3 a0 (decide (a0.1 = 22))))
theorem R06_text_ok (a0 : D37) (h0_ : IntKind.i64.has a0.1) (h1_ : IntKind.i64.has a0.2.1) (h2_ : a0.2.2.size ≤ maxLen) (r : Bool) (hF : F.R06_text a0 = some r) :
    A.Ct Tryd.prog 124 [.agg #[.int .i64 a0.1, .int .i64 a0.2.1, .string a0.2.2]] [] [] (fun v H' => v = .bool r ∧ H' = []) := by
  refine A.Ct.enter Tryd.func124 rfl Tryd.ntmps124 rfl fun w0 F0 => ?_
  rw [F.R06_text] at hF
  refine A.AX.sr ?_
  refine A.AL.box 0 (cs := [.int .i64 a0.1, .int .i64 a0.2.1, .string a0.2.2]) fun g1 => ?_
  refine A.AL.q [] [] [.n] [] [] [] trivial ?_
  refine A.AL.dn ?_
  refine A.AX.sr ?_
  refine A.AL.q [0] [] [.n, .b 0 0] [4] [] [(4, .int .i64 a0.1)] trivial ?_
  refine A.AL.dn ?_
  refine A.AX.block ?_
  refine A.AX.sr ?_
  refine A.AL.q [] [] [.n, .n] [8] [] [(8, .bool (decide (a0.1 = 5)))] trivial ?_
  refine A.AL.dn ?_
  refine A.AX.cnd rfl hF (fun hb hF => ?_) (fun hb hF => ?_)
  · refine A.AX.join [] [] (fun nl nh => ∃ (y2 : Bool), nl = [(2, .bool y2)] ∧ nh = [] ∧ F.R06_text_j1 y2 = some r) ?_ ?_
    · refine A.AX.reg ?_
      refine A.AL.q [0] [] [.n, .b 0 2, .n, .n, .n, .sy .n, .sy (.b 0 2), .sy .n, .sy .n, .pk, .n] [20] [] [(20, .bool (bif decide ((1 : Int) ≤ (a0.2.2.size : Int)) then decide ((a0.2.2.size : Int) ≤ 16) else false))] trivial ?_
      refine A.AL.cnd (j := 20) rfl hF (fun hF => ?_) (fun hF => ?_)
      · refine A.AL.q [0] [] [.on .n, .on (.b 0 2)] [22] [] [(22, .string a0.2.2)] trivial ?_
        refine A.AL.on (dj := 20) rfl rfl ?_
        obtain ⟨r3, hv4, hF⟩ := A.bd_some hF
        refine A.AL.call 1 [] (first := []) (cap := []) cf130 (R05_Valid_ok a0.2.2 h2_ r3 hv4) .nil ?_
        rintro _ _ ⟨rfl, rfl⟩
        refine ⟨by kernel_rfl, ?_⟩
        refine A.AL.q [] [] [.n, .n] [2] [] [(2, .bool r3)] trivial ?_
        refine A.AL.done ?_
        exact A.AE.j [] [(2, .bool r3)] [] ⟨r3, rfl, rfl, hF⟩
      · refine A.AL.q [] [] [.off, .off, .off, .n, .n] [2] [] [(2, .bool false)] trivial ?_
        refine A.AL.done ?_
        exact A.AE.j [] [(2, .bool false)] [] ⟨false, rfl, rfl, hF⟩
    · rintro _ _ ⟨y2, rfl, rfl, hF⟩
      rw [F.R06_text_j1] at hF
      obtain rfl := Option.some.inj hF
      exact A.AX.ret [] (.bool y2) (fun a w hf hh => Z.resv1 rfl (Z.rv_t hf rfl)) (⟨rfl, rfl⟩)
  · refine A.AX.join [1] [0] (fun nl nh => ∃ (y5 : Bool), nl = [(25, .bool y5)] ∧ nh = [] ∧ F.R06_text_j3 a0 y5 = some r) ?_ ?_
    · refine A.AX.sr ?_
      refine A.AL.q [] [] [.n, .n] [25] [] [(25, .bool (decide (a0.1 = 12)))] trivial ?_
      refine A.AL.dn ?_
      refine A.AX.cnd rfl hF (fun hb hF => ?_) (fun hb hF => ?_)
      · refine A.AX.skip ?_
        exact A.AE.j [0] [(25, .bool (decide (a0.1 = 12)))] [] ⟨(decide (a0.1 = 12)), rfl, rfl, hF⟩
      · refine A.AX.reg ?_
        refine A.AL.q [] [] [.n, .n] [25] [] [(25, .bool (decide (a0.1 = 22)))] trivial ?_
        refine A.AL.done ?_
        exact A.AE.j [0] [(25, .bool (decide (a0.1 = 22)))] [] ⟨(decide (a0.1 = 22)), rfl, rfl, hF⟩
    · rintro _ _ ⟨y5, rfl, rfl, hF⟩
      rw [F.R06_text_j3] at hF
      refine A.AX.cnb rfl hF (fun hb hF => ?_) (fun hb hF => ?_)
      · refine A.AX.join [] [] (fun nl nh => ∃ (y6 : Bool), nl = [(2, .bool y6)] ∧ nh = [] ∧ F.R06_text_j2 y6 = some r) ?_ ?_
        · refine A.AX.reg ?_
          refine A.AL.q [0] [] [.n, .b 0 2, .n, .n, .n] [32] [] [(32, .bool (decide ((a0.2.2.size : Int) ≤ 4)))] trivial ?_
          refine A.AL.cnp (j := 32) rfl hF (fun hb hF => ?_) (fun hb hF => ?_)
          · refine A.AL.q [0] [] [.on .n, .on (.b 0 2)] [34] [] [(34, .string a0.2.2)] trivial ?_
            refine A.AL.on (dj := 32) rfl rfl ?_
            obtain ⟨r7, hv8, hF⟩ := A.bd_some hF
            refine A.AL.call 41 [] (first := []) (cap := []) cf130 (R05_Valid_ok a0.2.2 h2_ r7 hv8) .nil ?_
            rintro _ _ ⟨rfl, rfl⟩
            refine ⟨by kernel_rfl, ?_⟩
            refine A.AL.q [] [] [.n, .n] [37] [] [(37, .bool r7)] trivial ?_
            refine A.AL.cnd (j := 37) rfl hF (fun hF => ?_) (fun hF => ?_)
            · refine A.AL.q [0] [] [.on .n, .on (.b 0 2)] [39] [] [(39, .string a0.2.2)] trivial ?_
              refine A.AL.on (dj := 37) rfl rfl ?_
              obtain ⟨r9, hv10, hF⟩ := A.bd_some hF
              refine A.AL.call 81 [] (first := []) (cap := []) cf131 (R05_Runes_ok a0.2.2 h2_ r9 hv10) .nil ?_
              rintro _ _ ⟨A11, c12, rfl, rfl⟩
              refine ⟨by kernel_rfl, ?_⟩
              refine A.AL.q [] [] [.on .n, .on .n, .n, .n] [2] [] [(2, .bool (decide (((r9).length : Int) = 1)))] trivial ?_
              refine A.AL.done ?_
              exact A.AE.j [] [(2, .bool (decide (((r9).length : Int) = 1)))] [] ⟨(decide (((r9).length : Int) = 1)), rfl, rfl, hF⟩
            · refine A.AL.q [] [] [.off, .off, .off, .off, .off, .n, .n] [2] [] [(2, .bool false)] trivial ?_
              refine A.AL.done ?_
              exact A.AE.j [] [(2, .bool false)] [] ⟨false, rfl, rfl, hF⟩
          · refine A.AL.q [] [] [.off, .off, .off, .n, .n, .off, .off, .off, .off, .off, .n, .n] [2] [] [(2, .bool false)] trivial ?_
            refine A.AL.done ?_
            exact A.AE.j [] [(2, .bool false)] [] ⟨false, rfl, rfl, hF⟩
        · rintro _ _ ⟨y6, rfl, rfl, hF⟩
          rw [F.R06_text_j2] at hF
          obtain rfl := Option.some.inj hF
          exact A.AX.ret [] (.bool y6) (fun a w hf hh => Z.resv1 rfl (Z.rv_t hf rfl)) (⟨rfl, rfl⟩)
      · refine A.AX.sr ?_
        refine A.AL.q [0] [] [.n, .b 0 2, .n, .n] [2] [] [(2, .bool (decide (a0.2.2 = (ByteArray.mk #[]))))] trivial ?_
        refine A.AL.dn ?_
        obtain rfl := Option.some.inj hF
        exact A.AX.ret [] (.bool (decide (a0.2.2 = (ByteArray.mk #[])))) (fun a w hf hh => Z.resv1 rfl (Z.rv_t hf rfl)) (⟨rfl, rfl⟩)

def F.R06_Check_j1 (k1 : Int → Option Int) (y7 : Int) (y10 : Bool) : Option Int := if y10 = true then (some 0) else (A.gd (Z.R64 (y7 + 1)) (k1 (y7 + 1)))
def F.R06_Check_l2 (a1 : D37) (r2 : (List Int)) : Nat → Int → Option Int
  | 0, _ => none
  | f + 1, y7 => if y7 < ((r2).length : Int) then ((A.ix r2 y7).bind fun x12 => (if x12 = a1.1 then ((F.R06_number (a1.1, a1.2.1, a1.2.2)).bind fun r17 => (if r17 = true then ((F.R06_text (a1.1, a1.2.1, a1.2.2)).bind fun r19 => (F.R06_Check_j1 (F.R06_Check_l2 a1 r2 f) y7 r19)) else (F.R06_Check_j1 (F.R06_Check_l2 a1 r2 f) y7 false))) else (F.R06_Check_j1 (F.R06_Check_l2 a1 r2 f) y7 false))) else (some 60)
def F.R06_Check_j3 (a1 : D37) (r2 : (List Int)) (y6 : Bool) : Option Int := if y6 = true then (some 0) else (F.R06_Check_l2 a1 r2 A.FU 0)
def F.R06_Check (a0 : Int) (a1 : D37) : Option Int := (F.R06_Uses a0).bind fun r2 => (if ((r2).length : Int) = 0 then (F.R06_Check_j3 a1 r2 (decide ((a1.1, a1.2.1, a1.2.2) = (0, 0, ByteArray.mk #[])))) else (F.R06_Check_j3 a1 r2 false))
theorem R06_Check_ok (a0 : Int) (a1 : D37) (h0_ : IntKind.i64.has a0) (h1_ : IntKind.i64.has a1.1) (h2_ : IntKind.i64.has a1.2.1) (h3_ : a1.2.2.size ≤ maxLen) (r : Int) (hF : F.R06_Check a0 a1 = some r) :
    A.Ct Tryd.prog 102 [.int .i64 a0, .agg #[.int .i64 a1.1, .int .i64 a1.2.1, .string a1.2.2]] [] [] (fun v H' => v = .int .i64 r ∧ H' = [] ∧ IntKind.i64.has r) := by
  refine A.Ct.enter Tryd.func102 rfl Tryd.ntmps102 rfl fun w0 F0 => ?_
  rw [F.R06_Check] at hF
  refine A.AX.sr ?_
  refine A.AL.box 0 (cs := [.int .i64 a1.1, .int .i64 a1.2.1, .string a1.2.2]) fun g1 => ?_
  refine A.AL.q [] [] [.n] [] [] [] trivial ?_
  refine A.AL.dn ?_
  refine A.AX.sr ?_
  refine A.AL.q [] [] [.n] [7] [] [(7, .int .i64 a0)] trivial ?_
  obtain ⟨r2, hv3, hF⟩ := A.bd_some hF
  refine A.AL.call 1 [] (first := []) (cap := []) cf122 (R06_Uses_ok a0 h0_ r2 hv3) .nil ?_
  rintro _ _ ⟨A4, c5, rfl, rfl⟩
  refine ⟨by kernel_rfl, ?_⟩
  refine A.AL.q [] [] [.n] [5] [] [(5, .slice A4 ((r2).length) c5)] trivial ?_
  refine A.AL.dn ?_
  refine A.AX.seq ?_
  refine A.AX.join [3, 5] [0, 1] (fun nl nh => ∃ (y6 : Bool), nl = [(16, .bool y6)] ∧ nh = [] ∧ F.R06_Check_j3 a1 r2 y6 = some r) ?_ ?_
  · refine A.AX.reg ?_
    refine A.AL.q [] [] [.n, .n, .n, .n] [12] [] [(12, .bool (decide (((r2).length : Int) = 0)))] trivial ?_
    refine A.AL.cnp (j := 12) rfl hF (fun hb hF => ?_) (fun hb hF => ?_)
    · refine A.AL.q [0] [] [.on (.b 0 0), .on .n] [13, 14] [] [(13, .agg #[.int .i64 a1.1, .int .i64 a1.2.1, .string a1.2.2]), (14, .agg #[.int .i64 0, .int .i64 0, .string (ByteArray.mk #[])])] trivial ?_
      refine A.AL.on (dj := 12) rfl rfl ?_
      refine A.AL.val rfl (fun a w hf hh => eqagg_eql38 (x := (a1.1, a1.2.1, a1.2.2)) (y := (0, 0, ByteArray.mk #[])) (hf.eval rfl) (hf.eval rfl)) ?_
      refine A.AL.q [] [] [.n] [16] [] [(16, .bool (decide ((a1.1, a1.2.1, a1.2.2) = (0, 0, ByteArray.mk #[]))))] trivial ?_
      refine A.AL.done ?_
      exact A.AE.j [0, 1] [(16, .bool (decide ((a1.1, a1.2.1, a1.2.2) = (0, 0, ByteArray.mk #[]))))] [] ⟨(decide ((a1.1, a1.2.1, a1.2.2) = (0, 0, ByteArray.mk #[]))), rfl, rfl, hF⟩
    · refine A.AL.q [] [] [.off, .off, .off, .n] [16] [] [(16, .bool false)] trivial ?_
      refine A.AL.done ?_
      exact A.AE.j [0, 1] [(16, .bool false)] [] ⟨false, rfl, rfl, hF⟩
  · rintro _ _ ⟨y6, rfl, rfl, hF⟩
    rw [F.R06_Check_j3] at hF
    refine A.AX.cnb rfl hF (fun hb hF => ?_) (fun hb hF => ?_)
    · refine A.AX.sr ?_
      refine A.AL.q [] [] [.n] [4] [] [(4, .int .i64 0)] trivial ?_
      refine A.AL.dn ?_
      obtain rfl := Option.some.inj hF
      exact A.AX.ret [] (.int .i64 0) (fun a w hf hh => Z.resv1 rfl (Z.rv_t hf rfl)) (⟨rfl, rfl, (A.hasl .i64 (0) rfl)⟩)
    · refine A.AX.skip ?_
      refine A.AE.c ?_
      refine A.AX.seq ?_
      refine A.AX.sr ?_
      refine A.AL.q [] [] [.n] [6] [] [(6, .int .i64 0)] trivial ?_
      refine A.AL.dn ?_
      refine A.AX.block ?_
      refine A.AX.loop [3, 5] [0, 1] [0, 1] (fun f nl nh => ∃ (y7 : Int), nl = [(6, .int .i64 y7)] ∧ nh = [] ∧ IntKind.i64.has y7 ∧ F.R06_Check_l2 a1 r2 f y7 = some r) A.FU [(6, .int .i64 0)] [] ⟨0, rfl, rfl, (A.hasl .i64 (0) rfl), hF⟩ ?_
      rintro f9 _ _ ⟨y7, rfl, rfl, hy8, hF⟩
      cases f9 with
      | zero => exact A.no0 hF
      | succ f9 =>
        rw [F.R06_Check_l2] at hF
        refine A.AX.seq ?_
        refine A.AX.sr ?_
        refine A.AL.q [] [] [.n, .n, .n, .n] [20] [] [(20, .bool (decide (y7 < ((r2).length : Int))))] trivial ?_
        refine A.AL.dn ?_
        refine A.AX.cnd rfl hF (fun hb hF => ?_) (fun hb hF => ?_)
        · refine A.AX.skip ?_
          refine A.AE.c ?_
          refine A.AX.seq ?_
          refine A.AX.block ?_
          refine A.AX.join [3, 5, 6] [0, 1] (fun nl nh => ∃ (y10 : Bool), nl = [(37, .bool y10)] ∧ nh = [] ∧ F.R06_Check_j1 (F.R06_Check_l2 a1 r2 f9) y7 y10 = some r) ?_ ?_
          · refine A.AX.dr mixed 15 15 [false, false, false, false, false, false, false, false, false, false, false, false, false, false, false] ?_
            refine A.AH.q (A.pk_kont (Z.Pq.body _ _ _)) [] [0, 1] [0] [] [true, true, false, false, true, true, false, false, false, false, false, false, false, false, false] 11 [(0, .n), (1, .n), (4, .n), (5, .b 0 0)] [23, 24, 28] [] [(23, .slice A4 ((r2).length) c5), (24, .int .i64 y7), (28, .int .i64 a1.1)] trivial ?_
            obtain ⟨x12, hv13, hF⟩ := A.bd_some hF
            refine A.AH.pko 1 203 hv13 fun ho14 => ?_
            intro g16 hA15
            refine A.AH.v (A.pk_kont (Z.Pq.body _ _ _)) [0, 1] [0, 1, 203] 2 [true, true, true, false, true, true, false, false, false, false, false, false, false, false, false] rfl (fun a w hf hh => A.r_ixo (t := (Z.Ty.int .i64)) hv13 hA15 hf) ?_
            refine A.AH.q (A.pk_kont (Z.Pq.body _ _ _)) [0, 1, 203] [0, 1, 203] [] [203] [true, true, true, true, true, true, true, true, false, false, false, false, false, false, false] 7 [(3, .e 0 0), (6, .n), (7, .n)] [30] [] [(30, .bool (decide (x12 = a1.1)))] trivial ?_
            refine A.AH.cnp (j := 30) rfl hF (fun hb hF => ?_) (fun hb hF => ?_)
            · refine A.AH.q (A.pk_kont (Z.Pq.body _ _ _)) [0, 1, 203] [0, 1, 203] [0] [] [true, true, true, true, true, true, true, true, true, false, false, false, false, false, false] 6 [(8, .on (.b 0 0))] [31] [] [(31, .agg #[.int .i64 a1.1, .int .i64 a1.2.1, .string a1.2.2])] trivial ?_
              refine A.AH.one 9 ?_
              refine A.AL.on (dj := 30) rfl rfl ?_
              obtain ⟨r17, hv18, hF⟩ := A.bd_some hF
              refine A.AL.call 204 [] (first := []) (cap := []) cf123 (R06_number_ok (a1.1, a1.2.1, a1.2.2) h1_ h2_ h3_ r17 hv18) .nil ?_
              rintro _ _ ⟨rfl, rfl⟩
              refine ⟨by kernel_rfl, ?_⟩
              refine A.AH.nx [true, true, true, true, true, true, true, true, true, true, false, false, false, false, false] [0, 1, 203] ?_
              refine A.AH.q (A.pk_kont (Z.Pq.body _ _ _)) [0, 1, 203] [0, 1, 203] [] [] [true, true, true, true, true, true, true, true, true, true, true, true, false, false, false] 3 [(10, .n), (11, .n)] [34] [] [(34, .bool r17)] trivial ?_
              refine A.AH.cnd (j := 34) rfl hF (fun hF => ?_) (fun hF => ?_)
              · refine A.AH.q (A.pk_kont (Z.Pq.body _ _ _)) [0, 1, 203] [0, 1, 203] [0] [] [true, true, true, true, true, true, true, true, true, true, true, true, true, false, false] 2 [(12, .on (.b 0 0))] [35] [] [(35, .agg #[.int .i64 a1.1, .int .i64 a1.2.1, .string a1.2.2])] trivial ?_
                refine A.AH.one 13 ?_
                refine A.AL.on (dj := 34) rfl rfl ?_
                obtain ⟨r19, hv20, hF⟩ := A.bd_some hF
                refine A.AL.call 244 [] (first := []) (cap := []) cf124 (R06_text_ok (a1.1, a1.2.1, a1.2.2) h1_ h2_ h3_ r19 hv20) .nil ?_
                rintro _ _ ⟨rfl, rfl⟩
                refine ⟨by kernel_rfl, ?_⟩
                refine A.AH.nx [true, true, true, true, true, true, true, true, true, true, true, true, true, true, false] [0, 1, 203] ?_
                refine A.AH.q (A.pk_kont (Z.Pq.body _ _ _)) [0, 1, 203] [0, 1, 203] [] [] [true, true, true, true, true, true, true, true, true, true, true, true, true, true, true] 0 [(14, .n)] [37] [] [(37, .bool r19)] trivial ?_
                refine A.AH.done ?_
                exact A.AE.j [0, 1] [(37, .bool r19)] [] ⟨r19, rfl, rfl, hF⟩
              · refine A.AH.q (A.pk_kont (Z.Pq.body _ _ _)) [0, 1, 203] [0, 1, 203] [] [] [true, true, true, true, true, true, true, true, true, true, true, true, true, true, true] 0 [(12, .off), (13, .off), (14, .n)] [37] [] [(37, .bool false)] trivial ?_
                refine A.AH.done ?_
                exact A.AE.j [0, 1] [(37, .bool false)] [] ⟨false, rfl, rfl, hF⟩
            · refine A.AH.q (A.pk_kont (Z.Pq.body _ _ _)) [0, 1, 203] [0, 1, 203] [] [] [true, true, true, true, true, true, true, true, true, true, true, true, true, true, true] 0 [(8, .off), (9, .off), (10, .n), (11, .n), (12, .off), (13, .off), (14, .n)] [37] [] [(37, .bool false)] trivial ?_
              refine A.AH.done ?_
              exact A.AE.j [0, 1] [(37, .bool false)] [] ⟨false, rfl, rfl, hF⟩
          · rintro _ _ ⟨y10, rfl, rfl, hF⟩
            rw [F.R06_Check_j1] at hF
            refine A.AX.cnb rfl hF (fun hb hF => ?_) (fun hb hF => ?_)
            · refine A.AX.sr ?_
              refine A.AL.q [] [] [.n] [4] [] [(4, .int .i64 0)] trivial ?_
              refine A.AL.dn ?_
              obtain rfl := Option.some.inj hF
              exact A.AX.ret [] (.int .i64 0) (fun a w hf hh => Z.resv1 rfl (Z.rv_t hf rfl)) (⟨rfl, rfl, (A.hasl .i64 (0) rfl)⟩)
            · refine A.AX.skip ?_
              refine A.AE.b ?_
              refine A.AE.c ?_
              refine A.AX.reg ?_
              obtain ⟨hc11, hF⟩ := A.gd_some hF
              refine A.AL.q [] [] [.n, .n, .n] [6] [Z.R64 (y7 + 1)] [(6, .int .i64 (y7 + 1))] hc11 ?_
              refine A.AL.done ?_
              exact A.AE.j [0, 1] [(6, .int .i64 (y7 + 1))] [] ⟨_, Nat.lt_succ_self _, ⟨(y7 + 1), rfl, rfl, (Z.i64_has hc11), hF⟩⟩
        · refine A.AX.exit rfl ?_
          refine A.AE.c ?_
          refine A.AX.sr ?_
          refine A.AL.q [] [] [.n] [4] [] [(4, .int .i64 60)] trivial ?_
          refine A.AL.dn ?_
          obtain rfl := Option.some.inj hF
          exact A.AX.ret [] (.int .i64 60) (fun a w hf hh => Z.resv1 rfl (Z.rv_t hf rfl)) (⟨rfl, rfl, (A.hasl .i64 (60) rfl)⟩)
end Go.Proofs.YtleiipbkfaajfaaDoor
end
