/- Functions on data, and that the code computes them. * Functions on data, and that the code computes them. * Functions on data, and that the code computes them. * Functions on data, and that the code computes them. * Functions on data, and that the code computes them. * Functions on data, and that the code computes them. * Functions on data, and that the code computes them. * Functions on data, and that the code computes them. * Functions on data, and that the code computes them. * Functions on data, and that the code computes them. -/
import Derived.Test.YtleiipbkfaajfaaDoorL0
import Derived.Test.YtleiipbkfaajfaaDoorL1
import Derived.Test.YtleiipbkfaajfaaDoorL2
section
set_option linter.unusedVariables false
set_option linter.unusedSimpArgs false
set_option maxRecDepth 20000
set_option maxHeartbeats 8000000
set_option synthInstance.maxSize 1000000
set_option synthInstance.maxHeartbeats 400000
namespace Go.Proofs.YtleiipbkfaajfaaDoor
open Go.RowKit
def F.R02_Enter (a0 : Int) : Option (D68 × Int) := (F.R02_step a0 a0 0 1).bind fun r2 => (some ((r2.1.1, r2.1.2.1, r2.1.2.2.1, r2.1.2.2.2.1, (r2.1.2.2.2.2.1, r2.1.2.2.2.2.2.1, r2.1.2.2.2.2.2.2.1, r2.1.2.2.2.2.2.2.2)), r2.2))
theorem R02_Enter_ok (a0 : Int) (h0_ : IntKind.i64.has a0) (r : D68 × Int) (hF : F.R02_Enter a0 = some r) :
    A.Ct Tryd.prog 115 [.int .i64 a0] [] [] (fun v H' => v = .tuple #[.agg #[.int .i64 r.1.1, .int .i64 r.1.2.1, .int .i64 r.1.2.2.1, .int .i64 r.1.2.2.2.1, .int .i64 r.1.2.2.2.2.1, .int .i64 r.1.2.2.2.2.2.1, .int .i64 r.1.2.2.2.2.2.2.1, .int .i64 r.1.2.2.2.2.2.2.2], .int .i64 r.2] ∧ H' = [] ∧ IntKind.i64.has r.1.1 ∧ IntKind.i64.has r.1.2.1 ∧ IntKind.i64.has r.1.2.2.1 ∧ IntKind.i64.has r.1.2.2.2.1 ∧ IntKind.i64.has r.1.2.2.2.2.1 ∧ IntKind.i64.has r.1.2.2.2.2.2.1 ∧ IntKind.i64.has r.1.2.2.2.2.2.2.1 ∧ IntKind.i64.has r.1.2.2.2.2.2.2.2 ∧ IntKind.i64.has r.2) := by
 refine A.Ct.enter Tryd.func115 rfl Tryd.ntmps115 rfl fun w0 F0 => ?_
 rw [F.R02_Enter] at hF
 refine A.xl 1 ?_
 refine A.AL.alloc 0 (cs := [.int .i64 0, .int .i64 0, .int .i64 0, .int .i64 0, .int .i64 0, .int .i64 0, .int .i64 0, .int .i64 0]) Tryd.zeroValue69 fun g1 => ?_
 refine A.q0 [] [] [.n] [] ?_
 refine A.dl 2 ?_
 refine A.q0 [] [] [.n, .n] [(4, .int .i64 a0), (5, .int .i64 a0)] ?_
 obtain ⟨r2, hv3, hF⟩ := A.bd_some hF
 refine A.AL.call 1 [] (first := []) (cap := []) cf70 (R02_step_ok a0 a0 0 1 h0_ h0_ (A.hasl .i64 (0) rfl) (A.hasl .i64 (1) rfl) r2 hv3) .nil ?_
 rintro _ _ ⟨rfl, rfl, hr4, hr5, hr6, hr7, hr8, hr9, hr10, hr11, hr12⟩
 refine ⟨by kernel_rfl, ?_⟩
 refine A.q0 [] [] [.n, .n] [(7, .agg #[.int .i64 r2.1.1, .int .i64 r2.1.2.1, .int .i64 r2.1.2.2.1, .int .i64 r2.1.2.2.2.1, .int .i64 r2.1.2.2.2.2.1, .int .i64 r2.1.2.2.2.2.2.1, .int .i64 r2.1.2.2.2.2.2.2.1, .int .i64 r2.1.2.2.2.2.2.2.2]), (8, .int .i64 r2.2)] ?_
 refine A.sw 0 [] [.int .i64 r2.1.1, .int .i64 r2.1.2.1, .int .i64 r2.1.2.2.1, .int .i64 r2.1.2.2.2.1, .int .i64 r2.1.2.2.2.2.1, .int .i64 r2.1.2.2.2.2.2.1, .int .i64 r2.1.2.2.2.2.2.2.1, .int .i64 r2.1.2.2.2.2.2.2.2] ?_
 refine A.q0 [] [] [.n] [(3, .int .i64 r2.2)] ?_
 refine A.dx 1 ?_
 obtain rfl := Option.some.inj hF
 exact A.AX.ret [] (.tuple #[.agg #[.int .i64 r2.1.1, .int .i64 r2.1.2.1, .int .i64 r2.1.2.2.1, .int .i64 r2.1.2.2.2.1, .int .i64 r2.1.2.2.2.2.1, .int .i64 r2.1.2.2.2.2.2.1, .int .i64 r2.1.2.2.2.2.2.2.1, .int .i64 r2.1.2.2.2.2.2.2.2], .int .i64 r2.2]) (fun a w hf hh => Z.resv2 rfl (Z.rv_n hf rfl Tryd.isAgg69 Tryd.sizeOf69 (A.Hp.blk hh 0) rfl) (Z.rv_t hf rfl)) (⟨rfl, rfl, hr4, hr5, hr6, hr7, hr8, hr9, hr10, hr11, hr12⟩)

def F.R02_Leave (a0 : Int) : Option (D68 × Int) := if a0 < 1 then (some ((0, 0, 0, 0, (0, 0, 0, 0)), 11)) else (A.gd (Z.R64 (a0 - 1)) ((F.R02_step a0 (a0 - 1) 0 0).bind fun r3 => (some ((r3.1.1, r3.1.2.1, r3.1.2.2.1, r3.1.2.2.2.1, (r3.1.2.2.2.2.1, r3.1.2.2.2.2.2.1, r3.1.2.2.2.2.2.2.1, r3.1.2.2.2.2.2.2.2)), r3.2))))
theorem R02_Leave_ok (a0 : Int) (h0_ : IntKind.i64.has a0) (r : D68 × Int) (hF : F.R02_Leave a0 = some r) :
    A.Ct Tryd.prog 116 [.int .i64 a0] [] [] (fun v H' => v = .tuple #[.agg #[.int .i64 r.1.1, .int .i64 r.1.2.1, .int .i64 r.1.2.2.1, .int .i64 r.1.2.2.2.1, .int .i64 r.1.2.2.2.2.1, .int .i64 r.1.2.2.2.2.2.1, .int .i64 r.1.2.2.2.2.2.2.1, .int .i64 r.1.2.2.2.2.2.2.2], .int .i64 r.2] ∧ H' = [] ∧ IntKind.i64.has r.1.1 ∧ IntKind.i64.has r.1.2.1 ∧ IntKind.i64.has r.1.2.2.1 ∧ IntKind.i64.has r.1.2.2.2.1 ∧ IntKind.i64.has r.1.2.2.2.2.1 ∧ IntKind.i64.has r.1.2.2.2.2.2.1 ∧ IntKind.i64.has r.1.2.2.2.2.2.2.1 ∧ IntKind.i64.has r.1.2.2.2.2.2.2.2 ∧ IntKind.i64.has r.2) := by
 refine A.Ct.enter Tryd.func116 rfl Tryd.ntmps116 rfl fun w0 F0 => ?_
 rw [F.R02_Leave] at hF
 refine A.xl 1 ?_
 refine A.AL.alloc 0 (cs := [.int .i64 0, .int .i64 0, .int .i64 0, .int .i64 0, .int .i64 0, .int .i64 0, .int .i64 0, .int .i64 0]) Tryd.zeroValue69 fun g1 => ?_
 refine A.q0 [] [] [.n] [] ?_
 refine A.dl 3 ?_
 refine A.q0 [] [] [.n, .n] [(5, .bool (decide (a0 < 1)))] ?_
 refine A.dx 1 ?_
 refine A.AX.cnd rfl hF (fun hb hF => ?_) (fun hb hF => ?_)
 ·refine A.xl 1 ?_
  refine A.q0 [] [] [.n] [(6, .agg #[.int .i64 0, .int .i64 0, .int .i64 0, .int .i64 0, .int .i64 0, .int .i64 0, .int .i64 0, .int .i64 0])] ?_
  refine A.sw 0 [] [.int .i64 0, .int .i64 0, .int .i64 0, .int .i64 0, .int .i64 0, .int .i64 0, .int .i64 0, .int .i64 0] ?_
  refine A.q0 [] [] [.n] [(3, .int .i64 11)] ?_
  refine A.dx 1 ?_
  obtain rfl := Option.some.inj hF
  exact A.AX.ret [] (.tuple #[.agg #[.int .i64 0, .int .i64 0, .int .i64 0, .int .i64 0, .int .i64 0, .int .i64 0, .int .i64 0, .int .i64 0], .int .i64 11]) (fun a w hf hh => Z.resv2 rfl (Z.rv_n hf rfl Tryd.isAgg69 Tryd.sizeOf69 (A.Hp.blk hh 0) rfl) (Z.rv_t hf rfl)) (⟨rfl, rfl, (A.hasl .i64 (0) rfl), (A.hasl .i64 (0) rfl), (A.hasl .i64 (0) rfl), (A.hasl .i64 (0) rfl), (A.hasl .i64 (0) rfl), (A.hasl .i64 (0) rfl), (A.hasl .i64 (0) rfl), (A.hasl .i64 (0) rfl), (A.hasl .i64 (11) rfl)⟩)
 refine A.xl 3 ?_
 obtain ⟨hc2, hF⟩ := A.gd_some hF
 refine A.q [] [] [.n, .n, .n] [Z.R64 (a0 - 1)] [(7, .int .i64 a0), (9, .int .i64 (a0 - 1))] hc2 ?_
 obtain ⟨r3, hv4, hF⟩ := A.bd_some hF
 refine A.AL.call 1 [] (first := []) (cap := []) cf70 (R02_step_ok a0 (a0 - 1) 0 0 h0_ (Z.i64_has hc2) (A.hasl .i64 (0) rfl) (A.hasl .i64 (0) rfl) r3 hv4) .nil ?_
 rintro _ _ ⟨rfl, rfl, hr5, hr6, hr7, hr8, hr9, hr10, hr11, hr12, hr13⟩
 refine ⟨by kernel_rfl, ?_⟩
 refine A.q0 [] [] [.n, .n] [(11, .agg #[.int .i64 r3.1.1, .int .i64 r3.1.2.1, .int .i64 r3.1.2.2.1, .int .i64 r3.1.2.2.2.1, .int .i64 r3.1.2.2.2.2.1, .int .i64 r3.1.2.2.2.2.2.1, .int .i64 r3.1.2.2.2.2.2.2.1, .int .i64 r3.1.2.2.2.2.2.2.2]), (12, .int .i64 r3.2)] ?_
 refine A.sw 0 [] [.int .i64 r3.1.1, .int .i64 r3.1.2.1, .int .i64 r3.1.2.2.1, .int .i64 r3.1.2.2.2.1, .int .i64 r3.1.2.2.2.2.1, .int .i64 r3.1.2.2.2.2.2.1, .int .i64 r3.1.2.2.2.2.2.2.1, .int .i64 r3.1.2.2.2.2.2.2.2] ?_
 refine A.q0 [] [] [.n] [(3, .int .i64 r3.2)] ?_
 refine A.dx 1 ?_
 obtain rfl := Option.some.inj hF
 exact A.AX.ret [] (.tuple #[.agg #[.int .i64 r3.1.1, .int .i64 r3.1.2.1, .int .i64 r3.1.2.2.1, .int .i64 r3.1.2.2.2.1, .int .i64 r3.1.2.2.2.2.1, .int .i64 r3.1.2.2.2.2.2.1, .int .i64 r3.1.2.2.2.2.2.2.1, .int .i64 r3.1.2.2.2.2.2.2.2], .int .i64 r3.2]) (fun a w hf hh => Z.resv2 rfl (Z.rv_n hf rfl Tryd.isAgg69 Tryd.sizeOf69 (A.Hp.blk hh 0) rfl) (Z.rv_t hf rfl)) (⟨rfl, rfl, hr5, hr6, hr7, hr8, hr9, hr10, hr11, hr12, hr13⟩)

def F.R02_Next (a0 : Int) : Option (D68 × Int) := (F.R02_step a0 a0 1 0).bind fun r2 => (some ((r2.1.1, r2.1.2.1, r2.1.2.2.1, r2.1.2.2.2.1, (r2.1.2.2.2.2.1, r2.1.2.2.2.2.2.1, r2.1.2.2.2.2.2.2.1, r2.1.2.2.2.2.2.2.2)), r2.2))
theorem R02_Next_ok (a0 : Int) (h0_ : IntKind.i64.has a0) (r : D68 × Int) (hF : F.R02_Next a0 = some r) :
    A.Ct Tryd.prog 117 [.int .i64 a0] [] [] (fun v H' => v = .tuple #[.agg #[.int .i64 r.1.1, .int .i64 r.1.2.1, .int .i64 r.1.2.2.1, .int .i64 r.1.2.2.2.1, .int .i64 r.1.2.2.2.2.1, .int .i64 r.1.2.2.2.2.2.1, .int .i64 r.1.2.2.2.2.2.2.1, .int .i64 r.1.2.2.2.2.2.2.2], .int .i64 r.2] ∧ H' = [] ∧ IntKind.i64.has r.1.1 ∧ IntKind.i64.has r.1.2.1 ∧ IntKind.i64.has r.1.2.2.1 ∧ IntKind.i64.has r.1.2.2.2.1 ∧ IntKind.i64.has r.1.2.2.2.2.1 ∧ IntKind.i64.has r.1.2.2.2.2.2.1 ∧ IntKind.i64.has r.1.2.2.2.2.2.2.1 ∧ IntKind.i64.has r.1.2.2.2.2.2.2.2 ∧ IntKind.i64.has r.2) := by
 refine A.Ct.enter Tryd.func117 rfl Tryd.ntmps117 rfl fun w0 F0 => ?_
 rw [F.R02_Next] at hF
 refine A.xl 1 ?_
 refine A.AL.alloc 0 (cs := [.int .i64 0, .int .i64 0, .int .i64 0, .int .i64 0, .int .i64 0, .int .i64 0, .int .i64 0, .int .i64 0]) Tryd.zeroValue69 fun g1 => ?_
 refine A.q0 [] [] [.n] [] ?_
 refine A.dl 2 ?_
 refine A.q0 [] [] [.n, .n] [(4, .int .i64 a0), (5, .int .i64 a0)] ?_
 obtain ⟨r2, hv3, hF⟩ := A.bd_some hF
 refine A.AL.call 1 [] (first := []) (cap := []) cf70 (R02_step_ok a0 a0 1 0 h0_ h0_ (A.hasl .i64 (1) rfl) (A.hasl .i64 (0) rfl) r2 hv3) .nil ?_
 rintro _ _ ⟨rfl, rfl, hr4, hr5, hr6, hr7, hr8, hr9, hr10, hr11, hr12⟩
 refine ⟨by kernel_rfl, ?_⟩
 refine A.q0 [] [] [.n, .n] [(7, .agg #[.int .i64 r2.1.1, .int .i64 r2.1.2.1, .int .i64 r2.1.2.2.1, .int .i64 r2.1.2.2.2.1, .int .i64 r2.1.2.2.2.2.1, .int .i64 r2.1.2.2.2.2.2.1, .int .i64 r2.1.2.2.2.2.2.2.1, .int .i64 r2.1.2.2.2.2.2.2.2]), (8, .int .i64 r2.2)] ?_
 refine A.sw 0 [] [.int .i64 r2.1.1, .int .i64 r2.1.2.1, .int .i64 r2.1.2.2.1, .int .i64 r2.1.2.2.2.1, .int .i64 r2.1.2.2.2.2.1, .int .i64 r2.1.2.2.2.2.2.1, .int .i64 r2.1.2.2.2.2.2.2.1, .int .i64 r2.1.2.2.2.2.2.2.2] ?_
 refine A.q0 [] [] [.n] [(3, .int .i64 r2.2)] ?_
 refine A.dx 1 ?_
 obtain rfl := Option.some.inj hF
 exact A.AX.ret [] (.tuple #[.agg #[.int .i64 r2.1.1, .int .i64 r2.1.2.1, .int .i64 r2.1.2.2.1, .int .i64 r2.1.2.2.2.1, .int .i64 r2.1.2.2.2.2.1, .int .i64 r2.1.2.2.2.2.2.1, .int .i64 r2.1.2.2.2.2.2.2.1, .int .i64 r2.1.2.2.2.2.2.2.2], .int .i64 r2.2]) (fun a w hf hh => Z.resv2 rfl (Z.rv_n hf rfl Tryd.isAgg69 Tryd.sizeOf69 (A.Hp.blk hh 0) rfl) (Z.rv_t hf rfl)) (⟨rfl, rfl, hr4, hr5, hr6, hr7, hr8, hr9, hr10, hr11, hr12⟩)

def F.R08_within_j1 (y15 : Int) (y17 : Int) (y19 : Int) (y21 : Int) (y23 : Int) (y25 : Int) (y27 : Int) (y29 : Int) : Option D68 := some (y15, y17, y19, y21, (y23, y25, y27, y29))
def F.R08_within (a0 : D39) (a1 : Int) : Option D68 := (F.R02_Id a1).bind fun r3 => (if a0.2.1 = 12 then ((F.R02_Enter a1).bind fun r31 => (F.R08_within_j1 r31.1.1 r31.1.2.1 r31.1.2.2.1 r31.1.2.2.2.1 r31.1.2.2.2.2.1 r31.1.2.2.2.2.2.1 r31.1.2.2.2.2.2.2.1 r31.1.2.2.2.2.2.2.2)) else (if a0.2.1 = 13 then ((F.R02_Leave a1).bind fun r42 => (F.R08_within_j1 r42.1.1 r42.1.2.1 r42.1.2.2.1 r42.1.2.2.2.1 r42.1.2.2.2.2.1 r42.1.2.2.2.2.2.1 r42.1.2.2.2.2.2.2.1 r42.1.2.2.2.2.2.2.2)) else (if a0.2.1 = 14 then ((F.R02_Next a1).bind fun r53 => (F.R08_within_j1 r53.1.1 r53.1.2.1 r53.1.2.2.1 r53.1.2.2.2.1 r53.1.2.2.2.2.1 r53.1.2.2.2.2.2.1 r53.1.2.2.2.2.2.2.1 r53.1.2.2.2.2.2.2.2)) else (F.R08_within_j1 r3.1.1 r3.1.2.1 r3.1.2.2.1 r3.1.2.2.2.1 r3.1.2.2.2.2.1 r3.1.2.2.2.2.2.1 r3.1.2.2.2.2.2.2.1 r3.1.2.2.2.2.2.2.2))))
theorem R08_within_ok (a0 : D39) (a1 : Int) (A2_ : Option Addr) (c3_ : Nat) (h0_ : IntKind.i64.has a0.1) (h1_ : IntKind.i64.has a0.2.1) (h4_ : IntKind.i64.has a0.2.2.2.1.1) (h5_ : IntKind.i64.has a0.2.2.2.1.2.1) (h6_ : a0.2.2.2.1.2.2.size ≤ maxLen) (h7_ : a0.2.2.2.2.1.size ≤ maxLen) (h8_ : IntKind.i64.has a0.2.2.2.2.2.1) (h9_ : IntKind.i64.has a0.2.2.2.2.2.2) (h10_ : IntKind.i64.has a1) (r : D68) (hF : F.R08_within a0 a1 = some r) :
    A.Ct Tryd.prog 93 [.agg #[.int .i64 a0.1, .int .i64 a0.2.1, .slice A2_ ((a0.2.2.1).length) c3_, .int .i64 a0.2.2.2.1.1, .int .i64 a0.2.2.2.1.2.1, .string a0.2.2.2.1.2.2, .string a0.2.2.2.2.1, .int .i64 a0.2.2.2.2.2.1, .int .i64 a0.2.2.2.2.2.2], .int .i64 a1] [(0, .sh (.slice (Z.Ty.int .i64)) [.slice A2_ (a0.2.2.1).length c3_] a0.2.2.1)] [] (fun v H' => v = .agg #[.int .i64 r.1, .int .i64 r.2.1, .int .i64 r.2.2.1, .int .i64 r.2.2.2.1, .int .i64 r.2.2.2.2.1, .int .i64 r.2.2.2.2.2.1, .int .i64 r.2.2.2.2.2.2.1, .int .i64 r.2.2.2.2.2.2.2] ∧ H' = [] ∧ IntKind.i64.has r.1 ∧ IntKind.i64.has r.2.1 ∧ IntKind.i64.has r.2.2.1 ∧ IntKind.i64.has r.2.2.2.1 ∧ IntKind.i64.has r.2.2.2.2.1 ∧ IntKind.i64.has r.2.2.2.2.2.1 ∧ IntKind.i64.has r.2.2.2.2.2.2.1 ∧ IntKind.i64.has r.2.2.2.2.2.2.2) := by
 refine A.Ct.enter Tryd.func93 rfl Tryd.ntmps93 rfl fun w0 F0 => ?_
 rw [F.R08_within] at hF
 refine A.xl 1 ?_
 refine A.AL.box 1 (cs := [.int .i64 a0.1, .int .i64 a0.2.1, .slice A2_ ((a0.2.2.1).length) c3_, .int .i64 a0.2.2.2.1.1, .int .i64 a0.2.2.2.1.2.1, .string a0.2.2.2.1.2.2, .string a0.2.2.2.2.1, .int .i64 a0.2.2.2.2.2.1, .int .i64 a0.2.2.2.2.2.2]) fun g1 => ?_
 refine A.AL.alloc 2 (cs := [.int .i64 0, .int .i64 0, .int .i64 0, .int .i64 0, .int .i64 0, .int .i64 0, .int .i64 0, .int .i64 0]) Tryd.zeroValue69 fun g2 => ?_
 refine A.dl 2 ?_
 refine A.q0 [] [] [.n] [(8, .int .i64 a1)] ?_
 obtain ⟨r3, hv4, hF⟩ := A.bd_some hF
 refine A.AL.call 3 [] (first := []) (cap := []) cf41 (R02_Id_ok a1 h10_ r3 hv4) .nil ?_
 rintro _ _ ⟨rfl, rfl, hr5, hr6, hr7, hr8, hr9, hr10, hr11, hr12, hr13⟩
 refine ⟨by kernel_rfl, ?_⟩
 refine A.q0 [] [] [.n, .n, .n] [(10, .agg #[.int .i64 r3.1.1, .int .i64 r3.1.2.1, .int .i64 r3.1.2.2.1, .int .i64 r3.1.2.2.2.1, .int .i64 r3.1.2.2.2.2.1, .int .i64 r3.1.2.2.2.2.2.1, .int .i64 r3.1.2.2.2.2.2.2.1, .int .i64 r3.1.2.2.2.2.2.2.2]), (11, .int .i64 r3.2)] ?_
 refine A.AL.alloc 43 (cs := [.int .i64 0, .int .i64 0, .int .i64 0, .int .i64 0, .int .i64 0, .int .i64 0, .int .i64 0, .int .i64 0]) Tryd.zeroValue69 fun g14 => ?_
 refine A.sw 43 [] [.int .i64 r3.1.1, .int .i64 r3.1.2.1, .int .i64 r3.1.2.2.1, .int .i64 r3.1.2.2.2.1, .int .i64 r3.1.2.2.2.2.1, .int .i64 r3.1.2.2.2.2.2.1, .int .i64 r3.1.2.2.2.2.2.2.1, .int .i64 r3.1.2.2.2.2.2.2.2] ?_
 refine A.q0 [] [] [.n] [] ?_
 refine A.dx 1 ?_
 refine A.AX.join [4, 5] [2] (fun nl nh => ∃ (y15 : Int), ∃ (y17 : Int), ∃ (y19 : Int), ∃ (y21 : Int), ∃ (y23 : Int), ∃ (y25 : Int), ∃ (y27 : Int), ∃ (y29 : Int), nl = [] ∧ nh = [(43, .blk g14 69 [.int .i64 y15, .int .i64 y17, .int .i64 y19, .int .i64 y21, .int .i64 y23, .int .i64 y25, .int .i64 y27, .int .i64 y29])] ∧ IntKind.i64.has y15 ∧ IntKind.i64.has y17 ∧ IntKind.i64.has y19 ∧ IntKind.i64.has y21 ∧ IntKind.i64.has y23 ∧ IntKind.i64.has y25 ∧ IntKind.i64.has y27 ∧ IntKind.i64.has y29 ∧ F.R08_within_j1 y15 y17 y19 y21 y23 y25 y27 y29 = some r) ?_ ?_
 ·refine A.xl 1 ?_
  refine A.q0 [1] [] [.n, .b 0 1] [(13, .int .i64 a0.2.1)] ?_
  refine A.dl 3 ?_
  refine A.q0 [] [] [.n, .n] [(14, .bool (decide (a0.2.1 = 12)))] ?_
  refine A.dx 1 ?_
  refine A.AX.cnd rfl hF (fun hb hF => ?_) (fun hb hF => ?_)
  ·refine A.xl 0 ?_
   refine A.q0 [] [] [.n] [(17, .int .i64 a1)] ?_
   obtain ⟨r31, hv32, hF⟩ := A.bd_some hF
   refine A.AL.call 44 [] (first := []) (cap := []) cf115 (R02_Enter_ok a1 h10_ r31 hv32) .nil ?_
   rintro _ _ ⟨rfl, rfl, hr33, hr34, hr35, hr36, hr37, hr38, hr39, hr40, hr41⟩
   refine ⟨by kernel_rfl, ?_⟩
   refine A.q0 [] [] [.n, .n, .n] [(19, .agg #[.int .i64 r31.1.1, .int .i64 r31.1.2.1, .int .i64 r31.1.2.2.1, .int .i64 r31.1.2.2.2.1, .int .i64 r31.1.2.2.2.2.1, .int .i64 r31.1.2.2.2.2.2.1, .int .i64 r31.1.2.2.2.2.2.2.1, .int .i64 r31.1.2.2.2.2.2.2.2])] ?_
   refine A.sw 43 [] [.int .i64 r31.1.1, .int .i64 r31.1.2.1, .int .i64 r31.1.2.2.1, .int .i64 r31.1.2.2.2.1, .int .i64 r31.1.2.2.2.2.1, .int .i64 r31.1.2.2.2.2.2.1, .int .i64 r31.1.2.2.2.2.2.2.1, .int .i64 r31.1.2.2.2.2.2.2.2] ?_
   refine A.de 1 ?_
   exact A.j ⟨r31.1.1, r31.1.2.1, r31.1.2.2.1, r31.1.2.2.2.1, r31.1.2.2.2.2.1, r31.1.2.2.2.2.2.1, r31.1.2.2.2.2.2.2.1, r31.1.2.2.2.2.2.2.2, rfl, rfl, hr33, hr34, hr35, hr36, hr37, hr38, hr39, hr40, hF⟩
  refine A.xl 1 ?_
  refine A.q0 [] [] [.n, .n] [(21, .bool (decide (a0.2.1 = 13)))] ?_
  refine A.dx 1 ?_
  refine A.AX.cnd rfl hF (fun hb hF => ?_) (fun hb hF => ?_)
  ·refine A.xl 0 ?_
   refine A.q0 [] [] [.n] [(24, .int .i64 a1)] ?_
   obtain ⟨r42, hv43, hF⟩ := A.bd_some hF
   refine A.AL.call 84 [] (first := []) (cap := []) cf116 (R02_Leave_ok a1 h10_ r42 hv43) .nil ?_
   rintro _ _ ⟨rfl, rfl, hr44, hr45, hr46, hr47, hr48, hr49, hr50, hr51, hr52⟩
   refine ⟨by kernel_rfl, ?_⟩
   refine A.q0 [] [] [.n, .n, .n] [(26, .agg #[.int .i64 r42.1.1, .int .i64 r42.1.2.1, .int .i64 r42.1.2.2.1, .int .i64 r42.1.2.2.2.1, .int .i64 r42.1.2.2.2.2.1, .int .i64 r42.1.2.2.2.2.2.1, .int .i64 r42.1.2.2.2.2.2.2.1, .int .i64 r42.1.2.2.2.2.2.2.2])] ?_
   refine A.sw 43 [] [.int .i64 r42.1.1, .int .i64 r42.1.2.1, .int .i64 r42.1.2.2.1, .int .i64 r42.1.2.2.2.1, .int .i64 r42.1.2.2.2.2.1, .int .i64 r42.1.2.2.2.2.2.1, .int .i64 r42.1.2.2.2.2.2.2.1, .int .i64 r42.1.2.2.2.2.2.2.2] ?_
   refine A.de 1 ?_
   exact A.j ⟨r42.1.1, r42.1.2.1, r42.1.2.2.1, r42.1.2.2.2.1, r42.1.2.2.2.2.1, r42.1.2.2.2.2.2.1, r42.1.2.2.2.2.2.2.1, r42.1.2.2.2.2.2.2.2, rfl, rfl, hr44, hr45, hr46, hr47, hr48, hr49, hr50, hr51, hF⟩
  refine A.xl 1 ?_
  refine A.q0 [] [] [.n, .n] [(28, .bool (decide (a0.2.1 = 14)))] ?_
  refine A.dx 1 ?_
  refine A.AX.cnd rfl hF (fun hb hF => ?_) (fun hb hF => ?_)
  ·refine A.xl 0 ?_
   refine A.q0 [] [] [.n] [(31, .int .i64 a1)] ?_
   obtain ⟨r53, hv54, hF⟩ := A.bd_some hF
   refine A.AL.call 124 [] (first := []) (cap := []) cf117 (R02_Next_ok a1 h10_ r53 hv54) .nil ?_
   rintro _ _ ⟨rfl, rfl, hr55, hr56, hr57, hr58, hr59, hr60, hr61, hr62, hr63⟩
   refine ⟨by kernel_rfl, ?_⟩
   refine A.q0 [] [] [.n, .n, .n] [(33, .agg #[.int .i64 r53.1.1, .int .i64 r53.1.2.1, .int .i64 r53.1.2.2.1, .int .i64 r53.1.2.2.2.1, .int .i64 r53.1.2.2.2.2.1, .int .i64 r53.1.2.2.2.2.2.1, .int .i64 r53.1.2.2.2.2.2.2.1, .int .i64 r53.1.2.2.2.2.2.2.2])] ?_
   refine A.sw 43 [] [.int .i64 r53.1.1, .int .i64 r53.1.2.1, .int .i64 r53.1.2.2.1, .int .i64 r53.1.2.2.2.1, .int .i64 r53.1.2.2.2.2.1, .int .i64 r53.1.2.2.2.2.2.1, .int .i64 r53.1.2.2.2.2.2.2.1, .int .i64 r53.1.2.2.2.2.2.2.2] ?_
   refine A.de 1 ?_
   exact A.j ⟨r53.1.1, r53.1.2.1, r53.1.2.2.1, r53.1.2.2.2.1, r53.1.2.2.2.2.1, r53.1.2.2.2.2.2.1, r53.1.2.2.2.2.2.2.1, r53.1.2.2.2.2.2.2.2, rfl, rfl, hr55, hr56, hr57, hr58, hr59, hr60, hr61, hr62, hF⟩
  refine A.xe 2 ?_
  exact A.j ⟨r3.1.1, r3.1.2.1, r3.1.2.2.1, r3.1.2.2.2.1, r3.1.2.2.2.2.1, r3.1.2.2.2.2.2.1, r3.1.2.2.2.2.2.2.1, r3.1.2.2.2.2.2.2.2, rfl, rfl, hr5, hr6, hr7, hr8, hr9, hr10, hr11, hr12, hF⟩
 rintro _ _ ⟨y15, y17, y19, y21, y23, y25, y27, y29, rfl, rfl, hy16, hy18, hy20, hy22, hy24, hy26, hy28, hy30, hF⟩
 rw [F.R08_within_j1] at hF
 refine A.xl 1 ?_
 refine A.q0 [43] [] [.b 0 0] [(35, .agg #[.int .i64 y15, .int .i64 y17, .int .i64 y19, .int .i64 y21, .int .i64 y23, .int .i64 y25, .int .i64 y27, .int .i64 y29])] ?_
 refine A.sw 2 [] [.int .i64 y15, .int .i64 y17, .int .i64 y19, .int .i64 y21, .int .i64 y23, .int .i64 y25, .int .i64 y27, .int .i64 y29] ?_
 refine A.dx 1 ?_
 obtain rfl := Option.some.inj hF
 exact A.AX.ret [] (.agg #[.int .i64 y15, .int .i64 y17, .int .i64 y19, .int .i64 y21, .int .i64 y23, .int .i64 y25, .int .i64 y27, .int .i64 y29]) (fun a w hf hh => Z.resv1 rfl (Z.rv_n hf rfl Tryd.isAgg69 Tryd.sizeOf69 (A.Hp.blk hh 2) rfl)) (⟨rfl, rfl, hy16, hy18, hy20, hy22, hy24, hy26, hy28, hy30⟩)

def F.R08_Find (a0 : D23) (a1 : Int) : Option (D39 × Bool) := (F.R08_index a0 a1).bind fun r3 => (if r3 < 0 then (some ((0, 0, [], (0, 0, ByteArray.mk #[]), ByteArray.mk #[], 0, 0), false)) else ((A.ix a0 r3).bind fun x6 => (A.gd ((List.length (α := Int) [] + List.length (α := Int) x6.2.2.1) * 8 ≤ 140737488355328) (some ((x6.1, x6.2.1, [] ++ x6.2.2.1, (x6.2.2.2.1.1, x6.2.2.2.1.2.1, x6.2.2.2.1.2.2), x6.2.2.2.2.1, x6.2.2.2.2.2.1, x6.2.2.2.2.2.2), true)))))
theorem R08_Find_ok (a0 : D23) (a1 : Int) (A0_ : Option Addr) (c1_ : Nat) (h2_ : IntKind.i64.has a1) (r : D39 × Bool) (hF : F.R08_Find a0 a1 = some r) :
    A.Ct Tryd.prog 29 [.agg #[.slice A0_ ((a0).length) c1_], .int .i64 a1] [(0, .sh (.slice T39) [.slice A0_ (a0).length c1_] a0)] [] (fun v H' => ∃ (A0' : Option Addr) (c1' : Nat), v = .tuple #[.agg #[.int .i64 r.1.1, .int .i64 r.1.2.1, .slice A0' ((r.1.2.2.1).length) c1', .int .i64 r.1.2.2.2.1.1, .int .i64 r.1.2.2.2.1.2.1, .string r.1.2.2.2.1.2.2, .string r.1.2.2.2.2.1, .int .i64 r.1.2.2.2.2.2.1, .int .i64 r.1.2.2.2.2.2.2], .bool r.2] ∧ H' = [(0, .sh (.slice (Z.Ty.int .i64)) [.slice A0' (r.1.2.2.1).length c1'] r.1.2.2.1)] ∧ IntKind.i64.has r.1.1 ∧ IntKind.i64.has r.1.2.1 ∧ IntKind.i64.has r.1.2.2.2.1.1 ∧ IntKind.i64.has r.1.2.2.2.1.2.1 ∧ r.1.2.2.2.1.2.2.size ≤ maxLen ∧ r.1.2.2.2.2.1.size ≤ maxLen ∧ IntKind.i64.has r.1.2.2.2.2.2.1 ∧ IntKind.i64.has r.1.2.2.2.2.2.2) := by
 refine A.Ct.enter Tryd.func29 rfl Tryd.ntmps29 rfl fun w0 F0 => ?_
 rw [F.R08_Find] at hF
 refine A.xl 1 ?_
 refine A.AL.box 1 (cs := [.slice A0_ ((a0).length) c1_]) fun g1 => ?_
 refine A.AL.alloc 2 (cs := [.int .i64 0, .int .i64 0, .slice none 0 0, .int .i64 0, .int .i64 0, .string (ByteArray.mk #[]), .string (ByteArray.mk #[]), .int .i64 0, .int .i64 0]) Tryd.zeroValue40 fun g2 => ?_
 refine A.q0 [] [] [.n] [] ?_
 refine A.dl 2 ?_
 refine A.q0 [1] [] [.b 0 0, .n] [(8, .agg #[.slice A0_ ((a0).length) c1_]), (9, .int .i64 a1)] ?_
 obtain ⟨r3, hv4, hF⟩ := A.bd_some hF
 refine A.AL.call 3 [] (first := []) (cap := []) cf60 (R08_index_ok a0 a1 A0_ c1_ h2_ r3 hv4) (.s 0 .nil) ?_
 rintro _ _ ⟨rfl, rfl, hr5⟩
 refine ⟨by kernel_rfl, ?_⟩
 refine A.q0 [] [] [.n] [(6, .int .i64 r3)] ?_
 refine A.dl 3 ?_
 refine A.q0 [] [] [.n, .n] [(12, .bool (decide (r3 < 0)))] ?_
 refine A.dx 1 ?_
 refine A.AX.cnd rfl hF (fun hb hF => ?_) (fun hb hF => ?_)
 ·refine A.xl 1 ?_
  refine A.q0 [] [] [.n] [(13, .agg #[.int .i64 0, .int .i64 0, .slice none 0 0, .int .i64 0, .int .i64 0, .string (ByteArray.mk #[]), .string (ByteArray.mk #[]), .int .i64 0, .int .i64 0])] ?_
  refine A.sw 2 [] [.int .i64 0, .int .i64 0, .slice none 0 0, .int .i64 0, .int .i64 0, .string (ByteArray.mk #[]), .string (ByteArray.mk #[]), .int .i64 0, .int .i64 0] ?_
  refine A.q0 [] [] [.n] [(5, .bool false)] ?_
  refine A.dx 1 ?_
  obtain rfl := Option.some.inj hF
  refine A.snil 43 (Z.Ty.int .i64) ?_
  exact A.AX.ret [(0, 43)] (.tuple #[.agg #[.int .i64 0, .int .i64 0, .slice none 0 0, .int .i64 0, .int .i64 0, .string (ByteArray.mk #[]), .string (ByteArray.mk #[]), .int .i64 0, .int .i64 0], .bool false]) (fun a w hf hh => Z.resv2 rfl (Z.rv_n hf rfl Tryd.isAgg40 Tryd.sizeOf40 (A.Hp.blk hh 2) rfl) (Z.rv_t hf rfl)) (⟨none, 0, rfl, rfl, (A.hasl .i64 (0) rfl), (A.hasl .i64 (0) rfl), (A.hasl .i64 (0) rfl), (A.hasl .i64 (0) rfl), (A.szl (ByteArray.mk #[]) rfl), (A.szl (ByteArray.mk #[]) rfl), (A.hasl .i64 (0) rfl), (A.hasl .i64 (0) rfl)⟩)
 refine A.xl 3 ?_
 refine A.q0 [1] [] [.n, .b 0 0, .n] [(15, .slice A0_ ((a0).length) c1_), (16, .int .i64 r3)] ?_
 obtain ⟨x6, hv7, hF⟩ := A.bd_some hF
 refine A.AL.ixs 0 44 hv7 fun ho8 => ?_
 intro A9 c10 b11 o12
 refine A.q0 [] [44] [.e 0 0] [(18, .agg #[.int .i64 x6.1, .int .i64 x6.2.1, .slice A9 ((x6.2.2.1).length) c10, .int .i64 x6.2.2.2.1.1, .int .i64 x6.2.2.2.1.2.1, .string x6.2.2.2.1.2.2, .string x6.2.2.2.2.1, .int .i64 x6.2.2.2.2.2.1, .int .i64 x6.2.2.2.2.2.2])] ?_
 refine A.AL.alloc 46 (cs := [.int .i64 0, .int .i64 0, .slice none 0 0, .int .i64 0, .int .i64 0, .string (ByteArray.mk #[]), .string (ByteArray.mk #[]), .int .i64 0, .int .i64 0]) Tryd.zeroValue40 fun g13 => ?_
 refine A.sw 46 [] [.int .i64 x6.1, .int .i64 x6.2.1, .slice A9 ((x6.2.2.1).length) c10, .int .i64 x6.2.2.2.1.1, .int .i64 x6.2.2.2.1.2.1, .string x6.2.2.2.1.2.2, .string x6.2.2.2.2.1, .int .i64 x6.2.2.2.2.2.1, .int .i64 x6.2.2.2.2.2.2] ?_
 refine A.dl 2 ?_
 refine A.q0 [46] [] [.n, .b 0 2] [(20, .slice A9 ((x6.2.2.1).length) c10)] ?_
 refine A.nil 47 (Z.Ty.int .i64) 3 ?_
 obtain ⟨hl16, hF⟩ := A.gd_some hF
 refine A.AL.app (k := 47) [] (A.rowS (k := 45) rfl) inf3 hl16 fun A14 c15 => ?_
 refine A.q0 [] [] [.n] [(22, .pointer (some ⟨g13, 2, none⟩))] ?_
 refine A.AL.store 46 [] (new := [.slice A14 (([] ++ x6.2.2.1).length) c15]) (cs' := [.int .i64 x6.1, .int .i64 x6.2.1, .slice A14 (([] ++ x6.2.2.1).length) c15, .int .i64 x6.2.2.2.1.1, .int .i64 x6.2.2.2.1.2.1, .string x6.2.2.2.1.2.2, .string x6.2.2.2.2.1, .int .i64 x6.2.2.2.2.2.1, .int .i64 x6.2.2.2.2.2.2]) ?_
 refine A.dl 2 ?_
 refine A.q0 [46] [] [.b 0 0] [(23, .agg #[.int .i64 x6.1, .int .i64 x6.2.1, .slice A14 (([] ++ x6.2.2.1).length) c15, .int .i64 x6.2.2.2.1.1, .int .i64 x6.2.2.2.1.2.1, .string x6.2.2.2.1.2.2, .string x6.2.2.2.2.1, .int .i64 x6.2.2.2.2.2.1, .int .i64 x6.2.2.2.2.2.2])] ?_
 refine A.sw 2 [] [.int .i64 x6.1, .int .i64 x6.2.1, .slice A14 (([] ++ x6.2.2.1).length) c15, .int .i64 x6.2.2.2.1.1, .int .i64 x6.2.2.2.1.2.1, .string x6.2.2.2.1.2.2, .string x6.2.2.2.2.1, .int .i64 x6.2.2.2.2.2.1, .int .i64 x6.2.2.2.2.2.2] ?_
 refine A.q0 [] [] [.n] [(5, .bool true)] ?_
 refine A.dx 1 ?_
 obtain rfl := Option.some.inj hF
 refine A.frz 47 [] ?_
 exact A.AX.ret [(0, 47)] (.tuple #[.agg #[.int .i64 x6.1, .int .i64 x6.2.1, .slice A14 (([] ++ x6.2.2.1).length) c15, .int .i64 x6.2.2.2.1.1, .int .i64 x6.2.2.2.1.2.1, .string x6.2.2.2.1.2.2, .string x6.2.2.2.2.1, .int .i64 x6.2.2.2.2.2.1, .int .i64 x6.2.2.2.2.2.2], .bool true]) (fun a w hf hh => Z.resv2 rfl (Z.rv_n hf rfl Tryd.isAgg40 Tryd.sizeOf40 (A.Hp.blk hh 2) rfl) (Z.rv_t hf rfl)) (⟨A14, c15, rfl, rfl, ho8.1, ho8.2.1, ho8.2.2.2.1.1, ho8.2.2.2.1.2.1, ho8.2.2.2.1.2.2, ho8.2.2.2.2.1, ho8.2.2.2.2.2.1, ho8.2.2.2.2.2.2⟩)
end Go.Proofs.YtleiipbkfaajfaaDoor
end

section
set_option linter.unusedVariables false
set_option linter.unusedSimpArgs false
set_option maxRecDepth 20000
set_option maxHeartbeats 8000000
set_option synthInstance.maxSize 1000000
set_option synthInstance.maxHeartbeats 400000
namespace Go.Proofs.YtleiipbkfaajfaaDoor
open Go.RowKit
def F.R08_edges_j1 (k30 : (List D70) → Int → Option (List D70)) (y5 : Int) (xs10 : List D70) : Option (List D70) := A.gd (Z.R64 (y5 + 1)) (k30 xs10 (y5 + 1))
def F.R08_edges_j2 (k30 : (List D70) → Int → Option (List D70)) (y5 : Int) (xs33 : List D70) : Option (List D70) := F.R08_edges_j1 k30 y5 xs33
def F.R08_edges_j3 (k38 : (List D70) → Int → Option (List D70)) (y80 : Int) (xs92 : List D70) : Option (List D70) := A.gd (Z.R64 (y80 + 1)) (k38 xs92 (y80 + 1))
def F.R08_edges_l4 (k37 : (List D70) → Int → Option (List D70)) (a0 : D23) (x12 : D84) (r18 : D39 × Bool) (r59 : D68 × Int) (y74 : Int) : Nat → (List D70) → Int → Option (List D70)
  | 0, _, _ => none
  | f + 1, xs79, y80 => (A.ix a0 y74).bind fun x83 => (if y80 < ((x83.2.2.1).length : Int) then ((A.ix a0 y74).bind fun x94 => ((A.ix x94.2.2.1 y80).bind fun x102 => (if x102 = r18.1.1 then ((A.ix a0 y74).bind fun x108 => (A.gd ((List.length (α := D70) xs79 + List.length (α := D70) [((x12.1.1, x12.1.2), (x108.1, y80), (r59.1.1, r59.1.2.1, r59.1.2.2.1, r59.1.2.2.2.1, (r59.1.2.2.2.2.1, r59.1.2.2.2.2.2.1, r59.1.2.2.2.2.2.2.1, r59.1.2.2.2.2.2.2.2)))]) * 96 ≤ 140737488355328) (F.R08_edges_j3 (F.R08_edges_l4 k37 a0 x12 r18 r59 y74 f) y80 (xs79 ++ [((x12.1.1, x12.1.2), (x108.1, y80), (r59.1.1, r59.1.2.1, r59.1.2.2.1, r59.1.2.2.2.1, (r59.1.2.2.2.2.1, r59.1.2.2.2.2.2.1, r59.1.2.2.2.2.2.2.1, r59.1.2.2.2.2.2.2.2)))])))) else (F.R08_edges_j3 (F.R08_edges_l4 k37 a0 x12 r18 r59 y74 f) y80 xs79)))) else (A.gd (Z.R64 (y74 + 1)) (k37 xs79 (y74 + 1))))
def F.R08_edges_l5 (k30 : (List D70) → Int → Option (List D70)) (a0 : D23) (y5 : Int) (x12 : D84) (r18 : D39 × Bool) (r59 : D68 × Int) : Nat → (List D70) → Int → Option (List D70)
  | 0, _, _ => none
  | f + 1, xs73, y74 => if y74 < ((a0).length : Int) then (F.R08_edges_l4 (F.R08_edges_l5 k30 a0 y5 x12 r18 r59 f) a0 x12 r18 r59 y74 A.FU xs73 0) else (F.R08_edges_j1 k30 y5 xs73)
def F.R08_edges_l6 (a0 : D23) (a1 : (List D84)) : Nat → (List D70) → Int → Option (List D70)
  | 0, _, _ => none
  | f + 1, xs4, y5 => if y5 < ((a1).length : Int) then ((A.ix a1 y5).bind fun x12 => ((F.R08_Find a0 x12.1.1).bind fun r18 => (if x12.1.2 ≠ 2 then (if r18.1.2.1 ≠ 15 then ((A.ix a1 y5).bind fun x34 => ((F.R08_within (r18.1.1, r18.1.2.1, r18.1.2.2.1, (r18.1.2.2.2.1.1, r18.1.2.2.2.1.2.1, r18.1.2.2.2.1.2.2), r18.1.2.2.2.2.1, r18.1.2.2.2.2.2.1, r18.1.2.2.2.2.2.2) x34.2).bind fun r40 => (A.gd ((List.length (α := D70) xs4 + List.length (α := D70) [((x12.1.1, x12.1.2), (r18.1.1, 2), (r40.1, r40.2.1, r40.2.2.1, r40.2.2.2.1, (r40.2.2.2.2.1, r40.2.2.2.2.2.1, r40.2.2.2.2.2.2.1, r40.2.2.2.2.2.2.2)))]) * 96 ≤ 140737488355328) (F.R08_edges_j2 (F.R08_edges_l6 a0 a1 f) y5 (xs4 ++ [((x12.1.1, x12.1.2), (r18.1.1, 2), (r40.1, r40.2.1, r40.2.2.1, r40.2.2.2.1, (r40.2.2.2.2.1, r40.2.2.2.2.2.1, r40.2.2.2.2.2.2.1, r40.2.2.2.2.2.2.2)))]))))) else (F.R08_edges_j2 (F.R08_edges_l6 a0 a1 f) y5 xs4)) else ((A.ix a1 y5).bind fun x54 => ((F.R02_Id x54.2).bind fun r59 => (F.R08_edges_l5 (F.R08_edges_l6 a0 a1 f) a0 y5 x12 r18 r59 A.FU xs4 0)))))) else (some xs4)
def F.R08_edges (a0 : D23) (a1 : (List D84)) : Option (List D70) := F.R08_edges_l6 a0 a1 A.FU [] 0
theorem R08_edges_ok (a0 : D23) (a1 : (List D84)) (A0_ : Option Addr) (c1_ : Nat) (A2_ : Option Addr) (c3_ : Nat) (r : (List D70)) (hF : F.R08_edges a0 a1 = some r) :
    A.Ct Tryd.prog 74 [.agg #[.slice A0_ ((a0).length) c1_], .slice A2_ ((a1).length) c3_] [(0, .sh (.slice T39) [.slice A0_ (a0).length c1_] a0), (1, .ln T84 A2_ c3_ a1)] [] (fun v H' => ∃ (A0' : Option Addr) (c1' : Nat), v = .slice A0' ((r).length) c1' ∧ H' = [(0, .own T70 71 A0' c1' r)]) := by
 refine A.Ct.enter Tryd.func74 rfl Tryd.ntmps74 rfl fun w0 F0 => ?_
 rw [F.R08_edges] at hF
 refine A.xl 1 ?_
 refine A.AL.box 2 (cs := [.slice A0_ ((a0).length) c1_]) fun g1 => ?_
 refine A.q0 [] [] [.n] [] ?_
 refine A.dl 2 ?_
 refine A.q0 [] [] [.n] [(5, .slice none 0 0)] ?_
 refine A.dl 3 ?_
 refine A.q0 [] [] [.n] [(6, .int .i64 0)] ?_
 refine A.dx 2 ?_
 refine A.nil 489 T70 71 ?_
 refine A.lp_ [1, 2] [0, 1, 2] (fun f nl nh => ∃ (xs4 : List D70), ∃ (y5 : Int), ∃ (A2 : Option Addr), ∃ (c3 : Nat), nl = [(5, .slice A2 ((xs4).length) c3), (6, .int .i64 y5)] ∧ nh = [(489, .own T70 71 A2 c3 xs4)] ∧ IntKind.i64.has y5 ∧ F.R08_edges_l6 a0 a1 f xs4 y5 = some r) ⟨[], 0, none, 0, rfl, rfl, (A.hasl .i64 (0) rfl), hF⟩ ?_
 rintro f7 _ _ ⟨xs4, y5, A2, c3, rfl, rfl, hy6, hF⟩
 rcases f7 with _ | f7
 ·exact A.no0 hF
 rw [F.R08_edges_l6] at hF
 refine A.xl 2 ?_
 refine A.q0 [] [] [.n, .n, .n, .n] [(17, .bool (decide (y5 < ((a1).length : Int))))] ?_
 refine A.dx 1 ?_
 refine A.AX.cnd rfl hF (fun hb hF => ?_) (fun hb hF => ?_)
 ·refine A.xx 2 ?_
  refine A.AX.join [1, 2, 6] [0, 1, 2] (fun nl nh => ∃ (xs10 : List D70), ∃ (A8 : Option Addr), ∃ (c9 : Nat), nl = [(5, .slice A8 ((xs10).length) c9)] ∧ nh = [(489, .own T70 71 A8 c9 xs10)] ∧ F.R08_edges_j1 (F.R08_edges_l6 a0 a1 f7) y5 xs10 = some r) ?_ ?_
  ·refine A.xl 2 ?_
   refine A.q0 [] [] [.n, .n] [(20, .slice A2_ ((a1).length) c3_), (21, .int .i64 y5)] ?_
   obtain ⟨x12, hv13, hF⟩ := A.bd_some hF
   refine A.AL.ixl 1 888 hv13 fun ho14 => ?_
   intro b15 o16
   refine A.q0 [] [888] [.n, .e 0 0] [(24, .agg #[.int .i64 x12.1.1, .int .i64 x12.1.2])] ?_
   refine A.AL.alloc 889 (cs := [.int .i64 0, .int .i64 0]) Tryd.zeroValue55 fun g17 => ?_
   refine A.sw 889 [] [.int .i64 x12.1.1, .int .i64 x12.1.2] ?_
   refine A.dl 2 ?_
   refine A.q0 [2, 889] [] [.b 0 0, .n, .b 1 0] [(26, .agg #[.slice A0_ ((a0).length) c1_]), (28, .int .i64 x12.1.1)] ?_
   obtain ⟨r18, hv19, hF⟩ := A.bd_some hF
   refine A.AL.call 890 [] (first := []) (cap := []) cf29 (R08_Find_ok a0 x12.1.1 A0_ c1_ ho14.1.1 r18 hv19) (.s 0 .nil) ?_
   rintro _ _ ⟨A22, c23, rfl, rfl, hr20, hr21, hr24, hr25, hr26, hr27, hr28, hr29⟩
   refine ⟨by kernel_rfl, ?_⟩
   refine A.q0 [] [] [.n, .n, .n] [(30, .agg #[.int .i64 r18.1.1, .int .i64 r18.1.2.1, .slice A22 ((r18.1.2.2.1).length) c23, .int .i64 r18.1.2.2.2.1.1, .int .i64 r18.1.2.2.2.1.2.1, .string r18.1.2.2.2.1.2.2, .string r18.1.2.2.2.2.1, .int .i64 r18.1.2.2.2.2.2.1, .int .i64 r18.1.2.2.2.2.2.2]), (31, .bool r18.2)] ?_
   refine A.AL.alloc 930 (cs := [.int .i64 0, .int .i64 0, .slice none 0 0, .int .i64 0, .int .i64 0, .string (ByteArray.mk #[]), .string (ByteArray.mk #[]), .int .i64 0, .int .i64 0]) Tryd.zeroValue40 fun g30 => ?_
   refine A.sw 930 [] [.int .i64 r18.1.1, .int .i64 r18.1.2.1, .slice A22 ((r18.1.2.2.1).length) c23, .int .i64 r18.1.2.2.2.1.1, .int .i64 r18.1.2.2.2.1.2.1, .string r18.1.2.2.2.1.2.2, .string r18.1.2.2.2.2.1, .int .i64 r18.1.2.2.2.2.2.1, .int .i64 r18.1.2.2.2.2.2.2] ?_
   refine A.q0 [] [] [.n] [] ?_
   refine A.dl 3 ?_
   refine A.q0 [889] [] [.n, .b 0 1, .n] [(34, .bool (decide (x12.1.2 ≠ 2)))] ?_
   refine A.dx 1 ?_
   refine A.AX.cnd rfl hF (fun hb hF => ?_) (fun hb hF => ?_)
   ·refine A.AX.join [1, 2, 6] [0, 1, 2] (fun nl nh => ∃ (xs33 : List D70), ∃ (A31 : Option Addr), ∃ (c32 : Nat), nl = [(5, .slice A31 ((xs33).length) c32)] ∧ nh = [(489, .own T70 71 A31 c32 xs33)] ∧ F.R08_edges_j2 (F.R08_edges_l6 a0 a1 f7) y5 xs33 = some r) ?_ ?_
    ·refine A.xl 1 ?_
     refine A.q0 [930] [] [.n, .b 0 1, .n] [(37, .bool (decide (r18.1.2.1 ≠ 15)))] ?_
     refine A.dx 1 ?_
     refine A.AX.cnd rfl hF (fun hb hF => ?_) (fun hb hF => ?_)
     ·refine A.AX.dr mixed 16 16 (A.mb 16 0) ?_
      refine A.hq A.pb [] [0, 1, 2, 888, 889, 890, 930] [889, 930] [] (A.mb 16 255) 8 [(0, .n), (1, .b 0 0), (2, .n), (5, .b 1 0), (6, .n), (7, .n), (3, .b 1 0), (4, .n)] [(38, .slice A2 ((xs4).length) c3), (39, .agg #[.int .i64 x12.1.1, .int .i64 x12.1.2]), (43, .agg #[.int .i64 r18.1.1, .int .i64 r18.1.2.1, .slice A22 ((r18.1.2.2.1).length) c23, .int .i64 r18.1.2.2.2.1.1, .int .i64 r18.1.2.2.2.1.2.1, .string r18.1.2.2.2.1.2.2, .string r18.1.2.2.2.2.1, .int .i64 r18.1.2.2.2.2.2.1, .int .i64 r18.1.2.2.2.2.2.2]), (44, .slice A2_ ((a1).length) c3_), (45, .int .i64 y5), (42, .agg #[.int .i64 r18.1.1, .int .i64 2])] ?_
      obtain ⟨x34, hv35, hF⟩ := A.bd_some hF
      refine A.AH.pkl 1 931 hv35 fun ho36 => ?_
      intro b38 o39 hA37
      refine A.AH.v A.pb [0, 1, 2, 888, 889, 890, 930] [0, 1, 2, 888, 889, 890, 930, 931] 8 (A.mb 16 511) rfl (fun a w hf hh => A.r_ixa (t := T84) hv35 hA37 hf) ?_
      refine A.hq A.pb [0, 1, 2, 888, 889, 890, 930, 931] [0, 1, 2, 888, 889, 890, 930, 931] [] [931] (A.mb 16 2047) 5 [(9, .n), (10, .e 0 2)] [(48, .int .i64 x34.2)] ?_
      refine A.AH.one 11 ?_
      obtain ⟨r40, hv41, hF⟩ := A.bd_some hF
      refine A.AL.call 932 [] (first := []) (cap := []) cf93 (R08_within_ok (r18.1.1, r18.1.2.1, r18.1.2.2.1, (r18.1.2.2.2.1.1, r18.1.2.2.2.1.2.1, r18.1.2.2.2.1.2.2), r18.1.2.2.2.2.1, r18.1.2.2.2.2.2.1, r18.1.2.2.2.2.2.2) x34.2 A22 c23 hr20 hr21 hr24 hr25 hr26 hr27 hr28 hr29 ho36.2 r40 hv41) (.s 890 .nil) ?_
      rintro _ _ ⟨rfl, rfl, hr42, hr43, hr44, hr45, hr46, hr47, hr48, hr49⟩
      refine ⟨by kernel_rfl, ?_⟩
      refine A.AH.nx (A.mb 16 4095) [0, 1, 2, 888, 889, 890, 930, 931] ?_
      refine A.hq A.pb [0, 1, 2, 888, 889, 890, 930, 931] [0, 1, 2, 888, 889, 890, 930, 931] [] [] (A.mb 16 8191) 3 [(12, .n)] [(50, .agg #[.int .i64 x12.1.1, .int .i64 x12.1.2, .int .i64 r18.1.1, .int .i64 2, .int .i64 r40.1, .int .i64 r40.2.1, .int .i64 r40.2.2.1, .int .i64 r40.2.2.2.1, .int .i64 r40.2.2.2.2.1, .int .i64 r40.2.2.2.2.2.1, .int .i64 r40.2.2.2.2.2.2.1, .int .i64 r40.2.2.2.2.2.2.2])] ?_
      refine A.AH.one 13 ?_
      refine A.AL.bsl 972 (ty := T70) (cs := [.int .i64 x12.1.1, .int .i64 x12.1.2, .int .i64 r18.1.1, .int .i64 2, .int .i64 r40.1, .int .i64 r40.2.1, .int .i64 r40.2.2.1, .int .i64 r40.2.2.2.1, .int .i64 r40.2.2.2.2.1, .int .i64 r40.2.2.2.2.2.1, .int .i64 r40.2.2.2.2.2.2.1, .int .i64 r40.2.2.2.2.2.2.2]) [((x12.1.1, x12.1.2), (r18.1.1, 2), (r40.1, r40.2.1, r40.2.2.1, r40.2.2.2.1, (r40.2.2.2.2.1, r40.2.2.2.2.2.1, r40.2.2.2.2.2.2.1, r40.2.2.2.2.2.2.2)))] ⟨⟨⟨⟨rfl, ho14.1.1⟩, ⟨rfl, ho14.1.2⟩⟩, ⟨⟨rfl, hr20⟩, ⟨rfl, (A.hasl .i64 (2) rfl)⟩⟩, ⟨⟨rfl, hr42⟩, ⟨rfl, hr43⟩, ⟨rfl, hr44⟩, ⟨rfl, hr45⟩, ⟨⟨rfl, hr46⟩, ⟨rfl, hr47⟩, ⟨rfl, hr48⟩, ⟨rfl, hr49⟩⟩⟩⟩, rfl⟩ (fun g50 => ?_) Tryd.zeroValue71 Tryd.sizeOf71
      refine A.AH.nx (A.mb 16 16383) [0, 1, 2, 888, 889, 890, 930, 931] ?_
      refine A.AH.one 14 ?_
      obtain ⟨hl53, hF⟩ := A.gd_some hF
      refine A.AL.app (k := 489) [] (A.rowO (k := 972) rfl) inf71 hl53 fun A51 c52 => ?_
      refine A.AH.nx (A.mb 16 32767) [0, 1, 2, 888, 889, 890, 930, 931] ?_
      refine A.hq A.pb [0, 1, 2, 888, 889, 890, 930, 931] [0, 1, 2, 489, 888, 889, 890, 930, 931, 972] [] [] (A.mb 16 65535) 0 [(15, .n)] [(5, .slice A51 ((xs4 ++ [((x12.1.1, x12.1.2), (r18.1.1, 2), (r40.1, r40.2.1, r40.2.2.1, r40.2.2.2.1, (r40.2.2.2.2.1, r40.2.2.2.2.2.1, r40.2.2.2.2.2.2.1, r40.2.2.2.2.2.2.2)))]).length) c52)] ?_
      refine A.AH.done ?_
      exact A.j ⟨(xs4 ++ [((x12.1.1, x12.1.2), (r18.1.1, 2), (r40.1, r40.2.1, r40.2.2.1, r40.2.2.2.1, (r40.2.2.2.2.1, r40.2.2.2.2.2.1, r40.2.2.2.2.2.2.1, r40.2.2.2.2.2.2.2)))]), A51, c52, rfl, rfl, hF⟩
     refine A.xe 1 ?_
     exact A.j ⟨xs4, A2, c3, rfl, rfl, hF⟩
    rintro _ _ ⟨xs33, A31, c32, rfl, rfl, hF⟩
    rw [F.R08_edges_j2] at hF
    refine A.xe 1 ?_
    exact A.j ⟨xs33, A31, c32, rfl, rfl, hF⟩
   refine A.xl 3 ?_
   refine A.q0 [] [] [.n, .n] [(54, .slice A2_ ((a1).length) c3_), (55, .int .i64 y5)] ?_
   obtain ⟨x54, hv55, hF⟩ := A.bd_some hF
   refine A.AL.ixl 1 973 hv55 fun ho56 => ?_
   intro b57 o58
   refine A.q0 [] [973] [.n, .e 0 2] [(58, .int .i64 x54.2)] ?_
   obtain ⟨r59, hv60, hF⟩ := A.bd_some hF
   refine A.AL.call 974 [] (first := []) (cap := []) cf41 (R02_Id_ok x54.2 ho56.2 r59 hv60) .nil ?_
   rintro _ _ ⟨rfl, rfl, hr61, hr62, hr63, hr64, hr65, hr66, hr67, hr68, hr69⟩
   refine ⟨by kernel_rfl, ?_⟩
   refine A.q0 [] [] [.n, .n, .n] [(60, .agg #[.int .i64 r59.1.1, .int .i64 r59.1.2.1, .int .i64 r59.1.2.2.1, .int .i64 r59.1.2.2.2.1, .int .i64 r59.1.2.2.2.2.1, .int .i64 r59.1.2.2.2.2.2.1, .int .i64 r59.1.2.2.2.2.2.2.1, .int .i64 r59.1.2.2.2.2.2.2.2]), (61, .int .i64 r59.2)] ?_
   refine A.AL.alloc 1014 (cs := [.int .i64 0, .int .i64 0, .int .i64 0, .int .i64 0, .int .i64 0, .int .i64 0, .int .i64 0, .int .i64 0]) Tryd.zeroValue69 fun g70 => ?_
   refine A.sw 1014 [] [.int .i64 r59.1.1, .int .i64 r59.1.2.1, .int .i64 r59.1.2.2.1, .int .i64 r59.1.2.2.2.1, .int .i64 r59.1.2.2.2.2.1, .int .i64 r59.1.2.2.2.2.2.1, .int .i64 r59.1.2.2.2.2.2.2.1, .int .i64 r59.1.2.2.2.2.2.2.2] ?_
   refine A.q0 [] [] [.n] [] ?_
   refine A.dl 2 ?_
   refine A.q0 [] [] [.n] [(12, .int .i64 0)] ?_
   refine A.dx 2 ?_
   refine A.lp_ [1, 2, 6, 7, 8, 10] [0, 1, 2, 889, 890, 930, 1014] (fun f nl nh => ∃ (xs73 : List D70), ∃ (y74 : Int), ∃ (A71 : Option Addr), ∃ (c72 : Nat), nl = [(5, .slice A71 ((xs73).length) c72), (12, .int .i64 y74)] ∧ nh = [(489, .own T70 71 A71 c72 xs73)] ∧ IntKind.i64.has y74 ∧ F.R08_edges_l5 (F.R08_edges_l6 a0 a1 f7) a0 y5 x12 r18 r59 f xs73 y74 = some r) ⟨xs4, 0, A2, c3, rfl, rfl, (A.hasl .i64 (0) rfl), hF⟩ ?_
   rintro f76 _ _ ⟨xs73, y74, A71, c72, rfl, rfl, hy75, hF⟩
   rcases f76 with _ | f76
   ·exact A.no0 hF
   rw [F.R08_edges_l5] at hF
   refine A.xl 2 ?_
   refine A.q0 [2] [] [.n, .n, .b 0 0, .n, .n] [(66, .bool (decide (y74 < ((a0).length : Int))))] ?_
   refine A.dx 1 ?_
   refine A.AX.cnd rfl hF (fun hb hF => ?_) (fun hb hF => ?_)
   ·refine A.xl 5 ?_
    refine A.q0 [] [] [.n] [(13, .int .i64 0)] ?_
    refine A.dx 2 ?_
    refine A.lp_ [1, 2, 6, 7, 8, 10, 12] [0, 1, 2, 889, 890, 930, 1014] (fun f nl nh => ∃ (xs79 : List D70), ∃ (y80 : Int), ∃ (A77 : Option Addr), ∃ (c78 : Nat), nl = [(5, .slice A77 ((xs79).length) c78), (13, .int .i64 y80)] ∧ nh = [(489, .own T70 71 A77 c78 xs79)] ∧ IntKind.i64.has y80 ∧ F.R08_edges_l4 (F.R08_edges_l5 (F.R08_edges_l6 a0 a1 f7) a0 y5 x12 r18 r59 f76) a0 x12 r18 r59 y74 f xs79 y80 = some r) ⟨xs73, 0, A71, c72, rfl, rfl, (A.hasl .i64 (0) rfl), hF⟩ ?_
    rintro f82 _ _ ⟨xs79, y80, A77, c78, rfl, rfl, hy81, hF⟩
    rcases f82 with _ | f82
    ·exact A.no0 hF
    rw [F.R08_edges_l4] at hF
    refine A.xl 2 ?_
    refine A.q0 [2] [] [.n, .n, .b 0 0, .n] [(69, .int .i64 y80), (71, .slice A0_ ((a0).length) c1_), (72, .int .i64 y74)] ?_
    obtain ⟨x83, hv84, hF⟩ := A.bd_some hF
    refine A.AL.ixs 0 1079 hv84 fun ho85 => ?_
    intro A86 c87 b88 o89
    refine A.q0 [] [1079] [.n, .e 0 2, .n, .n] [(77, .bool (decide (y80 < ((x83.2.2.1).length : Int))))] ?_
    refine A.dx 1 ?_
    refine A.AX.cnd rfl hF (fun hb hF => ?_) (fun hb hF => ?_)
    ·refine A.xx 2 ?_
     refine A.AX.join [1, 2, 6, 7, 8, 10, 12, 13] [0, 1, 2, 889, 890, 930, 1014] (fun nl nh => ∃ (xs92 : List D70), ∃ (A90 : Option Addr), ∃ (c91 : Nat), nl = [(5, .slice A90 ((xs92).length) c91)] ∧ nh = [(489, .own T70 71 A90 c91 xs92)] ∧ F.R08_edges_j3 (F.R08_edges_l4 (F.R08_edges_l5 (F.R08_edges_l6 a0 a1 f7) a0 y5 x12 r18 r59 f76) a0 x12 r18 r59 y74 f82) y80 xs92 = some r) ?_ ?_
     ·refine A.xx 2 ?_
      refine A.AX.dr mixed 12 12 (A.mb 12 0) ?_
      refine A.hq A.pb [] [0, 1, 2, 489, 889, 890, 930, 1014, 1079, 1080] [2, 930] [] (A.mb 12 1607) 6 [(0, .n), (2, .n), (6, .n), (9, .n), (1, .b 0 0), (10, .b 1 0)] [(82, .int .i64 y74), (86, .int .i64 y80), (81, .slice A0_ ((a0).length) c1_), (90, .int .i64 r18.1.1)] ?_
      obtain ⟨x94, hv95, hF⟩ := A.bd_some hF
      refine A.AH.pks 0 1081 hv95 fun ho96 => ?_
      intro A98 c99 b100 o101 hA97
      refine A.AH.v A.pb [0, 1, 2, 489, 889, 890, 930, 1014, 1079, 1080] [0, 1, 2, 489, 889, 890, 930, 1014, 1079, 1080, 1081, 1082] 3 (A.mb 12 1615) rfl (fun a w hf hh => A.r_ixa (t := T39) hv95 hA97 hf) ?_
      refine A.hq A.pb [0, 1, 2, 489, 889, 890, 930, 1014, 1079, 1080, 1081, 1082] [0, 1, 2, 489, 889, 890, 930, 1014, 1079, 1080, 1081, 1082] [] [1081] (A.mb 12 1663) 3 [(4, .n), (5, .e 0 2)] [(85, .slice A98 ((x94.2.2.1).length) c99)] ?_
      obtain ⟨x102, hv103, hF⟩ := A.bd_some hF
      refine A.AH.pks 1082 1083 hv103 fun ho104 => ?_
      intro b106 o107 hA105
      refine A.AH.v A.pb [0, 1, 2, 489, 889, 890, 930, 1014, 1079, 1080, 1081, 1082] [0, 1, 2, 489, 889, 890, 930, 1014, 1079, 1080, 1081, 1082, 1083] 7 (A.mb 12 1791) rfl (fun a w hf hh => A.r_ixa (t := (Z.Ty.int .i64)) hv103 hA105 hf) ?_
      refine A.hq A.pb [0, 1, 2, 489, 889, 890, 930, 1014, 1079, 1080, 1081, 1082, 1083] [0, 1, 2, 489, 889, 890, 930, 1014, 1079, 1080, 1081, 1082, 1083] [] [1083] (A.mb 12 4095) 0 [(8, .e 0 0), (11, .n)] [(91, .bool (decide (x102 = r18.1.1)))] ?_
      refine A.AH.done ?_
      refine A.ex 1 ?_
      refine A.AX.cnd rfl hF (fun hb hF => ?_) (fun hb hF => ?_)
      ·refine A.AX.dr mixed 15 15 (A.mb 15 0) ?_
       refine A.hq A.pb [] [0, 1, 2, 889, 890, 930, 1014, 1079, 1080, 1081, 1082, 1083] [889, 1014, 2] [] (A.mb 15 1311) 8 [(0, .n), (1, .b 0 0), (2, .n), (4, .n), (8, .n), (10, .b 1 0), (3, .b 2 0)] [(92, .slice A77 ((xs79).length) c78), (93, .agg #[.int .i64 x12.1.1, .int .i64 x12.1.2]), (96, .int .i64 y74), (100, .int .i64 y80), (102, .agg #[.int .i64 r59.1.1, .int .i64 r59.1.2.1, .int .i64 r59.1.2.2.1, .int .i64 r59.1.2.2.2.1, .int .i64 r59.1.2.2.2.2.1, .int .i64 r59.1.2.2.2.2.2.1, .int .i64 r59.1.2.2.2.2.2.2.1, .int .i64 r59.1.2.2.2.2.2.2.2]), (95, .slice A0_ ((a0).length) c1_)] ?_
       obtain ⟨x108, hv109, hF⟩ := A.bd_some hF
       refine A.AH.pks 0 1084 hv109 fun ho110 => ?_
       intro A112 c113 b114 o115 hA111
       refine A.AH.v A.pb [0, 1, 2, 889, 890, 930, 1014, 1079, 1080, 1081, 1082, 1083] [0, 1, 2, 889, 890, 930, 1014, 1079, 1080, 1081, 1082, 1083, 1084, 1085] 5 (A.mb 15 1343) rfl (fun a w hf hh => A.r_ixa (t := T39) hv109 hA111 hf) ?_
       refine A.hq A.pb [0, 1, 2, 889, 890, 930, 1014, 1079, 1080, 1081, 1082, 1083, 1084, 1085] [0, 1, 2, 889, 890, 930, 1014, 1079, 1080, 1081, 1082, 1083, 1084, 1085] [] [1084] (A.mb 15 4095) 3 [(6, .n), (7, .e 0 0), (9, .n), (11, .n)] [(103, .agg #[.int .i64 x12.1.1, .int .i64 x12.1.2, .int .i64 x108.1, .int .i64 y80, .int .i64 r59.1.1, .int .i64 r59.1.2.1, .int .i64 r59.1.2.2.1, .int .i64 r59.1.2.2.2.1, .int .i64 r59.1.2.2.2.2.1, .int .i64 r59.1.2.2.2.2.2.1, .int .i64 r59.1.2.2.2.2.2.2.1, .int .i64 r59.1.2.2.2.2.2.2.2])] ?_
       refine A.AH.one 12 ?_
       refine A.AL.bsl 1086 (ty := T70) (cs := [.int .i64 x12.1.1, .int .i64 x12.1.2, .int .i64 x108.1, .int .i64 y80, .int .i64 r59.1.1, .int .i64 r59.1.2.1, .int .i64 r59.1.2.2.1, .int .i64 r59.1.2.2.2.1, .int .i64 r59.1.2.2.2.2.1, .int .i64 r59.1.2.2.2.2.2.1, .int .i64 r59.1.2.2.2.2.2.2.1, .int .i64 r59.1.2.2.2.2.2.2.2]) [((x12.1.1, x12.1.2), (x108.1, y80), (r59.1.1, r59.1.2.1, r59.1.2.2.1, r59.1.2.2.2.1, (r59.1.2.2.2.2.1, r59.1.2.2.2.2.2.1, r59.1.2.2.2.2.2.2.1, r59.1.2.2.2.2.2.2.2)))] ⟨⟨⟨⟨rfl, ho14.1.1⟩, ⟨rfl, ho14.1.2⟩⟩, ⟨⟨rfl, ho110.1⟩, ⟨rfl, hy81⟩⟩, ⟨⟨rfl, hr61⟩, ⟨rfl, hr62⟩, ⟨rfl, hr63⟩, ⟨rfl, hr64⟩, ⟨⟨rfl, hr65⟩, ⟨rfl, hr66⟩, ⟨rfl, hr67⟩, ⟨rfl, hr68⟩⟩⟩⟩, rfl⟩ (fun g116 => ?_) Tryd.zeroValue71 Tryd.sizeOf71
       refine A.AH.nx (A.mb 15 8191) [0, 1, 2, 889, 890, 930, 1014, 1079, 1080, 1081, 1082, 1083, 1084, 1085] ?_
       refine A.AH.one 13 ?_
       obtain ⟨hl119, hF⟩ := A.gd_some hF
       refine A.AL.app (k := 489) [] (A.rowO (k := 1086) rfl) inf71 hl119 fun A117 c118 => ?_
       refine A.AH.nx (A.mb 15 16383) [0, 1, 2, 889, 890, 930, 1014, 1079, 1080, 1081, 1082, 1083, 1084, 1085] ?_
       refine A.hq A.pb [0, 1, 2, 889, 890, 930, 1014, 1079, 1080, 1081, 1082, 1083, 1084, 1085] [0, 1, 2, 489, 889, 890, 930, 1014, 1079, 1080, 1081, 1082, 1083, 1084, 1085, 1086] [] [] (A.mb 15 32767) 0 [(14, .n)] [(5, .slice A117 ((xs79 ++ [((x12.1.1, x12.1.2), (x108.1, y80), (r59.1.1, r59.1.2.1, r59.1.2.2.1, r59.1.2.2.2.1, (r59.1.2.2.2.2.1, r59.1.2.2.2.2.2.1, r59.1.2.2.2.2.2.2.1, r59.1.2.2.2.2.2.2.2)))]).length) c118)] ?_
       refine A.AH.done ?_
       refine A.ee 1 ?_
       exact A.j ⟨(xs79 ++ [((x12.1.1, x12.1.2), (x108.1, y80), (r59.1.1, r59.1.2.1, r59.1.2.2.1, r59.1.2.2.2.1, (r59.1.2.2.2.2.1, r59.1.2.2.2.2.2.1, r59.1.2.2.2.2.2.2.1, r59.1.2.2.2.2.2.2.2)))]), A117, c118, rfl, rfl, hF⟩
      refine A.xe 2 ?_
      exact A.j ⟨xs79, A77, c78, rfl, rfl, hF⟩
     rintro _ _ ⟨xs92, A90, c91, rfl, rfl, hF⟩
     rw [F.R08_edges_j3] at hF
     refine A.xl 0 ?_
     obtain ⟨hc93, hF⟩ := A.gd_some hF
     refine A.q [] [] [.n, .n, .n] [Z.R64 (y80 + 1)] [(13, .int .i64 (y80 + 1))] hc93 ?_
     refine A.AL.done ?_
     exact A.j ⟨_, Nat.lt_succ_self _, ⟨xs92, (y80 + 1), A90, c91, rfl, rfl, (Z.i64_has hc93), hF⟩⟩
    refine A.xl 3 ?_
    obtain ⟨hc120, hF⟩ := A.gd_some hF
    refine A.q [] [] [.n, .n, .n] [Z.R64 (y74 + 1)] [(12, .int .i64 (y74 + 1))] hc120 ?_
    refine A.AL.done ?_
    exact A.j ⟨_, Nat.lt_succ_self _, ⟨xs79, (y74 + 1), A77, c78, rfl, rfl, (Z.i64_has hc120), hF⟩⟩
   refine A.xe 2 ?_
   exact A.j ⟨xs73, A71, c72, rfl, rfl, hF⟩
  rintro _ _ ⟨xs10, A8, c9, rfl, rfl, hF⟩
  rw [F.R08_edges_j1] at hF
  refine A.xl 0 ?_
  obtain ⟨hc11, hF⟩ := A.gd_some hF
  refine A.q [] [] [.n, .n, .n] [Z.R64 (y5 + 1)] [(6, .int .i64 (y5 + 1))] hc11 ?_
  refine A.AL.done ?_
  exact A.j ⟨_, Nat.lt_succ_self _, ⟨xs10, (y5 + 1), A8, c9, rfl, rfl, (Z.i64_has hc11), hF⟩⟩
 refine A.xl 3 ?_
 refine A.q0 [] [] [.n, .n] [(4, .slice A2 ((xs4).length) c3)] ?_
 refine A.dx 1 ?_
 obtain rfl := Option.some.inj hF
 exact A.rt1 [(0, 489)] ⟨A2, c3, rfl, rfl⟩

def F.R08_letter (a0 : UInt8) : Option Bool := if (bif decide ((97 : Int) ≤ (a0.toNat : Int)) then decide ((a0.toNat : Int) ≤ 122) else false) = true then (some true) else (some (bif decide ((65 : Int) ≤ (a0.toNat : Int)) then decide ((a0.toNat : Int) ≤ 90) else false))
theorem R08_letter_ok (a0 : UInt8) (r : Bool) (hF : F.R08_letter a0 = some r) :
    A.Ct Tryd.prog 128 [.int .u8 (a0.toNat : Int)] [] [] (fun v H' => v = .bool r ∧ H' = []) := by
 refine A.Ct.enter Tryd.func128 rfl Tryd.ntmps128 rfl fun w0 F0 => ?_
 rw [F.R08_letter] at hF
 refine A.xl 1 ?_
 refine A.q0 [] [] [.n] [] ?_
 refine A.dl 2 ?_
 refine A.q0 [] [] [.n, .n, .n, .sy .n, .sy .n, .pk, .n] [(9, .bool (bif decide ((97 : Int) ≤ (a0.toNat : Int)) then decide ((a0.toNat : Int) ≤ 122) else false))] ?_
 refine A.AL.cnd (j := 9) rfl hF (fun hF => ?_) (fun hF => ?_)
 ·refine A.q0 [] [] [.off, .off, .off, .off, .off, .off, .n, .n] [(2, .bool true)] ?_
  refine A.dx 1 ?_
  obtain rfl := Option.some.inj hF
  exact A.rt1 [] ⟨rfl, rfl⟩
 refine A.q0 [] [] [.on .n, .on .n, .on .n, .sy .n, .sy .n, .on .pk, .n, .n] [(2, .bool (bif decide ((65 : Int) ≤ (a0.toNat : Int)) then decide ((a0.toNat : Int) ≤ 90) else false))] ?_
 refine A.dx 1 ?_
 obtain rfl := Option.some.inj hF
 exact A.rt1 [] ⟨rfl, rfl⟩

def F.R08_digit (a0 : UInt8) : Option Bool := some (bif decide ((48 : Int) ≤ (a0.toNat : Int)) then decide ((a0.toNat : Int) ≤ 57) else false)
theorem R08_digit_ok (a0 : UInt8) (r : Bool) (hF : F.R08_digit a0 = some r) :
    A.Ct Tryd.prog 129 [.int .u8 (a0.toNat : Int)] [] [] (fun v H' => v = .bool r ∧ H' = []) := by
 refine A.Ct.enter Tryd.func129 rfl Tryd.ntmps129 rfl fun w0 F0 => ?_
 rw [F.R08_digit] at hF
 refine A.xl 1 ?_
 refine A.q0 [] [] [.n] [] ?_
 refine A.dl 2 ?_
 refine A.q0 [] [] [.n, .n, .n, .sy .n, .sy .n, .pk, .n] [(2, .bool (bif decide ((48 : Int) ≤ (a0.toNat : Int)) then decide ((a0.toNat : Int) ≤ 57) else false))] ?_
 refine A.dx 1 ?_
 obtain rfl := Option.some.inj hF
 exact A.rt1 [] ⟨rfl, rfl⟩

def F.R08_name_j1 (k1 : Int → Option Bool) (y2 : Int) (y5 : Bool) : Option Bool := if y5 = true then (some false) else (A.gd (Z.R64 (y2 + 1)) (k1 (y2 + 1)))
def F.R08_name_l2 (a0 : ByteArray) : Nat → Int → Option Bool
  | 0, _ => none
  | f + 1, y2 => if y2 < (a0.size : Int) then ((A.ix a0.data.toList y2).bind fun x7 => ((F.R08_letter x7).bind fun r9 => (if (!r9) = true then ((A.ix a0.data.toList y2).bind fun x11 => ((F.R08_digit x11).bind fun r13 => (F.R08_name_j1 (F.R08_name_l2 a0 f) y2 (!r13)))) else (F.R08_name_j1 (F.R08_name_l2 a0 f) y2 false)))) else (some true)
def F.R08_name_j3 (a0 : ByteArray) (y1 : Bool) : Option Bool := if y1 = true then (some false) else (F.R08_name_l2 a0 A.FU 0)
def F.R08_name (a0 : ByteArray) : Option Bool := if (bif decide (a0 = (ByteArray.mk #[])) then true else decide ((16 : Int) < (a0.size : Int))) = true then (F.R08_name_j3 a0 true) else ((A.ix a0.data.toList 0).bind fun x15 => ((F.R08_letter x15).bind fun r17 => (F.R08_name_j3 a0 (!r17))))
theorem R08_name_ok (a0 : ByteArray) (h0_ : a0.size ≤ maxLen) (r : Bool) (hF : F.R08_name a0 = some r) :
    A.Ct Tryd.prog 121 [.string a0] [] [] (fun v H' => v = .bool r ∧ H' = []) := by
 refine A.Ct.enter Tryd.func121 rfl Tryd.ntmps121 rfl fun w0 F0 => ?_
 rw [F.R08_name] at hF
 refine A.xl 1 ?_
 refine A.q0 [] [] [.n] [] ?_
 refine A.dx 2 ?_
 refine A.AX.join [0] [] (fun nl nh => ∃ (y1 : Bool), nl = [(16, .bool y1)] ∧ nh = [] ∧ F.R08_name_j3 a0 y1 = some r) ?_ ?_
 ·refine A.xl 0 ?_
  refine A.q0 [] [] [.n, .n, .n, .sy .n, .sy .n, .sy .n, .pk, .n] [(11, .bool (bif decide (a0 = (ByteArray.mk #[])) then true else decide ((16 : Int) < (a0.size : Int))))] ?_
  refine A.AL.cnd (j := 11) rfl hF (fun hF => ?_) (fun hF => ?_)
  ·refine A.q0 [] [] [.off, .off, .off, .off, .n] [(16, .bool true)] ?_
   refine A.AL.done ?_
   exact A.j ⟨true, rfl, rfl, hF⟩
  refine A.q0 [] [] [.on .n] [(12, .string a0)] ?_
  refine A.AL.on (dj := 11) rfl rfl ?_
  obtain ⟨x15, hv16, hF⟩ := A.bd_some hF
  refine A.AL.ixt hv16 ?_
  refine A.AL.on (dj := 11) rfl rfl ?_
  obtain ⟨r17, hv18, hF⟩ := A.bd_some hF
  refine A.AL.call 0 [] (first := []) (cap := []) cf128 (R08_letter_ok x15 r17 hv18) .nil ?_
  rintro _ _ ⟨rfl, rfl⟩
  refine ⟨by kernel_rfl, ?_⟩
  refine A.q0 [] [] [.on .n, .n] [(16, .bool (!r17))] ?_
  refine A.AL.done ?_
  exact A.j ⟨(!r17), rfl, rfl, hF⟩
 rintro _ _ ⟨y1, rfl, rfl, hF⟩
 rw [F.R08_name_j3] at hF
 refine A.AX.cnb rfl hF (fun hb hF => ?_) (fun hb hF => ?_)
 ·refine A.xl 1 ?_
  refine A.q0 [] [] [.n] [(2, .bool false)] ?_
  refine A.dx 1 ?_
  obtain rfl := Option.some.inj hF
  exact A.rt1 [] ⟨rfl, rfl⟩
 refine A.xl 4 ?_
 refine A.q0 [] [] [.n] [(3, .int .i64 0)] ?_
 refine A.dx 2 ?_
 refine A.lp_ [0] [] (fun f nl nh => ∃ (y2 : Int), nl = [(3, .int .i64 y2)] ∧ nh = [] ∧ IntKind.i64.has y2 ∧ F.R08_name_l2 a0 f y2 = some r) ⟨0, rfl, rfl, (A.hasl .i64 (0) rfl), hF⟩ ?_
 rintro f4 _ _ ⟨y2, rfl, rfl, hy3, hF⟩
 rcases f4 with _ | f4
 ·exact A.no0 hF
 rw [F.R08_name_l2] at hF
 refine A.xl 2 ?_
 refine A.q0 [] [] [.n, .n, .n, .n] [(20, .bool (decide (y2 < (a0.size : Int))))] ?_
 refine A.dx 1 ?_
 refine A.AX.cnd rfl hF (fun hb hF => ?_) (fun hb hF => ?_)
 ·refine A.xx 4 ?_
  refine A.AX.join [0, 3] [] (fun nl nh => ∃ (y5 : Bool), nl = [(34, .bool y5)] ∧ nh = [] ∧ F.R08_name_j1 (F.R08_name_l2 a0 f4) y2 y5 = some r) ?_ ?_
  ·refine A.xl 0 ?_
   refine A.q0 [] [] [.n, .n] [(23, .string a0), (24, .int .i64 y2)] ?_
   obtain ⟨x7, hv8, hF⟩ := A.bd_some hF
   refine A.AL.ixt hv8 ?_
   obtain ⟨r9, hv10, hF⟩ := A.bd_some hF
   refine A.AL.call 200 [] (first := []) (cap := []) cf128 (R08_letter_ok x7 r9 hv10) .nil ?_
   rintro _ _ ⟨rfl, rfl⟩
   refine ⟨by kernel_rfl, ?_⟩
   refine A.q0 [] [] [.n, .n] [(28, .bool (!r9))] ?_
   refine A.AL.cnd (j := 28) rfl hF (fun hF => ?_) (fun hF => ?_)
   ·refine A.q0 [] [] [.on .n, .on .n] [(29, .string a0), (30, .int .i64 y2)] ?_
    refine A.AL.on (dj := 28) rfl rfl ?_
    obtain ⟨x11, hv12, hF⟩ := A.bd_some hF
    refine A.AL.ixt hv12 ?_
    refine A.AL.on (dj := 28) rfl rfl ?_
    obtain ⟨r13, hv14, hF⟩ := A.bd_some hF
    refine A.AL.call 240 [] (first := []) (cap := []) cf129 (R08_digit_ok x11 r13 hv14) .nil ?_
    rintro _ _ ⟨rfl, rfl⟩
    refine ⟨by kernel_rfl, ?_⟩
    refine A.q0 [] [] [.on .n, .n] [(34, .bool (!r13))] ?_
    refine A.AL.done ?_
    exact A.j ⟨(!r13), rfl, rfl, hF⟩
   refine A.q0 [] [] [.off, .off, .off, .off, .off, .n] [(34, .bool false)] ?_
   refine A.AL.done ?_
   exact A.j ⟨false, rfl, rfl, hF⟩
  rintro _ _ ⟨y5, rfl, rfl, hF⟩
  rw [F.R08_name_j1] at hF
  refine A.AX.cnb rfl hF (fun hb hF => ?_) (fun hb hF => ?_)
  ·refine A.xl 1 ?_
   refine A.q0 [] [] [.n] [(2, .bool false)] ?_
   refine A.dx 1 ?_
   obtain rfl := Option.some.inj hF
   exact A.rt1 [] ⟨rfl, rfl⟩
  refine A.xl 3 ?_
  obtain ⟨hc6, hF⟩ := A.gd_some hF
  refine A.q [] [] [.n, .n, .n] [Z.R64 (y2 + 1)] [(3, .int .i64 (y2 + 1))] hc6 ?_
  refine A.AL.done ?_
  exact A.j ⟨_, Nat.lt_succ_self _, ⟨(y2 + 1), rfl, rfl, (Z.i64_has hc6), hF⟩⟩
 refine A.xl 3 ?_
 refine A.q0 [] [] [.n] [(2, .bool true)] ?_
 refine A.dx 1 ?_
 obtain rfl := Option.some.inj hF
 exact A.rt1 [] ⟨rfl, rfl⟩
end Go.Proofs.YtleiipbkfaajfaaDoor
end

section
set_option linter.unusedVariables false
set_option linter.unusedSimpArgs false
set_option maxRecDepth 20000
set_option maxHeartbeats 8000000
set_option synthInstance.maxSize 1000000
set_option synthInstance.maxHeartbeats 400000
namespace Go.Proofs.YtleiipbkfaajfaaDoor
open Go.RowKit
def F.R08_Ins (a0 : Int) : Option Int := if (bif decide (a0 < 1) then true else decide ((16 : Int) < a0)) = true then (some (-1)) else (if a0 = 1 then (some 0) else (if (bif decide (a0 = 5) then true else decide (a0 = 9)) = true then (some 2) else (some 1)))
theorem R08_Ins_ok (a0 : Int) (h0_ : IntKind.i64.has a0) (r : Int) (hF : F.R08_Ins a0 = some r) :
    A.Ct Tryd.prog 18 [.int .i64 a0] [] [] (fun v H' => v = .int .i64 r ∧ H' = [] ∧ IntKind.i64.has r) := by
 refine A.Ct.enter Tryd.func18 rfl Tryd.ntmps18 rfl fun w0 F0 => ?_
 rw [F.R08_Ins] at hF
 refine A.xl 1 ?_
 refine A.q0 [] [] [.n] [] ?_
 refine A.dl 4 ?_
 refine A.q0 [] [] [.n, .n, .n, .sy .n, .sy .n, .pk, .n] [(3, .bool (bif decide (a0 < 1) then true else decide ((16 : Int) < a0)))] ?_
 refine A.dx 1 ?_
 refine A.AX.cnb rfl hF (fun hb hF => ?_) (fun hb hF => ?_)
 ·refine A.xl 1 ?_
  refine A.q0 [] [] [.n] [(2, .int .i64 (-1))] ?_
  refine A.dx 1 ?_
  obtain rfl := Option.some.inj hF
  exact A.rt1 [] ⟨rfl, rfl, (A.hasl .i64 (-1) rfl)⟩
 refine A.xl 1 ?_
 refine A.q0 [] [] [.n, .n, .n] [(10, .bool (decide (a0 = 1)))] ?_
 refine A.dx 1 ?_
 refine A.AX.cnd rfl hF (fun hb hF => ?_) (fun hb hF => ?_)
 ·refine A.xl 1 ?_
  refine A.q0 [] [] [.n] [(2, .int .i64 0)] ?_
  refine A.dx 1 ?_
  obtain rfl := Option.some.inj hF
  exact A.rt1 [] ⟨rfl, rfl, (A.hasl .i64 (0) rfl)⟩
 refine A.xl 1 ?_
 refine A.q0 [] [] [.n, .n, .n, .sy .n, .sy .n, .pk, .n] [(13, .bool (bif decide (a0 = 5) then true else decide (a0 = 9)))] ?_
 refine A.dx 1 ?_
 refine A.AX.cnb rfl hF (fun hb hF => ?_) (fun hb hF => ?_)
 ·refine A.xl 1 ?_
  refine A.q0 [] [] [.n] [(2, .int .i64 2)] ?_
  refine A.dx 1 ?_
  obtain rfl := Option.some.inj hF
  exact A.rt1 [] ⟨rfl, rfl, (A.hasl .i64 (2) rfl)⟩
 refine A.xl 4 ?_
 refine A.q0 [] [] [.n] [(2, .int .i64 1)] ?_
 refine A.dx 1 ?_
 obtain rfl := Option.some.inj hF
 exact A.rt1 [] ⟨rfl, rfl, (A.hasl .i64 (1) rfl)⟩

def F.R08_Named_j1 (k1 : Int → Option (Int × Bool)) (a0 : D23) (y2 : Int) (y5 : Bool) : Option (Int × Bool) := if y5 = true then ((A.ix a0 y2).bind fun x6 => (some (x6.1, true))) else (A.gd (Z.R64 (y2 + 1)) (k1 (y2 + 1)))
def F.R08_Named_l2 (a0 : D23) (a1 : Int) (a2 : ByteArray) : Nat → Int → Option (Int × Bool)
  | 0, _ => none
  | f + 1, y2 => if y2 < ((a0).length : Int) then ((A.ix a0 y2).bind fun x14 => (if x14.2.1 = a1 then ((A.ix a0 y2).bind fun x21 => (F.R08_Named_j1 (F.R08_Named_l2 a0 a1 a2 f) a0 y2 (decide (x21.2.2.2.2.1 = a2)))) else (F.R08_Named_j1 (F.R08_Named_l2 a0 a1 a2 f) a0 y2 false))) else (some (0, false))
def F.R08_Named (a0 : D23) (a1 : Int) (a2 : ByteArray) : Option (Int × Bool) := F.R08_Named_l2 a0 a1 a2 A.FU 0
theorem R08_Named_ok (a0 : D23) (a1 : Int) (a2 : ByteArray) (A0_ : Option Addr) (c1_ : Nat) (h2_ : IntKind.i64.has a1) (h3_ : a2.size ≤ maxLen) (r : Int × Bool) (hF : F.R08_Named a0 a1 a2 = some r) :
    A.Ct Tryd.prog 31 [.agg #[.slice A0_ ((a0).length) c1_], .int .i64 a1, .string a2] [(0, .sh (.slice T39) [.slice A0_ (a0).length c1_] a0)] [] (fun v H' => v = .tuple #[.int .i64 r.1, .bool r.2] ∧ H' = [] ∧ IntKind.i64.has r.1) := by
 refine A.Ct.enter Tryd.func31 rfl Tryd.ntmps31 rfl fun w0 F0 => ?_
 rw [F.R08_Named] at hF
 refine A.xl 1 ?_
 refine A.AL.box 1 (cs := [.slice A0_ ((a0).length) c1_]) fun g1 => ?_
 refine A.q0 [] [] [.n, .n] [] ?_
 refine A.dl 3 ?_
 refine A.q0 [] [] [.n] [(8, .int .i64 0)] ?_
 refine A.dx 2 ?_
 refine A.lp_ [1, 2, 3] [0, 1] (fun f nl nh => ∃ (y2 : Int), nl = [(8, .int .i64 y2)] ∧ nh = [] ∧ IntKind.i64.has y2 ∧ F.R08_Named_l2 a0 a1 a2 f y2 = some r) ⟨0, rfl, rfl, (A.hasl .i64 (0) rfl), hF⟩ ?_
 rintro f4 _ _ ⟨y2, rfl, rfl, hy3, hF⟩
 rcases f4 with _ | f4
 ·exact A.no0 hF
 rw [F.R08_Named_l2] at hF
 refine A.xl 2 ?_
 refine A.q0 [1] [] [.n, .n, .b 0 0, .n, .n] [(13, .bool (decide (y2 < ((a0).length : Int))))] ?_
 refine A.dx 1 ?_
 refine A.AX.cnd rfl hF (fun hb hF => ?_) (fun hb hF => ?_)
 ·refine A.xx 4 ?_
  refine A.AX.join [1, 2, 3, 8] [0, 1] (fun nl nh => ∃ (y5 : Bool), nl = [(33, .bool y5)] ∧ nh = [] ∧ F.R08_Named_j1 (F.R08_Named_l2 a0 a1 a2 f4) a0 y2 y5 = some r) ?_ ?_
  ·refine A.xl 0 ?_
   refine A.q0 [1] [] [.n, .b 0 0, .n] [(17, .slice A0_ ((a0).length) c1_), (18, .int .i64 y2)] ?_
   obtain ⟨x14, hv15, hF⟩ := A.bd_some hF
   refine A.AL.ixs 0 14 hv15 fun ho16 => ?_
   intro A17 c18 b19 o20
   refine A.q0 [] [14] [.n, .e 0 1, .n, .n, .n] [(24, .bool (decide (x14.2.1 = a1)))] ?_
   refine A.AL.cnp (j := 24) rfl hF (fun hb hF => ?_) (fun hb hF => ?_)
   ·refine A.q0 [1] [] [.on .n, .on (.b 0 0), .on .n] [(26, .slice A0_ ((a0).length) c1_), (27, .int .i64 y2)] ?_
    refine A.AL.on (dj := 24) rfl rfl ?_
    obtain ⟨x21, hv22, hF⟩ := A.bd_some hF
    refine A.AL.ixs 0 16 hv22 fun ho23 => ?_
    intro A24 c25 b26 o27
    refine A.q0 [] [16] [.on .n, .on (.e 0 6), .on .n, .on .n, .n] [(33, .bool (decide (x21.2.2.2.2.1 = a2)))] ?_
    refine A.AL.done ?_
    exact A.j ⟨(decide (x21.2.2.2.2.1 = a2)), rfl, rfl, hF⟩
   refine A.q0 [] [] [.off, .off, .off, .off, .off, .off, .off, .off, .n] [(33, .bool false)] ?_
   refine A.AL.done ?_
   exact A.j ⟨false, rfl, rfl, hF⟩
  rintro _ _ ⟨y5, rfl, rfl, hF⟩
  rw [F.R08_Named_j1] at hF
  refine A.AX.cnb rfl hF (fun hb hF => ?_) (fun hb hF => ?_)
  ·refine A.xl 1 ?_
   refine A.q0 [1] [] [.n, .b 0 0, .n] [(35, .slice A0_ ((a0).length) c1_), (36, .int .i64 y2)] ?_
   obtain ⟨x6, hv7, hF⟩ := A.bd_some hF
   refine A.AL.ixs 0 18 hv7 fun ho8 => ?_
   intro A9 c10 b11 o12
   refine A.q0 [] [18] [.n, .e 0 0, .n, .n] [(6, .int .i64 x6.1), (7, .bool true)] ?_
   refine A.dx 1 ?_
   obtain rfl := Option.some.inj hF
   exact A.rt2 [] ⟨rfl, rfl, ho8.1⟩
  refine A.xl 3 ?_
  obtain ⟨hc13, hF⟩ := A.gd_some hF
  refine A.q [] [] [.n, .n, .n] [Z.R64 (y2 + 1)] [(8, .int .i64 (y2 + 1))] hc13 ?_
  refine A.AL.done ?_
  exact A.j ⟨_, Nat.lt_succ_self _, ⟨(y2 + 1), rfl, rfl, (Z.i64_has hc13), hF⟩⟩
 refine A.xl 3 ?_
 refine A.q0 [] [] [.n, .n] [(6, .int .i64 0), (7, .bool false)] ?_
 refine A.dx 1 ?_
 obtain rfl := Option.some.inj hF
 exact A.rt2 [] ⟨rfl, rfl, (A.hasl .i64 (0) rfl)⟩

def F.R08_own_j1 (a0 : D23) (x2 : D39) : Option Bool := if (bif decide (x2.2.1 ≠ 1) then decide (x2.2.1 ≠ 15) else false) = true then (some (decide (x2.2.2.2.2.1 = (ByteArray.mk #[])))) else ((F.R08_Named a0 x2.2.1 x2.2.2.2.2.1).bind fun r11 => ((F.R08_name x2.2.2.2.2.1).bind fun r14 => (some (bif r14 then decide (r11.1 = x2.1) else false))))
def F.R08_own_j2 (a0 : D23) (x2 : D39) (y10 : Bool) : Option Bool := if y10 = true then (some false) else (if x2.2.1 = 14 then (if (bif bif bif decide (x2.2.2.2.2.2.1 < 1) then true else decide ((8 : Int) < x2.2.2.2.2.2.1) then true else decide (x2.2.2.2.2.2.2 < 1) then true else decide ((4 : Int) < x2.2.2.2.2.2.2)) = true then (some false) else (F.R08_own_j1 a0 x2)) else (if (bif decide (x2.2.2.2.2.2.1 ≠ 0) then true else decide (x2.2.2.2.2.2.2 ≠ 0)) = true then (some false) else (F.R08_own_j1 a0 x2)))
def F.R08_own (a0 : D23) (a1 : Int) : Option Bool := (A.ix a0 a1).bind fun x2 => (if (bif decide (x2.1 < 1) then true else decide ((255 : Int) < x2.1)) = true then (F.R08_own_j2 a0 x2 true) else (if (0 : Int) < a1 then (A.gd (Z.R64 (a1 - 1)) ((A.ix a0 (a1 - 1)).bind fun x17 => (if x2.1 ≤ x17.1 then (F.R08_own_j2 a0 x2 true) else ((F.R08_Ins x2.2.1).bind fun r25 => (if r25 < 0 then (F.R08_own_j2 a0 x2 true) else ((F.R08_Ins x2.2.1).bind fun r28 => (F.R08_own_j2 a0 x2 (decide (((x2.2.2.1).length : Int) ≠ r28))))))))) else ((F.R08_Ins x2.2.1).bind fun r31 => (if r31 < 0 then (F.R08_own_j2 a0 x2 true) else ((F.R08_Ins x2.2.1).bind fun r34 => (F.R08_own_j2 a0 x2 (decide (((x2.2.2.1).length : Int) ≠ r34))))))))
theorem R08_own_ok (a0 : D23) (a1 : Int) (A0_ : Option Addr) (c1_ : Nat) (h2_ : IntKind.i64.has a1) (r : Bool) (hF : F.R08_own a0 a1 = some r) :
    A.Ct Tryd.prog 101 [.agg #[.slice A0_ ((a0).length) c1_], .int .i64 a1] [(0, .sh (.slice T39) [.slice A0_ (a0).length c1_] a0)] [] (fun v H' => v = .bool r ∧ H' = []) := by
 refine A.Ct.enter Tryd.func101 rfl Tryd.ntmps101 rfl fun w0 F0 => ?_
 rw [F.R08_own] at hF
 refine A.xl 1 ?_
 refine A.AL.box 1 (cs := [.slice A0_ ((a0).length) c1_]) fun g1 => ?_
 refine A.q0 [] [] [.n] [] ?_
 refine A.dl 2 ?_
 refine A.q0 [1] [] [.n, .b 0 0, .n] [(9, .slice A0_ ((a0).length) c1_), (10, .int .i64 a1)] ?_
 obtain ⟨x2, hv3, hF⟩ := A.bd_some hF
 refine A.AL.ixs 0 2 hv3 fun ho4 => ?_
 intro A5 c6 b7 o8
 refine A.q0 [] [2] [.e 0 0] [(12, .agg #[.int .i64 x2.1, .int .i64 x2.2.1, .slice A5 ((x2.2.2.1).length) c6, .int .i64 x2.2.2.2.1.1, .int .i64 x2.2.2.2.1.2.1, .string x2.2.2.2.1.2.2, .string x2.2.2.2.2.1, .int .i64 x2.2.2.2.2.2.1, .int .i64 x2.2.2.2.2.2.2])] ?_
 refine A.AL.alloc 4 (cs := [.int .i64 0, .int .i64 0, .slice none 0 0, .int .i64 0, .int .i64 0, .string (ByteArray.mk #[]), .string (ByteArray.mk #[]), .int .i64 0, .int .i64 0]) Tryd.zeroValue40 fun g9 => ?_
 refine A.sw 4 [] [.int .i64 x2.1, .int .i64 x2.2.1, .slice A5 ((x2.2.2.1).length) c6, .int .i64 x2.2.2.2.1.1, .int .i64 x2.2.2.2.1.2.1, .string x2.2.2.2.1.2.2, .string x2.2.2.2.2.1, .int .i64 x2.2.2.2.2.2.1, .int .i64 x2.2.2.2.2.2.2] ?_
 refine A.dx 2 ?_
 refine A.AX.join [2, 5] [0, 1, 3, 4] (fun nl nh => ∃ (y10 : Bool), nl = [(51, .bool y10)] ∧ nh = [] ∧ F.R08_own_j2 a0 x2 y10 = some r) ?_ ?_
 ·refine A.AX.dr mixed 39 39 (A.mb 39 0) ?_
  refine A.hq A.pb [] [0, 1, 2, 3, 4] [4] [] (A.mb 39 511) 30 [(0, .n), (1, .b 0 0), (2, .n), (3, .n), (4, .sy .n), (5, .sy (.b 0 0)), (6, .sy .n), (7, .pk), (8, .n)] [(21, .bool (bif decide (x2.1 < 1) then true else decide ((255 : Int) < x2.1)))] ?_
  refine A.AH.cnd (j := 21) rfl hF (fun hF => ?_) (fun hF => ?_)
  ·refine A.hq A.pb [0, 1, 2, 3, 4] [0, 1, 2, 3, 4] [] [] (A.mb 39 549755813887) 0 [(9, .off), (10, .off), (11, .off), (12, .off), (14, .off), (16, .off), (13, .off), (15, .off), (17, .off), (18, .off), (19, .off), (20, .off), (21, .off), (22, .off), (23, .n), (24, .n), (25, .off), (26, .off), (27, .off), (28, .off), (29, .n), (30, .n), (31, .off), (34, .off), (32, .off), (35, .off), (33, .off), (36, .off), (37, .off), (38, .n)] [(51, .bool true)] ?_
   refine A.AH.done ?_
   exact A.j ⟨true, rfl, rfl, hF⟩
  refine A.hq A.pb [0, 1, 2, 3, 4] [0, 1, 2, 3, 4] [] [] (A.mb 39 4095) 27 [(9, .on .n), (10, .on .n), (11, .on .n)] [(24, .bool (decide ((0 : Int) < a1)))] ?_
  refine A.AH.cnp (j := 24) rfl hF (fun hb hF => ?_) (fun hb hF => ?_)
  ·obtain ⟨hc16, hF⟩ := A.gd_some hF
   refine A.AH.q A.pb [0, 1, 2, 3, 4] [0, 1, 2, 3, 4] [4, 1] [] (A.mb 39 262143) 21 [(12, .on .n), (14, .on .n), (16, .on .n), (13, .on (.b 0 0)), (15, .on (.b 1 0)), (17, .on .n)] [26, 28, 30] [Z.R64 (a1 - 1)] [(26, .int .i64 x2.1), (28, .slice A0_ ((a0).length) c1_), (30, .int .i64 (a1 - 1))] hc16 ?_
   obtain ⟨x17, hv18, hF⟩ := A.bd_some hF
   refine A.AH.pks 0 5 hv18 fun ho19 => ?_
   intro A21 c22 b23 o24 hA20
   refine A.AH.vg A.pb [0, 1, 2, 3, 4] [0, 1, 2, 3, 4, 5, 6] 18 (A.mb 39 524287) (dj := 24) rfl (fun a w hf hh => A.r_ixa (t := T39) hv18 hA20 hf) ?_
   refine A.hq A.pb [0, 1, 2, 3, 4, 5, 6] [0, 1, 2, 3, 4, 5, 6] [] [5] (A.mb 39 33554431) 14 [(19, .on .n), (20, .on (.e 0 0)), (21, .on .n), (22, .on .n), (23, .n), (24, .n)] [(37, .bool (decide (x2.1 ≤ x17.1)))] ?_
   refine A.AH.cnp (j := 37) rfl hF (fun hb hF => ?_) (fun hb hF => ?_)
   ·refine A.hq A.pb [0, 1, 2, 3, 4, 5, 6] [0, 1, 2, 3, 4, 5, 6] [] [] (A.mb 39 549755813887) 0 [(25, .off), (26, .off), (27, .off), (28, .off), (29, .n), (30, .n), (31, .off), (34, .off), (32, .off), (35, .off), (33, .off), (36, .off), (37, .off), (38, .n)] [(51, .bool true)] ?_
    refine A.AH.done ?_
    exact A.j ⟨true, rfl, rfl, hF⟩
   refine A.hq A.pb [0, 1, 2, 3, 4, 5, 6] [0, 1, 2, 3, 4, 5, 6] [4] [] (A.mb 39 134217727) 12 [(25, .on .n), (26, .on (.b 0 1))] [(39, .int .i64 x2.2.1)] ?_
   refine A.AH.one 27 ?_
   refine A.AL.on (dj := 37) rfl rfl ?_
   obtain ⟨r25, hv26, hF⟩ := A.bd_some hF
   refine A.AL.call 7 [] (first := []) (cap := []) cf18 (R08_Ins_ok x2.2.1 ho4.2.1 r25 hv26) .nil ?_
   rintro _ _ ⟨rfl, rfl, hr27⟩
   refine ⟨by kernel_rfl, ?_⟩
   refine A.AH.nx (A.mb 39 268435455) [0, 1, 2, 3, 4, 5, 6] ?_
   refine A.hq A.pb [0, 1, 2, 3, 4, 5, 6] [0, 1, 2, 3, 4, 5, 6] [] [] (A.mb 39 2147483647) 8 [(28, .on .n), (29, .n), (30, .n)] [(43, .bool (decide (r25 < 0)))] ?_
   refine A.AH.cnp (j := 43) rfl hF (fun hb hF => ?_) (fun hb hF => ?_)
   ·refine A.hq A.pb [0, 1, 2, 3, 4, 5, 6] [0, 1, 2, 3, 4, 5, 6] [] [] (A.mb 39 549755813887) 0 [(31, .off), (34, .off), (32, .off), (35, .off), (33, .off), (36, .off), (37, .off), (38, .n)] [(51, .bool true)] ?_
    refine A.AH.done ?_
    exact A.j ⟨true, rfl, rfl, hF⟩
   refine A.hq A.pb [0, 1, 2, 3, 4, 5, 6] [0, 1, 2, 3, 4, 5, 6] [4] [] (A.mb 39 68719476735) 3 [(31, .on .n), (34, .on .n), (32, .on (.b 0 2)), (35, .on (.b 0 1)), (33, .on .n)] [(48, .int .i64 x2.2.1), (46, .int .i64 ((x2.2.2.1).length : Int))] ?_
   refine A.AH.one 36 ?_
   refine A.AL.on (dj := 43) rfl rfl ?_
   obtain ⟨r28, hv29, hF⟩ := A.bd_some hF
   refine A.AL.call 47 [] (first := []) (cap := []) cf18 (R08_Ins_ok x2.2.1 ho4.2.1 r28 hv29) .nil ?_
   rintro _ _ ⟨rfl, rfl, hr30⟩
   refine ⟨by kernel_rfl, ?_⟩
   refine A.AH.nx (A.mb 39 137438953471) [0, 1, 2, 3, 4, 5, 6] ?_
   refine A.hq A.pb [0, 1, 2, 3, 4, 5, 6] [0, 1, 2, 3, 4, 5, 6] [] [] (A.mb 39 549755813887) 0 [(37, .on .n), (38, .n)] [(51, .bool (decide (((x2.2.2.1).length : Int) ≠ r28)))] ?_
   refine A.AH.done ?_
   exact A.j ⟨(decide (((x2.2.2.1).length : Int) ≠ r28)), rfl, rfl, hF⟩
  refine A.hq A.pb [0, 1, 2, 3, 4] [0, 1, 2, 3, 4] [4] [] (A.mb 39 134217727) 12 [(12, .off), (14, .off), (16, .off), (13, .off), (15, .off), (17, .off), (18, .off), (19, .off), (20, .off), (21, .off), (22, .on .n), (23, .n), (24, .n), (25, .on .n), (26, .on (.b 0 1))] [(37, .bool false), (39, .int .i64 x2.2.1)] ?_
  refine A.AH.one 27 ?_
  refine A.AL.on (dj := 37) rfl rfl ?_
  obtain ⟨r31, hv32, hF⟩ := A.bd_some hF
  refine A.AL.call 87 [] (first := []) (cap := []) cf18 (R08_Ins_ok x2.2.1 ho4.2.1 r31 hv32) .nil ?_
  rintro _ _ ⟨rfl, rfl, hr33⟩
  refine ⟨by kernel_rfl, ?_⟩
  refine A.AH.nx (A.mb 39 268435455) [0, 1, 2, 3, 4] ?_
  refine A.hq A.pb [0, 1, 2, 3, 4] [0, 1, 2, 3, 4] [] [] (A.mb 39 2147483647) 8 [(28, .on .n), (29, .n), (30, .n)] [(43, .bool (decide (r31 < 0)))] ?_
  refine A.AH.cnp (j := 43) rfl hF (fun hb hF => ?_) (fun hb hF => ?_)
  ·refine A.hq A.pb [0, 1, 2, 3, 4] [0, 1, 2, 3, 4] [] [] (A.mb 39 549755813887) 0 [(31, .off), (34, .off), (32, .off), (35, .off), (33, .off), (36, .off), (37, .off), (38, .n)] [(51, .bool true)] ?_
   refine A.AH.done ?_
   exact A.j ⟨true, rfl, rfl, hF⟩
  refine A.hq A.pb [0, 1, 2, 3, 4] [0, 1, 2, 3, 4] [4] [] (A.mb 39 68719476735) 3 [(31, .on .n), (34, .on .n), (32, .on (.b 0 2)), (35, .on (.b 0 1)), (33, .on .n)] [(48, .int .i64 x2.2.1), (46, .int .i64 ((x2.2.2.1).length : Int))] ?_
  refine A.AH.one 36 ?_
  refine A.AL.on (dj := 43) rfl rfl ?_
  obtain ⟨r34, hv35, hF⟩ := A.bd_some hF
  refine A.AL.call 127 [] (first := []) (cap := []) cf18 (R08_Ins_ok x2.2.1 ho4.2.1 r34 hv35) .nil ?_
  rintro _ _ ⟨rfl, rfl, hr36⟩
  refine ⟨by kernel_rfl, ?_⟩
  refine A.AH.nx (A.mb 39 137438953471) [0, 1, 2, 3, 4] ?_
  refine A.hq A.pb [0, 1, 2, 3, 4] [0, 1, 2, 3, 4] [] [] (A.mb 39 549755813887) 0 [(37, .on .n), (38, .n)] [(51, .bool (decide (((x2.2.2.1).length : Int) ≠ r34)))] ?_
  refine A.AH.done ?_
  exact A.j ⟨(decide (((x2.2.2.1).length : Int) ≠ r34)), rfl, rfl, hF⟩
 rintro _ _ ⟨y10, rfl, rfl, hF⟩
 rw [F.R08_own_j2] at hF
 refine A.AX.cnb rfl hF (fun hb hF => ?_) (fun hb hF => ?_)
 ·refine A.xl 1 ?_
  refine A.q0 [] [] [.n] [(4, .bool false)] ?_
  refine A.dx 1 ?_
  obtain rfl := Option.some.inj hF
  exact A.rt1 [] ⟨rfl, rfl⟩
 refine A.xx 2 ?_
 refine A.AX.join [2, 5] [0, 1, 3, 4] (fun nl nh => nl = [] ∧ nh = [] ∧ F.R08_own_j1 a0 x2 = some r) ?_ ?_
 ·refine A.xl 1 ?_
  refine A.q0 [4] [] [.n, .b 0 1, .n] [(54, .bool (decide (x2.2.1 = 14)))] ?_
  refine A.dx 1 ?_
  refine A.AX.cnd rfl hF (fun hb hF => ?_) (fun hb hF => ?_)
  ·refine A.xl 1 ?_
   refine A.q0 [4] [] [.n, .b 0 7, .n, .n, .sy .n, .sy (.b 0 7), .sy .n, .pk, .n, .sy .n, .sy (.b 0 8), .sy .n, .pk, .n, .sy .n, .sy (.b 0 8), .sy .n, .pk] [(72, .bool (bif bif bif decide (x2.2.2.2.2.2.1 < 1) then true else decide ((8 : Int) < x2.2.2.2.2.2.1) then true else decide (x2.2.2.2.2.2.2 < 1) then true else decide ((4 : Int) < x2.2.2.2.2.2.2)))] ?_
   refine A.dx 1 ?_
   refine A.AX.cnb rfl hF (fun hb hF => ?_) (fun hb hF => ?_)
   ·refine A.xl 1 ?_
    refine A.q0 [] [] [.n] [(4, .bool false)] ?_
    refine A.dx 1 ?_
    obtain rfl := Option.some.inj hF
    exact A.rt1 [] ⟨rfl, rfl⟩
   refine A.xe 1 ?_
   exact A.j ⟨rfl, rfl, hF⟩
  refine A.xl 1 ?_
  refine A.q0 [4] [] [.n, .b 0 7, .n, .n, .sy .n, .sy (.b 0 8), .sy .n, .pk] [(80, .bool (bif decide (x2.2.2.2.2.2.1 ≠ 0) then true else decide (x2.2.2.2.2.2.2 ≠ 0)))] ?_
  refine A.dx 1 ?_
  refine A.AX.cnb rfl hF (fun hb hF => ?_) (fun hb hF => ?_)
  ·refine A.xl 1 ?_
   refine A.q0 [] [] [.n] [(4, .bool false)] ?_
   refine A.dx 1 ?_
   obtain rfl := Option.some.inj hF
   exact A.rt1 [] ⟨rfl, rfl⟩
  refine A.xe 1 ?_
  exact A.j ⟨rfl, rfl, hF⟩
 rintro _ _ ⟨rfl, rfl, hF⟩
 rw [F.R08_own_j1] at hF
 refine A.xl 2 ?_
 refine A.q0 [4] [] [.n, .b 0 1, .n, .n, .sy .n, .sy (.b 0 1), .sy .n, .pk] [(88, .bool (bif decide (x2.2.1 ≠ 1) then decide (x2.2.1 ≠ 15) else false))] ?_
 refine A.dx 1 ?_
 refine A.AX.cnb rfl hF (fun hb hF => ?_) (fun hb hF => ?_)
 ·refine A.xl 1 ?_
  refine A.q0 [4] [] [.n, .b 0 6, .n, .n] [(4, .bool (decide (x2.2.2.2.2.1 = (ByteArray.mk #[]))))] ?_
  refine A.dx 1 ?_
  obtain rfl := Option.some.inj hF
  exact A.rt1 [] ⟨rfl, rfl⟩
 refine A.xl 3 ?_
 refine A.q0 [1, 4] [] [.b 0 0, .n, .b 1 1, .n, .b 1 6] [(93, .agg #[.slice A0_ ((a0).length) c1_]), (95, .int .i64 x2.2.1), (97, .string x2.2.2.2.2.1)] ?_
 obtain ⟨r11, hv12, hF⟩ := A.bd_some hF
 refine A.AL.call 167 [] (first := []) (cap := []) cf31 (R08_Named_ok a0 x2.2.1 x2.2.2.2.2.1 A0_ c1_ ho4.2.1 ho4.2.2.2.2.1 r11 hv12) (.s 0 .nil) ?_
 rintro _ _ ⟨rfl, rfl, hr13⟩
 refine ⟨by kernel_rfl, ?_⟩
 refine A.q0 [] [] [.n, .n, .n, .n, .n] [(6, .int .i64 r11.1)] ?_
 refine A.dl 2 ?_
 refine A.q0 [4] [] [.n, .b 0 6] [(102, .string x2.2.2.2.2.1)] ?_
 obtain ⟨r14, hv15, hF⟩ := A.bd_some hF
 refine A.AL.call 207 [] (first := []) (cap := []) cf121 (R08_name_ok x2.2.2.2.2.1 ho4.2.2.2.2.1 r14 hv15) .nil ?_
 rintro _ _ ⟨rfl, rfl⟩
 refine ⟨by kernel_rfl, ?_⟩
 refine A.q0 [4] [] [.n, .sy .n, .sy .n, .sy (.b 0 0), .sy .n, .pk, .n] [(4, .bool (bif r14 then decide (r11.1 = x2.1) else false))] ?_
 refine A.dx 1 ?_
 obtain rfl := Option.some.inj hF
 exact A.rt1 [] ⟨rfl, rfl⟩

def F.R06_Uses_l1 (y3 : Int) : Nat → (List Int) → Int → Option (List Int)
  | 0, _, _ => none
  | f + 1, xs7, y8 => if y8 ≤ y3 then (A.gd ((List.length (α := Int) xs7 + List.length (α := Int) [y8]) * 8 ≤ 140737488355328) (A.gd (Z.R64 (y8 + 1)) ((F.R06_Uses_l1 y3 f) (xs7 ++ [y8]) (y8 + 1)))) else (some xs7)
def F.R06_Uses_j2 (y1 : Int) (y3 : Int) : Option (List Int) := F.R06_Uses_l1 y3 A.FU [] y1
def F.R06_Uses (a0 : Int) : Option (List Int) := if a0 = 2 then (F.R06_Uses_j2 1 8) else (if a0 = 3 then (F.R06_Uses_j2 11 13) else (if a0 = 4 then (F.R06_Uses_j2 21 22) else (if a0 = 8 then (F.R06_Uses_j2 31 34) else (if a0 = 11 then (F.R06_Uses_j2 41 42) else (F.R06_Uses_j2 1 0)))))
theorem R06_Uses_ok (a0 : Int) (h0_ : IntKind.i64.has a0) (r : (List Int)) (hF : F.R06_Uses a0 = some r) :
    A.Ct Tryd.prog 122 [.int .i64 a0] [] [] (fun v H' => ∃ (A0' : Option Addr) (c1' : Nat), v = .slice A0' ((r).length) c1' ∧ H' = [(0, .own (Z.Ty.int .i64) 3 A0' c1' r)]) := by
 refine A.Ct.enter Tryd.func122 rfl Tryd.ntmps122 rfl fun w0 F0 => ?_
 rw [F.R06_Uses] at hF
 refine A.xl 1 ?_
 refine A.q0 [] [] [.n] [] ?_
 refine A.dl 2 ?_
 refine A.q0 [] [] [.n, .n] [(3, .int .i64 1), (4, .int .i64 0)] ?_
 refine A.dx 1 ?_
 refine A.AX.join [] [] (fun nl nh => ∃ (y1 : Int), ∃ (y3 : Int), nl = [(3, .int .i64 y1), (4, .int .i64 y3)] ∧ nh = [] ∧ IntKind.i64.has y1 ∧ IntKind.i64.has y3 ∧ F.R06_Uses_j2 y1 y3 = some r) ?_ ?_
 ·refine A.xl 1 ?_
  refine A.q0 [] [] [.n] [(7, .int .i64 a0)] ?_
  refine A.dl 3 ?_
  refine A.q0 [] [] [.n, .n] [(8, .bool (decide (a0 = 2)))] ?_
  refine A.dx 1 ?_
  refine A.AX.cnd rfl hF (fun hb hF => ?_) (fun hb hF => ?_)
  ·refine A.xl 0 ?_
   refine A.q0 [] [] [.n, .n] [(3, .int .i64 1), (4, .int .i64 8)] ?_
   refine A.de 1 ?_
   exact A.j ⟨1, 8, rfl, rfl, (A.hasl .i64 (1) rfl), (A.hasl .i64 (8) rfl), hF⟩
  refine A.xl 1 ?_
  refine A.q0 [] [] [.n, .n] [(10, .bool (decide (a0 = 3)))] ?_
  refine A.dx 1 ?_
  refine A.AX.cnd rfl hF (fun hb hF => ?_) (fun hb hF => ?_)
  ·refine A.xl 0 ?_
   refine A.q0 [] [] [.n, .n] [(3, .int .i64 11), (4, .int .i64 13)] ?_
   refine A.de 1 ?_
   exact A.j ⟨11, 13, rfl, rfl, (A.hasl .i64 (11) rfl), (A.hasl .i64 (13) rfl), hF⟩
  refine A.xl 1 ?_
  refine A.q0 [] [] [.n, .n] [(12, .bool (decide (a0 = 4)))] ?_
  refine A.dx 1 ?_
  refine A.AX.cnd rfl hF (fun hb hF => ?_) (fun hb hF => ?_)
  ·refine A.xl 0 ?_
   refine A.q0 [] [] [.n, .n] [(3, .int .i64 21), (4, .int .i64 22)] ?_
   refine A.de 1 ?_
   exact A.j ⟨21, 22, rfl, rfl, (A.hasl .i64 (21) rfl), (A.hasl .i64 (22) rfl), hF⟩
  refine A.xl 1 ?_
  refine A.q0 [] [] [.n, .n] [(14, .bool (decide (a0 = 8)))] ?_
  refine A.dx 1 ?_
  refine A.AX.cnd rfl hF (fun hb hF => ?_) (fun hb hF => ?_)
  ·refine A.xl 0 ?_
   refine A.q0 [] [] [.n, .n] [(3, .int .i64 31), (4, .int .i64 34)] ?_
   refine A.de 1 ?_
   exact A.j ⟨31, 34, rfl, rfl, (A.hasl .i64 (31) rfl), (A.hasl .i64 (34) rfl), hF⟩
  refine A.xl 1 ?_
  refine A.q0 [] [] [.n, .n] [(16, .bool (decide (a0 = 11)))] ?_
  refine A.dx 1 ?_
  refine A.AX.cnd rfl hF (fun hb hF => ?_) (fun hb hF => ?_)
  ·refine A.xl 0 ?_
   refine A.q0 [] [] [.n, .n] [(3, .int .i64 41), (4, .int .i64 42)] ?_
   refine A.de 1 ?_
   exact A.j ⟨41, 42, rfl, rfl, (A.hasl .i64 (41) rfl), (A.hasl .i64 (42) rfl), hF⟩
  refine A.xe 2 ?_
  exact A.j ⟨1, 0, rfl, rfl, (A.hasl .i64 (1) rfl), (A.hasl .i64 (0) rfl), hF⟩
 rintro _ _ ⟨y1, y3, rfl, rfl, hy2, hy4, hF⟩
 rw [F.R06_Uses_j2] at hF
 refine A.xl 1 ?_
 refine A.q0 [] [] [.n] [(5, .slice none 0 0)] ?_
 refine A.dl 3 ?_
 refine A.q0 [] [] [.n, .n] [(6, .int .i64 y1)] ?_
 refine A.dx 2 ?_
 refine A.nil 3 (Z.Ty.int .i64) 3 ?_
 refine A.lp_ [4] [] (fun f nl nh => ∃ (xs7 : List Int), ∃ (y8 : Int), ∃ (A5 : Option Addr), ∃ (c6 : Nat), nl = [(5, .slice A5 ((xs7).length) c6), (6, .int .i64 y8)] ∧ nh = [(3, .own (Z.Ty.int .i64) 3 A5 c6 xs7)] ∧ IntKind.i64.has y8 ∧ F.R06_Uses_l1 y3 f xs7 y8 = some r) ⟨[], y1, none, 0, rfl, rfl, hy2, hF⟩ ?_
 rintro f10 _ _ ⟨xs7, y8, A5, c6, rfl, rfl, hy9, hF⟩
 rcases f10 with _ | f10
 ·exact A.no0 hF
 rw [F.R06_Uses_l1] at hF
 refine A.xl 2 ?_
 refine A.q0 [] [] [.n, .n, .n] [(21, .bool (decide (y8 ≤ y3)))] ?_
 refine A.dx 1 ?_
 refine A.AX.cnd rfl hF (fun hb hF => ?_) (fun hb hF => ?_)
 ·refine A.xl 4 ?_
  refine A.q0 [] [] [.n, .n] [(24, .slice A5 ((xs7).length) c6), (25, .int .i64 y8)] ?_
  refine A.AL.bsl 6 (ty := (Z.Ty.int .i64)) (cs := [.int .i64 y8]) [y8] ⟨⟨rfl, hy9⟩, rfl⟩ (fun g11 => ?_) Tryd.zeroValue3 Tryd.sizeOf3
  obtain ⟨hl14, hF⟩ := A.gd_some hF
  refine A.AL.app (k := 3) [] (A.rowO (k := 6) rfl) inf3 hl14 fun A12 c13 => ?_
  refine A.q0 [] [] [.n] [(5, .slice A12 ((xs7 ++ [y8]).length) c13)] ?_
  refine A.dl 2 ?_
  obtain ⟨hc15, hF⟩ := A.gd_some hF
  refine A.q [] [] [.n, .n, .n] [Z.R64 (y8 + 1)] [(6, .int .i64 (y8 + 1))] hc15 ?_
  refine A.AL.done ?_
  exact A.j ⟨_, Nat.lt_succ_self _, ⟨(xs7 ++ [y8]), (y8 + 1), A12, c13, rfl, rfl, (Z.i64_has hc15), hF⟩⟩
 refine A.xl 3 ?_
 refine A.q0 [] [] [.n, .n] [(2, .slice A5 ((xs7).length) c6)] ?_
 refine A.dx 1 ?_
 obtain rfl := Option.some.inj hF
 exact A.rt1 [(0, 3)] ⟨A5, c6, rfl, rfl⟩

def F.R06_number_j1 (a0 : D37) (y3 : Bool) : Option Bool := if y3 = true then (some (bif decide ((1 : Int) ≤ a0.2.1) then decide (a0.2.1 ≤ 1048576) else false)) else (some (decide (a0.2.1 = 0)))
def F.R06_number_j2 (a0 : D37) (y2 : Bool) : Option Bool := if y2 = true then (some (bif decide ((0 : Int) ≤ a0.2.1) then decide (a0.2.1 ≤ 64) else false)) else (if a0.1 = 6 then (F.R06_number_j1 a0 (decide (a0.1 = 6))) else (F.R06_number_j1 a0 (decide (a0.1 = 11))))
def F.R06_number (a0 : D37) : Option Bool := if a0.1 = 3 then (F.R06_number_j2 a0 (decide (a0.1 = 3))) else (F.R06_number_j2 a0 (decide (a0.1 = 13)))
theorem R06_number_ok (a0 : D37) (h0_ : IntKind.i64.has a0.1) (h1_ : IntKind.i64.has a0.2.1) (h2_ : a0.2.2.size ≤ maxLen) (r : Bool) (hF : F.R06_number a0 = some r) :
    A.Ct Tryd.prog 123 [.agg #[.int .i64 a0.1, .int .i64 a0.2.1, .string a0.2.2]] [] [] (fun v H' => v = .bool r ∧ H' = []) := by
 refine A.Ct.enter Tryd.func123 rfl Tryd.ntmps123 rfl fun w0 F0 => ?_
 rw [F.R06_number] at hF
 refine A.xl 1 ?_
 refine A.AL.box 0 (cs := [.int .i64 a0.1, .int .i64 a0.2.1, .string a0.2.2]) fun g1 => ?_
 refine A.q0 [] [] [.n] [] ?_
 refine A.dl 2 ?_
 refine A.q0 [0] [] [.n, .b 0 0] [(4, .int .i64 a0.1)] ?_
 refine A.dx 2 ?_
 refine A.AX.join [1, 4] [0] (fun nl nh => ∃ (y2 : Bool), nl = [(8, .bool y2)] ∧ nh = [] ∧ F.R06_number_j2 a0 y2 = some r) ?_ ?_
 ·refine A.xl 1 ?_
  refine A.q0 [] [] [.n, .n] [(8, .bool (decide (a0.1 = 3)))] ?_
  refine A.dx 1 ?_
  refine A.AX.cnd rfl hF (fun hb hF => ?_) (fun hb hF => ?_)
  ·refine A.xe 1 ?_
   exact A.j ⟨(decide (a0.1 = 3)), rfl, rfl, hF⟩
  refine A.xl 0 ?_
  refine A.q0 [] [] [.n, .n] [(8, .bool (decide (a0.1 = 13)))] ?_
  refine A.AL.done ?_
  exact A.j ⟨(decide (a0.1 = 13)), rfl, rfl, hF⟩
 rintro _ _ ⟨y2, rfl, rfl, hF⟩
 rw [F.R06_number_j2] at hF
 refine A.AX.cnb rfl hF (fun hb hF => ?_) (fun hb hF => ?_)
 ·refine A.xl 1 ?_
  refine A.q0 [0] [] [.n, .b 0 1, .n, .n, .sy .n, .sy (.b 0 1), .sy .n, .pk, .n] [(2, .bool (bif decide ((0 : Int) ≤ a0.2.1) then decide (a0.2.1 ≤ 64) else false))] ?_
  refine A.dx 1 ?_
  obtain rfl := Option.some.inj hF
  exact A.rt1 [] ⟨rfl, rfl⟩
 refine A.AX.join [1] [0] (fun nl nh => ∃ (y3 : Bool), nl = [(19, .bool y3)] ∧ nh = [] ∧ F.R06_number_j1 a0 y3 = some r) ?_ ?_
 ·refine A.xl 1 ?_
  refine A.q0 [] [] [.n, .n] [(19, .bool (decide (a0.1 = 6)))] ?_
  refine A.dx 1 ?_
  refine A.AX.cnd rfl hF (fun hb hF => ?_) (fun hb hF => ?_)
  ·refine A.xe 1 ?_
   exact A.j ⟨(decide (a0.1 = 6)), rfl, rfl, hF⟩
  refine A.xl 0 ?_
  refine A.q0 [] [] [.n, .n] [(19, .bool (decide (a0.1 = 11)))] ?_
  refine A.AL.done ?_
  exact A.j ⟨(decide (a0.1 = 11)), rfl, rfl, hF⟩
 rintro _ _ ⟨y3, rfl, rfl, hF⟩
 rw [F.R06_number_j1] at hF
 refine A.AX.cnb rfl hF (fun hb hF => ?_) (fun hb hF => ?_)
 ·refine A.xl 1 ?_
  refine A.q0 [0] [] [.n, .b 0 1, .n, .n, .sy .n, .sy (.b 0 1), .sy .n, .pk, .n] [(2, .bool (bif decide ((1 : Int) ≤ a0.2.1) then decide (a0.2.1 ≤ 1048576) else false))] ?_
  refine A.dx 1 ?_
  obtain rfl := Option.some.inj hF
  exact A.rt1 [] ⟨rfl, rfl⟩
 refine A.xl 1 ?_
 refine A.q0 [0] [] [.n, .b 0 1, .n, .n] [(2, .bool (decide (a0.2.1 = 0)))] ?_
 refine A.dx 1 ?_
 obtain rfl := Option.some.inj hF
 exact A.rt1 [] ⟨rfl, rfl⟩

def F.R05_tail (a0 : UInt8) : Option Bool := some (bif decide ((128 : Int) ≤ (a0.toNat : Int)) then decide ((a0.toNat : Int) ≤ 191) else false)
theorem R05_tail_ok (a0 : UInt8) (r : Bool) (hF : F.R05_tail a0 = some r) :
    A.Ct Tryd.prog 134 [.int .u8 (a0.toNat : Int)] [] [] (fun v H' => v = .bool r ∧ H' = []) := by
 refine A.Ct.enter Tryd.func134 rfl Tryd.ntmps134 rfl fun w0 F0 => ?_
 rw [F.R05_tail] at hF
 refine A.xl 1 ?_
 refine A.q0 [] [] [.n] [] ?_
 refine A.dl 2 ?_
 refine A.q0 [] [] [.n, .n, .n, .sy .n, .sy .n, .pk, .n] [(2, .bool (bif decide ((128 : Int) ≤ (a0.toNat : Int)) then decide ((a0.toNat : Int) ≤ 191) else false))] ?_
 refine A.dx 1 ?_
 obtain rfl := Option.some.inj hF
 exact A.rt1 [] ⟨rfl, rfl⟩
end Go.Proofs.YtleiipbkfaajfaaDoor
end

section
set_option linter.unusedVariables false
set_option linter.unusedSimpArgs false
set_option maxRecDepth 20000
set_option maxHeartbeats 8000000
set_option synthInstance.maxSize 1000000
set_option synthInstance.maxHeartbeats 400000
namespace Go.Proofs.YtleiipbkfaajfaaDoor
open Go.RowKit
def F.R05_width_j1 (x2 : UInt8) (y4 : UInt8) (y7 : Bool) : Option Int := if y7 = true then (if (bif decide ((x2.toNat : Int) = 240) then decide ((y4.toNat : Int) < 144) else false) = true then (some 0) else (if (bif decide ((x2.toNat : Int) = 244) then decide ((143 : Int) < (y4.toNat : Int)) else false) = true then (some 0) else (some 4))) else (some 0)
def F.R05_width_j2 (a0 : ByteArray) (a1 : Int) (x2 : UInt8) (y4 : UInt8) (y6 : Bool) : Option Int := if y6 = true then (if (bif decide ((x2.toNat : Int) = 224) then decide ((y4.toNat : Int) < 160) else false) = true then (some 0) else (if (bif decide ((x2.toNat : Int) = 237) then decide ((159 : Int) < (y4.toNat : Int)) else false) = true then (some 0) else (some 3))) else (if (bif bif decide ((240 : Int) ≤ (x2.toNat : Int)) then decide ((x2.toNat : Int) ≤ 244) else false then decide ((4 : Int) ≤ (a0.size : Int) - a1) else false) = true then ((F.R05_tail y4).bind fun r8 => (if r8 = true then (A.gd (Z.R64 (a1 + 2)) ((A.ix a0.data.toList (a1 + 2)).bind fun x11 => ((F.R05_tail x11).bind fun r13 => (if r13 = true then (A.gd (Z.R64 (a1 + 3)) ((A.ix a0.data.toList (a1 + 3)).bind fun x16 => ((F.R05_tail x16).bind fun r18 => (F.R05_width_j1 x2 y4 r18)))) else (F.R05_width_j1 x2 y4 false))))) else (F.R05_width_j1 x2 y4 false))) else (F.R05_width_j1 x2 y4 false))
def F.R05_width_j3 (a0 : ByteArray) (a1 : Int) (x2 : UInt8) (y4 : UInt8) (y5 : Bool) : Option Int := if y5 = true then (some 2) else (if (bif bif decide ((224 : Int) ≤ (x2.toNat : Int)) then decide ((x2.toNat : Int) ≤ 239) else false then decide ((3 : Int) ≤ (a0.size : Int) - a1) else false) = true then ((F.R05_tail y4).bind fun r20 => (if r20 = true then (A.gd (Z.R64 (a1 + 2)) ((A.ix a0.data.toList (a1 + 2)).bind fun x23 => ((F.R05_tail x23).bind fun r25 => (F.R05_width_j2 a0 a1 x2 y4 r25)))) else (F.R05_width_j2 a0 a1 x2 y4 false))) else (F.R05_width_j2 a0 a1 x2 y4 false))
def F.R05_width_j4 (a0 : ByteArray) (a1 : Int) (x2 : UInt8) (y4 : UInt8) : Option Int := if (x2.toNat : Int) < 128 then (some 1) else (if (bif bif decide ((194 : Int) ≤ (x2.toNat : Int)) then decide ((x2.toNat : Int) ≤ 223) else false then decide ((2 : Int) ≤ (a0.size : Int) - a1) else false) = true then ((F.R05_tail y4).bind fun r27 => (F.R05_width_j3 a0 a1 x2 y4 r27)) else (F.R05_width_j3 a0 a1 x2 y4 false))
def F.R05_width (a0 : ByteArray) (a1 : Int) : Option Int := A.gd (Z.R64 ((a0.size : Int) - a1)) ((A.ix a0.data.toList a1).bind fun x2 => (if (1 : Int) < (a0.size : Int) - a1 then (A.gd (Z.R64 (a1 + 1)) ((A.ix a0.data.toList (a1 + 1)).bind fun x30 => (F.R05_width_j4 a0 a1 x2 x30))) else (F.R05_width_j4 a0 a1 x2 (0 : UInt8))))
theorem R05_width_ok (a0 : ByteArray) (a1 : Int) (h0_ : a0.size ≤ maxLen) (h1_ : IntKind.i64.has a1) (r : Int) (hF : F.R05_width a0 a1 = some r) :
    A.Ct Tryd.prog 133 [.string a0, .int .i64 a1] [] [] (fun v H' => v = .int .i64 r ∧ H' = [] ∧ IntKind.i64.has r) := by
 refine A.Ct.enter Tryd.func133 rfl Tryd.ntmps133 rfl fun w0 F0 => ?_
 rw [F.R05_width] at hF
 refine A.xl 1 ?_
 refine A.q0 [] [] [.n] [] ?_
 refine A.dl 2 ?_
 obtain ⟨hc1, hF⟩ := A.gd_some hF
 refine A.q [] [] [.n, .n, .n, .n, .n] [Z.R64 ((a0.size : Int) - a1)] [(5, .int .i64 ((a0.size : Int) - a1))] hc1 ?_
 refine A.dl 2 ?_
 refine A.q0 [] [] [.n, .n] [(12, .string a0), (13, .int .i64 a1)] ?_
 obtain ⟨x2, hv3, hF⟩ := A.bd_some hF
 refine A.AL.ixt hv3 ?_
 refine A.q0 [] [] [.n] [(6, .int .u8 (x2.toNat : Int))] ?_
 refine A.dl 2 ?_
 refine A.q0 [] [] [.n] [(7, .int .u8 0)] ?_
 refine A.dx 1 ?_
 refine A.AX.join [0, 1, 5, 6] [] (fun nl nh => ∃ (y4 : UInt8), nl = [(7, .int .u8 (y4.toNat : Int))] ∧ nh = [] ∧ F.R05_width_j4 a0 a1 x2 y4 = some r) ?_ ?_
 ·refine A.xl 1 ?_
  refine A.q0 [] [] [.n, .n] [(16, .bool (decide ((1 : Int) < (a0.size : Int) - a1)))] ?_
  refine A.dx 1 ?_
  refine A.AX.cnd rfl hF (fun hb hF => ?_) (fun hb hF => ?_)
  ·refine A.xl 0 ?_
   obtain ⟨hc29, hF⟩ := A.gd_some hF
   refine A.q [] [] [.n, .n, .n] [Z.R64 (a1 + 1)] [(17, .string a0), (19, .int .i64 (a1 + 1))] hc29 ?_
   obtain ⟨x30, hv31, hF⟩ := A.bd_some hF
   refine A.AL.ixt hv31 ?_
   refine A.q0 [] [] [.n] [(7, .int .u8 (x30.toNat : Int))] ?_
   refine A.AL.done ?_
   exact A.j ⟨x30, rfl, rfl, hF⟩
  refine A.xe 1 ?_
  exact A.j ⟨(0 : UInt8), rfl, rfl, hF⟩
 rintro _ _ ⟨y4, rfl, rfl, hF⟩
 rw [F.R05_width_j4] at hF
 refine A.xl 2 ?_
 refine A.q0 [] [] [.n, .n, .n] [(21, .bool (decide ((x2.toNat : Int) < 128)))] ?_
 refine A.dx 1 ?_
 refine A.AX.cnd rfl hF (fun hb hF => ?_) (fun hb hF => ?_)
 ·refine A.xl 1 ?_
  refine A.q0 [] [] [.n] [(4, .int .i64 1)] ?_
  refine A.dx 1 ?_
  obtain rfl := Option.some.inj hF
  exact A.rt1 [] ⟨rfl, rfl, (A.hasl .i64 (1) rfl)⟩
 refine A.AX.join [0, 1, 5, 6, 7] [] (fun nl nh => ∃ (y5 : Bool), nl = [(24, .bool y5)] ∧ nh = [] ∧ F.R05_width_j3 a0 a1 x2 y4 y5 = some r) ?_ ?_
 ·refine A.xl 0 ?_
  refine A.q0 [] [] [.n, .n, .n, .sy .n, .sy .n, .pk, .n, .sy .n, .sy .n, .pk, .n] [(35, .bool (bif bif decide ((194 : Int) ≤ (x2.toNat : Int)) then decide ((x2.toNat : Int) ≤ 223) else false then decide ((2 : Int) ≤ (a0.size : Int) - a1) else false))] ?_
  refine A.AL.cnd (j := 35) rfl hF (fun hF => ?_) (fun hF => ?_)
  ·refine A.q0 [] [] [.on .n] [(36, .int .u8 (y4.toNat : Int))] ?_
   refine A.AL.on (dj := 35) rfl rfl ?_
   obtain ⟨r27, hv28, hF⟩ := A.bd_some hF
   refine A.AL.call 0 [] (first := []) (cap := []) cf134 (R05_tail_ok y4 r27 hv28) .nil ?_
   rintro _ _ ⟨rfl, rfl⟩
   refine ⟨by kernel_rfl, ?_⟩
   refine A.q0 [] [] [.n, .n] [(24, .bool r27)] ?_
   refine A.AL.done ?_
   exact A.j ⟨r27, rfl, rfl, hF⟩
  refine A.q0 [] [] [.off, .off, .n, .n] [(24, .bool false)] ?_
  refine A.AL.done ?_
  exact A.j ⟨false, rfl, rfl, hF⟩
 rintro _ _ ⟨y5, rfl, rfl, hF⟩
 rw [F.R05_width_j3] at hF
 refine A.AX.cnb rfl hF (fun hb hF => ?_) (fun hb hF => ?_)
 ·refine A.xl 1 ?_
  refine A.q0 [] [] [.n] [(4, .int .i64 2)] ?_
  refine A.dx 1 ?_
  obtain rfl := Option.some.inj hF
  exact A.rt1 [] ⟨rfl, rfl, (A.hasl .i64 (2) rfl)⟩
 refine A.AX.join [0, 1, 5, 6, 7] [] (fun nl nh => ∃ (y6 : Bool), nl = [(39, .bool y6)] ∧ nh = [] ∧ F.R05_width_j2 a0 a1 x2 y4 y6 = some r) ?_ ?_
 ·refine A.xl 0 ?_
  refine A.q0 [] [] [.n, .n, .n, .sy .n, .sy .n, .pk, .n, .sy .n, .sy .n, .pk, .n] [(50, .bool (bif bif decide ((224 : Int) ≤ (x2.toNat : Int)) then decide ((x2.toNat : Int) ≤ 239) else false then decide ((3 : Int) ≤ (a0.size : Int) - a1) else false))] ?_
  refine A.AL.cnd (j := 50) rfl hF (fun hF => ?_) (fun hF => ?_)
  ·refine A.q0 [] [] [.on .n] [(51, .int .u8 (y4.toNat : Int))] ?_
   refine A.AL.on (dj := 50) rfl rfl ?_
   obtain ⟨r20, hv21, hF⟩ := A.bd_some hF
   refine A.AL.call 40 [] (first := []) (cap := []) cf134 (R05_tail_ok y4 r20 hv21) .nil ?_
   rintro _ _ ⟨rfl, rfl⟩
   refine ⟨by kernel_rfl, ?_⟩
   refine A.q0 [] [] [.n, .n] [(54, .bool r20)] ?_
   refine A.AL.cnd (j := 54) rfl hF (fun hF => ?_) (fun hF => ?_)
   ·obtain ⟨hc22, hF⟩ := A.gd_some hF
    refine A.q [] [] [.on .n, .on .n, .on .n] [Z.R64 (a1 + 2)] [(55, .string a0), (57, .int .i64 (a1 + 2))] hc22 ?_
    refine A.AL.on (dj := 54) rfl rfl ?_
    obtain ⟨x23, hv24, hF⟩ := A.bd_some hF
    refine A.AL.ixt hv24 ?_
    refine A.AL.on (dj := 54) rfl rfl ?_
    obtain ⟨r25, hv26, hF⟩ := A.bd_some hF
    refine A.AL.call 80 [] (first := []) (cap := []) cf134 (R05_tail_ok x23 r25 hv26) .nil ?_
    rintro _ _ ⟨rfl, rfl⟩
    refine ⟨by kernel_rfl, ?_⟩
    refine A.q0 [] [] [.n, .n] [(39, .bool r25)] ?_
    refine A.AL.done ?_
    exact A.j ⟨r25, rfl, rfl, hF⟩
   refine A.q0 [] [] [.off, .off, .off, .off, .off, .n, .n] [(39, .bool false)] ?_
   refine A.AL.done ?_
   exact A.j ⟨false, rfl, rfl, hF⟩
  refine A.q0 [] [] [.off, .off, .n, .n, .off, .off, .off, .off, .off, .n, .n] [(39, .bool false)] ?_
  refine A.AL.done ?_
  exact A.j ⟨false, rfl, rfl, hF⟩
 rintro _ _ ⟨y6, rfl, rfl, hF⟩
 rw [F.R05_width_j2] at hF
 refine A.AX.cnb rfl hF (fun hb hF => ?_) (fun hb hF => ?_)
 ·refine A.xl 2 ?_
  refine A.q0 [] [] [.n, .n, .n, .sy .n, .sy .n, .pk, .n] [(67, .bool (bif decide ((x2.toNat : Int) = 224) then decide ((y4.toNat : Int) < 160) else false))] ?_
  refine A.AL.cnd (j := 67) rfl hF (fun hF => ?_) (fun hF => ?_)
  ·refine A.q0 [] [] [.off, .off, .off, .off, .off, .off, .n] [(74, .bool true)] ?_
   refine A.dx 1 ?_
   refine A.AX.cnt rfl ?_
   refine A.xl 1 ?_
   refine A.q0 [] [] [.n] [(4, .int .i64 0)] ?_
   refine A.dx 1 ?_
   obtain rfl := Option.some.inj hF
   exact A.rt1 [] ⟨rfl, rfl, (A.hasl .i64 (0) rfl)⟩
  refine A.q0 [] [] [.on .n, .on .n, .on .n, .sy .n, .sy .n, .on .pk, .n] [(74, .bool (bif decide ((x2.toNat : Int) = 237) then decide ((159 : Int) < (y4.toNat : Int)) else false))] ?_
  refine A.dx 1 ?_
  refine A.AX.cnb rfl hF (fun hb hF => ?_) (fun hb hF => ?_)
  ·refine A.xl 1 ?_
   refine A.q0 [] [] [.n] [(4, .int .i64 0)] ?_
   refine A.dx 1 ?_
   obtain rfl := Option.some.inj hF
   exact A.rt1 [] ⟨rfl, rfl, (A.hasl .i64 (0) rfl)⟩
  refine A.xl 3 ?_
  refine A.q0 [] [] [.n] [(4, .int .i64 3)] ?_
  refine A.dx 1 ?_
  obtain rfl := Option.some.inj hF
  exact A.rt1 [] ⟨rfl, rfl, (A.hasl .i64 (3) rfl)⟩
 refine A.AX.join [6, 7] [] (fun nl nh => ∃ (y7 : Bool), nl = [(75, .bool y7)] ∧ nh = [] ∧ F.R05_width_j1 x2 y4 y7 = some r) ?_ ?_
 ·refine A.xl 0 ?_
  refine A.q0 [] [] [.n, .n, .n, .sy .n, .sy .n, .pk, .n, .sy .n, .sy .n, .pk, .n] [(86, .bool (bif bif decide ((240 : Int) ≤ (x2.toNat : Int)) then decide ((x2.toNat : Int) ≤ 244) else false then decide ((4 : Int) ≤ (a0.size : Int) - a1) else false))] ?_
  refine A.AL.cnd (j := 86) rfl hF (fun hF => ?_) (fun hF => ?_)
  ·refine A.q0 [] [] [.on .n] [(87, .int .u8 (y4.toNat : Int))] ?_
   refine A.AL.on (dj := 86) rfl rfl ?_
   obtain ⟨r8, hv9, hF⟩ := A.bd_some hF
   refine A.AL.call 120 [] (first := []) (cap := []) cf134 (R05_tail_ok y4 r8 hv9) .nil ?_
   rintro _ _ ⟨rfl, rfl⟩
   refine ⟨by kernel_rfl, ?_⟩
   refine A.q0 [] [] [.n, .n] [(90, .bool r8)] ?_
   refine A.AL.cnd (j := 90) rfl hF (fun hF => ?_) (fun hF => ?_)
   ·obtain ⟨hc10, hF⟩ := A.gd_some hF
    refine A.q [] [] [.on .n, .on .n, .on .n] [Z.R64 (a1 + 2)] [(91, .string a0), (93, .int .i64 (a1 + 2))] hc10 ?_
    refine A.AL.on (dj := 90) rfl rfl ?_
    obtain ⟨x11, hv12, hF⟩ := A.bd_some hF
    refine A.AL.ixt hv12 ?_
    refine A.AL.on (dj := 90) rfl rfl ?_
    obtain ⟨r13, hv14, hF⟩ := A.bd_some hF
    refine A.AL.call 160 [] (first := []) (cap := []) cf134 (R05_tail_ok x11 r13 hv14) .nil ?_
    rintro _ _ ⟨rfl, rfl⟩
    refine ⟨by kernel_rfl, ?_⟩
    refine A.q0 [] [] [.n, .n] [(97, .bool r13)] ?_
    refine A.AL.cnd (j := 97) rfl hF (fun hF => ?_) (fun hF => ?_)
    ·obtain ⟨hc15, hF⟩ := A.gd_some hF
     refine A.q [] [] [.on .n, .on .n, .on .n] [Z.R64 (a1 + 3)] [(98, .string a0), (100, .int .i64 (a1 + 3))] hc15 ?_
     refine A.AL.on (dj := 97) rfl rfl ?_
     obtain ⟨x16, hv17, hF⟩ := A.bd_some hF
     refine A.AL.ixt hv17 ?_
     refine A.AL.on (dj := 97) rfl rfl ?_
     obtain ⟨r18, hv19, hF⟩ := A.bd_some hF
     refine A.AL.call 200 [] (first := []) (cap := []) cf134 (R05_tail_ok x16 r18 hv19) .nil ?_
     rintro _ _ ⟨rfl, rfl⟩
     refine ⟨by kernel_rfl, ?_⟩
     refine A.q0 [] [] [.n, .n] [(75, .bool r18)] ?_
     refine A.AL.done ?_
     exact A.j ⟨r18, rfl, rfl, hF⟩
    refine A.q0 [] [] [.off, .off, .off, .off, .off, .n, .n] [(75, .bool false)] ?_
    refine A.AL.done ?_
    exact A.j ⟨false, rfl, rfl, hF⟩
   refine A.q0 [] [] [.off, .off, .off, .off, .off, .n, .n, .off, .off, .off, .off, .off, .n, .n] [(75, .bool false)] ?_
   refine A.AL.done ?_
   exact A.j ⟨false, rfl, rfl, hF⟩
  refine A.q0 [] [] [.off, .off, .n, .n, .off, .off, .off, .off, .off, .n, .n, .off, .off, .off, .off, .off, .n, .n] [(75, .bool false)] ?_
  refine A.AL.done ?_
  exact A.j ⟨false, rfl, rfl, hF⟩
 rintro _ _ ⟨y7, rfl, rfl, hF⟩
 rw [F.R05_width_j1] at hF
 refine A.AX.cnb rfl hF (fun hb hF => ?_) (fun hb hF => ?_)
 ·refine A.xl 2 ?_
  refine A.q0 [] [] [.n, .n, .n, .sy .n, .sy .n, .pk, .n] [(110, .bool (bif decide ((x2.toNat : Int) = 240) then decide ((y4.toNat : Int) < 144) else false))] ?_
  refine A.AL.cnd (j := 110) rfl hF (fun hF => ?_) (fun hF => ?_)
  ·refine A.q0 [] [] [.off, .off, .off, .off, .off, .off, .n] [(117, .bool true)] ?_
   refine A.dx 1 ?_
   refine A.AX.cnt rfl ?_
   refine A.xl 1 ?_
   refine A.q0 [] [] [.n] [(4, .int .i64 0)] ?_
   refine A.dx 1 ?_
   obtain rfl := Option.some.inj hF
   exact A.rt1 [] ⟨rfl, rfl, (A.hasl .i64 (0) rfl)⟩
  refine A.q0 [] [] [.on .n, .on .n, .on .n, .sy .n, .sy .n, .on .pk, .n] [(117, .bool (bif decide ((x2.toNat : Int) = 244) then decide ((143 : Int) < (y4.toNat : Int)) else false))] ?_
  refine A.dx 1 ?_
  refine A.AX.cnb rfl hF (fun hb hF => ?_) (fun hb hF => ?_)
  ·refine A.xl 1 ?_
   refine A.q0 [] [] [.n] [(4, .int .i64 0)] ?_
   refine A.dx 1 ?_
   obtain rfl := Option.some.inj hF
   exact A.rt1 [] ⟨rfl, rfl, (A.hasl .i64 (0) rfl)⟩
  refine A.xl 3 ?_
  refine A.q0 [] [] [.n] [(4, .int .i64 4)] ?_
  refine A.dx 1 ?_
  obtain rfl := Option.some.inj hF
  exact A.rt1 [] ⟨rfl, rfl, (A.hasl .i64 (4) rfl)⟩
 refine A.xl 1 ?_
 refine A.q0 [] [] [.n] [(4, .int .i64 0)] ?_
 refine A.dx 1 ?_
 obtain rfl := Option.some.inj hF
 exact A.rt1 [] ⟨rfl, rfl, (A.hasl .i64 (0) rfl)⟩

def F.R05_Valid_l1 (a0 : ByteArray) : Nat → Int → Option Bool
  | 0, _ => none
  | f + 1, y1 => if y1 < (a0.size : Int) then ((F.R05_width a0 y1).bind fun r4 => (if r4 = 0 then (some false) else (A.gd (Z.R64 (y1 + r4)) ((F.R05_Valid_l1 a0 f) (y1 + r4))))) else (some true)
def F.R05_Valid (a0 : ByteArray) : Option Bool := F.R05_Valid_l1 a0 A.FU 0
theorem R05_Valid_ok (a0 : ByteArray) (h0_ : a0.size ≤ maxLen) (r : Bool) (hF : F.R05_Valid a0 = some r) :
    A.Ct Tryd.prog 130 [.string a0] [] [] (fun v H' => v = .bool r ∧ H' = []) := by
 refine A.Ct.enter Tryd.func130 rfl Tryd.ntmps130 rfl fun w0 F0 => ?_
 rw [F.R05_Valid] at hF
 refine A.xl 1 ?_
 refine A.q0 [] [] [.n] [] ?_
 refine A.dl 3 ?_
 refine A.q0 [] [] [.n] [(3, .int .i64 0)] ?_
 refine A.dx 2 ?_
 refine A.lp_ [0] [] (fun f nl nh => ∃ (y1 : Int), nl = [(3, .int .i64 y1)] ∧ nh = [] ∧ IntKind.i64.has y1 ∧ F.R05_Valid_l1 a0 f y1 = some r) ⟨0, rfl, rfl, (A.hasl .i64 (0) rfl), hF⟩ ?_
 rintro f3 _ _ ⟨y1, rfl, rfl, hy2, hF⟩
 rcases f3 with _ | f3
 ·exact A.no0 hF
 rw [F.R05_Valid_l1] at hF
 refine A.xl 2 ?_
 refine A.q0 [] [] [.n, .n, .n, .n] [(8, .bool (decide (y1 < (a0.size : Int))))] ?_
 refine A.dx 1 ?_
 refine A.AX.cnd rfl hF (fun hb hF => ?_) (fun hb hF => ?_)
 ·refine A.xl 4 ?_
  refine A.q0 [] [] [.n, .n] [(9, .string a0), (10, .int .i64 y1)] ?_
  obtain ⟨r4, hv5, hF⟩ := A.bd_some hF
  refine A.AL.call 80 [] (first := []) (cap := []) cf133 (R05_width_ok a0 y1 h0_ hy2 r4 hv5) .nil ?_
  rintro _ _ ⟨rfl, rfl, hr6⟩
  refine ⟨by kernel_rfl, ?_⟩
  refine A.q0 [] [] [.n] [(4, .int .i64 r4)] ?_
  refine A.dl 3 ?_
  refine A.q0 [] [] [.n, .n] [(13, .bool (decide (r4 = 0)))] ?_
  refine A.dx 1 ?_
  refine A.AX.cnd rfl hF (fun hb hF => ?_) (fun hb hF => ?_)
  ·refine A.xl 1 ?_
   refine A.q0 [] [] [.n] [(2, .bool false)] ?_
   refine A.dx 1 ?_
   obtain rfl := Option.some.inj hF
   exact A.rt1 [] ⟨rfl, rfl⟩
  refine A.xl 2 ?_
  obtain ⟨hc7, hF⟩ := A.gd_some hF
  refine A.q [] [] [.n, .n, .n, .n] [Z.R64 (y1 + r4)] [(3, .int .i64 (y1 + r4))] hc7 ?_
  refine A.de 1 ?_
  exact A.j ⟨_, Nat.lt_succ_self _, ⟨(y1 + r4), rfl, rfl, (Z.i64_has hc7), hF⟩⟩
 refine A.xl 3 ?_
 refine A.q0 [] [] [.n] [(2, .bool true)] ?_
 refine A.dx 1 ?_
 obtain rfl := Option.some.inj hF
 exact A.rt1 [] ⟨rfl, rfl⟩

def F.R05_Runes_j1 (k1 : (List D165) → Int → Option (List D165)) (xs3 : List D165) (y4 : Int) (y10 : Int) (y12 : Int) : Option (List D165) := A.gd ((List.length (α := D165) xs3 + List.length (α := D165) [(y4, y12)]) * 16 ≤ 140737488355328) (A.gd (Z.R64 (y4 + y10)) (k1 (xs3 ++ [(y4, y12)]) (y4 + y10)))
def F.R05_Runes_l2 (a0 : ByteArray) : Nat → (List D165) → Int → Option (List D165)
  | 0, _, _ => none
  | f + 1, xs3, y4 => if y4 < (a0.size : Int) then ((F.R05_width a0 y4).bind fun r7 => (if r7 = 1 then ((A.ix a0.data.toList y4).bind fun x19 => (F.R05_Runes_j1 (F.R05_Runes_l2 a0 f) xs3 y4 r7 (IntKind.i32.wrap ((x19.toNat : Int))))) else (if r7 = 2 then (A.gd (Z.R64 (y4 + 1)) ((A.ix a0.data.toList y4).bind fun x22 => (A.gd ((32 : Int) ≠ 0) ((A.ix a0.data.toList (y4 + 1)).bind fun x25 => (A.gd ((64 : Int) ≠ 0) (F.R05_Runes_j1 (F.R05_Runes_l2 a0 f) xs3 y4 r7 (IntKind.i32.wrap ((IntKind.i32.wrap ((IntKind.i32.wrap (Int.tmod (x22.toNat : Int) 32)) * 64)) + (IntKind.i32.wrap (Int.tmod (x25.toNat : Int) 64)))))))))) else (if r7 = 3 then (A.gd (Z.R64 (y4 + 1) ∧ Z.R64 (y4 + 2)) ((A.ix a0.data.toList y4).bind fun x29 => (A.gd ((16 : Int) ≠ 0) ((A.ix a0.data.toList (y4 + 1)).bind fun x32 => (A.gd ((64 : Int) ≠ 0) ((A.ix a0.data.toList (y4 + 2)).bind fun x35 => (A.gd ((64 : Int) ≠ 0) (F.R05_Runes_j1 (F.R05_Runes_l2 a0 f) xs3 y4 r7 (IntKind.i32.wrap ((IntKind.i32.wrap ((IntKind.i32.wrap ((IntKind.i32.wrap ((IntKind.i32.wrap (Int.tmod (x29.toNat : Int) 16)) * 64)) + (IntKind.i32.wrap (Int.tmod (x32.toNat : Int) 64)))) * 64)) + (IntKind.i32.wrap (Int.tmod (x35.toNat : Int) 64)))))))))))) else (if r7 = 4 then (A.gd (Z.R64 (y4 + 1) ∧ Z.R64 (y4 + 2) ∧ Z.R64 (y4 + 3)) ((A.ix a0.data.toList y4).bind fun x39 => (A.gd ((8 : Int) ≠ 0) ((A.ix a0.data.toList (y4 + 1)).bind fun x42 => (A.gd ((64 : Int) ≠ 0) ((A.ix a0.data.toList (y4 + 2)).bind fun x45 => (A.gd ((64 : Int) ≠ 0) ((A.ix a0.data.toList (y4 + 3)).bind fun x48 => (A.gd ((64 : Int) ≠ 0) (F.R05_Runes_j1 (F.R05_Runes_l2 a0 f) xs3 y4 r7 (IntKind.i32.wrap ((IntKind.i32.wrap ((IntKind.i32.wrap ((IntKind.i32.wrap ((IntKind.i32.wrap ((IntKind.i32.wrap ((IntKind.i32.wrap (Int.tmod (x39.toNat : Int) 8)) * 64)) + (IntKind.i32.wrap (Int.tmod (x42.toNat : Int) 64)))) * 64)) + (IntKind.i32.wrap (Int.tmod (x45.toNat : Int) 64)))) * 64)) + (IntKind.i32.wrap (Int.tmod (x48.toNat : Int) 64)))))))))))))) else (F.R05_Runes_j1 (F.R05_Runes_l2 a0 f) xs3 y4 1 65533)))))) else (some xs3)
def F.R05_Runes (a0 : ByteArray) : Option (List D165) := F.R05_Runes_l2 a0 A.FU [] 0
theorem R05_Runes_ok (a0 : ByteArray) (h0_ : a0.size ≤ maxLen) (r : (List D165)) (hF : F.R05_Runes a0 = some r) :
    A.Ct Tryd.prog 131 [.string a0] [] [] (fun v H' => ∃ (A0' : Option Addr) (c1' : Nat), v = .slice A0' ((r).length) c1' ∧ H' = [(0, .own T165 166 A0' c1' r)]) := by
 refine A.Ct.enter Tryd.func131 rfl Tryd.ntmps131 rfl fun w0 F0 => ?_
 rw [F.R05_Runes] at hF
 refine A.xl 1 ?_
 refine A.q0 [] [] [.n] [] ?_
 refine A.dl 2 ?_
 refine A.q0 [] [] [.n] [(3, .slice none 0 0)] ?_
 refine A.dl 3 ?_
 refine A.q0 [] [] [.n] [(4, .int .i64 0)] ?_
 refine A.dx 2 ?_
 refine A.nil 43 T165 166 ?_
 refine A.lp_ [0] [] (fun f nl nh => ∃ (xs3 : List D165), ∃ (y4 : Int), ∃ (A1 : Option Addr), ∃ (c2 : Nat), nl = [(3, .slice A1 ((xs3).length) c2), (4, .int .i64 y4)] ∧ nh = [(43, .own T165 166 A1 c2 xs3)] ∧ IntKind.i64.has y4 ∧ F.R05_Runes_l2 a0 f xs3 y4 = some r) ⟨[], 0, none, 0, rfl, rfl, (A.hasl .i64 (0) rfl), hF⟩ ?_
 rintro f6 _ _ ⟨xs3, y4, A1, c2, rfl, rfl, hy5, hF⟩
 rcases f6 with _ | f6
 ·exact A.no0 hF
 rw [F.R05_Runes_l2] at hF
 refine A.xl 2 ?_
 refine A.q0 [] [] [.n, .n, .n, .n] [(10, .bool (decide (y4 < (a0.size : Int))))] ?_
 refine A.dx 1 ?_
 refine A.AX.cnd rfl hF (fun hb hF => ?_) (fun hb hF => ?_)
 ·refine A.xl 4 ?_
  refine A.q0 [] [] [.n, .n] [(11, .string a0), (12, .int .i64 y4)] ?_
  obtain ⟨r7, hv8, hF⟩ := A.bd_some hF
  refine A.AL.call 126 [] (first := []) (cap := []) cf133 (R05_width_ok a0 y4 h0_ hy5 r7 hv8) .nil ?_
  rintro _ _ ⟨rfl, rfl, hr9⟩
  refine ⟨by kernel_rfl, ?_⟩
  refine A.q0 [] [] [.n] [(5, .int .i64 r7)] ?_
  refine A.dl 2 ?_
  refine A.q0 [] [] [.n] [(6, .int .i32 65533)] ?_
  refine A.dx 1 ?_
  refine A.AX.join [0, 3, 4] [43] (fun nl nh => ∃ (y10 : Int), ∃ (y12 : Int), nl = [(5, .int .i64 y10), (6, .int .i32 y12)] ∧ nh = [] ∧ IntKind.i64.has y10 ∧ IntKind.i32.has y12 ∧ F.R05_Runes_j1 (F.R05_Runes_l2 a0 f6) xs3 y4 y10 y12 = some r) ?_ ?_
  ·refine A.xl 1 ?_
   refine A.q0 [] [] [.n] [(14, .int .i64 r7)] ?_
   refine A.dl 3 ?_
   refine A.q0 [] [] [.n, .n] [(15, .bool (decide (r7 = 1)))] ?_
   refine A.dx 1 ?_
   refine A.AX.cnd rfl hF (fun hb hF => ?_) (fun hb hF => ?_)
   ·refine A.xl 0 ?_
    refine A.q0 [] [] [.n, .n] [(17, .string a0), (18, .int .i64 y4)] ?_
    obtain ⟨x19, hv20, hF⟩ := A.bd_some hF
    refine A.AL.ixt hv20 ?_
    refine A.q0 [] [] [.n, .n] [(6, .int .i32 (IntKind.i32.wrap ((x19.toNat : Int))))] ?_
    refine A.de 1 ?_
    exact A.j ⟨r7, (IntKind.i32.wrap ((x19.toNat : Int))), rfl, rfl, hr9, (A.wrap_has _ _), hF⟩
   refine A.xl 1 ?_
   refine A.q0 [] [] [.n, .n] [(21, .bool (decide (r7 = 2)))] ?_
   refine A.dx 1 ?_
   refine A.AX.cnd rfl hF (fun hb hF => ?_) (fun hb hF => ?_)
   ·refine A.AX.dr mixed 14 14 (A.mb 14 0) ?_
    obtain ⟨hc21, hF⟩ := A.gd_some hF
    refine A.AH.q A.pb [] [43] [] [] (A.mb 14 451) 9 [(0, .n), (1, .n), (6, .n), (7, .n), (8, .n)] [23, 24, 29, 31] [Z.R64 (y4 + 1)] [(23, .string a0), (24, .int .i64 y4), (29, .string a0), (31, .int .i64 (y4 + 1))] hc21 ?_
    obtain ⟨x22, hv23, hF⟩ := A.bd_some hF
    refine A.AH.v A.pb [43] [43] 2 (A.mb 14 455) rfl (fun a w hf hh => A.r_ixt hv23 hf) ?_
    obtain ⟨hc24, hF⟩ := A.gd_some hF
    refine A.AH.q A.pb [43] [43] [] [] (A.mb 14 511) 5 [(3, .n), (4, .n), (5, .n)] [28] [(32 : Int) ≠ 0] [(28, .int .i32 (IntKind.i32.wrap ((IntKind.i32.wrap (Int.tmod (x22.toNat : Int) 32)) * 64)))] hc24 ?_
    obtain ⟨x25, hv26, hF⟩ := A.bd_some hF
    refine A.AH.v A.pb [43] [43] 9 (A.mb 14 1023) rfl (fun a w hf hh => A.r_ixt hv26 hf) ?_
    obtain ⟨hc27, hF⟩ := A.gd_some hF
    refine A.AH.q A.pb [43] [43] [] [] (A.mb 14 16383) 0 [(10, .n), (11, .n), (12, .n), (13, .n)] [6] [(64 : Int) ≠ 0] [(6, .int .i32 (IntKind.i32.wrap ((IntKind.i32.wrap ((IntKind.i32.wrap (Int.tmod (x22.toNat : Int) 32)) * 64)) + (IntKind.i32.wrap (Int.tmod (x25.toNat : Int) 64)))))] hc27 ?_
    refine A.AH.done ?_
    refine A.ee 1 ?_
    exact A.j ⟨r7, (IntKind.i32.wrap ((IntKind.i32.wrap ((IntKind.i32.wrap (Int.tmod (x22.toNat : Int) 32)) * 64)) + (IntKind.i32.wrap (Int.tmod (x25.toNat : Int) 64)))), rfl, rfl, hr9, (A.wrap_has _ _), hF⟩
   refine A.xl 1 ?_
   refine A.q0 [] [] [.n, .n] [(36, .bool (decide (r7 = 3)))] ?_
   refine A.dx 1 ?_
   refine A.AX.cnd rfl hF (fun hb hF => ?_) (fun hb hF => ?_)
   ·refine A.AX.dr mixed 22 22 (A.mb 22 0) ?_
    obtain ⟨hc28, hF⟩ := A.gd_some hF
    refine A.AH.q A.pb [] [43] [] [] (A.mb 22 115139) 14 [(0, .n), (1, .n), (6, .n), (7, .n), (14, .n), (15, .n), (8, .n), (16, .n)] [38, 39, 44, 52, 46, 54] [Z.R64 (y4 + 1), Z.R64 (y4 + 2)] [(38, .string a0), (39, .int .i64 y4), (44, .string a0), (52, .string a0), (46, .int .i64 (y4 + 1)), (54, .int .i64 (y4 + 2))] hc28 ?_
    obtain ⟨x29, hv30, hF⟩ := A.bd_some hF
    refine A.AH.v A.pb [43] [43] 2 (A.mb 22 115143) rfl (fun a w hf hh => A.r_ixt hv30 hf) ?_
    obtain ⟨hc31, hF⟩ := A.gd_some hF
    refine A.AH.q A.pb [43] [43] [] [] (A.mb 22 115199) 10 [(3, .n), (4, .n), (5, .n)] [43] [(16 : Int) ≠ 0] [(43, .int .i32 (IntKind.i32.wrap ((IntKind.i32.wrap (Int.tmod (x29.toNat : Int) 16)) * 64)))] hc31 ?_
    obtain ⟨x32, hv33, hF⟩ := A.bd_some hF
    refine A.AH.v A.pb [43] [43] 9 (A.mb 22 115711) rfl (fun a w hf hh => A.r_ixt hv33 hf) ?_
    obtain ⟨hc34, hF⟩ := A.gd_some hF
    refine A.AH.q A.pb [43] [43] [] [] (A.mb 22 131071) 5 [(10, .n), (11, .n), (12, .n), (13, .n)] [51] [(64 : Int) ≠ 0] [(51, .int .i32 (IntKind.i32.wrap ((IntKind.i32.wrap ((IntKind.i32.wrap ((IntKind.i32.wrap (Int.tmod (x29.toNat : Int) 16)) * 64)) + (IntKind.i32.wrap (Int.tmod (x32.toNat : Int) 64)))) * 64)))] hc34 ?_
    obtain ⟨x35, hv36, hF⟩ := A.bd_some hF
    refine A.AH.v A.pb [43] [43] 17 (A.mb 22 262143) rfl (fun a w hf hh => A.r_ixt hv36 hf) ?_
    obtain ⟨hc37, hF⟩ := A.gd_some hF
    refine A.AH.q A.pb [43] [43] [] [] (A.mb 22 4194303) 0 [(18, .n), (19, .n), (20, .n), (21, .n)] [6] [(64 : Int) ≠ 0] [(6, .int .i32 (IntKind.i32.wrap ((IntKind.i32.wrap ((IntKind.i32.wrap ((IntKind.i32.wrap ((IntKind.i32.wrap (Int.tmod (x29.toNat : Int) 16)) * 64)) + (IntKind.i32.wrap (Int.tmod (x32.toNat : Int) 64)))) * 64)) + (IntKind.i32.wrap (Int.tmod (x35.toNat : Int) 64)))))] hc37 ?_
    refine A.AH.done ?_
    refine A.ee 1 ?_
    exact A.j ⟨r7, (IntKind.i32.wrap ((IntKind.i32.wrap ((IntKind.i32.wrap ((IntKind.i32.wrap ((IntKind.i32.wrap (Int.tmod (x29.toNat : Int) 16)) * 64)) + (IntKind.i32.wrap (Int.tmod (x32.toNat : Int) 64)))) * 64)) + (IntKind.i32.wrap (Int.tmod (x35.toNat : Int) 64)))), rfl, rfl, hr9, (A.wrap_has _ _), hF⟩
   refine A.xl 1 ?_
   refine A.q0 [] [] [.n, .n] [(59, .bool (decide (r7 = 4)))] ?_
   refine A.dx 1 ?_
   refine A.AX.cnd rfl hF (fun hb hF => ?_) (fun hb hF => ?_)
   ·refine A.AX.dr mixed 30 30 (A.mb 30 0) ?_
    obtain ⟨hc38, hF⟩ := A.gd_some hF
    refine A.AH.q A.pb [] [43] [] [] (A.mb 30 29475267) 19 [(0, .n), (1, .n), (6, .n), (7, .n), (14, .n), (15, .n), (22, .n), (23, .n), (8, .n), (16, .n), (24, .n)] [61, 62, 67, 75, 83, 69, 77, 85] [Z.R64 (y4 + 1), Z.R64 (y4 + 2), Z.R64 (y4 + 3)] [(61, .string a0), (62, .int .i64 y4), (67, .string a0), (75, .string a0), (83, .string a0), (69, .int .i64 (y4 + 1)), (77, .int .i64 (y4 + 2)), (85, .int .i64 (y4 + 3))] hc38 ?_
    obtain ⟨x39, hv40, hF⟩ := A.bd_some hF
    refine A.AH.v A.pb [43] [43] 2 (A.mb 30 29475271) rfl (fun a w hf hh => A.r_ixt hv40 hf) ?_
    obtain ⟨hc41, hF⟩ := A.gd_some hF
    refine A.AH.q A.pb [43] [43] [] [] (A.mb 30 29475327) 15 [(3, .n), (4, .n), (5, .n)] [66] [(8 : Int) ≠ 0] [(66, .int .i32 (IntKind.i32.wrap ((IntKind.i32.wrap (Int.tmod (x39.toNat : Int) 8)) * 64)))] hc41 ?_
    obtain ⟨x42, hv43, hF⟩ := A.bd_some hF
    refine A.AH.v A.pb [43] [43] 9 (A.mb 30 29475839) rfl (fun a w hf hh => A.r_ixt hv43 hf) ?_
    obtain ⟨hc44, hF⟩ := A.gd_some hF
    refine A.AH.q A.pb [43] [43] [] [] (A.mb 30 29491199) 10 [(10, .n), (11, .n), (12, .n), (13, .n)] [74] [(64 : Int) ≠ 0] [(74, .int .i32 (IntKind.i32.wrap ((IntKind.i32.wrap ((IntKind.i32.wrap ((IntKind.i32.wrap (Int.tmod (x39.toNat : Int) 8)) * 64)) + (IntKind.i32.wrap (Int.tmod (x42.toNat : Int) 64)))) * 64)))] hc44 ?_
    obtain ⟨x45, hv46, hF⟩ := A.bd_some hF
    refine A.AH.v A.pb [43] [43] 17 (A.mb 30 29622271) rfl (fun a w hf hh => A.r_ixt hv46 hf) ?_
    obtain ⟨hc47, hF⟩ := A.gd_some hF
    refine A.AH.q A.pb [43] [43] [] [] (A.mb 30 33554431) 5 [(18, .n), (19, .n), (20, .n), (21, .n)] [82] [(64 : Int) ≠ 0] [(82, .int .i32 (IntKind.i32.wrap ((IntKind.i32.wrap ((IntKind.i32.wrap ((IntKind.i32.wrap ((IntKind.i32.wrap ((IntKind.i32.wrap (Int.tmod (x39.toNat : Int) 8)) * 64)) + (IntKind.i32.wrap (Int.tmod (x42.toNat : Int) 64)))) * 64)) + (IntKind.i32.wrap (Int.tmod (x45.toNat : Int) 64)))) * 64)))] hc47 ?_
    obtain ⟨x48, hv49, hF⟩ := A.bd_some hF
    refine A.AH.v A.pb [43] [43] 25 (A.mb 30 67108863) rfl (fun a w hf hh => A.r_ixt hv49 hf) ?_
    obtain ⟨hc50, hF⟩ := A.gd_some hF
    refine A.AH.q A.pb [43] [43] [] [] (A.mb 30 1073741823) 0 [(26, .n), (27, .n), (28, .n), (29, .n)] [6] [(64 : Int) ≠ 0] [(6, .int .i32 (IntKind.i32.wrap ((IntKind.i32.wrap ((IntKind.i32.wrap ((IntKind.i32.wrap ((IntKind.i32.wrap ((IntKind.i32.wrap ((IntKind.i32.wrap (Int.tmod (x39.toNat : Int) 8)) * 64)) + (IntKind.i32.wrap (Int.tmod (x42.toNat : Int) 64)))) * 64)) + (IntKind.i32.wrap (Int.tmod (x45.toNat : Int) 64)))) * 64)) + (IntKind.i32.wrap (Int.tmod (x48.toNat : Int) 64)))))] hc50 ?_
    refine A.AH.done ?_
    refine A.ee 1 ?_
    exact A.j ⟨r7, (IntKind.i32.wrap ((IntKind.i32.wrap ((IntKind.i32.wrap ((IntKind.i32.wrap ((IntKind.i32.wrap ((IntKind.i32.wrap ((IntKind.i32.wrap (Int.tmod (x39.toNat : Int) 8)) * 64)) + (IntKind.i32.wrap (Int.tmod (x42.toNat : Int) 64)))) * 64)) + (IntKind.i32.wrap (Int.tmod (x45.toNat : Int) 64)))) * 64)) + (IntKind.i32.wrap (Int.tmod (x48.toNat : Int) 64)))), rfl, rfl, hr9, (A.wrap_has _ _), hF⟩
   refine A.xl 0 ?_
   refine A.q0 [] [] [.n] [(5, .int .i64 1)] ?_
   refine A.de 1 ?_
   exact A.j ⟨1, 65533, rfl, rfl, (A.hasl .i64 (1) rfl), (A.hasl .i32 (65533) rfl), hF⟩
  rintro _ _ ⟨y10, y12, rfl, rfl, hy11, hy13, hF⟩
  rw [F.R05_Runes_j1] at hF
  refine A.xl 1 ?_
  refine A.q0 [] [] [.n, .n, .n, .n] [(90, .slice A1 ((xs3).length) c2), (93, .agg #[.int .i64 y4, .int .i32 y12])] ?_
  refine A.AL.bsl 166 (ty := T165) (cs := [.int .i64 y4, .int .i32 y12]) [(y4, y12)] ⟨⟨⟨rfl, hy5⟩, ⟨rfl, hy13⟩⟩, rfl⟩ (fun g14 => ?_) Tryd.zeroValue166 Tryd.sizeOf166
  obtain ⟨hl17, hF⟩ := A.gd_some hF
  refine A.AL.app (k := 43) [] (A.rowO (k := 166) rfl) inf166 hl17 fun A15 c16 => ?_
  refine A.q0 [] [] [.n] [(3, .slice A15 ((xs3 ++ [(y4, y12)]).length) c16)] ?_
  refine A.dl 1 ?_
  obtain ⟨hc18, hF⟩ := A.gd_some hF
  refine A.q [] [] [.n, .n, .n, .n] [Z.R64 (y4 + y10)] [(4, .int .i64 (y4 + y10))] hc18 ?_
  refine A.de 1 ?_
  exact A.j ⟨_, Nat.lt_succ_self _, ⟨(xs3 ++ [(y4, y12)]), (y4 + y10), A15, c16, rfl, rfl, (Z.i64_has hc18), hF⟩⟩
 refine A.xl 3 ?_
 refine A.q0 [] [] [.n, .n] [(2, .slice A1 ((xs3).length) c2)] ?_
 refine A.dx 1 ?_
 obtain rfl := Option.some.inj hF
 exact A.rt1 [(0, 43)] ⟨A1, c2, rfl, rfl⟩
end Go.Proofs.YtleiipbkfaajfaaDoor
end

section
set_option linter.unusedVariables false
set_option linter.unusedSimpArgs false
set_option maxRecDepth 20000
set_option maxHeartbeats 8000000
set_option synthInstance.maxSize 1000000
set_option synthInstance.maxHeartbeats 400000
namespace Go.Proofs.YtleiipbkfaajfaaDoor
open Go.RowKit
def F.R06_text_j1 (y2 : Bool) : Option Bool := some y2
def F.R06_text_j2 (y6 : Bool) : Option Bool := some y6
def F.R06_text_j3 (a0 : D37) (y5 : Bool) : Option Bool := if y5 = true then (if (a0.2.2.size : Int) ≤ 4 then ((F.R05_Valid a0.2.2).bind fun r7 => (if r7 = true then ((F.R05_Runes a0.2.2).bind fun r9 => (F.R06_text_j2 (decide (((r9).length : Int) = 1)))) else (F.R06_text_j2 false))) else (F.R06_text_j2 false)) else (some (decide (a0.2.2 = (ByteArray.mk #[]))))
def F.R06_text (a0 : D37) : Option Bool := if a0.1 = 5 then (if (bif decide ((1 : Int) ≤ (a0.2.2.size : Int)) then decide ((a0.2.2.size : Int) ≤ 16) else false) = true then ((F.R05_Valid a0.2.2).bind fun r3 => (F.R06_text_j1 r3)) else (F.R06_text_j1 false)) else (if a0.1 = 12 then (F.R06_text_j3 a0 (decide (a0.1 = 12))) else (F.R06_text_j3 a0 (decide (a0.1 = 22))))
theorem R06_text_ok (a0 : D37) (h0_ : IntKind.i64.has a0.1) (h1_ : IntKind.i64.has a0.2.1) (h2_ : a0.2.2.size ≤ maxLen) (r : Bool) (hF : F.R06_text a0 = some r) :
    A.Ct Tryd.prog 124 [.agg #[.int .i64 a0.1, .int .i64 a0.2.1, .string a0.2.2]] [] [] (fun v H' => v = .bool r ∧ H' = []) := by
 refine A.Ct.enter Tryd.func124 rfl Tryd.ntmps124 rfl fun w0 F0 => ?_
 rw [F.R06_text] at hF
 refine A.xl 1 ?_
 refine A.AL.box 0 (cs := [.int .i64 a0.1, .int .i64 a0.2.1, .string a0.2.2]) fun g1 => ?_
 refine A.q0 [] [] [.n] [] ?_
 refine A.dl 2 ?_
 refine A.q0 [0] [] [.n, .b 0 0] [(4, .int .i64 a0.1)] ?_
 refine A.dl 3 ?_
 refine A.q0 [] [] [.n, .n] [(8, .bool (decide (a0.1 = 5)))] ?_
 refine A.dx 1 ?_
 refine A.AX.cnd rfl hF (fun hb hF => ?_) (fun hb hF => ?_)
 ·refine A.AX.join [] [] (fun nl nh => ∃ (y2 : Bool), nl = [(2, .bool y2)] ∧ nh = [] ∧ F.R06_text_j1 y2 = some r) ?_ ?_
  ·refine A.xl 0 ?_
   refine A.q0 [0] [] [.n, .b 0 2, .n, .n, .n, .sy .n, .sy (.b 0 2), .sy .n, .sy .n, .pk, .n] [(20, .bool (bif decide ((1 : Int) ≤ (a0.2.2.size : Int)) then decide ((a0.2.2.size : Int) ≤ 16) else false))] ?_
   refine A.AL.cnd (j := 20) rfl hF (fun hF => ?_) (fun hF => ?_)
   ·refine A.q0 [0] [] [.on .n, .on (.b 0 2)] [(22, .string a0.2.2)] ?_
    refine A.AL.on (dj := 20) rfl rfl ?_
    obtain ⟨r3, hv4, hF⟩ := A.bd_some hF
    refine A.AL.call 1 [] (first := []) (cap := []) cf130 (R05_Valid_ok a0.2.2 h2_ r3 hv4) .nil ?_
    rintro _ _ ⟨rfl, rfl⟩
    refine ⟨by kernel_rfl, ?_⟩
    refine A.q0 [] [] [.n, .n] [(2, .bool r3)] ?_
    refine A.AL.done ?_
    exact A.j ⟨r3, rfl, rfl, hF⟩
   refine A.q0 [] [] [.off, .off, .off, .n, .n] [(2, .bool false)] ?_
   refine A.AL.done ?_
   exact A.j ⟨false, rfl, rfl, hF⟩
  rintro _ _ ⟨y2, rfl, rfl, hF⟩
  rw [F.R06_text_j1] at hF
  obtain rfl := Option.some.inj hF
  exact A.rt1 [] ⟨rfl, rfl⟩
 refine A.AX.join [1] [0] (fun nl nh => ∃ (y5 : Bool), nl = [(25, .bool y5)] ∧ nh = [] ∧ F.R06_text_j3 a0 y5 = some r) ?_ ?_
 ·refine A.xl 1 ?_
  refine A.q0 [] [] [.n, .n] [(25, .bool (decide (a0.1 = 12)))] ?_
  refine A.dx 1 ?_
  refine A.AX.cnd rfl hF (fun hb hF => ?_) (fun hb hF => ?_)
  ·refine A.xe 1 ?_
   exact A.j ⟨(decide (a0.1 = 12)), rfl, rfl, hF⟩
  refine A.xl 0 ?_
  refine A.q0 [] [] [.n, .n] [(25, .bool (decide (a0.1 = 22)))] ?_
  refine A.AL.done ?_
  exact A.j ⟨(decide (a0.1 = 22)), rfl, rfl, hF⟩
 rintro _ _ ⟨y5, rfl, rfl, hF⟩
 rw [F.R06_text_j3] at hF
 refine A.AX.cnb rfl hF (fun hb hF => ?_) (fun hb hF => ?_)
 ·refine A.AX.join [] [] (fun nl nh => ∃ (y6 : Bool), nl = [(2, .bool y6)] ∧ nh = [] ∧ F.R06_text_j2 y6 = some r) ?_ ?_
  ·refine A.xl 0 ?_
   refine A.q0 [0] [] [.n, .b 0 2, .n, .n, .n] [(32, .bool (decide ((a0.2.2.size : Int) ≤ 4)))] ?_
   refine A.AL.cnp (j := 32) rfl hF (fun hb hF => ?_) (fun hb hF => ?_)
   ·refine A.q0 [0] [] [.on .n, .on (.b 0 2)] [(34, .string a0.2.2)] ?_
    refine A.AL.on (dj := 32) rfl rfl ?_
    obtain ⟨r7, hv8, hF⟩ := A.bd_some hF
    refine A.AL.call 41 [] (first := []) (cap := []) cf130 (R05_Valid_ok a0.2.2 h2_ r7 hv8) .nil ?_
    rintro _ _ ⟨rfl, rfl⟩
    refine ⟨by kernel_rfl, ?_⟩
    refine A.q0 [] [] [.n, .n] [(37, .bool r7)] ?_
    refine A.AL.cnd (j := 37) rfl hF (fun hF => ?_) (fun hF => ?_)
    ·refine A.q0 [0] [] [.on .n, .on (.b 0 2)] [(39, .string a0.2.2)] ?_
     refine A.AL.on (dj := 37) rfl rfl ?_
     obtain ⟨r9, hv10, hF⟩ := A.bd_some hF
     refine A.AL.call 81 [] (first := []) (cap := []) cf131 (R05_Runes_ok a0.2.2 h2_ r9 hv10) .nil ?_
     rintro _ _ ⟨A11, c12, rfl, rfl⟩
     refine ⟨by kernel_rfl, ?_⟩
     refine A.q0 [] [] [.on .n, .on .n, .n, .n] [(2, .bool (decide (((r9).length : Int) = 1)))] ?_
     refine A.AL.done ?_
     exact A.j ⟨(decide (((r9).length : Int) = 1)), rfl, rfl, hF⟩
    refine A.q0 [] [] [.off, .off, .off, .off, .off, .n, .n] [(2, .bool false)] ?_
    refine A.AL.done ?_
    exact A.j ⟨false, rfl, rfl, hF⟩
   refine A.q0 [] [] [.off, .off, .off, .n, .n, .off, .off, .off, .off, .off, .n, .n] [(2, .bool false)] ?_
   refine A.AL.done ?_
   exact A.j ⟨false, rfl, rfl, hF⟩
  rintro _ _ ⟨y6, rfl, rfl, hF⟩
  rw [F.R06_text_j2] at hF
  obtain rfl := Option.some.inj hF
  exact A.rt1 [] ⟨rfl, rfl⟩
 refine A.xl 1 ?_
 refine A.q0 [0] [] [.n, .b 0 2, .n, .n] [(2, .bool (decide (a0.2.2 = (ByteArray.mk #[]))))] ?_
 refine A.dx 1 ?_
 obtain rfl := Option.some.inj hF
 exact A.rt1 [] ⟨rfl, rfl⟩

def F.R06_Check_j1 (k1 : Int → Option Int) (y7 : Int) (y10 : Bool) : Option Int := if y10 = true then (some 0) else (A.gd (Z.R64 (y7 + 1)) (k1 (y7 + 1)))
def F.R06_Check_l2 (a1 : D37) (r2 : (List Int)) : Nat → Int → Option Int
  | 0, _ => none
  | f + 1, y7 => if y7 < ((r2).length : Int) then ((A.ix r2 y7).bind fun x12 => (if x12 = a1.1 then ((F.R06_number (a1.1, a1.2.1, a1.2.2)).bind fun r17 => (if r17 = true then ((F.R06_text (a1.1, a1.2.1, a1.2.2)).bind fun r19 => (F.R06_Check_j1 (F.R06_Check_l2 a1 r2 f) y7 r19)) else (F.R06_Check_j1 (F.R06_Check_l2 a1 r2 f) y7 false))) else (F.R06_Check_j1 (F.R06_Check_l2 a1 r2 f) y7 false))) else (some 60)
def F.R06_Check_j3 (a1 : D37) (r2 : (List Int)) (y6 : Bool) : Option Int := if y6 = true then (some 0) else (F.R06_Check_l2 a1 r2 A.FU 0)
def F.R06_Check (a0 : Int) (a1 : D37) : Option Int := (F.R06_Uses a0).bind fun r2 => (if ((r2).length : Int) = 0 then (F.R06_Check_j3 a1 r2 (decide ((a1.1, a1.2.1, a1.2.2) = (0, 0, ByteArray.mk #[])))) else (F.R06_Check_j3 a1 r2 false))
theorem R06_Check_ok (a0 : Int) (a1 : D37) (h0_ : IntKind.i64.has a0) (h1_ : IntKind.i64.has a1.1) (h2_ : IntKind.i64.has a1.2.1) (h3_ : a1.2.2.size ≤ maxLen) (r : Int) (hF : F.R06_Check a0 a1 = some r) :
    A.Ct Tryd.prog 102 [.int .i64 a0, .agg #[.int .i64 a1.1, .int .i64 a1.2.1, .string a1.2.2]] [] [] (fun v H' => v = .int .i64 r ∧ H' = [] ∧ IntKind.i64.has r) := by
 refine A.Ct.enter Tryd.func102 rfl Tryd.ntmps102 rfl fun w0 F0 => ?_
 rw [F.R06_Check] at hF
 refine A.xl 1 ?_
 refine A.AL.box 0 (cs := [.int .i64 a1.1, .int .i64 a1.2.1, .string a1.2.2]) fun g1 => ?_
 refine A.q0 [] [] [.n] [] ?_
 refine A.dl 2 ?_
 refine A.q0 [] [] [.n] [(7, .int .i64 a0)] ?_
 obtain ⟨r2, hv3, hF⟩ := A.bd_some hF
 refine A.AL.call 1 [] (first := []) (cap := []) cf122 (R06_Uses_ok a0 h0_ r2 hv3) .nil ?_
 rintro _ _ ⟨A4, c5, rfl, rfl⟩
 refine ⟨by kernel_rfl, ?_⟩
 refine A.q0 [] [] [.n] [(5, .slice A4 ((r2).length) c5)] ?_
 refine A.dx 2 ?_
 refine A.AX.join [3, 5] [0, 1] (fun nl nh => ∃ (y6 : Bool), nl = [(16, .bool y6)] ∧ nh = [] ∧ F.R06_Check_j3 a1 r2 y6 = some r) ?_ ?_
 ·refine A.xl 0 ?_
  refine A.q0 [] [] [.n, .n, .n, .n] [(12, .bool (decide (((r2).length : Int) = 0)))] ?_
  refine A.AL.cnp (j := 12) rfl hF (fun hb hF => ?_) (fun hb hF => ?_)
  ·refine A.q0 [0] [] [.on (.b 0 0), .on .n] [(13, .agg #[.int .i64 a1.1, .int .i64 a1.2.1, .string a1.2.2]), (14, .agg #[.int .i64 0, .int .i64 0, .string (ByteArray.mk #[])])] ?_
   refine A.AL.on (dj := 12) rfl rfl ?_
   refine A.AL.val rfl (fun a w hf hh => eqagg_eql38 (x := (a1.1, a1.2.1, a1.2.2)) (y := (0, 0, ByteArray.mk #[])) (hf.eval rfl) (hf.eval rfl)) ?_
   refine A.q0 [] [] [.n] [(16, .bool (decide ((a1.1, a1.2.1, a1.2.2) = (0, 0, ByteArray.mk #[]))))] ?_
   refine A.AL.done ?_
   exact A.j ⟨(decide ((a1.1, a1.2.1, a1.2.2) = (0, 0, ByteArray.mk #[]))), rfl, rfl, hF⟩
  refine A.q0 [] [] [.off, .off, .off, .n] [(16, .bool false)] ?_
  refine A.AL.done ?_
  exact A.j ⟨false, rfl, rfl, hF⟩
 rintro _ _ ⟨y6, rfl, rfl, hF⟩
 rw [F.R06_Check_j3] at hF
 refine A.AX.cnb rfl hF (fun hb hF => ?_) (fun hb hF => ?_)
 ·refine A.xl 1 ?_
  refine A.q0 [] [] [.n] [(4, .int .i64 0)] ?_
  refine A.dx 1 ?_
  obtain rfl := Option.some.inj hF
  exact A.rt1 [] ⟨rfl, rfl, (A.hasl .i64 (0) rfl)⟩
 refine A.xl 4 ?_
 refine A.q0 [] [] [.n] [(6, .int .i64 0)] ?_
 refine A.dx 2 ?_
 refine A.lp_ [3, 5] [0, 1] (fun f nl nh => ∃ (y7 : Int), nl = [(6, .int .i64 y7)] ∧ nh = [] ∧ IntKind.i64.has y7 ∧ F.R06_Check_l2 a1 r2 f y7 = some r) ⟨0, rfl, rfl, (A.hasl .i64 (0) rfl), hF⟩ ?_
 rintro f9 _ _ ⟨y7, rfl, rfl, hy8, hF⟩
 rcases f9 with _ | f9
 ·exact A.no0 hF
 rw [F.R06_Check_l2] at hF
 refine A.xl 2 ?_
 refine A.q0 [] [] [.n, .n, .n, .n] [(20, .bool (decide (y7 < ((r2).length : Int))))] ?_
 refine A.dx 1 ?_
 refine A.AX.cnd rfl hF (fun hb hF => ?_) (fun hb hF => ?_)
 ·refine A.xx 4 ?_
  refine A.AX.join [3, 5, 6] [0, 1] (fun nl nh => ∃ (y10 : Bool), nl = [(37, .bool y10)] ∧ nh = [] ∧ F.R06_Check_j1 (F.R06_Check_l2 a1 r2 f9) y7 y10 = some r) ?_ ?_
  ·refine A.AX.dr mixed 15 15 (A.mb 15 0) ?_
   refine A.hq A.pb [] [0, 1] [0] [] (A.mb 15 51) 11 [(0, .n), (1, .n), (4, .n), (5, .b 0 0)] [(23, .slice A4 ((r2).length) c5), (24, .int .i64 y7), (28, .int .i64 a1.1)] ?_
   obtain ⟨x12, hv13, hF⟩ := A.bd_some hF
   refine A.AH.pko 1 203 hv13 fun ho14 => ?_
   intro g16 hA15
   refine A.AH.v A.pb [0, 1] [0, 1, 203] 2 (A.mb 15 55) rfl (fun a w hf hh => A.r_ixo (t := (Z.Ty.int .i64)) hv13 hA15 hf) ?_
   refine A.hq A.pb [0, 1, 203] [0, 1, 203] [] [203] (A.mb 15 255) 7 [(3, .e 0 0), (6, .n), (7, .n)] [(30, .bool (decide (x12 = a1.1)))] ?_
   refine A.AH.cnp (j := 30) rfl hF (fun hb hF => ?_) (fun hb hF => ?_)
   ·refine A.hq A.pb [0, 1, 203] [0, 1, 203] [0] [] (A.mb 15 511) 6 [(8, .on (.b 0 0))] [(31, .agg #[.int .i64 a1.1, .int .i64 a1.2.1, .string a1.2.2])] ?_
    refine A.AH.one 9 ?_
    refine A.AL.on (dj := 30) rfl rfl ?_
    obtain ⟨r17, hv18, hF⟩ := A.bd_some hF
    refine A.AL.call 204 [] (first := []) (cap := []) cf123 (R06_number_ok (a1.1, a1.2.1, a1.2.2) h1_ h2_ h3_ r17 hv18) .nil ?_
    rintro _ _ ⟨rfl, rfl⟩
    refine ⟨by kernel_rfl, ?_⟩
    refine A.AH.nx (A.mb 15 1023) [0, 1, 203] ?_
    refine A.hq A.pb [0, 1, 203] [0, 1, 203] [] [] (A.mb 15 4095) 3 [(10, .n), (11, .n)] [(34, .bool r17)] ?_
    refine A.AH.cnd (j := 34) rfl hF (fun hF => ?_) (fun hF => ?_)
    ·refine A.hq A.pb [0, 1, 203] [0, 1, 203] [0] [] (A.mb 15 8191) 2 [(12, .on (.b 0 0))] [(35, .agg #[.int .i64 a1.1, .int .i64 a1.2.1, .string a1.2.2])] ?_
     refine A.AH.one 13 ?_
     refine A.AL.on (dj := 34) rfl rfl ?_
     obtain ⟨r19, hv20, hF⟩ := A.bd_some hF
     refine A.AL.call 244 [] (first := []) (cap := []) cf124 (R06_text_ok (a1.1, a1.2.1, a1.2.2) h1_ h2_ h3_ r19 hv20) .nil ?_
     rintro _ _ ⟨rfl, rfl⟩
     refine ⟨by kernel_rfl, ?_⟩
     refine A.AH.nx (A.mb 15 16383) [0, 1, 203] ?_
     refine A.hq A.pb [0, 1, 203] [0, 1, 203] [] [] (A.mb 15 32767) 0 [(14, .n)] [(37, .bool r19)] ?_
     refine A.AH.done ?_
     exact A.j ⟨r19, rfl, rfl, hF⟩
    refine A.hq A.pb [0, 1, 203] [0, 1, 203] [] [] (A.mb 15 32767) 0 [(12, .off), (13, .off), (14, .n)] [(37, .bool false)] ?_
    refine A.AH.done ?_
    exact A.j ⟨false, rfl, rfl, hF⟩
   refine A.hq A.pb [0, 1, 203] [0, 1, 203] [] [] (A.mb 15 32767) 0 [(8, .off), (9, .off), (10, .n), (11, .n), (12, .off), (13, .off), (14, .n)] [(37, .bool false)] ?_
   refine A.AH.done ?_
   exact A.j ⟨false, rfl, rfl, hF⟩
  rintro _ _ ⟨y10, rfl, rfl, hF⟩
  rw [F.R06_Check_j1] at hF
  refine A.AX.cnb rfl hF (fun hb hF => ?_) (fun hb hF => ?_)
  ·refine A.xl 1 ?_
   refine A.q0 [] [] [.n] [(4, .int .i64 0)] ?_
   refine A.dx 1 ?_
   obtain rfl := Option.some.inj hF
   exact A.rt1 [] ⟨rfl, rfl, (A.hasl .i64 (0) rfl)⟩
  refine A.xl 3 ?_
  obtain ⟨hc11, hF⟩ := A.gd_some hF
  refine A.q [] [] [.n, .n, .n] [Z.R64 (y7 + 1)] [(6, .int .i64 (y7 + 1))] hc11 ?_
  refine A.AL.done ?_
  exact A.j ⟨_, Nat.lt_succ_self _, ⟨(y7 + 1), rfl, rfl, (Z.i64_has hc11), hF⟩⟩
 refine A.xl 3 ?_
 refine A.q0 [] [] [.n] [(4, .int .i64 60)] ?_
 refine A.dx 1 ?_
 obtain rfl := Option.some.inj hF
 exact A.rt1 [] ⟨rfl, rfl, (A.hasl .i64 (60) rfl)⟩

def F.R08_parts_j1 (k40 : Int → Option Int) (y34 : Int) (y61 : Bool) : Option Int := if y61 = true then (some 80) else (A.gd (Z.R64 (y34 + 1)) (k40 (y34 + 1)))
def F.R08_parts_l2 (k39 : Int → Option Int) (a0 : D23) (y31 : Int) : Nat → Int → Option Int
  | 0, _ => none
  | f + 1, y34 => (A.ix a0 y31).bind fun x37 => (if y34 < ((x37.2.2.1).length : Int) then ((A.ix a0 y31).bind fun x44 => ((A.ix x44.2.2.1 y34).bind fun x52 => ((F.R08_index a0 x52).bind fun r58 => (if r58 < 0 then (F.R08_parts_j1 (F.R08_parts_l2 k39 a0 y31 f) y34 true) else ((A.ix a0 r58).bind fun x63 => (F.R08_parts_j1 (F.R08_parts_l2 k39 a0 y31 f) y34 (decide (x63.2.1 = 15)))))))) else (A.gd (Z.R64 (y31 + 1)) (k39 (y31 + 1))))
def F.R08_parts_l3 (a0 : D23) : Nat → Int → Option Int
  | 0, _ => none
  | f + 1, y31 => if y31 < ((a0).length : Int) then (F.R08_parts_l2 (F.R08_parts_l3 a0 f) a0 y31 A.FU 0) else (some 0)
def F.R08_parts_l4 (a0 : D23) : Nat → Int → Option Int
  | 0, _ => none
  | f + 1, y8 => if y8 < ((a0).length : Int) then ((A.ix a0 y8).bind fun x11 => ((A.ix a0 y8).bind fun x19 => ((F.R06_Check x11.2.1 (x19.2.2.2.1.1, x19.2.2.2.1.2.1, x19.2.2.2.1.2.2)).bind fun r27 => (if r27 ≠ 0 then (some 60) else (A.gd (Z.R64 (y8 + 1)) ((F.R08_parts_l4 a0 f) (y8 + 1))))))) else (F.R08_parts_l3 a0 A.FU 0)
def F.R08_parts_l5 (a0 : D23) : Nat → Int → Option Int
  | 0, _ => none
  | f + 1, y2 => if y2 < ((a0).length : Int) then ((F.R08_own a0 y2).bind fun r5 => (if (!r5) = true then (some 80) else (A.gd (Z.R64 (y2 + 1)) ((F.R08_parts_l5 a0 f) (y2 + 1))))) else (F.R08_parts_l4 a0 A.FU 0)
def F.R08_parts (a0 : D23) : Option Int := if (32 : Int) < ((a0).length : Int) then (some 80) else (F.R08_parts_l5 a0 A.FU 0)
theorem R08_parts_ok (a0 : D23) (A0_ : Option Addr) (c1_ : Nat) (r : Int) (hF : F.R08_parts a0 = some r) :
    A.Ct Tryd.prog 83 [.agg #[.slice A0_ ((a0).length) c1_]] [(0, .sh (.slice T39) [.slice A0_ (a0).length c1_] a0)] [] (fun v H' => v = .int .i64 r ∧ H' = [] ∧ IntKind.i64.has r) := by
 refine A.Ct.enter Tryd.func83 rfl Tryd.ntmps83 rfl fun w0 F0 => ?_
 rw [F.R08_parts] at hF
 refine A.xl 1 ?_
 refine A.AL.box 1 (cs := [.slice A0_ ((a0).length) c1_]) fun g1 => ?_
 refine A.q0 [] [] [.n] [] ?_
 refine A.dl 3 ?_
 refine A.q0 [1] [] [.n, .b 0 0, .n, .n] [(11, .bool (decide ((32 : Int) < ((a0).length : Int))))] ?_
 refine A.dx 1 ?_
 refine A.AX.cnd rfl hF (fun hb hF => ?_) (fun hb hF => ?_)
 ·refine A.xl 1 ?_
  refine A.q0 [] [] [.n] [(2, .int .i64 80)] ?_
  refine A.dx 1 ?_
  obtain rfl := Option.some.inj hF
  exact A.rt1 [] ⟨rfl, rfl, (A.hasl .i64 (80) rfl)⟩
 refine A.xl 4 ?_
 refine A.q0 [] [] [.n] [(3, .int .i64 0)] ?_
 refine A.dx 2 ?_
 refine A.lp_ [1] [0, 1] (fun f nl nh => ∃ (y2 : Int), nl = [(3, .int .i64 y2)] ∧ nh = [] ∧ IntKind.i64.has y2 ∧ F.R08_parts_l5 a0 f y2 = some r) ⟨0, rfl, rfl, (A.hasl .i64 (0) rfl), hF⟩ ?_
 rintro f4 _ _ ⟨y2, rfl, rfl, hy3, hF⟩
 rcases f4 with _ | f4
 ·exact A.no0 hF
 rw [F.R08_parts_l5] at hF
 refine A.xl 2 ?_
 refine A.q0 [1] [] [.n, .n, .b 0 0, .n, .n] [(16, .bool (decide (y2 < ((a0).length : Int))))] ?_
 refine A.dx 1 ?_
 refine A.AX.cnd rfl hF (fun hb hF => ?_) (fun hb hF => ?_)
 ·refine A.xl 5 ?_
  refine A.q0 [1] [] [.b 0 0, .n] [(19, .agg #[.slice A0_ ((a0).length) c1_]), (20, .int .i64 y2)] ?_
  obtain ⟨r5, hv6, hF⟩ := A.bd_some hF
  refine A.AL.call 2884 [] (first := []) (cap := []) cf101 (R08_own_ok a0 y2 A0_ c1_ hy3 r5 hv6) (.s 0 .nil) ?_
  rintro _ _ ⟨rfl, rfl⟩
  refine ⟨by kernel_rfl, ?_⟩
  refine A.q0 [] [] [.n] [(22, .bool (!r5))] ?_
  refine A.dx 1 ?_
  refine A.AX.cnb rfl hF (fun hb hF => ?_) (fun hb hF => ?_)
  ·refine A.xl 1 ?_
   refine A.q0 [] [] [.n] [(2, .int .i64 80)] ?_
   refine A.dx 1 ?_
   obtain rfl := Option.some.inj hF
   exact A.rt1 [] ⟨rfl, rfl, (A.hasl .i64 (80) rfl)⟩
  refine A.xl 3 ?_
  obtain ⟨hc7, hF⟩ := A.gd_some hF
  refine A.q [] [] [.n, .n, .n] [Z.R64 (y2 + 1)] [(3, .int .i64 (y2 + 1))] hc7 ?_
  refine A.AL.done ?_
  exact A.j ⟨_, Nat.lt_succ_self _, ⟨(y2 + 1), rfl, rfl, (Z.i64_has hc7), hF⟩⟩
 refine A.xl 4 ?_
 refine A.q0 [] [] [.n] [(4, .int .i64 0)] ?_
 refine A.dx 2 ?_
 refine A.lp_ [1] [0, 1] (fun f nl nh => ∃ (y8 : Int), nl = [(4, .int .i64 y8)] ∧ nh = [] ∧ IntKind.i64.has y8 ∧ F.R08_parts_l4 a0 f y8 = some r) ⟨0, rfl, rfl, (A.hasl .i64 (0) rfl), hF⟩ ?_
 rintro f10 _ _ ⟨y8, rfl, rfl, hy9, hF⟩
 rcases f10 with _ | f10
 ·exact A.no0 hF
 rw [F.R08_parts_l4] at hF
 refine A.xl 2 ?_
 refine A.q0 [1] [] [.n, .n, .b 0 0, .n, .n] [(27, .bool (decide (y8 < ((a0).length : Int))))] ?_
 refine A.dx 1 ?_
 refine A.AX.cnd rfl hF (fun hb hF => ?_) (fun hb hF => ?_)
 ·refine A.xx 5 ?_
  refine A.AX.dr mixed 14 14 (A.mb 14 0) ?_
  refine A.hq A.pb [] [0, 1] [1] [] (A.mb 14 455) 8 [(0, .n), (2, .n), (6, .n), (8, .n), (1, .b 0 0), (7, .b 0 0)] [(32, .int .i64 y8), (38, .int .i64 y8), (31, .slice A0_ ((a0).length) c1_), (37, .slice A0_ ((a0).length) c1_)] ?_
  obtain ⟨x11, hv12, hF⟩ := A.bd_some hF
  refine A.AH.pks 0 3858 hv12 fun ho13 => ?_
  intro A15 c16 b17 o18 hA14
  refine A.AH.v A.pb [0, 1] [0, 1, 3858, 3859] 3 (A.mb 14 463) rfl (fun a w hf hh => A.r_ixa (t := T39) hv12 hA14 hf) ?_
  refine A.hq A.pb [0, 1, 3858, 3859] [0, 1, 3858, 3859] [] [3858] (A.mb 14 511) 5 [(4, .n), (5, .e 0 1)] [(35, .int .i64 x11.2.1)] ?_
  obtain ⟨x19, hv20, hF⟩ := A.bd_some hF
  refine A.AH.pks 0 3860 hv20 fun ho21 => ?_
  intro A23 c24 b25 o26 hA22
  refine A.AH.v A.pb [0, 1, 3858, 3859] [0, 1, 3858, 3859, 3860, 3861] 9 (A.mb 14 1023) rfl (fun a w hf hh => A.r_ixa (t := T39) hv20 hA22 hf) ?_
  refine A.hq A.pb [0, 1, 3858, 3859, 3860, 3861] [0, 1, 3858, 3859, 3860, 3861] [] [3860] (A.mb 14 4095) 2 [(10, .n), (11, .e 0 3)] [(41, .agg #[.int .i64 x19.2.2.2.1.1, .int .i64 x19.2.2.2.1.2.1, .string x19.2.2.2.1.2.2])] ?_
  refine A.AH.one 12 ?_
  obtain ⟨r27, hv28, hF⟩ := A.bd_some hF
  refine A.AL.call 3862 [] (first := []) (cap := []) cf102 (R06_Check_ok x11.2.1 (x19.2.2.2.1.1, x19.2.2.2.1.2.1, x19.2.2.2.1.2.2) ho13.2.1 ho21.2.2.2.1.1 ho21.2.2.2.1.2.1 ho21.2.2.2.1.2.2 r27 hv28) .nil ?_
  rintro _ _ ⟨rfl, rfl, hr29⟩
  refine ⟨by kernel_rfl, ?_⟩
  refine A.AH.nx (A.mb 14 8191) [0, 1, 3858, 3859, 3860, 3861] ?_
  refine A.hq A.pb [0, 1, 3858, 3859, 3860, 3861] [0, 1, 3858, 3859, 3860, 3861] [] [] (A.mb 14 16383) 0 [(13, .n)] [(43, .bool (decide (r27 ≠ 0)))] ?_
  refine A.AH.done ?_
  refine A.ex 1 ?_
  refine A.AX.cnd rfl hF (fun hb hF => ?_) (fun hb hF => ?_)
  ·refine A.xl 1 ?_
   refine A.q0 [] [] [.n] [(2, .int .i64 60)] ?_
   refine A.dx 1 ?_
   obtain rfl := Option.some.inj hF
   exact A.rt1 [] ⟨rfl, rfl, (A.hasl .i64 (60) rfl)⟩
  refine A.xl 3 ?_
  obtain ⟨hc30, hF⟩ := A.gd_some hF
  refine A.q [] [] [.n, .n, .n] [Z.R64 (y8 + 1)] [(4, .int .i64 (y8 + 1))] hc30 ?_
  refine A.AL.done ?_
  exact A.j ⟨_, Nat.lt_succ_self _, ⟨(y8 + 1), rfl, rfl, (Z.i64_has hc30), hF⟩⟩
 refine A.xl 4 ?_
 refine A.q0 [] [] [.n] [(5, .int .i64 0)] ?_
 refine A.dx 2 ?_
 refine A.lp_ [1] [0, 1] (fun f nl nh => ∃ (y31 : Int), nl = [(5, .int .i64 y31)] ∧ nh = [] ∧ IntKind.i64.has y31 ∧ F.R08_parts_l3 a0 f y31 = some r) ⟨0, rfl, rfl, (A.hasl .i64 (0) rfl), hF⟩ ?_
 rintro f33 _ _ ⟨y31, rfl, rfl, hy32, hF⟩
 rcases f33 with _ | f33
 ·exact A.no0 hF
 rw [F.R08_parts_l3] at hF
 refine A.xl 2 ?_
 refine A.q0 [1] [] [.n, .n, .b 0 0, .n, .n] [(48, .bool (decide (y31 < ((a0).length : Int))))] ?_
 refine A.dx 1 ?_
 refine A.AX.cnd rfl hF (fun hb hF => ?_) (fun hb hF => ?_)
 ·refine A.xl 5 ?_
  refine A.q0 [] [] [.n] [(6, .int .i64 0)] ?_
  refine A.dx 2 ?_
  refine A.lp_ [1, 5] [0, 1] (fun f nl nh => ∃ (y34 : Int), nl = [(6, .int .i64 y34)] ∧ nh = [] ∧ IntKind.i64.has y34 ∧ F.R08_parts_l2 (F.R08_parts_l3 a0 f33) a0 y31 f y34 = some r) ⟨0, rfl, rfl, (A.hasl .i64 (0) rfl), hF⟩ ?_
  rintro f36 _ _ ⟨y34, rfl, rfl, hy35, hF⟩
  rcases f36 with _ | f36
  ·exact A.no0 hF
  rw [F.R08_parts_l2] at hF
  refine A.xl 2 ?_
  refine A.q0 [1] [] [.n, .n, .b 0 0, .n] [(51, .int .i64 y34), (53, .slice A0_ ((a0).length) c1_), (54, .int .i64 y31)] ?_
  obtain ⟨x37, hv38, hF⟩ := A.bd_some hF
  refine A.AL.ixs 0 4278 hv38 fun ho39 => ?_
  intro A40 c41 b42 o43
  refine A.q0 [] [4278] [.n, .e 0 2, .n, .n] [(59, .bool (decide (y34 < ((x37.2.2.1).length : Int))))] ?_
  refine A.dx 1 ?_
  refine A.AX.cnd rfl hF (fun hb hF => ?_) (fun hb hF => ?_)
  ·refine A.xx 5 ?_
   refine A.AX.dr mixed 12 12 (A.mb 12 0) ?_
   refine A.hq A.pb [] [0, 1, 4278, 4279] [1] [] (A.mb 12 143) 7 [(0, .b 0 0), (1, .n), (3, .n), (7, .n), (2, .b 0 0)] [(62, .agg #[.slice A0_ ((a0).length) c1_]), (65, .int .i64 y31), (69, .int .i64 y34), (64, .slice A0_ ((a0).length) c1_)] ?_
   obtain ⟨x44, hv45, hF⟩ := A.bd_some hF
   refine A.AH.pks 0 4280 hv45 fun ho46 => ?_
   intro A48 c49 b50 o51 hA47
   refine A.AH.v A.pb [0, 1, 4278, 4279] [0, 1, 4278, 4279, 4280, 4281] 4 (A.mb 12 159) rfl (fun a w hf hh => A.r_ixa (t := T39) hv45 hA47 hf) ?_
   refine A.hq A.pb [0, 1, 4278, 4279, 4280, 4281] [0, 1, 4278, 4279, 4280, 4281] [] [4280] (A.mb 12 255) 4 [(5, .n), (6, .e 0 2)] [(68, .slice A48 ((x44.2.2.1).length) c49)] ?_
   obtain ⟨x52, hv53, hF⟩ := A.bd_some hF
   refine A.AH.pks 4281 4282 hv53 fun ho54 => ?_
   intro b56 o57 hA55
   refine A.AH.v A.pb [0, 1, 4278, 4279, 4280, 4281] [0, 1, 4278, 4279, 4280, 4281, 4282] 8 (A.mb 12 511) rfl (fun a w hf hh => A.r_ixa (t := (Z.Ty.int .i64)) hv53 hA55 hf) ?_
   refine A.hq A.pb [0, 1, 4278, 4279, 4280, 4281, 4282] [0, 1, 4278, 4279, 4280, 4281, 4282] [] [4282] (A.mb 12 1023) 2 [(9, .e 0 0)] [(71, .int .i64 x52)] ?_
   refine A.AH.one 10 ?_
   obtain ⟨r58, hv59, hF⟩ := A.bd_some hF
   refine A.AL.call 4283 [] (first := []) (cap := []) cf60 (R08_index_ok a0 x52 A0_ c1_ ho54 r58 hv59) (.s 0 .nil) ?_
   rintro _ _ ⟨rfl, rfl, hr60⟩
   refine ⟨by kernel_rfl, ?_⟩
   refine A.AH.nx (A.mb 12 2047) [0, 1, 4278, 4279, 4280, 4281, 4282] ?_
   refine A.hq A.pb [0, 1, 4278, 4279, 4280, 4281, 4282] [0, 1, 4278, 4279, 4280, 4281, 4282] [] [] (A.mb 12 4095) 0 [(11, .n)] [(7, .int .i64 r58)] ?_
   refine A.AH.done ?_
   refine A.ex 1 ?_
   refine A.AX.join [1, 5, 6] [0, 1] (fun nl nh => ∃ (y61 : Bool), nl = [(83, .bool y61)] ∧ nh = [] ∧ F.R08_parts_j1 (F.R08_parts_l2 (F.R08_parts_l3 a0 f33) a0 y31 f36) y34 y61 = some r) ?_ ?_
   ·refine A.xl 0 ?_
    refine A.q0 [] [] [.n, .n, .n] [(75, .bool (decide (r58 < 0)))] ?_
    refine A.AL.cnp (j := 75) rfl hF (fun hb hF => ?_) (fun hb hF => ?_)
    ·refine A.q0 [] [] [.off, .off, .off, .off, .off, .off, .off, .n] [(83, .bool true)] ?_
     refine A.AL.done ?_
     exact A.j ⟨true, rfl, rfl, hF⟩
    refine A.q0 [1] [] [.on .n, .on (.b 0 0), .on .n] [(77, .slice A0_ ((a0).length) c1_), (78, .int .i64 r58)] ?_
    refine A.AL.on (dj := 75) rfl rfl ?_
    obtain ⟨x63, hv64, hF⟩ := A.bd_some hF
    refine A.AL.ixs 0 4323 hv64 fun ho65 => ?_
    intro A66 c67 b68 o69
    refine A.q0 [] [4323] [.on .n, .on (.e 0 1), .on .n, .n] [(83, .bool (decide (x63.2.1 = 15)))] ?_
    refine A.AL.done ?_
    exact A.j ⟨(decide (x63.2.1 = 15)), rfl, rfl, hF⟩
   rintro _ _ ⟨y61, rfl, rfl, hF⟩
   rw [F.R08_parts_j1] at hF
   refine A.AX.cnb rfl hF (fun hb hF => ?_) (fun hb hF => ?_)
   ·refine A.xl 1 ?_
    refine A.q0 [] [] [.n] [(2, .int .i64 80)] ?_
    refine A.dx 1 ?_
    obtain rfl := Option.some.inj hF
    exact A.rt1 [] ⟨rfl, rfl, (A.hasl .i64 (80) rfl)⟩
   refine A.xl 3 ?_
   obtain ⟨hc62, hF⟩ := A.gd_some hF
   refine A.q [] [] [.n, .n, .n] [Z.R64 (y34 + 1)] [(6, .int .i64 (y34 + 1))] hc62 ?_
   refine A.AL.done ?_
   exact A.j ⟨_, Nat.lt_succ_self _, ⟨(y34 + 1), rfl, rfl, (Z.i64_has hc62), hF⟩⟩
  refine A.xl 3 ?_
  obtain ⟨hc70, hF⟩ := A.gd_some hF
  refine A.q [] [] [.n, .n, .n] [Z.R64 (y31 + 1)] [(5, .int .i64 (y31 + 1))] hc70 ?_
  refine A.AL.done ?_
  exact A.j ⟨_, Nat.lt_succ_self _, ⟨(y31 + 1), rfl, rfl, (Z.i64_has hc70), hF⟩⟩
 refine A.xl 3 ?_
 refine A.q0 [] [] [.n] [(2, .int .i64 0)] ?_
 refine A.dx 1 ?_
 obtain rfl := Option.some.inj hF
 exact A.rt1 [] ⟨rfl, rfl, (A.hasl .i64 (0) rfl)⟩

def F.R08_ready_j1 (k1 : Int → Option Bool) (y3 : Int) (y6 : Bool) : Option Bool := if y6 = true then (some false) else (A.gd (Z.R64 (y3 + 1)) (k1 (y3 + 1)))
def F.R08_ready_l2 (a0 : D23) (a1 : D39) (a2 : (List Bool)) : Nat → Int → Option Bool
  | 0, _ => none
  | f + 1, y3 => if y3 < ((a1.2.2.1).length : Int) then (if a1.2.1 ≠ 14 then ((A.ix a1.2.2.1 y3).bind fun x8 => ((F.R08_index a0 x8).bind fun r14 => ((A.ix a2 r14).bind fun x17 => (F.R08_ready_j1 (F.R08_ready_l2 a0 a1 a2 f) y3 (!x17))))) else (F.R08_ready_j1 (F.R08_ready_l2 a0 a1 a2 f) y3 false)) else (some true)
def F.R08_ready (a0 : D23) (a1 : D39) (a2 : (List Bool)) : Option Bool := F.R08_ready_l2 a0 a1 a2 A.FU 0
theorem R08_ready_ok (a0 : D23) (a1 : D39) (a2 : (List Bool)) (A0_ : Option Addr) (c1_ : Nat) (A4_ : Option Addr) (c5_ : Nat) (A12_ : Option Addr) (c13_ : Nat) (h2_ : IntKind.i64.has a1.1) (h3_ : IntKind.i64.has a1.2.1) (h6_ : IntKind.i64.has a1.2.2.2.1.1) (h7_ : IntKind.i64.has a1.2.2.2.1.2.1) (h8_ : a1.2.2.2.1.2.2.size ≤ maxLen) (h9_ : a1.2.2.2.2.1.size ≤ maxLen) (h10_ : IntKind.i64.has a1.2.2.2.2.2.1) (h11_ : IntKind.i64.has a1.2.2.2.2.2.2) (r : Bool) (hF : F.R08_ready a0 a1 a2 = some r) :
    A.Ct Tryd.prog 103 [.agg #[.slice A0_ ((a0).length) c1_], .agg #[.int .i64 a1.1, .int .i64 a1.2.1, .slice A4_ ((a1.2.2.1).length) c5_, .int .i64 a1.2.2.2.1.1, .int .i64 a1.2.2.2.1.2.1, .string a1.2.2.2.1.2.2, .string a1.2.2.2.2.1, .int .i64 a1.2.2.2.2.2.1, .int .i64 a1.2.2.2.2.2.2], .slice A12_ ((a2).length) c13_] [(0, .sh (.slice T39) [.slice A0_ (a0).length c1_] a0), (1, .sh (.slice (Z.Ty.int .i64)) [.slice A4_ (a1.2.2.1).length c5_] a1.2.2.1), (2, .ln Z.Ty.bool A12_ c13_ a2)] [] (fun v H' => v = .bool r ∧ H' = []) := by
 refine A.Ct.enter Tryd.func103 rfl Tryd.ntmps103 rfl fun w0 F0 => ?_
 rw [F.R08_ready] at hF
 refine A.xl 1 ?_
 refine A.AL.box 3 (cs := [.slice A0_ ((a0).length) c1_]) fun g1 => ?_
 refine A.AL.box 4 (cs := [.int .i64 a1.1, .int .i64 a1.2.1, .slice A4_ ((a1.2.2.1).length) c5_, .int .i64 a1.2.2.2.1.1, .int .i64 a1.2.2.2.1.2.1, .string a1.2.2.2.1.2.2, .string a1.2.2.2.2.1, .int .i64 a1.2.2.2.2.2.1, .int .i64 a1.2.2.2.2.2.2]) fun g2 => ?_
 refine A.q0 [] [] [.n] [] ?_
 refine A.dl 3 ?_
 refine A.q0 [] [] [.n] [(7, .int .i64 0)] ?_
 refine A.dx 2 ?_
 refine A.lp_ [2, 3, 4] [0, 1, 2, 3, 4] (fun f nl nh => ∃ (y3 : Int), nl = [(7, .int .i64 y3)] ∧ nh = [] ∧ IntKind.i64.has y3 ∧ F.R08_ready_l2 a0 a1 a2 f y3 = some r) ⟨0, rfl, rfl, (A.hasl .i64 (0) rfl), hF⟩ ?_
 rintro f5 _ _ ⟨y3, rfl, rfl, hy4, hF⟩
 rcases f5 with _ | f5
 ·exact A.no0 hF
 rw [F.R08_ready_l2] at hF
 refine A.xl 2 ?_
 refine A.q0 [4] [] [.n, .n, .b 0 2, .n, .n] [(12, .bool (decide (y3 < ((a1.2.2.1).length : Int))))] ?_
 refine A.dx 1 ?_
 refine A.AX.cnd rfl hF (fun hb hF => ?_) (fun hb hF => ?_)
 ·refine A.xx 4 ?_
  refine A.AX.join [2, 3, 4, 7] [0, 1, 2, 3, 4] (fun nl nh => ∃ (y6 : Bool), nl = [(30, .bool y6)] ∧ nh = [] ∧ F.R08_ready_j1 (F.R08_ready_l2 a0 a1 a2 f5) y3 y6 = some r) ?_ ?_
  ·refine A.AX.dr mixed 16 16 (A.mb 16 0) ?_
   refine A.hq A.pb [] [0, 1, 2, 3, 4] [4] [] (A.mb 16 15) 12 [(0, .n), (1, .b 0 1), (2, .n), (3, .n)] [(18, .bool (decide (a1.2.1 ≠ 14)))] ?_
   refine A.AH.cnp (j := 18) rfl hF (fun hb hF => ?_) (fun hb hF => ?_)
   ·refine A.hq A.pb [0, 1, 2, 3, 4] [0, 1, 2, 3, 4] [3, 4] [] (A.mb 16 511) 7 [(4, .on .n), (5, .on (.b 0 0)), (6, .on .n), (8, .on .n), (7, .on (.b 1 2))] [(19, .slice A12_ ((a2).length) c13_), (20, .agg #[.slice A0_ ((a0).length) c1_]), (23, .int .i64 y3), (22, .slice A4_ ((a1.2.2.1).length) c5_)] ?_
    obtain ⟨x8, hv9, hF⟩ := A.bd_some hF
    refine A.AH.pks 1 89 hv9 fun ho10 => ?_
    intro b12 o13 hA11
    refine A.AH.vg A.pb [0, 1, 2, 3, 4] [0, 1, 2, 3, 4, 89] 9 (A.mb 16 1023) (dj := 18) rfl (fun a w hf hh => A.r_ixa (t := (Z.Ty.int .i64)) hv9 hA11 hf) ?_
    refine A.hq A.pb [0, 1, 2, 3, 4, 89] [0, 1, 2, 3, 4, 89] [] [89] (A.mb 16 2047) 5 [(10, .on (.e 0 0))] [(25, .int .i64 x8)] ?_
    refine A.AH.one 11 ?_
    refine A.AL.on (dj := 18) rfl rfl ?_
    obtain ⟨r14, hv15, hF⟩ := A.bd_some hF
    refine A.AL.call 90 [] (first := []) (cap := []) cf60 (R08_index_ok a0 x8 A0_ c1_ ho10 r14 hv15) (.s 0 .nil) ?_
    rintro _ _ ⟨rfl, rfl, hr16⟩
    refine ⟨by kernel_rfl, ?_⟩
    refine A.AH.nx (A.mb 16 4095) [0, 1, 2, 3, 4, 89] ?_
    obtain ⟨x17, hv18, hF⟩ := A.bd_some hF
    refine A.AH.pkl 2 130 hv18 fun ho19 => ?_
    intro b21 o22 hA20
    refine A.AH.vg A.pb [0, 1, 2, 3, 4, 89] [0, 1, 2, 3, 4, 89, 130] 12 (A.mb 16 8191) (dj := 18) rfl (fun a w hf hh => A.r_ixa (t := Z.Ty.bool) hv18 hA20 hf) ?_
    refine A.hq A.pb [0, 1, 2, 3, 4, 89, 130] [0, 1, 2, 3, 4, 89, 130] [] [130] (A.mb 16 65535) 0 [(13, .on (.e 0 0)), (14, .on .n), (15, .n)] [(30, .bool (!x17))] ?_
    refine A.AH.done ?_
    exact A.j ⟨(!x17), rfl, rfl, hF⟩
   refine A.hq A.pb [0, 1, 2, 3, 4] [0, 1, 2, 3, 4] [] [] (A.mb 16 65535) 0 [(4, .off), (5, .off), (6, .off), (8, .off), (7, .off), (9, .off), (10, .off), (11, .off), (12, .off), (13, .off), (14, .off), (15, .n)] [(30, .bool false)] ?_
   refine A.AH.done ?_
   exact A.j ⟨false, rfl, rfl, hF⟩
  rintro _ _ ⟨y6, rfl, rfl, hF⟩
  rw [F.R08_ready_j1] at hF
  refine A.AX.cnb rfl hF (fun hb hF => ?_) (fun hb hF => ?_)
  ·refine A.xl 1 ?_
   refine A.q0 [] [] [.n] [(6, .bool false)] ?_
   refine A.dx 1 ?_
   obtain rfl := Option.some.inj hF
   exact A.rt1 [] ⟨rfl, rfl⟩
  refine A.xl 3 ?_
  obtain ⟨hc7, hF⟩ := A.gd_some hF
  refine A.q [] [] [.n, .n, .n] [Z.R64 (y3 + 1)] [(7, .int .i64 (y3 + 1))] hc7 ?_
  refine A.AL.done ?_
  exact A.j ⟨_, Nat.lt_succ_self _, ⟨(y3 + 1), rfl, rfl, (Z.i64_has hc7), hF⟩⟩
 refine A.xl 3 ?_
 refine A.q0 [] [] [.n] [(6, .bool true)] ?_
 refine A.dx 1 ?_
 obtain rfl := Option.some.inj hF
 exact A.rt1 [] ⟨rfl, rfl⟩
end Go.Proofs.YtleiipbkfaajfaaDoor
end

section
set_option linter.unusedVariables false
set_option linter.unusedSimpArgs false
set_option maxRecDepth 20000
set_option maxHeartbeats 8000000
set_option synthInstance.maxSize 1000000
set_option synthInstance.maxHeartbeats 400000
namespace Go.Proofs.YtleiipbkfaajfaaDoor
open Go.RowKit
def F.R08_order_j1 (k5 : Int → Int → Option ((List Int) × Bool)) (y14 : Int) (y17 : Int) : Option ((List Int) × Bool) := A.gd (Z.R64 (y14 + 1)) (k5 y17 (y14 + 1))
def F.R08_order_j2 (k5 : Int → Int → Option ((List Int) × Bool)) (y12 : Int) (y14 : Int) (y20 : Bool) : Option ((List Int) × Bool) := if y20 = true then (F.R08_order_j1 k5 y14 y14) else (F.R08_order_j1 k5 y14 y12)
def F.R08_order_l3 (k4 : (List Bool) → (List Int) → Option ((List Int) × Bool)) (a0 : D23) (xs6 : List Bool) (xs10 : List Int) : Nat → Int → Int → Option ((List Int) × Bool)
  | 0, _, _ => none
  | f + 1, y12, y14 => if (bif decide (y14 < ((a0).length : Int)) then decide (y14 < ((a0).length : Int)) else false) = true then (if y12 < 0 then ((A.ix xs6 y14).bind fun x21 => (if (!x21) = true then ((A.ix a0 y14).bind fun x26 => ((F.R08_ready a0 (x26.1, x26.2.1, x26.2.2.1, (x26.2.2.2.1.1, x26.2.2.2.1.2.1, x26.2.2.2.1.2.2), x26.2.2.2.2.1, x26.2.2.2.2.2.1, x26.2.2.2.2.2.2) xs6).bind fun r34 => (F.R08_order_j2 (F.R08_order_l3 k4 a0 xs6 xs10 f) y12 y14 r34))) else (F.R08_order_j2 (F.R08_order_l3 k4 a0 xs6 xs10 f) y12 y14 false))) else (F.R08_order_j2 (F.R08_order_l3 k4 a0 xs6 xs10 f) y12 y14 false)) else (if y12 < 0 then (some ([], false)) else ((A.ix xs6 y12).bind fun x36 => (A.gd ((List.length (α := Int) xs10 + List.length (α := Int) [y12]) * 8 ≤ 140737488355328) (k4 (xs6.set y12.toNat true) (xs10 ++ [y12])))))
def F.R08_order_l4 (a0 : D23) : Nat → (List Bool) → (List Int) → Option ((List Int) × Bool)
  | 0, _, _ => none
  | f + 1, xs6, xs10 => if ((xs10).length : Int) < ((a0).length : Int) then (F.R08_order_l3 (F.R08_order_l4 a0 f) a0 xs6 xs10 A.FU (-1) 0) else (some (xs10, true))
def F.R08_order (a0 : D23) : Option ((List Int) × Bool) := A.gd (1 * ((a0).length) ≤ 140737488355328) (F.R08_order_l4 a0 A.FU (List.replicate ((a0).length) false) [])
theorem R08_order_ok (a0 : D23) (A0_ : Option Addr) (c1_ : Nat) (r : (List Int) × Bool) (hF : F.R08_order a0 = some r) :
    A.Ct Tryd.prog 84 [.agg #[.slice A0_ ((a0).length) c1_]] [(0, .sh (.slice T39) [.slice A0_ (a0).length c1_] a0)] [] (fun v H' => ∃ (A0' : Option Addr) (c1' : Nat), v = .tuple #[.slice A0' ((r.1).length) c1', .bool r.2] ∧ H' = [(0, .own (Z.Ty.int .i64) 3 A0' c1' r.1)]) := by
 refine A.Ct.enter Tryd.func84 rfl Tryd.ntmps84 rfl fun w0 F0 => ?_
 rw [F.R08_order] at hF
 refine A.xl 1 ?_
 refine A.AL.box 1 (cs := [.slice A0_ ((a0).length) c1_]) fun g1 => ?_
 refine A.q0 [] [] [.n, .n] [] ?_
 refine A.dl 2 ?_
 refine A.q0 [] [] [.n] [(4, .slice none 0 0)] ?_
 refine A.dl 2 ?_
 refine A.q0 [1] [] [.n, .b 0 0, .n] [(10, .int .i64 ((a0).length : Int))] ?_
 obtain ⟨hc3, hF⟩ := A.gd_some hF
 refine A.AL.mks 2 (t := Z.Ty.bool) (u := (a0).length) (false : Bool) hc3 inf4 (fun g2 => ?_) rfl rfl rfl rfl rfl
 refine A.q0 [] [] [.n] [(5, .slice (some ⟨g2, 0, none⟩) ((a0).length) ((a0).length))] ?_
 refine A.dx 3 ?_
 refine A.nil 145 (Z.Ty.int .i64) 3 ?_
 refine A.lp_ [1, 5] [0, 1] (fun f nl nh => ∃ (xs6 : List Bool), ∃ (xs10 : List Int), ∃ (A8 : Option Addr), ∃ (c9 : Nat), nl = [(4, .slice A8 ((xs10).length) c9)] ∧ nh = [(2, .own Z.Ty.bool 4 (some ⟨g2, 0, none⟩) ((a0).length) xs6), (145, .own (Z.Ty.int .i64) 3 A8 c9 xs10)] ∧ (a0).length = xs6.length ∧ F.R08_order_l4 a0 f xs6 xs10 = some r) ⟨(List.replicate ((a0).length) false), [], none, 0, rfl, rfl, (by rw [List.length_replicate]), hF⟩ ?_
 rintro f11 _ _ ⟨xs6, xs10, A8, c9, rfl, rfl, hn7, hF⟩
 rcases f11 with _ | f11
 ·exact A.no0 hF
 rw [F.R08_order_l4] at hF
 refine A.xl 2 ?_
 refine A.q0 [1] [] [.n, .n, .n, .b 0 0, .n, .n] [(17, .bool (decide (((xs10).length : Int) < ((a0).length : Int))))] ?_
 refine A.dx 1 ?_
 refine A.AX.cnd rfl hF (fun hb hF => ?_) (fun hb hF => ?_)
 ·refine A.xl 4 ?_
  refine A.q0 [] [] [.n] [(6, .int .i64 (-1))] ?_
  refine A.dl 3 ?_
  refine A.q0 [] [] [.n] [(7, .int .i64 0)] ?_
  refine A.dx 2 ?_
  refine A.lp_ [1, 4, 5] [0, 1, 2, 145] (fun f nl nh => ∃ (y12 : Int), ∃ (y14 : Int), nl = [(6, .int .i64 y12), (7, .int .i64 y14)] ∧ nh = [] ∧ IntKind.i64.has y12 ∧ IntKind.i64.has y14 ∧ F.R08_order_l3 (F.R08_order_l4 a0 f11) a0 xs6 xs10 f y12 y14 = some r) ⟨(-1), 0, rfl, rfl, (A.hasl .i64 (-1) rfl), (A.hasl .i64 (0) rfl), hF⟩ ?_
  rintro f16 _ _ ⟨y12, y14, rfl, rfl, hy13, hy15, hF⟩
  rcases f16 with _ | f16
  ·exact A.no0 hF
  rw [F.R08_order_l3] at hF
  refine A.xl 2 ?_
  refine A.q0 [1] [] [.n, .n, .b 0 0, .n, .n, .n, .sy .n, .sy .n, .sy .n, .sy .n, .pk] [(28, .bool (bif decide (y14 < ((a0).length : Int)) then decide (y14 < ((a0).length : Int)) else false))] ?_
  refine A.dx 1 ?_
  refine A.AX.cnb rfl hF (fun hb hF => ?_) (fun hb hF => ?_)
  ·refine A.xx 2 ?_
   refine A.AX.join [1, 4, 5, 7] [0, 1, 2, 145] (fun nl nh => ∃ (y17 : Int), nl = [(6, .int .i64 y17)] ∧ nh = [] ∧ IntKind.i64.has y17 ∧ F.R08_order_j1 (F.R08_order_l3 (F.R08_order_l4 a0 f11) a0 xs6 xs10 f16) y14 y17 = some r) ?_ ?_
   ·refine A.xx 1 ?_
    refine A.AX.join [1, 4, 5, 6, 7] [0, 1, 2, 145] (fun nl nh => ∃ (y20 : Bool), nl = [(49, .bool y20)] ∧ nh = [] ∧ F.R08_order_j2 (F.R08_order_l3 (F.R08_order_l4 a0 f11) a0 xs6 xs10 f16) y12 y14 y20 = some r) ?_ ?_
    ·refine A.AX.dr mixed 19 19 (A.mb 19 0) ?_
     refine A.hq A.pb [] [0, 1, 2, 145] [] [] (A.mb 19 7) 16 [(0, .n), (1, .n), (2, .n)] [(33, .bool (decide (y12 < 0)))] ?_
     refine A.AH.cnp (j := 33) rfl hF (fun hb hF => ?_) (fun hb hF => ?_)
     ·refine A.hq A.pb [0, 1, 2, 145] [0, 1, 2, 145] [] [] (A.mb 19 31) 14 [(3, .on .n), (4, .on .n)] [(34, .slice (some ⟨g2, 0, none⟩) ((a0).length) ((a0).length)), (35, .int .i64 y14)] ?_
      refine A.cst 34 (Z.slice_n (show (a0).length = (xs6).length from hn7)) ?_
      obtain ⟨x21, hv22, hF⟩ := A.bd_some hF
      refine A.AH.pko 2 514 hv22 fun ho23 => ?_
      intro g25 hA24
      refine A.AH.vg A.pb [0, 1, 2, 145] [0, 1, 2, 145, 514] 5 (A.mb 19 63) (dj := 33) rfl (fun a w hf hh => A.r_ixo (t := Z.Ty.bool) hv22 hA24 hf) ?_
      refine A.hq A.pb [0, 1, 2, 145, 514] [0, 1, 2, 145, 514] [] [514] (A.mb 19 1023) 9 [(6, .on (.e 0 0)), (7, .on .n), (8, .n), (9, .n)] [(40, .bool (!x21))] ?_
      refine A.AH.cnd (j := 40) rfl hF (fun hF => ?_) (fun hF => ?_)
      ·refine A.hq A.pb [0, 1, 2, 145, 514] [0, 1, 2, 145, 514] [1] [] (A.mb 19 81919) 4 [(10, .on (.b 0 0)), (11, .on .n), (13, .on .n), (16, .on .n), (12, .on (.b 0 0))] [(41, .agg #[.slice A0_ ((a0).length) c1_]), (44, .int .i64 y14), (47, .slice (some ⟨g2, 0, none⟩) ((a0).length) ((a0).length)), (43, .slice A0_ ((a0).length) c1_)] ?_
       obtain ⟨x26, hv27, hF⟩ := A.bd_some hF
       refine A.AH.pks 0 515 hv27 fun ho28 => ?_
       intro A30 c31 b32 o33 hA29
       refine A.AH.vg A.pb [0, 1, 2, 145, 514] [0, 1, 2, 145, 514, 515, 516] 14 (A.mb 19 98303) (dj := 40) rfl (fun a w hf hh => A.r_ixa (t := T39) hv27 hA29 hf) ?_
       refine A.hq A.pb [0, 1, 2, 145, 514, 515, 516] [0, 1, 2, 145, 514, 515, 516] [] [515] (A.mb 19 131071) 2 [(15, .on (.e 0 0))] [(46, .agg #[.int .i64 x26.1, .int .i64 x26.2.1, .slice A30 ((x26.2.2.1).length) c31, .int .i64 x26.2.2.2.1.1, .int .i64 x26.2.2.2.1.2.1, .string x26.2.2.2.1.2.2, .string x26.2.2.2.2.1, .int .i64 x26.2.2.2.2.2.1, .int .i64 x26.2.2.2.2.2.2])] ?_
       refine A.AH.one 17 ?_
       refine A.AL.on (dj := 40) rfl rfl ?_
       refine A.cst 47 (Z.slice_n (show (a0).length = (xs6).length from hn7)) ?_
       obtain ⟨r34, hv35, hF⟩ := A.bd_some hF
       refine A.AL.call 517 [] (first := []) (cap := []) cf103 (R08_ready_ok a0 (x26.1, x26.2.1, x26.2.2.1, (x26.2.2.2.1.1, x26.2.2.2.1.2.1, x26.2.2.2.1.2.2), x26.2.2.2.2.1, x26.2.2.2.2.2.1, x26.2.2.2.2.2.2) xs6 A0_ c1_ A30 c31 (some ⟨g2, 0, none⟩) ((a0).length) ho28.1 ho28.2.1 ho28.2.2.2.1.1 ho28.2.2.2.1.2.1 ho28.2.2.2.1.2.2 ho28.2.2.2.2.1 ho28.2.2.2.2.2.1 ho28.2.2.2.2.2.2 r34 hv35) (.s 0 (.s 516 (.o 2 .nil))) ?_
       rintro _ _ ⟨rfl, rfl⟩
       refine ⟨by kernel_rfl, ?_⟩
       refine A.AH.nx (A.mb 19 262143) [0, 1, 2, 145, 514, 515, 516] ?_
       refine A.hq A.pb [0, 1, 2, 145, 514, 515, 516] [0, 1, 2, 145, 514, 515, 516] [] [] (A.mb 19 524287) 0 [(18, .n)] [(49, .bool r34)] ?_
       refine A.AH.done ?_
       exact A.j ⟨r34, rfl, rfl, hF⟩
      refine A.hq A.pb [0, 1, 2, 145, 514] [0, 1, 2, 145, 514] [] [] (A.mb 19 524287) 0 [(10, .off), (11, .off), (13, .off), (16, .off), (12, .off), (14, .off), (15, .off), (17, .off), (18, .n)] [(49, .bool false)] ?_
      refine A.AH.done ?_
      exact A.j ⟨false, rfl, rfl, hF⟩
     refine A.hq A.pb [0, 1, 2, 145] [0, 1, 2, 145] [] [] (A.mb 19 524287) 0 [(3, .off), (4, .off), (5, .off), (6, .off), (7, .off), (8, .n), (9, .n), (10, .off), (11, .off), (13, .off), (16, .off), (12, .off), (14, .off), (15, .off), (17, .off), (18, .n)] [(49, .bool false)] ?_
     refine A.AH.done ?_
     exact A.j ⟨false, rfl, rfl, hF⟩
    rintro _ _ ⟨y20, rfl, rfl, hF⟩
    rw [F.R08_order_j2] at hF
    refine A.AX.cnb rfl hF (fun hb hF => ?_) (fun hb hF => ?_)
    ·refine A.xl 0 ?_
     refine A.q0 [] [] [.n, .n] [(6, .int .i64 y14)] ?_
     refine A.de 1 ?_
     exact A.j ⟨y14, rfl, rfl, hy15, hF⟩
    refine A.xe 2 ?_
    exact A.j ⟨y12, rfl, rfl, hy13, hF⟩
   rintro _ _ ⟨y17, rfl, rfl, hy18, hF⟩
   rw [F.R08_order_j1] at hF
   refine A.xl 0 ?_
   obtain ⟨hc19, hF⟩ := A.gd_some hF
   refine A.q [] [] [.n, .n, .n] [Z.R64 (y14 + 1)] [(7, .int .i64 (y14 + 1))] hc19 ?_
   refine A.AL.done ?_
   exact A.j ⟨_, Nat.lt_succ_self _, ⟨y17, (y14 + 1), rfl, rfl, hy18, (Z.i64_has hc19), hF⟩⟩
  refine A.xl 4 ?_
  refine A.q0 [] [] [.n, .n] [(52, .bool (decide (y12 < 0)))] ?_
  refine A.dx 1 ?_
  refine A.AX.cnd rfl hF (fun hb hF => ?_) (fun hb hF => ?_)
  ·refine A.xl 1 ?_
   refine A.q0 [] [] [.n, .n] [(2, .slice none 0 0), (3, .bool false)] ?_
   refine A.dx 1 ?_
   obtain rfl := Option.some.inj hF
   refine A.nil 557 (Z.Ty.int .i64) 3 ?_
   exact A.rt2 [(0, 557)] ⟨none, 0, rfl, rfl⟩
  refine A.xl 3 ?_
  refine A.q0 [] [] [.n, .n] [(53, .slice (some ⟨g2, 0, none⟩) ((a0).length) ((a0).length)), (54, .int .i64 y12)] ?_
  refine A.cst 53 (Z.slice_n (show (a0).length = (xs6).length from hn7)) ?_
  obtain ⟨x36, hv37, hF⟩ := A.bd_some hF
  refine A.AL.ixo 2 558 hv37 fun ho38 => ?_
  intro g39 hA40
  refine A.AL.setel 2 558 [558] (o := 0) (m := 1) (t := Z.Ty.bool) (new := [.bool true]) (es := [.bool x36]) true hv37 hA40 rfl ?_
  refine A.dl 1 ?_
  refine A.q0 [] [] [.n, .n] [(56, .slice A8 ((xs10).length) c9), (57, .int .i64 y12)] ?_
  refine A.AL.bsl 559 (ty := (Z.Ty.int .i64)) (cs := [.int .i64 y12]) [y12] ⟨⟨rfl, hy13⟩, rfl⟩ (fun g41 => ?_) Tryd.zeroValue3 Tryd.sizeOf3
  obtain ⟨hl44, hF⟩ := A.gd_some hF
  refine A.AL.app (k := 145) [] (A.rowO (k := 559) rfl) inf3 hl44 fun A42 c43 => ?_
  refine A.q0 [] [] [.n] [(4, .slice A42 ((xs10 ++ [y12]).length) c43)] ?_
  refine A.de 1 ?_
  exact A.j ⟨_, Nat.lt_succ_self _, ⟨(xs6.set y12.toNat true), (xs10 ++ [y12]), A42, c43, rfl, rfl, (by rw [List.length_set]; exact hn7), hF⟩⟩
 refine A.xl 3 ?_
 refine A.q0 [] [] [.n, .n, .n] [(2, .slice A8 ((xs10).length) c9), (3, .bool true)] ?_
 refine A.dx 1 ?_
 obtain rfl := Option.some.inj hF
 exact A.rt2 [(0, 145)] ⟨A8, c9, rfl, rfl⟩

def F.R08_depth_j1 (y6 : Int) : Option Int := some y6
def F.R08_depth_j2 (y4 : Int) : Option Int := if (4 : Int) < y4 then (F.R08_depth_j1 (-1)) else (F.R08_depth_j1 y4)
def F.R08_depth_j3 (y2 : Int) (y23 : Bool) : Option Int := if y23 = true then (if y2 ≠ 0 then (F.R08_depth_j2 (-1)) else (F.R08_depth_j2 y2)) else (F.R08_depth_j2 y2)
def F.R08_depth_j4 (a0 : D39) (a1 : (List Int)) (y2 : Int) (y10 : Bool) : Option Int := if y10 = true then ((A.ix a1 0).bind fun x11 => ((A.ix a1 1).bind fun x17 => (if x11 ≠ x17 then (F.R08_depth_j2 (-1)) else (F.R08_depth_j2 y2)))) else (if a0.2.1 = 11 then (F.R08_depth_j3 y2 (decide (a0.2.1 = 11))) else (if a0.2.1 = 16 then (F.R08_depth_j3 y2 (decide (a0.2.1 = 16))) else (F.R08_depth_j3 y2 (decide (a0.2.1 = 15)))))
def F.R08_depth_j5 (a0 : D39) (a1 : (List Int)) (y2 : Int) : Option Int := if a0.2.1 = 14 then (F.R08_depth_j2 a0.2.2.2.2.2.2) else (if a0.2.1 = 12 then (A.gd (Z.R64 (y2 + 1)) (F.R08_depth_j2 (y2 + 1))) else (if a0.2.1 = 13 then (A.gd (Z.R64 (y2 - 1)) (F.R08_depth_j2 (y2 - 1))) else (if a0.2.1 = 5 then (F.R08_depth_j4 a0 a1 y2 (decide (a0.2.1 = 5))) else (F.R08_depth_j4 a0 a1 y2 (decide (a0.2.1 = 9))))))
def F.R08_depth (a0 : D39) (a1 : (List Int)) : Option Int := if (0 : Int) < ((a1).length : Int) then ((A.ix a1 0).bind fun x24 => (F.R08_depth_j5 a0 a1 x24)) else (F.R08_depth_j5 a0 a1 0)
theorem R08_depth_ok (a0 : D39) (a1 : (List Int)) (A2_ : Option Addr) (c3_ : Nat) (A10_ : Option Addr) (c11_ : Nat) (h0_ : IntKind.i64.has a0.1) (h1_ : IntKind.i64.has a0.2.1) (h4_ : IntKind.i64.has a0.2.2.2.1.1) (h5_ : IntKind.i64.has a0.2.2.2.1.2.1) (h6_ : a0.2.2.2.1.2.2.size ≤ maxLen) (h7_ : a0.2.2.2.2.1.size ≤ maxLen) (h8_ : IntKind.i64.has a0.2.2.2.2.2.1) (h9_ : IntKind.i64.has a0.2.2.2.2.2.2) (r : Int) (hF : F.R08_depth a0 a1 = some r) :
    A.Ct Tryd.prog 104 [.agg #[.int .i64 a0.1, .int .i64 a0.2.1, .slice A2_ ((a0.2.2.1).length) c3_, .int .i64 a0.2.2.2.1.1, .int .i64 a0.2.2.2.1.2.1, .string a0.2.2.2.1.2.2, .string a0.2.2.2.2.1, .int .i64 a0.2.2.2.2.2.1, .int .i64 a0.2.2.2.2.2.2], .slice A10_ ((a1).length) c11_] [(0, .sh (.slice (Z.Ty.int .i64)) [.slice A2_ (a0.2.2.1).length c3_] a0.2.2.1), (1, .ln (Z.Ty.int .i64) A10_ c11_ a1)] [] (fun v H' => v = .int .i64 r ∧ H' = [] ∧ IntKind.i64.has r) := by
 refine A.Ct.enter Tryd.func104 rfl Tryd.ntmps104 rfl fun w0 F0 => ?_
 rw [F.R08_depth] at hF
 refine A.xl 1 ?_
 refine A.AL.box 2 (cs := [.int .i64 a0.1, .int .i64 a0.2.1, .slice A2_ ((a0.2.2.1).length) c3_, .int .i64 a0.2.2.2.1.1, .int .i64 a0.2.2.2.1.2.1, .string a0.2.2.2.1.2.2, .string a0.2.2.2.2.1, .int .i64 a0.2.2.2.2.2.1, .int .i64 a0.2.2.2.2.2.2]) fun g1 => ?_
 refine A.q0 [] [] [.n] [] ?_
 refine A.dl 2 ?_
 refine A.q0 [] [] [.n] [(5, .int .i64 0)] ?_
 refine A.dx 1 ?_
 refine A.AX.join [1, 2] [0, 1, 2] (fun nl nh => ∃ (y2 : Int), nl = [(5, .int .i64 y2)] ∧ nh = [] ∧ IntKind.i64.has y2 ∧ F.R08_depth_j5 a0 a1 y2 = some r) ?_ ?_
 ·refine A.xl 1 ?_
  refine A.q0 [] [] [.n, .n, .n] [(8, .bool (decide ((0 : Int) < ((a1).length : Int))))] ?_
  refine A.dx 1 ?_
  refine A.AX.cnd rfl hF (fun hb hF => ?_) (fun hb hF => ?_)
  ·refine A.xl 0 ?_
   refine A.q0 [] [] [.n] [(9, .slice A10_ ((a1).length) c11_)] ?_
   obtain ⟨x24, hv25, hF⟩ := A.bd_some hF
   refine A.AL.ixl 1 3 hv25 fun ho26 => ?_
   intro b27 o28
   refine A.q0 [] [3] [.e 0 0, .n] [(5, .int .i64 x24)] ?_
   refine A.AL.done ?_
   exact A.j ⟨x24, rfl, rfl, ho26, hF⟩
  refine A.xe 1 ?_
  exact A.j ⟨0, rfl, rfl, (A.hasl .i64 (0) rfl), hF⟩
 rintro _ _ ⟨y2, rfl, rfl, hy3, hF⟩
 rw [F.R08_depth_j5] at hF
 refine A.AX.join [] [] (fun nl nh => ∃ (y4 : Int), nl = [(5, .int .i64 y4)] ∧ nh = [] ∧ IntKind.i64.has y4 ∧ F.R08_depth_j2 y4 = some r) ?_ ?_
 ·refine A.xl 1 ?_
  refine A.q0 [2] [] [.n, .b 0 1] [(13, .int .i64 a0.2.1)] ?_
  refine A.dl 3 ?_
  refine A.q0 [] [] [.n, .n] [(14, .bool (decide (a0.2.1 = 14)))] ?_
  refine A.dx 1 ?_
  refine A.AX.cnd rfl hF (fun hb hF => ?_) (fun hb hF => ?_)
  ·refine A.xl 0 ?_
   refine A.q0 [2] [] [.n, .b 0 8, .n] [(5, .int .i64 a0.2.2.2.2.2.2)] ?_
   refine A.de 1 ?_
   exact A.j ⟨a0.2.2.2.2.2.2, rfl, rfl, h9_, hF⟩
  refine A.xl 1 ?_
  refine A.q0 [] [] [.n, .n] [(18, .bool (decide (a0.2.1 = 12)))] ?_
  refine A.dx 1 ?_
  refine A.AX.cnd rfl hF (fun hb hF => ?_) (fun hb hF => ?_)
  ·refine A.xl 0 ?_
   obtain ⟨hc8, hF⟩ := A.gd_some hF
   refine A.q [] [] [.n, .n, .n] [Z.R64 (y2 + 1)] [(5, .int .i64 (y2 + 1))] hc8 ?_
   refine A.de 1 ?_
   exact A.j ⟨(y2 + 1), rfl, rfl, (Z.i64_has hc8), hF⟩
  refine A.xl 1 ?_
  refine A.q0 [] [] [.n, .n] [(22, .bool (decide (a0.2.1 = 13)))] ?_
  refine A.dx 1 ?_
  refine A.AX.cnd rfl hF (fun hb hF => ?_) (fun hb hF => ?_)
  ·refine A.xl 0 ?_
   obtain ⟨hc9, hF⟩ := A.gd_some hF
   refine A.q [] [] [.n, .n, .n] [Z.R64 (y2 - 1)] [(5, .int .i64 (y2 - 1))] hc9 ?_
   refine A.de 1 ?_
   exact A.j ⟨(y2 - 1), rfl, rfl, (Z.i64_has hc9), hF⟩
  refine A.AX.join [1, 5, 13] [1] (fun nl nh => ∃ (y10 : Bool), nl = [(26, .bool y10)] ∧ nh = [] ∧ F.R08_depth_j4 a0 a1 y2 y10 = some r) ?_ ?_
  ·refine A.xl 1 ?_
   refine A.q0 [] [] [.n, .n] [(26, .bool (decide (a0.2.1 = 5)))] ?_
   refine A.dx 1 ?_
   refine A.AX.cnd rfl hF (fun hb hF => ?_) (fun hb hF => ?_)
   ·refine A.xe 1 ?_
    exact A.j ⟨(decide (a0.2.1 = 5)), rfl, rfl, hF⟩
   refine A.xl 0 ?_
   refine A.q0 [] [] [.n, .n] [(26, .bool (decide (a0.2.1 = 9)))] ?_
   refine A.AL.done ?_
   exact A.j ⟨(decide (a0.2.1 = 9)), rfl, rfl, hF⟩
  rintro _ _ ⟨y10, rfl, rfl, hF⟩
  rw [F.R08_depth_j4] at hF
  refine A.AX.cnb rfl hF (fun hb hF => ?_) (fun hb hF => ?_)
  ·refine A.xx 1 ?_
   refine A.AX.dr mixed 7 7 (A.mb 7 0) ?_
   refine A.hq A.pb [] [1] [] [] (A.mb 7 9) 5 [(0, .n), (3, .n)] [(29, .slice A10_ ((a1).length) c11_), (32, .slice A10_ ((a1).length) c11_)] ?_
   obtain ⟨x11, hv12, hF⟩ := A.bd_some hF
   refine A.AH.pkl 1 4 hv12 fun ho13 => ?_
   intro b15 o16 hA14
   refine A.AH.v A.pb [1] [1, 4] 1 (A.mb 7 11) rfl (fun a w hf hh => A.r_ixa (t := (Z.Ty.int .i64)) hv12 hA14 hf) ?_
   refine A.hq A.pb [1, 4] [1, 4] [] [4] (A.mb 7 15) 3 [(2, .e 0 0)] [(31, .int .i64 x11)] ?_
   obtain ⟨x17, hv18, hF⟩ := A.bd_some hF
   refine A.AH.pkl 1 5 hv18 fun ho19 => ?_
   intro b21 o22 hA20
   refine A.AH.v A.pb [1, 4] [1, 4, 5] 4 (A.mb 7 31) rfl (fun a w hf hh => A.r_ixa (t := (Z.Ty.int .i64)) hv18 hA20 hf) ?_
   refine A.hq A.pb [1, 4, 5] [1, 4, 5] [] [5] (A.mb 7 127) 0 [(5, .e 0 0), (6, .n)] [(35, .bool (decide (x11 ≠ x17)))] ?_
   refine A.AH.done ?_
   refine A.ex 1 ?_
   refine A.AX.cnd rfl hF (fun hb hF => ?_) (fun hb hF => ?_)
   ·refine A.xl 0 ?_
    refine A.q0 [] [] [.n] [(5, .int .i64 (-1))] ?_
    refine A.de 1 ?_
    exact A.j ⟨(-1), rfl, rfl, (A.hasl .i64 (-1) rfl), hF⟩
   refine A.xe 2 ?_
   exact A.j ⟨y2, rfl, rfl, hy3, hF⟩
  refine A.AX.join [5] [] (fun nl nh => ∃ (y23 : Bool), nl = [(36, .bool y23)] ∧ nh = [] ∧ F.R08_depth_j3 y2 y23 = some r) ?_ ?_
  ·refine A.xl 1 ?_
   refine A.q0 [] [] [.n, .n] [(36, .bool (decide (a0.2.1 = 11)))] ?_
   refine A.dx 1 ?_
   refine A.AX.cnd rfl hF (fun hb hF => ?_) (fun hb hF => ?_)
   ·refine A.xe 1 ?_
    exact A.j ⟨(decide (a0.2.1 = 11)), rfl, rfl, hF⟩
   refine A.xl 1 ?_
   refine A.q0 [] [] [.n, .n] [(36, .bool (decide (a0.2.1 = 16)))] ?_
   refine A.dx 1 ?_
   refine A.AX.cnd rfl hF (fun hb hF => ?_) (fun hb hF => ?_)
   ·refine A.xe 1 ?_
    exact A.j ⟨(decide (a0.2.1 = 16)), rfl, rfl, hF⟩
   refine A.xl 0 ?_
   refine A.q0 [] [] [.n, .n] [(36, .bool (decide (a0.2.1 = 15)))] ?_
   refine A.AL.done ?_
   exact A.j ⟨(decide (a0.2.1 = 15)), rfl, rfl, hF⟩
  rintro _ _ ⟨y23, rfl, rfl, hF⟩
  rw [F.R08_depth_j3] at hF
  refine A.AX.cnb rfl hF (fun hb hF => ?_) (fun hb hF => ?_)
  ·refine A.xl 1 ?_
   refine A.q0 [] [] [.n, .n] [(41, .bool (decide (y2 ≠ 0)))] ?_
   refine A.dx 1 ?_
   refine A.AX.cnd rfl hF (fun hb hF => ?_) (fun hb hF => ?_)
   ·refine A.xl 0 ?_
    refine A.q0 [] [] [.n] [(5, .int .i64 (-1))] ?_
    refine A.de 1 ?_
    exact A.j ⟨(-1), rfl, rfl, (A.hasl .i64 (-1) rfl), hF⟩
   refine A.xe 2 ?_
   exact A.j ⟨y2, rfl, rfl, hy3, hF⟩
  refine A.xe 2 ?_
  exact A.j ⟨y2, rfl, rfl, hy3, hF⟩
 rintro _ _ ⟨y4, rfl, rfl, hy5, hF⟩
 rw [F.R08_depth_j2] at hF
 refine A.AX.join [] [] (fun nl nh => ∃ (y6 : Int), nl = [(5, .int .i64 y6)] ∧ nh = [] ∧ IntKind.i64.has y6 ∧ F.R08_depth_j1 y6 = some r) ?_ ?_
 ·refine A.xl 1 ?_
  refine A.q0 [] [] [.n, .n] [(43, .bool (decide ((4 : Int) < y4)))] ?_
  refine A.dx 1 ?_
  refine A.AX.cnd rfl hF (fun hb hF => ?_) (fun hb hF => ?_)
  ·refine A.xl 0 ?_
   refine A.q0 [] [] [.n] [(5, .int .i64 (-1))] ?_
   refine A.AL.done ?_
   exact A.j ⟨(-1), rfl, rfl, (A.hasl .i64 (-1) rfl), hF⟩
  refine A.xe 1 ?_
  exact A.j ⟨y4, rfl, rfl, hy5, hF⟩
 rintro _ _ ⟨y6, rfl, rfl, hy7, hF⟩
 rw [F.R08_depth_j1] at hF
 refine A.xl 1 ?_
 refine A.q0 [] [] [.n, .n] [(4, .int .i64 y6)] ?_
 refine A.dx 1 ?_
 obtain rfl := Option.some.inj hF
 exact A.rt1 [] ⟨rfl, rfl, hy7⟩
end Go.Proofs.YtleiipbkfaajfaaDoor
end

section
set_option linter.unusedVariables false
set_option linter.unusedSimpArgs false
set_option maxRecDepth 20000
set_option maxHeartbeats 8000000
set_option synthInstance.maxSize 1000000
set_option synthInstance.maxHeartbeats 400000
namespace Go.Proofs.YtleiipbkfaajfaaDoor
open Go.RowKit
def F.R08_depths_l1 (k5 : (List Int) → Int → Option ((List Int) × Bool)) (a0 : D23) (a1 : (List Int)) (xs6 : List Int) (y8 : Int) (x17 : D39) : Nat → (List Int) → Int → Option ((List Int) × Bool)
  | 0, _, _ => none
  | f + 1, xs28, y29 => if y29 < ((x17.2.2.1).length : Int) then ((A.ix x17.2.2.1 y29).bind fun x32 => ((F.R08_index a0 x32).bind fun r38 => ((A.ix xs6 r38).bind fun x41 => (A.gd ((List.length (α := Int) xs28 + List.length (α := Int) [x41]) * 8 ≤ 140737488355328) (A.gd (Z.R64 (y29 + 1)) ((F.R08_depths_l1 k5 a0 a1 xs6 y8 x17 f) (xs28 ++ [x41]) (y29 + 1))))))) else ((A.ix a1 y8).bind fun x51 => ((F.R08_depth (x17.1, x17.2.1, x17.2.2.1, (x17.2.2.2.1.1, x17.2.2.2.1.2.1, x17.2.2.2.1.2.2), x17.2.2.2.2.1, x17.2.2.2.2.2.1, x17.2.2.2.2.2.2) xs28).bind fun r57 => ((A.ix xs6 x51).bind fun x60 => ((A.ix a1 y8).bind fun x65 => ((A.ix (xs6.set x51.toNat r57) x65).bind fun x70 => (if x70 < 0 then (some ([], false)) else (A.gd (Z.R64 (y8 + 1)) (k5 (xs6.set x51.toNat r57) (y8 + 1)))))))))
def F.R08_depths_j2 (k7 : Int → Option ((List Int) × Bool)) (y76 : Int) (y87 : Bool) : Option ((List Int) × Bool) := if y87 = true then (some ([], false)) else (A.gd (Z.R64 (y76 + 1)) (k7 (y76 + 1)))
def F.R08_depths_l3 (a0 : D23) (xs6 : List Int) : Nat → Int → Option ((List Int) × Bool)
  | 0, _ => none
  | f + 1, y76 => if y76 < ((a0).length : Int) then ((A.ix a0 y76).bind fun x79 => (if x79.2.1 = 14 then ((A.ix x79.2.2.1 0).bind fun x89 => ((F.R08_index a0 x89).bind fun r95 => ((A.ix xs6 r95).bind fun x98 => (F.R08_depths_j2 (F.R08_depths_l3 a0 xs6 f) y76 (decide (x98 ≠ x79.2.2.2.2.2.2)))))) else (F.R08_depths_j2 (F.R08_depths_l3 a0 xs6 f) y76 false))) else (some (xs6, true))
def F.R08_depths_l4 (a0 : D23) (a1 : (List Int)) : Nat → (List Int) → Int → Option ((List Int) × Bool)
  | 0, _, _ => none
  | f + 1, xs6, y8 => if y8 < ((a1).length : Int) then ((A.ix a1 y8).bind fun x11 => ((A.ix a0 x11).bind fun x17 => (F.R08_depths_l1 (F.R08_depths_l4 a0 a1 f) a0 a1 xs6 y8 x17 A.FU [] 0))) else (F.R08_depths_l3 a0 xs6 A.FU 0)
def F.R08_depths (a0 : D23) (a1 : (List Int)) : Option ((List Int) × Bool) := A.gd (8 * ((a0).length) ≤ 140737488355328) (F.R08_depths_l4 a0 a1 A.FU (List.replicate ((a0).length) 0) 0)
theorem R08_depths_ok (a0 : D23) (a1 : (List Int)) (A0_ : Option Addr) (c1_ : Nat) (A2_ : Option Addr) (c3_ : Nat) (r : (List Int) × Bool) (hF : F.R08_depths a0 a1 = some r) :
    A.Ct Tryd.prog 85 [.agg #[.slice A0_ ((a0).length) c1_], .slice A2_ ((a1).length) c3_] [(0, .sh (.slice T39) [.slice A0_ (a0).length c1_] a0), (1, .ln (Z.Ty.int .i64) A2_ c3_ a1)] [] (fun v H' => ∃ (A0' : Option Addr) (c1' : Nat), v = .tuple #[.slice A0' ((r.1).length) c1', .bool r.2] ∧ H' = [(0, .own (Z.Ty.int .i64) 3 A0' c1' r.1)]) := by
 refine A.Ct.enter Tryd.func85 rfl Tryd.ntmps85 rfl fun w0 F0 => ?_
 rw [F.R08_depths] at hF
 refine A.xl 1 ?_
 refine A.AL.box 2 (cs := [.slice A0_ ((a0).length) c1_]) fun g1 => ?_
 refine A.q0 [] [] [.n, .n] [] ?_
 refine A.dl 2 ?_
 refine A.q0 [2] [] [.n, .b 0 0, .n] [(15, .int .i64 ((a0).length : Int))] ?_
 obtain ⟨hc3, hF⟩ := A.gd_some hF
 refine A.AL.mks 3 (t := (Z.Ty.int .i64)) (u := (a0).length) (0 : Int) hc3 inf3 (fun g2 => ?_) rfl rfl rfl rfl ⟨rfl, by decide⟩
 refine A.q0 [] [] [.n] [(6, .slice (some ⟨g2, 0, none⟩) ((a0).length) ((a0).length))] ?_
 refine A.dl 3 ?_
 refine A.q0 [] [] [.n] [(7, .int .i64 0)] ?_
 refine A.dx 2 ?_
 refine A.lp_ [1, 2, 6] [0, 1, 2] (fun f nl nh => ∃ (xs6 : List Int), ∃ (y8 : Int), nl = [(7, .int .i64 y8)] ∧ nh = [(3, .own (Z.Ty.int .i64) 3 (some ⟨g2, 0, none⟩) ((a0).length) xs6)] ∧ (a0).length = xs6.length ∧ IntKind.i64.has y8 ∧ F.R08_depths_l4 a0 a1 f xs6 y8 = some r) ⟨(List.replicate ((a0).length) 0), 0, rfl, rfl, (by rw [List.length_replicate]), (A.hasl .i64 (0) rfl), hF⟩ ?_
 rintro f10 _ _ ⟨xs6, y8, rfl, rfl, hn7, hy9, hF⟩
 rcases f10 with _ | f10
 ·exact A.no0 hF
 rw [F.R08_depths_l4] at hF
 refine A.xl 2 ?_
 refine A.q0 [] [] [.n, .n, .n, .n] [(20, .bool (decide (y8 < ((a1).length : Int))))] ?_
 refine A.dx 1 ?_
 refine A.AX.cnd rfl hF (fun hb hF => ?_) (fun hb hF => ?_)
 ·refine A.xx 5 ?_
  refine A.AX.dr mixed 9 10 (A.mb 10 0) ?_
  refine A.hq A.pb [] [0, 1, 2, 3] [2] [] (A.mb 10 15) 6 [(0, .n), (2, .n), (3, .n), (1, .b 0 0)] [(25, .slice A2_ ((a1).length) c3_), (26, .int .i64 y8), (24, .slice A0_ ((a0).length) c1_)] ?_
  obtain ⟨x11, hv12, hF⟩ := A.bd_some hF
  refine A.AH.pkl 1 996 hv12 fun ho13 => ?_
  intro b15 o16 hA14
  refine A.AH.v A.pb [0, 1, 2, 3] [0, 1, 2, 3, 996] 4 (A.mb 10 31) rfl (fun a w hf hh => A.r_ixa (t := (Z.Ty.int .i64)) hv12 hA14 hf) ?_
  refine A.hq A.pb [0, 1, 2, 3, 996] [0, 1, 2, 3, 996] [] [996] (A.mb 10 63) 4 [(5, .e 0 0)] [(28, .int .i64 x11)] ?_
  obtain ⟨x17, hv18, hF⟩ := A.bd_some hF
  refine A.AH.pks 0 997 hv18 fun ho19 => ?_
  intro A21 c22 b23 o24 hA20
  refine A.AH.v A.pb [0, 1, 2, 3, 996] [0, 1, 2, 3, 996, 997, 998] 6 (A.mb 10 127) rfl (fun a w hf hh => A.r_ixa (t := T39) hv18 hA20 hf) ?_
  refine A.hq A.pb [0, 1, 2, 3, 996, 997, 998] [0, 1, 2, 3, 996, 997, 998] [] [997] (A.mb 10 255) 2 [(7, .e 0 0)] [(30, .agg #[.int .i64 x17.1, .int .i64 x17.2.1, .slice A21 ((x17.2.2.1).length) c22, .int .i64 x17.2.2.2.1.1, .int .i64 x17.2.2.2.1.2.1, .string x17.2.2.2.1.2.2, .string x17.2.2.2.2.1, .int .i64 x17.2.2.2.2.2.1, .int .i64 x17.2.2.2.2.2.2])] ?_
  refine A.AH.one 8 ?_
  refine A.AL.alloc 999 (cs := [.int .i64 0, .int .i64 0, .slice none 0 0, .int .i64 0, .int .i64 0, .string (ByteArray.mk #[]), .string (ByteArray.mk #[]), .int .i64 0, .int .i64 0]) Tryd.zeroValue40 fun g25 => ?_
  refine A.AH.nx (A.mb 10 511) [0, 1, 2, 3, 996, 997, 998] ?_
  refine A.AH.one 9 ?_
  refine A.sw 999 [] [.int .i64 x17.1, .int .i64 x17.2.1, .slice A21 ((x17.2.2.1).length) c22, .int .i64 x17.2.2.2.1.1, .int .i64 x17.2.2.2.1.2.1, .string x17.2.2.2.1.2.2, .string x17.2.2.2.2.1, .int .i64 x17.2.2.2.2.2.1, .int .i64 x17.2.2.2.2.2.2] ?_
  refine A.AH.nm (A.mb 10 1023) ?_
  refine A.AH.done ?_
  refine A.el 2 ?_
  refine A.q0 [] [] [.n] [(9, .slice none 0 0)] ?_
  refine A.dl 3 ?_
  refine A.q0 [] [] [.n] [(10, .int .i64 0)] ?_
  refine A.dx 2 ?_
  refine A.nil 1089 (Z.Ty.int .i64) 3 ?_
  refine A.lp_ [1, 2, 6, 7, 8] [0, 1, 2, 3, 998, 999] (fun f nl nh => ∃ (xs28 : List Int), ∃ (y29 : Int), ∃ (A26 : Option Addr), ∃ (c27 : Nat), nl = [(9, .slice A26 ((xs28).length) c27), (10, .int .i64 y29)] ∧ nh = [(1089, .own (Z.Ty.int .i64) 3 A26 c27 xs28)] ∧ IntKind.i64.has y29 ∧ F.R08_depths_l1 (F.R08_depths_l4 a0 a1 f10) a0 a1 xs6 y8 x17 f xs28 y29 = some r) ⟨[], 0, none, 0, rfl, rfl, (A.hasl .i64 (0) rfl), hF⟩ ?_
  rintro f31 _ _ ⟨xs28, y29, A26, c27, rfl, rfl, hy30, hF⟩
  rcases f31 with _ | f31
  ·exact A.no0 hF
  rw [F.R08_depths_l1] at hF
  refine A.xl 2 ?_
  refine A.q0 [999] [] [.n, .n, .b 0 2, .n, .n] [(35, .bool (decide (y29 < ((x17.2.2.1).length : Int))))] ?_
  refine A.dx 1 ?_
  refine A.AX.cnd rfl hF (fun hb hF => ?_) (fun hb hF => ?_)
  ·refine A.xx 4 ?_
   refine A.AX.dr mixed 14 14 (A.mb 14 0) ?_
   refine A.hq A.pb [] [0, 1, 2, 3, 998, 999] [2, 999] [] (A.mb 14 63) 8 [(0, .n), (1, .n), (2, .b 0 0), (3, .n), (5, .n), (4, .b 1 2)] [(38, .slice A26 ((xs28).length) c27), (39, .slice (some ⟨g2, 0, none⟩) ((a0).length) ((a0).length)), (40, .agg #[.slice A0_ ((a0).length) c1_]), (43, .int .i64 y29), (42, .slice A21 ((x17.2.2.1).length) c22)] ?_
   obtain ⟨x32, hv33, hF⟩ := A.bd_some hF
   refine A.AH.pks 998 1266 hv33 fun ho34 => ?_
   intro b36 o37 hA35
   refine A.AH.v A.pb [0, 1, 2, 3, 998, 999] [0, 1, 2, 3, 998, 999, 1266] 6 (A.mb 14 127) rfl (fun a w hf hh => A.r_ixa (t := (Z.Ty.int .i64)) hv33 hA35 hf) ?_
   refine A.hq A.pb [0, 1, 2, 3, 998, 999, 1266] [0, 1, 2, 3, 998, 999, 1266] [] [1266] (A.mb 14 255) 6 [(7, .e 0 0)] [(45, .int .i64 x32)] ?_
   refine A.AH.one 8 ?_
   obtain ⟨r38, hv39, hF⟩ := A.bd_some hF
   refine A.AL.call 1267 [] (first := []) (cap := []) cf60 (R08_index_ok a0 x32 A0_ c1_ ho34 r38 hv39) (.s 0 .nil) ?_
   rintro _ _ ⟨rfl, rfl, hr40⟩
   refine ⟨by kernel_rfl, ?_⟩
   refine A.AH.nx (A.mb 14 511) [0, 1, 2, 3, 998, 999, 1266] ?_
   refine A.cst 39 (Z.slice_n (show (a0).length = (xs6).length from hn7)) ?_
   obtain ⟨x41, hv42, hF⟩ := A.bd_some hF
   refine A.AH.pko 3 1307 hv42 fun ho43 => ?_
   intro g45 hA44
   refine A.AH.v A.pb [0, 1, 2, 3, 998, 999, 1266] [0, 1, 2, 3, 998, 999, 1266, 1307] 9 (A.mb 14 1023) rfl (fun a w hf hh => A.r_ixo (t := (Z.Ty.int .i64)) hv42 hA44 hf) ?_
   refine A.hq A.pb [0, 1, 2, 3, 998, 999, 1266, 1307] [0, 1, 2, 3, 998, 999, 1266, 1307] [] [1307] (A.mb 14 2047) 3 [(10, .e 0 0)] [(48, .int .i64 x41)] ?_
   refine A.AH.one 11 ?_
   refine A.AL.bsl 1308 (ty := (Z.Ty.int .i64)) (cs := [.int .i64 x41]) [x41] ⟨⟨rfl, ho43⟩, rfl⟩ (fun g46 => ?_) Tryd.zeroValue3 Tryd.sizeOf3
   refine A.AH.nx (A.mb 14 4095) [0, 1, 2, 3, 998, 999, 1266, 1307] ?_
   refine A.AH.one 12 ?_
   obtain ⟨hl49, hF⟩ := A.gd_some hF
   refine A.AL.app (k := 1089) [] (A.rowO (k := 1308) rfl) inf3 hl49 fun A47 c48 => ?_
   refine A.AH.nx (A.mb 14 8191) [0, 1, 2, 3, 998, 999, 1266, 1307] ?_
   refine A.hq A.pb [0, 1, 2, 3, 998, 999, 1266, 1307] [0, 1, 2, 3, 998, 999, 1089, 1266, 1307, 1308] [] [] (A.mb 14 16383) 0 [(13, .n)] [(9, .slice A47 ((xs28 ++ [x41]).length) c48)] ?_
   refine A.AH.done ?_
   refine A.el 2 ?_
   obtain ⟨hc50, hF⟩ := A.gd_some hF
   refine A.q [] [] [.n, .n, .n] [Z.R64 (y29 + 1)] [(10, .int .i64 (y29 + 1))] hc50 ?_
   refine A.AL.done ?_
   exact A.j ⟨_, Nat.lt_succ_self _, ⟨(xs28 ++ [x41]), (y29 + 1), A47, c48, rfl, rfl, (Z.i64_has hc50), hF⟩⟩
  refine A.xx 3 ?_
  refine A.AX.dr mixed 9 10 (A.mb 10 0) ?_
  refine A.hq A.pb [] [0, 1, 2, 3, 998, 999, 1089] [999] [] (A.mb 10 103) 5 [(0, .n), (1, .n), (2, .n), (5, .b 0 0), (6, .n)] [(51, .slice (some ⟨g2, 0, none⟩) ((a0).length) ((a0).length)), (52, .slice A2_ ((a1).length) c3_), (53, .int .i64 y8), (56, .agg #[.int .i64 x17.1, .int .i64 x17.2.1, .slice A21 ((x17.2.2.1).length) c22, .int .i64 x17.2.2.2.1.1, .int .i64 x17.2.2.2.1.2.1, .string x17.2.2.2.1.2.2, .string x17.2.2.2.2.1, .int .i64 x17.2.2.2.2.2.1, .int .i64 x17.2.2.2.2.2.2]), (57, .slice A26 ((xs28).length) c27)] ?_
  obtain ⟨x51, hv52, hF⟩ := A.bd_some hF
  refine A.AH.pkl 1 1309 hv52 fun ho53 => ?_
  intro b55 o56 hA54
  refine A.AH.v A.pb [0, 1, 2, 3, 998, 999, 1089] [0, 1, 2, 3, 998, 999, 1089, 1309] 3 (A.mb 10 111) rfl (fun a w hf hh => A.r_ixa (t := (Z.Ty.int .i64)) hv52 hA54 hf) ?_
  refine A.hq A.pb [0, 1, 2, 3, 998, 999, 1089, 1309] [0, 1, 2, 3, 998, 999, 1089, 1309] [] [1309] (A.mb 10 127) 3 [(4, .e 0 0)] [(55, .int .i64 x51)] ?_
  refine A.AH.one 7 ?_
  obtain ⟨r57, hv58, hF⟩ := A.bd_some hF
  refine A.AL.call 1310 [] (first := []) (cap := []) cf104 (R08_depth_ok (x17.1, x17.2.1, x17.2.2.1, (x17.2.2.2.1.1, x17.2.2.2.1.2.1, x17.2.2.2.1.2.2), x17.2.2.2.2.1, x17.2.2.2.2.2.1, x17.2.2.2.2.2.2) xs28 A21 c22 A26 c27 ho19.1 ho19.2.1 ho19.2.2.2.1.1 ho19.2.2.2.1.2.1 ho19.2.2.2.1.2.2 ho19.2.2.2.2.1 ho19.2.2.2.2.2.1 ho19.2.2.2.2.2.2 r57 hv58) (.s 998 (.o 1089 .nil)) ?_
  rintro _ _ ⟨rfl, rfl, hr59⟩
  refine ⟨by kernel_rfl, ?_⟩
  refine A.AH.nx (A.mb 10 255) [0, 1, 2, 3, 998, 999, 1089, 1309] ?_
  refine A.cst 51 (Z.slice_n (show (a0).length = (xs6).length from hn7)) ?_
  obtain ⟨x60, hv61, hF⟩ := A.bd_some hF
  refine A.AH.pko 3 1350 hv61 fun ho62 => ?_
  intro g64 hA63
  refine A.AH.v A.pb [0, 1, 2, 3, 998, 999, 1089, 1309] [0, 1, 2, 3, 998, 999, 1089, 1309, 1350] 8 (A.mb 10 511) rfl (fun a w hf hh => A.r_ixo (t := (Z.Ty.int .i64)) hv61 hA63 hf) ?_
  refine A.AH.one 9 ?_
  refine A.AL.setel 3 1350 [1350] (o := 0) (m := 1) (t := (Z.Ty.int .i64)) (new := [.int .i64 r57]) (es := [.int .i64 x60]) r57 hv61 hA63 ⟨rfl, hr59⟩ ?_
  refine A.AH.nm (A.mb 10 1023) ?_
  refine A.AH.done ?_
  refine A.el 2 ?_
  refine A.q0 [] [] [.n, .n, .n] [(60, .slice (some ⟨g2, 0, none⟩) ((a0).length) ((a0).length)), (61, .slice A2_ ((a1).length) c3_), (62, .int .i64 y8)] ?_
  obtain ⟨x65, hv66, hF⟩ := A.bd_some hF
  refine A.AL.ixl 1 1351 hv66 fun ho67 => ?_
  intro b68 o69
  refine A.q0 [] [1351] [.e 0 0] [(64, .int .i64 x65)] ?_
  refine A.cst 60 (Z.slice_n (show (a0).length = (xs6.set x51.toNat r57).length from (by rw [List.length_set]; exact hn7))) ?_
  obtain ⟨x70, hv71, hF⟩ := A.bd_some hF
  refine A.AL.ixo 3 1352 hv71 fun ho72 => ?_
  intro g73 hA74
  refine A.q0 [] [1352] [.e 0 0, .n] [(67, .bool (decide (x70 < 0)))] ?_
  refine A.dx 1 ?_
  refine A.AX.cnd rfl hF (fun hb hF => ?_) (fun hb hF => ?_)
  ·refine A.xl 1 ?_
   refine A.q0 [] [] [.n, .n] [(4, .slice none 0 0), (5, .bool false)] ?_
   refine A.dx 1 ?_
   obtain rfl := Option.some.inj hF
   refine A.nil 1353 (Z.Ty.int .i64) 3 ?_
   exact A.rt2 [(0, 1353)] ⟨none, 0, rfl, rfl⟩
  refine A.xl 3 ?_
  obtain ⟨hc75, hF⟩ := A.gd_some hF
  refine A.q [] [] [.n, .n, .n] [Z.R64 (y8 + 1)] [(7, .int .i64 (y8 + 1))] hc75 ?_
  refine A.AL.done ?_
  exact A.j ⟨_, Nat.lt_succ_self _, ⟨(xs6.set x51.toNat r57), (y8 + 1), rfl, rfl, (by rw [List.length_set]; exact hn7), (Z.i64_has hc75), hF⟩⟩
 refine A.xl 4 ?_
 refine A.q0 [] [] [.n] [(11, .int .i64 0)] ?_
 refine A.dx 2 ?_
 refine A.lp_ [2, 6] [0, 2, 3] (fun f nl nh => ∃ (y76 : Int), nl = [(11, .int .i64 y76)] ∧ nh = [] ∧ IntKind.i64.has y76 ∧ F.R08_depths_l3 a0 xs6 f y76 = some r) ⟨0, rfl, rfl, (A.hasl .i64 (0) rfl), hF⟩ ?_
 rintro f78 _ _ ⟨y76, rfl, rfl, hy77, hF⟩
 rcases f78 with _ | f78
 ·exact A.no0 hF
 rw [F.R08_depths_l3] at hF
 refine A.xl 2 ?_
 refine A.q0 [2] [] [.n, .n, .b 0 0, .n, .n] [(72, .bool (decide (y76 < ((a0).length : Int))))] ?_
 refine A.dx 1 ?_
 refine A.AX.cnd rfl hF (fun hb hF => ?_) (fun hb hF => ?_)
 ·refine A.xl 5 ?_
  refine A.q0 [2] [] [.n, .b 0 0, .n] [(76, .slice A0_ ((a0).length) c1_), (77, .int .i64 y76)] ?_
  obtain ⟨x79, hv80, hF⟩ := A.bd_some hF
  refine A.AL.ixs 0 1446 hv80 fun ho81 => ?_
  intro A82 c83 b84 o85
  refine A.q0 [] [1446] [.e 0 0] [(79, .agg #[.int .i64 x79.1, .int .i64 x79.2.1, .slice A82 ((x79.2.2.1).length) c83, .int .i64 x79.2.2.2.1.1, .int .i64 x79.2.2.2.1.2.1, .string x79.2.2.2.1.2.2, .string x79.2.2.2.2.1, .int .i64 x79.2.2.2.2.2.1, .int .i64 x79.2.2.2.2.2.2])] ?_
  refine A.AL.alloc 1448 (cs := [.int .i64 0, .int .i64 0, .slice none 0 0, .int .i64 0, .int .i64 0, .string (ByteArray.mk #[]), .string (ByteArray.mk #[]), .int .i64 0, .int .i64 0]) Tryd.zeroValue40 fun g86 => ?_
  refine A.sw 1448 [] [.int .i64 x79.1, .int .i64 x79.2.1, .slice A82 ((x79.2.2.1).length) c83, .int .i64 x79.2.2.2.1.1, .int .i64 x79.2.2.2.1.2.1, .string x79.2.2.2.1.2.2, .string x79.2.2.2.2.1, .int .i64 x79.2.2.2.2.2.1, .int .i64 x79.2.2.2.2.2.2] ?_
  refine A.dx 1 ?_
  refine A.AX.join [2, 6, 11] [0, 2, 3] (fun nl nh => ∃ (y87 : Bool), nl = [(96, .bool y87)] ∧ nh = [] ∧ F.R08_depths_j2 (F.R08_depths_l3 a0 xs6 f78) y76 y87 = some r) ?_ ?_
  ·refine A.AX.dr mixed 17 17 (A.mb 17 0) ?_
   refine A.hq A.pb [] [0, 2, 3, 1446, 1447, 1448] [1448] [] (A.mb 17 15) 13 [(0, .n), (1, .b 0 1), (2, .n), (3, .n)] [(83, .bool (decide (x79.2.1 = 14)))] ?_
   refine A.AH.cnp (j := 83) rfl hF (fun hb hF => ?_) (fun hb hF => ?_)
   ·refine A.hq A.pb [0, 2, 3, 1446, 1447, 1448] [0, 2, 3, 1446, 1447, 1448] [2, 1448] [] (A.mb 17 24831) 7 [(4, .on .n), (5, .on (.b 0 0)), (6, .on .n), (13, .on .n), (7, .on (.b 1 2)), (14, .on (.b 1 8))] [(84, .slice (some ⟨g2, 0, none⟩) ((a0).length) ((a0).length)), (85, .agg #[.slice A0_ ((a0).length) c1_]), (87, .slice A82 ((x79.2.2.1).length) c83), (94, .int .i64 x79.2.2.2.2.2.2)] ?_
    obtain ⟨x89, hv90, hF⟩ := A.bd_some hF
    refine A.AH.pks 1447 1449 hv90 fun ho91 => ?_
    intro b93 o94 hA92
    refine A.AH.vg A.pb [0, 2, 3, 1446, 1447, 1448] [0, 2, 3, 1446, 1447, 1448, 1449] 8 (A.mb 17 25087) (dj := 83) rfl (fun a w hf hh => A.r_ixa (t := (Z.Ty.int .i64)) hv90 hA92 hf) ?_
    refine A.hq A.pb [0, 2, 3, 1446, 1447, 1448, 1449] [0, 2, 3, 1446, 1447, 1448, 1449] [] [1449] (A.mb 17 25599) 5 [(9, .on (.e 0 0))] [(89, .int .i64 x89)] ?_
    refine A.AH.one 10 ?_
    refine A.AL.on (dj := 83) rfl rfl ?_
    obtain ⟨r95, hv96, hF⟩ := A.bd_some hF
    refine A.AL.call 1450 [] (first := []) (cap := []) cf60 (R08_index_ok a0 x89 A0_ c1_ ho91 r95 hv96) (.s 0 .nil) ?_
    rintro _ _ ⟨rfl, rfl, hr97⟩
    refine ⟨by kernel_rfl, ?_⟩
    refine A.AH.nx (A.mb 17 26623) [0, 2, 3, 1446, 1447, 1448, 1449] ?_
    refine A.cst 84 (Z.slice_n (show (a0).length = (xs6).length from hn7)) ?_
    obtain ⟨x98, hv99, hF⟩ := A.bd_some hF
    refine A.AH.pko 3 1490 hv99 fun ho100 => ?_
    intro g102 hA101
    refine A.AH.vg A.pb [0, 2, 3, 1446, 1447, 1448, 1449] [0, 2, 3, 1446, 1447, 1448, 1449, 1490] 11 (A.mb 17 28671) (dj := 83) rfl (fun a w hf hh => A.r_ixo (t := (Z.Ty.int .i64)) hv99 hA101 hf) ?_
    refine A.hq A.pb [0, 2, 3, 1446, 1447, 1448, 1449, 1490] [0, 2, 3, 1446, 1447, 1448, 1449, 1490] [] [1490] (A.mb 17 131071) 0 [(12, .on (.e 0 0)), (15, .on .n), (16, .n)] [(96, .bool (decide (x98 ≠ x79.2.2.2.2.2.2)))] ?_
    refine A.AH.done ?_
    exact A.j ⟨(decide (x98 ≠ x79.2.2.2.2.2.2)), rfl, rfl, hF⟩
   refine A.hq A.pb [0, 2, 3, 1446, 1447, 1448] [0, 2, 3, 1446, 1447, 1448] [] [] (A.mb 17 131071) 0 [(4, .off), (5, .off), (6, .off), (13, .off), (7, .off), (14, .off), (8, .off), (9, .off), (10, .off), (11, .off), (12, .off), (15, .off), (16, .n)] [(96, .bool false)] ?_
   refine A.AH.done ?_
   exact A.j ⟨false, rfl, rfl, hF⟩
  rintro _ _ ⟨y87, rfl, rfl, hF⟩
  rw [F.R08_depths_j2] at hF
  refine A.AX.cnb rfl hF (fun hb hF => ?_) (fun hb hF => ?_)
  ·refine A.xl 1 ?_
   refine A.q0 [] [] [.n, .n] [(4, .slice none 0 0), (5, .bool false)] ?_
   refine A.dx 1 ?_
   obtain rfl := Option.some.inj hF
   refine A.nil 1491 (Z.Ty.int .i64) 3 ?_
   exact A.rt2 [(0, 1491)] ⟨none, 0, rfl, rfl⟩
  refine A.xl 3 ?_
  obtain ⟨hc88, hF⟩ := A.gd_some hF
  refine A.q [] [] [.n, .n, .n] [Z.R64 (y76 + 1)] [(11, .int .i64 (y76 + 1))] hc88 ?_
  refine A.AL.done ?_
  exact A.j ⟨_, Nat.lt_succ_self _, ⟨(y76 + 1), rfl, rfl, (Z.i64_has hc88), hF⟩⟩
 refine A.xl 3 ?_
 refine A.q0 [] [] [.n, .n, .n] [(4, .slice (some ⟨g2, 0, none⟩) ((a0).length) ((a0).length)), (5, .bool true)] ?_
 refine A.dx 1 ?_
 obtain rfl := Option.some.inj hF
 refine A.cst 4 (Z.slice_n (show (a0).length = (xs6).length from hn7)) ?_
 exact A.rt2 [(0, 3)] ⟨(some ⟨g2, 0, none⟩), ((a0).length), rfl, rfl⟩

def F.R08_at_l1 (a0 : (List D84)) (a1 : D54) : Nat → Int → Option Int
  | 0, _ => none
  | f + 1, y2 => if y2 < ((a0).length : Int) then ((A.ix a0 y2).bind fun x5 => (if (x5.1.1, x5.1.2) = (a1.1, a1.2) then ((A.ix a0 y2).bind fun x11 => (some x11.2)) else (A.gd (Z.R64 (y2 + 1)) ((F.R08_at_l1 a0 a1 f) (y2 + 1))))) else (some (-1))
def F.R08_at (a0 : (List D84)) (a1 : D54) : Option Int := F.R08_at_l1 a0 a1 A.FU 0
theorem R08_at_ok (a0 : (List D84)) (a1 : D54) (A0_ : Option Addr) (c1_ : Nat) (h2_ : IntKind.i64.has a1.1) (h3_ : IntKind.i64.has a1.2) (r : Int) (hF : F.R08_at a0 a1 = some r) :
    A.Ct Tryd.prog 125 [.slice A0_ ((a0).length) c1_, .agg #[.int .i64 a1.1, .int .i64 a1.2]] [(0, .ln T84 A0_ c1_ a0)] [] (fun v H' => v = .int .i64 r ∧ H' = [] ∧ IntKind.i64.has r) := by
 refine A.Ct.enter Tryd.func125 rfl Tryd.ntmps125 rfl fun w0 F0 => ?_
 rw [F.R08_at] at hF
 refine A.xl 1 ?_
 refine A.AL.box 1 (cs := [.int .i64 a1.1, .int .i64 a1.2]) fun g1 => ?_
 refine A.q0 [] [] [.n] [] ?_
 refine A.dl 3 ?_
 refine A.q0 [] [] [.n] [(5, .int .i64 0)] ?_
 refine A.dx 2 ?_
 refine A.lp_ [0, 3] [0, 1] (fun f nl nh => ∃ (y2 : Int), nl = [(5, .int .i64 y2)] ∧ nh = [] ∧ IntKind.i64.has y2 ∧ F.R08_at_l1 a0 a1 f y2 = some r) ⟨0, rfl, rfl, (A.hasl .i64 (0) rfl), hF⟩ ?_
 rintro f4 _ _ ⟨y2, rfl, rfl, hy3, hF⟩
 rcases f4 with _ | f4
 ·exact A.no0 hF
 rw [F.R08_at_l1] at hF
 refine A.xl 2 ?_
 refine A.q0 [] [] [.n, .n, .n, .n] [(9, .bool (decide (y2 < ((a0).length : Int))))] ?_
 refine A.dx 1 ?_
 refine A.AX.cnd rfl hF (fun hb hF => ?_) (fun hb hF => ?_)
 ·refine A.xx 5 ?_
  refine A.AX.dr mixed 7 7 (A.mb 7 0) ?_
  refine A.hq A.pb [] [0, 1] [1] [] (A.mb 7 35) 4 [(0, .n), (1, .n), (5, .b 0 0)] [(12, .slice A0_ ((a0).length) c1_), (13, .int .i64 y2), (17, .agg #[.int .i64 a1.1, .int .i64 a1.2])] ?_
  obtain ⟨x5, hv6, hF⟩ := A.bd_some hF
  refine A.AH.pkl 0 6 hv6 fun ho7 => ?_
  intro b9 o10 hA8
  refine A.AH.v A.pb [0, 1] [0, 1, 6] 2 (A.mb 7 39) rfl (fun a w hf hh => A.r_ixa (t := T84) hv6 hA8 hf) ?_
  refine A.hq A.pb [0, 1, 6] [0, 1, 6] [] [6] (A.mb 7 63) 1 [(3, .n), (4, .e 0 0)] [(16, .agg #[.int .i64 x5.1.1, .int .i64 x5.1.2])] ?_
  refine A.AH.v A.pb [0, 1, 6] [0, 1, 6] 6 (A.mb 7 127) rfl (fun a w hf hh => eqagg_eql55 (x := (x5.1.1, x5.1.2)) (y := (a1.1, a1.2)) (hf.eval rfl) (hf.eval rfl)) ?_
  refine A.AH.done ?_
  refine A.ex 1 ?_
  refine A.AX.cnd rfl hF (fun hb hF => ?_) (fun hb hF => ?_)
  ·refine A.xl 1 ?_
   refine A.q0 [] [] [.n, .n] [(19, .slice A0_ ((a0).length) c1_), (20, .int .i64 y2)] ?_
   obtain ⟨x11, hv12, hF⟩ := A.bd_some hF
   refine A.AL.ixl 0 7 hv12 fun ho13 => ?_
   intro b14 o15
   refine A.q0 [] [7] [.n, .e 0 2, .n] [(4, .int .i64 x11.2)] ?_
   refine A.dx 1 ?_
   obtain rfl := Option.some.inj hF
   exact A.rt1 [] ⟨rfl, rfl, ho13.2⟩
  refine A.xl 3 ?_
  obtain ⟨hc16, hF⟩ := A.gd_some hF
  refine A.q [] [] [.n, .n, .n] [Z.R64 (y2 + 1)] [(5, .int .i64 (y2 + 1))] hc16 ?_
  refine A.AL.done ?_
  exact A.j ⟨_, Nat.lt_succ_self _, ⟨(y2 + 1), rfl, rfl, (Z.i64_has hc16), hF⟩⟩
 refine A.xl 3 ?_
 refine A.q0 [] [] [.n] [(4, .int .i64 (-1))] ?_
 refine A.dx 1 ?_
 obtain rfl := Option.some.inj hF
 exact A.rt1 [] ⟨rfl, rfl, (A.hasl .i64 (-1) rfl)⟩

def F.R08_open (a0 : D23) (a1 : (List D84)) (a2 : D70) (a3 : Int) : Option Bool := (F.R08_Find a0 a2.1.1).bind fun r3 => ((F.R08_at a1 (a2.2.1.1, a2.2.1.2)).bind fun r16 => (if a3 ≤ r16 then (some (bif bif decide (r3.1.2.1 ≠ 14) then true else decide (r3.1.2.2.2.2.2.2 ≠ a3) then true else decide (a2.1.2 = 2))) else (some false)))
theorem R08_open_ok (a0 : D23) (a1 : (List D84)) (a2 : D70) (a3 : Int) (A0_ : Option Addr) (c1_ : Nat) (A2_ : Option Addr) (c3_ : Nat) (h4_ : IntKind.i64.has a2.1.1) (h5_ : IntKind.i64.has a2.1.2) (h6_ : IntKind.i64.has a2.2.1.1) (h7_ : IntKind.i64.has a2.2.1.2) (h8_ : IntKind.i64.has a2.2.2.1) (h9_ : IntKind.i64.has a2.2.2.2.1) (h10_ : IntKind.i64.has a2.2.2.2.2.1) (h11_ : IntKind.i64.has a2.2.2.2.2.2.1) (h12_ : IntKind.i64.has a2.2.2.2.2.2.2.1) (h13_ : IntKind.i64.has a2.2.2.2.2.2.2.2.1) (h14_ : IntKind.i64.has a2.2.2.2.2.2.2.2.2.1) (h15_ : IntKind.i64.has a2.2.2.2.2.2.2.2.2.2) (h16_ : IntKind.i64.has a3) (r : Bool) (hF : F.R08_open a0 a1 a2 a3 = some r) :
    A.Ct Tryd.prog 105 [.agg #[.slice A0_ ((a0).length) c1_], .slice A2_ ((a1).length) c3_, .agg #[.int .i64 a2.1.1, .int .i64 a2.1.2, .int .i64 a2.2.1.1, .int .i64 a2.2.1.2, .int .i64 a2.2.2.1, .int .i64 a2.2.2.2.1, .int .i64 a2.2.2.2.2.1, .int .i64 a2.2.2.2.2.2.1, .int .i64 a2.2.2.2.2.2.2.1, .int .i64 a2.2.2.2.2.2.2.2.1, .int .i64 a2.2.2.2.2.2.2.2.2.1, .int .i64 a2.2.2.2.2.2.2.2.2.2], .int .i64 a3] [(0, .sh (.slice T39) [.slice A0_ (a0).length c1_] a0), (1, .ln T84 A2_ c3_ a1)] [] (fun v H' => v = .bool r ∧ H' = []) := by
 refine A.Ct.enter Tryd.func105 rfl Tryd.ntmps105 rfl fun w0 F0 => ?_
 rw [F.R08_open] at hF
 refine A.xl 1 ?_
 refine A.AL.box 2 (cs := [.slice A0_ ((a0).length) c1_]) fun g1 => ?_
 refine A.AL.box 3 (cs := [.int .i64 a2.1.1, .int .i64 a2.1.2, .int .i64 a2.2.1.1, .int .i64 a2.2.1.2, .int .i64 a2.2.2.1, .int .i64 a2.2.2.2.1, .int .i64 a2.2.2.2.2.1, .int .i64 a2.2.2.2.2.2.1, .int .i64 a2.2.2.2.2.2.2.1, .int .i64 a2.2.2.2.2.2.2.2.1, .int .i64 a2.2.2.2.2.2.2.2.2.1, .int .i64 a2.2.2.2.2.2.2.2.2.2]) fun g2 => ?_
 refine A.q0 [] [] [.n] [] ?_
 refine A.dl 2 ?_
 refine A.q0 [2, 3] [] [.b 0 0, .n, .n, .b 1 0] [(12, .agg #[.slice A0_ ((a0).length) c1_]), (15, .int .i64 a2.1.1)] ?_
 obtain ⟨r3, hv4, hF⟩ := A.bd_some hF
 refine A.AL.call 4 [] (first := []) (cap := []) cf29 (R08_Find_ok a0 a2.1.1 A0_ c1_ h4_ r3 hv4) (.s 0 .nil) ?_
 rintro _ _ ⟨A7, c8, rfl, rfl, hr5, hr6, hr9, hr10, hr11, hr12, hr13, hr14⟩
 refine ⟨by kernel_rfl, ?_⟩
 refine A.q0 [] [] [.n, .n, .n] [(17, .agg #[.int .i64 r3.1.1, .int .i64 r3.1.2.1, .slice A7 ((r3.1.2.2.1).length) c8, .int .i64 r3.1.2.2.2.1.1, .int .i64 r3.1.2.2.2.1.2.1, .string r3.1.2.2.2.1.2.2, .string r3.1.2.2.2.2.1, .int .i64 r3.1.2.2.2.2.2.1, .int .i64 r3.1.2.2.2.2.2.2]), (18, .bool r3.2)] ?_
 refine A.AL.alloc 44 (cs := [.int .i64 0, .int .i64 0, .slice none 0 0, .int .i64 0, .int .i64 0, .string (ByteArray.mk #[]), .string (ByteArray.mk #[]), .int .i64 0, .int .i64 0]) Tryd.zeroValue40 fun g15 => ?_
 refine A.sw 44 [] [.int .i64 r3.1.1, .int .i64 r3.1.2.1, .slice A7 ((r3.1.2.2.1).length) c8, .int .i64 r3.1.2.2.2.1.1, .int .i64 r3.1.2.2.2.1.2.1, .string r3.1.2.2.2.1.2.2, .string r3.1.2.2.2.2.1, .int .i64 r3.1.2.2.2.2.2.1, .int .i64 r3.1.2.2.2.2.2.2] ?_
 refine A.q0 [] [] [.n] [] ?_
 refine A.dl 2 ?_
 refine A.q0 [3] [] [.n, .n, .b 0 2] [(19, .slice A2_ ((a1).length) c3_), (21, .agg #[.int .i64 a2.2.1.1, .int .i64 a2.2.1.2])] ?_
 obtain ⟨r16, hv17, hF⟩ := A.bd_some hF
 refine A.AL.call 45 [] (first := []) (cap := []) cf125 (R08_at_ok a1 (a2.2.1.1, a2.2.1.2) A2_ c3_ h6_ h7_ r16 hv17) (.s 1 .nil) ?_
 rintro _ _ ⟨rfl, rfl, hr18⟩
 refine ⟨by kernel_rfl, ?_⟩
 refine A.q0 [] [] [.n, .n, .n] [(25, .bool (decide (a3 ≤ r16)))] ?_
 refine A.AL.cnp (j := 25) rfl hF (fun hb hF => ?_) (fun hb hF => ?_)
 ·refine A.q0 [44, 3] [] [.on .n, .on (.b 0 1), .on .n, .on .n, .sy .n, .sy (.b 0 8), .sy .n, .sy .n, .on .pk, .on .n, .sy .n, .sy .n, .sy (.b 1 1), .sy .n, .on .pk, .n, .n] [(8, .bool (bif bif decide (r3.1.2.1 ≠ 14) then true else decide (r3.1.2.2.2.2.2.2 ≠ a3) then true else decide (a2.1.2 = 2)))] ?_
  refine A.dx 1 ?_
  obtain rfl := Option.some.inj hF
  exact A.rt1 [] ⟨rfl, rfl⟩
 refine A.q0 [] [] [.off, .off, .off, .off, .off, .off, .off, .off, .off, .off, .off, .off, .off, .off, .off, .n, .n] [(8, .bool false)] ?_
 refine A.dx 1 ?_
 obtain rfl := Option.some.inj hF
 exact A.rt1 [] ⟨rfl, rfl⟩

def F.R08_on_l1 (a0 : (List D54)) (a1 : D54) : Nat → Int → Option Bool
  | 0, _ => none
  | f + 1, y2 => if y2 < ((a0).length : Int) then ((A.ix a0 y2).bind fun x5 => (if (x5.1, x5.2) = (a1.1, a1.2) then (some true) else (A.gd (Z.R64 (y2 + 1)) ((F.R08_on_l1 a0 a1 f) (y2 + 1))))) else (some false)
def F.R08_on (a0 : (List D54)) (a1 : D54) : Option Bool := F.R08_on_l1 a0 a1 A.FU 0
theorem R08_on_ok (a0 : (List D54)) (a1 : D54) (A0_ : Option Addr) (c1_ : Nat) (h2_ : IntKind.i64.has a1.1) (h3_ : IntKind.i64.has a1.2) (r : Bool) (hF : F.R08_on a0 a1 = some r) :
    A.Ct Tryd.prog 106 [.slice A0_ ((a0).length) c1_, .agg #[.int .i64 a1.1, .int .i64 a1.2]] [(0, .ln T54 A0_ c1_ a0)] [] (fun v H' => v = .bool r ∧ H' = []) := by
 refine A.Ct.enter Tryd.func106 rfl Tryd.ntmps106 rfl fun w0 F0 => ?_
 rw [F.R08_on] at hF
 refine A.xl 1 ?_
 refine A.AL.box 1 (cs := [.int .i64 a1.1, .int .i64 a1.2]) fun g1 => ?_
 refine A.q0 [] [] [.n] [] ?_
 refine A.dl 3 ?_
 refine A.q0 [] [] [.n] [(5, .int .i64 0)] ?_
 refine A.dx 2 ?_
 refine A.lp_ [0, 3] [0, 1] (fun f nl nh => ∃ (y2 : Int), nl = [(5, .int .i64 y2)] ∧ nh = [] ∧ IntKind.i64.has y2 ∧ F.R08_on_l1 a0 a1 f y2 = some r) ⟨0, rfl, rfl, (A.hasl .i64 (0) rfl), hF⟩ ?_
 rintro f4 _ _ ⟨y2, rfl, rfl, hy3, hF⟩
 rcases f4 with _ | f4
 ·exact A.no0 hF
 rw [F.R08_on_l1] at hF
 refine A.xl 2 ?_
 refine A.q0 [] [] [.n, .n, .n, .n] [(9, .bool (decide (y2 < ((a0).length : Int))))] ?_
 refine A.dx 1 ?_
 refine A.AX.cnd rfl hF (fun hb hF => ?_) (fun hb hF => ?_)
 ·refine A.xx 5 ?_
  refine A.AX.dr mixed 6 6 (A.mb 6 0) ?_
  refine A.hq A.pb [] [0, 1] [1] [] (A.mb 6 19) 3 [(0, .n), (1, .n), (4, .b 0 0)] [(12, .slice A0_ ((a0).length) c1_), (13, .int .i64 y2), (16, .agg #[.int .i64 a1.1, .int .i64 a1.2])] ?_
  obtain ⟨x5, hv6, hF⟩ := A.bd_some hF
  refine A.AH.pkl 0 4 hv6 fun ho7 => ?_
  intro b9 o10 hA8
  refine A.AH.v A.pb [0, 1] [0, 1, 4] 2 (A.mb 6 23) rfl (fun a w hf hh => A.r_ixa (t := T54) hv6 hA8 hf) ?_
  refine A.hq A.pb [0, 1, 4] [0, 1, 4] [] [4] (A.mb 6 31) 1 [(3, .e 0 0)] [(15, .agg #[.int .i64 x5.1, .int .i64 x5.2])] ?_
  refine A.AH.v A.pb [0, 1, 4] [0, 1, 4] 5 (A.mb 6 63) rfl (fun a w hf hh => eqagg_eql55 (x := (x5.1, x5.2)) (y := (a1.1, a1.2)) (hf.eval rfl) (hf.eval rfl)) ?_
  refine A.AH.done ?_
  refine A.ex 1 ?_
  refine A.AX.cnd rfl hF (fun hb hF => ?_) (fun hb hF => ?_)
  ·refine A.xl 1 ?_
   refine A.q0 [] [] [.n] [(4, .bool true)] ?_
   refine A.dx 1 ?_
   obtain rfl := Option.some.inj hF
   exact A.rt1 [] ⟨rfl, rfl⟩
  refine A.xl 3 ?_
  obtain ⟨hc11, hF⟩ := A.gd_some hF
  refine A.q [] [] [.n, .n, .n] [Z.R64 (y2 + 1)] [(5, .int .i64 (y2 + 1))] hc11 ?_
  refine A.AL.done ?_
  exact A.j ⟨_, Nat.lt_succ_self _, ⟨(y2 + 1), rfl, rfl, (Z.i64_has hc11), hF⟩⟩
 refine A.xl 3 ?_
 refine A.q0 [] [] [.n] [(4, .bool false)] ?_
 refine A.dx 1 ?_
 obtain rfl := Option.some.inj hF
 exact A.rt1 [] ⟨rfl, rfl⟩
end Go.Proofs.YtleiipbkfaajfaaDoor
end

section
set_option linter.unusedVariables false
set_option linter.unusedSimpArgs false
set_option maxRecDepth 20000
set_option maxHeartbeats 8000000
set_option synthInstance.maxSize 1000000
set_option synthInstance.maxHeartbeats 400000
namespace Go.Proofs.YtleiipbkfaajfaaDoor
open Go.RowKit
def F.R08_round_j1 (k4 : (List D54) → (List D54) → Int → Option Bool) (y20 : Int) (xs25 : List D54) (xs28 : List D54) : Option Bool := A.gd (Z.R64 (y20 + 1)) (k4 xs25 xs28 (y20 + 1))
def F.R08_round_j2 (k4 : (List D54) → (List D54) → Int → Option Bool) (a2 : (List D70)) (xs16 : List D54) (xs19 : List D54) (y20 : Int) (y30 : Bool) : Option Bool := if y30 = true then ((A.ix a2 y20).bind fun x31 => (A.gd ((List.length (α := D54) xs16 + List.length (α := D54) [(x31.2.1.1, x31.2.1.2)]) * 16 ≤ 140737488355328) ((A.ix a2 y20).bind fun x40 => (A.gd ((List.length (α := D54) xs19 + List.length (α := D54) [(x40.2.1.1, x40.2.1.2)]) * 16 ≤ 140737488355328) (F.R08_round_j1 k4 y20 (xs16 ++ [(x31.2.1.1, x31.2.1.2)]) (xs19 ++ [(x40.2.1.1, x40.2.1.2)])))))) else (F.R08_round_j1 k4 y20 xs16 xs19)
def F.R08_round_l3 (k3 : (List D54) → (List D54) → Int → Option Bool) (a0 : D23) (a1 : (List D84)) (a2 : (List D70)) (a3 : D84) (y11 : Int) : Nat → (List D54) → (List D54) → Int → Option Bool
  | 0, _, _, _ => none
  | f + 1, xs16, xs19, y20 => if y20 < ((a2).length : Int) then ((A.ix a2 y20).bind fun x49 => ((A.ix xs19 y11).bind fun x55 => (if (x49.1.1, x49.1.2) = (x55.1, x55.2) then ((A.ix a2 y20).bind fun x60 => ((F.R08_open a0 a1 ((x60.1.1, x60.1.2), (x60.2.1.1, x60.2.1.2), (x60.2.2.1, x60.2.2.2.1, x60.2.2.2.2.1, x60.2.2.2.2.2.1, (x60.2.2.2.2.2.2.1, x60.2.2.2.2.2.2.2.1, x60.2.2.2.2.2.2.2.2.1, x60.2.2.2.2.2.2.2.2.2))) a3.2).bind fun r66 => (if r66 = true then ((A.ix a2 y20).bind fun x68 => ((F.R08_on xs16 (x68.2.1.1, x68.2.1.2)).bind fun r74 => (F.R08_round_j2 (F.R08_round_l3 k3 a0 a1 a2 a3 y11 f) a2 xs16 xs19 y20 (!r74)))) else (F.R08_round_j2 (F.R08_round_l3 k3 a0 a1 a2 a3 y11 f) a2 xs16 xs19 y20 false)))) else (F.R08_round_j2 (F.R08_round_l3 k3 a0 a1 a2 a3 y11 f) a2 xs16 xs19 y20 false)))) else (A.gd (Z.R64 (y11 + 1)) (k3 xs16 xs19 (y11 + 1)))
def F.R08_round_l4 (a0 : D23) (a1 : (List D84)) (a2 : (List D70)) (a3 : D84) : Nat → (List D54) → (List D54) → Int → Option Bool
  | 0, _, _, _ => none
  | f + 1, xs7, xs10, y11 => if y11 < ((xs10).length : Int) then (F.R08_round_l3 (F.R08_round_l4 a0 a1 a2 a3 f) a0 a1 a2 a3 y11 A.FU xs7 xs10 0) else ((F.R08_on xs7 (a3.1.1, a3.1.2)).bind fun r77 => (some r77))
def F.R08_round (a0 : D23) (a1 : (List D84)) (a2 : (List D70)) (a3 : D84) : Option Bool := F.R08_round_l4 a0 a1 a2 a3 A.FU [] [(a3.1.1, a3.1.2)] 0
theorem R08_round_ok (a0 : D23) (a1 : (List D84)) (a2 : (List D70)) (a3 : D84) (A0_ : Option Addr) (c1_ : Nat) (A2_ : Option Addr) (c3_ : Nat) (A4_ : Option Addr) (c5_ : Nat) (h6_ : IntKind.i64.has a3.1.1) (h7_ : IntKind.i64.has a3.1.2) (h8_ : IntKind.i64.has a3.2) (r : Bool) (hF : F.R08_round a0 a1 a2 a3 = some r) :
    A.Ct Tryd.prog 86 [.agg #[.slice A0_ ((a0).length) c1_], .slice A2_ ((a1).length) c3_, .slice A4_ ((a2).length) c5_, .agg #[.int .i64 a3.1.1, .int .i64 a3.1.2, .int .i64 a3.2]] [(0, .sh (.slice T39) [.slice A0_ (a0).length c1_] a0), (1, .ln T84 A2_ c3_ a1), (2, .ln T70 A4_ c5_ a2)] [] (fun v H' => v = .bool r ∧ H' = []) := by
 refine A.Ct.enter Tryd.func86 rfl Tryd.ntmps86 rfl fun w0 F0 => ?_
 rw [F.R08_round] at hF
 refine A.xl 1 ?_
 refine A.AL.box 3 (cs := [.slice A0_ ((a0).length) c1_]) fun g1 => ?_
 refine A.AL.box 4 (cs := [.int .i64 a3.1.1, .int .i64 a3.1.2, .int .i64 a3.2]) fun g2 => ?_
 refine A.q0 [] [] [.n] [] ?_
 refine A.dl 2 ?_
 refine A.AL.bs0 5 T54 (fun g3 => ?_) Tryd.sizeOf55
 refine A.q0 [] [] [.n] [(9, .slice (some ⟨g3, 0, none⟩) 0 0)] ?_
 refine A.dl 2 ?_
 refine A.q0 [4] [] [.n, .b 0 0] [(15, .agg #[.int .i64 a3.1.1, .int .i64 a3.1.2])] ?_
 refine A.AL.bsl 6 (ty := T54) (cs := [.int .i64 a3.1.1, .int .i64 a3.1.2]) [(a3.1.1, a3.1.2)] ⟨⟨⟨rfl, h6_⟩, ⟨rfl, h7_⟩⟩, rfl⟩ (fun g4 => ?_) Tryd.zeroValue55 Tryd.sizeOf55
 refine A.q0 [] [] [.n] [(10, .slice (some ⟨g4, 0, none⟩) 1 1)] ?_
 refine A.dl 3 ?_
 refine A.q0 [] [] [.n] [(11, .int .i64 0)] ?_
 refine A.dx 2 ?_
 refine A.lp_ [1, 2, 4, 7] [0, 1, 2, 3, 4] (fun f nl nh => ∃ (xs7 : List D54), ∃ (xs10 : List D54), ∃ (y11 : Int), ∃ (A5 : Option Addr), ∃ (c6 : Nat), ∃ (A8 : Option Addr), ∃ (c9 : Nat), nl = [(9, .slice A5 ((xs7).length) c6), (10, .slice A8 ((xs10).length) c9), (11, .int .i64 y11)] ∧ nh = [(5, .own T54 55 A5 c6 xs7), (6, .own T54 55 A8 c9 xs10)] ∧ IntKind.i64.has y11 ∧ F.R08_round_l4 a0 a1 a2 a3 f xs7 xs10 y11 = some r) ⟨[], [(a3.1.1, a3.1.2)], 0, (some ⟨g3, 0, none⟩), 0, (some ⟨g4, 0, none⟩), 1, rfl, rfl, (A.hasl .i64 (0) rfl), hF⟩ ?_
 rintro f13 _ _ ⟨xs7, xs10, y11, A5, c6, A8, c9, rfl, rfl, hy12, hF⟩
 rcases f13 with _ | f13
 ·exact A.no0 hF
 rw [F.R08_round_l4] at hF
 refine A.xl 2 ?_
 refine A.q0 [] [] [.n, .n, .n, .n] [(20, .bool (decide (y11 < ((xs10).length : Int))))] ?_
 refine A.dx 1 ?_
 refine A.AX.cnd rfl hF (fun hb hF => ?_) (fun hb hF => ?_)
 ·refine A.xl 5 ?_
  refine A.q0 [] [] [.n] [(12, .int .i64 0)] ?_
  refine A.dx 2 ?_
  refine A.lp_ [1, 2, 4, 7, 11] [0, 1, 2, 3, 4] (fun f nl nh => ∃ (xs16 : List D54), ∃ (xs19 : List D54), ∃ (y20 : Int), ∃ (A14 : Option Addr), ∃ (c15 : Nat), ∃ (A17 : Option Addr), ∃ (c18 : Nat), nl = [(9, .slice A14 ((xs16).length) c15), (10, .slice A17 ((xs19).length) c18), (12, .int .i64 y20)] ∧ nh = [(5, .own T54 55 A14 c15 xs16), (6, .own T54 55 A17 c18 xs19)] ∧ IntKind.i64.has y20 ∧ F.R08_round_l3 (F.R08_round_l4 a0 a1 a2 a3 f13) a0 a1 a2 a3 y11 f xs16 xs19 y20 = some r) ⟨xs7, xs10, 0, A5, c6, A8, c9, rfl, rfl, (A.hasl .i64 (0) rfl), hF⟩ ?_
  rintro f22 _ _ ⟨xs16, xs19, y20, A14, c15, A17, c18, rfl, rfl, hy21, hF⟩
  rcases f22 with _ | f22
  ·exact A.no0 hF
  rw [F.R08_round_l3] at hF
  refine A.xl 2 ?_
  refine A.q0 [] [] [.n, .n, .n, .n] [(26, .bool (decide (y20 < ((a2).length : Int))))] ?_
  refine A.dx 1 ?_
  refine A.AX.cnd rfl hF (fun hb hF => ?_) (fun hb hF => ?_)
  ·refine A.xx 2 ?_
   refine A.AX.join [1, 2, 4, 7, 11, 12] [0, 1, 2, 3, 4] (fun nl nh => ∃ (xs25 : List D54), ∃ (xs28 : List D54), ∃ (A23 : Option Addr), ∃ (c24 : Nat), ∃ (A26 : Option Addr), ∃ (c27 : Nat), nl = [(9, .slice A23 ((xs25).length) c24), (10, .slice A26 ((xs28).length) c27)] ∧ nh = [(5, .own T54 55 A23 c24 xs25), (6, .own T54 55 A26 c27 xs28)] ∧ F.R08_round_j1 (F.R08_round_l3 (F.R08_round_l4 a0 a1 a2 a3 f13) a0 a1 a2 a3 y11 f22) y20 xs25 xs28 = some r) ?_ ?_
   ·refine A.xx 1 ?_
    refine A.AX.join [1, 2, 4, 7, 9, 10, 11, 12] [0, 1, 2, 3, 4, 5, 6] (fun nl nh => ∃ (y30 : Bool), nl = [(59, .bool y30)] ∧ nh = [] ∧ F.R08_round_j2 (F.R08_round_l3 (F.R08_round_l4 a0 a1 a2 a3 f13) a0 a1 a2 a3 y11 f22) a2 xs16 xs19 y20 y30 = some r) ?_ ?_
    ·refine A.AX.dr mixed 31 31 (A.mb 31 0) ?_
     refine A.hq A.pb [] [0, 1, 2, 3, 4, 5, 6] [] [] (A.mb 31 99) 27 [(0, .n), (1, .n), (5, .n), (6, .n)] [(29, .slice A4_ ((a2).length) c5_), (30, .int .i64 y20), (34, .slice A17 ((xs19).length) c18), (35, .int .i64 y11)] ?_
     obtain ⟨x49, hv50, hF⟩ := A.bd_some hF
     refine A.AH.pkl 2 791 hv50 fun ho51 => ?_
     intro b53 o54 hA52
     refine A.AH.v A.pb [0, 1, 2, 3, 4, 5, 6] [0, 1, 2, 3, 4, 5, 6, 791] 2 (A.mb 31 103) rfl (fun a w hf hh => A.r_ixa (t := T70) hv50 hA52 hf) ?_
     refine A.hq A.pb [0, 1, 2, 3, 4, 5, 6, 791] [0, 1, 2, 3, 4, 5, 6, 791] [] [791] (A.mb 31 127) 24 [(3, .n), (4, .e 0 0)] [(33, .agg #[.int .i64 x49.1.1, .int .i64 x49.1.2])] ?_
     obtain ⟨x55, hv56, hF⟩ := A.bd_some hF
     refine A.AH.pko 6 792 hv56 fun ho57 => ?_
     intro g59 hA58
     refine A.AH.v A.pb [0, 1, 2, 3, 4, 5, 6, 791] [0, 1, 2, 3, 4, 5, 6, 791, 792] 7 (A.mb 31 255) rfl (fun a w hf hh => A.r_ixo (t := T54) hv56 hA58 hf) ?_
     refine A.hq A.pb [0, 1, 2, 3, 4, 5, 6, 791, 792] [0, 1, 2, 3, 4, 5, 6, 791, 792] [] [792] (A.mb 31 511) 22 [(8, .e 0 0)] [(37, .agg #[.int .i64 x55.1, .int .i64 x55.2])] ?_
     refine A.AH.v A.pb [0, 1, 2, 3, 4, 5, 6, 791, 792] [0, 1, 2, 3, 4, 5, 6, 791, 792] 9 (A.mb 31 1023) rfl (fun a w hf hh => eqagg_eql55 (x := (x49.1.1, x49.1.2)) (y := (x55.1, x55.2)) (hf.eval rfl) (hf.eval rfl)) ?_
     refine A.hq A.pb [0, 1, 2, 3, 4, 5, 6, 791, 792] [0, 1, 2, 3, 4, 5, 6, 791, 792] [] [] (A.mb 31 2047) 20 [(10, .n)] [(39, .bool (decide ((x49.1.1, x49.1.2) = (x55.1, x55.2))))] ?_
     refine A.AH.cnp (j := 39) rfl hF (fun hb hF => ?_) (fun hb hF => ?_)
     ·refine A.hq A.pb [0, 1, 2, 3, 4, 5, 6, 791, 792] [0, 1, 2, 3, 4, 5, 6, 791, 792] [3, 4] [] (A.mb 31 425983) 14 [(11, .on (.b 0 0)), (12, .on .n), (13, .on .n), (14, .on .n), (17, .on .n), (18, .on (.b 1 2))] [(40, .agg #[.slice A0_ ((a0).length) c1_]), (41, .slice A2_ ((a1).length) c3_), (42, .slice A4_ ((a2).length) c5_), (43, .int .i64 y20), (47, .int .i64 a3.2)] ?_
      obtain ⟨x60, hv61, hF⟩ := A.bd_some hF
      refine A.AH.pkl 2 793 hv61 fun ho62 => ?_
      intro b64 o65 hA63
      refine A.AH.vg A.pb [0, 1, 2, 3, 4, 5, 6, 791, 792] [0, 1, 2, 3, 4, 5, 6, 791, 792, 793] 15 (A.mb 31 458751) (dj := 39) rfl (fun a w hf hh => A.r_ixa (t := T70) hv61 hA63 hf) ?_
      refine A.hq A.pb [0, 1, 2, 3, 4, 5, 6, 791, 792, 793] [0, 1, 2, 3, 4, 5, 6, 791, 792, 793] [] [793] (A.mb 31 524287) 12 [(16, .on (.e 0 0))] [(45, .agg #[.int .i64 x60.1.1, .int .i64 x60.1.2, .int .i64 x60.2.1.1, .int .i64 x60.2.1.2, .int .i64 x60.2.2.1, .int .i64 x60.2.2.2.1, .int .i64 x60.2.2.2.2.1, .int .i64 x60.2.2.2.2.2.1, .int .i64 x60.2.2.2.2.2.2.1, .int .i64 x60.2.2.2.2.2.2.2.1, .int .i64 x60.2.2.2.2.2.2.2.2.1, .int .i64 x60.2.2.2.2.2.2.2.2.2])] ?_
      refine A.AH.one 19 ?_
      refine A.AL.on (dj := 39) rfl rfl ?_
      obtain ⟨r66, hv67, hF⟩ := A.bd_some hF
      refine A.AL.call 794 [] (first := []) (cap := []) cf105 (R08_open_ok a0 a1 ((x60.1.1, x60.1.2), (x60.2.1.1, x60.2.1.2), (x60.2.2.1, x60.2.2.2.1, x60.2.2.2.2.1, x60.2.2.2.2.2.1, (x60.2.2.2.2.2.2.1, x60.2.2.2.2.2.2.2.1, x60.2.2.2.2.2.2.2.2.1, x60.2.2.2.2.2.2.2.2.2))) a3.2 A0_ c1_ A2_ c3_ ho62.1.1 ho62.1.2 ho62.2.1.1 ho62.2.1.2 ho62.2.2.1 ho62.2.2.2.1 ho62.2.2.2.2.1 ho62.2.2.2.2.2.1 ho62.2.2.2.2.2.2.1 ho62.2.2.2.2.2.2.2.1 ho62.2.2.2.2.2.2.2.2.1 ho62.2.2.2.2.2.2.2.2.2 h8_ r66 hv67) (.s 0 (.s 1 .nil)) ?_
      rintro _ _ ⟨rfl, rfl⟩
      refine ⟨by kernel_rfl, ?_⟩
      refine A.AH.nx (A.mb 31 1048575) [0, 1, 2, 3, 4, 5, 6, 791, 792, 793] ?_
      refine A.hq A.pb [0, 1, 2, 3, 4, 5, 6, 791, 792, 793] [0, 1, 2, 3, 4, 5, 6, 791, 792, 793] [] [] (A.mb 31 4194303) 9 [(20, .n), (21, .n)] [(50, .bool r66)] ?_
      refine A.AH.cnd (j := 50) rfl hF (fun hF => ?_) (fun hF => ?_)
      ·refine A.hq A.pb [0, 1, 2, 3, 4, 5, 6, 791, 792, 793] [0, 1, 2, 3, 4, 5, 6, 791, 792, 793] [] [] (A.mb 31 33554431) 6 [(22, .on .n), (23, .on .n), (24, .on .n)] [(51, .slice A14 ((xs16).length) c15), (52, .slice A4_ ((a2).length) c5_), (53, .int .i64 y20)] ?_
       obtain ⟨x68, hv69, hF⟩ := A.bd_some hF
       refine A.AH.pkl 2 834 hv69 fun ho70 => ?_
       intro b72 o73 hA71
       refine A.AH.vg A.pb [0, 1, 2, 3, 4, 5, 6, 791, 792, 793] [0, 1, 2, 3, 4, 5, 6, 791, 792, 793, 834] 25 (A.mb 31 67108863) (dj := 50) rfl (fun a w hf hh => A.r_ixa (t := T70) hv69 hA71 hf) ?_
       refine A.hq A.pb [0, 1, 2, 3, 4, 5, 6, 791, 792, 793, 834] [0, 1, 2, 3, 4, 5, 6, 791, 792, 793, 834] [] [834] (A.mb 31 268435455) 3 [(26, .on .n), (27, .on (.e 0 2))] [(56, .agg #[.int .i64 x68.2.1.1, .int .i64 x68.2.1.2])] ?_
       refine A.AH.one 28 ?_
       refine A.AL.on (dj := 50) rfl rfl ?_
       obtain ⟨r74, hv75, hF⟩ := A.bd_some hF
       refine A.AL.call 835 [] (first := []) (cap := []) cf106 (R08_on_ok xs16 (x68.2.1.1, x68.2.1.2) A14 c15 ho70.2.1.1 ho70.2.1.2 r74 hv75) (.o 5 .nil) ?_
       rintro _ _ ⟨rfl, rfl⟩
       refine ⟨by kernel_rfl, ?_⟩
       refine A.AH.nx (A.mb 31 536870911) [0, 1, 2, 3, 4, 5, 6, 791, 792, 793, 834] ?_
       refine A.hq A.pb [0, 1, 2, 3, 4, 5, 6, 791, 792, 793, 834] [0, 1, 2, 3, 4, 5, 6, 791, 792, 793, 834] [] [] (A.mb 31 2147483647) 0 [(29, .on .n), (30, .n)] [(59, .bool (!r74))] ?_
       refine A.AH.done ?_
       exact A.j ⟨(!r74), rfl, rfl, hF⟩
      refine A.hq A.pb [0, 1, 2, 3, 4, 5, 6, 791, 792, 793] [0, 1, 2, 3, 4, 5, 6, 791, 792, 793] [] [] (A.mb 31 2147483647) 0 [(22, .off), (23, .off), (24, .off), (25, .off), (26, .off), (27, .off), (28, .off), (29, .off), (30, .n)] [(59, .bool false)] ?_
      refine A.AH.done ?_
      exact A.j ⟨false, rfl, rfl, hF⟩
     refine A.hq A.pb [0, 1, 2, 3, 4, 5, 6, 791, 792] [0, 1, 2, 3, 4, 5, 6, 791, 792] [] [] (A.mb 31 2147483647) 0 [(11, .off), (12, .off), (13, .off), (14, .off), (17, .off), (15, .off), (18, .off), (16, .off), (19, .off), (20, .n), (21, .n), (22, .off), (23, .off), (24, .off), (25, .off), (26, .off), (27, .off), (28, .off), (29, .off), (30, .n)] [(59, .bool false)] ?_
     refine A.AH.done ?_
     exact A.j ⟨false, rfl, rfl, hF⟩
    rintro _ _ ⟨y30, rfl, rfl, hF⟩
    rw [F.R08_round_j2] at hF
    refine A.AX.cnb rfl hF (fun hb hF => ?_) (fun hb hF => ?_)
    ·refine A.xl 1 ?_
     refine A.q0 [] [] [.n, .n, .n] [(60, .slice A14 ((xs16).length) c15), (61, .slice A4_ ((a2).length) c5_), (62, .int .i64 y20)] ?_
     obtain ⟨x31, hv32, hF⟩ := A.bd_some hF
     refine A.AL.ixl 2 875 hv32 fun ho33 => ?_
     intro b34 o35
     refine A.q0 [] [875] [.n, .e 0 2] [(65, .agg #[.int .i64 x31.2.1.1, .int .i64 x31.2.1.2])] ?_
     refine A.AL.bsl 876 (ty := T54) (cs := [.int .i64 x31.2.1.1, .int .i64 x31.2.1.2]) [(x31.2.1.1, x31.2.1.2)] ⟨⟨⟨rfl, ho33.2.1.1⟩, ⟨rfl, ho33.2.1.2⟩⟩, rfl⟩ (fun g36 => ?_) Tryd.zeroValue55 Tryd.sizeOf55
     obtain ⟨hl39, hF⟩ := A.gd_some hF
     refine A.AL.app (k := 5) [] (A.rowO (k := 876) rfl) inf55 hl39 fun A37 c38 => ?_
     refine A.q0 [] [] [.n] [(9, .slice A37 ((xs16 ++ [(x31.2.1.1, x31.2.1.2)]).length) c38)] ?_
     refine A.dl 1 ?_
     refine A.q0 [] [] [.n, .n, .n] [(68, .slice A17 ((xs19).length) c18), (69, .slice A4_ ((a2).length) c5_), (70, .int .i64 y20)] ?_
     obtain ⟨x40, hv41, hF⟩ := A.bd_some hF
     refine A.AL.ixl 2 877 hv41 fun ho42 => ?_
     intro b43 o44
     refine A.q0 [] [877] [.n, .e 0 2] [(73, .agg #[.int .i64 x40.2.1.1, .int .i64 x40.2.1.2])] ?_
     refine A.AL.bsl 878 (ty := T54) (cs := [.int .i64 x40.2.1.1, .int .i64 x40.2.1.2]) [(x40.2.1.1, x40.2.1.2)] ⟨⟨⟨rfl, ho42.2.1.1⟩, ⟨rfl, ho42.2.1.2⟩⟩, rfl⟩ (fun g45 => ?_) Tryd.zeroValue55 Tryd.sizeOf55
     obtain ⟨hl48, hF⟩ := A.gd_some hF
     refine A.AL.app (k := 6) [] (A.rowO (k := 878) rfl) inf55 hl48 fun A46 c47 => ?_
     refine A.q0 [] [] [.n] [(10, .slice A46 ((xs19 ++ [(x40.2.1.1, x40.2.1.2)]).length) c47)] ?_
     refine A.de 1 ?_
     exact A.j ⟨(xs16 ++ [(x31.2.1.1, x31.2.1.2)]), (xs19 ++ [(x40.2.1.1, x40.2.1.2)]), A37, c38, A46, c47, rfl, rfl, hF⟩
    refine A.xe 2 ?_
    exact A.j ⟨xs16, xs19, A14, c15, A17, c18, rfl, rfl, hF⟩
   rintro _ _ ⟨xs25, xs28, A23, c24, A26, c27, rfl, rfl, hF⟩
   rw [F.R08_round_j1] at hF
   refine A.xl 0 ?_
   obtain ⟨hc29, hF⟩ := A.gd_some hF
   refine A.q [] [] [.n, .n, .n] [Z.R64 (y20 + 1)] [(12, .int .i64 (y20 + 1))] hc29 ?_
   refine A.AL.done ?_
   exact A.j ⟨_, Nat.lt_succ_self _, ⟨xs25, xs28, (y20 + 1), A23, c24, A26, c27, rfl, rfl, (Z.i64_has hc29), hF⟩⟩
  refine A.xl 3 ?_
  obtain ⟨hc76, hF⟩ := A.gd_some hF
  refine A.q [] [] [.n, .n, .n] [Z.R64 (y11 + 1)] [(11, .int .i64 (y11 + 1))] hc76 ?_
  refine A.AL.done ?_
  exact A.j ⟨_, Nat.lt_succ_self _, ⟨xs16, xs19, (y11 + 1), A14, c15, A17, c18, rfl, rfl, (Z.i64_has hc76), hF⟩⟩
 refine A.xl 3 ?_
 refine A.q0 [4] [] [.n, .n, .b 0 0] [(76, .slice A5 ((xs7).length) c6), (78, .agg #[.int .i64 a3.1.1, .int .i64 a3.1.2])] ?_
 obtain ⟨r77, hv78, hF⟩ := A.bd_some hF
 refine A.AL.call 879 [] (first := []) (cap := []) cf106 (R08_on_ok xs7 (a3.1.1, a3.1.2) A5 c6 h6_ h7_ r77 hv78) (.o 5 .nil) ?_
 rintro _ _ ⟨rfl, rfl⟩
 refine ⟨by kernel_rfl, ?_⟩
 refine A.q0 [] [] [.n] [(8, .bool r77)] ?_
 refine A.dx 1 ?_
 obtain rfl := Option.some.inj hF
 exact A.rt1 [] ⟨rfl, rfl⟩

def F.R08_whole_l1 (a0 : D23) (r5 : (List Int) × Bool) (r9 : (List Int) × Bool) (r13 : (List D84)) (r17 : (List D70)) : Nat → Int → Option ((List Int) × (List Int) × Int)
  | 0, _ => none
  | f + 1, y21 => if y21 < ((r13).length : Int) then ((A.ix r13 y21).bind fun x24 => ((F.R08_round a0 r13 r17 ((x24.1.1, x24.1.2), x24.2)).bind fun r29 => (if r29 = true then (some ([], [], 81)) else (A.gd (Z.R64 (y21 + 1)) ((F.R08_whole_l1 a0 r5 r9 r13 r17 f) (y21 + 1)))))) else (some (r5.1, r9.1, 0))
def F.R08_whole (a0 : D23) : Option ((List Int) × (List Int) × Int) := (F.R08_parts a0).bind fun r2 => (if r2 ≠ 0 then (some ([], [], r2)) else ((F.R08_order a0).bind fun r5 => (if (!r5.2) = true then (some ([], [], 81)) else ((F.R08_depths a0 r5.1).bind fun r9 => (if (!r9.2) = true then (some ([], [], 80)) else ((F.R08_spots a0 r9.1).bind fun r13 => ((F.R08_edges a0 r13).bind fun r17 => (F.R08_whole_l1 a0 r5 r9 r13 r17 A.FU 0))))))))
theorem R08_whole_ok (a0 : D23) (A0_ : Option Addr) (c1_ : Nat) (r : (List Int) × (List Int) × Int) (hF : F.R08_whole a0 = some r) :
    A.Ct Tryd.prog 54 [.agg #[.slice A0_ ((a0).length) c1_]] [(0, .sh (.slice T39) [.slice A0_ (a0).length c1_] a0)] [] (fun v H' => ∃ (A0' : Option Addr) (c1' : Nat) (A2' : Option Addr) (c3' : Nat), v = .tuple #[.slice A0' ((r.1).length) c1', .slice A2' ((r.2.1).length) c3', .int .i64 r.2.2] ∧ H' = [(0, .own (Z.Ty.int .i64) 3 A0' c1' r.1), (1, .own (Z.Ty.int .i64) 3 A2' c3' r.2.1)] ∧ IntKind.i64.has r.2.2) := by
 refine A.Ct.enter Tryd.func54 rfl Tryd.ntmps54 rfl fun w0 F0 => ?_
 rw [F.R08_whole] at hF
 refine A.xl 1 ?_
 refine A.AL.box 1 (cs := [.slice A0_ ((a0).length) c1_]) fun g1 => ?_
 refine A.q0 [] [] [.n, .n, .n] [] ?_
 refine A.dl 3 ?_
 refine A.q0 [1] [] [.b 0 0] [(12, .agg #[.slice A0_ ((a0).length) c1_])] ?_
 obtain ⟨r2, hv3, hF⟩ := A.bd_some hF
 refine A.AL.call 2 [] (first := []) (cap := []) cf83 (R08_parts_ok a0 A0_ c1_ r2 hv3) (.s 0 .nil) ?_
 rintro _ _ ⟨rfl, rfl, hr4⟩
 refine ⟨by kernel_rfl, ?_⟩
 refine A.q0 [] [] [.n] [(5, .int .i64 r2)] ?_
 refine A.dl 2 ?_
 refine A.q0 [] [] [.n, .n] [(15, .bool (decide (r2 ≠ 0)))] ?_
 refine A.dx 1 ?_
 refine A.AX.cnd rfl hF (fun hb hF => ?_) (fun hb hF => ?_)
 ·refine A.xl 1 ?_
  refine A.q0 [] [] [.n, .n, .n, .n] [(2, .slice none 0 0), (3, .slice none 0 0), (4, .int .i64 r2)] ?_
  refine A.dx 1 ?_
  obtain rfl := Option.some.inj hF
  refine A.nil 42 (Z.Ty.int .i64) 3 ?_
  refine A.nil 43 (Z.Ty.int .i64) 3 ?_
  exact A.AX.ret [(0, 42), (1, 43)] (.tuple #[.slice none 0 0, .slice none 0 0, .int .i64 r2]) (fun a w hf hh => Z.resv3 rfl (Z.rv_t hf rfl) (Z.rv_t hf rfl) (Z.rv_t hf rfl)) (⟨none, 0, none, 0, rfl, rfl, hr4⟩)
 refine A.xl 3 ?_
 refine A.q0 [1] [] [.b 0 0] [(18, .agg #[.slice A0_ ((a0).length) c1_])] ?_
 obtain ⟨r5, hv6, hF⟩ := A.bd_some hF
 refine A.AL.call 44 [] (first := []) (cap := []) cf84 (R08_order_ok a0 A0_ c1_ r5 hv6) (.s 0 .nil) ?_
 rintro _ _ ⟨A7, c8, rfl, rfl⟩
 refine ⟨by kernel_rfl, ?_⟩
 refine A.q0 [] [] [.n, .n, .n, .n, .n] [(6, .slice A7 ((r5.1).length) c8), (7, .bool r5.2)] ?_
 refine A.dl 3 ?_
 refine A.q0 [] [] [.n, .n] [(23, .bool (!r5.2))] ?_
 refine A.dx 1 ?_
 refine A.AX.cnb rfl hF (fun hb hF => ?_) (fun hb hF => ?_)
 ·refine A.xl 1 ?_
  refine A.q0 [] [] [.n, .n, .n] [(2, .slice none 0 0), (3, .slice none 0 0), (4, .int .i64 81)] ?_
  refine A.dx 1 ?_
  obtain rfl := Option.some.inj hF
  refine A.nil 84 (Z.Ty.int .i64) 3 ?_
  refine A.nil 85 (Z.Ty.int .i64) 3 ?_
  exact A.AX.ret [(0, 84), (1, 85)] (.tuple #[.slice none 0 0, .slice none 0 0, .int .i64 81]) (fun a w hf hh => Z.resv3 rfl (Z.rv_t hf rfl) (Z.rv_t hf rfl) (Z.rv_t hf rfl)) (⟨none, 0, none, 0, rfl, rfl, (A.hasl .i64 (81) rfl)⟩)
 refine A.xl 3 ?_
 refine A.q0 [1] [] [.b 0 0, .n] [(25, .agg #[.slice A0_ ((a0).length) c1_]), (26, .slice A7 ((r5.1).length) c8)] ?_
 obtain ⟨r9, hv10, hF⟩ := A.bd_some hF
 refine A.AL.call 86 [] (first := []) (cap := []) cf85 (R08_depths_ok a0 r5.1 A0_ c1_ A7 c8 r9 hv10) (.s 0 (.o 44 .nil)) ?_
 rintro _ _ ⟨A11, c12, rfl, rfl⟩
 refine ⟨by kernel_rfl, ?_⟩
 refine A.q0 [] [] [.n, .n, .n, .n, .n] [(8, .slice A11 ((r9.1).length) c12), (7, .bool r9.2)] ?_
 refine A.dl 3 ?_
 refine A.q0 [] [] [.n, .n] [(31, .bool (!r9.2))] ?_
 refine A.dx 1 ?_
 refine A.AX.cnb rfl hF (fun hb hF => ?_) (fun hb hF => ?_)
 ·refine A.xl 1 ?_
  refine A.q0 [] [] [.n, .n, .n] [(2, .slice none 0 0), (3, .slice none 0 0), (4, .int .i64 80)] ?_
  refine A.dx 1 ?_
  obtain rfl := Option.some.inj hF
  refine A.nil 126 (Z.Ty.int .i64) 3 ?_
  refine A.nil 127 (Z.Ty.int .i64) 3 ?_
  exact A.AX.ret [(0, 126), (1, 127)] (.tuple #[.slice none 0 0, .slice none 0 0, .int .i64 80]) (fun a w hf hh => Z.resv3 rfl (Z.rv_t hf rfl) (Z.rv_t hf rfl) (Z.rv_t hf rfl)) (⟨none, 0, none, 0, rfl, rfl, (A.hasl .i64 (80) rfl)⟩)
 refine A.xl 3 ?_
 refine A.q0 [1] [] [.b 0 0, .n] [(32, .agg #[.slice A0_ ((a0).length) c1_]), (33, .slice A11 ((r9.1).length) c12)] ?_
 obtain ⟨r13, hv14, hF⟩ := A.bd_some hF
 refine A.AL.call 128 [] (first := []) (cap := []) cf73 (R08_spots_ok a0 r9.1 A0_ c1_ A11 c12 r13 hv14) (.s 0 (.o 86 .nil)) ?_
 rintro _ _ ⟨A15, c16, rfl, rfl⟩
 refine ⟨by kernel_rfl, ?_⟩
 refine A.q0 [] [] [.n] [(9, .slice A15 ((r13).length) c16)] ?_
 refine A.dl 2 ?_
 refine A.q0 [1] [] [.b 0 0, .n] [(35, .agg #[.slice A0_ ((a0).length) c1_]), (36, .slice A15 ((r13).length) c16)] ?_
 obtain ⟨r17, hv18, hF⟩ := A.bd_some hF
 refine A.AL.call 168 [] (first := []) (cap := []) cf74 (R08_edges_ok a0 r13 A0_ c1_ A15 c16 r17 hv18) (.s 0 (.o 128 .nil)) ?_
 rintro _ _ ⟨A19, c20, rfl, rfl⟩
 refine ⟨by kernel_rfl, ?_⟩
 refine A.q0 [] [] [.n] [(10, .slice A19 ((r17).length) c20)] ?_
 refine A.dl 3 ?_
 refine A.q0 [] [] [.n] [(11, .int .i64 0)] ?_
 refine A.dx 2 ?_
 refine A.lp_ [1, 6, 8, 9, 10] [0, 1, 44, 86, 128, 168] (fun f nl nh => ∃ (y21 : Int), nl = [(11, .int .i64 y21)] ∧ nh = [] ∧ IntKind.i64.has y21 ∧ F.R08_whole_l1 a0 r5 r9 r13 r17 f y21 = some r) ⟨0, rfl, rfl, (A.hasl .i64 (0) rfl), hF⟩ ?_
 rintro f23 _ _ ⟨y21, rfl, rfl, hy22, hF⟩
 rcases f23 with _ | f23
 ·exact A.no0 hF
 rw [F.R08_whole_l1] at hF
 refine A.xl 2 ?_
 refine A.q0 [] [] [.n, .n, .n, .n] [(41, .bool (decide (y21 < ((r13).length : Int))))] ?_
 refine A.dx 1 ?_
 refine A.AX.cnd rfl hF (fun hb hF => ?_) (fun hb hF => ?_)
 ·refine A.xx 5 ?_
  refine A.AX.dr mixed 7 8 (A.mb 8 0) ?_
  refine A.hq A.pb [] [0, 1, 44, 86, 128, 168] [1] [] (A.mb 8 31) 3 [(0, .b 0 0), (1, .n), (2, .n), (3, .n), (4, .n)] [(44, .agg #[.slice A0_ ((a0).length) c1_]), (45, .slice A15 ((r13).length) c16), (46, .slice A19 ((r17).length) c20), (47, .slice A15 ((r13).length) c16), (48, .int .i64 y21)] ?_
  obtain ⟨x24, hv25, hF⟩ := A.bd_some hF
  refine A.AH.pko 128 294 hv25 fun ho26 => ?_
  intro g28 hA27
  refine A.AH.v A.pb [0, 1, 44, 86, 128, 168] [0, 1, 44, 86, 128, 168, 294] 5 (A.mb 8 63) rfl (fun a w hf hh => A.r_ixo (t := T84) hv25 hA27 hf) ?_
  refine A.hq A.pb [0, 1, 44, 86, 128, 168, 294] [0, 1, 44, 86, 128, 168, 294] [] [294] (A.mb 8 127) 1 [(6, .e 0 0)] [(50, .agg #[.int .i64 x24.1.1, .int .i64 x24.1.2, .int .i64 x24.2])] ?_
  refine A.AH.one 7 ?_
  obtain ⟨r29, hv30, hF⟩ := A.bd_some hF
  refine A.AL.call 295 [] (first := []) (cap := []) cf86 (R08_round_ok a0 r13 r17 ((x24.1.1, x24.1.2), x24.2) A0_ c1_ A15 c16 A19 c20 ho26.1.1 ho26.1.2 ho26.2 r29 hv30) (.s 0 (.o 128 (.o 168 .nil))) ?_
  rintro _ _ ⟨rfl, rfl⟩
  refine ⟨by kernel_rfl, ?_⟩
  refine A.AH.nm (A.mb 8 255) ?_
  refine A.AH.done ?_
  refine A.ex 1 ?_
  refine A.AX.cnb rfl hF (fun hb hF => ?_) (fun hb hF => ?_)
  ·refine A.xl 1 ?_
   refine A.q0 [] [] [.n, .n, .n] [(2, .slice none 0 0), (3, .slice none 0 0), (4, .int .i64 81)] ?_
   refine A.dx 1 ?_
   obtain rfl := Option.some.inj hF
   refine A.nil 335 (Z.Ty.int .i64) 3 ?_
   refine A.nil 336 (Z.Ty.int .i64) 3 ?_
   exact A.AX.ret [(0, 335), (1, 336)] (.tuple #[.slice none 0 0, .slice none 0 0, .int .i64 81]) (fun a w hf hh => Z.resv3 rfl (Z.rv_t hf rfl) (Z.rv_t hf rfl) (Z.rv_t hf rfl)) (⟨none, 0, none, 0, rfl, rfl, (A.hasl .i64 (81) rfl)⟩)
  refine A.xl 3 ?_
  obtain ⟨hc31, hF⟩ := A.gd_some hF
  refine A.q [] [] [.n, .n, .n] [Z.R64 (y21 + 1)] [(11, .int .i64 (y21 + 1))] hc31 ?_
  refine A.AL.done ?_
  exact A.j ⟨_, Nat.lt_succ_self _, ⟨(y21 + 1), rfl, rfl, (Z.i64_has hc31), hF⟩⟩
 refine A.xl 3 ?_
 refine A.q0 [] [] [.n, .n, .n, .n, .n] [(2, .slice A7 ((r5.1).length) c8), (3, .slice A11 ((r9.1).length) c12), (4, .int .i64 0)] ?_
 refine A.dx 1 ?_
 obtain rfl := Option.some.inj hF
 exact A.AX.ret [(0, 44), (1, 86)] (.tuple #[.slice A7 ((r5.1).length) c8, .slice A11 ((r9.1).length) c12, .int .i64 0]) (fun a w hf hh => Z.resv3 rfl (Z.rv_t hf rfl) (Z.rv_t hf rfl) (Z.rv_t hf rfl)) (⟨A7, c8, A11, c12, rfl, rfl, (A.hasl .i64 (0) rfl)⟩)

end Go.Proofs.YtleiipbkfaajfaaDoor
end

section
set_option linter.unusedVariables false
set_option linter.unusedSimpArgs false
set_option maxRecDepth 20000
set_option maxHeartbeats 8000000
set_option synthInstance.maxSize 1000000
set_option synthInstance.maxHeartbeats 400000
namespace Go.Proofs.YtleiipbkfaajfaaDoor
open Go.RowKit
def F.R08_Check (a0 : D23) : Option Int := (F.R08_whole a0).bind fun r2 => (some r2.2.2)
theorem R08_Check_ok (a0 : D23) (A0_ : Option Addr) (c1_ : Nat) (r : Int) (hF : F.R08_Check a0 = some r) :
    A.Ct Tryd.prog 15 [.agg #[.slice A0_ ((a0).length) c1_]] [(0, .sh (.slice T39) [.slice A0_ (a0).length c1_] a0)] [] (fun v H' => v = .int .i64 r ∧ H' = [] ∧ IntKind.i64.has r) := by
 refine A.Ct.enter Tryd.func15 rfl Tryd.ntmps15 rfl fun w0 F0 => ?_
 rw [F.R08_Check] at hF
 refine A.xl 1 ?_
 refine A.AL.box 1 (cs := [.slice A0_ ((a0).length) c1_]) fun g1 => ?_
 refine A.q0 [] [] [.n] [] ?_
 refine A.dl 2 ?_
 refine A.q0 [1] [] [.b 0 0] [(7, .agg #[.slice A0_ ((a0).length) c1_])] ?_
 obtain ⟨r2, hv3, hF⟩ := A.bd_some hF
 refine A.AL.call 2 [] (first := []) (cap := []) cf54 (R08_whole_ok a0 A0_ c1_ r2 hv3) (.s 0 .nil) ?_
 rintro _ _ ⟨A4, c5, A6, c7, rfl, rfl, hr8⟩
 refine ⟨by kernel_rfl, ?_⟩
 refine A.q0 [] [] [.n, .n, .n, .n, .n, .n, .n] [(5, .int .i64 r2.2.2)] ?_
 refine A.dl 2 ?_
 refine A.q0 [] [] [.n, .n] [(2, .int .i64 r2.2.2)] ?_
 refine A.dx 1 ?_
 obtain rfl := Option.some.inj hF
 exact A.rt1 [] ⟨rfl, rfl, hr8⟩

def F.R08_Depth (a0 : D23) (a1 : Int) : Option (Int × Int) := (F.R08_whole a0).bind fun r2 => (if r2.2.2 ≠ 0 then (some (0, r2.2.2)) else ((F.R08_index a0 a1).bind fun r9 => (if r9 < 0 then (some (0, 4)) else ((A.ix r2.2.1 r9).bind fun x12 => (some (x12, 0))))))
theorem R08_Depth_ok (a0 : D23) (a1 : Int) (A0_ : Option Addr) (c1_ : Nat) (h2_ : IntKind.i64.has a1) (r : Int × Int) (hF : F.R08_Depth a0 a1 = some r) :
    A.Ct Tryd.prog 33 [.agg #[.slice A0_ ((a0).length) c1_], .int .i64 a1] [(0, .sh (.slice T39) [.slice A0_ (a0).length c1_] a0)] [] (fun v H' => v = .tuple #[.int .i64 r.1, .int .i64 r.2] ∧ H' = [] ∧ IntKind.i64.has r.1 ∧ IntKind.i64.has r.2) := by
 refine A.Ct.enter Tryd.func33 rfl Tryd.ntmps33 rfl fun w0 F0 => ?_
 rw [F.R08_Depth] at hF
 refine A.xl 1 ?_
 refine A.AL.box 1 (cs := [.slice A0_ ((a0).length) c1_]) fun g1 => ?_
 refine A.q0 [] [] [.n, .n] [] ?_
 refine A.dl 2 ?_
 refine A.q0 [1] [] [.b 0 0] [(11, .agg #[.slice A0_ ((a0).length) c1_])] ?_
 obtain ⟨r2, hv3, hF⟩ := A.bd_some hF
 refine A.AL.call 2 [] (first := []) (cap := []) cf54 (R08_whole_ok a0 A0_ c1_ r2 hv3) (.s 0 .nil) ?_
 rintro _ _ ⟨A4, c5, A6, c7, rfl, rfl, hr8⟩
 refine ⟨by kernel_rfl, ?_⟩
 refine A.q0 [] [] [.n, .n, .n, .n, .n, .n, .n] [(7, .slice A6 ((r2.2.1).length) c7), (8, .int .i64 r2.2.2)] ?_
 refine A.dl 3 ?_
 refine A.q0 [] [] [.n, .n] [(17, .bool (decide (r2.2.2 ≠ 0)))] ?_
 refine A.dx 1 ?_
 refine A.AX.cnd rfl hF (fun hb hF => ?_) (fun hb hF => ?_)
 ·refine A.xl 1 ?_
  refine A.q0 [] [] [.n, .n, .n] [(4, .int .i64 0), (5, .int .i64 r2.2.2)] ?_
  refine A.dx 1 ?_
  obtain rfl := Option.some.inj hF
  exact A.rt2 [] ⟨rfl, rfl, (A.hasl .i64 (0) rfl), hr8⟩
 refine A.xl 3 ?_
 refine A.q0 [1] [] [.b 0 0, .n] [(19, .agg #[.slice A0_ ((a0).length) c1_]), (20, .int .i64 a1)] ?_
 obtain ⟨r9, hv10, hF⟩ := A.bd_some hF
 refine A.AL.call 42 [] (first := []) (cap := []) cf60 (R08_index_ok a0 a1 A0_ c1_ h2_ r9 hv10) (.s 0 .nil) ?_
 rintro _ _ ⟨rfl, rfl, hr11⟩
 refine ⟨by kernel_rfl, ?_⟩
 refine A.q0 [] [] [.n] [(9, .int .i64 r9)] ?_
 refine A.dl 3 ?_
 refine A.q0 [] [] [.n, .n] [(23, .bool (decide (r9 < 0)))] ?_
 refine A.dx 1 ?_
 refine A.AX.cnd rfl hF (fun hb hF => ?_) (fun hb hF => ?_)
 ·refine A.xl 1 ?_
  refine A.q0 [] [] [.n, .n] [(4, .int .i64 0), (5, .int .i64 4)] ?_
  refine A.dx 1 ?_
  obtain rfl := Option.some.inj hF
  exact A.rt2 [] ⟨rfl, rfl, (A.hasl .i64 (0) rfl), (A.hasl .i64 (4) rfl)⟩
 refine A.xl 3 ?_
 refine A.q0 [] [] [.n, .n] [(24, .slice A6 ((r2.2.1).length) c7), (25, .int .i64 r9)] ?_
 obtain ⟨x12, hv13, hF⟩ := A.bd_some hF
 refine A.AL.ixo 3 82 hv13 fun ho14 => ?_
 intro g15 hA16
 refine A.q0 [] [82] [.e 0 0, .n, .n] [(4, .int .i64 x12), (5, .int .i64 0)] ?_
 refine A.dx 1 ?_
 obtain rfl := Option.some.inj hF
 exact A.rt2 [] ⟨rfl, rfl, ho14, (A.hasl .i64 (0) rfl)⟩

def F.R08_Users_j1 (k5 : (List D54) → Int → Option (List D54)) (y14 : Int) (xs26 : List D54) : Option (List D54) := A.gd (Z.R64 (y14 + 1)) (k5 xs26 (y14 + 1))
def F.R08_Users_l2 (k4 : (List D54) → Int → Option (List D54)) (a0 : D23) (a1 : Int) (y8 : Int) : Nat → (List D54) → Int → Option (List D54)
  | 0, _, _ => none
  | f + 1, xs13, y14 => (A.ix a0 y8).bind fun x17 => (if y14 < ((x17.2.2.1).length : Int) then ((A.ix a0 y8).bind fun x28 => ((A.ix x28.2.2.1 y14).bind fun x35 => (if x35 = a1 then ((A.ix a0 y8).bind fun x40 => (A.gd ((List.length (α := D54) xs13 + List.length (α := D54) [(x40.1, y14)]) * 16 ≤ 140737488355328) (F.R08_Users_j1 (F.R08_Users_l2 k4 a0 a1 y8 f) y14 (xs13 ++ [(x40.1, y14)])))) else (F.R08_Users_j1 (F.R08_Users_l2 k4 a0 a1 y8 f) y14 xs13)))) else (A.gd (Z.R64 (y8 + 1)) (k4 xs13 (y8 + 1))))
def F.R08_Users_l3 (a0 : D23) (a1 : Int) : Nat → (List D54) → Int → Option (List D54)
  | 0, _, _ => none
  | f + 1, xs7, y8 => if y8 < ((a0).length : Int) then (F.R08_Users_l2 (F.R08_Users_l3 a0 a1 f) a0 a1 y8 A.FU xs7 0) else (some xs7)
def F.R08_Users (a0 : D23) (a1 : Int) : Option (List D54) := (F.R08_Check a0).bind fun r2 => (if r2 ≠ 0 then (some []) else (F.R08_Users_l3 a0 a1 A.FU [] 0))
theorem R08_Users_ok (a0 : D23) (a1 : Int) (A0_ : Option Addr) (c1_ : Nat) (h2_ : IntKind.i64.has a1) (r : (List D54)) (hF : F.R08_Users a0 a1 = some r) :
    A.Ct Tryd.prog 34 [.agg #[.slice A0_ ((a0).length) c1_], .int .i64 a1] [(0, .sh (.slice T39) [.slice A0_ (a0).length c1_] a0)] [] (fun v H' => ∃ (A0' : Option Addr) (c1' : Nat), v = .slice A0' ((r).length) c1' ∧ H' = [(0, .own T54 55 A0' c1' r)]) := by
 refine A.Ct.enter Tryd.func34 rfl Tryd.ntmps34 rfl fun w0 F0 => ?_
 rw [F.R08_Users] at hF
 refine A.xl 1 ?_
 refine A.AL.box 1 (cs := [.slice A0_ ((a0).length) c1_]) fun g1 => ?_
 refine A.q0 [] [] [.n] [] ?_
 refine A.dl 2 ?_
 refine A.q0 [] [] [.n] [(5, .slice none 0 0)] ?_
 refine A.dl 3 ?_
 refine A.q0 [1] [] [.b 0 0] [(8, .agg #[.slice A0_ ((a0).length) c1_])] ?_
 obtain ⟨r2, hv3, hF⟩ := A.bd_some hF
 refine A.AL.call 2 [] (first := []) (cap := []) cf15 (R08_Check_ok a0 A0_ c1_ r2 hv3) (.s 0 .nil) ?_
 rintro _ _ ⟨rfl, rfl, hr4⟩
 refine ⟨by kernel_rfl, ?_⟩
 refine A.q0 [] [] [.n] [(10, .bool (decide (r2 ≠ 0)))] ?_
 refine A.dx 1 ?_
 refine A.AX.cnd rfl hF (fun hb hF => ?_) (fun hb hF => ?_)
 ·refine A.xl 1 ?_
  refine A.q0 [] [] [.n] [(4, .slice none 0 0)] ?_
  refine A.dx 1 ?_
  obtain rfl := Option.some.inj hF
  refine A.nil 42 T54 55 ?_
  exact A.rt1 [(0, 42)] ⟨none, 0, rfl, rfl⟩
 refine A.xl 4 ?_
 refine A.q0 [] [] [.n] [(6, .int .i64 0)] ?_
 refine A.dx 2 ?_
 refine A.nil 85 T54 55 ?_
 refine A.lp_ [1, 2] [0, 1] (fun f nl nh => ∃ (xs7 : List D54), ∃ (y8 : Int), ∃ (A5 : Option Addr), ∃ (c6 : Nat), nl = [(5, .slice A5 ((xs7).length) c6), (6, .int .i64 y8)] ∧ nh = [(85, .own T54 55 A5 c6 xs7)] ∧ IntKind.i64.has y8 ∧ F.R08_Users_l3 a0 a1 f xs7 y8 = some r) ⟨[], 0, none, 0, rfl, rfl, (A.hasl .i64 (0) rfl), hF⟩ ?_
 rintro f10 _ _ ⟨xs7, y8, A5, c6, rfl, rfl, hy9, hF⟩
 rcases f10 with _ | f10
 ·exact A.no0 hF
 rw [F.R08_Users_l3] at hF
 refine A.xl 2 ?_
 refine A.q0 [1] [] [.n, .n, .b 0 0, .n, .n] [(15, .bool (decide (y8 < ((a0).length : Int))))] ?_
 refine A.dx 1 ?_
 refine A.AX.cnd rfl hF (fun hb hF => ?_) (fun hb hF => ?_)
 ·refine A.xl 5 ?_
  refine A.q0 [] [] [.n] [(7, .int .i64 0)] ?_
  refine A.dx 2 ?_
  refine A.lp_ [1, 2, 6] [0, 1] (fun f nl nh => ∃ (xs13 : List D54), ∃ (y14 : Int), ∃ (A11 : Option Addr), ∃ (c12 : Nat), nl = [(5, .slice A11 ((xs13).length) c12), (7, .int .i64 y14)] ∧ nh = [(85, .own T54 55 A11 c12 xs13)] ∧ IntKind.i64.has y14 ∧ F.R08_Users_l2 (F.R08_Users_l3 a0 a1 f10) a0 a1 y8 f xs13 y14 = some r) ⟨xs7, 0, A5, c6, rfl, rfl, (A.hasl .i64 (0) rfl), hF⟩ ?_
  rintro f16 _ _ ⟨xs13, y14, A11, c12, rfl, rfl, hy15, hF⟩
  rcases f16 with _ | f16
  ·exact A.no0 hF
  rw [F.R08_Users_l2] at hF
  refine A.xl 2 ?_
  refine A.q0 [1] [] [.n, .n, .b 0 0, .n] [(18, .int .i64 y14), (20, .slice A0_ ((a0).length) c1_), (21, .int .i64 y8)] ?_
  obtain ⟨x17, hv18, hF⟩ := A.bd_some hF
  refine A.AL.ixs 0 150 hv18 fun ho19 => ?_
  intro A20 c21 b22 o23
  refine A.q0 [] [150] [.n, .e 0 2, .n, .n] [(26, .bool (decide (y14 < ((x17.2.2.1).length : Int))))] ?_
  refine A.dx 1 ?_
  refine A.AX.cnd rfl hF (fun hb hF => ?_) (fun hb hF => ?_)
  ·refine A.xx 2 ?_
   refine A.AX.join [1, 2, 6, 7] [0, 1] (fun nl nh => ∃ (xs26 : List D54), ∃ (A24 : Option Addr), ∃ (c25 : Nat), nl = [(5, .slice A24 ((xs26).length) c25)] ∧ nh = [(85, .own T54 55 A24 c25 xs26)] ∧ F.R08_Users_j1 (F.R08_Users_l2 (F.R08_Users_l3 a0 a1 f10) a0 a1 y8 f16) y14 xs26 = some r) ?_ ?_
   ·refine A.xl 2 ?_
    refine A.q0 [1] [] [.n, .b 0 0, .n] [(30, .slice A0_ ((a0).length) c1_), (31, .int .i64 y8)] ?_
    obtain ⟨x28, hv29, hF⟩ := A.bd_some hF
    refine A.AL.ixs 0 152 hv29 fun ho30 => ?_
    intro A31 c32 b33 o34
    refine A.q0 [] [152] [.n, .e 0 2, .n] [(34, .slice A31 ((x28.2.2.1).length) c32), (35, .int .i64 y14)] ?_
    obtain ⟨x35, hv36, hF⟩ := A.bd_some hF
    refine A.AL.ixs 153 154 hv36 fun ho37 => ?_
    intro b38 o39
    refine A.q0 [] [154] [.e 0 0, .n, .n] [(39, .bool (decide (x35 = a1)))] ?_
    refine A.dx 1 ?_
    refine A.AX.cnd rfl hF (fun hb hF => ?_) (fun hb hF => ?_)
    ·refine A.xl 0 ?_
     refine A.q0 [1] [] [.n, .n, .b 0 0, .n] [(40, .slice A11 ((xs13).length) c12), (42, .slice A0_ ((a0).length) c1_), (43, .int .i64 y8)] ?_
     obtain ⟨x40, hv41, hF⟩ := A.bd_some hF
     refine A.AL.ixs 0 155 hv41 fun ho42 => ?_
     intro A43 c44 b45 o46
     refine A.q0 [] [155] [.n, .e 0 0, .n, .n] [(48, .agg #[.int .i64 x40.1, .int .i64 y14])] ?_
     refine A.AL.bsl 157 (ty := T54) (cs := [.int .i64 x40.1, .int .i64 y14]) [(x40.1, y14)] ⟨⟨⟨rfl, ho42.1⟩, ⟨rfl, hy15⟩⟩, rfl⟩ (fun g47 => ?_) Tryd.zeroValue55 Tryd.sizeOf55
     obtain ⟨hl50, hF⟩ := A.gd_some hF
     refine A.AL.app (k := 85) [] (A.rowO (k := 157) rfl) inf55 hl50 fun A48 c49 => ?_
     refine A.q0 [] [] [.n] [(5, .slice A48 ((xs13 ++ [(x40.1, y14)]).length) c49)] ?_
     refine A.de 1 ?_
     exact A.j ⟨(xs13 ++ [(x40.1, y14)]), A48, c49, rfl, rfl, hF⟩
    refine A.xe 2 ?_
    exact A.j ⟨xs13, A11, c12, rfl, rfl, hF⟩
   rintro _ _ ⟨xs26, A24, c25, rfl, rfl, hF⟩
   rw [F.R08_Users_j1] at hF
   refine A.xl 0 ?_
   obtain ⟨hc27, hF⟩ := A.gd_some hF
   refine A.q [] [] [.n, .n, .n] [Z.R64 (y14 + 1)] [(7, .int .i64 (y14 + 1))] hc27 ?_
   refine A.AL.done ?_
   exact A.j ⟨_, Nat.lt_succ_self _, ⟨xs26, (y14 + 1), A24, c25, rfl, rfl, (Z.i64_has hc27), hF⟩⟩
  refine A.xl 3 ?_
  obtain ⟨hc51, hF⟩ := A.gd_some hF
  refine A.q [] [] [.n, .n, .n] [Z.R64 (y8 + 1)] [(6, .int .i64 (y8 + 1))] hc51 ?_
  refine A.AL.done ?_
  exact A.j ⟨_, Nat.lt_succ_self _, ⟨xs13, (y8 + 1), A11, c12, rfl, rfl, (Z.i64_has hc51), hF⟩⟩
 refine A.xl 3 ?_
 refine A.q0 [] [] [.n, .n] [(4, .slice A5 ((xs7).length) c6)] ?_
 refine A.dx 1 ?_
 obtain rfl := Option.some.inj hF
 exact A.rt1 [(0, 85)] ⟨A5, c6, rfl, rfl⟩

def F.slices_Equal_api_Place_api_Place_l1 (a0 : (List D54)) (a1 : (List D54)) : Nat → Int → Option Bool
  | 0, _ => none
  | f + 1, y1 => if y1 < ((a0).length : Int) then ((A.ix a0 y1).bind fun x4 => ((A.ix a1 y1).bind fun x10 => (if (x4.1, x4.2) ≠ (x10.1, x10.2) then (some false) else (A.gd (Z.R64 (y1 + 1)) ((F.slices_Equal_api_Place_api_Place_l1 a0 a1 f) (y1 + 1)))))) else (some true)
def F.slices_Equal_api_Place_api_Place (a0 : (List D54)) (a1 : (List D54)) : Option Bool := if ((a0).length : Int) ≠ ((a1).length : Int) then (some false) else (F.slices_Equal_api_Place_api_Place_l1 a0 a1 A.FU 0)
theorem slices_Equal_api_Place_api_Place_ok (a0 : (List D54)) (a1 : (List D54)) (A0_ : Option Addr) (c1_ : Nat) (A2_ : Option Addr) (c3_ : Nat) (r : Bool) (hF : F.slices_Equal_api_Place_api_Place a0 a1 = some r) :
    A.Ct Tryd.prog 35 [.slice A0_ ((a0).length) c1_, .slice A2_ ((a1).length) c3_] [(0, .ln T54 A0_ c1_ a0), (1, .ln T54 A2_ c3_ a1)] [] (fun v H' => v = .bool r ∧ H' = []) := by
 refine A.Ct.enter Tryd.func35 rfl Tryd.ntmps35 rfl fun w0 F0 => ?_
 rw [F.slices_Equal_api_Place_api_Place] at hF
 refine A.xl 1 ?_
 refine A.q0 [] [] [.n] [] ?_
 refine A.dl 3 ?_
 refine A.q0 [] [] [.n, .n, .n, .n, .n] [(10, .bool (decide (((a0).length : Int) ≠ ((a1).length : Int))))] ?_
 refine A.dx 1 ?_
 refine A.AX.cnd rfl hF (fun hb hF => ?_) (fun hb hF => ?_)
 ·refine A.xl 1 ?_
  refine A.q0 [] [] [.n] [(4, .bool false)] ?_
  refine A.dx 1 ?_
  obtain rfl := Option.some.inj hF
  exact A.rt1 [] ⟨rfl, rfl⟩
 refine A.xl 4 ?_
 refine A.q0 [] [] [.n, .n, .n] [(12, .int .i64 ((a0).length : Int)), (13, .int .i64 0)] ?_
 refine A.dx 2 ?_
 refine A.lp_ [0, 1, 12] [0, 1] (fun f nl nh => ∃ (y1 : Int), nl = [(13, .int .i64 y1)] ∧ nh = [] ∧ IntKind.i64.has y1 ∧ F.slices_Equal_api_Place_api_Place_l1 a0 a1 f y1 = some r) ⟨0, rfl, rfl, (A.hasl .i64 (0) rfl), hF⟩ ?_
 rintro f3 _ _ ⟨y1, rfl, rfl, hy2, hF⟩
 rcases f3 with _ | f3
 ·exact A.no0 hF
 rw [F.slices_Equal_api_Place_api_Place_l1] at hF
 refine A.xl 1 ?_
 refine A.q0 [] [] [.n] [(14, .bool (decide (y1 < ((a0).length : Int))))] ?_
 refine A.dx 2 ?_
 refine A.AX.cnd rfl hF (fun hb hF => ?_) (fun hb hF => ?_)
 ·refine A.xl 5 ?_
  refine A.q0 [] [] [.n, .n] [(5, .int .i64 y1)] ?_
  refine A.dx 2 ?_
  refine A.AX.dr mixed 9 9 (A.mb 9 0) ?_
  refine A.hq A.pb [] [0, 1] [] [] (A.mb 9 51) 5 [(0, .n), (1, .n), (4, .n), (5, .n)] [(16, .slice A0_ ((a0).length) c1_), (17, .int .i64 y1), (20, .slice A2_ ((a1).length) c3_), (21, .int .i64 y1)] ?_
  obtain ⟨x4, hv5, hF⟩ := A.bd_some hF
  refine A.AH.pkl 0 6 hv5 fun ho6 => ?_
  intro b8 o9 hA7
  refine A.AH.v A.pb [0, 1] [0, 1, 6] 2 (A.mb 9 55) rfl (fun a w hf hh => A.r_ixa (t := T54) hv5 hA7 hf) ?_
  refine A.hq A.pb [0, 1, 6] [0, 1, 6] [] [6] (A.mb 9 63) 3 [(3, .e 0 0)] [(19, .agg #[.int .i64 x4.1, .int .i64 x4.2])] ?_
  obtain ⟨x10, hv11, hF⟩ := A.bd_some hF
  refine A.AH.pkl 1 7 hv11 fun ho12 => ?_
  intro b14 o15 hA13
  refine A.AH.v A.pb [0, 1, 6] [0, 1, 6, 7] 6 (A.mb 9 127) rfl (fun a w hf hh => A.r_ixa (t := T54) hv11 hA13 hf) ?_
  refine A.hq A.pb [0, 1, 6, 7] [0, 1, 6, 7] [] [7] (A.mb 9 255) 1 [(7, .e 0 0)] [(23, .agg #[.int .i64 x10.1, .int .i64 x10.2])] ?_
  refine A.AH.v A.pb [0, 1, 6, 7] [0, 1, 6, 7] 8 (A.mb 9 511) rfl (fun a w hf hh => eqagg_neq55 (x := (x4.1, x4.2)) (y := (x10.1, x10.2)) (hf.eval rfl) (hf.eval rfl)) ?_
  refine A.AH.done ?_
  refine A.ex 1 ?_
  refine A.AX.cnd rfl hF (fun hb hF => ?_) (fun hb hF => ?_)
  ·refine A.xl 1 ?_
   refine A.q0 [] [] [.n] [(4, .bool false)] ?_
   refine A.dx 1 ?_
   obtain rfl := Option.some.inj hF
   exact A.rt1 [] ⟨rfl, rfl⟩
  refine A.xl 3 ?_
  obtain ⟨hc16, hF⟩ := A.gd_some hF
  refine A.q [] [] [.n, .n] [Z.R64 (y1 + 1)] [(13, .int .i64 (y1 + 1))] hc16 ?_
  refine A.AL.done ?_
  exact A.j ⟨_, Nat.lt_succ_self _, ⟨(y1 + 1), rfl, rfl, (Z.i64_has hc16), hF⟩⟩
 refine A.xl 3 ?_
 refine A.q0 [] [] [.n] [(4, .bool true)] ?_
 refine A.dx 1 ?_
 obtain rfl := Option.some.inj hF
 exact A.rt1 [] ⟨rfl, rfl⟩

def F.slices_Values_api_Place_api_Place (a0 : (List D54)) : Option ((List D54)) := some a0
theorem slices_Values_api_Place_api_Place_ok (a0 : (List D54)) (A0_ : Option Addr) (c1_ : Nat) (r : ((List D54))) (hF : F.slices_Values_api_Place_api_Place a0 = some r) :
    A.Ct Tryd.prog 61 [.slice A0_ ((a0).length) c1_] [(0, .sh (.slice T54) [.slice A0_ (a0).length c1_] a0)] [] (fun v H' => ∃ (g0' : Nat) (A1' : Option Addr) (c2' : Nat), v = .func (.func 87) #[] #[.pointer (some ⟨g0', 0, none⟩)] ∧ H' = [(0, .blk g0' 51 [.slice A1' ((r).length) c2']), (1, .sh (.slice T54) [.slice A1' (r).length c2'] r)]) := by
 refine A.Ct.enter Tryd.func61 rfl Tryd.ntmps61 rfl fun w0 F0 => ?_
 rw [F.slices_Values_api_Place_api_Place] at hF
 refine A.xl 1 ?_
 refine A.AL.box 1 (cs := [.slice A0_ ((a0).length) c1_]) fun g1 => ?_
 refine A.q0 [] [] [.n] [] ?_
 refine A.dl 2 ?_
 refine A.q0 [] [] [.n, .n] [(2, .func (.func 87) #[] #[.pointer (some ⟨g1, 0, none⟩)])] ?_
 refine A.dx 1 ?_
 obtain rfl := Option.some.inj hF
 exact A.rt1 [(0, 1), (1, 0)] ⟨g1, A0_, c1_, rfl, rfl⟩
end Go.Proofs.YtleiipbkfaajfaaDoor
end

section
set_option linter.unusedVariables false
set_option linter.unusedSimpArgs false
set_option maxRecDepth 20000
set_option maxHeartbeats 8000000
set_option synthInstance.maxSize 1000000
set_option synthInstance.maxHeartbeats 400000
namespace Go.Proofs.YtleiipbkfaajfaaDoor
open Go.RowKit
def F.graph_Users (a0 : D23) (a1 : Int) : Option ((List D54)) := (F.graph_Check a0).bind fun r2 => (if r2 ≠ 0 then ((F.slices_Values_api_Place_api_Place []).bind fun r6 => (some r6)) else ((F.graph_users a0 a1).bind fun r11 => ((F.slices_Values_api_Place_api_Place r11).bind fun r15 => (some r15))))
theorem graph_Users_ok (a0 : D23) (a1 : Int) (A0_ : Option Addr) (c1_ : Nat) (h2_ : IntKind.i64.has a1) (r : ((List D54))) (hF : F.graph_Users a0 a1 = some r) :
    A.Ct Tryd.prog 37 [.agg #[.slice A0_ ((a0).length) c1_], .int .i64 a1] [(0, .sh (.slice T39) [.slice A0_ (a0).length c1_] a0), (1, .el none 0 0 A.tabF), (2, .el none 1 0 A.tabA)] [] (fun v H' => ∃ (g0' : Nat) (A1' : Option Addr) (c2' : Nat), v = .func (.func 87) #[] #[.pointer (some ⟨g0', 0, none⟩)] ∧ H' = [(0, .blk g0' 51 [.slice A1' ((r).length) c2']), (1, .sh (.slice T54) [.slice A1' (r).length c2'] r)]) := by
 refine A.Ct.enter Tryd.func37 rfl Tryd.ntmps37 rfl fun w0 F0 => ?_
 rw [F.graph_Users] at hF
 refine A.xl 1 ?_
 refine A.AL.box 3 (cs := [.slice A0_ ((a0).length) c1_]) fun g1 => ?_
 refine A.q0 [] [] [.n] [] ?_
 refine A.dl 3 ?_
 refine A.q0 [3] [] [.b 0 0] [(5, .agg #[.slice A0_ ((a0).length) c1_])] ?_
 obtain ⟨r2, hv3, hF⟩ := A.bd_some hF
 refine A.AL.call 4 [] (first := []) (cap := []) cf14 (graph_Check_ok a0 A0_ c1_ r2 hv3) (.s 0 (.s 1 (.s 2 .nil))) ?_
 rintro _ _ ⟨rfl, rfl, hr4⟩
 refine ⟨by kernel_rfl, ?_⟩
 refine A.q0 [] [] [.n] [(7, .bool (decide (r2 ≠ 0)))] ?_
 refine A.dx 1 ?_
 refine A.AX.cnd rfl hF (fun hb hF => ?_) (fun hb hF => ?_)
 ·refine A.xl 1 ?_
  refine A.AL.bs0 44 T54 (fun g5 => ?_) Tryd.sizeOf55
  refine A.frz 44 [] ?_
  obtain ⟨r6, hv7, hF⟩ := A.bd_some hF
  refine A.AL.call 45 [] (first := []) (cap := []) cf61 (slices_Values_api_Place_api_Place_ok [] (some ⟨g5, 0, none⟩) 0 r6 hv7) (.s 44 .nil) ?_
  rintro _ _ ⟨g8, A9, c10, rfl, rfl⟩
  refine ⟨by kernel_rfl, ?_⟩
  refine A.q0 [] [] [.n] [(4, .func (.func 87) #[] #[.pointer (some ⟨g8, 0, none⟩)])] ?_
  refine A.dx 1 ?_
  obtain rfl := Option.some.inj hF
  exact A.rt1 [(0, 45), (1, 46)] ⟨g8, A9, c10, rfl, rfl⟩
 refine A.xl 3 ?_
 refine A.q0 [3] [] [.b 0 0, .n] [(10, .agg #[.slice A0_ ((a0).length) c1_]), (11, .int .i64 a1)] ?_
 obtain ⟨r11, hv12, hF⟩ := A.bd_some hF
 refine A.AL.call 85 [] (first := []) (cap := []) cf62 (graph_users_ok a0 a1 A0_ c1_ h2_ r11 hv12) (.s 0 .nil) ?_
 rintro _ _ ⟨A13, c14, rfl, rfl⟩
 refine ⟨by kernel_rfl, ?_⟩
 refine A.frz 85 [] ?_
 obtain ⟨r15, hv16, hF⟩ := A.bd_some hF
 refine A.AL.call 125 [] (first := []) (cap := []) cf61 (slices_Values_api_Place_api_Place_ok r11 A13 c14 r15 hv16) (.s 85 .nil) ?_
 rintro _ _ ⟨g17, A18, c19, rfl, rfl⟩
 refine ⟨by kernel_rfl, ?_⟩
 refine A.q0 [] [] [.n] [(4, .func (.func 87) #[] #[.pointer (some ⟨g17, 0, none⟩)])] ?_
 refine A.dx 1 ?_
 obtain rfl := Option.some.inj hF
 exact A.rt1 [(0, 125), (1, 126)] ⟨g17, A18, c19, rfl, rfl⟩

def F.R08_Same_l1 (k3 : Int → Option Bool) (y3 : Int) (xs8 : List Int) (xs11 : List Int) : Nat → Int → Option Bool
  | 0, _ => none
  | f + 1, y47 => if y47 < ((xs8).length : Int) then ((A.ix xs8 y47).bind fun x50 => ((A.ix xs11 y47).bind fun x56 => (if x50 ≠ x56 then (some false) else (A.gd (Z.R64 (y47 + 1)) ((F.R08_Same_l1 k3 y3 xs8 xs11 f) (y47 + 1)))))) else (A.gd (Z.R64 (y3 + 1)) (k3 (y3 + 1)))
def F.R08_Same_j2 (k3 : Int → Option Bool) (y3 : Int) (xs8 : List Int) (xs11 : List Int) (y46 : Bool) : Option Bool := if y46 = true then (some false) else (F.R08_Same_l1 k3 y3 xs8 xs11 A.FU 0)
def F.R08_Same_j3 (k3 : Int → Option Bool) (y3 : Int) (xs8 : List Int) (xs11 : List Int) (y12 : Int) (y14 : Int) (y16 : Int) (y18 : Int) (y20 : ByteArray) (y22 : ByteArray) (y24 : Int) (y26 : Int) (y29 : Int) (y31 : Int) (y33 : Int) (y35 : Int) (y37 : ByteArray) (y39 : ByteArray) (y41 : Int) (y43 : Int) : Option Bool := if (bif decide (y12 ≠ y29) then true else decide (y14 ≠ y31)) = true then (F.R08_Same_j2 k3 y3 xs8 xs11 true) else (F.R08_Same_j2 k3 y3 xs8 xs11 (bif bif bif bif decide ((y16, y18, y20) ≠ (y33, y35, y37)) then true else decide (y22 ≠ y39) then true else decide (y24 ≠ y41) then true else decide (y26 ≠ y43) then true else decide (((xs8).length : Int) ≠ ((xs11).length : Int))))
def F.R08_Same_l4 (a0 : D23) (a1 : D23) : Nat → Int → Option Bool
  | 0, _ => none
  | f + 1, y3 => if y3 < ((a0).length : Int) then ((A.ix a0 y3).bind fun x64 => ((A.ix a1 y3).bind fun x72 => (F.R08_Same_j3 (F.R08_Same_l4 a0 a1 f) y3 x64.2.2.1 x72.2.2.1 x64.1 x64.2.1 x64.2.2.2.1.1 x64.2.2.2.1.2.1 x64.2.2.2.1.2.2 x64.2.2.2.2.1 x64.2.2.2.2.2.1 x64.2.2.2.2.2.2 x72.1 x72.2.1 x72.2.2.2.1.1 x72.2.2.2.1.2.1 x72.2.2.2.1.2.2 x72.2.2.2.2.1 x72.2.2.2.2.2.1 x72.2.2.2.2.2.2))) else (some true)
def F.R08_Same (a0 : D23) (a1 : D23) : Option Bool := if ((a0).length : Int) ≠ ((a1).length : Int) then (some false) else (F.R08_Same_l4 a0 a1 A.FU 0)
theorem R08_Same_ok (a0 : D23) (a1 : D23) (A0_ : Option Addr) (c1_ : Nat) (A2_ : Option Addr) (c3_ : Nat) (r : Bool) (hF : F.R08_Same a0 a1 = some r) :
    A.Ct Tryd.prog 26 [.agg #[.slice A0_ ((a0).length) c1_], .agg #[.slice A2_ ((a1).length) c3_]] [(0, .sh (.slice T39) [.slice A0_ (a0).length c1_] a0), (1, .sh (.slice T39) [.slice A2_ (a1).length c3_] a1)] [] (fun v H' => v = .bool r ∧ H' = []) := by
 refine A.Ct.enter Tryd.func26 rfl Tryd.ntmps26 rfl fun w0 F0 => ?_
 rw [F.R08_Same] at hF
 refine A.xl 1 ?_
 refine A.AL.box 2 (cs := [.slice A0_ ((a0).length) c1_]) fun g1 => ?_
 refine A.AL.box 3 (cs := [.slice A2_ ((a1).length) c3_]) fun g2 => ?_
 refine A.q0 [] [] [.n] [] ?_
 refine A.dl 3 ?_
 refine A.q0 [2, 3] [] [.n, .b 0 0, .n, .n, .b 1 0, .n, .n] [(15, .bool (decide (((a0).length : Int) ≠ ((a1).length : Int))))] ?_
 refine A.dx 1 ?_
 refine A.AX.cnd rfl hF (fun hb hF => ?_) (fun hb hF => ?_)
 ·refine A.xl 1 ?_
  refine A.q0 [] [] [.n] [(4, .bool false)] ?_
  refine A.dx 1 ?_
  obtain rfl := Option.some.inj hF
  exact A.rt1 [] ⟨rfl, rfl⟩
 refine A.xl 4 ?_
 refine A.q0 [] [] [.n] [(5, .int .i64 0)] ?_
 refine A.dx 2 ?_
 refine A.lp_ [2, 3] [0, 1, 2, 3] (fun f nl nh => ∃ (y3 : Int), nl = [(5, .int .i64 y3)] ∧ nh = [] ∧ IntKind.i64.has y3 ∧ F.R08_Same_l4 a0 a1 f y3 = some r) ⟨0, rfl, rfl, (A.hasl .i64 (0) rfl), hF⟩ ?_
 rintro f5 _ _ ⟨y3, rfl, rfl, hy4, hF⟩
 rcases f5 with _ | f5
 ·exact A.no0 hF
 rw [F.R08_Same_l4] at hF
 refine A.xl 2 ?_
 refine A.q0 [2] [] [.n, .n, .b 0 0, .n, .n] [(20, .bool (decide (y3 < ((a0).length : Int))))] ?_
 refine A.dx 1 ?_
 refine A.AX.cnd rfl hF (fun hb hF => ?_) (fun hb hF => ?_)
 ·refine A.xx 4 ?_
  refine A.AX.join [2, 3, 5] [0, 1, 2, 3] (fun nl nh => ∃ (xs8 : List Int), ∃ (xs11 : List Int), ∃ (y12 : Int), ∃ (y14 : Int), ∃ (y16 : Int), ∃ (y18 : Int), ∃ (y20 : ByteArray), ∃ (y22 : ByteArray), ∃ (y24 : Int), ∃ (y26 : Int), ∃ (y29 : Int), ∃ (y31 : Int), ∃ (y33 : Int), ∃ (y35 : Int), ∃ (y37 : ByteArray), ∃ (y39 : ByteArray), ∃ (y41 : Int), ∃ (y43 : Int), ∃ (A6 : Option Addr), ∃ (c7 : Nat), ∃ (A9 : Option Addr), ∃ (c10 : Nat), ∃ (g28 : Nat), ∃ (g45 : Nat), nl = [(6, .pointer (some ⟨g28, 0, none⟩)), (7, .pointer (some ⟨g45, 0, none⟩))] ∧ nh = [(865, .sh (.slice (Z.Ty.int .i64)) [.slice A6 (xs8).length c7] xs8), (867, .sh (.slice (Z.Ty.int .i64)) [.slice A9 (xs11).length c10] xs11), (1168, .blk g28 40 [.int .i64 y12, .int .i64 y14, .slice A6 ((xs8).length) c7, .int .i64 y16, .int .i64 y18, .string y20, .string y22, .int .i64 y24, .int .i64 y26]), (1198, .blk g45 40 [.int .i64 y29, .int .i64 y31, .slice A9 ((xs11).length) c10, .int .i64 y33, .int .i64 y35, .string y37, .string y39, .int .i64 y41, .int .i64 y43])] ∧ IntKind.i64.has y12 ∧ IntKind.i64.has y14 ∧ IntKind.i64.has y16 ∧ IntKind.i64.has y18 ∧ y20.size ≤ maxLen ∧ y22.size ≤ maxLen ∧ IntKind.i64.has y24 ∧ IntKind.i64.has y26 ∧ IntKind.i64.has y29 ∧ IntKind.i64.has y31 ∧ IntKind.i64.has y33 ∧ IntKind.i64.has y35 ∧ y37.size ≤ maxLen ∧ y39.size ≤ maxLen ∧ IntKind.i64.has y41 ∧ IntKind.i64.has y43 ∧ F.R08_Same_j3 (F.R08_Same_l4 a0 a1 f5) y3 xs8 xs11 y12 y14 y16 y18 y20 y22 y24 y26 y29 y31 y33 y35 y37 y39 y41 y43 = some r) ?_ ?_
  ·refine A.AX.dr mixed 13 14 (A.mb 14 0) ?_
   refine A.hq A.pb [] [0, 1, 2, 3] [2, 3] [] (A.mb 14 231) 8 [(0, .n), (2, .n), (5, .n), (7, .n), (1, .b 0 0), (6, .b 1 0)] [(25, .int .i64 y3), (30, .int .i64 y3), (24, .slice A0_ ((a0).length) c1_), (29, .slice A2_ ((a1).length) c3_)] ?_
   obtain ⟨x64, hv65, hF⟩ := A.bd_some hF
   refine A.AH.pks 0 864 hv65 fun ho66 => ?_
   intro A68 c69 b70 o71 hA67
   refine A.AH.v A.pb [0, 1, 2, 3] [0, 1, 2, 3, 864, 865] 3 (A.mb 14 239) rfl (fun a w hf hh => A.r_ixa (t := T39) hv65 hA67 hf) ?_
   refine A.hq A.pb [0, 1, 2, 3, 864, 865] [0, 1, 2, 3, 864, 865] [] [864] (A.mb 14 255) 6 [(4, .e 0 0)] [(27, .agg #[.int .i64 x64.1, .int .i64 x64.2.1, .slice A68 ((x64.2.2.1).length) c69, .int .i64 x64.2.2.2.1.1, .int .i64 x64.2.2.2.1.2.1, .string x64.2.2.2.1.2.2, .string x64.2.2.2.2.1, .int .i64 x64.2.2.2.2.2.1, .int .i64 x64.2.2.2.2.2.2])] ?_
   obtain ⟨x72, hv73, hF⟩ := A.bd_some hF
   refine A.AH.pks 1 866 hv73 fun ho74 => ?_
   intro A76 c77 b78 o79 hA75
   refine A.AH.v A.pb [0, 1, 2, 3, 864, 865] [0, 1, 2, 3, 864, 865, 866, 867] 8 (A.mb 14 511) rfl (fun a w hf hh => A.r_ixa (t := T39) hv73 hA75 hf) ?_
   refine A.hq A.pb [0, 1, 2, 3, 864, 865, 866, 867] [0, 1, 2, 3, 864, 865, 866, 867] [] [866] (A.mb 14 1023) 4 [(9, .e 0 0)] [(32, .agg #[.int .i64 x72.1, .int .i64 x72.2.1, .slice A76 ((x72.2.2.1).length) c77, .int .i64 x72.2.2.2.1.1, .int .i64 x72.2.2.2.1.2.1, .string x72.2.2.2.1.2.2, .string x72.2.2.2.2.1, .int .i64 x72.2.2.2.2.2.1, .int .i64 x72.2.2.2.2.2.2])] ?_
   refine A.AH.two 10 11 ?_ ?_
   ·refine A.AL.alloc 1168 (cs := [.int .i64 0, .int .i64 0, .slice none 0 0, .int .i64 0, .int .i64 0, .string (ByteArray.mk #[]), .string (ByteArray.mk #[]), .int .i64 0, .int .i64 0]) Tryd.zeroValue40 fun g680 => ?_
    refine A.AH.nx (A.mb 14 2047) [0, 1, 2, 3, 864, 865, 866, 867] ?_
    refine A.AH.one 11 ?_
    refine A.AL.alloc 1198 (cs := [.int .i64 0, .int .i64 0, .slice none 0 0, .int .i64 0, .int .i64 0, .string (ByteArray.mk #[]), .string (ByteArray.mk #[]), .int .i64 0, .int .i64 0]) Tryd.zeroValue40 fun g740 => ?_
    refine A.AH.nx (A.mb 14 4095) [0, 1, 2, 3, 864, 865, 866, 867] ?_
    refine A.AH.one 12 ?_
    refine A.sw 1168 [] [.int .i64 x64.1, .int .i64 x64.2.1, .slice A68 ((x64.2.2.1).length) c69, .int .i64 x64.2.2.2.1.1, .int .i64 x64.2.2.2.1.2.1, .string x64.2.2.2.1.2.2, .string x64.2.2.2.2.1, .int .i64 x64.2.2.2.2.2.1, .int .i64 x64.2.2.2.2.2.2] ?_
    refine A.AH.nx (A.mb 14 8191) [0, 1, 2, 3, 864, 865, 866, 867] ?_
    refine A.AH.one 13 ?_
    refine A.sw 1198 [] [.int .i64 x72.1, .int .i64 x72.2.1, .slice A76 ((x72.2.2.1).length) c77, .int .i64 x72.2.2.2.1.1, .int .i64 x72.2.2.2.1.2.1, .string x72.2.2.2.1.2.2, .string x72.2.2.2.2.1, .int .i64 x72.2.2.2.2.2.1, .int .i64 x72.2.2.2.2.2.2] ?_
    refine A.AH.nm (A.mb 14 16383) ?_
    refine A.AH.done ?_
    exact A.j ⟨x64.2.2.1, x72.2.2.1, x64.1, x64.2.1, x64.2.2.2.1.1, x64.2.2.2.1.2.1, x64.2.2.2.1.2.2, x64.2.2.2.2.1, x64.2.2.2.2.2.1, x64.2.2.2.2.2.2, x72.1, x72.2.1, x72.2.2.2.1.1, x72.2.2.2.1.2.1, x72.2.2.2.1.2.2, x72.2.2.2.2.1, x72.2.2.2.2.2.1, x72.2.2.2.2.2.2, A68, c69, A76, c77, g680, g740, rfl, rfl, ho66.1, ho66.2.1, ho66.2.2.2.1.1, ho66.2.2.2.1.2.1, ho66.2.2.2.1.2.2, ho66.2.2.2.2.1, ho66.2.2.2.2.2.1, ho66.2.2.2.2.2.2, ho74.1, ho74.2.1, ho74.2.2.2.1.1, ho74.2.2.2.1.2.1, ho74.2.2.2.1.2.2, ho74.2.2.2.2.1, ho74.2.2.2.2.2.1, ho74.2.2.2.2.2.2, hF⟩
   refine A.AL.alloc 1198 (cs := [.int .i64 0, .int .i64 0, .slice none 0 0, .int .i64 0, .int .i64 0, .string (ByteArray.mk #[]), .string (ByteArray.mk #[]), .int .i64 0, .int .i64 0]) Tryd.zeroValue40 fun g740 => ?_
   refine A.AH.nx (A.mb 14 3071) [0, 1, 2, 3, 864, 865, 866, 867] ?_
   refine A.AH.one 10 ?_
   refine A.AL.alloc 1168 (cs := [.int .i64 0, .int .i64 0, .slice none 0 0, .int .i64 0, .int .i64 0, .string (ByteArray.mk #[]), .string (ByteArray.mk #[]), .int .i64 0, .int .i64 0]) Tryd.zeroValue40 fun g680 => ?_
   refine A.AH.nx (A.mb 14 4095) [0, 1, 2, 3, 864, 865, 866, 867] ?_
   refine A.AH.one 12 ?_
   refine A.sw 1168 [] [.int .i64 x64.1, .int .i64 x64.2.1, .slice A68 ((x64.2.2.1).length) c69, .int .i64 x64.2.2.2.1.1, .int .i64 x64.2.2.2.1.2.1, .string x64.2.2.2.1.2.2, .string x64.2.2.2.2.1, .int .i64 x64.2.2.2.2.2.1, .int .i64 x64.2.2.2.2.2.2] ?_
   refine A.AH.nx (A.mb 14 8191) [0, 1, 2, 3, 864, 865, 866, 867] ?_
   refine A.AH.one 13 ?_
   refine A.sw 1198 [] [.int .i64 x72.1, .int .i64 x72.2.1, .slice A76 ((x72.2.2.1).length) c77, .int .i64 x72.2.2.2.1.1, .int .i64 x72.2.2.2.1.2.1, .string x72.2.2.2.1.2.2, .string x72.2.2.2.2.1, .int .i64 x72.2.2.2.2.2.1, .int .i64 x72.2.2.2.2.2.2] ?_
   refine A.AH.nm (A.mb 14 16383) ?_
   refine A.AH.done ?_
   exact A.j ⟨x64.2.2.1, x72.2.2.1, x64.1, x64.2.1, x64.2.2.2.1.1, x64.2.2.2.1.2.1, x64.2.2.2.1.2.2, x64.2.2.2.2.1, x64.2.2.2.2.2.1, x64.2.2.2.2.2.2, x72.1, x72.2.1, x72.2.2.2.1.1, x72.2.2.2.1.2.1, x72.2.2.2.1.2.2, x72.2.2.2.2.1, x72.2.2.2.2.2.1, x72.2.2.2.2.2.2, A68, c69, A76, c77, g680, g740, rfl, rfl, ho66.1, ho66.2.1, ho66.2.2.2.1.1, ho66.2.2.2.1.2.1, ho66.2.2.2.1.2.2, ho66.2.2.2.2.1, ho66.2.2.2.2.2.1, ho66.2.2.2.2.2.2, ho74.1, ho74.2.1, ho74.2.2.2.1.1, ho74.2.2.2.1.2.1, ho74.2.2.2.1.2.2, ho74.2.2.2.2.1, ho74.2.2.2.2.2.1, ho74.2.2.2.2.2.2, hF⟩
  rintro _ _ ⟨xs8, xs11, y12, y14, y16, y18, y20, y22, y24, y26, y29, y31, y33, y35, y37, y39, y41, y43, A6, c7, A9, c10, g28, g45, rfl, rfl, hy13, hy15, hy17, hy19, hy21, hy23, hy25, hy27, hy30, hy32, hy34, hy36, hy38, hy40, hy42, hy44, hF⟩
  rw [F.R08_Same_j3] at hF
  refine A.xx 1 ?_
  refine A.AX.join [2, 3, 5, 6, 7] [0, 1, 2, 3, 865, 867, 1168, 1198] (fun nl nh => ∃ (y46 : Bool), nl = [(81, .bool y46)] ∧ nh = [] ∧ F.R08_Same_j2 (F.R08_Same_l4 a0 a1 f5) y3 xs8 xs11 y46 = some r) ?_ ?_
  ·refine A.xl 0 ?_
   refine A.q0 [1168, 1198] [] [.n, .b 0 0, .n, .b 1 0, .n, .n, .sy .n, .sy (.b 0 1), .sy .n, .sy (.b 1 1), .sy .n, .pk, .n] [(45, .bool (bif decide (y12 ≠ y29) then true else decide (y14 ≠ y31)))] ?_
   refine A.AL.cnd (j := 45) rfl hF (fun hF => ?_) (fun hF => ?_)
   ·refine A.q0 [] [] [.off, .off, .off, .off, .off, .n, .n, .off, .off, .off, .off, .off, .n, .n, .off, .off, .off, .off, .off, .n, .n, .off, .off, .off, .off, .off, .n, .n, .off, .off, .off, .off, .off, .off, .off, .n] [(81, .bool true)] ?_
    refine A.AL.done ?_
    exact A.j ⟨true, rfl, rfl, hF⟩
   refine A.q0 [1168, 1198] [] [.on .n, .on (.b 0 3), .on .n, .on (.b 1 3)] [(47, .agg #[.int .i64 y16, .int .i64 y18, .string y20]), (49, .agg #[.int .i64 y33, .int .i64 y35, .string y37])] ?_
   refine A.AL.on (dj := 45) rfl rfl ?_
   refine A.AL.val rfl (fun a w hf hh => eqagg_neq38 (x := (y16, y18, y20)) (y := (y33, y35, y37)) (hf.eval rfl) (hf.eval rfl)) ?_
   refine A.q0 [1168, 1198] [] [.n, .n, .sy .n, .sy (.b 0 6), .sy .n, .sy (.b 1 6), .sy .n, .pk, .n, .sy .n, .sy (.b 0 7), .sy .n, .sy (.b 1 7), .sy .n, .pk, .n, .sy .n, .sy (.b 0 8), .sy .n, .sy (.b 1 8), .sy .n, .pk, .n, .sy .n, .sy (.b 0 2), .sy .n, .sy .n, .sy (.b 1 2), .sy .n, .sy .n, .pk] [(81, .bool (bif bif bif bif decide ((y16, y18, y20) ≠ (y33, y35, y37)) then true else decide (y22 ≠ y39) then true else decide (y24 ≠ y41) then true else decide (y26 ≠ y43) then true else decide (((xs8).length : Int) ≠ ((xs11).length : Int))))] ?_
   refine A.AL.done ?_
   exact A.j ⟨(bif bif bif bif decide ((y16, y18, y20) ≠ (y33, y35, y37)) then true else decide (y22 ≠ y39) then true else decide (y24 ≠ y41) then true else decide (y26 ≠ y43) then true else decide (((xs8).length : Int) ≠ ((xs11).length : Int))), rfl, rfl, hF⟩
  rintro _ _ ⟨y46, rfl, rfl, hF⟩
  rw [F.R08_Same_j2] at hF
  refine A.AX.cnb rfl hF (fun hb hF => ?_) (fun hb hF => ?_)
  ·refine A.xl 1 ?_
   refine A.q0 [] [] [.n] [(4, .bool false)] ?_
   refine A.dx 1 ?_
   obtain rfl := Option.some.inj hF
   exact A.rt1 [] ⟨rfl, rfl⟩
  refine A.xl 3 ?_
  refine A.q0 [] [] [.n] [(8, .int .i64 0)] ?_
  refine A.dx 2 ?_
  refine A.lp_ [2, 3, 5, 6, 7] [0, 1, 2, 3, 865, 867, 1168, 1198] (fun f nl nh => ∃ (y47 : Int), nl = [(8, .int .i64 y47)] ∧ nh = [] ∧ IntKind.i64.has y47 ∧ F.R08_Same_l1 (F.R08_Same_l4 a0 a1 f5) y3 xs8 xs11 f y47 = some r) ⟨0, rfl, rfl, (A.hasl .i64 (0) rfl), hF⟩ ?_
  rintro f49 _ _ ⟨y47, rfl, rfl, hy48, hF⟩
  rcases f49 with _ | f49
  ·exact A.no0 hF
  rw [F.R08_Same_l1] at hF
  refine A.xl 2 ?_
  refine A.q0 [1168] [] [.n, .n, .b 0 2, .n, .n] [(86, .bool (decide (y47 < ((xs8).length : Int))))] ?_
  refine A.dx 1 ?_
  refine A.AX.cnd rfl hF (fun hb hF => ?_) (fun hb hF => ?_)
  ·refine A.xx 5 ?_
   refine A.AX.dr mixed 11 11 (A.mb 11 0) ?_
   refine A.hq A.pb [] [0, 1, 2, 3, 865, 867, 1168, 1198] [1168, 1198] [] (A.mb 11 231) 5 [(0, .n), (2, .n), (5, .n), (7, .n), (1, .b 0 2), (6, .b 1 2)] [(91, .int .i64 y47), (96, .int .i64 y47), (90, .slice A6 ((xs8).length) c7), (95, .slice A9 ((xs11).length) c10)] ?_
   obtain ⟨x50, hv51, hF⟩ := A.bd_some hF
   refine A.AH.pks 865 1292 hv51 fun ho52 => ?_
   intro b54 o55 hA53
   refine A.AH.v A.pb [0, 1, 2, 3, 865, 867, 1168, 1198] [0, 1, 2, 3, 865, 867, 1168, 1198, 1292] 3 (A.mb 11 239) rfl (fun a w hf hh => A.r_ixa (t := (Z.Ty.int .i64)) hv51 hA53 hf) ?_
   refine A.hq A.pb [0, 1, 2, 3, 865, 867, 1168, 1198, 1292] [0, 1, 2, 3, 865, 867, 1168, 1198, 1292] [] [1292] (A.mb 11 255) 3 [(4, .e 0 0)] [(93, .int .i64 x50)] ?_
   obtain ⟨x56, hv57, hF⟩ := A.bd_some hF
   refine A.AH.pks 867 1293 hv57 fun ho58 => ?_
   intro b60 o61 hA59
   refine A.AH.v A.pb [0, 1, 2, 3, 865, 867, 1168, 1198, 1292] [0, 1, 2, 3, 865, 867, 1168, 1198, 1292, 1293] 8 (A.mb 11 511) rfl (fun a w hf hh => A.r_ixa (t := (Z.Ty.int .i64)) hv57 hA59 hf) ?_
   refine A.hq A.pb [0, 1, 2, 3, 865, 867, 1168, 1198, 1292, 1293] [0, 1, 2, 3, 865, 867, 1168, 1198, 1292, 1293] [] [1293] (A.mb 11 2047) 0 [(9, .e 0 0), (10, .n)] [(99, .bool (decide (x50 ≠ x56)))] ?_
   refine A.AH.done ?_
   refine A.ex 1 ?_
   refine A.AX.cnd rfl hF (fun hb hF => ?_) (fun hb hF => ?_)
   ·refine A.xl 1 ?_
    refine A.q0 [] [] [.n] [(4, .bool false)] ?_
    refine A.dx 1 ?_
    obtain rfl := Option.some.inj hF
    exact A.rt1 [] ⟨rfl, rfl⟩
   refine A.xl 3 ?_
   obtain ⟨hc62, hF⟩ := A.gd_some hF
   refine A.q [] [] [.n, .n, .n] [Z.R64 (y47 + 1)] [(8, .int .i64 (y47 + 1))] hc62 ?_
   refine A.AL.done ?_
   exact A.j ⟨_, Nat.lt_succ_self _, ⟨(y47 + 1), rfl, rfl, (Z.i64_has hc62), hF⟩⟩
  refine A.xl 3 ?_
  obtain ⟨hc63, hF⟩ := A.gd_some hF
  refine A.q [] [] [.n, .n, .n] [Z.R64 (y3 + 1)] [(5, .int .i64 (y3 + 1))] hc63 ?_
  refine A.AL.done ?_
  exact A.j ⟨_, Nat.lt_succ_self _, ⟨(y3 + 1), rfl, rfl, (Z.i64_has hc63), hF⟩⟩
 refine A.xl 3 ?_
 refine A.q0 [] [] [.n] [(4, .bool true)] ?_
 refine A.dx 1 ?_
 obtain rfl := Option.some.inj hF
 exact A.rt1 [] ⟨rfl, rfl⟩

def F.slices_Clone_int_int (a0 : (List Int)) : Option (List Int) := A.gd ((List.length (α := Int) [] + List.length (α := Int) a0) * 8 ≤ 140737488355328) (some ([] ++ a0))
theorem slices_Clone_int_int_ok (a0 : (List Int)) (A0_ : Option Addr) (c1_ : Nat) (r : (List Int)) (hF : F.slices_Clone_int_int a0 = some r) :
    A.Ct Tryd.prog 56 [.slice A0_ ((a0).length) c1_] [(0, .ln (Z.Ty.int .i64) A0_ c1_ a0)] [] (fun v H' => ∃ (A0' : Option Addr) (c1' : Nat), v = .slice A0' ((r).length) c1' ∧ H' = [(0, .own (Z.Ty.int .i64) 3 A0' c1' r)]) := by
 refine A.Ct.enter Tryd.func56 rfl Tryd.ntmps56 rfl fun w0 F0 => ?_
 rw [F.slices_Clone_int_int] at hF
 refine A.xl 1 ?_
 refine A.q0 [] [] [.n] [] ?_
 refine A.dl 3 ?_
 refine A.q0 [] [] [.n, .n] [(4, .bool A0_.isNone)] ?_
 refine A.dx 1 ?_
 refine A.AX.cnn rfl (fun hb => ?_) (fun hb => ?_)
 ·refine A.nilL 0 hb fun hb => ?_
  subst hb
  replace hF : some [] = some r := by simpa [A.gd, A.ix] using hF
  refine A.xl 1 ?_
  refine A.q0 [] [] [.n] [(2, .slice none 0 0)] ?_
  refine A.dx 1 ?_
  obtain rfl := Option.some.inj hF
  refine A.nil 2 (Z.Ty.int .i64) 3 ?_
  exact A.rt1 [(0, 2)] ⟨none, 0, rfl, rfl⟩
 refine A.xl 3 ?_
 refine A.AL.bs0 1 (Z.Ty.int .i64) (fun g1 => ?_) Tryd.sizeOf3
 refine A.q0 [] [] [.n] [(6, .slice A0_ ((a0).length) c1_)] ?_
 obtain ⟨hl4, hF⟩ := A.gd_some hF
 refine A.AL.app (k := 1) [] (A.rowL (k := 0) rfl) inf3 hl4 fun A2 c3 => ?_
 refine A.q0 [] [] [.n] [(2, .slice A2 (([] ++ a0).length) c3)] ?_
 refine A.dx 1 ?_
 obtain rfl := Option.some.inj hF
 exact A.rt1 [(0, 1)] ⟨A2, c3, rfl, rfl⟩

def F.slices_Clone_api_Node_api_Node (a0 : (List D39)) : Option (List D39) := A.gd ((List.length (α := D39) [] + List.length (α := D39) a0) * 104 ≤ 140737488355328) (some ([] ++ a0))
theorem slices_Clone_api_Node_api_Node_ok (a0 : (List D39)) (A0_ : Option Addr) (c1_ : Nat) (r : (List D39)) (hF : F.slices_Clone_api_Node_api_Node a0 = some r) :
    A.Ct Tryd.prog 22 [.slice A0_ ((a0).length) c1_] [(0, .ln T39 A0_ c1_ a0)] [] (fun v H' => ∃ (A0' : Option Addr) (c1' : Nat), v = .slice A0' ((r).length) c1' ∧ H' = [(0, .own T39 40 A0' c1' r)]) := by
 refine A.Ct.enter Tryd.func22 rfl Tryd.ntmps22 rfl fun w0 F0 => ?_
 rw [F.slices_Clone_api_Node_api_Node] at hF
 refine A.xl 1 ?_
 refine A.q0 [] [] [.n] [] ?_
 refine A.dl 3 ?_
 refine A.q0 [] [] [.n, .n] [(4, .bool A0_.isNone)] ?_
 refine A.dx 1 ?_
 refine A.AX.cnn rfl (fun hb => ?_) (fun hb => ?_)
 ·refine A.nilL 0 hb fun hb => ?_
  subst hb
  replace hF : some [] = some r := by simpa [A.gd, A.ix] using hF
  refine A.xl 1 ?_
  refine A.q0 [] [] [.n] [(2, .slice none 0 0)] ?_
  refine A.dx 1 ?_
  obtain rfl := Option.some.inj hF
  refine A.nil 2 T39 40 ?_
  exact A.rt1 [(0, 2)] ⟨none, 0, rfl, rfl⟩
 refine A.xl 3 ?_
 refine A.AL.bs0 1 T39 (fun g1 => ?_) Tryd.sizeOf40
 refine A.q0 [] [] [.n] [(6, .slice A0_ ((a0).length) c1_)] ?_
 obtain ⟨hl4, hF⟩ := A.gd_some hF
 refine A.AL.app (k := 1) [] (A.rowL (k := 0) rfl) inf40 hl4 fun A2 c3 => ?_
 refine A.q0 [] [] [.n] [(2, .slice A2 (([] ++ a0).length) c3)] ?_
 refine A.dx 1 ?_
 obtain rfl := Option.some.inj hF
 exact A.rt1 [(0, 1)] ⟨A2, c3, rfl, rfl⟩

def F.graph_Clone_l1 (r3 : (List D39)) : Nat → (List D39) → Int → Option D23
  | 0, _, _ => none
  | f + 1, xs9, y11 => if y11 < ((r3).length : Int) then ((A.ix xs9 y11).bind fun x14 => ((F.slices_Clone_int_int x14.2.2.1).bind fun r21 => ((A.ix xs9 y11).bind fun x25 => (A.gd (Z.R64 (y11 + 1)) ((F.graph_Clone_l1 r3 f) (xs9.set y11.toNat (x25.1, x25.2.1, r21, (x25.2.2.2.1.1, x25.2.2.2.1.2.1, x25.2.2.2.1.2.2), x25.2.2.2.2.1, x25.2.2.2.2.2.1, x25.2.2.2.2.2.2)) (y11 + 1)))))) else (some xs9)
def F.graph_Clone (a0 : D23) : Option D23 := (F.slices_Clone_api_Node_api_Node a0).bind fun r3 => (F.graph_Clone_l1 r3 A.FU r3 0)
theorem graph_Clone_ok (a0 : D23) (A0_ : Option Addr) (c1_ : Nat) (r : D23) (hF : F.graph_Clone a0 = some r) :
    A.Ct Tryd.prog 24 [.agg #[.slice A0_ ((a0).length) c1_]] [(0, .sh (.slice T39) [.slice A0_ (a0).length c1_] a0)] [] (fun v H' => ∃ (A0' : Option Addr) (c1' : Nat), v = .agg #[.slice A0' ((r).length) c1'] ∧ H' = [(0, .sh (.slice T39) [.slice A0' (r).length c1'] r)]) := by
 refine A.Ct.enter Tryd.func24 rfl Tryd.ntmps24 rfl fun w0 F0 => ?_
 rw [F.graph_Clone] at hF
 refine A.xl 1 ?_
 refine A.AL.box 1 (cs := [.slice A0_ ((a0).length) c1_]) fun g1 => ?_
 refine A.AL.alloc 2 (cs := [.slice none 0 0]) Tryd.zeroValue24 fun g2 => ?_
 refine A.dl 2 ?_
 refine A.q0 [1] [] [.n, .b 0 0] [(5, .slice A0_ ((a0).length) c1_)] ?_
 obtain ⟨r3, hv4, hF⟩ := A.bd_some hF
 refine A.AL.call 3 [] (first := []) (cap := []) cf22 (slices_Clone_api_Node_api_Node_ok a0 A0_ c1_ r3 hv4) (.l 0 .nil) ?_
 rintro _ _ ⟨A5, c6, rfl, rfl⟩
 refine ⟨by kernel_rfl, ?_⟩
 refine A.q0 [] [] [.n] [(7, .pointer (some ⟨g1, 0, none⟩))] ?_
 refine A.sw 1 [] [.slice A5 ((r3).length) c6] ?_
 refine A.dl 3 ?_
 refine A.q0 [1] [] [.n, .b 0 0, .n, .n] [(10, .int .i64 ((r3).length : Int)), (11, .int .i64 0)] ?_
 refine A.dx 2 ?_
 refine A.lp_ [1, 2, 10] [1, 2] (fun f nl nh => ∃ (xs9 : List D39), ∃ (y11 : Int), nl = [(11, .int .i64 y11)] ∧ nh = [(3, .own T39 40 A5 c6 xs9)] ∧ (r3).length = xs9.length ∧ IntKind.i64.has y11 ∧ F.graph_Clone_l1 r3 f xs9 y11 = some r) ⟨r3, 0, rfl, rfl, rfl, (A.hasl .i64 (0) rfl), hF⟩ ?_
 rintro f13 _ _ ⟨xs9, y11, rfl, rfl, hn10, hy12, hF⟩
 rcases f13 with _ | f13
 ·exact A.no0 hF
 rw [F.graph_Clone_l1] at hF
 refine A.xl 1 ?_
 refine A.q0 [] [] [.n] [(12, .bool (decide (y11 < ((r3).length : Int))))] ?_
 refine A.dx 2 ?_
 refine A.AX.cnd rfl hF (fun hb hF => ?_) (fun hb hF => ?_)
 ·refine A.xl 5 ?_
  refine A.q0 [] [] [.n, .n] [(3, .int .i64 y11)] ?_
  refine A.dx 1 ?_
  refine A.AX.dr mixed 12 13 (A.mb 13 0) ?_
  refine A.hq A.pb [] [1, 2, 3] [1] [] (A.mb 13 63) 7 [(0, .n), (2, .n), (3, .n), (5, .n), (1, .b 0 0), (4, .b 0 0)] [(16, .int .i64 y11), (19, .int .i64 y11), (15, .slice A5 ((r3).length) c6), (18, .slice A5 ((r3).length) c6)] ?_
  refine A.cst 18 (Z.slice_n (show (r3).length = (xs9).length from hn10)) ?_
  obtain ⟨x14, hv15, hF⟩ := A.bd_some hF
  refine A.AH.pko 3 131 hv15 fun ho16 => ?_
  intro A18 c19 g20 hA17
  refine A.AH.v A.pb [1, 2, 3] [1, 2, 3, 131, 132] 6 (A.mb 13 127) rfl (fun a w hf hh => A.r_ixo (t := T39) hv15 hA17 hf) ?_
  refine A.hq A.pb [1, 2, 3, 131, 132] [1, 2, 3, 131, 132] [] [131] (A.mb 13 511) 4 [(7, .n), (8, .e 0 2)] [(22, .slice A18 ((x14.2.2.1).length) c19)] ?_
  refine A.AH.one 9 ?_
  obtain ⟨r21, hv22, hF⟩ := A.bd_some hF
  refine A.AL.call 133 [] (first := []) (cap := []) cf56 (slices_Clone_int_int_ok x14.2.2.1 A18 c19 r21 hv22) (.l 132 .nil) ?_
  rintro _ _ ⟨A23, c24, rfl, rfl⟩
  refine ⟨by kernel_rfl, ?_⟩
  refine A.AH.nx (A.mb 13 1023) [1, 2, 3, 131, 132] ?_
  refine A.cst 15 (Z.slice_n (show (r3).length = (xs9).length from hn10)) ?_
  obtain ⟨x25, hv26, hF⟩ := A.bd_some hF
  refine A.AH.pko 3 173 hv26 fun ho27 => ?_
  intro A29 c30 g31 hA28
  refine A.AH.v A.pb [1, 2, 3, 131, 132] [1, 2, 3, 131, 132, 133, 173, 174] 10 (A.mb 13 2047) rfl (fun a w hf hh => A.r_ixo (t := T39) hv26 hA28 hf) ?_
  refine A.hq A.pb [1, 2, 3, 131, 132, 133, 173, 174] [1, 2, 3, 131, 132, 133, 173, 174] [] [] (A.mb 13 4095) 1 [(11, .n)] [(25, .pointer (some ⟨g31, y11.toNat * (T39).size + 2, none⟩))] ?_
  refine A.AH.one 12 ?_
  refine A.frz 133 [] ?_
  refine A.AL.setel 3 173 [131, 173] (o := 2) (m := 1) (t := T39) (new := [.slice A23 ((r21).length) c24]) (es := [.int .i64 x25.1, .int .i64 x25.2.1, .slice A29 ((x25.2.2.1).length) c30, .int .i64 x25.2.2.2.1.1, .int .i64 x25.2.2.2.1.2.1, .string x25.2.2.2.1.2.2, .string x25.2.2.2.2.1, .int .i64 x25.2.2.2.2.2.1, .int .i64 x25.2.2.2.2.2.2]) (x25.1, x25.2.1, r21, (x25.2.2.2.1.1, x25.2.2.2.1.2.1, x25.2.2.2.1.2.2), x25.2.2.2.2.1, x25.2.2.2.2.2.1, x25.2.2.2.2.2.2) hv26 hA28 ⟨⟨rfl, ho27.1⟩, ⟨rfl, ho27.2.1⟩, .inl ⟨133, rfl⟩, ⟨⟨rfl, ho27.2.2.2.1.1⟩, ⟨rfl, ho27.2.2.2.1.2.1⟩, ⟨rfl, ho27.2.2.2.1.2.2⟩⟩, ⟨rfl, ho27.2.2.2.2.1⟩, ⟨rfl, ho27.2.2.2.2.2.1⟩, ⟨rfl, ho27.2.2.2.2.2.2⟩⟩ ?_
  refine A.AH.nm (A.mb 13 8191) ?_
  refine A.AH.done ?_
  refine A.el 2 ?_
  obtain ⟨hc32, hF⟩ := A.gd_some hF
  refine A.q [] [] [.n, .n] [Z.R64 (y11 + 1)] [(11, .int .i64 (y11 + 1))] hc32 ?_
  refine A.AL.done ?_
  exact A.j ⟨_, Nat.lt_succ_self _, ⟨(xs9.set y11.toNat (x25.1, x25.2.1, r21, (x25.2.2.2.1.1, x25.2.2.2.1.2.1, x25.2.2.2.1.2.2), x25.2.2.2.2.1, x25.2.2.2.2.2.1, x25.2.2.2.2.2.2)), (y11 + 1), rfl, rfl, (by rw [List.length_set]; exact hn10), (Z.i64_has hc32), hF⟩⟩
 refine A.xl 3 ?_
 refine A.q0 [1] [] [.b 0 0] [(27, .agg #[.slice A5 ((r3).length) c6])] ?_
 refine A.sw 2 [] [.slice A5 ((r3).length) c6] ?_
 refine A.dx 1 ?_
 obtain rfl := Option.some.inj hF
 refine A.frz 3 [] ?_
 exact A.AX.ret [(0, 3)] (.agg #[.slice A5 ((r3).length) c6]) (fun a w hf hh => Z.resv1 rfl (Z.rv_n hf rfl Tryd.isAgg24 Tryd.sizeOf24 (A.Hp.blk hh 2) rfl)) (by rw [show (r3).length = (xs9).length from hn10]; exact ⟨A5, c6, rfl, rfl⟩)
end Go.Proofs.YtleiipbkfaajfaaDoor
end
