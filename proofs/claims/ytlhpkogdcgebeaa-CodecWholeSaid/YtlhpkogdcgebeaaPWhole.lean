/- The law 'CodecWhole' as it is given: whatever the input, the call returns true, and each argument reads behind it as it read before. No condition. -/
import Derived.Test.YtlhpkogdcgebeaaRows
import Derived.Test.YtlhpkogdcgebeaaW11
import Derived.Test.YtlhpkogdcgebeaaZk
import Derived.WalkKit
import Derived.ProofKit
import Derived.OpenShut
import Derived.ChangeOld
import Derived.Below
namespace Go.Proofs.Ytlhpkogdcgebeaa.codecWholeDone
open Go.ChangeShapes Go.WideShapes Go.ChangeAt Go.RowKit
set_option linter.unusedVariables false
theorem own : ownKnob Try.prog.godebug = none := by kernel_rfl
theorem laidOut : laidOutB Try.prog = true := by kernel_rfl
theorem ot5 : Z.OpenT Try.prog 5 Z.Ty.byte := Z.ot_byte (by kernel_rfl) Try.underlying5
theorem ot40 : Z.OpenT Try.prog 40 (Z.Ty.slice Z.Ty.byte) := Z.ot_slice (by kernel_rfl) Try.underlying40 ot5
theorem ot46 : Z.OpenT Try.prog 46 (Z.Ty.slice (Z.Ty.slice Z.Ty.byte)) := Z.ot_slice (by kernel_rfl) Try.underlying46 ot40
theorem ot54 : Z.OpenT Try.prog 54 (Z.Ty.int .u16) := Z.ot_int (by kernel_rfl) Try.underlying54
set_option maxHeartbeats 1000000 in
set_option maxRecDepth 100000 in
theorem lifted (os : Os) (started : os.Started) (H : Type) (enc : TypeId × Value → H) :
    ReturnsInHanded {} Try.checked os 5 .any (Rows.codecWholeSpec.pre6 enc Try.prog Try.f5 Rows.codecWholeRow.domain false) (Rows.codecWholeSpec.post enc Try.prog Try.f5 false true false false) := by
  refine returnsInHanded_of_change (C := Try.checked) own started (by kernel_rfl) Try.func5
    (ChangeSpec.witness6 (enc := enc) (C := Try.checked) false ⟨#[], #[.slice none 0 0, .int .u16 0], []⟩ 16 (by kernel_rfl) (by kernel_rfl) (by kernel_rfl) (by kernel_rfl)) ?_
  intro W base args ds gs before hval0 hW hcnd _
  have hval : ∀ (j : Nat) t v, Try.f5.params[j]? = some t → args[j]? = some v → Value.okWide Try.prog W .any base t v := hval0
  have hW' := hW
  obtain ⟨p, q, hA0, hV, rfl, hfz, hnd⟩ := hW
  have hA : DataW.TrodAll enc Try.prog W 0 (fun _ => true) true Try.f5.params.toList args.toList ds p := hA0
  rw [Try.params5] at hA hval
  obtain ⟨v0, vs0, d0, ds0, p0, q0, hargs, rfl, rfl, h0, r0⟩ := trodAll_cons hA
  obtain ⟨v1, vs1, d1, ds1, p1, q1, rfl, rfl, rfl, h1, r1⟩ := trodAll_cons r0
  obtain ⟨rfl, rfl, rfl⟩ := trodAll_nil r1
  obtain rfl : args = #[v0, v1] := by cases args; simp_all
  obtain ⟨rfl, rfl⟩ := trodVars_none hV
  have k0 := h0
  have lt0 : ∀ x ∈ p0, x.block < W.heap.size := by obtain ⟨m, hm⟩ := k0; exact DataW.trod_lt m _ _ _ hm
  obtain ⟨fu0, hf0⟩ := h0
  obtain ⟨x0, hx0⟩ := ot46.2 _ _ _ _ _ _ _ _ _ hf0
  obtain ⟨a0, n0, c0, rfl⟩ := okWide_slice Try.underlying46 (hval 0 46 v0 rfl rfl)
  replace hx0 : (Z.Ty.slice (Z.Ty.slice Z.Ty.byte)).rep W (Z.nt []) [.slice a0 n0 c0] x0 := hx0
  have hn0 := (Z.rep_slice_len hx0).1
  subst hn0
  have k1 := h1
  have lt1 : ∀ x ∈ p1, x.block < W.heap.size := by obtain ⟨m, hm⟩ := k1; exact DataW.trod_lt m _ _ _ hm
  obtain ⟨fu1, hf1⟩ := h1
  obtain ⟨x1, hx1⟩ := ot54.2 _ _ _ _ _ _ _ _ _ hf1
  obtain ⟨u1, rfl⟩ := okWide_int Try.underlying54 (hval 1 54 v1 rfl rfl)
  have he1 := hx1.1
  replace he1 : u1 = x1 := by simpa [Value.cells] using he1
  subst he1
  have hok1 := hx1.2
  clear hA0 hval0
  refine (CodecWhole_spec x0 u1 W a0 c0 hx0 hok1).mono fun e W' ⟨he, hch⟩ => ?_
  subst he
  have bel := hch.below
  exact ⟨_, rfl, _, _, _, [], _, [], hW', trodAll_mk1 (shut_bool Try.underlying4 _), (trodAll_cons_mk (Below.trod laidOut (by kernel_rfl) (of_decide_eq_true (by kernel_rfl)) k0 bel lt0) (trodAll_cons_mk (Below.trod laidOut (by kernel_rfl) (of_decide_eq_true (by kernel_rfl)) k1 bel lt1) trodAll_mk0)), rfl, bel.frame _, fun h => by cases h⟩
theorem over : Rows.codecWholeRow.holds Try.pinned (OpenSpec.ofChange Rows.codecWholeSpec) :=
  OpenClaim.holds_of_wide 5 Try.f5 rfl rfl rfl rfl rfl rfl rfl ⟨rfl, rfl, rfl, rfl, rfl⟩ rfl rfl rfl rfl rfl (by kernel_rfl) Try.func5 (by kernel_rfl)
    (of_decide_eq_true (by kernel_rfl)) (by unfold Func.isWrapper; first | (rw [if_pos (by decide +kernel)]; kernel_rfl) | (rw [if_neg (by decide +kernel)]; exact ⟨rfl, rfl⟩))
    (fun os started H enc _ => lifted os started H enc)
/-- the given statement -/
theorem proved : Rows.CodecWholeSaid := over
#print axioms proved
end Go.Proofs.Ytlhpkogdcgebeaa.codecWholeDone
