/- The law 'CodecFrames' as it is given: whatever the input, the call returns true, and each argument reads behind it as it read before. No condition. -/
import Derived.Test.YtlhpkogdcgebeaaRows
import Derived.Test.YtlhpkogdcgebeaaW11
import Derived.Test.YtlhpkogdcgebeaaZk
import Derived.WalkKit
import Derived.ProofKit
import Derived.OpenShut
import Derived.ChangeOld
import Derived.Below
namespace Go.Proofs.Ytlhpkogdcgebeaa.codecFramesDone
open Go.ChangeShapes Go.WideShapes Go.ChangeAt Go.RowKit
set_option linter.unusedVariables false
theorem own : ownKnob Try.prog.godebug = none := by kernel_rfl
theorem laidOut : laidOutB Try.prog = true := by kernel_rfl
theorem ot5 : Z.OpenT Try.prog 5 Z.Ty.byte := Z.ot_byte (by kernel_rfl) Try.underlying5
theorem ot40 : Z.OpenT Try.prog 40 (Z.Ty.slice Z.Ty.byte) := Z.ot_slice (by kernel_rfl) Try.underlying40 ot5
set_option maxHeartbeats 1000000 in
set_option maxRecDepth 100000 in
theorem lifted (os : Os) (started : os.Started) (H : Type) (enc : TypeId × Value → H) :
    ReturnsInHanded {} Try.checked os 4 .any (Rows.codecFramesSpec.pre6 enc Try.prog Try.f4 Rows.codecFramesRow.domain false) (Rows.codecFramesSpec.post enc Try.prog Try.f4 false true false false) := by
  refine returnsInHanded_of_change (C := Try.checked) own started (by kernel_rfl) Try.func4
    (ChangeSpec.witness6 (enc := enc) (C := Try.checked) false ⟨#[], #[.slice none 0 0, .int .u8 0], []⟩ 16 (by kernel_rfl) (by kernel_rfl) (by kernel_rfl) (by kernel_rfl)) ?_
  intro W base args ds gs before hval0 hW hcnd _
  have hval : ∀ (j : Nat) t v, Try.f4.params[j]? = some t → args[j]? = some v → Value.okWide Try.prog W .any base t v := hval0
  have hW' := hW
  obtain ⟨p, q, hA0, hV, rfl, hfz, hnd⟩ := hW
  have hA : DataW.TrodAll enc Try.prog W 0 (fun _ => true) true Try.f4.params.toList args.toList ds p := hA0
  rw [Try.params4] at hA hval
  obtain ⟨v0, vs0, d0, ds0, p0, q0, hargs, rfl, rfl, h0, r0⟩ := trodAll_cons hA
  obtain ⟨v1, vs1, d1, ds1, p1, q1, rfl, rfl, rfl, h1, r1⟩ := trodAll_cons r0
  obtain ⟨rfl, rfl, rfl⟩ := trodAll_nil r1
  obtain rfl : args = #[v0, v1] := by cases args; simp_all
  obtain ⟨rfl, rfl⟩ := trodVars_none hV
  have k0 := h0
  have lt0 : ∀ x ∈ p0, x.block < W.heap.size := by obtain ⟨m, hm⟩ := k0; exact DataW.trod_lt m _ _ _ hm
  obtain ⟨fu0, hf0⟩ := h0
  obtain ⟨x0, hx0⟩ := ot40.2 _ _ _ _ _ _ _ _ _ hf0
  obtain ⟨a0, n0, c0, rfl⟩ := okWide_slice Try.underlying40 (hval 0 40 v0 rfl rfl)
  replace hx0 : (Z.Ty.slice Z.Ty.byte).rep W (Z.nt []) [.slice a0 n0 c0] x0 := hx0
  have hn0 := (Z.rep_slice_len hx0).1
  subst hn0
  have k1 := h1
  have lt1 : ∀ x ∈ p1, x.block < W.heap.size := by obtain ⟨m, hm⟩ := k1; exact DataW.trod_lt m _ _ _ hm
  obtain ⟨fu1, hf1⟩ := h1
  obtain ⟨x1, hx1⟩ := ot5.2 _ _ _ _ _ _ _ _ _ hf1
  obtain ⟨u1, rfl⟩ := okWide_int Try.underlying5 (hval 1 5 v1 rfl rfl)
  have he1 := hx1
  replace he1 : u1 = (x1.toNat : Int) := by simpa [Value.cells, Z.Ty.rep] using he1
  subst he1
  clear hA0 hval0
  refine (CodecFrames_spec x0 x1 W a0 c0 hx0).mono fun e W' ⟨he, hch⟩ => ?_
  subst he
  have bel := hch.below
  exact ⟨_, rfl, _, _, _, [], _, [], hW', trodAll_mk1 (shut_bool Try.underlying4 _), (trodAll_cons_mk (Below.trod laidOut (by kernel_rfl) (of_decide_eq_true (by kernel_rfl)) k0 bel lt0) (trodAll_cons_mk (Below.trod laidOut (by kernel_rfl) (of_decide_eq_true (by kernel_rfl)) k1 bel lt1) trodAll_mk0)), rfl, bel.frame _, fun h => by cases h⟩
theorem over : Rows.codecFramesRow.holds Try.pinned (OpenSpec.ofChange Rows.codecFramesSpec) :=
  OpenClaim.holds_of_wide 4 Try.f4 rfl rfl rfl rfl rfl rfl rfl ⟨rfl, rfl, rfl, rfl, rfl⟩ rfl rfl rfl rfl rfl (by kernel_rfl) Try.func4 (by kernel_rfl)
    (of_decide_eq_true (by kernel_rfl)) (by unfold Func.isWrapper; first | (rw [if_pos (by decide +kernel)]; kernel_rfl) | (rw [if_neg (by decide +kernel)]; exact ⟨rfl, rfl⟩))
    (fun os started H enc _ => lifted os started H enc)
/-- the given statement -/
theorem proved : Rows.CodecFramesSaid := over
#print axioms proved
end Go.Proofs.Ytlhpkogdcgebeaa.codecFramesDone
