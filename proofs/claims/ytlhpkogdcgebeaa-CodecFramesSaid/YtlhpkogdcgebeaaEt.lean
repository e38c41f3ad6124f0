/- Plain law of reading, continued: texts and frames (no program in sight). -/
import Derived.Test.YtlhpkogdcgebeaaEs
namespace Go.Codec
theorem takeI_all (bs : Bytes) : ((takeI bs).2.2 = 0 ∧ 1 ≤ (takeI bs).2.1 ∧ (takeI bs).2.1 ≤ bs.length ∧ (takeI bs).2.1 ≤ 9 ∧ okInt (takeI bs).1) ∨ ((takeI bs).2.2 ≠ 0 ∧ (takeI bs).2.1 = 0 ∧ (takeI bs).1 = 0) := by
  by_cases h : (takeI bs).2.2 = 0
  · exact .inl ⟨h, takeI_err h⟩
  · right
    refine ⟨h, ?_⟩
    have body : ∀ n neg bs, (intBody n neg bs).2.2 ≠ 0 → (intBody n neg bs).2.1 = 0 ∧ (intBody n neg bs).1 = 0 := by
      intro n neg bs h
      by_cases h1 : bs.length ≤ n
      · rw [body_short h1]; exact ⟨rfl, rfl⟩
      by_cases h2 : 9223372036854775808 ≤ val ((bs.drop 1).take n)
      · rw [body_big h1 h2]; exact ⟨rfl, rfl⟩
      by_cases h3 : encInt (if neg then -1 - (val ((bs.drop 1).take n) : Int) else (val ((bs.drop 1).take n) : Int)) = bs.take (n + 1)
      · rw [body_ok h1 h2 rfl h3] at h; exact absurd rfl h
      · rw [body_bad h1 rfl h3]; exact ⟨rfl, rfl⟩
    cases bs with
    | nil => exact ⟨rfl, rfl⟩
    | cons b r =>
      simp only [takeI] at h ⊢
      by_cases h1 : b.toNat < 50
      · rw [if_pos h1] at h; exact absurd rfl h
      rw [if_neg h1] at h ⊢
      by_cases h2 : b.toNat < 100
      · rw [if_pos h2]; exact ⟨rfl, rfl⟩
      rw [if_neg h2] at h ⊢
      by_cases h3 : b.toNat ≤ 199
      · rw [if_pos h3] at h; exact absurd rfl h
      rw [if_neg h3] at h ⊢
      by_cases h4 : 215 < b.toNat
      · rw [if_pos h4]; exact ⟨rfl, rfl⟩
      rw [if_neg h4] at h ⊢
      by_cases h5 : 207 < b.toNat
      · rw [if_pos h5] at h ⊢; exact body _ _ _ h
      · rw [if_neg h5] at h ⊢; exact body _ _ _ h
def noText : ByteArray := ByteArray.mk #[]
/-- a text: what it is, how many bytes it took, the fault -/
def takeT (bs : Bytes) : ByteArray × Nat × Int :=
  if (takeI bs).2.2 ≠ 0 then (noText, 0, (takeI bs).2.2)
  else if (takeI bs).1 < 0 then (noText, 0, 70)
  else if 65536 < (takeI bs).1 then (noText, 0, 3)
  else if ((bs.length : Int) - (takeI bs).2.1) < (takeI bs).1 then (noText, 0, 71)
  else (ByteArray.mk ((bs.drop (takeI bs).2.1).take (takeI bs).1.toNat).toArray, (takeI bs).2.1 + (takeI bs).1.toNat, 0)
theorem takeT_err {bs : Bytes} (h : (takeI bs).2.2 ≠ 0) : takeT bs = (noText, 0, (takeI bs).2.2) := by unfold takeT; rw [if_pos h]
theorem takeT_neg {bs : Bytes} (h : ¬ (takeI bs).2.2 ≠ 0) (h1 : (takeI bs).1 < 0) : takeT bs = (noText, 0, 70) := by unfold takeT; rw [if_neg h, if_pos h1]
theorem takeT_big {bs : Bytes} (h : ¬ (takeI bs).2.2 ≠ 0) (h1 : 65536 < (takeI bs).1) : takeT bs = (noText, 0, 3) := by unfold takeT; rw [if_neg h, if_neg (by omega), if_pos h1]
theorem takeT_short {bs : Bytes} (h : ¬ (takeI bs).2.2 ≠ 0) (h0 : ¬ (takeI bs).1 < 0) (h1 : ¬ 65536 < (takeI bs).1) (h2 : ((bs.length : Int) - (takeI bs).2.1) < (takeI bs).1) : takeT bs = (noText, 0, 71) := by unfold takeT; rw [if_neg h, if_neg h0, if_neg h1, if_pos h2]
theorem takeT_ok {bs : Bytes} (h : ¬ (takeI bs).2.2 ≠ 0) (h0 : ¬ (takeI bs).1 < 0) (h1 : ¬ 65536 < (takeI bs).1) (h2 : ¬ ((bs.length : Int) - (takeI bs).2.1) < (takeI bs).1) :
    takeT bs = (ByteArray.mk ((bs.drop (takeI bs).2.1).take (takeI bs).1.toNat).toArray, (takeI bs).2.1 + (takeI bs).1.toNat, 0) := by unfold takeT; rw [if_neg h, if_neg h0, if_neg h1, if_neg h2]
theorem takeT_all (bs : Bytes) : ((takeT bs).2.2 = 0 ∧ 1 ≤ (takeT bs).2.1 ∧ (takeT bs).2.1 ≤ bs.length ∧ (takeT bs).1.size ≤ 65536) ∨ ((takeT bs).2.2 ≠ 0 ∧ (takeT bs).2.1 = 0 ∧ (takeT bs).1 = noText) := by
  rcases takeI_all bs with ⟨e0, e1, e2, e3, e4⟩ | ⟨e0, e1, e2⟩
  · by_cases h0 : (takeI bs).1 < 0
    · rw [takeT_neg (by omega) h0]; right; exact ⟨by simp, rfl, rfl⟩
    by_cases h1 : 65536 < (takeI bs).1
    · rw [takeT_big (by omega) h1]; right; exact ⟨by simp, rfl, rfl⟩
    by_cases h2 : ((bs.length : Int) - (takeI bs).2.1) < (takeI bs).1
    · rw [takeT_short (by omega) h0 h1 h2]; right; exact ⟨by simp, rfl, rfl⟩
    · rw [takeT_ok (by omega) h0 h1 h2]; left
      refine ⟨rfl, by simp only; omega, by simp only; omega, ?_⟩
      show ((bs.drop (takeI bs).2.1).take (takeI bs).1.toNat).toArray.size ≤ 65536
      rw [List.size_toArray, List.length_take]; omega
  · rw [takeT_err e0]; right; exact ⟨e0, rfl, rfl⟩
/-- frames, one behind the other, as far as they go -/
def frames (bs : Bytes) : List Bytes :=
  if _h : (takeT bs).2.2 = 0 then (takeT bs).1.data.toList :: frames (bs.drop (takeT bs).2.1) else []
termination_by bs.length
decreasing_by
  rcases takeT_all bs with ⟨_, e1, e2, _⟩ | ⟨e, _⟩
  · rw [List.length_drop]; omega
  · omega
theorem frames_stop {bs : Bytes} (h : (takeT bs).2.2 ≠ 0) : frames bs = [] := by rw [frames, dif_neg h]
theorem frames_go {bs : Bytes} (h : ¬ (takeT bs).2.2 ≠ 0) : frames bs = (takeT bs).1.data.toList :: frames (bs.drop (takeT bs).2.1) := by rw [frames, dif_pos (by omega)]
theorem takeT_nil : takeT [] = (noText, 0, 71) := by rw [takeT_err (by simp [takeI])]; rfl
theorem frames_nil : frames [] = [] := frames_stop (by rw [takeT_nil]; simp)
/-- a length: what it is, the fault, where the reader stands then -/
def lenR (bs : Bytes) (p m : Int) : Int × Int × Int :=
  if (takeI (bs.drop p.toNat)).2.2 ≠ 0 then (0, (takeI (bs.drop p.toNat)).2.2, p)
  else if (takeI (bs.drop p.toNat)).1 < 0 then (0, 70, p)
  else if m < (takeI (bs.drop p.toNat)).1 then (0, 3, p)
  else ((takeI (bs.drop p.toNat)).1, 0, p + ((takeI (bs.drop p.toNat)).2.1 : Int))
theorem lenR_err {bs : Bytes} {p m : Int} (h : (takeI (bs.drop p.toNat)).2.2 ≠ 0) : lenR bs p m = (0, (takeI (bs.drop p.toNat)).2.2, p) := by unfold lenR; rw [if_pos h]
theorem lenR_neg {bs : Bytes} {p m : Int} (h : ¬ (takeI (bs.drop p.toNat)).2.2 ≠ 0) (h1 : (takeI (bs.drop p.toNat)).1 < 0) : lenR bs p m = (0, 70, p) := by unfold lenR; rw [if_neg h, if_pos h1]
theorem lenR_big {bs : Bytes} {p m : Int} (h : ¬ (takeI (bs.drop p.toNat)).2.2 ≠ 0) (h1 : ¬ (takeI (bs.drop p.toNat)).1 < 0) (h2 : m < (takeI (bs.drop p.toNat)).1) : lenR bs p m = (0, 3, p) := by unfold lenR; rw [if_neg h, if_neg h1, if_pos h2]
theorem lenR_ok {bs : Bytes} {p m : Int} (h : ¬ (takeI (bs.drop p.toNat)).2.2 ≠ 0) (h1 : ¬ (takeI (bs.drop p.toNat)).1 < 0) (h2 : ¬ m < (takeI (bs.drop p.toNat)).1) :
    lenR bs p m = ((takeI (bs.drop p.toNat)).1, 0, p + ((takeI (bs.drop p.toNat)).2.1 : Int)) := by unfold lenR; rw [if_neg h, if_neg h1, if_neg h2]
/-- a length, and the text that it opens -/
theorem lenR_T (bs : Bytes) (p : Int) (hp : 0 ≤ p ∧ p ≤ bs.length) :
    ((lenR bs p 65536).2.1 ≠ 0 ∧ takeT (bs.drop p.toNat) = (noText, 0, (lenR bs p 65536).2.1) ∧ (lenR bs p 65536).2.2 = p) ∨
    ((lenR bs p 65536).2.1 = 0 ∧ 0 ≤ (lenR bs p 65536).1 ∧ (lenR bs p 65536).1 ≤ 65536 ∧ p + 1 ≤ (lenR bs p 65536).2.2 ∧ (lenR bs p 65536).2.2 ≤ bs.length ∧
      ((bs.length : Int) - (lenR bs p 65536).2.2 < (lenR bs p 65536).1 → takeT (bs.drop p.toNat) = (noText, 0, 71)) ∧
      (¬ (bs.length : Int) - (lenR bs p 65536).2.2 < (lenR bs p 65536).1 →
        takeT (bs.drop p.toNat) = (ByteArray.mk ((bs.drop (lenR bs p 65536).2.2.toNat).take (lenR bs p 65536).1.toNat).toArray, ((lenR bs p 65536).2.2 - p).toNat + (lenR bs p 65536).1.toNat, 0))) := by
  rcases takeI_all (bs.drop p.toNat) with ⟨e0, e1, e2, e3, e4⟩ | ⟨e0, e1, e2⟩
  · rw [List.length_drop] at e2
    by_cases h0 : (takeI (bs.drop p.toNat)).1 < 0
    · left; rw [lenR_neg (by omega) h0, takeT_neg (by omega) h0]; exact ⟨by simp, rfl, rfl⟩
    by_cases h1 : 65536 < (takeI (bs.drop p.toNat)).1
    · left; rw [lenR_big (by omega) h0 h1, takeT_big (by omega) h1]; exact ⟨by simp, rfl, rfl⟩
    right
    rw [lenR_ok (by omega) h0 (by omega)]
    refine ⟨rfl, by simp only; omega, by simp only; omega, by simp only; omega, by simp only; omega, fun h2 => ?_, fun h2 => ?_⟩
    · simp only at h2
      exact takeT_short (by omega) h0 h1 (by rw [List.length_drop]; omega)
    · simp only at h2
      rw [takeT_ok (by omega) h0 h1 (by rw [List.length_drop]; omega), List.drop_drop]
      simp only
      rw [show (p + ((takeI (bs.drop p.toNat)).2.1 : Int)).toNat = p.toNat + (takeI (bs.drop p.toNat)).2.1 by omega, show (p + ((takeI (bs.drop p.toNat)).2.1 : Int) - p).toNat = (takeI (bs.drop p.toNat)).2.1 by omega]
  · left; rw [lenR_err e0, takeT_err e0]; exact ⟨e0, rfl, rfl⟩
end Go.Codec
