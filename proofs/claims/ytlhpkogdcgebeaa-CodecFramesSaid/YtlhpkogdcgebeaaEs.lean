/- Plain law of reading: a number, a text, frames (no program in sight). -/
import Derived.Test.YtlhpkogdcgebeaaEp
namespace Go.Codec
/-- a number of n bytes behind its first: what it is, how long, and the fault -/
def intBody (n : Nat) (neg : Bool) (bs : Bytes) : Int × Nat × Int :=
  if bs.length ≤ n then (0, 0, 71)
  else if 9223372036854775808 ≤ val ((bs.drop 1).take n) then (0, 0, 70)
  else if encInt (if neg then -1 - (val ((bs.drop 1).take n) : Int) else (val ((bs.drop 1).take n) : Int)) = bs.take (n + 1) then (if neg then -1 - (val ((bs.drop 1).take n) : Int) else (val ((bs.drop 1).take n) : Int), n + 1, 0)
  else (0, 0, 70)
def takeI : Bytes → Int × Nat × Int
  | [] => (0, 0, 71)
  | b :: r =>
    if b.toNat < 50 then ((b.toNat : Int) - 50, 1, 0) else if b.toNat < 100 then (0, 0, 70) else if b.toNat ≤ 199 then ((b.toNat : Int) - 100, 1, 0) else if 215 < b.toNat then (0, 0, 70)
    else if 207 < b.toNat then intBody (b.toNat - 207) true (b :: r) else intBody (b.toNat - 199) false (b :: r)
theorem val_lt : ∀ (l : Bytes), val l < 256 ^ l.length := by
  intro l
  have h : ∀ (l : Bytes) (u : Nat), l.foldl (fun u c => u * 256 + c.toNat) u + 1 ≤ (u + 1) * 256 ^ l.length := by
    intro l
    induction l with
    | nil => intro u; simp
    | cons c l ih =>
      intro u
      have := ih (u * 256 + c.toNat)
      have hc := c.toNat_lt
      rw [List.foldl_cons, List.length_cons, Nat.pow_succ]
      refine Nat.le_trans this ?_
      rw [Nat.mul_comm (256 ^ l.length) 256, ← Nat.mul_assoc]
      exact Nat.mul_le_mul_right _ (by omega)
  have := h l 0
  unfold val; omega
theorem val_lt8 {l : Bytes} (h : l.length ≤ 8) : val l < 18446744073709551616 := by
  have h1 := val_lt l
  have h2 : 256 ^ l.length ≤ 256 ^ 8 := Nat.pow_le_pow_right (by decide) h
  have h3 : (256 : Nat) ^ 8 = 18446744073709551616 := by decide
  omega
theorem val_lt7 {l : Bytes} (h : l.length ≤ 7) : val l * 256 + 255 < 18446744073709551616 := by
  have h1 := val_lt l
  have h2 : 256 ^ l.length ≤ 256 ^ 7 := Nat.pow_le_pow_right (by decide) h
  have h3 : (256 : Nat) ^ 7 = 72057594037927936 := by decide
  omega
/-- the value of the first k bytes, one more -/
theorem val_take {l : Bytes} {k : Nat} {c : UInt8} (h : l[k]? = some c) : val (l.take (k + 1)) = val (l.take k) * 256 + c.toNat := by
  rw [List.take_succ_eq_append_getElem (List.getElem?_eq_some_iff.1 h).1, val_snoc, (List.getElem?_eq_some_iff.1 h).2]
theorem takeI_nil {bs : Bytes} (h : (bs.length : Int) = 0) : takeI bs = (0, 0, 71) := by
  have : bs = [] := List.eq_nil_of_length_eq_zero (by omega)
  rw [this]; rfl
section
variable {bs : Bytes} {b : UInt8} (h0 : bs[0]? = some b)
include h0
theorem takeI_cons : takeI bs = if b.toNat < 50 then ((b.toNat : Int) - 50, 1, 0) else if b.toNat < 100 then (0, 0, 70) else if b.toNat ≤ 199 then ((b.toNat : Int) - 100, 1, 0) else if 215 < b.toNat then (0, 0, 70)
    else if 207 < b.toNat then intBody (b.toNat - 207) true bs else intBody (b.toNat - 199) false bs := by
  cases bs with
  | nil => simp at h0
  | cons c r => simp at h0; subst h0; rfl
theorem takeI_low (h : (b.toNat : Int) < 50) : takeI bs = ((b.toNat : Int) - 50, 1, 0) := by rw [takeI_cons h0, if_pos (by omega)]
theorem takeI_gap (h : ¬ (b.toNat : Int) < 50) (h2 : (b.toNat : Int) < 100) : takeI bs = (0, 0, 70) := by rw [takeI_cons h0, if_neg (by omega), if_pos (by omega)]
theorem takeI_mid (h : ¬ (b.toNat : Int) < 100) (h2 : (b.toNat : Int) ≤ 199) : takeI bs = ((b.toNat : Int) - 100, 1, 0) := by rw [takeI_cons h0, if_neg (by omega), if_neg (by omega), if_pos (by omega)]
theorem takeI_high (h : (215 : Int) < b.toNat) : takeI bs = (0, 0, 70) := by rw [takeI_cons h0, if_neg (by omega), if_neg (by omega), if_neg (by omega), if_pos (by omega)]
theorem takeI_neg (h : (207 : Int) < b.toNat) (h2 : ¬ (215 : Int) < b.toNat) : takeI bs = intBody (b.toNat - 207) true bs := by rw [takeI_cons h0, if_neg (by omega), if_neg (by omega), if_neg (by omega), if_neg (by omega), if_pos (by omega)]
theorem takeI_pos (h : ¬ (207 : Int) < b.toNat) (h2 : ¬ (b.toNat : Int) ≤ 199) : takeI bs = intBody (b.toNat - 199) false bs := by rw [takeI_cons h0, if_neg (by omega), if_neg (by omega), if_neg (by omega), if_neg (by omega), if_neg (by omega)]
end
theorem body_short {n : Nat} {neg : Bool} {bs : Bytes} (h : bs.length ≤ n) : intBody n neg bs = (0, 0, 71) := by unfold intBody; rw [if_pos h]
theorem body_big {n : Nat} {neg : Bool} {bs : Bytes} (h : ¬ bs.length ≤ n) (h2 : 9223372036854775808 ≤ val ((bs.drop 1).take n)) : intBody n neg bs = (0, 0, 70) := by unfold intBody; rw [if_neg h, if_pos h2]
theorem body_bad {n : Nat} {neg : Bool} {bs : Bytes} {v : Int} (h : ¬ bs.length ≤ n) (hv : v = if neg then -1 - (val ((bs.drop 1).take n) : Int) else (val ((bs.drop 1).take n) : Int)) (h3 : ¬ encInt v = bs.take (n + 1)) : intBody n neg bs = (0, 0, 70) := by
  unfold intBody; rw [if_neg h]
  split
  · rfl
  · rw [← hv, if_neg h3]
theorem body_ok {n : Nat} {neg : Bool} {bs : Bytes} {v : Int} (h : ¬ bs.length ≤ n) (h2 : ¬ 9223372036854775808 ≤ val ((bs.drop 1).take n)) (hv : v = if neg then -1 - (val ((bs.drop 1).take n) : Int) else (val ((bs.drop 1).take n) : Int)) (h3 : encInt v = bs.take (n + 1)) :
    intBody n neg bs = (v, n + 1, 0) := by
  unfold intBody; rw [if_neg h, if_neg h2, ← hv, if_pos h3]
theorem takeI_err {bs : Bytes} : (takeI bs).2.2 = 0 → 1 ≤ (takeI bs).2.1 ∧ (takeI bs).2.1 ≤ bs.length ∧ (takeI bs).2.1 ≤ 9 ∧ okInt (takeI bs).1 := by
  cases bs with
  | nil => intro h; simp [takeI] at h
  | cons b r =>
    intro h
    have hb := b.toNat_lt
    have body : ∀ (n : Nat) (neg : Bool), n ≤ 8 → (intBody n neg (b :: r)).2.2 = 0 → 1 ≤ (intBody n neg (b :: r)).2.1 ∧ (intBody n neg (b :: r)).2.1 ≤ (b :: r).length ∧ (intBody n neg (b :: r)).2.1 ≤ 9 ∧ okInt (intBody n neg (b :: r)).1 := by
      intro n neg hn h
      by_cases h1 : (b :: r).length ≤ n
      · rw [body_short h1] at h; simp at h
      by_cases h2 : 9223372036854775808 ≤ val (((b :: r).drop 1).take n)
      · rw [body_big h1 h2] at h; simp at h
      by_cases h3 : encInt (if neg then -1 - (val (((b :: r).drop 1).take n) : Int) else (val (((b :: r).drop 1).take n) : Int)) = (b :: r).take (n + 1)
      · rw [body_ok h1 h2 rfl h3]
        refine ⟨by simp, by simp only; omega, by simp only; omega, ?_⟩
        unfold okInt
        cases neg
        · simp only [Bool.false_eq_true, if_false]; omega
        · simp only [if_true]; omega
      · rw [body_bad h1 rfl h3] at h; simp at h
    simp only [takeI] at h ⊢
    split at h
    · rename_i h1; simp only [if_pos h1, List.length_cons]; refine ⟨by omega, by omega, by omega, ?_⟩; unfold okInt; omega
    · rename_i h1
      rw [if_neg h1]
      split at h
      · simp at h
      · rename_i h2
        rw [if_neg h2]
        split at h
        · rename_i h3; simp only [if_pos h3, List.length_cons]; refine ⟨by omega, by omega, by omega, ?_⟩; unfold okInt; omega
        · rename_i h3
          rw [if_neg h3]
          split at h
          · simp at h
          · rename_i h4
            rw [if_neg h4]
            split at h
            · rename_i h5; rw [if_pos h5]; exact body _ _ (by omega) h
            · rename_i h5; rw [if_neg h5]; exact body _ _ (by omega) h
theorem u8_mod (u : Nat) : UInt8.ofNat (u % 256) = UInt8.ofNat u := UInt8.toNat_inj.1 (by simp)
theorem enc_up' (n : Int) (h0 : 100 ≤ n) (bs : Bytes) (h : be 8 n.toNat = bs) : UInt8.ofNat (199 + bs.length) :: bs = encInt n := by
  unfold encInt; rw [if_neg (by omega), if_neg (by omega), if_pos (by omega), h]
theorem enc_dn' (n : Int) (h0 : n < -50) (bs : Bytes) (h : be 8 (-1 - n).toNat = bs) : UInt8.ofNat (207 + bs.length) :: bs = encInt n := by
  unfold encInt; rw [if_neg (by omega), if_neg (by omega), if_neg (by omega), h]
theorem cutv {bs : Bytes} {m n : Nat} (h : m = n + 1) : (bs.take m).drop 1 = (bs.drop 1).take n := by subst h; rw [List.drop_take]; rfl
theorem ba_mk {l m : Bytes} (h : ByteArray.mk l.toArray = ByteArray.mk m.toArray) : l = m := by
  injection h with h; exact List.toArray_inj h
theorem wrap64 {u : Nat} {w : Int} (hu : u < 18446744073709551616) (hw : w = ((u : Int) + 9223372036854775808) % 18446744073709551616 - 9223372036854775808) : (u < 9223372036854775808 ∧ w = u) ∨ (9223372036854775808 ≤ u ∧ w = (u : Int) - 18446744073709551616) := by omega
end Go.Codec
