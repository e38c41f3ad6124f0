/- Plain law of reading, continued: what was written is read; frames put together, and beginnings of them (no program in sight). -/
import Derived.Test.YtlhpkogdcgebeaaEt
namespace Go.Codec
theorem takeI_up {L : Nat} {n : Int} {be r : Bytes} {neg : Bool} (hb : be.length = L) (h1 : 1 ≤ L) (h8 : L ≤ 8) (hv : val be < 9223372036854775808) (hn : n = if neg then -1 - (val be : Int) else (val be : Int)) (he : encInt n = UInt8.ofNat ((if neg then 207 else 199) + L) :: be) :
    takeI (UInt8.ofNat ((if neg then 207 else 199) + L) :: be ++ r) = (n, L + 1, 0) := by
  have hc : (UInt8.ofNat ((if neg then 207 else 199) + L)).toNat = (if neg then 207 else 199) + L := u8_toNat _ (by split <;> omega)
  have hbody : intBody L neg (UInt8.ofNat ((if neg then 207 else 199) + L) :: be ++ r) = (n, L + 1, 0) := by
    have e1 : ((UInt8.ofNat ((if neg then 207 else 199) + L) :: be ++ r).drop 1).take L = be := by
      rw [List.cons_append, List.drop_succ_cons, List.drop_zero, ← hb, List.take_left]
    refine body_ok (by simp; omega) (by rw [e1]; omega) (by rw [e1]; exact hn) ?_
    rw [he, List.cons_append, List.take_succ_cons, ← hb, List.take_left]
  simp only [List.cons_append, takeI, hc] at hbody ⊢
  cases neg
  · simp only [Bool.false_eq_true, if_false] at hbody ⊢
    rw [if_neg (by omega), if_neg (by omega), if_neg (by omega), if_neg (by omega), if_neg (by omega), show 199 + L - 199 = L by omega]; exact hbody
  · simp only [if_true] at hbody ⊢
    rw [if_neg (by omega), if_neg (by omega), if_neg (by omega), if_neg (by omega), if_pos (by omega), show 207 + L - 207 = L by omega]; exact hbody
theorem enc_forms (n : Int) (h : okInt n) : (∃ c : UInt8, encInt n = [c]) ∨ ∃ (neg : Bool) (be : Bytes), 1 ≤ be.length ∧ be.length ≤ 8 ∧ val be < 9223372036854775808 ∧ (n = if neg then -1 - (val be : Int) else (val be : Int)) ∧ encInt n = UInt8.ofNat ((if neg then 207 else 199) + be.length) :: be := by
  unfold okInt at h
  have h8 : (256 : Nat) ^ 8 = 18446744073709551616 := by decide
  by_cases h1 : 0 ≤ n ∧ n < 100
  · left; exact ⟨_, by unfold encInt; rw [if_pos h1]⟩
  by_cases h2 : n < 0 ∧ -50 ≤ n
  · left; exact ⟨_, by unfold encInt; rw [if_neg h1, if_pos h2]⟩
  right
  by_cases h3 : 0 ≤ n
  · refine ⟨false, be 8 n.toNat, be_pos 7 _ (by omega), be_length 8 _, ?_, ?_, ?_⟩
    · rw [val_be 8 _ (by omega)]; omega
    · rw [val_be 8 _ (by omega)]; simp; omega
    · unfold encInt; rw [if_neg h1, if_neg h2, if_pos h3]; simp
  · refine ⟨true, be 8 (-1 - n).toNat, be_pos 7 _ (by omega), be_length 8 _, ?_, ?_, ?_⟩
    · rw [val_be 8 _ (by omega)]; omega
    · rw [val_be 8 _ (by omega)]; simp; omega
    · unfold encInt; rw [if_neg h1, if_neg h2, if_neg h3]; simp
theorem takeI_enc (n : Int) (r : Bytes) (h : okInt n) : takeI (encInt n ++ r) = (n, (encInt n).length, 0) := by
  by_cases h1 : 0 ≤ n ∧ n < 100
  · have he : encInt n = [UInt8.ofNat (100 + n.toNat)] := by unfold encInt; rw [if_pos h1]
    rw [he]
    simp only [List.singleton_append, takeI, u8_toNat (100 + n.toNat) (by omega)]
    rw [if_neg (by omega), if_neg (by omega), if_pos (by omega)]
    simp; omega
  by_cases h2 : n < 0 ∧ -50 ≤ n
  · have he : encInt n = [UInt8.ofNat ((50 + n).toNat)] := by unfold encInt; rw [if_neg h1, if_pos h2]
    rw [he]
    simp only [List.singleton_append, takeI, u8_toNat (50 + n).toNat (by omega)]
    rw [if_pos (by omega)]
    simp; omega
  rcases enc_forms n h with ⟨c, hc⟩ | ⟨neg, be', b1, b8, hv, hn, he⟩
  · exfalso
    unfold okInt at h
    by_cases h3 : 0 ≤ n
    · have := be_pos 7 n.toNat (by omega)
      unfold encInt at hc; rw [if_neg h1, if_neg h2, if_pos h3] at hc
      injection hc with _ hc; rw [hc] at this; simp at this
    · have := be_pos 7 (-1 - n).toNat (by omega)
      unfold encInt at hc; rw [if_neg h1, if_neg h2, if_neg h3] at hc
      injection hc with _ hc; rw [hc] at this; simp at this
  · have := takeI_up (r := r) rfl b1 b8 hv hn he
    rw [he, this]; simp
theorem takeI_pre (n : Int) (h : okInt n) (j : Nat) (hj : j < (encInt n).length) : (takeI ((encInt n).take j)).2.2 ≠ 0 := by
  rcases enc_forms n h with ⟨c, hc⟩ | ⟨neg, be', b1, b8, hv, hn, he⟩
  · rw [hc] at hj ⊢
    have : j = 0 := by simp at hj; omega
    subst this; simp [takeI]
  · rw [he] at hj ⊢
    cases j with
    | zero => simp [takeI]
    | succ j =>
      have hjl : j < be'.length := by simpa using hj
      have hc : (UInt8.ofNat ((if neg then 207 else 199) + be'.length)).toNat = (if neg then 207 else 199) + be'.length := u8_toNat _ (by split <;> omega)
      have hbody : intBody be'.length neg (UInt8.ofNat ((if neg then 207 else 199) + be'.length) :: be'.take j) = (0, 0, 71) := body_short (by simp; omega)
      rw [List.take_succ_cons]
      simp only [takeI, hc]
      cases neg
      · simp only [Bool.false_eq_true, if_false] at hbody ⊢
        rw [if_neg (by omega), if_neg (by omega), if_neg (by omega), if_neg (by omega), if_neg (by omega), show 199 + be'.length - 199 = be'.length by omega, hbody]; simp
      · simp only [if_true] at hbody ⊢
        rw [if_neg (by omega), if_neg (by omega), if_neg (by omega), if_neg (by omega), if_pos (by omega), show 207 + be'.length - 207 = be'.length by omega, hbody]; simp
/-- a frame -/
def fr (b : Bytes) : Bytes := encInt (b.length : Int) ++ b
theorem fr_length (b : Bytes) : (fr b).length = (encInt (b.length : Int)).length + b.length := by unfold fr; simp
theorem fr_pos (b : Bytes) : 1 ≤ (fr b).length := by rw [fr_length]; have := encInt_length (b.length : Int); omega
theorem takeT_fr (b r : Bytes) (h : b.length ≤ 65536) : takeT (fr b ++ r) = (ByteArray.mk b.toArray, (fr b).length, 0) := by
  have hi : takeI (fr b ++ r) = ((b.length : Int), (encInt (b.length : Int)).length, 0) := by
    unfold fr; rw [List.append_assoc]; exact takeI_enc _ _ (by unfold okInt; omega)
  rw [takeT_ok (by rw [hi]; simp) (by rw [hi]; simp) (by rw [hi]; simp; omega) (by rw [hi]; simp [fr]; omega), hi]
  simp only [Int.toNat_natCast, fr_length]
  congr 1
  unfold fr
  rw [List.append_assoc, List.drop_left, List.take_left]
theorem takeT_pre (b : Bytes) (h : b.length ≤ 65536) (j : Nat) (hj : j < (fr b).length) : (takeT ((fr b).take j)).2.2 ≠ 0 := by
  have hok : okInt (b.length : Int) := by unfold okInt; omega
  rw [fr_length] at hj
  by_cases h1 : j < (encInt (b.length : Int)).length
  · have e : (fr b).take j = (encInt (b.length : Int)).take j := by unfold fr; rw [List.take_append_of_le_length (by omega)]
    rw [e, takeT_err (takeI_pre _ hok j h1)]; exact takeI_pre _ hok j h1
  · have e : (fr b).take j = encInt (b.length : Int) ++ b.take (j - (encInt (b.length : Int)).length) := by
      unfold fr; rw [List.take_append, List.take_of_length_le (by omega)]
    have hi := takeI_enc (b.length : Int) (b.take (j - (encInt (b.length : Int)).length)) hok
    rw [e, takeT_short (by rw [hi]; simp) (by rw [hi]; simp) (by rw [hi]; simp; omega) (by rw [hi]; simp; omega)]; simp
def frs (l : List Bytes) : Bytes := (l.map fr).flatten
theorem frs_nil : frs [] = [] := rfl
theorem frs_cons (b : Bytes) (l : List Bytes) : frs (b :: l) = fr b ++ frs l := by simp [frs]
theorem frs_snoc (b : Bytes) (l : List Bytes) : frs (l ++ [b]) = frs l ++ fr b := by simp [frs]
/-- of a beginning those that are whole -/
theorem frames_cut : ∀ (l : List Bytes) (n k : Nat), (∀ b, b ∈ l → b.length ≤ 65536) → n ≤ l.length → (frs (l.take n)).length ≤ k → (n < l.length → k < (frs (l.take (n + 1))).length) → frames ((frs l).take k) = l.take n
  | [], n, k, _, hn, _, _ => by
    have : n = 0 := by simpa using hn
    subst this; simp [frs_nil, frames_nil]
  | b :: l, 0, k, hb, _, _, h2 => by
    have hk := h2 (by simp)
    simp only [List.take_succ_cons, List.take_zero, frs_cons, frs_nil, List.append_nil] at hk
    rw [frs_cons, List.take_append_of_le_length (by omega), List.take_zero]
    exact frames_stop (takeT_pre b (hb b (by simp)) k hk)
  | b :: l, n + 1, k, hb, hn, h1, h2 => by
    have hb0 := hb b (by simp)
    simp only [List.take_succ_cons, frs_cons, List.length_append] at h1 h2
    have e : (frs (b :: l)).take k = fr b ++ (frs l).take (k - (fr b).length) := by rw [frs_cons, List.take_append, List.take_of_length_le (by omega)]
    have ht := takeT_fr b ((frs l).take (k - (fr b).length)) hb0
    rw [e, frames_go (by rw [ht]; simp), ht]
    simp only [List.drop_left, List.take_succ_cons]
    rw [frames_cut l n (k - (fr b).length) (fun x hx => hb x (by simp [hx])) (by simpa using hn) (by omega) (fun h => by have := h2 (by simp; omega); omega)]
theorem frames_frs (l : List Bytes) (hb : ∀ b, b ∈ l → b.length ≤ 65536) : frames (frs l) = l := by
  have := frames_cut l l.length (frs l).length hb (Nat.le_refl _) (by rw [List.take_length]; exact Nat.le_refl _) (fun h => absurd h (Nat.lt_irrefl _))
  rwa [List.take_length, List.take_length] at this
theorem frames_facts : ∀ (n : Nat) (bs : Bytes), bs.length ≤ n → (frames bs).length ≤ bs.length ∧ ∀ x, x ∈ frames bs → x.length ≤ 65536
  | 0, bs, h => by
    have : bs = [] := List.eq_nil_of_length_eq_zero (by omega)
    subst this; rw [frames_nil]; exact ⟨Nat.le_refl _, fun x hx => by cases hx⟩
  | n + 1, bs, h => by
    by_cases he : (takeT bs).2.2 ≠ 0
    · rw [frames_stop he]; exact ⟨by simp, fun x hx => by cases hx⟩
    · rw [frames_go he]
      rcases takeT_all bs with ⟨e0, e1, e2, e3⟩ | ⟨e0, _⟩
      · obtain ⟨i1, i2⟩ := frames_facts n (bs.drop (takeT bs).2.1) (by rw [List.length_drop]; omega)
        rw [List.length_drop] at i1
        refine ⟨by simp only [List.length_cons]; omega, fun x hx => ?_⟩
        rcases List.mem_cons.1 hx with rfl | hx
        · exact e3
        · exact i2 x hx
      · omega
theorem frames_len (bs : Bytes) : (frames bs).length ≤ bs.length := (frames_facts bs.length bs (Nat.le_refl _)).1
theorem frames_el (bs : Bytes) : ∀ x, x ∈ frames bs → x.length ≤ 70368744177664 := fun x hx => Nat.le_trans ((frames_facts bs.length bs (Nat.le_refl _)).2 x hx) (by decide)
theorem frs_step {l : List Bytes} {k : Nat} {x : Bytes} (h : l[k]? = some x) : frs (l.take k) ++ fr x = frs (l.take (k + 1)) := by
  rw [← frs_snoc, List.take_succ_eq_append_getElem (List.getElem?_eq_some_iff.1 h).1, (List.getElem?_eq_some_iff.1 h).2]
theorem frameB_fr {x : Bytes} (h : x.length ≤ 65536) : frameB x = fr x := by unfold frameB fr; rw [if_pos h]
theorem frameE_ok {x : Bytes} (h : x.length ≤ 65536) : frameE x = 0 := by unfold frameE; rw [if_pos h]
theorem fr_le {x : Bytes} (h : x.length ≤ 3000) : (fr x).length ≤ 3009 := by rw [fr_length]; have := encInt_length (x.length : Int); omega
theorem all_step {l : List Bytes} {k m : Nat} {x : Bytes} (h : ∀ b, b ∈ l.take k → b.length ≤ m) (hx : l[k]? = some x) (hm : x.length ≤ m) : ∀ b, b ∈ l.take (k + 1) → b.length ≤ m := fun b hb => by
  rw [List.take_succ_eq_append_getElem (List.getElem?_eq_some_iff.1 hx).1, (List.getElem?_eq_some_iff.1 hx).2] at hb
  rcases List.mem_append.1 hb with hb | hb
  · exact h b hb
  · rw [List.mem_singleton] at hb; subst hb; exact hm
/-- where frames end -/
def ends (l : List Bytes) (k : Nat) : List Int := (List.range k).map fun i => ((frs (l.take (i + 1))).length : Int)
theorem ends_nil (l : List Bytes) : ends l 0 = [] := rfl
theorem ends_len (l : List Bytes) (k : Nat) : (ends l k).length = k := by simp [ends]
theorem ends_get {l : List Bytes} {k n : Nat} {x : Int} (h : (ends l k)[n]? = some x) : x = ((frs (l.take (n + 1))).length : Int) := by
  unfold ends at h
  rw [List.getElem?_map, Option.map_eq_some_iff] at h
  obtain ⟨i, hi, rfl⟩ := h
  have hlt := (List.getElem?_eq_some_iff.1 hi).1
  rw [List.length_range] at hlt
  rw [List.getElem?_range hlt] at hi
  injection hi with hi; subst hi; rfl
theorem ends_snoc (l : List Bytes) (k : Nat) : ends l k ++ [((frs (l.take (k + 1))).length : Int)] = ends l (k + 1) := by
  unfold ends; rw [List.range_succ, List.map_append]; rfl
theorem whole_cut {l : List Bytes} {k n kk : Nat} (hk : l.length ≤ k) (hb : ∀ b, b ∈ l.take k → b.length ≤ 3000) (h20 : l.length ≤ 20) (hn : n ≤ l.length) (hc : (frs (l.take n)).length ≤ kk) (hs : n < l.length → kk < (frs (l.take (n + 1))).length) :
    (frames ((frs (l.take k)).take kk)).take (Int.toNat 99) = l.take n := by
  have h99 : Int.toNat 99 = 99 := rfl
  rw [List.take_of_length_le hk] at hb ⊢
  rw [frames_cut l n kk (fun b h => Nat.le_trans (hb b h) (by decide)) hn hc hs, List.take_of_length_le (by rw [h99, List.length_take]; omega)]
theorem whole_all {l : List Bytes} {k : Nat} (hk : l.length ≤ k) (hb : ∀ b, b ∈ l.take k → b.length ≤ 3000) (h20 : l.length ≤ 20) : (frames (frs (l.take k))).take (Int.toNat 99) = l := by
  have h99 : Int.toNat 99 = 99 := rfl
  rw [List.take_of_length_le hk] at hb ⊢
  rw [frames_frs l (fun b h => Nat.le_trans (hb b h) (by decide)), List.take_of_length_le (by omega)]
theorem take_min {α : Type} (l : List α) (m : Nat) : l.take m = l.take (min l.length m) := by
  by_cases h : m ≤ l.length
  · rw [Nat.min_eq_right h]
  · rw [Nat.min_eq_left (by omega), List.take_length, List.take_of_length_le (by omega)]
end Go.Codec
