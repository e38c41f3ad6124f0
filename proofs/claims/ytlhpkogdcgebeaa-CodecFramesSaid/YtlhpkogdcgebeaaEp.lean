/- Plain law of the bytes of messages, continued: equality piece by piece; messages that are small (no program in sight). -/
import Derived.Test.YtlhpkogdcgebeaaEo
set_option synthInstance.maxSize 4000
set_option synthInstance.maxHeartbeats 400000
namespace Go.Codec
instance decTail : DecidableEq (List Entry × Bool × Int) := inferInstance
instance decDelta : DecidableEq Delta := inferInstance
instance decRest : DecidableEq (List Change × Delta × Int × List Entry × Bool × Int) := inferInstance
instance decMsg : DecidableEq Msg := inferInstance
theorem take_step {α : Type} {xs ys : List α} {k : Nat} {a b : α} (h : xs.take k = ys.take k) (ha : xs[k]? = some a) (hb : ys[k]? = some b) (hab : ¬ a ≠ b) : xs.take (k + 1) = ys.take (k + 1) := by
  have hab : a = b := Classical.byContradiction hab
  rw [List.take_succ_eq_append_getElem (List.getElem?_eq_some_iff.1 ha).1, List.take_succ_eq_append_getElem (List.getElem?_eq_some_iff.1 hb).1, h, (List.getElem?_eq_some_iff.1 ha).2, (List.getElem?_eq_some_iff.1 hb).2, hab]
theorem take_end {α : Type} {xs ys : List α} {k : Nat} (hl : ¬ (xs.length : Int) ≠ (ys.length : Int)) (h : xs.take k = ys.take k) (hk : ¬ (k : Int) < (xs.length : Int)) : xs = ys := by
  rw [List.take_of_length_le (by omega), List.take_of_length_le (by omega)] at h; exact h
theorem take_ne {α : Type} {xs ys : List α} {k : Nat} {a b : α} (ha : xs[k]? = some a) (hb : ys[k]? = some b) (hab : a ≠ b) : xs ≠ ys := fun h => by
  rw [h, hb] at ha; injection ha with ha; exact hab ha.symm
theorem same_true {p : Prop} [Decidable p] (h : p) : true = decide p := (decide_eq_true h).symm
theorem same_false {p : Prop} [Decidable p] (h : ¬ p) : false = decide p := (decide_eq_false h).symm
theorem not_ne {α : Type} {a b : α} (h : ¬ a ≠ b) : a = b := Classical.byContradiction h
theorem node_ext {x y : Node} (h1 : x.1 = y.1) (h2 : x.2.1 = y.2.1) (h4 : x.2.2.2.1 = y.2.2.2.1) (h5 : x.2.2.2.2.1 = y.2.2.2.2.1) (h6 : x.2.2.2.2.2.1 = y.2.2.2.2.2.1) (h7 : x.2.2.2.2.2.2 = y.2.2.2.2.2.2) (h3 : x.2.2.1 = y.2.2.1) : x = y := by
  obtain ⟨a, b, c, d, e, f, g⟩ := x; obtain ⟨a', b', c', d', e', f', g'⟩ := y; simp_all
theorem delta_ext {x y : Delta} (h2 : x.2.1 = y.2.1) (h3 : x.2.2 = y.2.2) (h1 : x.1 = y.1) : x = y := by
  obtain ⟨a, b, c⟩ := x; obtain ⟨a', b', c'⟩ := y; simp_all
theorem msg_iff {x y : Msg} (h1 : x.1 = y.1) (h2 : x.2.1 = y.2.1) (h3 : x.2.2.1 = y.2.2.1) (h4 : x.2.2.2.1 = y.2.2.2.1) (h8 : x.2.2.2.2.2.2.2.1 = y.2.2.2.2.2.2.2.1) (h10 : x.2.2.2.2.2.2.2.2.2.1 = y.2.2.2.2.2.2.2.2.2.1) (h11 : x.2.2.2.2.2.2.2.2.2.2 = y.2.2.2.2.2.2.2.2.2.2)
    (h6 : x.2.2.2.2.2.1 = y.2.2.2.2.2.1) (h5 : x.2.2.2.2.1 = y.2.2.2.2.1) (h7 : x.2.2.2.2.2.2.1 = y.2.2.2.2.2.2.1) : decide (x.2.2.2.2.2.2.2.2.1 = y.2.2.2.2.2.2.2.2.1) = decide (x = y) := by
  apply decide_eq_decide.2
  constructor
  · intro h9
    obtain ⟨a1, a2, a3, a4, a5, a6, a7, a8, a9, a10, a11⟩ := x; obtain ⟨b1, b2, b3, b4, b5, b6, b7, b8, b9, b10, b11⟩ := y
    simp only at h1 h2 h3 h4 h5 h6 h7 h8 h9 h10 h11
    subst h1 h2 h3 h4 h5 h6 h7 h8 h9 h10 h11
    rfl
  · intro h; rw [h]

/-! ### small messages -/
theorem text_len (s : ByteArray) : (encText s).length ≤ 9 + s.size := by
  have := (encInt_length (s.size : Int)).2
  have h2 : s.data.toList.length = s.size := rfl
  unfold encText; rw [List.length_append, h2]; omega
theorem list_len {α : Type} (f : α → Bytes) (m : Nat) (xs : List α) (h : ∀ x ∈ xs, (f x).length ≤ m) : (encList f xs).length ≤ 9 + m * xs.length := by
  have := (encInt_length (xs.length : Int)).2
  have := fm_len f m xs h
  unfold encList; rw [List.length_append]; omega
def sNode (n : Node) : Prop := n.2.2.1.length ≤ 5000 ∧ n.2.2.2.1.2.2.size ≤ 5000 ∧ n.2.2.2.2.1.size ≤ 5000
/-- what the law's test for small messages grants -/
def sMsg (x : Msg) : Prop :=
  (x.2.2.2.2.1.length ≤ 200 ∧ ∀ a ∈ x.2.2.2.2.1, a.2.size ≤ 9000) ∧ x.2.2.2.2.2.1.length ≤ 200 ∧ (x.2.2.2.2.2.2.2.2.1.length ≤ 200 ∧ ∀ a ∈ x.2.2.2.2.2.2.2.2.1, a.2.2.1.size ≤ 9000) ∧
  (x.2.2.2.2.2.2.1.2.2.length ≤ 200 ∧ ∀ a ∈ x.2.2.2.2.2.2.1.2.2, a.2.2.2.2.2.2.size ≤ 9000) ∧ x.2.2.2.2.2.2.1.1.length ≤ 200 ∧ x.2.2.2.2.2.2.1.2.1.length ≤ 40 ∧ ∀ a ∈ x.2.2.2.2.2.2.1.2.1, sNode a
theorem fn_len (f : Fn) : (encFn f).length ≤ 27 + f.2.2.size := by
  have h1 := (encInt_length f.1).2; have h2 := (encInt_length f.2.1).2; have h3 := text_len f.2.2
  unfold encFn; simp only [List.length_append]; omega
theorem node_len (n : Node) (h : sNode n) : (encNode n).length ≤ 60000 := by
  obtain ⟨h1, h2, h3⟩ := h
  have e1 := (encInt_length n.1).2; have e2 := (encInt_length n.2.1).2; have e3 := (encInt_length n.2.2.2.2.2.1).2; have e4 := (encInt_length n.2.2.2.2.2.2).2
  have e5 := list_len encInt 9 n.2.2.1 fun x _ => (encInt_length x).2
  have e6 := fn_len n.2.2.2.1; have e7 := text_len n.2.2.2.2.1
  unfold encNode; simp only [List.length_append]; omega
theorem change_len (c : Change) : (encChange c).length ≤ 90 := by
  have e1 := (encInt_length c.1.1).2; have e2 := (encInt_length c.1.2).2; have e3 := (encInt_length c.2.1.1).2; have e4 := (encInt_length c.2.1.2.1).2
  have e5 := (encInt_length c.2.1.2.2.1).2; have e6 := (encInt_length c.2.1.2.2.2.1).2; have e7 := (encInt_length c.2.1.2.2.2.2.1).2; have e8 := (encInt_length c.2.1.2.2.2.2.2).2; have e9 := (encInt_length c.2.2).2
  unfold encChange encPlace encTime encLim; simp only [List.length_append]; omega
theorem sMsg_g {x : Msg} (h : sMsg x) : gMsg x ∧ (encMsg x).length ≤ 70368744177664 := by
  obtain ⟨⟨r1, r2⟩, c1, ⟨n1, n2⟩, ⟨m1, m2⟩, g1, d1, d2⟩ := h
  refine ⟨⟨⟨by omega, fun a ha => ?_⟩, by omega, ⟨by omega, ⟨by omega, fun a ha => ?_⟩, by omega, fun a ha => ?_⟩, by omega, fun a ha => ?_⟩, ?_⟩
  · have := r2 a ha; unfold gRec gText; omega
  · obtain ⟨p1, p2, p3⟩ := d2 a ha; exact ⟨by omega, by unfold gFn gText; omega, by unfold gText; omega⟩
  · have := m2 a ha; unfold gMove gFn gText; omega
  · have := n2 a ha; unfold gEntry gText; omega
  · have e1 := (encInt_length x.1).2; have e2 := (encInt_length x.2.1).2
    have e3 := (encInt_length x.2.2.1.1).2; have e4 := (encInt_length x.2.2.1.2).2
    have e5 := (encInt_length x.2.2.2.1.1).2; have e6 := (encInt_length x.2.2.2.1.2.1).2; have e7 := (encInt_length x.2.2.2.1.2.2.1).2; have e8 := (encInt_length x.2.2.2.1.2.2.2.1).2
    have e9 := (encInt_length x.2.2.2.1.2.2.2.2.1).2; have e10 := (encInt_length x.2.2.2.1.2.2.2.2.2).2
    have l1 := list_len encRec 10000 x.2.2.2.2.1 fun a ha => by
      have := r2 a ha; have := text_len a.2; have := (encInt_length a.1).2; unfold encRec; rw [List.length_append]; omega
    have l2 := list_len encChange 90 x.2.2.2.2.2.1 fun a _ => change_len a
    have l3 := list_len encInt 9 x.2.2.2.2.2.2.1.1 fun a _ => (encInt_length a).2
    have l4 := list_len encNode 60000 x.2.2.2.2.2.2.1.2.1 fun a ha => node_len a (d2 a ha)
    have l5 := list_len encMove 10000 x.2.2.2.2.2.2.1.2.2 fun a ha => by
      have := m2 a ha; have := fn_len a.2.2.2.2; have := (encInt_length a.1).2; have := (encInt_length a.2.1).2; have := (encInt_length a.2.2.1).2; have := (encInt_length a.2.2.2.1).2
      unfold encMove; simp only [List.length_append]; omega
    have l6 := list_len encEntry 10000 x.2.2.2.2.2.2.2.2.1 fun a ha => by
      have := n2 a ha; have := text_len a.2.2.1; have := (encInt_length a.1).2; have := (encInt_length a.2.1).2; have := (encInt_length a.2.2.2).2
      unfold encEntry; simp only [List.length_append]; omega
    have e11 := (encInt_length x.2.2.2.2.2.2.2.1).2; have e12 := (encInt_length (b01 x.2.2.2.2.2.2.2.2.2.1)).2; have e13 := (encInt_length x.2.2.2.2.2.2.2.2.2.2).2
    unfold encMsg encPlace encTime encLim encDelta; simp only [List.length_append]; omega

/-! ### frames -/
def frameB (xs : Bytes) : Bytes := if xs.length ≤ 65536 then encInt xs.length ++ xs else []
def frameE (xs : Bytes) : Int := if xs.length ≤ 65536 then 0 else 3
/-- the bound on texts that a loop has seen; c: the loop's sum at its end -/
def seen {α : Type} (f : α → Nat) (xs : List α) (u : Int) : Prop := u < 1048576 → ∀ a ∈ xs, (f a : Int) ≤ u
theorem seen_nil {α : Type} (f : α → Nat) (u : Int) : seen f [] u := fun _ a h => by simp at h
theorem seen_step {α : Type} {f : α → Nat} {xs : List α} {k : Nat} {a : α} {u v : Int} (h : seen f (xs.take k) u) (ha : xs[k]? = some a) (h0 : 0 ≤ u) (hv : min (u + min (f a : Int) 1048576) 1048576 ≤ v) : seen f (xs.take (k + 1)) v := fun hlt b hb => by
  rw [List.take_succ_eq_append_getElem (List.getElem?_eq_some_iff.1 ha).1, (List.getElem?_eq_some_iff.1 ha).2] at hb
  rcases List.mem_append.1 hb with hb | hb
  · have := h (by omega) b hb; omega
  · simp only [List.mem_singleton] at hb; subst hb; omega
theorem seen_mono {α : Type} {f : α → Nat} {xs : List α} {u v : Int} (h : seen f xs u) (huv : u ≤ v) : seen f xs v := fun hlt b hb => by
  have := h (by omega) b hb; omega
theorem seen_all {α : Type} {f : α → Nat} {xs : List α} {k n : Nat} {u : Int} {m : Nat} (h : seen f ((xs.take n).take k) u) (hk : ¬ (k : Int) < ((xs.take n).length : Int)) (hn : xs.length ≤ n) (hu : u ≤ m) (hm : m < 1048576) : ∀ a ∈ xs, f a ≤ m := fun a ha => by
  rw [List.take_of_length_le hn] at hk h
  rw [List.take_of_length_le (by omega)] at h
  have := h (by omega) a ha; omega

/-! ### the law itself -/
theorem apart_eq {x y : Msg} (hx : okMsg x) (hy : okMsg y) (h : encMsg x = encMsg y) : x = y := (pf_apart pf_msg hx hy [] (by rw [List.append_nil]; exact h)).1
theorem apart_pre {x y : Msg} (hx : okMsg x) (hy : okMsg y) (h : encMsg y <+: encMsg x) : encMsg x = encMsg y := by
  obtain ⟨r, hr⟩ := h
  rw [(pf_apart pf_msg hy hx r hr).1]
theorem apart_dec {x y : Msg} (hx : okMsg x) (hy : okMsg y) : (decide (x = y) == decide (encMsg x = encMsg y)) = true := by
  by_cases h : x = y
  · subst h; simp
  · rw [decide_eq_false h, decide_eq_false fun e => h (apart_eq hx hy e)]; rfl
end Go.Codec
