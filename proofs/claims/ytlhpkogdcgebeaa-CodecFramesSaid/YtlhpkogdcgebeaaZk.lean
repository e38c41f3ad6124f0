/- A small logic over the model's walk, continued: arguments of a row, opened: what a reader treads reads as a datum. No program in sight. -/
import Derived.Test.YtlhpkogdcgebeaaZi
import Derived.OpenShut
import Derived.ShutString
import Derived.ChangeOld
import Derived.ChangeArms
import Derived.DataReads
namespace Go.Z
open Go.RowKit
/-- whatever is trodden as a T reads as a t -/
def OpenT (P : Program) (T : TypeId) (t : Ty) : Prop :=
  P.cellsOf T = t.size ∧ ∀ (H : Type) (enc : TypeId × Value → H) (w : World) (base : Nat) (spare : Nat → Bool) (held : Bool) (fuel : Nat) (cs : List Value) (x : DataW H × List MemPlace),
    DataW.trod enc P w base spare held fuel T cs = some x → ∃ y : t.den, t.rep w (nt []) cs y
section
variable {P : Program} {T e : TypeId}
theorem ot_int {k : IntKind} (hc : P.cellsOf T = 1) (ht : P.underlying T = some (.int k)) : OpenT P T (.int k) := ⟨hc, fun H enc w base spare held fuel cs x h => by
  obtain ⟨n, rfl, _, hw⟩ := DataW.trod_int ht h
  refine ⟨n, rfl, ?_⟩
  simp only [Lit.wf, Bool.and_eq_true, decide_eq_true_eq] at hw
  exact hw⟩
theorem ot_byte (hc : P.cellsOf T = 1) (ht : P.underlying T = some (.int .u8)) : OpenT P T .byte := ⟨hc, fun H enc w base spare held fuel cs x h => by
  obtain ⟨n, rfl, _, hw⟩ := DataW.trod_int ht h
  simp [Lit.wf, IntKind.min, IntKind.max, IntKind.signed, IntKind.bits] at hw
  exact ⟨UInt8.ofNat n.toNat, congrArg (fun z => [Value.int .u8 z]) (u8_of (by omega))⟩⟩
theorem ot_bool (hc : P.cellsOf T = 1) (ht : P.underlying T = some .bool) : OpenT P T .bool := ⟨hc, fun H enc w base spare held fuel cs x h => by
  obtain ⟨b, rfl, _⟩ := DataW.trod_bool ht h
  exact ⟨b, rfl⟩⟩
theorem ot_str (hc : P.cellsOf T = 1) (ht : P.underlying T = some .string) : OpenT P T .str := ⟨hc, fun H enc w base spare held fuel cs x h => by
  obtain ⟨s, rfl, _, hs⟩ := DataW.trod_string ht h
  exact ⟨s, rfl, hs⟩⟩

/-- parts of a struct or of an array, in a row -/
def OpenPs (P : Program) : List (TypeId × Nat) → Nat → Ty → Prop
  | [], _, _ => False
  | [(T, o')], o, t => o' = o ∧ OpenT P T t
  | (T, o') :: p :: ps, o, .pair a b => o' = o ∧ OpenT P T a ∧ OpenPs P (p :: ps) (o + a.size) b
  | _ :: _ :: _, _, _ => False
theorem open_ps {H : Type} {enc : TypeId × Value → H} {w : World} {base : Nat} {spare : Nat → Bool} {held : Bool} {fuel : Nat} {cs : List Value} :
    ∀ (ps : List (TypeId × Nat)) (o : Nat) (t : Ty), OpenPs P ps o t → (∀ p ∈ ps, ∃ x, DataW.trod enc P w base spare held fuel p.1 ((cs.drop p.2).take (P.cellsOf p.1)) = some x) → ∃ y : t.den, t.rep w (nt []) ((cs.drop o).take t.size) y
  | [], _, _, h, _ => h.elim
  | [(T, o')], o, t, h, hx => by
    obtain ⟨rfl, ⟨hc, ho⟩⟩ := h
    obtain ⟨x, hx⟩ := hx (T, o') (List.mem_singleton.2 rfl)
    rw [← hc]; exact ho _ _ _ _ _ _ _ _ _ hx
  | (T, o') :: p :: ps, o, .pair a b, h, hx => by
    obtain ⟨rfl, ⟨hc, ho⟩, hr⟩ := h
    obtain ⟨x, h1⟩ := hx (T, o') (List.mem_cons_self ..)
    obtain ⟨ya, hya⟩ := ho _ _ _ _ _ _ _ _ _ h1
    obtain ⟨yb, hyb⟩ := open_ps (p :: ps) _ b hr fun q hq => hx q (List.mem_cons_of_mem _ hq)
    refine ⟨(ya, yb), _, _, ?_, hya, hyb⟩
    show (cs.drop o').take (a.size + b.size) = _
    rw [hc, List.take_add, List.drop_drop]
  | _ :: _ :: _, _, .int _, h, _ => h.elim
  | _ :: _ :: _, _, .byte, h, _ => h.elim
  | _ :: _ :: _, _, .bool, h, _ => h.elim
  | _ :: _ :: _, _, .str, h, _ => h.elim
  | _ :: _ :: _, _, .slice _, h, _ => h.elim
theorem ot_struct {fs : List Field} {t : Ty} (hc : P.cellsOf T = t.size) (ht : P.underlying T = some (.struct fs.toArray)) (h : OpenPs P (fs.map fun f => (f.type, f.offset)) 0 t) : OpenT P T t := ⟨hc, fun H enc w base spare held fuel cs x hx => by
  obtain ⟨xs, n, _, _, hl, hs, hf⟩ := DataW.trod_struct ht hx
  have hcs : cs = (cs.drop 0).take t.size := by rw [List.drop_zero, List.take_of_length_le (by omega)]
  rw [hcs]
  refine open_ps (fuel := n) (enc := enc) (base := base) (spare := spare) (held := held) _ 0 t h fun p hp => ?_
  obtain ⟨f, hf1, rfl⟩ := List.mem_map.1 hp
  obtain ⟨i, hi, he⟩ := List.getElem_of_mem hf1
  have h1 := hf i f (by rw [List.getElem?_toArray, List.getElem?_eq_getElem hi, he])
  rw [h1, List.getElem?_eq_getElem (by rw [hs]; simpa using hi)]
  exact ⟨_, rfl⟩⟩
theorem ot_array {n c : Nat} {t : Ty} (hc : P.cellsOf T = t.size) (ht : P.underlying T = some (.array n e)) (he : P.cellsOf e = c) (h : OpenPs P ((List.range n).map fun i => (e, i * c)) 0 t) : OpenT P T t := ⟨hc, fun H enc w base spare held fuel cs x hx => by
  subst he
  obtain ⟨xs, m, _, _, hl, hs, hf⟩ := DataW.trod_array ht hx
  have hcs : cs = (cs.drop 0).take t.size := by rw [List.drop_zero, List.take_of_length_le (by omega)]
  rw [hcs]
  refine open_ps (fuel := m) (enc := enc) (base := base) (spare := spare) (held := held) _ 0 t h fun p hp => ?_
  obtain ⟨i, hi, rfl⟩ := List.mem_map.1 hp
  have hi' := List.mem_range.1 hi
  rw [hf i hi', List.getElem?_eq_getElem (by omega)]
  exact ⟨_, rfl⟩⟩

/-- rows of elements -/
theorem rows_of {t : Ty} {w : World} {g : Addr} : ∀ (n : Nat), (∀ i, i < n → ∃ (cs : List Value) (y : t.den), cs.length = t.size ∧ (∀ j u, cs[j]? = some u → w.cell? (g.add (i * t.size + j)) = some u) ∧ t.rep w (nt []) cs y) →
    ∃ (cells : List Value) (ys : List t.den), ys.length = n ∧ cells.length = n * t.size ∧ (∀ j u, cells[j]? = some u → w.cell? (g.add j) = some u) ∧ ∀ (i : Nat) (y : t.den), ys[i]? = some y → t.rep w (nt []) ((cells.drop (i * t.size)).take t.size) y
  | 0, _ => ⟨[], [], rfl, by simp, by simp, by simp⟩
  | n + 1, h => by
    obtain ⟨cells, ys, h1, h2, h3, h4⟩ := rows_of n fun i hi => h i (by omega)
    obtain ⟨cs, y, c1, c2, c3⟩ := h n (by omega)
    refine ⟨cells ++ cs, ys ++ [y], by simp [h1], by rw [List.length_append, h2, c1, Nat.succ_mul], fun j u hj => ?_, ?_⟩
    · by_cases hlt : j < cells.length
      · rw [List.getElem?_append_left hlt] at hj; exact h3 j u hj
      · rw [List.getElem?_append_right (by omega)] at hj
        have := c2 _ u hj
        rwa [h2, show n * t.size + (j - n * t.size) = j by omega] at this
    · refine rep_append (xs := ys) (ys := [y]) (by rw [h2, h1]) h4 fun i y' hi => ?_
      have : i = 0 := by have := (List.getElem?_eq_some_iff.1 hi).1; simp at this; omega
      subst this
      simp at hi; subst hi
      rw [Nat.zero_mul, List.drop_zero, List.take_of_length_le (by omega)]; exact c3
theorem ot_slice {t : Ty} (hc : P.cellsOf T = 1) (ht : P.underlying T = some (.slice e)) (h : OpenT P e t) : OpenT P T (.slice t) := ⟨hc, fun H enc w base spare held fuel cs x hx => by
  rcases DataW.trod_slice ht hx with ⟨rfl, _⟩ | ⟨ad, len, cap, elems, rest, n, _, rfl, _, hb, hl, hm, hlen, hel, _, _⟩
  · exact ⟨[], rep_nil _⟩
  · have each : ∀ i, i < len → ∃ (cs : List Value) (y : t.den), cs.length = t.size ∧ (∀ j u, cs[j]? = some u → w.cell? (ad.add (i * t.size + j)) = some u) ∧ t.rep w (nt []) cs y := fun i hi => by
      have h1 := hel i hi
      rw [List.getElem?_eq_getElem (by omega), Option.bind_eq_some_iff] at h1
      obtain ⟨cs', h2, h3⟩ := h1
      obtain ⟨_, h4, h5⟩ := World.cells?_some h2
      obtain ⟨y, hy⟩ := h.2 _ _ _ _ _ _ _ _ _ h3
      rw [h.1] at h4 h5
      refine ⟨cs', y, h4, fun j u hj => ?_, hy⟩
      have hlt := (List.getElem?_eq_some_iff.1 hj).1
      have := h5 j (by omega)
      rw [add_add] at this
      rw [this, hj]
    obtain ⟨cells, ys, h1, h2, h3, h4⟩ := rows_of len each
    by_cases hz : len = 0
    · subst hz
      have : ys = [] := List.eq_nil_of_length_eq_zero h1
      subst this
      exact ⟨[], some ad, cap, [], rfl, by simp, hm, by simp, .inl rfl, by simp⟩
    · have hp := pos_size t
      have hlt : 0 < cells.length := by rw [h2]; exact Nat.mul_pos (by omega) hp
      have h0 := h3 0 _ (List.getElem?_eq_getElem hlt)
      have hspot := World.cell?_spot h0
      obtain ⟨b, off, spot⟩ := ad
      simp only [Addr.add] at hspot
      subst hspot
      refine ⟨ys, some ⟨b, off, none⟩, cap, cells, by rw [h1], by omega, hm, by rw [h1]; exact h2, .inr ⟨b, off, rfl, by simp [nt], fun j u hj => ?_⟩, h4⟩
      have := h3 j u hj
      rwa [Addr.add_lit] at this⟩
end
end Go.Z
