/- Plain law of the bytes of messages, continued: what is small enough to be written, and how long its bytes are (no program in sight). -/
import Derived.Test.YtlhpkogdcgebeaaEnc
namespace Go.Codec
theorem fm_take {α β : Type} (f : α → List β) {xs : List α} {k : Nat} {x : α} (h : xs[k]? = some x) : (xs.take (k + 1)).flatMap f = (xs.take k).flatMap f ++ f x := by
  rw [List.take_succ_eq_append_getElem (List.getElem?_eq_some_iff.1 h).1, List.flatMap_append, (List.getElem?_eq_some_iff.1 h).2]; simp
theorem fm_le {α β : Type} (f : α → List β) (xs : List α) (k : Nat) : ((xs.take k).flatMap f).length ≤ (xs.flatMap f).length := by
  have h2 : xs.flatMap f = (xs.take k).flatMap f ++ (xs.drop k).flatMap f := by rw [← List.flatMap_append, List.take_append_drop]
  rw [h2, List.length_append]; omega
theorem fm_all {α β : Type} (f : α → List β) {xs : List α} {k : Nat} (h : xs.length ≤ k) : (xs.take k).flatMap f = xs.flatMap f := by rw [List.take_of_length_le h]
theorem fm_len {α β : Type} (f : α → List β) (m : Nat) : ∀ xs : List α, (∀ x ∈ xs, (f x).length ≤ m) → (xs.flatMap f).length ≤ m * xs.length
  | [], _ => by simp
  | x :: xs, h => by
    have h1 := h x (List.mem_cons_self ..)
    have h2 := fm_len f m xs fun y hy => h y (List.mem_cons_of_mem _ hy)
    rw [List.flatMap_cons, List.length_append, List.length_cons, Nat.mul_succ]; omega
theorem ints_len (xs : List Int) : (xs.flatMap encInt).length ≤ 9 * xs.length := fm_len _ _ xs fun x _ => (encInt_length x).2
theorem ints_step {xs : List Int} {k : Nat} {x : Int} (h : xs[k]? = some x) :
    (xs.take (k + 1)).flatMap encInt = (xs.take k).flatMap encInt ++ encInt x ∧ ((xs.take k).flatMap encInt).length ≤ 9 * k ∧ (encInt x).length ≤ 9 := by
  refine ⟨fm_take _ h, Nat.le_trans (ints_len _) ?_, (encInt_length x).2⟩
  have hk := (List.getElem?_eq_some_iff.1 h).1
  rw [List.length_take]; omega
/-- the bytes of elements before, of the one at hand, and of all -/
theorem fm_step {α : Type} (f : α → Bytes) {xs : List α} {k : Nat} {x : α} (h : xs[k]? = some x) :
    (xs.take (k + 1)).flatMap f = (xs.take k).flatMap f ++ f x ∧ ((xs.take k).flatMap f).length + (f x).length ≤ (xs.flatMap f).length := by
  refine ⟨fm_take _ h, ?_⟩
  have := fm_le f xs (k + 1)
  rw [fm_take _ h, List.length_append] at this; exact this
theorem get_mem {α : Type} {xs : List α} {k : Nat} {x : α} (h : xs[k]? = some x) : x ∈ xs := by
  rw [← (List.getElem?_eq_some_iff.1 h).2]; exact List.getElem_mem _

/-! ### small enough to be written -/
def top : Nat := 65536
def gText (s : ByteArray) : Prop := s.size ≤ 65536
def gFn (f : Fn) : Prop := gText f.2.2
def gNode (n : Node) : Prop := n.2.2.1.length ≤ 65536 ∧ gFn n.2.2.2.1 ∧ gText n.2.2.2.2.1
def gMove (m : Move) : Prop := gFn m.2.2.2.2
def gList {α : Type} (g : α → Prop) (l : List α) : Prop := l.length ≤ 65536 ∧ ∀ a ∈ l, g a
def gDelta (d : Delta) : Prop := d.1.length ≤ 65536 ∧ gList gNode d.2.1 ∧ gList gMove d.2.2
def gRec (r : Rec) : Prop := gText r.2
def gEntry (x : Entry) : Prop := gText x.2.2.1
def gMsg (m : Msg) : Prop := gList gRec m.2.2.2.2.1 ∧ m.2.2.2.2.2.1.length ≤ 65536 ∧ gDelta m.2.2.2.2.2.2.1 ∧ gList gEntry m.2.2.2.2.2.2.2.2.1
end Go.Codec
