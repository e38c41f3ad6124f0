/- A small logic over the model's walk, continued: equality of structs and arrays. No program in sight. -/
import Derived.Test.YtlhpkogdcgebeaaZh
import Derived.ChangeKeysEq
namespace Go.Z
open Go.RowKit
def EqV (P : Program) (d : Nat) (t : TypeId) (x y : Value) (b : Bool) : Prop := ∀ w, (Op.equalIn d t x y).run P w = .ok b w
def EqF (P : Program) (d : Nat) (xs ys : Array Value) (fs : List Field) (b : Bool) : Prop := ∀ w, (Op.eqFields d xs ys fs).run P w = .ok b w
def EqI (P : Program) (d : Nat) (e : TypeId) (c : Nat) (xs ys : Array Value) (is : List Nat) (b : Bool) : Prop := ∀ w, (Op.eqItems d e c xs ys is).run P w = .ok b w
section
variable {P : Program} {d : Nat} {t e : TypeId}
theorem eq_int {k k' : IntKind} {a b : Int} (h : P.underlying t = some (.int k')) : EqV P (d + 1) t (.int k a) (.int k b) (decide (a = b)) := fun w => by
  rw [run_equalIn_int w d t k k' a b h]; rfl
theorem eq_bool {a b : Bool} (h : P.underlying t = some .bool) : EqV P (d + 1) t (.bool a) (.bool b) (decide (a = b)) := fun w => by
  rw [run_equalIn_bool h]; cases a <;> cases b <;> rfl
theorem eq_str {a b : ByteArray} (h : P.underlying t = some .string) : EqV P (d + 1) t (.string a) (.string b) (decide (a = b)) := fun w => by
  rw [run_equalIn_string w d t a b h, str_eq]
theorem part_one {xs : Array Value} {o : Nat} {v : Value} (w : World) (hA : ∀ w, (isAgg t).run P w = .ok false w) (h : xs[o]? = some v) : (part t xs o).run P w = .ok v w := by simp [part, hA, h]
theorem part_agg {xs zs : Array Value} {o n : Nat} (w : World) (hA : ∀ w, (isAgg t).run P w = .ok true w) (hS : ∀ w, (sizeOf t).run P w = .ok n w) (h : xs.extract o (o + n) = zs) : (part t xs o).run P w = .ok (.agg zs) w := by simp [part, hA, hS, h]
theorem eqf_nil {xs ys : Array Value} : EqF P d xs ys [] true := fun w => by simp [Op.eqFields]
theorem eqf_cons {xs ys : Array Value} {f : Field} {fs : List Field} {a b : Value} {r r' : Bool} (hn : (f.name != "_") = true) (ha : ∀ w, (part f.type xs f.offset).run P w = .ok a w) (hb : ∀ w, (part f.type ys f.offset).run P w = .ok b w)
    (he : EqV P d f.type a b r) (h : EqF P d xs ys fs r') : EqF P d xs ys (f :: fs) (r && r') := fun w => by
  have hn' : f.name ≠ "_" := by simpa using hn
  have h1 := he w; have h2 := h w
  cases r <;> simp [Op.eqFields, hn', ha, hb, h1, h2]
theorem eqi_nil {xs ys : Array Value} {c : Nat} : EqI P d e c xs ys [] true := fun w => by simp [Op.eqItems]
theorem eqi_cons {xs ys : Array Value} {c i : Nat} {is : List Nat} {a b : Value} {r r' : Bool} (ha : ∀ w, (part e xs (i * c)).run P w = .ok a w) (hb : ∀ w, (part e ys (i * c)).run P w = .ok b w)
    (he : EqV P d e a b r) (h : EqI P d e c xs ys is r') : EqI P d e c xs ys (i :: is) (r && r') := fun w => by
  have h1 := he w; have h2 := h w
  cases r <;> simp [Op.eqItems, ha, hb, h1, h2]
theorem eq_struct {xs ys : Array Value} {fs : List Field} {r : Bool} (hu : P.underlying t = some (.struct fs.toArray)) (hs : P.stoodInHeld t = false) (h : EqF P d xs ys fs r) : EqV P (d + 1) t (.agg xs) (.agg ys) r := fun w => by
  have hf : P.fieldsOf t = fs.toArray := by simp [Program.fieldsOf, hu]
  rw [run_equalIn_struct w d t xs ys (by rw [hf]; exact hu) hs, hf]; exact h w
theorem eq_array {xs ys : Array Value} {n c : Nat} {i : TypeInfo} {is : List Nat} {r : Bool} (hu : P.underlying t = some (.array n e)) (hi : P.info? e = some i) (hc : P.cellsOf e = c) (his : List.range n = is) (h : EqI P d e c xs ys is r) : EqV P (d + 1) t (.agg xs) (.agg ys) r := fun w => by
  rw [run_equalIn_array w d xs ys hu hi, hc, his]; exact h w
theorem decide_pair {α β : Type} [DecidableEq α] [DecidableEq β] (x y : α × β) : decide (x = y) = (decide (x.1 = y.1) && decide (x.2 = y.2)) := by
  rw [← Bool.decide_and]; exact decide_eq_decide.2 Prod.ext_iff
section
variable {a : Act} {w : World} {dd : Option Tmp} {T ty : TypeId} {pos : String} {af : Array Edge} {gd : Option (Nat × Bool)} {x y : Operand}
theorem r_eqagg {xs ys : Array Value} {b : Bool} (h : EqV P 10000 t (.agg xs) (.agg ys) b) (hm : P.eqGuardType P.depth t = false) (hx : a.eval x = .agg xs) (hy : a.eval y = .agg ys) :
    (execOp a.eval ⟨dd, .binOp .eql t x y ty, T, pos, af, gd⟩).run P w = .ok (.value (.bool b)) w := by
  have h0 := h w
  have h1 := run_eqGuard_agg w .eql t x y xs ys hm
  have h2 := run_eql_struct (P := P) w t xs ys
  rw [h0] at h2
  simp [execOp, hx, hy, h1, h2]
theorem r_neagg {xs ys : Array Value} {p : Prop} [Decidable p] (h : EqV P 10000 t (.agg xs) (.agg ys) (decide p)) (hm : P.eqGuardType P.depth t = false) (hx : a.eval x = .agg xs) (hy : a.eval y = .agg ys) :
    (execOp a.eval ⟨dd, .binOp .neq t x y ty, T, pos, af, gd⟩).run P w = .ok (.value (.bool (decide (¬ p)))) w := by
  have h0 := h w
  have h1 := run_eqGuard_agg w .neq t x y xs ys hm
  have h2 := run_neq_struct (P := P) w t xs ys
  rw [h0] at h2
  simp [execOp, hx, hy, h1, h2]
theorem r_nes' {s u : ByteArray} (hx : a.eval x = .string s) (hy : a.eval y = .string u) : (execOp a.eval ⟨dd, .binOp .neq t x y ty, T, pos, af, gd⟩).run P w = .ok (.value (.bool (decide (s ≠ u)))) w := by
  rw [r_nes hx hy]; simp
theorem r_neb' {b c : Bool} (ht : P.underlying t = some .bool) (hx : a.eval x = .bool b) (hy : a.eval y = .bool c) : (execOp a.eval ⟨dd, .binOp .neq t x y ty, T, pos, af, gd⟩).run P w = .ok (.value (.bool (decide (b ≠ c)))) w := by
  rw [r_neb ht hx hy]; cases b <;> cases c <;> rfl
end
end
end Go.Z
