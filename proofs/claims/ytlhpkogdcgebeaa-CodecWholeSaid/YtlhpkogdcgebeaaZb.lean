/- A small logic over the model's walk, continued: what a world's change leaves, blocks known whole, and what each operation gives. No program in sight. -/
import Derived.Test.YtlhpkogdcgebeaaZa
import Derived.Maps.AppendAt
import Derived.Deep.Draws
import Derived.IntWalk
import Derived.Laws.Rows
import Derived.Laws.Strings
import Derived.Laws.StructEq
namespace Go.Z
open Go.RowKit

/-! ### worlds -/
/-- of the blocks that stood only those of S may have changed -/
structure Ch (S : List Nat) (w w' : World) : Prop where
  os : w'.os = w.os
  tape : w'.tape = w.tape
  output : w'.output = w.output
  size : w.heap.size ≤ w'.heap.size
  block : ∀ k, k < w.heap.size → k ∉ S → w'.heap[k]? = w.heap[k]?

theorem Ch.refl (w : World) : Ch [] w w := ⟨rfl, rfl, rfl, Nat.le_refl _, fun _ _ _ => rfl⟩
theorem Ch.refl' (S : List Nat) (w : World) : Ch S w w := ⟨rfl, rfl, rfl, Nat.le_refl _, fun _ _ _ => rfl⟩
theorem Ch.mono {S S' : List Nat} {a b : World} (h : Ch S a b) (hs : ∀ k, k ∈ S → k ∈ S' ∨ a.heap.size ≤ k) : Ch S' a b :=
  ⟨h.os, h.tape, h.output, h.size, fun k hk hn => h.block k hk (fun hm => by rcases hs k hm with h1 | h1; exact hn h1; omega)⟩
theorem Ch.then {S T U : List Nat} {a b c : World} (h : Ch S a b) (k : Ch T b c) (hS : ∀ i, i ∈ S → i ∈ U ∨ a.heap.size ≤ i := by simp) (hT : ∀ i, i ∈ T → i ∈ U ∨ a.heap.size ≤ i := by simp) : Ch U a c :=
  ⟨k.os.trans h.os, k.tape.trans h.tape, k.output.trans h.output, Nat.le_trans h.size k.size, fun i hi hn => by
    have h1 := h.size
    refine (k.block i (by omega) (fun hm => ?_)).trans (h.block i hi (fun hm => ?_))
    · rcases hT i hm with h2 | h2
      · exact hn h2
      · omega
    · rcases hS i hm with h2 | h2
      · exact hn h2
      · omega⟩
theorem Ch.trans {S T : List Nat} {a b c : World} (h : Ch S a b) (k : Ch T b c) : Ch (S ++ T) a c :=
  h.then k (fun _ hi => .inl (List.mem_append_left _ hi)) (fun _ hi => .inl (List.mem_append_right _ hi))
/-- a further step that changes nothing of what stood -/
theorem Ch.step {S : List Nat} {a b c : World} (h : Ch S a b) (k : Ch [] b c) : Ch S a c := h.then k (fun _ hi => .inl hi) (fun _ hi => by cases hi)
/-- a further step that changes a block that is new, or may change -/
theorem Ch.step1 {S : List Nat} {g : Nat} {a b c : World} (h : Ch S a b) (k : Ch [g] b c) (hg : g ∈ S ∨ a.heap.size ≤ g) : Ch S a c :=
  h.then k (fun _ hi => .inl hi) (fun i hi => by simp only [List.mem_singleton] at hi; subst hi; exact hg)
theorem Ch.of_grown {w w' : World} {row : Option Nat} (h : w.grownBy w' row) : Ch row.toList w w' :=
  ⟨h.os, h.tape, h.output, h.size, fun k hk hn => h.block k hk (fun e => hn (by rw [← e]; simp))⟩
theorem Ch.below {w w' : World} (h : Ch [] w w') : Below w.heap.size w w' := ⟨h.os, h.tape, h.output, h.size, fun k hk => h.block k hk (by simp)⟩
theorem Ch.of_below {w w' : World} (h : Below w.heap.size w w') : Ch [] w w' := ⟨h.os, h.tape, h.output, h.size, fun k hk _ => h.block k hk⟩
theorem Ch.drew (w : World) : Ch [] w w.drew := ⟨rfl, rfl, rfl, Nat.le_refl _, fun _ _ _ => rfl⟩
theorem Ch.alloc (w : World) (o : Obj) : Ch [] w (w.alloc o) := ⟨rfl, rfl, rfl, by simp, fun k hk _ => Below.heap_alloc w o k hk⟩
theorem Ch.setRow (w : World) (g : Nat) (cs : Array Value) : Ch [g] w (w.setRow g cs) :=
  ⟨rfl, rfl, rfl, by simp [World.setRow], fun k _ hn => setRow_other w g k cs (by simpa using hn)⟩
theorem Ch.cell {S : List Nat} {w w' : World} (h : Ch S w w') {p : Addr} (hp : p.block < w.heap.size) (hn : p.block ∉ S) : w'.cell? p = w.cell? p := World.cell?_of_block (h.block _ hp hn)

/-- a block that is known whole -/
def Blk (w : World) (g : Nat) (t : TypeId) (cs : List Value) : Prop := w.heap[g]? = some (.cells cs.toArray t (0, 0))

section
variable {w w' : World} {g : Nat} {t : TypeId} {cs : List Value}
theorem Blk.lt (h : Blk w g t cs) : g < w.heap.size := by
  rcases Nat.lt_or_ge g w.heap.size with hlt | hge
  · exact hlt
  · unfold Blk at h; rw [Array.getElem?_eq_none hge] at h; cases h
theorem Blk.cell (h : Blk w g t cs) (i : Nat) : w.cell? ⟨g, i, none⟩ = cs[i]? := by rw [cell_of_row w g i cs.toArray t (0, 0) h]; simp
theorem Blk.new (w : World) (t : TypeId) (cs : List Value) : Blk (w.alloc (.cells cs.toArray t)) w.heap.size t cs := heap_alloc_new w _
theorem Blk.ch {S : List Nat} (h : Blk w g t cs) (hc : Ch S w w') (hn : g ∉ S) : Blk w' g t cs := (hc.block g h.lt hn).trans h
theorem Blk.ch0 (h : Blk w g t cs) (hc : Ch [] w w') : Blk w' g t cs := h.ch hc (by simp)
theorem Blk.ne {g' : Nat} {t' : TypeId} {cs' : List Value} (h : Blk w g t cs) (h' : Blk w g' t' cs') (hne : t ≠ t') : g ≠ g' := by
  rintro rfl
  unfold Blk at h h'
  rw [h] at h'
  injection h' with h'
  injection h' with _ ht
  exact hne ht
end

/-! ### what operations give -/
section
variable {P : Program} {a : Act} {w : World} {d : Option Tmp} {T : TypeId} {pos : String} {af : Array Edge} {gd : Option (Nat × Bool)}

theorem r_move {x : Operand} {v : Value} (hx : a.eval x = v) : (execOp a.eval ⟨d, .move x, T, pos, af, gd⟩).run P w = .ok (.value v) w := by
  simp [execOp, hx]
theorem r_assign {x : Operand} {v : Value} (hx : a.eval x = v) : (execOp a.eval ⟨d, .assign x, T, pos, af, gd⟩).run P w = .ok (.value v) w := by
  simp [execOp, hx]
theorem r_pick {c x y : Operand} {b : Bool} {u v : Value} (hc : a.eval c = .bool b) (hx : a.eval x = u) (hy : a.eval y = v) :
    (execOp a.eval ⟨d, .pick c x y, T, pos, af, gd⟩).run P w = .ok (.value (if b then u else v)) w := by
  simp [execOp, hc, hx, hy, asBool]
theorem r_pick_t {c x y : Operand} {u : Value} (hc : a.eval c = .bool true) (hx : a.eval x = u) :
    (execOp a.eval ⟨d, .pick c x y, T, pos, af, gd⟩).run P w = .ok (.value u) w := by
  simp [execOp, hc, hx, asBool]
theorem r_pick_f {c x y : Operand} {v : Value} (hc : a.eval c = .bool false) (hy : a.eval y = v) :
    (execOp a.eval ⟨d, .pick c x y, T, pos, af, gd⟩).run P w = .ok (.value v) w := by
  simp [execOp, hc, hy, asBool]
theorem r_not {t : TypeId} {x : Operand} {b : Bool} (hx : a.eval x = .bool b) : (execOp a.eval ⟨d, .unOp .not t x, T, pos, af, gd⟩).run P w = .ok (.value (.bool (!b))) w := by
  simp [execOp, hx, Op.unary]
theorem r_extract {x : Operand} {vs : Array Value} {i : Nat} {v : Value} (hx : a.eval x = .tuple vs) (hv : vs[i]? = some v) : (execOp a.eval ⟨d, .extract x i, T, pos, af, gd⟩).run P w = .ok (.value v) w := by
  simp [execOp, hx, Instr.extract, hv]
theorem r_nilCheck {x : Operand} {ad : Addr} (hx : a.eval x = .pointer (some ad)) : (execOp a.eval ⟨d, .nilCheck x, T, pos, af, gd⟩).run P w = .ok (.value (.pointer (some ad))) w := by
  simp [execOp, hx]
theorem r_makeFunc {fn : Fn} {first captured : Array Operand} {vs us : Array Value} (h1 : first.map a.eval = vs) (h2 : captured.map a.eval = us) :
    (execOp a.eval ⟨d, .makeFunc fn first captured, T, pos, af, gd⟩).run P w = .ok (.value (.func fn vs us)) w := by
  simp [execOp, Instr.makeFunc, h1, h2]

section ints
variable {t ty : TypeId} {x y : Operand} {k : IntKind} {m n : Int}
theorem r_add (hx : a.eval x = .int k m) (hy : a.eval y = .int k n) : (execOp a.eval ⟨d, .binOp .add t x y ty, T, pos, af, gd⟩).run P w = .ok (.value (.int k (k.wrap (m + n)))) w := by
  simp [execOp, hx, hy, binOp_add, eqGuard_add, Op.intArith]
theorem r_sub (hx : a.eval x = .int k m) (hy : a.eval y = .int k n) : (execOp a.eval ⟨d, .binOp .sub t x y ty, T, pos, af, gd⟩).run P w = .ok (.value (.int k (k.wrap (m - n)))) w := by
  simp [execOp, hx, hy, binOp_sub, eqGuard_sub, Op.intArith]
theorem r_mul (hx : a.eval x = .int k m) (hy : a.eval y = .int k n) : (execOp a.eval ⟨d, .binOp .mul t x y ty, T, pos, af, gd⟩).run P w = .ok (.value (.int k (k.wrap (m * n)))) w := by
  simp [execOp, hx, hy, binOp_mul, eqGuard_mul, Op.intArith]
theorem r_quo (hx : a.eval x = .int k m) (hy : a.eval y = .int k n) (h0 : n ≠ 0) : (execOp a.eval ⟨d, .binOp .quo t x y ty, T, pos, af, gd⟩).run P w = .ok (.value (.int k (k.wrap (m.tdiv n)))) w := by
  simp [execOp, hx, hy, binOp_quo, eqGuard_quo, Op.intDiv, h0]
theorem r_rem (hx : a.eval x = .int k m) (hy : a.eval y = .int k n) (h0 : n ≠ 0) : (execOp a.eval ⟨d, .binOp .rem t x y ty, T, pos, af, gd⟩).run P w = .ok (.value (.int k (m.tmod n))) w := by
  simp [execOp, hx, hy, binOp_rem, eqGuard_rem, Op.intDiv, h0]
theorem r_add64 (hx : a.eval x = .int .i64 m) (hy : a.eval y = .int .i64 n) (hb : -9223372036854775808 ≤ m + n ∧ m + n ≤ 9223372036854775807) : (execOp a.eval ⟨d, .binOp .add t x y ty, T, pos, af, gd⟩).run P w = .ok (.value (.int .i64 (m + n))) w := by
  rw [r_add hx hy, IntWalk.i64_in _ hb]
theorem r_sub64 (hx : a.eval x = .int .i64 m) (hy : a.eval y = .int .i64 n) (hb : -9223372036854775808 ≤ m - n ∧ m - n ≤ 9223372036854775807) : (execOp a.eval ⟨d, .binOp .sub t x y ty, T, pos, af, gd⟩).run P w = .ok (.value (.int .i64 (m - n))) w := by
  rw [r_sub hx hy, IntWalk.i64_in _ hb]
theorem r_mul64 (hx : a.eval x = .int .i64 m) (hy : a.eval y = .int .i64 n) (hb : -9223372036854775808 ≤ m * n ∧ m * n ≤ 9223372036854775807) : (execOp a.eval ⟨d, .binOp .mul t x y ty, T, pos, af, gd⟩).run P w = .ok (.value (.int .i64 (m * n))) w := by
  rw [r_mul hx hy, IntWalk.i64_in _ hb]
theorem r_lss (hx : a.eval x = .int k m) (hy : a.eval y = .int k n) : (execOp a.eval ⟨d, .binOp .lss t x y ty, T, pos, af, gd⟩).run P w = .ok (.value (.bool (decide (m < n)))) w := by
  simp [execOp, hx, hy, binOp_lss, eqGuard_lss]
theorem r_leq (hx : a.eval x = .int k m) (hy : a.eval y = .int k n) : (execOp a.eval ⟨d, .binOp .leq t x y ty, T, pos, af, gd⟩).run P w = .ok (.value (.bool (decide (m ≤ n)))) w := by
  simp [execOp, hx, hy, binOp_leq, eqGuard_leq]
theorem r_gtr (hx : a.eval x = .int k m) (hy : a.eval y = .int k n) : (execOp a.eval ⟨d, .binOp .gtr t x y ty, T, pos, af, gd⟩).run P w = .ok (.value (.bool (decide (n < m)))) w := by
  simp [execOp, hx, hy, binOp_gtr, eqGuard_gtr]
theorem r_geq (hx : a.eval x = .int k m) (hy : a.eval y = .int k n) : (execOp a.eval ⟨d, .binOp .geq t x y ty, T, pos, af, gd⟩).run P w = .ok (.value (.bool (decide (n ≤ m)))) w := by
  simp [execOp, hx, hy, binOp_geq, eqGuard_geq]
theorem r_eql (hx : a.eval x = .int k m) (hy : a.eval y = .int k n) : (execOp a.eval ⟨d, .binOp .eql t x y ty, T, pos, af, gd⟩).run P w = .ok (.value (.bool (decide (m = n)))) w := by
  simp [execOp, hx, hy, binOp_eql, eqGuard_at_int]
  rfl
theorem r_neq (hx : a.eval x = .int k m) (hy : a.eval y = .int k n) : (execOp a.eval ⟨d, .binOp .neq t x y ty, T, pos, af, gd⟩).run P w = .ok (.value (.bool (decide (m ≠ n)))) w := by
  have e : (m != n) = decide (m ≠ n) := by rw [Bool.eq_iff_iff]; simp
  simp only [execOp, hx, hy, binOp_neq, eqGuard_at_int, Sem.run_bind, Sem.run_pure, Result.andThen_ok, e]
theorem r_shr {k' : IntKind} (hx : a.eval x = .int .u64 m) (hy : a.eval y = .int k' n) (h0 : 0 ≤ n) (h1 : n ≤ 64) : (execOp a.eval ⟨d, .binOp .shr t x y ty, T, pos, af, gd⟩).run P w = .ok (.value (.int .u64 (m / 2 ^ n.toNat))) w := by
  simp [execOp, hx, hy, binOp_shr, eqGuard_shr, shift_shr_u64 k' m n h0 h1]
end ints

section bools
variable {t ty : TypeId} {x y : Operand} {b c : Bool}
theorem run_equalIn_bool {t : TypeId} (ht : P.underlying t = some .bool) (m : Nat) : (Op.equalIn (m + 1) t (.bool b) (.bool c)).run P w = .ok (b == c) w := by
  simp [Op.equalIn, run_underlying ht]
theorem run_equal_bool {t : TypeId} (ht : P.underlying t = some .bool) : (Op.equal t (.bool b) (.bool c)).run P w = .ok (b == c) w := run_equalIn_bool ht 9999
theorem r_eqb (ht : P.underlying t = some .bool) (hx : a.eval x = .bool b) (hy : a.eval y = .bool c) : (execOp a.eval ⟨d, .binOp .eql t x y ty, T, pos, af, gd⟩).run P w = .ok (.value (.bool (b == c))) w := by
  simp [execOp, hx, hy, eqGuard_at_bool, binOp, run_equal_bool ht]
theorem r_neb (ht : P.underlying t = some .bool) (hx : a.eval x = .bool b) (hy : a.eval y = .bool c) : (execOp a.eval ⟨d, .binOp .neq t x y ty, T, pos, af, gd⟩).run P w = .ok (.value (.bool (!(b == c)))) w := by
  simp [execOp, hx, hy, eqGuard_at_bool, binOp, run_equal_bool ht]
end bools

section strings
variable {t ty : TypeId} {x y : Operand} {s u : ByteArray}
theorem str_eq (s u : ByteArray) : (s.toList == u.toList) = decide (s = u) := by
  rw [Bool.eq_iff_iff]
  simp only [beq_iff_eq, decide_eq_true_eq]
  constructor
  · intro h
    rw [ByteArray.toList_eq, ByteArray.toList_eq] at h
    exact ByteArray.ext (Array.toList_inj.1 h)
  · rintro rfl; rfl
theorem r_eqs (hx : a.eval x = .string s) (hy : a.eval y = .string u) : (execOp a.eval ⟨d, .binOp .eql t x y ty, T, pos, af, gd⟩).run P w = .ok (.value (.bool (decide (s = u)))) w := by
  simp [execOp, hx, hy, eqGuard_at_string, binOp, Op.stringOp, str_eq]
theorem r_nes (hx : a.eval x = .string s) (hy : a.eval y = .string u) : (execOp a.eval ⟨d, .binOp .neq t x y ty, T, pos, af, gd⟩).run P w = .ok (.value (.bool (!decide (s = u)))) w := by
  simp [execOp, hx, hy, eqGuard_at_string, binOp, Op.stringOp, str_eq]
end strings

section conv
variable {src dst : TypeId} {x : Operand} {k k' : IntKind} {n : Int}
theorem r_conv {de : TypeDesc} (hs : P.underlying src = some de) (hd : P.underlying dst = some (.int k')) (hx : a.eval x = .int k n) : (execOp a.eval ⟨d, .convert src dst x, T, pos, af, gd⟩).run P w = .ok (.value (.int k' (k'.wrap n))) w := by
  simp [execOp, hx, convert, run_underlying hs, run_underlying hd, Conv.intToInt]
end conv

section lens
variable {t e : TypeId} {x y : Operand} {A : Option Addr} {n c : Nat}
theorem r_len (ht : P.underlying t = some (.slice e)) (hx : a.eval x = .slice A n c) :
    (execOp a.eval ⟨d, .call { callee := .builtin .len, args := #[x], argTypes := #[t] }, T, pos, af, gd⟩).run P w = .ok (.value (.int .i64 (n : Int))) w := by
  simp [execOp, resolve, invoke, builtin, hx, Builtin.len_, run_underlying ht, goInt]
theorem r_lens {s : ByteArray} (ht : P.underlying t = some .string) (hx : a.eval x = .string s) :
    (execOp a.eval ⟨d, .call { callee := .builtin .len, args := #[x], argTypes := #[t] }, T, pos, af, gd⟩).run P w = .ok (.value (.int .i64 (s.size : Int))) w := by
  simp [execOp, resolve, invoke, builtin, hx, Builtin.len_, run_underlying ht, goInt]
theorem r_min {k k' : IntKind} {p q : Int} {ts : Array TypeId} (hx : a.eval x = .int k p) (hy : a.eval y = .int k' q) :
    (execOp a.eval ⟨d, .call { callee := .builtin .min, args := #[x, y], argTypes := ts }, T, pos, af, gd⟩).run P w = .ok (.value (.int k (min p q))) w := by
  have e : (if q < p then q else p) = min p q := by omega
  simp [execOp, resolve, invoke, builtin, hx, hy, Builtin.min_, Builtin.min2, e]
theorem r_max {k k' : IntKind} {p q : Int} {ts : Array TypeId} (hx : a.eval x = .int k p) (hy : a.eval y = .int k' q) :
    (execOp a.eval ⟨d, .call { callee := .builtin .max, args := #[x, y], argTypes := ts }, T, pos, af, gd⟩).run P w = .ok (.value (.int k (max p q))) w := by
  have e : (if p < q then q else p) = max p q := by omega
  simp [execOp, resolve, invoke, builtin, hx, hy, Builtin.max_, Builtin.max2, e]
end lens

section mem
variable {t e : TypeId} {x y : Operand} {g o : Nat} {cs : List Value} {v : Value} {n : Nat}
theorem r_load1 {ad : Addr} (hA : ∀ w, (isAgg t).run P w = .ok false w) (hx : a.eval x = .pointer (some ad)) (hv : w.cell? ad = some v) :
    (execOp a.eval ⟨d, .load t x, T, pos, af, gd⟩).run P w = .ok (.value v) w := by
  simp [execOp, Instr.loadAt, hx, Instr.sureAddr, loadVar, hA, hv]
theorem r_loadN {ad : Addr} (hA : ∀ w, (isAgg t).run P w = .ok true w) (hS : ∀ w, (sizeOf t).run P w = .ok n w) (hx : a.eval x = .pointer (some ad)) (hn : cs.length = n)
    (hv : ∀ j u, cs[j]? = some u → w.cell? (ad.add j) = some u) :
    (execOp a.eval ⟨d, .load t x, T, pos, af, gd⟩).run P w = .ok (.value (.agg cs.toArray)) w := by
  subst hn
  have := run_loadCells_list (P := P) w ad cs hv
  simp [execOp, Instr.loadAt, hx, Instr.sureAddr, loadVar, hA, hS, this]
/-- a cell of a block that is known -/
theorem r_loadB (hA : ∀ w, (isAgg t).run P w = .ok false w) (hx : a.eval x = .pointer (some ⟨g, o, none⟩)) {bt : TypeId} (hb : Blk w g bt cs) (hv : cs[o]? = some v) :
    (execOp a.eval ⟨d, .load t x, T, pos, af, gd⟩).run P w = .ok (.value v) w :=
  r_load1 hA hx (by rw [hb.cell]; exact hv)
/-- a struct, or an array, within a block that is known -/
theorem r_loadBN (hA : ∀ w, (isAgg t).run P w = .ok true w) (hS : ∀ w, (sizeOf t).run P w = .ok n w) (hx : a.eval x = .pointer (some ⟨g, o, none⟩)) {bt : TypeId} (hb : Blk w g bt cs) {sub : List Value}
    (hv : (cs.drop o).take n = sub) (hn : sub.length = n) :
    (execOp a.eval ⟨d, .load t x, T, pos, af, gd⟩).run P w = .ok (.value (.agg sub.toArray)) w :=
  r_loadN hA hS hx hn fun j u hj => by
    rw [Addr.add_lit, hb.cell]
    subst hv
    have hjn : j < n := by
      have := (List.getElem?_eq_some_iff.1 hj).1
      rw [hn] at this
      exact this
    rw [List.getElem?_take_of_lt hjn, List.getElem?_drop] at hj
    exact hj
theorem r_fieldAddr {fs : Array Field} {f : Field} {i : Nat} {ad : Addr} (ht : P.underlying t = some (.struct fs)) (hf : fs[i]? = some f) (hx : a.eval x = .pointer (some ad)) (hp : (fieldPlace ad f).run P w = .ok (ad.add f.offset) w) :
    (execOp a.eval ⟨d, .fieldAddr t x i, T, pos, af, gd⟩).run P w = .ok (.value (.pointer (some (ad.add f.offset)))) w := by
  simp [execOp, Instr.fieldAt, run_underlying ht, hf, hx, Instr.sureAddr, hp]
theorem r_indexAddr {A : Addr} {c : Nat} {i : Int} {k : IntKind} (ht : P.underlying t = some (.slice e)) (hS : ∀ w, (sizeOf e).run P w = .ok g w) (hx : a.eval x = .slice (some A) n c) (hy : a.eval y = .int k i) (h0 : 0 ≤ i) (h1 : i < n) :
    (execOp a.eval ⟨d, .indexAddr t x y, T, pos, af, gd⟩).run P w = .ok (.value (.pointer (some (A.add (i.toNat * g))))) w := by
  simp [execOp, Instr.indexAt, hx, hy, asIntOf, run_underlying ht, hS, h0, h1]
end mem
end
end Go.Z
