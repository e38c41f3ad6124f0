/- A small logic over the model's walk, continued: operations that make or write memory, calls, slices of slices, regions in an open order. No program in sight. -/
import Derived.Test.YtlhpkogdcgebeaaZc
namespace Go.Z
open Go.RowKit

/-- the values of several operands -/
def evs (l : List (Nat × Value)) : List Operand → Option (List Value)
  | [] => some []
  | x :: r => match ev l x, evs l r with
    | some v, some vs => some (v :: vs)
    | _, _ => none

def evp (l : List (Nat × Value)) : List (Nat × Operand) → Option (List (Nat × Value))
  | [] => some []
  | (i, x) :: r => match ev l x, evp l r with
    | some v, some vs => some ((i, v) :: vs)
    | _, _ => none

theorem Fr.evals {a : Act} {n : Nat} {ds : List Deferred} {l : List (Nat × Value)} (h : Fr a n ds l) : ∀ (xs : List Operand) {vs : List Value}, evs l xs = some vs → xs.toArray.map a.eval = vs.toArray := by
  intro xs
  induction xs with
  | nil => intro vs hv; simp only [evs, Option.some.injEq] at hv; subst hv; simp
  | cons x r ih =>
    intro vs hv
    unfold evs at hv
    cases hx : ev l x with
    | none => simp [hx] at hv
    | some v =>
      cases hr : evs l r with
      | none => simp [hx, hr] at hv
      | some us =>
        simp only [hx, hr, Option.some.injEq] at hv
        subst hv
        have := ih hr
        simp only [List.map_toArray, List.map_cons, h.eval hx] at this ⊢
        rw [Array.mk.injEq] at this
        rw [this]

theorem Fr.evalp {a : Act} {n : Nat} {ds : List Deferred} {l : List (Nat × Value)} (h : Fr a n ds l) : ∀ (xs : List (Nat × Operand)) {vs : List (Nat × Value)}, evp l xs = some vs →
    xs.toArray.map (fun (i, x) => (i, a.eval x)) = vs.toArray := by
  intro xs
  induction xs with
  | nil => intro vs hv; simp only [evp, Option.some.injEq] at hv; subst hv; simp
  | cons x r ih =>
    obtain ⟨i, x⟩ := x
    intro vs hv
    unfold evp at hv
    cases hx : ev l x with
    | none => simp [hx] at hv
    | some v =>
      cases hr : evp l r with
      | none => simp [hx, hr] at hv
      | some us =>
        simp only [hx, hr, Option.some.injEq] at hv
        subst hv
        have := ih hr
        simp only [List.map_toArray, List.map_cons, h.eval hx] at this ⊢
        rw [Array.mk.injEq] at this
        rw [this]

section
variable {P : Program} {a : Act} {w : World} {d : Option Tmp} {T : TypeId} {pos : String} {af : Array Edge} {gd : Option (Nat × Bool)} {n : Nat} {ds : List Deferred} {l : List (Nat × Value)}

/-! ### addresses -/
theorem r_fieldAddr' {t : TypeId} {x : Operand} {fs : Array Field} {f : Field} {i m : Nat} {ad : Addr} (ht : P.underlying t = some (.struct fs)) (hf : fs[i]? = some f) (hS : ∀ w, (sizeOf f.type).run P w = .ok (m + 1) w) (hx : a.eval x = .pointer (some ad)) :
    (execOp a.eval ⟨d, .fieldAddr t x i, T, pos, af, gd⟩).run P w = .ok (.value (.pointer (some (ad.add f.offset)))) w := by
  simp [execOp, Instr.fieldAt, run_underlying ht, hf, hx, Instr.sureAddr, fieldPlace, hS]
theorem r_fieldAddrB {t : TypeId} {x : Operand} {fs : Array Field} {f : Field} {i m g o o' : Nat} (ht : P.underlying t = some (.struct fs)) (hf : fs[i]? = some f) (hS : ∀ w, (sizeOf f.type).run P w = .ok (m + 1) w) (hx : a.eval x = .pointer (some ⟨g, o, none⟩))
    (ho : o + f.offset = o') : (execOp a.eval ⟨d, .fieldAddr t x i, T, pos, af, gd⟩).run P w = .ok (.value (.pointer (some ⟨g, o', none⟩))) w := by
  rw [r_fieldAddr' ht hf hS hx, Addr.add_lit, ho]

/-! ### slices of slices -/
section
variable {t e : TypeId} {x lo hi mx : Operand} {A : Option Addr} {len c sz : Nat} {k k1 k2 k3 : IntKind} {p q r : Int}
theorem r_slice_h {u : Nat} (ht : P.underlying t = some (.slice e)) (hS : ∀ w, (sizeOf e).run P w = .ok sz w) (hx : a.eval x = .slice A len c) (hh : a.eval hi = .int k q) (hq : q = (u : Int)) (h1 : u ≤ c) :
    (execOp a.eval ⟨d, .slice t x none (some hi) none, T, pos, af, gd⟩).run P w = .ok (.value (.slice A u c)) w := by
  subst hq
  simp [execOp, Instr.sliceAt, run_underlying ht, hx, hh, Instr.slice, Instr.sliceBounds, Instr.sliceBound, asIntOf, h1, hS]
  cases A <;> simp [Addr.add]
/-- where a slice of a slice begins -/
def cutA (A : Option Addr) (m p sz : Nat) : Option Addr := if m = p then A else A.map (·.add (p * sz))
theorem r_slice_l {u : Nat} (ht : P.underlying t = some (.slice e)) (hS : ∀ w, (sizeOf e).run P w = .ok sz w) (hx : a.eval x = .slice A len c) (hl : a.eval lo = .int k p) (hp : p = (u : Int)) (h1 : u ≤ len) :
    (execOp a.eval ⟨d, .slice t x (some lo) none none, T, pos, af, gd⟩).run P w = .ok (.value (.slice (cutA A c u sz) (len - u) (c - u))) w := by
  subst hp
  simp [execOp, Instr.sliceAt, run_underlying ht, hx, hl, Instr.slice, Instr.sliceBounds, Instr.sliceBound, asIntOf, h1, hS, cutA]
theorem r_slice_lh {u v : Nat} (ht : P.underlying t = some (.slice e)) (hS : ∀ w, (sizeOf e).run P w = .ok sz w) (hx : a.eval x = .slice A len c) (hl : a.eval lo = .int k p) (hh : a.eval hi = .int k1 q) (hp : p = (u : Int)) (hq : q = (v : Int)) (h1 : u ≤ v) (h2 : v ≤ c) :
    (execOp a.eval ⟨d, .slice t x (some lo) (some hi) none, T, pos, af, gd⟩).run P w = .ok (.value (.slice (cutA A c u sz) (v - u) (c - u))) w := by
  subst hp; subst hq
  simp [execOp, Instr.sliceAt, run_underlying ht, hx, hl, hh, Instr.slice, Instr.sliceBounds, Instr.sliceBound, asIntOf, h1, h2, hS, cutA]
theorem r_slice_lhm {u v m : Nat} (ht : P.underlying t = some (.slice e)) (hS : ∀ w, (sizeOf e).run P w = .ok sz w) (hx : a.eval x = .slice A len c) (hl : a.eval lo = .int k p) (hh : a.eval hi = .int k1 q) (hm : a.eval mx = .int k2 r) (hp : p = (u : Int)) (hq : q = (v : Int)) (hr : r = (m : Int)) (h1 : u ≤ v) (h2 : v ≤ m) (h3 : m ≤ c) :
    (execOp a.eval ⟨d, .slice t x (some lo) (some hi) (some mx), T, pos, af, gd⟩).run P w = .ok (.value (.slice (cutA A m u sz) (v - u) (m - u))) w := by
  subst hp; subst hq; subst hr
  simp [execOp, Instr.sliceAt, run_underlying ht, hx, hl, hh, hm, Instr.slice, Instr.sliceBounds, Instr.sliceBound, asIntOf, h1, h2, h3, hS, cutA]
theorem r_slice_hm {v m : Nat} (ht : P.underlying t = some (.slice e)) (hS : ∀ w, (sizeOf e).run P w = .ok sz w) (hx : a.eval x = .slice A len c) (hh : a.eval hi = .int k1 q) (hm : a.eval mx = .int k2 r) (hq : q = (v : Int)) (hr : r = (m : Int)) (h2 : v ≤ m) (h3 : m ≤ c) :
    (execOp a.eval ⟨d, .slice t x none (some hi) (some mx), T, pos, af, gd⟩).run P w = .ok (.value (.slice A v m)) w := by
  subst hq; subst hr
  simp [execOp, Instr.sliceAt, run_underlying ht, hx, hh, hm, Instr.slice, Instr.sliceBounds, Instr.sliceBound, asIntOf, h2, h3, hS]
  cases A <;> simp [Addr.add]
/-- nil or not -/
theorem r_eqnil {ty : TypeId} {y : Operand} (ht : P.underlying t = some (.slice e)) (hx : a.eval x = .slice A len c) (hy : a.eval y = .slice none 0 0) :
    (execOp a.eval ⟨d, .binOp .eql t x y ty, T, pos, af, gd⟩).run P w = .ok (.value (.bool A.isNone)) w := by
  have h : ∀ m, (Op.equalIn (m + 1) t (.slice A len c) (.slice none 0 0)).run P w = .ok A.isNone w := fun m => by
    cases A <;> simp [Op.equalIn, run_underlying ht]
  have h2 : (Op.equal t (.slice A len c) (.slice none 0 0)).run P w = .ok A.isNone w := h 9999
  simp [execOp, hx, hy, eqGuard_at_slice, binOp, h2]
end

/-! ### calls -/
theorem r_call {f : FuncId} {xs : List Operand} {vs : List Value} {ts : Array TypeId} (hcf : ∀ args w, (callFunc f args).run P w = .ok (.enter f args) w) (hf : Fr a n ds l) (hx : evs l xs = some vs) :
    (execOp a.eval ⟨d, .call { callee := .value (.func f), args := xs.toArray, argTypes := ts }, T, pos, af, gd⟩).run P w = .ok (.enter f vs.toArray) w := by
  have h := hf.evals xs hx
  simp only [execOp, resolve, h]
  simp [Act.eval, Deferred.ofValue, invoke, hcf]
/-- a call of a function value that is known -/
theorem r_callv {f : FuncId} {c : Operand} {xs : List Operand} {vs first cap : List Value} {ts : Array TypeId} (hcf : ∀ args w, (callFunc f args).run P w = .ok (.enter f args) w) (hf : Fr a n ds l)
    (hc : ev l c = some (.func (.func f) first.toArray cap.toArray)) (hx : evs l xs = some vs) :
    (execOp a.eval ⟨d, .call { callee := .value c, args := xs.toArray, argTypes := ts }, T, pos, af, gd⟩).run P w = .ok (.enter f (first ++ vs ++ cap).toArray) w := by
  have h := hf.evals xs hx
  have h2 := hf.eval hc
  simp only [execOp, resolve, h, h2]
  simp [Deferred.ofValue, invoke, hcf]
theorem r_defer {f : FuncId} {xs : List Operand} {vs : List Value} {ts : Array TypeId} (hf : Fr a n ds l) (hx : evs l xs = some vs) :
    (execOp a.eval ⟨d, .defer { callee := .value (.func f), args := xs.toArray, argTypes := ts }, T, pos, af, gd⟩).run P w = .ok (.defer { target := .fn (.func f) #[], args := vs.toArray }) w := by
  have h := hf.evals xs hx
  simp only [execOp, resolve, h]
  simp [Act.eval, Deferred.ofValue]
theorem r_makeFunc' {fn : Fn} {xs ys : List Operand} {vs us : List Value} (hf : Fr a n ds l) (h1 : evs l xs = some vs) (h2 : evs l ys = some us) :
    (execOp a.eval ⟨d, .makeFunc fn xs.toArray ys.toArray, T, pos, af, gd⟩).run P w = .ok (.value (.func fn vs.toArray us.toArray)) w :=
  r_makeFunc (hf.evals xs h1) (hf.evals ys h2)

/-! ### structs by value -/
theorem r_build {t : TypeId} {fs : Array Field} {z : Value} {parts : List (Nat × Operand)} {vs : List (Nat × Value)} {cells : List Value} (hf : Fr a n ds l) (ht : P.underlying t = some (.struct fs)) (hz : ∀ w, (zeroValue t).run P w = .ok z w)
    (hp : evp l parts = some vs) {pl : Array (Nat × Nat)} (hpl : ∀ w, (fs.mapM fun f => do pure (f.offset, ← sizeOf f.type) : Sem (Array (Nat × Nat))).run P w = .ok pl w) (hc : Instr.fill (pl[·]?) z.cells vs = some cells.toArray) :
    (execOp a.eval ⟨d, .build t parts.toArray, T, pos, af, gd⟩).run P w = .ok (.value (.agg cells.toArray)) w := by
  have h := hf.evalp parts hp
  simp only [execOp, Instr.build, h]
  simp only [Sem.run_bind, hz, Result.andThen_ok, run_underlying ht]
  rw [hpl w]
  simp only [Result.andThen_ok, hc, Sem.run_pure]
theorem r_field1 {t : TypeId} {x : Operand} {fs : Array Field} {f : Field} {i : Nat} {cs : List Value} {v : Value} (ht : P.underlying t = some (.struct fs)) (hf : fs[i]? = some f) (hA : ∀ w, (isAgg f.type).run P w = .ok false w) (hx : a.eval x = .agg cs.toArray) (hv : cs[f.offset]? = some v) :
    (execOp a.eval ⟨d, .field t x i, T, pos, af, gd⟩).run P w = .ok (.value v) w := by
  simp [execOp, Instr.field, run_underlying ht, hf, hx, asAgg, part, hA, hv]

/-! ### texts and bytes -/
theorem run_b2s {F : Nat → Prop} {A : Option Addr} {len c : Nat} {bs : List UInt8} (h : (Ty.slice .byte).rep w F [.slice A len c] bs) : (Conv.bytesToString (.slice A len c)).run P w = .ok (.string ⟨bs.toArray⟩) w := by
  obtain ⟨hl, _, _⟩ := rep_slice_len h
  have hall : ∀ k, k < bs.length → ∃ ad, A = some ad ∧ w.cell? (ad.add k) = some (.int .u8 ((bs.getD k 0).toNat : Int)) := fun k hk => by
    obtain ⟨ad, es, hA, hc, hr⟩ := rep_at h hk
    have he : es = [.int .u8 ((bs[k]).toNat : Int)] := hr
    refine ⟨ad, hA, ?_⟩
    have := hc 0 _ (by rw [he]; rfl)
    rw [Addr.add_zero', show Ty.byte.size = 1 from rfl, Nat.mul_one] at this
    rw [this, List.getD_eq_getElem?_getD, List.getElem?_eq_getElem hk]
    rfl
  cases A with
  | none =>
    have : bs = [] := by
      rcases Nat.eq_zero_or_pos bs.length with h0 | h0
      · exact List.eq_nil_of_length_eq_zero h0
      · obtain ⟨ad, h1, _⟩ := hall 0 h0; cases h1
    subst this
    simp [Conv.bytesToString]; rfl
  | some ad =>
    have hload : (loadCells ad len).run P w = .ok (bs.map fun b => Value.int .u8 (b.toNat : Int)).toArray w := by
      have := run_loadCells_list (P := P) w ad (bs.map fun b => Value.int .u8 (b.toNat : Int)) (fun j v hj => by
        rw [List.getElem?_map] at hj
        cases hb : bs[j]? with
        | none => rw [hb] at hj; cases hj
        | some b =>
          rw [hb] at hj
          injection hj with hj
          subst hj
          have hjl := (List.getElem?_eq_some_iff.1 hb).1
          obtain ⟨ad', h1, h2⟩ := hall j hjl
          injection h1 with h1
          subst h1
          rw [h2, List.getD_eq_getElem?_getD, hb]
          rfl)
      rw [List.length_map, hl] at this
      exact this
    have hloop : ∀ (l : List UInt8) (acc : ByteArray), (forIn (m := Sem) (l.map fun b => Value.int .u8 (b.toNat : Int)) acc fun c r => (match c with
        | .int .u8 m => (pure (ForInStep.yield (r.push (UInt8.ofNat m.toNat))) : Sem (ForInStep ByteArray))
        | _ => stuck "bytesToString: byte expected")).run P w = .ok ⟨acc.data ++ l.toArray⟩ w := by
      intro l
      induction l with
      | nil => intro acc; simp
      | cons b r ih =>
        intro acc
        simp only [List.map_cons, List.forIn_cons, Sem.run_bind, Sem.run_pure, Result.andThen_ok]
        rw [ih]
        simp only [ByteArray.push, Int.toNat_natCast, UInt8.ofNat_toNat]
        congr 2
        apply Array.toList_inj.1
        simp
    simp only [Conv.bytesToString, Sem.run_bind, hload, Result.andThen_ok]
    rw [← Array.forIn_toList]
    have := hloop bs ByteArray.empty
    erw [this]
    simp [ByteArray.empty, ByteArray.emptyWithCapacity]
    rfl
theorem r_b2s {src dst e : TypeId} {x : Operand} {F : Nat → Prop} {A : Option Addr} {len c : Nat} {bs : List UInt8} (hs : P.underlying src = some (.slice e)) (he : P.underlying e = some (.int .u8)) (hd : P.underlying dst = some .string) (hx : a.eval x = .slice A len c)
    (h : (Ty.slice .byte).rep w F [.slice A len c] bs) : (execOp a.eval ⟨d, .convert src dst x, T, pos, af, gd⟩).run P w = .ok (.value (.string ⟨bs.toArray⟩)) w := by
  have := run_b2s (P := P) h
  simp [execOp, hx, convert, run_underlying hs, run_underlying hd, run_underlying he, this]
end

/-! ### steps that make or write memory -/
section
variable {r : Option Nat} {P : Program} {ops : Array Oper} {Q : Exit → Act → World → Prop} {a : Act} {w : World} {rest : List Oper} {n : Nat} {ds : List Deferred} {l : List (Nat × Value)} {d : Nat} {T : TypeId} {pos : String} {af : Array Edge}

theorem st_box {e : TypeId} {x : Operand} {v : Value} {cs : List Value} (hf : Fr a n ds l) (hd : Nat.ble (d + 1) n = true) (hx : ev l x = some v) (hc : v.cells = cs.toArray)
    (h : ∀ g w' a', g = w.heap.size → w'.heap.size = g + 1 → Blk w' g e cs → Ch [] w w' → Fr a' n ds ((d, .pointer (some ⟨g, 0, none⟩)) :: l) → WL r P ops Q rest a' w') :
    WL r P ops Q (⟨some d, .box e x, T, pos, af, none⟩ :: rest) a w :=
  valw (w' := w.alloc (.cells cs.toArray e)) (v := .pointer (some ⟨w.heap.size, 0, none⟩)) hf hd (by simp [execOp, hf.eval hx, Instr.box, newVar, newRow, hc])
    fun a' hf' => h _ _ a' rfl (by simp) (Blk.new w e cs) (Ch.alloc w _) hf'

theorem st_alloc {e : TypeId} {z : Value} {cs : List Value} (hf : Fr a n ds l) (hd : Nat.ble (d + 1) n = true) (hz : ∀ w, (zeroValue e).run P w = .ok z w) (hc : z.cells = cs.toArray)
    (h : ∀ g w' a', g = w.heap.size → w'.heap.size = g + 1 → Blk w' g e cs → Ch [] w w' → Fr a' n ds ((d, .pointer (some ⟨g, 0, none⟩)) :: l) → WL r P ops Q rest a' w') :
    WL r P ops Q (⟨some d, .alloc e, T, pos, af, none⟩ :: rest) a w :=
  valw (w' := w.alloc (.cells cs.toArray e)) (v := .pointer (some ⟨w.heap.size, 0, none⟩)) hf hd (by simp [execOp, Instr.alloc, hz, newVar, newRow, hc])
    fun a' hf' => h _ _ a' rfl (by simp) (Blk.new w e cs) (Ch.alloc w _) hf'

theorem run_bslice {t e : TypeId} {len sz : Nat} {z : Value} {vs : List (Nat × Value)} {cs : List Value} (ht : P.underlying t = some (.slice e)) (hS : ∀ w, (sizeOf e).run P w = .ok sz w) (hz : ∀ w, (zeroValue e).run P w = .ok z w)
    (hs : len * sz ≤ 2 ^ 24) (h0 : len * sz ≠ 0) (hc : Instr.fill (fun i => some (i * sz, sz)) ((Array.range (len * sz)).map (z.cells[· % z.cells.size]!)) vs = some cs.toArray) :
    (Instr.buildSlice t len vs.toArray).run P w = .ok (.slice (some ⟨w.heap.size, 0, none⟩) len len) (w.alloc (.cells cs.toArray e)) := by
  have h1 : ¬ 2 ^ 24 < len * sz := by omega
  simp only [Instr.buildSlice, Sem.run_bind, run_underlying ht, Result.andThen_ok, hS, h1, if_false, h0, hz, Sem.run_pure, hc, newRow, run_newObj, gt_iff_lt]
  rfl

theorem st_bslice {t e : TypeId} {len sz : Nat} {z : Value} {parts : List (Nat × Operand)} {vs : List (Nat × Value)} {cs : List Value} (hf : Fr a n ds l) (hd : Nat.ble (d + 1) n = true) (ht : P.underlying t = some (.slice e)) (hS : ∀ w, (sizeOf e).run P w = .ok sz w)
    (hz : ∀ w, (zeroValue e).run P w = .ok z w) (hp : evp l parts = some vs) (hs : Nat.ble (len * sz) 16777216 = true) (h0 : Nat.ble 1 (len * sz) = true)
    (hc : Instr.fill (fun i => some (i * sz, sz)) ((Array.range (len * sz)).map (z.cells[· % z.cells.size]!)) vs = some cs.toArray)
    (h : ∀ g w' a', g = w.heap.size → w'.heap.size = g + 1 → Blk w' g e cs → Ch [] w w' → Fr a' n ds ((d, .slice (some ⟨g, 0, none⟩) len len) :: l) → WL r P ops Q rest a' w') :
    WL r P ops Q (⟨some d, .buildSlice t len parts.toArray, T, pos, af, none⟩ :: rest) a w :=
  valw (w' := w.alloc (.cells cs.toArray e)) (v := .slice (some ⟨w.heap.size, 0, none⟩) len len) hf hd (by
    have hb := run_bslice (P := P) (w := w) ht hS hz (Nat.le_of_ble_eq_true hs) (by have := Nat.le_of_ble_eq_true h0; omega) hc
    have hev := hf.evalp parts hp
    simp only [execOp, hev, Sem.run_bind, hb, Result.andThen_ok, Sem.run_pure])
    fun a' hf' => h _ _ a' rfl (by simp) (Blk.new w e cs) (Ch.alloc w _) hf'

/-- a slice of no elements -/
theorem st_bslice0 {t e : TypeId} {sz : Nat} (hf : Fr a n ds l) (hd : Nat.ble (d + 1) n = true) (ht : P.underlying t = some (.slice e)) (hS : ∀ w, (sizeOf e).run P w = .ok sz w)
    (h : ∀ g w' a', g = w.heap.size → w'.heap.size = g + 1 → Blk w' g e [] → Ch [] w w' → Fr a' n ds ((d, .slice (some ⟨g, 0, none⟩) 0 0) :: l) → WL r P ops Q rest a' w') :
    WL r P ops Q (⟨some d, .buildSlice t 0 #[], T, pos, af, none⟩ :: rest) a w :=
  valw (w' := w.alloc (.cells ([] : List Value).toArray e)) (v := .slice (some ⟨w.heap.size, 0, none⟩) 0 0) hf hd (by
    simp only [execOp, Instr.buildSlice, Sem.run_bind, run_underlying ht, Result.andThen_ok, hS, Nat.zero_mul]
    simp [Instr.fill, newRow, Array.range_zero'])
    fun a' hf' => h _ _ a' rfl (by simp) (Blk.new w e []) (Ch.alloc w _) hf'

theorem run_storeB {t bt : TypeId} {g o m : Nat} {cs new : List Value} {v : Value} (hb : Blk w g bt cs) (hS : ∀ w, (sizeOf t).run P w = .ok m w) (hv : v.cells = new.toArray) (hm : new.length = m) (ho : o + m ≤ cs.length) (h1 : ∀ u ∈ new, u.oneCell' = true) :
    (Instr.storeAt t (.pointer (some ⟨g, o, none⟩)) v).run P w = .ok () (w.setRow g (cs.take o ++ new ++ cs.drop (o + m)).toArray) := by
  have := run_storeCells_at P g o bt new 0 cs.toArray w hb (by simp; omega) h1
  simp only [Nat.add_zero] at this
  simp only [Instr.storeAt, Instr.sureAddr, Sem.run_bind, Sem.run_pure, Result.andThen_ok, storeVar, hS, hv, List.size_toArray, hm, ne_eq, not_true, if_false]
  rw [this, hm]

theorem Blk.setRow {g : Nat} {bt : TypeId} {cs cs' : List Value} (hb : Blk w g bt cs) : Blk (w.setRow g cs'.toArray) g bt cs' := setRow_heap w g cs.toArray cs'.toArray bt (0, 0) hb

theorem st_store {t bt : TypeId} {x y : Operand} {g o m : Nat} {cs new cs' : List Value} {v : Value} (hf : Fr a n ds l) (hb : Blk w g bt cs) (hx : ev l x = some (.pointer (some ⟨g, o, none⟩))) (hy : ev l y = some v) (hS : ∀ w, (sizeOf t).run P w = .ok m w)
    (hv : v.cells = new.toArray) (hm : new.length = m) (ho : Nat.ble (o + m) cs.length = true) (h1 : ∀ u ∈ new, u.oneCell' = true) (hc : cs.take o ++ new ++ cs.drop (o + m) = cs')
    (h : ∀ w' a', w'.heap.size = w.heap.size → Blk w' g bt cs' → Ch [g] w w' → Fr a' n ds l → WL r P ops Q rest a' w') :
    WL r P ops Q (⟨none, .store t x y, T, pos, af, none⟩ :: rest) a w :=
  skipw (w' := w.setRow g cs'.toArray) hf (by
    have hr := run_storeB (P := P) hb hS hv hm (Nat.le_of_ble_eq_true ho) h1
    rw [hc] at hr
    simp only [execOp, hf.eval hx, hf.eval hy, Sem.run_bind, hr, Result.andThen_ok, Sem.run_pure])
    fun a' hf' => h _ a' (by simp [World.setRow]) hb.setRow (Ch.setRow w g _) hf'

/-- append onto what is owned -/
theorem st_append {t : Ty} {tt e : TypeId} {B : Nat} {F : Nat → Prop} {x y : Operand} {i : TypeInfo} {z : Value} {bytes : Nat} {A : Option Addr} {c : Nat} {xs : List t.den} (hf : Fr a n ds l) (hd : Nat.ble (d + 1) n = true)
    (ht : P.underlying tt = some (.slice e)) (hi : P.info? e = some i) (hz : i.zero = some z) (hsize : i.size = t.size) (hby : i.bytes = bytes) (hzs : z.cells.size = t.size) (hsz : 0 < t.size) (hbp : 0 < bytes)
    {n1 : Nat} (hx : ev l x = some (.slice A n1 c)) (hn1 : n1 = xs.length) (hown : Own t e B w F A c xs) {F2 : Nat → Prop} {A2 : Option Addr} {n2 c2 : Nat} {ys : List t.den} (hy : ev l y = some (.slice A2 n2 c2)) (hr : (Ty.slice t).rep w F2 [.slice A2 n2 c2] ys) (hel : ∀ cs x, t.rep w F2 cs x → t.rep w F cs x)
    (h63 : (xs.length + ys.length) * bytes ≤ 140737488355328) (hA : ∀ b, F b → b ∉ obl A) (hB : B ≤ w.heap.size)
    (h : ∀ A' c' w' a', Own t e B w' F A' c' (xs ++ ys) → Ch (obl A) w w' → (∀ k, k ∈ obl A' → k ∈ obl A ∨ k = w.heap.size) → Fr a' n ds ((d, .slice A' (xs ++ ys).length c') :: l) → WL r P ops Q rest a' w') :
    WL r P ops Q (⟨some d, .call { callee := .builtin .append, args := #[x, y], argTypes := #[tt, tt] }, T, pos, af, none⟩ :: rest) a w := by
  subst hn1
  obtain ⟨A', c', w', hrun, h1, h2, h3⟩ := run_append (P := P) (ty := T) ht hi hz hsize hby hzs hsz hown hr hel h63 hbp hA hB
  refine valw (w' := w') (v := .slice A' (xs ++ ys).length c') hf hd ?_ fun a' hf' => h _ _ _ a' h1 h2 h3 hf'
  rw [List.length_append]
  simp only [execOp, resolve, invoke, builtin, Sem.run_bind, Sem.run_pure, Result.andThen_ok, List.map_toArray, List.map_cons, List.map_nil, hf.eval hx, hf.eval hy, hrun]
end

section
variable {r : Option Nat} {P : Program} {ops : Array Oper} {Q : Exit → Act → World → Prop} {a : Act} {w : World} {rest : List Oper} {n : Nat} {ds : List Deferred} {l : List (Nat × Value)} {d : Nat} {T : TypeId} {pos : String} {af : Array Edge}
/-- append onto what is owned, elements with nothing behind them -/
theorem st_append_flat {t : Ty} {tt e : TypeId} {B : Nat} {x y : Operand} {i : TypeInfo} {z : Value} {bytes : Nat} {A : Option Addr} {c : Nat} {xs : List t.den} (hf : Fr a n ds l) (hd : Nat.ble (d + 1) n = true)
    (ht : P.underlying tt = some (.slice e)) (hi : P.info? e = some i) (hz : i.zero = some z) (hsize : i.size = t.size) (hby : i.bytes = bytes) (hzs : z.cells.size = t.size) (hsz : 0 < t.size) (hbp : 0 < bytes) (hfl : t.flat = true)
    {n1 : Nat} (hx : ev l x = some (.slice A n1 c)) (hn1 : n1 = xs.length) (hown : Own t e B w (fun _ => False) A c xs) {F2 : Nat → Prop} {A2 : Option Addr} {n2 c2 : Nat} {ys : List t.den} (hy : ev l y = some (.slice A2 n2 c2)) (hr : (Ty.slice t).rep w F2 [.slice A2 n2 c2] ys)
    (h63 : (xs.length + ys.length) * bytes ≤ 140737488355328) (hB : B ≤ w.heap.size)
    (h : ∀ A' c' w' a', Own t e B w' (fun _ => False) A' c' (xs ++ ys) → Ch (obl A) w w' → (∀ k, k ∈ obl A' → k ∈ obl A ∨ k = w.heap.size) → Fr a' n ds ((d, .slice A' (xs ++ ys).length c') :: l) → WL r P ops Q rest a' w') :
    WL r P ops Q (⟨some d, .call { callee := .builtin .append, args := #[x, y], argTypes := #[tt, tt] }, T, pos, af, none⟩ :: rest) a w :=
  st_append hf hd ht hi hz hsize hby hzs hsz hbp hx hn1 hown hy hr (fun _ _ h => rep_flat t hfl h) h63 (fun _ hb => hb.elim) hB h
end

/-! ### regions in an open order -/
section
variable {r : Option Nat} {P : Program} {ops : Array Oper} {Q : Exit → Act → World → Prop} {S : World → Prop} {a : Act} {w : World} {n : Nat} {ds : List Deferred} {l : List (Nat × Value)} {fuel : Nat} {listed : Array Bool}

/-- whatever comes up next, and S holds behind it -/
def Hel (r : Option Nat) (P : Program) (ops : Array Oper) (Q : Exit → Act → World → Prop) (S : World → Prop) : Nat → Array Bool → Act → World → Prop
  | 0, listed, a, w => Region.ready .any ops listed = [] ∧ Q .normal a w
  | f + 1, listed, a, w => (Region.ready .any ops listed = [] → Q .normal a w) ∧
    ∀ i ∈ Region.ready .any ops listed, wpOpIn (FW r) 0 P ops Q i (fun a' w' => S w' ∧ Hel r P ops Q S f (listed.setIfInBounds i true) a' w') a w

theorem Hel.any : ∀ (f : Nat) (listed : Array Bool) (a : Act) (w : World), Hel r P ops Q S f listed a w → wpAnyIn (FW r) 0 P .any ops Q f listed a w
  | 0, _, _, _, h => h
  | f + 1, _, _, _, h => ⟨h.1, fun i hi => wpOpIn_mono (fun a' w' h' => Hel.any f _ a' w' h'.2) (h.2 i hi)⟩

/-- no operation is a defer statement -/
def noDefer (ops : Array Oper) : Bool := ops.toList.all fun o => match o.op with | .defer _ => false | _ => true
theorem noDefer_spec (h : noDefer ops = true) {j : Nat} {o : Oper} (hj : ops[j]? = some o) : ∀ c, o.op ≠ .defer c := fun c hc => by
  have := List.all_eq_true.1 h o (List.mem_of_getElem? (i := j) (by rw [Array.getElem?_toList]; exact hj))
  simp [hc] at this
theorem semAt_nd {ρ : Operand → Value} {o : Oper} (h : ∀ c, o.op ≠ .defer c) : o.semAt r ρ = execOp ρ o := by
  cases r with
  | none => exact Oper.semAt_none ρ o
  | some l => exact Oper.semAt_some l ρ o h

/-- one that is apart from a quiet one comes up ahead of it, or behind it: it is the same -/
theorem Hel.put {j : Nat} {oi oj : Oper} {v : Value} (hnd : ∀ c, oj.op ≠ .defer c) (hj : ops[j]? = some oj) (hap : oi.apart ops oj = true) (hsi : ∀ cs b, oi.op ≠ .select cs b) (hsj : ∀ cs b, oj.op ≠ .select cs b)
    (hQ : ∀ c a w, Q (.panic c) (a.put oi.dst v) w → Q (.panic c) a w) {K : Act → World → Prop} (hy : YieldsIf P ops S oi v a) (h : wpOpIn (FW r) 0 P ops Q j K (a.put oi.dst v) w) :
    wpOpIn (FW r) 0 P ops Q j (fun a' w' => YieldsIf P ops S oi v a' ∧ K (a'.put oi.dst v) w') a w := by
  obtain ⟨h1, h2, h3⟩ := Oper.apart_spec hap
  have kp1 : ∀ (a : Act), YieldsIf P ops S oi v a → ∀ u, YieldsIf P ops S oi v (a.put oj.dst u) := fun a hy u => hy.of_same (execOp_put oi hsi a oj.dst u h3) (wanted_put oi a oj.dst u h3)
  have kp2 : ∀ d, YieldsIf P ops S oi v { a with defers := d :: a.defers } := fun d => hy.of_same rfl rfl
  unfold wpOpIn at *
  rw [hj] at h ⊢
  simp only [] at h ⊢
  rw [wanted_put oj a oi.dst v h1] at h
  by_cases hw : Region.wanted oj (yielded ops a.tmps) = true
  · rw [if_pos hw] at h ⊢
    refine ⟨fun _ _ => trivial, ?_⟩
    have h := h.2
    rw [semAt_nd hnd, execOp_put oj hsj a oi.dst v h1] at h
    rw [semAt_nd hnd]
    generalize (execOp a.eval oj).run P w = res at h ⊢
    cases res with
    | ok x w' =>
      cases x with
      | value u => exact ⟨kp1 a hy u, by rw [← Act.put_comm a v u h2]; exact h⟩
      | skip => exact ⟨kp1 a hy _, by rw [← Act.put_comm a v undef h2]; exact h⟩
      | defer d => exact ⟨kp1 _ (kp2 d) _, by rw [← Act.put_comm _ v undef h2, ← Act.put_defers]; exact h⟩
      | enter f args =>
        refine ⟨h.1, CallsIn.mono h.2 fun e w'' he => ?_⟩
        cases e with
        | returned u => exact ⟨kp1 a hy u, by rw [← Act.put_comm a v u h2]; exact he⟩
        | panicked c => exact hQ _ _ _ he
        | outgrown => exact he
      | row row args => exact ⟨h.1, RowsIn.mono h.2 fun u w'' he => ⟨kp1 a hy u, by rw [← Act.put_comm a v u h2]; exact he⟩⟩
      | round l f tmps assign body =>
        refine ⟨h.1, RoundIn.mono h.2 fun e w'' he => ?_⟩
        cases e with
        | returned u => exact ⟨kp1 a hy u, by rw [← Act.put_comm a v u h2]; exact he⟩
        | panicked c => exact hQ _ _ _ he
        | outgrown => exact he
      | _ => exact h
    | halt x w' => cases x <;> first | exact hQ _ _ _ h | exact h
  · rw [if_neg hw] at h ⊢
    exact ⟨fun _ _ => trivial, kp1 a hy _, by rw [← Act.put_comm a v undef h2]; exact h.2⟩

theorem Hel.op {i : Nat} {o : Oper} {v : Value} (hnd : ∀ c, o.op ≠ .defer c) (hi : ops[i]? = some o) (hy : YieldsIf P ops S o v a) {K : Act → World → Prop} (hS : S w) (h : K (a.put o.dst v) w) : wpOpIn (FW r) 0 P ops Q i K a w := by
  unfold wpOpIn
  rw [hi]
  simp only []
  rcases hy with ⟨hw, hv⟩ | ⟨hw, rfl⟩
  · rw [if_pos hw]
    exact ⟨fun _ _ => trivial, by rw [semAt_nd hnd, hv w hS]; exact h⟩
  · rw [if_neg (by rw [hw]; decide)]
    exact ⟨fun _ _ => trivial, h⟩

theorem Hel.first {i : Nat} {oi : Oper} {v : Value} (hn : noDefer ops = true) (hi : ops[i]? = some oi) (hs : Region.noSelect ops = true) (hQ : ∀ c a w, Q (.panic c) (a.put oi.dst v) w → Q (.panic c) a w) : ∀ (f : Nat) (listed : Array Bool) (a : Act) (w : World),
    (∀ j oj, ops[j]? = some oj → j ≠ i → listed.getD j true = false → (∀ e ∈ oj.after, Region.binds .any e = true → e.on ≠ i) → oi.apart ops oj = true) → i ∈ Region.ready .any ops listed → YieldsIf P ops S oi v a → S w →
    Hel r P ops Q S f (listed.setIfInBounds i true) (a.put oi.dst v) w → Hel r P ops Q S (f + 1) listed a w
  | 0, listed, a, w, _, hr, hy, hS, H => ⟨fun h => (by rw [h] at hr; cases hr), fun j hj => by
      by_cases hji : j = i
      · subst hji; exact Hel.op (noDefer_spec hn hi) hi hy hS ⟨hS, H⟩
      · have := ready_mono hj hji; rw [H.1] at this; cases this⟩
  | f + 1, listed, a, w, hfree, hr, hy, hS, H => ⟨fun h => (by rw [h] at hr; cases hr), fun j hj => by
      by_cases hji : j = i
      · subst hji; exact Hel.op (noDefer_spec hn hi) hi hy hS ⟨hS, H⟩
      · have h1 := H.2 j (ready_mono hj hji)
        obtain ⟨hun, oj, hoj, hall⟩ := mem_ready.1 hj
        have hno : ∀ e ∈ oj.after, Region.binds .any e = true → e.on ≠ i := fun e he hb heq => by
          have hl := hall e he hb
          have h0 := (mem_ready.1 hr).1
          rw [heq] at hl
          by_cases hsz : i < listed.size
          · simp [hsz] at h0 hl; rw [h0] at hl; cases hl
          · simp [Array.getElem?_eq_none (Nat.le_of_not_lt hsz)] at hl
        have h2 := Hel.put (noDefer_spec hn hoj) hoj (hfree j oj hoj hji hun hno) (fun cs b => Region.noSelect_spec hs i oi cs b hi) (fun cs b => Region.noSelect_spec hs j oj cs b hoj) hQ hy h1
        refine wpOpIn_mono (fun a' w' h3 => ⟨h3.2.1, Hel.first hn hi hs hQ f _ a' w' (fun k ok hk hki hkun hkno => hfree k ok hk hki ?_ hkno) (ready_mono hr (Ne.symm hji)) h3.1 h3.2.1 ?_⟩) h2
        · by_cases hjk : j = k
          · subst hjk; exact hun
          · rwa [getD_set_ne true hjk] at hkun
        · rw [Array.setIfInBounds_comm _ _ hji]; exact h3.2.2⟩

theorem dr_reg {id : Nat} (S : World → Prop) (hm : P.follows .mixedOrders = true) (h : ∀ w', Ch [] w w' → w'.heap.size = w.heap.size → Hel r P ops Q S ops.size (Array.replicate ops.size false) a w') : WP r P (Code.region id ops true) Q a w :=
  wpIn_region_any hm (Hel.any _ _ _ _ (h _ (Ch.drew w) rfl))

/-- an operation that gives a value in every world that meets S is taken first -/
theorem dr_val (i : Nat) {d : Nat} {op : Op} {T : TypeId} {pos : String} {af : Array Edge} {gd : Option (Nat × Bool)} {v : Value} (hf : Fr a n ds l) (hd : Nat.ble (d + 1) n = true) (hi : ops[i]? = some ⟨some d, op, T, pos, af, gd⟩) (hs : (Region.noSelect ops && noDefer ops) = true)
    (hfr : (Region.free .any ops listed i && (Region.ready .any ops listed).contains i) = true) (hQ : ∀ c a d v w, Q (.panic c) (Act.put a d v) w → Q (.panic c) a w) (hS : S w)
    (hw : Region.wanted ⟨some d, op, T, pos, af, gd⟩ (yielded ops a.tmps) = true) (hr : ∀ w, S w → (execOp a.eval ⟨some d, op, T, pos, af, gd⟩).run P w = .ok (.value v) w)
    (h : ∀ a', Fr a' n ds ((d, v) :: l) → Hel r P ops Q S fuel (listed.setIfInBounds i true) a' w) : Hel r P ops Q S (fuel + 1) listed a w := by
  rw [Bool.and_eq_true] at hs hfr
  exact Hel.first hs.2 hi hs.1 (fun c a w => hQ c a _ _ w) fuel listed a w (Region.free_spec hi hfr.1) (by simpa using hfr.2) (.inl ⟨hw, hr⟩) hS (h _ (hf.put (Nat.le_of_ble_eq_true hd) v))

/-- one that its guard keeps from running -/
theorem dr_off (i : Nat) {d : Nat} {op : Op} {T : TypeId} {pos : String} {af : Array Edge} {gd : Option (Nat × Bool)} (hf : Fr a n ds l) (hd : Nat.ble (d + 1) n = true) (hi : ops[i]? = some ⟨some d, op, T, pos, af, gd⟩) (hs : (Region.noSelect ops && noDefer ops) = true)
    (hfr : (Region.free .any ops listed i && (Region.ready .any ops listed).contains i) = true) (hQ : ∀ c a d v w, Q (.panic c) (Act.put a d v) w → Q (.panic c) a w) (hS : S w)
    (hw : Region.wanted ⟨some d, op, T, pos, af, gd⟩ (yielded ops a.tmps) = false)
    (h : ∀ a', Fr a' n ds ((d, undef) :: l) → Hel r P ops Q S fuel (listed.setIfInBounds i true) a' w) : Hel r P ops Q S (fuel + 1) listed a w := by
  rw [Bool.and_eq_true] at hs hfr
  exact Hel.first hs.2 hi hs.1 (fun c a w => hQ c a _ _ w) fuel listed a w (Region.free_spec hi hfr.1) (by simpa using hfr.2) (.inr ⟨hw, rfl⟩) hS (h _ (hf.put (Nat.le_of_ble_eq_true hd) undef))

theorem dr_done (hr : Region.ready .any ops listed = []) (h : Q .normal a w) : Hel r P ops Q S fuel listed a w := by
  cases fuel with
  | zero => exact ⟨hr, h⟩
  | succ f => exact ⟨fun _ => h, by rw [hr]; simp⟩

/-- how a drawn region goes on behind one of its operations -/
def HQ (r : Option Nat) (P : Program) (ops : Array Oper) (Q : Exit → Act → World → Prop) (S : World → Prop) (fuel : Nat) (listed : Array Bool) (i : Nat) : Exit → Act → World → Prop
  | .normal, a, w => S w ∧ Hel r P ops Q S fuel (listed.setIfInBounds i true) a w
  | e, a, w => Q e a w

theorem Hel.list {i : Nat} {o : Oper} (hi : ops[i]? = some o) (h : WL r P ops (HQ r P ops Q S fuel listed i) [o] a w) : wpOpIn (FW r) 0 P ops Q i (fun a' w' => S w' ∧ Hel r P ops Q S fuel (listed.setIfInBounds i true) a' w') a w := by
  unfold wpOpIn
  rw [hi]
  simp only []
  unfold WL wpListIn at h
  by_cases hw : Region.wanted o (yielded ops a.tmps) = true
  · rw [if_pos hw] at h ⊢
    refine ⟨h.1, ?_⟩
    have h := h.2
    generalize (o.semAt (FW r).round a.eval).run P w = res at h ⊢
    cases res with
    | ok x w' =>
      cases x with
      | enter f args => exact ⟨h.1, CallsIn.mono h.2 fun e w'' he => by cases e <;> first | exact he | exact he.elim fun _ hh => hh.elim fun _ hh => ⟨_, _, hh⟩⟩
      | row row args => exact ⟨h.1, RowsIn.mono h.2 fun _ _ he => he⟩
      | round l f tmps assign body => exact ⟨h.1, RoundIn.mono h.2 fun e w'' he => by cases e <;> first | exact he | exact he.elim fun _ hh => hh.elim fun _ hh => ⟨_, _, hh⟩⟩
      | _ => exact h
    | halt x w' => cases x <;> exact h
  · rw [if_neg hw] at h ⊢
    exact h

/-- just one may come up: it is walked as in a list of one -/
theorem dr_one (i : Nat) {o : Oper} (hi : ops[i]? = some o) (hr : Region.ready .any ops listed = [i]) (h : WL r P ops (HQ r P ops Q S fuel listed i) [o] a w) : Hel r P ops Q S (fuel + 1) listed a w :=
  ⟨fun h0 => (by rw [hr] at h0; cases h0), fun j hj => by rw [hr, List.mem_singleton] at hj; subst hj; exact Hel.list hi h⟩

theorem dr_two (i j : Nat) {oi oj : Oper} (hi : ops[i]? = some oi) (hj : ops[j]? = some oj) (hr : Region.ready .any ops listed = [i, j])
    (h1 : WL r P ops (HQ r P ops Q S fuel listed i) [oi] a w) (h2 : WL r P ops (HQ r P ops Q S fuel listed j) [oj] a w) : Hel r P ops Q S (fuel + 1) listed a w :=
  ⟨fun h0 => (by rw [hr] at h0; cases h0), fun k hk => by
    rw [hr] at hk
    simp only [List.mem_cons, List.not_mem_nil, or_false] at hk
    rcases hk with rfl | rfl
    · exact Hel.list hi h1
    · exact Hel.list hj h2⟩

theorem dr_three (i j k : Nat) {oi oj ok : Oper} (hi : ops[i]? = some oi) (hj : ops[j]? = some oj) (hk : ops[k]? = some ok) (hr : Region.ready .any ops listed = [i, j, k])
    (h1 : WL r P ops (HQ r P ops Q S fuel listed i) [oi] a w) (h2 : WL r P ops (HQ r P ops Q S fuel listed j) [oj] a w) (h3 : WL r P ops (HQ r P ops Q S fuel listed k) [ok] a w) : Hel r P ops Q S (fuel + 1) listed a w :=
  ⟨fun h0 => (by rw [hr] at h0; cases h0), fun q hq => by
    rw [hr] at hq
    simp only [List.mem_cons, List.not_mem_nil, or_false] at hq
    rcases hq with rfl | rfl | rfl
    · exact Hel.list hi h1
    · exact Hel.list hj h2
    · exact Hel.list hk h3⟩

theorem wanted_none {dst : Option Tmp} {op : Op} {T : TypeId} {pos : String} {af : Array Edge} {y : Nat → Option Bool} : Region.wanted ⟨dst, op, T, pos, af, none⟩ y = true := by simp [Region.wanted]
theorem wanted_on {dst : Option Tmp} {op : Op} {T : TypeId} {pos : String} {af : Array Edge} {j dj : Nat} {b : Bool} (hf : Fr a n ds l) (hj : (ops[j]?).bind (·.dst) = some dj) (hb : lk l dj = some (.bool b)) : Region.wanted ⟨dst, op, T, pos, af, some (j, b)⟩ (yielded ops a.tmps) = true := by
  simp [Region.wanted, yielded, hj, hf.get _ _ hb]
theorem wanted_off {dst : Option Tmp} {op : Op} {T : TypeId} {pos : String} {af : Array Edge} {j dj : Nat} {b : Bool} {u : Value} (hf : Fr a n ds l) (hj : (ops[j]?).bind (·.dst) = some dj) (hb : lk l dj = some u) (hu : u = .bool (!b) ∨ u = undef) :
    Region.wanted ⟨dst, op, T, pos, af, some (j, b)⟩ (yielded ops a.tmps) = false := by
  rcases hu with rfl | rfl <;> simp [Region.wanted, yielded, hj, hf.get _ _ hb, undef]
end
end Go.Z
