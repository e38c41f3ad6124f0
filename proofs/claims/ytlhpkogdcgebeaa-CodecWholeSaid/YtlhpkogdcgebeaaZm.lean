/- A small logic over the model's walk, continued: quiet operations, many at once, reckoned by the kernel. No program in sight. -/
import Derived.Test.YtlhpkogdcgebeaaZl
import Derived.KernelRfl
namespace Go.Z
open Go.RowKit

@[reducible] def R64 (x : Int) : Prop := -9223372036854775808 ≤ x ∧ x ≤ 9223372036854775807

inductive Hint where
  | n
  | b (i o : Nat)
  | e (i o : Nat)
  | pk
  | off
  | on (h : Hint)
  | sy (h : Hint)

/-- what is known of memory -/
structure Kn where
  bs : List (Nat × TypeId × List Value)
  es : List (Addr × List Value)
def Kn.ok (K : Kn) (w : World) : Prop := (∀ b, b ∈ K.bs → Blk w b.1 b.2.1 b.2.2) ∧ (∀ e, e ∈ K.es → Cells w e.1 e.2)
theorem k0 {w : World} : Kn.ok ⟨[], []⟩ w := ⟨fun b h => (by cases h), fun b h => (by cases h)⟩
theorem kb {w : World} {g : Nat} {t : TypeId} {cs : List Value} {bs : List (Nat × TypeId × List Value)} {es : List (Addr × List Value)} (h : Blk w g t cs) (hK : Kn.ok ⟨bs, es⟩ w) : Kn.ok ⟨(g, t, cs) :: bs, es⟩ w :=
  ⟨fun b hb => by rcases List.mem_cons.1 hb with rfl | hb; exact h; exact hK.1 b hb, hK.2⟩
theorem ke {w : World} {E : Addr} {cs : List Value} {bs : List (Nat × TypeId × List Value)} {es : List (Addr × List Value)} (h : Cells w E cs) (hK : Kn.ok ⟨bs, es⟩ w) : Kn.ok ⟨bs, (E, cs) :: es⟩ w :=
  ⟨hK.1, fun b hb => by rcases List.mem_cons.1 hb with rfl | hb; exact h; exact hK.2 b hb⟩

/-! ### what the program's tables say -/
def aggB (P : Program) (t : TypeId) : Option Bool := match P.underlying t with
  | some (.struct _) => some true
  | some (.array _ _) => some true
  | some _ => some false
  | none => none
def szB (P : Program) (t : TypeId) : Option Nat := (P.info? t).map (·.size)
section
variable {P : Program} {t : TypeId}
theorem aggB_run {b : Bool} (h : aggB P t = some b) (w : World) : (isAgg t).run P w = .ok b w := by
  unfold aggB at h
  cases hu : P.underlying t with
  | none => rw [hu] at h; cases h
  | some d =>
    rw [hu] at h
    unfold isAgg
    rw [Sem.run_bind, run_underlying hu, Result.andThen_ok]
    cases d <;> simp at h <;> subst h <;> rfl
theorem szB_run {n : Nat} (h : szB P t = some n) (w : World) : (sizeOf t).run P w = .ok n w := by
  unfold szB at h
  cases hi : P.info? t with
  | none => rw [hi] at h; cases h
  | some i => rw [hi] at h; simp at h; subst h; simp [sizeOf, typeInfo, hi]
theorem zero_run {i : TypeInfo} {z : Value} (hi : P.info? t = some i) (hz : i.zero = some z) (w : World) : (zeroValue t).run P w = .ok z w := by
  simp [zeroValue, typeInfo, hi, hz]
end

/-! ### one operation -/
abbrev QO := Option (List Prop × List (Value × Value) × Value)
def qok (v : Value) : QO := some ([], [], v)
def qar (k : IntKind) (x : Int) : QO := match k with
  | .i64 => some ([R64 x], [], .int .i64 x)
  | k => qok (.int k (k.wrap x))
def qint (op : BinOp) (k : IntKind) (m n : Int) : QO := match op with
  | .add => qar k (m + n)
  | .sub => qar k (m - n)
  | .mul => qar k (m * n)
  | .lss => qok (.bool (decide (m < n)))
  | .leq => qok (.bool (decide (m ≤ n)))
  | .gtr => qok (.bool (decide (n < m)))
  | .geq => qok (.bool (decide (n ≤ m)))
  | .eql => qok (.bool (decide (m = n)))
  | .neq => qok (.bool (decide (m ≠ n)))
  | .quo => match k with
    | .i64 => some ([n ≠ 0, R64 (m.tdiv n)], [], .int .i64 (m.tdiv n))
    | _ => none
  | .rem => some ([n ≠ 0], [], .int k (m.tmod n))
  | _ => none
def qbin (P : Program) (op : BinOp) (t : TypeId) : Option Value → Option Value → QO
  | some (.int k m), some (.int k' n) => if k' = k then qint op k m n else none
  | some (.bool b), some (.bool c) => match P.underlying t with
    | some .bool => match op with
      | .eql => qok (.bool (b == c))
      | .neq => qok (.bool (decide (b ≠ c)))
      | _ => none
    | _ => none
  | some (.string s), some (.string u) => match op with
    | .eql => qok (.bool (decide (s = u)))
    | .neq => qok (.bool (decide (s ≠ u)))
    | _ => none
  | some (.slice A _ _), some (.slice none 0 0) => match P.underlying t with
    | some (.slice _) => match op with
      | .eql => qok (.bool A.isNone)
      | _ => none
    | _ => none
  | some (.pointer (some _)), some (.pointer none) => match P.underlying t with
    | some (.pointer _) => match op with
      | .neq => qok (.bool true)
      | _ => none
    | _ => none
  | _, _ => none
def qconv (P : Program) (s d : TypeId) : Option Value → QO
  | some (.int _ n) => match P.underlying s, P.underlying d with
    | some _, some (.int .i64) => some ([R64 n], [], .int .i64 n)
    | some _, some (.int k) => qok (.int k (k.wrap n))
    | _, _ => none
  | _ => none
def qfa (P : Program) (t : TypeId) (i : Nat) : Option Value → QO
  | some (.pointer (some a)) => match P.underlying t with
    | some (.struct fs) => match fs[i]? with
      | some f => match szB P f.type with
        | some (_ + 1) => qok (.pointer (some (a.add f.offset)))
        | _ => none
      | none => none
    | _ => none
  | _ => none
def qfl (P : Program) (t : TypeId) (i : Nat) : Option Value → QO
  | some (.agg cs) => match P.underlying t with
    | some (.struct fs) => match fs[i]? with
      | some f => match aggB P f.type with
        | some false => match cs[f.offset]? with
          | some v => qok v
          | none => none
        | some true => match szB P f.type with
          | some n => qok (.agg (cs.extract f.offset (f.offset + n)))
          | none => none
        | none => none
      | none => none
    | _ => none
  | _ => none
/-- cells from o on, as a value of type t -/
def qcut (P : Program) (t : TypeId) (cs : List Value) (o : Nat) : Option Value := match aggB P t with
  | some false => cs[o]?
  | some true => match szB P t with
    | some n => if ((cs.drop o).take n).length = n then some (.agg ((cs.drop o).take n).toArray) else none
    | none => none
  | none => none
def qld (P : Program) (K : Kn) (h : Hint) (t : TypeId) : Option Value → QO
  | some (.pointer (some a)) => match h with
    | .b i o => match K.bs[i]? with
      | some (g, _, cs) => match qcut P t cs o with
        | some v => some ([], [(.pointer (some a), .pointer (some ⟨g, o, none⟩))], v)
        | none => none
      | none => none
    | .e i o => match K.es[i]? with
      | some (E, cs) => match qcut P t cs o with
        | some v => some ([], [(.pointer (some a), .pointer (some (E.add o)))], v)
        | none => none
      | none => none
    | _ => none
  | _ => none
def qbi (P : Program) (b : Builtin) : List (Option Value) → List TypeId → QO
  | [some (.slice _ n _)], [t] => match b, P.underlying t with
    | .len, some (.slice _) => qok (.int .i64 (n : Int))
    | _, _ => none
  | [some (.string s)], [t] => match b, P.underlying t with
    | .len, some .string => qok (.int .i64 (s.size : Int))
    | _, _ => none
  | [some (.int k p), some (.int _ q)], _ => match b with
    | .min => qok (.int k (min p q))
    | .max => qok (.int k (max p q))
    | _ => none
  | _, _ => none
def qes (e : Operand → Option Value) : List Operand → Option (List Value)
  | [] => some []
  | x :: r => match e x, qes e r with
    | some v, some vs => some (v :: vs)
    | _, _ => none
def qps (e : Operand → Option Value) : List (Nat × Operand) → Option (List (Nat × Value))
  | [] => some []
  | (i, x) :: r => match e x, qps e r with
    | some v, some vs => some ((i, v) :: vs)
    | _, _ => none
def qpl (P : Program) : List Field → Option (List (Nat × Nat))
  | [] => some []
  | f :: r => match szB P f.type, qpl P r with
    | some n, some l => some ((f.offset, n) :: l)
    | _, _ => none
def qbd (P : Program) (t : TypeId) (vs : Option (List (Nat × Value))) : QO := match vs, P.info? t, P.underlying t with
  | some vs, some i, some (.struct fs) => match i.zero, qpl P fs.toList with
    | some z, some pl => match Instr.fill (pl.toArray[·]?) z.cells vs with
      | some cs => qok (.agg cs)
      | none => none
    | _, _ => none
  | _, _, _ => none
def qv (P : Program) (K : Kn) (h : Hint) (e : Operand → Option Value) : Op → QO
  | .move x => (e x).map fun v => ([], [], v)
  | .assign x => (e x).map fun v => ([], [], v)
  | .pick c x y => match e c with
    | some (.bool true) => (e x).map fun v => ([], [], v)
    | some (.bool false) => (e y).map fun v => ([], [], v)
    | _ => none
  | .unOp .not _ x => match e x with
    | some (.bool b) => qok (.bool (!b))
    | _ => none
  | .extract x i => match e x with
    | some (.tuple vs) => (vs[i]?).map fun v => ([], [], v)
    | _ => none
  | .nilCheck x => match e x with
    | some (.pointer (some a)) => qok (.pointer (some a))
    | _ => none
  | .makeFunc fn xs ys => match qes e xs.toList, qes e ys.toList with
    | some vs, some us => qok (.func fn vs.toArray us.toArray)
    | _, _ => none
  | .binOp op t x y _ => qbin P op t (e x) (e y)
  | .convert s d x => qconv P s d (e x)
  | .fieldAddr t x i => qfa P t i (e x)
  | .field t x i => qfl P t i (e x)
  | .load t x => qld P K h t (e x)
  | .call { callee := .builtin b, args := xs, argTypes := ts } => qbi P b (xs.toList.map e) ts.toList
  | .build t ps => qbd P t (qps e ps.toList)
  | _ => none

section
variable {P : Program} {K : Kn} {a : Act} {w : World} {d : Option Tmp} {T : TypeId} {pos : String} {af : Array Edge} {gd : Option (Nat × Bool)} {e : Operand → Option Value}
theorem qes_eval (he : ∀ x v, e x = some v → a.eval x = v) : ∀ (xs : List Operand) {vs : List Value}, qes e xs = some vs → xs.toArray.map a.eval = vs.toArray := by
  intro xs
  induction xs with
  | nil => intro vs h; simp only [qes, Option.some.injEq] at h; subst h; simp
  | cons x r ih =>
    intro vs h
    unfold qes at h
    cases hx : e x with
    | none => simp [hx] at h
    | some v => cases hr : qes e r with
      | none => simp [hx, hr] at h
      | some us =>
        simp only [hx, hr, Option.some.injEq] at h
        subst h
        have := ih hr
        simp only [List.map_toArray, List.map_cons, he x v hx] at this ⊢
        rw [Array.mk.injEq] at this
        rw [this]
theorem qps_eval (he : ∀ x v, e x = some v → a.eval x = v) : ∀ (xs : List (Nat × Operand)) {vs : List (Nat × Value)}, qps e xs = some vs → xs.toArray.map (fun (i, x) => (i, a.eval x)) = vs.toArray := by
  intro xs
  induction xs with
  | nil => intro vs h; simp only [qps, Option.some.injEq] at h; subst h; simp
  | cons x r ih =>
    obtain ⟨i, x⟩ := x
    intro vs h
    unfold qps at h
    cases hx : e x with
    | none => simp [hx] at h
    | some v => cases hr : qps e r with
      | none => simp [hx, hr] at h
      | some us =>
        simp only [hx, hr, Option.some.injEq] at h
        subst h
        have := ih hr
        simp only [List.map_toArray, List.map_cons, he x v hx] at this ⊢
        rw [Array.mk.injEq] at this
        rw [this]
theorem qpl_run : ∀ (fs : List Field) {pl : List (Nat × Nat)}, qpl P fs = some pl → ∀ w, (fs.mapM fun f => do pure (f.offset, ← sizeOf f.type) : Sem (List (Nat × Nat))).run P w = .ok pl w := by
  intro fs
  induction fs with
  | nil => intro pl h w; simp only [qpl, Option.some.injEq] at h; subst h; rfl
  | cons f r ih =>
    intro pl h w
    unfold qpl at h
    cases hs : szB P f.type with
    | none => simp [hs] at h
    | some n => cases hr : qpl P r with
      | none => simp [hs, hr] at h
      | some l =>
        simp only [hs, hr, Option.some.injEq] at h
        subst h
        rw [List.mapM_cons]
        simp only [Sem.run_bind, szB_run hs, Result.andThen_ok, Sem.run_pure, ih hr]
theorem qpl_arr {fs : Array Field} {pl : List (Nat × Nat)} (h : qpl P fs.toList = some pl) (w : World) : (fs.mapM fun f => do pure (f.offset, ← sizeOf f.type) : Sem (Array (Nat × Nat))).run P w = .ok pl.toArray w := by
  have h1 := qpl_run fs.toList h w
  rw [Array.mapM_eq_mapM_toList, map_eq_pure_bind, Sem.run_bind, h1]
  rfl

theorem qar_ok {k : IntKind} {x : Int} {c : List Prop} {q : List (Value × Value)} {v : Value} (h : qar k x = some (c, q, v)) (hc : ∀ p, p ∈ c → p) : v = .int k (k.wrap x) := by
  unfold qar at h
  split at h
  · injection h with h; injection h with h1 h; injection h with h2 h; subst h; subst h1
    rw [IntWalk.i64_in _ (hc _ (List.mem_singleton.2 rfl))]
  · unfold qok at h; injection h with h; injection h with h1 h; injection h with h2 h; exact h.symm
theorem qok_ok {u v : Value} {c : List Prop} {q : List (Value × Value)} (h : qok u = some (c, q, v)) : v = u := by
  unfold qok at h; injection h with h; injection h with h1 h; injection h with h2 h; exact h.symm

theorem qcut_load {t : TypeId} {x : Operand} {cs : List Value} {o : Nat} {v : Value} {A : Addr} (h : qcut P t cs o = some v) (hx : a.eval x = .pointer (some A)) (hcell : ∀ j u, cs[o + j]? = some u → w.cell? (A.add j) = some u) :
    (execOp a.eval ⟨d, .load t x, T, pos, af, gd⟩).run P w = .ok (.value v) w := by
  unfold qcut at h
  split at h
  · rename_i hA
    refine r_load1 (fun w => aggB_run hA w) hx ?_
    have := hcell 0 v (by simpa using h)
    rwa [Addr.add_zero'] at this
  · rename_i hA
    split at h
    · rename_i n hS
      split at h
      · rename_i hl
        injection h with h; subst h
        refine r_loadN (fun w => aggB_run hA w) (fun w => szB_run hS w) hx hl fun j u hj => hcell j u ?_
        have hjn : j < n := by have := (List.getElem?_eq_some_iff.1 hj).1; rw [hl] at this; exact this
        rwa [List.getElem?_take_of_lt hjn, List.getElem?_drop] at hj
      · cases h
    · cases h
  · cases h

theorem qint_ok {op : BinOp} {t ty : TypeId} {k : IntKind} {m n : Int} {x y : Operand} {c : List Prop} {q : List (Value × Value)} {v : Value} (h : qint op k m n = some (c, q, v)) (hc : ∀ p, p ∈ c → p) (hx : a.eval x = .int k m) (hy : a.eval y = .int k n) :
    (execOp a.eval ⟨d, .binOp op t x y ty, T, pos, af, gd⟩).run P w = .ok (.value v) w := by
  unfold qint at h
  split at h
  · rw [qar_ok h hc]; exact r_add hx hy
  · rw [qar_ok h hc]; exact r_sub hx hy
  · rw [qar_ok h hc]; exact r_mul hx hy
  · rw [qok_ok h]; exact r_lss hx hy
  · rw [qok_ok h]; exact r_leq hx hy
  · rw [qok_ok h]; exact r_gtr hx hy
  · rw [qok_ok h]; exact r_geq hx hy
  · rw [qok_ok h]; exact r_eql hx hy
  · rw [qok_ok h]; exact r_neq hx hy
  · split at h
    · injection h with h; injection h with h1 h; injection h with h2 h; subst h; subst h1
      exact r_quow hx hy (hc _ (by simp)) (IntWalk.i64_in _ (hc _ (by simp)))
    · cases h
  · injection h with h; injection h with h1 h; injection h with h2 h; subst h; subst h1
    exact r_rem hx hy (hc _ (by simp))
  · cases h

theorem qbin_ok {op : BinOp} {t ty : TypeId} {x y : Operand} {c : List Prop} {q : List (Value × Value)} {v : Value} (he : ∀ x v, e x = some v → a.eval x = v) (h : qbin P op t (e x) (e y) = some (c, q, v)) (hc : ∀ p, p ∈ c → p) :
    (execOp a.eval ⟨d, .binOp op t x y ty, T, pos, af, gd⟩).run P w = .ok (.value v) w := by
  unfold qbin at h
  split at h
  · rename_i k m k' n hx hy
    split at h
    · rename_i hk; subst hk; exact qint_ok h hc (he _ _ hx) (he _ _ hy)
    · cases h
  · rename_i b c' hx hy
    split at h
    · rename_i hu
      split at h
      · rw [qok_ok h]; exact r_eqb hu (he _ _ hx) (he _ _ hy)
      · rw [qok_ok h]; exact r_neb' hu (he _ _ hx) (he _ _ hy)
      · cases h
    · cases h
  · rename_i s u hx hy
    split at h
    · rw [qok_ok h]; exact r_eqs (he _ _ hx) (he _ _ hy)
    · rw [qok_ok h]; exact r_nes' (he _ _ hx) (he _ _ hy)
    · cases h
  · rename_i A n c' hx hy
    split at h
    · rename_i hu
      split at h
      · rw [qok_ok h]; exact r_eqnil hu (he _ _ hx) (he _ _ hy)
      · cases h
    · cases h
  · rename_i A hx hy
    split at h
    · rename_i hu
      split at h
      · rw [qok_ok h]; exact r_neptr_nil hu (he _ _ hx) (he _ _ hy)
      · cases h
    · cases h
  · cases h

theorem qv_ok {hn : Hint} {op : Op} {c : List Prop} {q : List (Value × Value)} {v : Value} (he : ∀ x v, e x = some v → a.eval x = v) (hK : K.ok w) (h : qv P K hn e op = some (c, q, v)) (hc : ∀ p, p ∈ c → p) (hq : ∀ p, p ∈ q → p.1 = p.2) :
    (execOp a.eval ⟨d, op, T, pos, af, gd⟩).run P w = .ok (.value v) w := by
  unfold qv at h
  split at h
  · rename_i x
    cases hx : e x with
    | none => simp [hx] at h
    | some u => simp [hx] at h; obtain ⟨_, _, rfl⟩ := h; exact r_move (he _ _ hx)
  · rename_i x
    cases hx : e x with
    | none => simp [hx] at h
    | some u => simp [hx] at h; obtain ⟨_, _, rfl⟩ := h; exact r_assign (he _ _ hx)
  · rename_i c' x y
    split at h
    · rename_i hcd
      cases hx : e x with
      | none => simp [hx] at h
      | some u => simp [hx] at h; obtain ⟨_, _, rfl⟩ := h; exact r_pick_t (he _ _ hcd) (he _ _ hx)
    · rename_i hcd
      cases hx : e y with
      | none => simp [hx] at h
      | some u => simp [hx] at h; obtain ⟨_, _, rfl⟩ := h; exact r_pick_f (he _ _ hcd) (he _ _ hx)
    · cases h
  · split at h
    · rename_i hx; rw [qok_ok h]; exact r_not (he _ _ hx)
    · cases h
  · rename_i x i
    split at h
    · rename_i vs hx
      cases hi : vs[i]? with
      | none => simp [hi] at h
      | some u => simp [hi] at h; obtain ⟨_, _, rfl⟩ := h; exact r_extract (he _ _ hx) hi
    · cases h
  · split at h
    · rename_i hx; rw [qok_ok h]; exact r_nilCheck (he _ _ hx)
    · cases h
  · rename_i fn xs ys
    split at h
    · rename_i vs us hx hy
      rw [qok_ok h]
      have h1 := qes_eval he _ hx
      have h2 := qes_eval he _ hy
      simp only [Array.toArray_toList] at h1 h2
      exact r_makeFunc h1 h2
    · cases h
  · exact qbin_ok he h hc
  · rename_i s d' x
    unfold qconv at h
    split at h
    · rename_i k n hx
      split at h
      · rename_i hs hd
        injection h with h; injection h with h1 h; injection h with h2 h; subst h; subst h1
        exact r_convw hs hd (he _ _ hx) (IntWalk.i64_in _ (hc _ (List.mem_singleton.2 rfl)))
      · rename_i hs hd
        rw [qok_ok h]; exact r_conv hs hd (he _ _ hx)
      · cases h
    · cases h
  · unfold qfa at h
    split at h
    · rename_i A hx
      split at h
      · rename_i fs hu
        split at h
        · rename_i f hf
          split at h
          · rename_i m hs
            rw [qok_ok h]; exact r_fieldAddr' hu hf (fun w => szB_run hs w) (he _ _ hx)
          · cases h
        · cases h
      · cases h
    · cases h
  · unfold qfl at h
    split at h
    · rename_i cs hx
      split at h
      · rename_i fs hu
        split at h
        · rename_i f hf
          split at h
          · rename_i hA
            split at h
            · rename_i u hv
              rw [qok_ok h]
              have := he _ _ hx
              simp [execOp, Instr.field, run_underlying hu, hf, this, asAgg, part, aggB_run hA, hv]
            · cases h
          · rename_i hA
            split at h
            · rename_i n hs
              rw [qok_ok h]
              have := he _ _ hx
              simp [execOp, Instr.field, run_underlying hu, hf, this, asAgg, part, aggB_run hA, szB_run hs]
            · cases h
          · cases h
        · cases h
      · cases h
    · cases h
  · unfold qld at h
    split at h
    · rename_i A hx
      split at h
      · split at h
        · rename_i i o _ g bt cs hb
          split at h
          · rename_i u hcut
            injection h with h; injection h with h1 h; injection h with h2 h; subst h; subst h2
            have hA : Value.pointer (some A) = .pointer (some ⟨g, o, none⟩) := hq _ (List.mem_singleton.2 rfl)
            have hB : Blk w g bt cs := hK.1 _ (List.mem_of_getElem? hb)
            refine qcut_load hcut ((he _ _ hx).trans hA) fun j u hj => ?_
            rw [Addr.add_lit, hB.cell]; exact hj
          · cases h
        · cases h
      · split at h
        · rename_i i o _ E cs hb
          split at h
          · rename_i u hcut
            injection h with h; injection h with h1 h; injection h with h2 h; subst h; subst h2
            have hA : Value.pointer (some A) = .pointer (some (E.add o)) := hq _ (List.mem_singleton.2 rfl)
            have hB : Cells w E cs := hK.2 _ (List.mem_of_getElem? hb)
            refine qcut_load hcut ((he _ _ hx).trans hA) fun j u hj => ?_
            rw [add_add]; exact hB _ _ hj
          · cases h
        · cases h
      · cases h
    · cases h
  · rename_i b xs ts
    unfold qbi at h
    split at h
    · rename_i A n c' t h1 h2
      split at h
      · rename_i hu
        rw [qok_ok h]
        obtain ⟨x, rfl, hx⟩ : ∃ x, xs = #[x] ∧ e x = some (.slice A n c') := by
          obtain ⟨l⟩ := xs
          rcases l with _ | ⟨x, _ | ⟨y, l⟩⟩
          · simp at h1
          · exact ⟨x, rfl, by simpa using h1⟩
          · simp at h1
        obtain rfl : ts = #[t] := by obtain ⟨l⟩ := ts; simp at h2; rw [h2]
        exact r_len hu (he _ _ hx)
      · cases h
    · rename_i s t h1 h2
      split at h
      · rename_i hu
        rw [qok_ok h]
        obtain ⟨x, rfl, hx⟩ : ∃ x, xs = #[x] ∧ e x = some (.string s) := by
          obtain ⟨l⟩ := xs
          rcases l with _ | ⟨x, _ | ⟨y, l⟩⟩
          · simp at h1
          · exact ⟨x, rfl, by simpa using h1⟩
          · simp at h1
        obtain rfl : ts = #[t] := by obtain ⟨l⟩ := ts; simp at h2; rw [h2]
        exact r_lens hu (he _ _ hx)
      · cases h
    · rename_i k p k' q' h1
      obtain ⟨x, y, rfl, hx, hy⟩ : ∃ x y, xs = #[x, y] ∧ e x = some (.int k p) ∧ e y = some (.int k' q') := by
        obtain ⟨l⟩ := xs
        rcases l with _ | ⟨x, _ | ⟨y, _ | ⟨z, l⟩⟩⟩
        · simp at h1
        · simp at h1
        · simp at h1; exact ⟨x, y, rfl, h1.1, h1.2⟩
        · simp at h1
      split at h
      · rw [qok_ok h]; exact r_min (he _ _ hx) (he _ _ hy)
      · rw [qok_ok h]; exact r_max (he _ _ hx) (he _ _ hy)
      · cases h
    · cases h
  · rename_i t ps
    unfold qbd at h
    split at h
    · rename_i vs i fs hvs hi hu
      split at h
      · rename_i z pl hz hpl
        split at h
        · rename_i cs hcs
          rw [qok_ok h]
          have h1 := qps_eval he _ hvs
          simp only [Array.toArray_toList] at h1
          simp only [execOp, Instr.build, h1]
          simp only [Sem.run_bind, zero_run hi hz, Result.andThen_ok, run_underlying hu]
          rw [qpl_arr hpl w]
          simp only [Result.andThen_ok, hcs, Sem.run_pure]
        · cases h
      · cases h
    · cases h
  · cases h
end
end Go.Z
