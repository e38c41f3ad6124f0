/- A small logic over the model's walk, continued: code in open posts, ranges of data, small steps. No program in sight. -/
import Derived.Test.YtlhpkogdcgebeaaZd
import Derived.Defers
namespace Go.Z
open Go.RowKit

/-- a post that looks at no slot where a panic leaves -/
def Pq (Q : Exit → Act → World → Prop) : Prop := ∀ c a d v w, Q (.panic c) (Act.put a d v) w → Q (.panic c) a w

theorem put_defers (a : Act) (d : Option Tmp) (v : Value) : (a.put d v).defers = a.defers := by cases d <;> rfl
theorem Pq.body (P : Program) (fn : Func) (R : Ending → World → Prop) : Pq (bodyPost P fn R) := fun c a d v w h => by
  obtain ⟨h1, h2⟩ := h
  rw [put_defers] at h1
  exact ⟨h1, h2⟩

section
variable {r : Option Nat} {P : Program} {Q : Exit → Act → World → Prop} {a : Act} {w : World} {n : Nat} {ds : List Deferred} {l : List (Nat × Value)}

/-- one piece behind the other, the rest behind a name -/
theorem seq' (hp : Pq Q) {x y : Code} (h : ∀ Q' : Exit → Act → World → Prop, Pq Q' → (∀ a w, WP r P y Q a w → Q' .normal a w) → (∀ e a w, e ≠ .normal → Q e a w → Q' e a w) → WP r P x Q' a w) : WP r P (Code.seq x y) Q a w := by
  refine wpIn_seq (h _ (fun c a d v w hc => hp c a d v w hc) (fun _ _ h => h) (fun e a w hne hq => ?_))
  cases e <;> first | exact hq | exact absurd rfl hne

/-- one piece behind the other, by what holds between them -/
theorem cut' (hp : Pq Q) {x y : Code} (M : Act → World → Prop) (h : ∀ Q' : Exit → Act → World → Prop, Pq Q' → (∀ a w, M a w → Q' .normal a w) → (∀ e a w, e ≠ .normal → Q e a w → Q' e a w) → WP r P x Q' a w) (hy : ∀ a w, M a w → WP r P y Q a w) : WP r P (Code.seq x y) Q a w :=
  seq' hp fun Q' hp' hn he => h Q' hp' (fun a w hm => hn a w (hy a w hm)) he

theorem block' (hp : Pq Q) {id : Nat} {c : Code} (h : ∀ Q' : Exit → Act → World → Prop, Pq Q' → (∀ a w, Q .normal a w → Q' .normal a w) → (∀ a w, Q .normal a w → Q' (.exit id) a w) → (∀ e a w, e ≠ .normal → e ≠ .exit id → Q e a w → Q' e a w) → WP r P c Q' a w) : WP r P (Code.block id c) Q a w := by
  refine wpIn_block (h (Exit.inBlock id Q) (fun c a d v w hc => hp c a d v w hc) (fun _ _ h => h) (fun a w hq => ?_) (fun e a w h1 h2 hq => ?_))
  · simp [Exit.inBlock, hq]
  · cases e <;> first | exact hq | (rename_i i; have : i ≠ id := fun e => h2 (by rw [e]); simp [Exit.inBlock, this, hq])

theorem loop' (hp : Pq Q) {c : Code} (I : Nat → Act → World → Prop) (m : Nat) (h0 : I m a w)
    (h : ∀ m a w, I m a w → ∀ Q' : Exit → Act → World → Prop, Pq Q' → (∀ m' a w, m' < m → I m' a w → Q' .normal a w) → (∀ e a w, e ≠ .normal → Q e a w → Q' e a w) → WP r P c Q' a w) : WP r P (Code.loop c) Q a w :=
  loop I m h0 fun m a w hI => by
    refine h m a w hI _ (fun c a d v w hc => hp c a d v w hc) (fun m' a w hlt hI' => ⟨m', hlt, hI'⟩) (fun e a w hne hq => ?_)
    cases e <;> first | exact hq | exact absurd rfl hne

theorem Fr.setb (h : Fr a n ds l) {d : Nat} {b b' : Bool} (hd : lk l d = some (.bool b)) (e : b = b') : Fr a n ds ((d, .bool b') :: l) := h.cons h (by rw [hd, e])
theorem Fr.seti (h : Fr a n ds l) {d : Nat} {k : IntKind} {x y : Int} (hd : lk l d = some (.int k x)) (e : x = y) : Fr a n ds ((d, .int k y) :: l) := h.cons h (by rw [hd, e])
theorem Fr.setv (h : Fr a n ds l) {d : Nat} {x y : Value} (hd : lk l d = some x) (e : x = y) : Fr a n ds ((d, y) :: l) := h.cons h (by rw [hd, e])

theorem r_indexAddrA {d : Option Tmp} {T : TypeId} {pos : String} {af : Array Edge} {gd : Option (Nat × Bool)} {t e : TypeId} {x y : Operand} {g : Nat} {A : Option Addr} {ad : Addr} {len c : Nat} {i : Int} {kd : IntKind} {k : Nat} (ht : P.underlying t = some (.slice e)) (hS : ∀ w, (sizeOf e).run P w = .ok g w) (hx : a.eval x = .slice A len c) (hA : A = some ad) (hy : a.eval y = .int kd i) (hi : i = (k : Int)) (h1 : k < len) :
    (execOp a.eval ⟨d, .indexAddr t x y, T, pos, af, gd⟩).run P w = .ok (.value (.pointer (some (ad.add (k * g))))) w := by
  subst hA; subst hi
  have := r_indexAddr (P := P) (a := a) (w := w) (d := d) (T := T) (pos := pos) (af := af) (gd := gd) ht hS hx hy (by omega) (by omega)
  simpa using this
end

theorem pos_size : ∀ t : Ty, 0 < t.size
  | .pair a _ => by have := pos_size a; simp only [Ty.size]; omega
  | .int _ => by simp [Ty.size]
  | .byte => by simp [Ty.size]
  | .bool => by simp [Ty.size]
  | .str => by simp [Ty.size]
  | .slice _ => by simp [Ty.size]

/-- what a datum's numbers and texts are within -/
def Ty.ok : (t : Ty) → t.den → Prop
  | .int k, x => k.has x
  | .byte, _ => True
  | .bool, _ => True
  | .str, x => x.size ≤ maxLen
  | .slice e, xs => xs.length ≤ maxLen ∧ ∀ x ∈ xs, e.ok x
  | .pair a b, x => a.ok x.1 ∧ b.ok x.2

theorem rep_ok {w : World} {F : Nat → Prop} : ∀ (t : Ty) {cs : List Value} {x : t.den}, t.rep w F cs x → t.ok x
  | .int _, _, _, h => h.2
  | .byte, _, _, _ => trivial
  | .bool, _, _, _ => trivial
  | .str, _, _, h => h.2
  | .slice e, _, xs, h => by
    obtain ⟨A, c, cells, h1, h2, h3, h4, h5, h6⟩ := h
    refine ⟨by omega, fun x hx => ?_⟩
    obtain ⟨i, hi, rfl⟩ := List.getElem_of_mem hx
    exact rep_ok e (h6 i _ (List.getElem?_eq_getElem hi))
  | .pair a b, _, _, h => by
    obtain ⟨ca, cb, h, ha, hb⟩ := h
    exact ⟨rep_ok a ha, rep_ok b hb⟩

theorem has_i64 {n : Int} (h : IntKind.i64.has n) : -9223372036854775808 ≤ n ∧ n ≤ 9223372036854775807 := by
  simpa [IntKind.has, IntKind.min, IntKind.max, IntKind.bits, IntKind.signed] using h
theorem i64_has {n : Int} (h : -9223372036854775808 ≤ n ∧ n ≤ 9223372036854775807) : IntKind.i64.has n := by
  simpa [IntKind.has, IntKind.min, IntKind.max, IntKind.bits, IntKind.signed] using h

/-- an element of a slice that reads, by a name -/
theorem rep_elem {w : World} {F : Nat → Prop} {e : Ty} {A : Option Addr} {n c : Nat} {xs : List e.den} (h : (Ty.slice e).rep w F [.slice A n c] xs) {k : Nat} (hk : k < xs.length) :
    ∃ ad es x, A = some ad ∧ xs[k]? = some x ∧ (∀ j u, es[j]? = some u → w.cell? ((ad.add (k * e.size)).add j) = some u) ∧ e.rep w F es x := by
  obtain ⟨ad, es, h1, h2, h3⟩ := rep_at h hk
  exact ⟨ad, es, _, h1, List.getElem?_eq_getElem hk, h2, h3⟩

/-- the slice's own row, once it is asked for -/
theorem Own.rep' {t : Ty} {e : TypeId} {B : Nat} {w : World} {F F' : Nat → Prop} {A : Option Addr} {c : Nat} {xs : List t.den} (h : Own t e B w F A c xs) (hF : ∀ b, F b → F' b) (hA : ∀ b, B ≤ b → b < w.heap.size → F' b) : (Ty.slice t).rep w F' [.slice A xs.length c] xs :=
  h.rep hF fun k hk => hA k (h.lt k hk).1 (h.lt k hk).2

/-- what reads lies among the blocks that stand -/
theorem rep_in {w : World} {F : Nat → Prop} : ∀ (t : Ty) {cs : List Value} {x : t.den}, t.rep w F cs x → t.rep w (fun b => F b ∧ b < w.heap.size) cs x
  | .int _, _, _, h => h
  | .byte, _, _, h => h
  | .bool, _, _, h => h
  | .str, _, _, h => h
  | .slice e, _, xs, h => by
    obtain ⟨A, c, cells, h1, h2, h3, h4, h5, h6⟩ := h
    by_cases hz : cells.length = 0
    · have h7 : ∀ i x, xs[i]? = some x → e.size = 0 := fun i x hi => by
        have hl := (List.getElem?_eq_some_iff.1 hi).1
        rw [hz] at h4
        rcases Nat.mul_eq_zero.1 h4.symm with h | h
        · omega
        · exact h
      refine ⟨A, c, cells, h1, h2, h3, h4, ?_, fun i x hi => rep_in e (h6 i x hi)⟩
      by_cases hx : xs.length = 0
      · exact .inl hx
      · have hp := pos_size e
        rw [hz] at h4
        rcases Nat.mul_eq_zero.1 h4.symm with h | h <;> omega
    · refine ⟨A, c, cells, h1, h2, h3, h4, ?_, fun i x hi => rep_in e (h6 i x hi)⟩
      rcases h5 with h5 | ⟨b, o, hA, hb, hc⟩
      · exact .inl h5
      · exact .inr ⟨b, o, hA, ⟨hb, World.block_lt_of_cell? w _ (hc 0 _ (List.getElem?_eq_getElem (by omega)))⟩, hc⟩
  | .pair a b, _, _, h => by
    obtain ⟨ca, cb, h, ha, hb⟩ := h
    exact ⟨ca, cb, h, rep_in a ha, rep_in b hb⟩

/-- blocks from one number to another -/
def iv (lo hi : Nat) : Nat → Prop := fun b => lo ≤ b ∧ b < hi
@[reducible] def no : Nat → Prop := fun _ => False
theorem Own.riv {t : Ty} {e : TypeId} {B : Nat} {w : World} {A : Option Addr} {c : Nat} {xs : List t.den} (h : Own t e B w no A c xs) : (Ty.slice t).rep w (iv B w.heap.size) [.slice A xs.length c] xs :=
  h.rep' (fun _ hb => hb.elim) (fun _ h1 h2 => ⟨h1, h2⟩)
/-! ### elements in place -/
/-- the cells from an address on -/
def Cells (w : World) (E : Addr) (es : List Value) : Prop := ∀ j u, es[j]? = some u → w.cell? (E.add j) = some u
theorem Cells.ch {w w' : World} {E : Addr} {es : List Value} {S : List Nat} (h : Cells w E es) (hc : Ch S w w') (hE : E.block < w.heap.size → E.block ∉ S) : Cells w' E es := fun j u hu => by
  have h1 := h j u hu
  have hb : (E.add j).block = E.block := by unfold Addr.add; split <;> rfl
  have hl := World.block_lt_of_cell? w _ h1
  rw [hc.cell hl (by rw [hb] at hl ⊢; exact hE hl)]
  exact h1
theorem Cells.ch0 {w w' : World} {E : Addr} {es : List Value} (h : Cells w E es) (hc : Ch [] w w') : Cells w' E es := h.ch hc (by simp)

theorem rep_el {w : World} {F : Nat → Prop} {e : Ty} {A : Option Addr} {n c : Nat} {xs : List e.den} (h : (Ty.slice e).rep w F [.slice A n c] xs) {k : Nat} (hk : k < xs.length) :
    ∃ ad es x, A = some ad ∧ F ad.block ∧ ad.block < w.heap.size ∧ xs[k]? = some x ∧ Cells w (ad.add (k * e.size)) es ∧ e.rep w F es x := by
  obtain ⟨A', c', cells, h1, h2, h3, h4, h5, h6⟩ := h
  injection h1 with h1
  injection h1 with hA hn hc
  subst hA
  rcases h5 with h5 | ⟨b, o, rfl, hb, hcell⟩
  · omega
  · have hs := pos_size e
    have hk2 : k * e.size < cells.length := by
      rw [h4]; exact Nat.mul_lt_mul_of_pos_right hk hs
    refine ⟨_, _, _, rfl, hb, World.block_lt_of_cell? w ⟨b, o + k * e.size, none⟩ (hcell (k * e.size) _ (List.getElem?_eq_getElem hk2)), List.getElem?_eq_getElem hk, fun j u hu => ?_, h6 k _ (List.getElem?_eq_getElem hk)⟩
    rw [Addr.add_lit, Addr.add_lit]
    have hj : j < e.size := by
      have := (List.getElem?_eq_some_iff.1 hu).1
      simp only [List.length_take] at this
      omega
    rw [List.getElem?_take_of_lt hj, List.getElem?_drop] at hu
    rw [Nat.add_assoc]
    exact hcell _ _ hu

section
variable {P : Program} {a : Act} {w : World} {d : Option Tmp} {T : TypeId} {pos : String} {af : Array Edge} {gd : Option (Nat × Bool)}
theorem r_indexAddrE {t e : TypeId} {x y : Operand} {g : Nat} {A : Option Addr} {ad : Addr} {len c : Nat} {i : Int} {kd : IntKind} {k : Nat} (ht : P.underlying t = some (.slice e)) (hS : ∀ w, (sizeOf e).run P w = .ok g w) (hx : a.eval x = .slice A len c) (hA : A = some ad) (hy : a.eval y = .int kd i) (hi : i = (k : Int)) (h1 : k < len) :
    (execOp a.eval ⟨d, .indexAddr t x y, T, pos, af, gd⟩).run P w = .ok (.value (.pointer (some ((ad.add (k * g)).add 0)))) w := by
  rw [r_indexAddrA ht hS hx hA hy hi h1, Addr.add_zero']
theorem add_add (E : Addr) (i j : Nat) : (E.add i).add j = E.add (i + j) := by
  unfold Addr.add
  by_cases hi : i = 0 <;> by_cases hj : j = 0 <;> simp [hi, hj, Nat.add_assoc]
theorem r_fieldAddrE {t : TypeId} {x : Operand} {fs : Array Field} {f : Field} {i m o o' : Nat} {E : Addr} (ht : P.underlying t = some (.struct fs)) (hf : fs[i]? = some f) (hS : ∀ w, (sizeOf f.type).run P w = .ok (m + 1) w) (hx : a.eval x = .pointer (some (E.add o)))
    (ho : o + f.offset = o') : (execOp a.eval ⟨d, .fieldAddr t x i, T, pos, af, gd⟩).run P w = .ok (.value (.pointer (some (E.add o')))) w := by
  rw [r_fieldAddr' ht hf hS hx, add_add, ho]
theorem r_loadE1 {t : TypeId} {x : Operand} {E : Addr} {es : List Value} {v : Value} {o : Nat} (hA : ∀ w, (isAgg t).run P w = .ok false w) (hx : a.eval x = .pointer (some (E.add o))) (hc : Cells w E es) (hv : es[o]? = some v) :
    (execOp a.eval ⟨d, .load t x, T, pos, af, gd⟩).run P w = .ok (.value v) w := r_load1 hA hx (hc o v hv)
theorem r_loadEN {t : TypeId} {x : Operand} {E : Addr} {es sub : List Value} {o n : Nat} (hA : ∀ w, (isAgg t).run P w = .ok true w) (hS : ∀ w, (sizeOf t).run P w = .ok n w) (hx : a.eval x = .pointer (some (E.add o))) (hc : Cells w E es) (hv : (es.drop o).take n = sub) (hn : sub.length = n) :
    (execOp a.eval ⟨d, .load t x, T, pos, af, gd⟩).run P w = .ok (.value (.agg sub.toArray)) w :=
  r_loadN hA hS hx hn fun j u hj => by
    rw [add_add]
    refine hc _ _ ?_
    subst hv
    have hjn : j < n := by
      have := (List.getElem?_eq_some_iff.1 hj).1
      rw [hn] at this
      exact this
    rw [List.getElem?_take_of_lt hjn, List.getElem?_drop] at hj
    exact hj
end

theorem Blk.cast {w : World} {g : Nat} {t : TypeId} {cs cs' : List Value} (h : Blk w g t cs) (e : cs = cs') : Blk w g t cs' := e ▸ h
theorem rep_eq {w : World} {F : Nat → Prop} {e : Ty} {A : Option Addr} {n c : Nat} {xs ys : List e.den} (h : (Ty.slice e).rep w F [.slice A n c] xs) (hx : xs = ys) : (Ty.slice e).rep w F [.slice A ys.length c] ys := by
  subst hx
  rw [(rep_slice_len h).1]
  exact h
/-- a slice of a slice that reads, read -/
theorem rep_cut {w : World} {F : Nat → Prop} {e : Ty} {A : Option Addr} {n c : Nat} {xs : List e.den} (h : (Ty.slice e).rep w F [.slice A n c] xs) (u v m : Nat) (h1 : u ≤ v) (h2 : v ≤ xs.length) (h3 : v ≤ m) (h4 : m ≤ c) :
    (Ty.slice e).rep w F [.slice (cutA A m u e.size) ((xs.take v).drop u).length (m - u)] ((xs.take v).drop u) := by
  have hl := rep_slice_len h
  have ht := rep_take h h2
  have hn : (xs.take v).length = v := by rw [List.length_take]; omega
  have hd := rep_drop ht (k := u) (c' := m - u) (A' := cutA A m u e.size) (by omega) (by omega) (by omega) (fun hlt ad hA => by
    subst hA
    unfold cutA
    rw [if_neg (by omega)]
    rfl)
  rw [List.length_drop, hn]
  exact hd
theorem rep_cut0 {w : World} {F : Nat → Prop} {e : Ty} {A : Option Addr} {n c : Nat} {xs : List e.den} (h : (Ty.slice e).rep w F [.slice A n c] xs) (u : Nat) (h1 : u ≤ xs.length) :
    (Ty.slice e).rep w F [.slice (cutA A c u e.size) (xs.drop u).length (c - u)] (xs.drop u) := by
  have hl := rep_slice_len h
  have := rep_cut h u xs.length c h1 (Nat.le_refl _) (by omega) (Nat.le_refl _)
  rwa [List.take_length] at this
theorem rep_cuth {w : World} {F : Nat → Prop} {e : Ty} {A : Option Addr} {n c : Nat} {xs : List e.den} (h : (Ty.slice e).rep w F [.slice A n c] xs) (v : Nat) (h1 : v ≤ xs.length) :
    (Ty.slice e).rep w F [.slice A (xs.take v).length c] (xs.take v) := by
  have hn : (xs.take v).length = v := by rw [List.length_take]; omega
  have := rep_take h h1
  rwa [hn]
theorem rep_cuthm {w : World} {F : Nat → Prop} {e : Ty} {A : Option Addr} {n c : Nat} {xs : List e.den} (h : (Ty.slice e).rep w F [.slice A n c] xs) (v m : Nat) (h1 : v ≤ xs.length) (h2 : v ≤ m) (h3 : m ≤ c) :
    (Ty.slice e).rep w F [.slice A (xs.take v).length m] (xs.take v) := by
  have hl := rep_slice_len h
  have := rep_cut h 0 v m (Nat.zero_le _) h1 h2 h3
  have e0 : cutA A m 0 e.size = A := by unfold cutA; split <;> (try rfl); cases A <;> simp [Addr.add]
  rw [e0] at this
  simpa using this
theorem u8_of {m : Int} (h : 0 ≤ m ∧ m ≤ 255) : m = ((UInt8.ofNat m.toNat).toNat : Int) := by
  have : (UInt8.ofNat m.toNat).toNat = m.toNat % 256 := by simp
  omega
theorem u64_in (n : Int) (h : 0 ≤ n ∧ n ≤ 18446744073709551615) : IntKind.u64.wrap n = n := by simp [IntKind.wrap, IntKind.bits, IntKind.signed]; omega
theorem u16_in (n : Int) (h : 0 ≤ n ∧ n ≤ 65535) : IntKind.u16.wrap n = n := by simp [IntKind.wrap, IntKind.bits, IntKind.signed]; omega

theorem wrap_u8 (m : Nat) : IntKind.u8.wrap (m : Int) = ((UInt8.ofNat m).toNat : Int) := by
  have : (UInt8.ofNat m).toNat = m % 256 := by simp
  rw [this]
  simp [IntKind.wrap, IntKind.bits, IntKind.signed]
section
variable {P : Program} {a : Act} {w : World} {d : Option Tmp} {T : TypeId} {pos : String} {af : Array Edge} {gd : Option (Nat × Bool)}
theorem r_convw {src dst : TypeId} {x : Operand} {k k' : IntKind} {n m : Int} {de : TypeDesc} (hs : P.underlying src = some de) (hd : P.underlying dst = some (.int k')) (hx : a.eval x = .int k n) (hw : k'.wrap n = m) : (execOp a.eval ⟨d, .convert src dst x, T, pos, af, gd⟩).run P w = .ok (.value (.int k' m)) w := by
  rw [r_conv hs hd hx, hw]
theorem r_addw {t ty : TypeId} {x y : Operand} {k : IntKind} {m n u : Int} (hx : a.eval x = .int k m) (hy : a.eval y = .int k n) (hw : k.wrap (m + n) = u) : (execOp a.eval ⟨d, .binOp .add t x y ty, T, pos, af, gd⟩).run P w = .ok (.value (.int k u)) w := by rw [r_add hx hy, hw]
theorem r_subw {t ty : TypeId} {x y : Operand} {k : IntKind} {m n u : Int} (hx : a.eval x = .int k m) (hy : a.eval y = .int k n) (hw : k.wrap (m - n) = u) : (execOp a.eval ⟨d, .binOp .sub t x y ty, T, pos, af, gd⟩).run P w = .ok (.value (.int k u)) w := by rw [r_sub hx hy, hw]
theorem r_mulw {t ty : TypeId} {x y : Operand} {k : IntKind} {m n u : Int} (hx : a.eval x = .int k m) (hy : a.eval y = .int k n) (hw : k.wrap (m * n) = u) : (execOp a.eval ⟨d, .binOp .mul t x y ty, T, pos, af, gd⟩).run P w = .ok (.value (.int k u)) w := by rw [r_mul hx hy, hw]
theorem r_quow {t ty : TypeId} {x y : Operand} {k : IntKind} {m n u : Int} (hx : a.eval x = .int k m) (hy : a.eval y = .int k n) (h0 : n ≠ 0) (hw : k.wrap (m.tdiv n) = u) : (execOp a.eval ⟨d, .binOp .quo t x y ty, T, pos, af, gd⟩).run P w = .ok (.value (.int k u)) w := by rw [r_quo hx hy h0, hw]
theorem r_convb {src dst : TypeId} {x : Operand} {k : IntKind} {n : Int} {de : TypeDesc} {u : Nat} (hs : P.underlying src = some de) (hd : P.underlying dst = some (.int .u8)) (hx : a.eval x = .int k n) (hu : n = (u : Int)) : (execOp a.eval ⟨d, .convert src dst x, T, pos, af, gd⟩).run P w = .ok (.value (.int .u8 ((UInt8.ofNat u).toNat : Int))) w := by
  rw [r_conv hs hd hx, hu, wrap_u8]
theorem r_addb {t ty : TypeId} {x y : Operand} {m n : Int} {u : Nat} (hx : a.eval x = .int .u8 m) (hy : a.eval y = .int .u8 n) (hu : m + n = (u : Int)) : (execOp a.eval ⟨d, .binOp .add t x y ty, T, pos, af, gd⟩).run P w = .ok (.value (.int .u8 ((UInt8.ofNat u).toNat : Int))) w := by
  rw [r_add hx hy, hu, wrap_u8]
end

theorem rep_le {w : World} {F : Nat → Prop} {e : Ty} {A : Option Addr} {n c : Nat} {xs : List e.den} (h : (Ty.slice e).rep w F [.slice A n c] xs) : xs.length ≤ 9223372036854775807 := by
  have hl := rep_slice_len h
  simp only [maxLen] at hl
  omega

theorem slice_n {A : Option Addr} {n m c : Nat} (h : n = m) : Value.slice A n c = Value.slice A m c := by rw [h]

/-- blocks that are none of these -/
def nt (M : List Nat) : Nat → Prop := fun b => b ∉ M

/-- blocks below a number that are none of these -/
def ol (M : List Nat) (n : Nat) : Nat → Prop := fun b => b ∉ M ∧ b < n

/-- a datum in a later world, by what it does not touch -/
theorem rep_to {t : Ty} {w w' : World} {F F' : Nat → Prop} {S : List Nat} {cs : List Value} {x : t.den} (h : t.rep w F cs x) (hc : Ch S w w') (hF : ∀ b, F b → b < w.heap.size → b ∉ S ∧ F' b := by intro b h1 h2; (try simp only [Go.Z.nt, Go.Z.iv, Go.Z.no, Go.Z.ol, List.mem_cons, List.not_mem_nil, or_false, not_or, not_false_eq_true] at h1); (try simp only [Go.Z.nt, Go.Z.iv, Go.Z.no, Go.Z.ol, List.mem_cons, List.mem_append, List.not_mem_nil, or_false, not_or, not_false_eq_true, true_and, and_true]) <;> omega) : t.rep w' F' cs x := by
  have h1 : t.rep w (fun b => F b ∧ b < w.heap.size) cs x := rep_in t h
  exact rep_keep (fun p hp hl => hc.cell hl (hF _ hp.1 hl).1) (fun b hb => (hF b hb.1 hb.2).2) t h1
theorem rep_as {t : Ty} {w : World} {F F' : Nat → Prop} {cs : List Value} {x : t.den} (h : t.rep w F cs x) (hF : ∀ b, F b → b < w.heap.size → F' b) : t.rep w F' cs x :=
  rep_to h (Ch.refl w) fun b h1 h2 => ⟨by simp, hF b h1 h2⟩
theorem rep_ol {t : Ty} {w : World} {M : List Nat} {cs : List Value} {x : t.den} (h : t.rep w (nt M) cs x) : t.rep w (ol M w.heap.size) cs x := rep_as h fun _ h1 h2 => ⟨h1, h2⟩
theorem Own.to {t : Ty} {e : TypeId} {B : Nat} {w w' : World} {F F' : Nat → Prop} {A : Option Addr} {c : Nat} {xs : List t.den} {S : List Nat} (h : Own t e B w F A c xs) (hc : Ch S w w') (hA : ∀ k, k ∈ obl A → B ≤ k → k < w.heap.size → k ∉ S) (hF : ∀ b, F b → b < w.heap.size → b ∉ S ∧ F' b) : Own t e B w' F' A c xs := by
  have hlt := h.lt
  obtain ⟨cells, hr, h1, h2⟩ := h
  refine ⟨cells, ⟨hr.1, ?_⟩, h1, fun i x hi => rep_to (h2 i x hi) hc hF⟩
  rcases hr.2 with h3 | ⟨g, cap, cur, hv, hb, hg, rest⟩
  · exact .inl h3
  · refine .inr ⟨g, cap, cur, hv, hb, ?_, rest⟩
    injection hv with hA' _ _
    have hm : g ∈ obl A := by rw [hA']; simp [obl]
    rw [hc.block g (Array.getElem?_eq_some_iff.1 hg).1 (hA g hm (hlt g hm).1 (hlt g hm).2)]
    exact hg
end Go.Z
