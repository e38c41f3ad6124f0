/- A small logic over the model's walk, continued: data in memory, read whole: kinds of data, what reads as what, and slices that the call owns. No program in sight. -/
import Derived.Test.YtlhpkogdcgebeaaZb
namespace Go.Z
open Go.RowKit

/-- kinds of data -/
inductive Ty where
  | int (k : IntKind)
  | byte
  | bool
  | str
  | slice (e : Ty)
  | pair (a b : Ty)

@[reducible] def Ty.den : Ty → Type
  | .int _ => Int
  | .byte => UInt8
  | .bool => Bool
  | .str => ByteArray
  | .slice e => List e.den
  | .pair a b => a.den × b.den

def Ty.size : Ty → Nat
  | .pair a b => a.size + b.size
  | _ => 1

/-- the cells cs are the datum x; what lies behind them lies in blocks of F -/
def Ty.rep (w : World) (F : Nat → Prop) : (t : Ty) → List Value → t.den → Prop
  | .int k, cs, x => cs = [.int k x] ∧ k.has x
  | .byte, cs, x => cs = [.int .u8 (x.toNat : Int)]
  | .bool, cs, x => cs = [.bool x]
  | .str, cs, x => cs = [.string x] ∧ x.size ≤ maxLen
  | .slice e, cs, xs => ∃ (A : Option Addr) (c : Nat) (cells : List Value), cs = [.slice A xs.length c] ∧ xs.length ≤ c ∧ c ≤ maxLen ∧ cells.length = xs.length * e.size ∧
      (xs.length = 0 ∨ ∃ b o, A = some ⟨b, o, none⟩ ∧ F b ∧ ∀ j u, cells[j]? = some u → w.cell? ⟨b, o + j, none⟩ = some u) ∧
      ∀ (i : Nat) (x : e.den), xs[i]? = some x → e.rep w F ((cells.drop (i * e.size)).take e.size) x
  | .pair a b, cs, x => ∃ ca cb, cs = ca ++ cb ∧ a.rep w F ca x.1 ∧ b.rep w F cb x.2

section
variable {w w' : World} {F F' : Nat → Prop}

theorem rep_len : ∀ (t : Ty) {cs : List Value} {x : t.den}, t.rep w F cs x → cs.length = t.size
  | .int _, _, _, h => by rw [h.1]; rfl
  | .byte, _, _, h => by rw [show _ = _ from h]; rfl
  | .bool, _, _, h => by rw [show _ = _ from h]; rfl
  | .str, _, _, h => by rw [h.1]; rfl
  | .slice e, _, _, h => by obtain ⟨A, c, cells, h, _⟩ := h; rw [h]; rfl
  | .pair a b, _, _, h => by
    obtain ⟨ca, cb, h, ha, hb⟩ := h
    rw [h, List.length_append, rep_len a ha, rep_len b hb]; rfl

theorem rep_one : ∀ (t : Ty) {cs : List Value} {x : t.den}, t.rep w F cs x → ∀ u ∈ cs, u.oneCell' = true
  | .int _, _, _, h => by rw [h.1]; simp [Value.oneCell']
  | .byte, _, _, h => by rw [show _ = _ from h]; simp [Value.oneCell']
  | .bool, _, _, h => by rw [show _ = _ from h]; simp [Value.oneCell']
  | .str, _, _, h => by rw [h.1]; simp [Value.oneCell']
  | .slice e, _, _, h => by obtain ⟨A, c, cells, h, _⟩ := h; rw [h]; simp [Value.oneCell']
  | .pair a b, _, _, h => by
    obtain ⟨ca, cb, h, ha, hb⟩ := h
    intro u hu
    rw [h, List.mem_append] at hu
    rcases hu with hu | hu
    · exact rep_one a ha u hu
    · exact rep_one b hb u hu

/-- a datum stays what it is while its blocks stay -/
theorem rep_keep (hk : ∀ p : Addr, F p.block → p.block < w.heap.size → w'.cell? p = w.cell? p) (hF : ∀ b, F b → F' b) : ∀ (t : Ty) {cs : List Value} {x : t.den}, t.rep w F cs x → t.rep w' F' cs x
  | .int _, _, _, h => h
  | .byte, _, _, h => h
  | .bool, _, _, h => h
  | .str, _, _, h => h
  | .slice e, _, _, h => by
    obtain ⟨A, c, cells, h1, h2, h3, h4, h5, h6⟩ := h
    refine ⟨A, c, cells, h1, h2, h3, h4, ?_, fun i x hi => rep_keep hk hF e (h6 i x hi)⟩
    rcases h5 with h5 | ⟨b, o, hA, hb, hc⟩
    · exact .inl h5
    · refine .inr ⟨b, o, hA, hF b hb, fun j u hu => ?_⟩
      have := hc j u hu
      rw [hk ⟨b, o + j, none⟩ hb (World.block_lt_of_cell? w _ this)]
      exact this
  | .pair a b, _, _, h => by
    obtain ⟨ca, cb, h, ha, hb⟩ := h
    exact ⟨ca, cb, h, rep_keep hk hF a ha, rep_keep hk hF b hb⟩

/-- kinds without anything behind them -/
def Ty.flat : Ty → Bool
  | .slice _ => false
  | .pair a b => a.flat && b.flat
  | _ => true
theorem rep_flat : ∀ (t : Ty), t.flat = true → ∀ {cs : List Value} {x : t.den}, t.rep w F cs x → t.rep w F' cs x
  | .int _, _, _, _, h => h
  | .byte, _, _, _, h => h
  | .bool, _, _, _, h => h
  | .str, _, _, _, h => h
  | .slice e, hf, _, _, _ => by cases hf
  | .pair a b, hf, _, _, h => by
    simp only [Ty.flat, Bool.and_eq_true] at hf
    obtain ⟨ca, cb, h, ha, hb⟩ := h
    exact ⟨ca, cb, h, rep_flat a hf.1 ha, rep_flat b hf.2 hb⟩

theorem rep_ch {S : List Nat} (hc : Ch S w w') (hS : ∀ b, F b → b ∉ S) (t : Ty) {cs : List Value} {x : t.den} (h : t.rep w F cs x) : t.rep w' F cs x :=
  rep_keep (fun _ hp hl => hc.cell hl (hS _ hp)) (fun _ h => h) t h

theorem rep_ch0 (hc : Ch [] w w') (t : Ty) {cs : List Value} {x : t.den} (h : t.rep w F cs x) : t.rep w' F cs x := rep_ch hc (fun _ _ => by simp) t h

theorem rep_more (hF : ∀ b, F b → F' b) (t : Ty) {cs : List Value} {x : t.den} (h : t.rep w F cs x) : t.rep w F' cs x := rep_keep (fun _ _ _ => rfl) hF t h

/-- a struct's cells, one part behind the other -/
theorem rep_pair {a b : Ty} {cs : List Value} {x : (Ty.pair a b).den} (h : (Ty.pair a b).rep w F cs x) : ∃ ca cb, cs = ca ++ cb ∧ a.rep w F ca x.1 ∧ b.rep w F cb x.2 := h
theorem rep_pair_mk {a b : Ty} {ca cb : List Value} {x : a.den} {y : b.den} (ha : a.rep w F ca x) (hb : b.rep w F cb y) : (Ty.pair a b).rep w F (ca ++ cb) (x, y) := ⟨ca, cb, rfl, ha, hb⟩

/-- a slice as its shape -/
theorem rep_slice {e : Ty} {cs : List Value} {xs : List e.den} (h : (Ty.slice e).rep w F cs xs) : ∃ A c, cs = [.slice A xs.length c] ∧ xs.length ≤ c ∧ c ≤ maxLen := by
  obtain ⟨A, c, cells, h1, h2, h3, _⟩ := h
  exact ⟨A, c, h1, h2, h3⟩

/-- an element of a slice that reads -/
theorem rep_at {e : Ty} {A : Option Addr} {n c : Nat} {xs : List e.den} (h : (Ty.slice e).rep w F [.slice A n c] xs) {k : Nat} (hk : k < xs.length) :
    ∃ ad es, A = some ad ∧ (∀ j u, es[j]? = some u → w.cell? ((ad.add (k * e.size)).add j) = some u) ∧ e.rep w F es xs[k] := by
  obtain ⟨A', c', cells, h1, h2, h3, h4, h5, h6⟩ := h
  injection h1 with h1
  injection h1 with hA hn hc
  subst hA
  rcases h5 with h5 | ⟨b, o, rfl, hb, hcell⟩
  · omega
  · refine ⟨_, _, rfl, fun j u hu => ?_, h6 k _ (List.getElem?_eq_getElem hk)⟩
    rw [Addr.add_lit, Addr.add_lit]
    have hj : j < e.size := by
      have := (List.getElem?_eq_some_iff.1 hu).1
      simp only [List.length_take] at this
      omega
    rw [List.getElem?_take_of_lt hj, List.getElem?_drop] at hu
    rw [Nat.add_assoc]
    exact hcell _ _ hu

theorem rep_slice_len {e : Ty} {A : Option Addr} {n c : Nat} {xs : List e.den} (h : (Ty.slice e).rep w F [.slice A n c] xs) : xs.length = n ∧ n ≤ c ∧ c ≤ maxLen := by
  obtain ⟨A', c', cells, h1, h2, h3, _⟩ := h
  injection h1 with h1
  injection h1 with hA hn hc
  subst hn; subst hc
  exact ⟨rfl, h2, h3⟩

theorem rep_nil (e : Ty) : (Ty.slice e).rep w F [.slice none 0 0] [] := ⟨none, 0, [], rfl, Nat.le_refl _, by simp [maxLen], by simp, .inl rfl, fun i x h => by simp at h⟩

/-- the first ones of a slice -/
theorem rep_take {e : Ty} {A : Option Addr} {n c : Nat} {xs : List e.den} (h : (Ty.slice e).rep w F [.slice A n c] xs) {k : Nat} (hk : k ≤ xs.length) : (Ty.slice e).rep w F [.slice A k c] (xs.take k) := by
  obtain ⟨A', c', cells, h1, h2, h3, h4, h5, h6⟩ := h
  injection h1 with h1
  injection h1 with hA hn hc
  subst hA; subst hc
  have hl : (xs.take k).length = k := by rw [List.length_take]; omega
  refine ⟨A, c, cells.take (k * e.size), by rw [hl], by omega, h3, by rw [List.length_take, h4, hl]; exact Nat.min_eq_left (Nat.mul_le_mul_right _ hk), ?_, fun i x hi => ?_⟩
  · rw [hl]
    rcases h5 with h5 | ⟨b, o, hA, hb, hcell⟩
    · exact .inl (by omega)
    · refine .inr ⟨b, o, hA, hb, fun j u hu => hcell j u ?_⟩
      have hj := (List.getElem?_eq_some_iff.1 hu).1
      rw [List.length_take] at hj
      rwa [List.getElem?_take_of_lt (by omega)] at hu
  · have hik : i < k := by
      have := (List.getElem?_eq_some_iff.1 hi).1
      omega
    have hx : xs[i]? = some x := by rwa [List.getElem?_take_of_lt hik] at hi
    have := h6 i x hx
    have hm : (i + 1) * e.size ≤ k * e.size := Nat.mul_le_mul_right _ hik
    rw [Nat.add_mul, Nat.one_mul] at hm
    rw [List.drop_take, List.take_take, Nat.min_eq_left (by omega)]
    exact this

/-- what is left of a slice behind the first ones -/
theorem rep_drop {e : Ty} {A : Option Addr} {n c : Nat} {xs : List e.den} (h : (Ty.slice e).rep w F [.slice A n c] xs) {k c' : Nat} {A' : Option Addr} (hk : k ≤ xs.length) (hc' : n - k ≤ c') (hm : c' ≤ maxLen)
    (hA' : k < xs.length → ∀ ad, A = some ad → A' = some (ad.add (k * e.size))) : (Ty.slice e).rep w F [.slice A' (n - k) c'] (xs.drop k) := by
  obtain ⟨A1, c1, cells, h1, h2, h3, h4, h5, h6⟩ := h
  injection h1 with h1
  injection h1 with hA hn hc
  subst hA; subst hn
  have hl : (xs.drop k).length = xs.length - k := List.length_drop
  refine ⟨A', c', cells.drop (k * e.size), by rw [hl], by omega, hm, by rw [List.length_drop, h4, hl, Nat.sub_mul], ?_, fun i x hi => ?_⟩
  · rw [hl]
    by_cases hz : xs.length - k = 0
    · exact .inl hz
    · rcases h5 with h5 | ⟨b, o, rfl, hb, hcell⟩
      · omega
      · refine .inr ⟨b, o + k * e.size, by rw [hA' (by omega) _ rfl, Addr.add_lit], hb, fun j u hu => ?_⟩
        rw [List.getElem?_drop] at hu
        rw [Nat.add_assoc]
        exact hcell _ _ hu
  · rw [List.getElem?_drop] at hi
    have := h6 _ _ hi
    rw [List.drop_drop, show k * e.size + i * e.size = (k + i) * e.size from (Nat.add_mul _ _ _).symm]
    exact this

/-- the cells of a slice that reads, all in a row -/
theorem rep_cells {e : Ty} {A : Option Addr} {n c : Nat} {xs : List e.den} (h : (Ty.slice e).rep w F [.slice A n c] xs) :
    ∃ cells : List Value, cells.length = n * e.size ∧ (∀ u ∈ cells, u.oneCell' = true) ∧ (n = 0 ∨ ∃ ad, A = some ad ∧ F ad.block ∧ ∀ j u, cells[j]? = some u → w.cell? (ad.add j) = some u) ∧
      ∀ (i : Nat) (x : e.den), xs[i]? = some x → e.rep w F ((cells.drop (i * e.size)).take e.size) x := by
  obtain ⟨A', c', cells, h1, h2, h3, h4, h5, h6⟩ := h
  injection h1 with h1
  injection h1 with hA hn hc
  subst hA; subst hn
  refine ⟨cells, h4, fun u hu => ?_, ?_, h6⟩
  · obtain ⟨j, hj, rfl⟩ := List.getElem_of_mem hu
    have hs : 0 < e.size := by
      rcases Nat.eq_zero_or_pos e.size with h0 | h0
      · rw [h0] at h4; omega
      · exact h0
    have hi : j / e.size < xs.length := Nat.div_lt_of_lt_mul (by rw [Nat.mul_comm, ← h4]; exact hj)
    have hr := h6 (j / e.size) _ (List.getElem?_eq_getElem hi)
    refine rep_one e hr _ (List.mem_of_getElem? (i := j % e.size) ?_)
    rw [List.getElem?_take_of_lt (Nat.mod_lt _ hs), List.getElem?_drop, Nat.mul_comm, Nat.div_add_mod]
    exact List.getElem?_eq_getElem hj
  · rcases h5 with h5 | ⟨b, o, rfl, hb, hcell⟩
    · exact .inl h5
    · exact .inr ⟨_, rfl, hb, fun j u hu => by rw [Addr.add_lit]; exact hcell j u hu⟩
end

/-! ### slices that the call owns -/
/-- the block that a slice lies in -/
def obl : Option Addr → List Nat
  | none => []
  | some a => [a.block]

/-- the slice with address A and capacity c owns its row, from block B on; its elements are xs; what lies behind them lies in blocks of F -/
def Own (t : Ty) (e : TypeId) (B : Nat) (w : World) (F : Nat → Prop) (A : Option Addr) (c : Nat) (xs : List t.den) : Prop :=
  ∃ cells : List Value, w.ownsRow B e t.size (.slice A xs.length c) xs.length cells ∧ (∀ u ∈ cells, u.oneCell' = true) ∧
    ∀ (i : Nat) (x : t.den), xs[i]? = some x → t.rep w F ((cells.drop (i * t.size)).take t.size) x

section
variable {t : Ty} {e : TypeId} {B : Nat} {w w' : World} {F F' : Nat → Prop} {A : Option Addr} {c : Nat} {xs : List t.den}

theorem ownBlock_slice (A : Option Addr) (n c : Nat) : (Value.slice A n c).ownBlock.toList = obl A := by cases A <;> rfl

theorem Own.nil (t : Ty) (e : TypeId) (B : Nat) (w : World) (F : Nat → Prop) : Own t e B w F none 0 [] :=
  ⟨[], World.ownsRow_nil w B e t.size, by simp, fun i x h => by simp at h⟩

theorem Own.lt (h : Own t e B w F A c xs) : ∀ k, k ∈ obl A → B ≤ k ∧ k < w.heap.size := by
  obtain ⟨cells, hr, _⟩ := h
  intro k hk
  exact hr.lt k (by cases A <;> simp_all [obl, Value.ownBlock])

theorem Own.len (h : Own t e B w F A c xs) : xs.length ≤ c ∧ c ≤ maxLen := by
  obtain ⟨cells, hr, _⟩ := h
  rcases hr.2 with ⟨hv, hn⟩ | ⟨g, cap, cur, hv, _, _, h1, h2, _⟩
  · injection hv with _ _ hc; subst hc; exact ⟨by omega, by simp [maxLen]⟩
  · injection hv with _ _ hc; subst hc; exact ⟨h1, h2⟩

theorem Own.ch {S : List Nat} (h : Own t e B w F A c xs) (hc : Ch S w w') (hA : ∀ k, k ∈ obl A → k ∉ S) (hF : ∀ b, F b → b ∉ S) : Own t e B w' F A c xs := by
  obtain ⟨cells, hr, h1, h2⟩ := h
  refine ⟨cells, ⟨hr.1, ?_⟩, h1, fun i x hi => rep_ch hc hF t (h2 i x hi)⟩
  rcases hr.2 with h3 | ⟨g, cap, cur, hv, hb, hg, rest⟩
  · exact .inl h3
  · refine .inr ⟨g, cap, cur, hv, hb, ?_, rest⟩
    injection hv with hA' _ _
    rw [hc.block g (Array.getElem?_eq_some_iff.1 hg).1 (hA g (by rw [hA']; simp [obl]))]
    exact hg

theorem Own.ch0 (h : Own t e B w F A c xs) (hc : Ch [] w w') : Own t e B w' F A c xs := h.ch hc (by simp) (by simp)

theorem Own.more (h : Own t e B w F A c xs) (hF : ∀ b, F b → F' b) : Own t e B w F' A c xs := by
  obtain ⟨cells, hr, h1, h2⟩ := h
  exact ⟨cells, hr, h1, fun i x hi => rep_more hF t (h2 i x hi)⟩

theorem Own.base {B' : Nat} (h : Own t e B w F A c xs) (hB : B' ≤ B) : Own t e B' w F A c xs := by
  obtain ⟨cells, hr, h1, h2⟩ := h
  refine ⟨cells, ⟨hr.1, ?_⟩, h1, h2⟩
  rcases hr.2 with h3 | ⟨g, cap, cur, hv, hb, rest⟩
  · exact .inl h3
  · exact .inr ⟨g, cap, cur, hv, by omega, rest⟩

/-- what is owned reads -/
theorem Own.rep (h : Own t e B w F A c xs) (hF : ∀ b, F b → F' b) (hA : ∀ k, k ∈ obl A → F' k) : (Ty.slice t).rep w F' [.slice A xs.length c] xs := by
  obtain ⟨cells, hr, h1, h2⟩ := h
  have hl : cells.length = xs.length * t.size := hr.1
  rcases hr.2 with ⟨hv, hn⟩ | ⟨g, cap, cur, hv, hb, hg, hnc, hcm, hcs, htake⟩
  · injection hv with hA' _ hc
    subst hA'; subst hc
    exact ⟨none, 0, cells, rfl, by omega, by simp [maxLen], hl, .inl hn, fun i x hi => rep_more hF t (h2 i x hi)⟩
  · injection hv with hA' _ hc
    subst hA'; subst hc
    refine ⟨_, _, cells, rfl, hnc, hcm, hl, .inr ⟨g, 0, rfl, hA g (by simp [obl]), fun j u hu => ?_⟩, fun i x hi => rep_more hF t (h2 i x hi)⟩
    rw [Nat.zero_add, cell_of_row w g j cur e (0, 0) hg]
    rw [← htake, List.getElem?_take] at hu
    split at hu
    · simpa using hu
    · cases hu

/-- a row that was just made, all of it in use -/
theorem Own.made {w : World} {g : Nat} {cs : List Value} (hb : Blk w g e cs) (hB : B ≤ g) (hc : cs.length = xs.length * t.size) (hm : xs.length ≤ maxLen) (h1 : ∀ u ∈ cs, u.oneCell' = true)
    (h2 : ∀ (i : Nat) (x : t.den), xs[i]? = some x → t.rep w F ((cs.drop (i * t.size)).take t.size) x) : Own t e B w F (some ⟨g, 0, none⟩) xs.length xs :=
  ⟨cs, ⟨hc, .inr ⟨g, xs.length, cs.toArray, rfl, hB, hb, Nat.le_refl _, hm, by simpa using hc, by simp [← hc]⟩⟩, h1, h2⟩
end

/-- the elements of two rows, one behind the other -/
theorem rep_append {t : Ty} {w : World} {F : Nat → Prop} {xs ys : List t.den} {cs ds : List Value} (hc : cs.length = xs.length * t.size)
    (h1 : ∀ (i : Nat) (x : t.den), xs[i]? = some x → t.rep w F ((cs.drop (i * t.size)).take t.size) x) (h2 : ∀ (i : Nat) (x : t.den), ys[i]? = some x → t.rep w F ((ds.drop (i * t.size)).take t.size) x) :
    ∀ (i : Nat) (x : t.den), (xs ++ ys)[i]? = some x → t.rep w F (((cs ++ ds).drop (i * t.size)).take t.size) x := by
  intro i x hi
  by_cases hlt : i < xs.length
  · rw [List.getElem?_append_left hlt] at hi
    have hm : (i + 1) * t.size ≤ xs.length * t.size := Nat.mul_le_mul_right _ hlt
    rw [Nat.add_mul, Nat.one_mul] at hm
    rw [List.drop_append_of_le_length (by omega), List.take_append_of_le_length (by rw [List.length_drop]; omega)]
    exact h1 i x hi
  · rw [List.getElem?_append_right (by omega)] at hi
    have := h2 _ _ hi
    have e : (cs ++ ds).drop (i * t.size) = ds.drop ((i - xs.length) * t.size) := by
      rw [List.drop_append, List.drop_eq_nil_of_le (by rw [hc]; exact Nat.mul_le_mul_right _ (by omega)), List.nil_append, hc, Nat.sub_mul]
    rw [e]
    exact this

section
variable {P : Program} {t : Ty} {e : TypeId} {B : Nat} {w : World} {F : Nat → Prop} {A : Option Addr} {c : Nat} {xs : List t.den}

/-- append onto what is owned: from whatever slice that reads -/
theorem run_append {tt ty : TypeId} {i : TypeInfo} {z : Value} {bytes : Nat} (ht : P.underlying tt = some (.slice e)) (hi : P.info? e = some i) (hz : i.zero = some z) (hsize : i.size = t.size) (hby : i.bytes = bytes)
    (hzs : z.cells.size = t.size) (hsz : 0 < t.size) (hown : Own t e B w F A c xs) {F2 : Nat → Prop} {A2 : Option Addr} {n2 c2 : Nat} {ys : List t.den} (hr : (Ty.slice t).rep w F2 [.slice A2 n2 c2] ys) (hel : ∀ cs x, t.rep w F2 cs x → t.rep w F cs x) (h63 : (xs.length + ys.length) * bytes ≤ 140737488355328)
    (hbp : 0 < bytes) (hA : ∀ b, F b → b ∉ obl A) (hB : B ≤ w.heap.size) :
    ∃ A' c' w', (Builtin.append_ #[tt, tt] ty #[.slice A xs.length c, .slice A2 n2 c2]).run P w = .ok (.slice A' (xs.length + ys.length) c') w' ∧ Own t e B w' F A' c' (xs ++ ys) ∧ Ch (obl A) w w' ∧
      (∀ k, k ∈ obl A' → k ∈ obl A ∨ k = w.heap.size) := by
  obtain ⟨cells, hrow, h1, h2⟩ := hown
  have hlen := rep_slice_len hr
  obtain ⟨news, hnl, hn1, hn2, hn3⟩ := rep_cells hr
  obtain ⟨hl2, _, _⟩ := hlen
  have hbig : xs.length + ys.length ≤ maxLen := by
    have : xs.length + ys.length ≤ (xs.length + ys.length) * bytes := Nat.le_mul_of_pos_right _ hbp
    simp only [maxLen]; omega
  by_cases hz2 : n2 = 0
  · have hy : ys = [] := List.eq_nil_of_length_eq_zero (by omega)
    subst hy
    subst hz2
    have hnews : news = [] := List.eq_nil_of_length_eq_zero (by simpa using hnl)
    have hrun : (Builtin.append_ #[tt, tt] ty #[.slice A xs.length c, .slice A2 0 c2]).run P w = .ok (.slice A xs.length c) w := by
      rcases hrow.2 with ⟨hv, hn⟩ | ⟨g, cap, cur, hv, _, _, hnc, _⟩
      · injection hv with hA' hn' hc
        subst hA'; subst hc
        cases A2 <;> simp [Builtin.append_, run_underlying ht, sizeOf, typeInfo, hi, Builtin.lenOf, Builtin.firstCells, hn, loadCells, loadCellsFrom]
      · injection hv with hA' hn' hc
        subst hA'; subst hc
        cases A2 <;> simp [Builtin.append_, run_underlying ht, sizeOf, typeInfo, hi, Builtin.lenOf, Builtin.firstCells, hnc, storeCells, loadCells, loadCellsFrom]
    refine ⟨A, c, w, by simpa using hrun, ⟨cells, by simpa using hrow, h1, by simpa using h2⟩, Ch.refl' _ _, fun k hk => .inl hk⟩
  · rcases hn2 with hn2 | ⟨ad, rfl, hFad, hcell⟩
    · exact absurd hn2 hz2
    · obtain ⟨v', w', hrun, h3, h4, _, h5⟩ := run_append_own_at (P := P) w B tt ty e i z t.size bytes ht hi hz hsize hby hzs hsz _ xs.length cells hrow ad n2 c2 news hnl hcell hn1 (by omega) (by rw [← hl2]; exact h63) hB
      have hform : ∃ A' c', v' = .slice A' (xs.length + ys.length) c' := by
        rcases h3.2 with ⟨hv, hn⟩ | ⟨g, cap, cur, hv, _⟩
        · exact ⟨none, 0, by rw [hv, show xs.length + ys.length = 0 from by omega]⟩
        · exact ⟨_, _, by rw [hv, hl2]⟩
      obtain ⟨A', c', rfl⟩ := hform
      have hch : Ch (obl A) w w' := by have := Ch.of_grown h4; rwa [ownBlock_slice] at this
      refine ⟨A', c', w', hrun, ⟨cells ++ news, ?_, ?_, ?_⟩, hch, fun k hk => ?_⟩
      · rw [List.length_append, hl2]; rw [hl2] at h3; exact h3
      · intro u hu
        rcases List.mem_append.1 hu with hu | hu
        · exact h1 u hu
        · exact hn1 u hu
      · exact rep_append hrow.1 (fun i x hi => rep_ch hch hA t (h2 i x hi)) (fun i x hi => rep_ch hch hA t (hel _ _ (hn3 i x hi)))
      · rcases h5 with h5 | h5
        · left
          have : obl A' = obl A := by rw [← ownBlock_slice A' (xs.length + ys.length) c', h5, ownBlock_slice]
          rwa [← this]
        · right
          have : obl A' = [w.heap.size] := by rw [← ownBlock_slice A' (xs.length + ys.length) c', h5]; rfl
          rw [this] at hk
          simpa using hk
end
end Go.Z
