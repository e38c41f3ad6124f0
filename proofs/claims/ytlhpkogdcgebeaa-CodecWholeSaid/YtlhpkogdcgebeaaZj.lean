/- A small logic over the model's walk, continued: bits, bytes of a text. No program in sight. -/
import Derived.Test.YtlhpkogdcgebeaaZi
import Derived.Lib.ConvBytes
namespace Go.Z
open Go.RowKit
theorem wrap_i64 {u : Nat} (hu : u < 18446744073709551616) : (u < 9223372036854775808 ∧ IntKind.i64.wrap (u : Int) = u) ∨ (9223372036854775808 ≤ u ∧ IntKind.i64.wrap (u : Int) = (u : Int) - 18446744073709551616) := by
  have e : (u : Int) % 18446744073709551616 = u := Int.emod_eq_of_lt (by omega) (by omega)
  by_cases h : u < 9223372036854775808
  · left; refine ⟨h, ?_⟩
    simp only [IntKind.wrap, IntKind.bits, IntKind.signed, show ((2 : Int) ^ 64) = 18446744073709551616 by decide, show ((2 : Int) ^ (64 - 1)) = 9223372036854775808 by decide, e]
    rw [if_neg (by simp; omega)]
  · right; refine ⟨by omega, ?_⟩
    simp only [IntKind.wrap, IntKind.bits, IntKind.signed, show ((2 : Int) ^ 64) = 18446744073709551616 by decide, show ((2 : Int) ^ (64 - 1)) = 9223372036854775808 by decide, e]
    rw [if_pos (by simp; omega)]
section
variable {P : Program} {a : Act} {w : World} {d : Option Tmp} {T : TypeId} {pos : String} {af : Array Edge} {gd : Option (Nat × Bool)} {t ty : TypeId} {x y : Operand}
theorem r_shl8 {k' : IntKind} {m n u : Int} (hx : a.eval x = .int .u64 m) (hy : a.eval y = .int k' n) (hn : n = 8) (hu : IntKind.u64.wrap (m * 256) = u) :
    (execOp a.eval ⟨d, .binOp .shl t x y ty, T, pos, af, gd⟩).run P w = .ok (.value (.int .u64 u)) w := by
  subst hn; subst hu
  have hg : eqGuard .shl t x y (.int .u64 m) (.int k' 8) = pure () := rfl
  have hs : (Op.shift .shl .u64 m k' 8).run P w = .ok (.int .u64 (IntKind.u64.wrap (m * 256))) w := by simp [Op.shift, IntKind.bits]
  have hb : binOp .shl t (.int .u64 m) (.int k' 8) = Op.shift .shl .u64 m k' 8 := rfl
  simp [execOp, hx, hy, hg, hb, hs]
theorem or_low (u b : Nat) (hb : b < 256) (hu : u * 256 + 255 < 18446744073709551616) : IntKind.u64.wrap (((BitVec.ofInt 64 ((u : Int) * 256)) ||| (BitVec.ofInt 64 (b : Int))).toNat : Int) = ((u * 256 + b : Nat) : Int) := by
  have h1 : BitVec.ofInt 64 ((u : Int) * 256) = BitVec.ofNat 64 (u * 256) := by rw [show (u : Int) * 256 = ((u * 256 : Nat) : Int) by omega, BitVec.ofInt_natCast]
  have h2 : BitVec.ofInt 64 (b : Int) = BitVec.ofNat 64 b := BitVec.ofInt_natCast ..
  have hp : (2 : Nat) ^ 64 = 18446744073709551616 := by decide
  have e1 : u * 256 % 18446744073709551616 = u * 256 := Nat.mod_eq_of_lt (Nat.lt_of_le_of_lt (Nat.le_add_right _ 255) hu)
  have e2 : b % 18446744073709551616 = b := Nat.mod_eq_of_lt (Nat.lt_trans hb (by decide))
  rw [h1, h2, BitVec.toNat_or, BitVec.toNat_ofNat, BitVec.toNat_ofNat, hp, e1, e2]
  have h3 : u * 256 ||| b = u * 256 + b := by
    have := Nat.shiftLeft_add_eq_or_of_lt (show b < 2 ^ 8 by omega) u
    rw [Nat.shiftLeft_eq] at this
    exact this.symm
  rw [h3]; exact u64_in _ (by omega)
theorem r_orb {m n : Int} {u b : Nat} (hx : a.eval x = .int .u64 m) (hy : a.eval y = .int .u64 n) (hm : m = (u : Int) * 256) (hn : n = (b : Int)) (hb : b < 256) (hu : u * 256 + 255 < 18446744073709551616) :
    (execOp a.eval ⟨d, .binOp .or t x y ty, T, pos, af, gd⟩).run P w = .ok (.value (.int .u64 ((u * 256 + b : Nat) : Int))) w := by
  subst hm; subst hn
  have hg : eqGuard .or t x y (.int .u64 ((u : Int) * 256)) (.int .u64 (b : Int)) = pure () := rfl
  have ho : binOp .or t (.int .u64 ((u : Int) * 256)) (.int .u64 (b : Int)) = Op.intBits .or .u64 ((u : Int) * 256) (b : Int) := by simp [binOp]
  have hs : (Op.intBits .or .u64 ((u : Int) * 256) (b : Int)).run P w = .ok (.int .u64 ((u * 256 + b : Nat) : Int)) w := by
    rw [← or_low u b hb hu]; rfl
  simp [execOp, hx, hy, hg, ho, hs]
theorem rep_none {w : World} {F : Nat → Prop} {e : Ty} {A : Option Addr} {n c : Nat} {xs : List e.den} (h : (Ty.slice e).rep w F [.slice A n c] xs) (hA : A.isNone = true) : xs = [] := by
  obtain ⟨A', c', cells, h1, _, _, _, h5, _⟩ := h
  injection h1 with h1 _; injection h1 with h1 _ _
  subst h1
  rcases h5 with h5 | ⟨b, o, rfl, _⟩
  · exact List.eq_nil_of_length_eq_zero h5
  · cases hA
theorem r_neptr_nil {e : TypeId} {ad : Addr} (ht : P.underlying t = some (.pointer e)) (hx : a.eval x = .pointer (some ad)) (hy : a.eval y = .pointer none) :
    (execOp a.eval ⟨d, .binOp .neq t x y ty, T, pos, af, gd⟩).run P w = .ok (.value (.bool true)) w := by
  have h : ∀ m, (Op.equalIn (m + 1) t (.pointer (some ad)) (.pointer none)).run P w = .ok false w := fun m => by simp [Op.equalIn, run_underlying ht]
  have h2 : (Op.equal t (.pointer (some ad)) (.pointer none)).run P w = .ok false w := h 9999
  simp [execOp, hx, hy, eqGuard_at_pointer, binOp, h2]
theorem r_remn {k : IntKind} {m n : Int} {u v : Nat} (hx : a.eval x = .int k m) (hy : a.eval y = .int k n) (hm : m = (u : Int)) (hn : n = (v : Int)) (hv : (v : Int) ≠ 0) (_hu : 0 ≤ (u : Int)) :
    (execOp a.eval ⟨d, .binOp .rem t x y ty, T, pos, af, gd⟩).run P w = .ok (.value (.int k ((u % v : Nat) : Int))) w := by
  subst hm; subst hn
  rw [r_rem hx hy hv, Int.tmod_eq_emod_of_nonneg (by omega)]; rfl
theorem r_quon {m n : Int} {u v : Nat} (hx : a.eval x = .int .u64 m) (hy : a.eval y = .int .u64 n) (hm : m = (u : Int)) (hn : n = (v : Int)) (hv : (v : Int) ≠ 0) (hu : u < 18446744073709551616) :
    (execOp a.eval ⟨d, .binOp .quo t x y ty, T, pos, af, gd⟩).run P w = .ok (.value (.int .u64 ((u / v : Nat) : Int))) w := by
  subst hm; subst hn
  have h := Nat.div_le_self u v
  exact r_quow hx hy hv (by rw [Int.tdiv_eq_ediv_of_nonneg (by omega), show ((u : Int) / (v : Int)) = ((u / v : Nat) : Int) from rfl]; generalize u / v = q at h; exact u64_in _ (by omega))
end
section
variable {r : Option Nat} {P : Program} {ops : Array Oper} {Q : Exit → Act → World → Prop} {a : Act} {w : World} {rest : List Oper} {n : Nat} {ds : List Deferred} {l : List (Nat × Value)} {d : Nat} {T : TypeId} {pos : String} {af : Array Edge}
/-- a text's bytes, as a new row -/
theorem st_s2b {src dst e : TypeId} {x : Operand} {s : ByteArray} (hf : Fr a n ds l) (hd : Nat.ble (d + 1) n = true) (hs : P.underlying src = some .string) (hdt : P.underlying dst = some (.slice e)) (he : P.underlying e = some (.int .u8))
    (hx : ev l x = some (.string s)) (hm : s.size ≤ maxLen)
    (h : ∀ g c w' a', g = w.heap.size → w'.heap.size = g + 1 → (Ty.slice .byte).rep w' (iv g (g + 1)) [.slice (some ⟨g, 0, none⟩) s.data.toList.length c] s.data.toList → Ch [] w w' → Fr a' n ds ((d, .slice (some ⟨g, 0, none⟩) s.data.toList.length c) :: l) → WL r P ops Q rest a' w') :
    WL r P ops Q (⟨some d, .convert src dst x, T, pos, af, none⟩ :: rest) a w := by
  refine valw (w' := Lib.bytesWorld w e s) (v := .slice (some ⟨w.heap.size, 0, none⟩) s.data.toList.length (grownCap w s.size 0 e)) hf hd ?_ fun a' hf' => h _ _ _ a' rfl (Lib.bytesWorld_size w e s) ?_ ?_ hf'
  · simp [execOp, hf.eval hx, Lib.run_convert_string_bytes w src dst e s hs hdt he]
  · have hl : s.data.toList.length = s.size := rfl
    have hge := grownCap_ge w s.size 0 e
    have hcm : grownCap w s.size 0 e ≤ maxLen := grownCap_le_maxLen w s.size 0 e hm
    refine ⟨_, _, s.data.toList.map fun b => Value.int .u8 (b.toNat : Int), rfl, by omega, hcm, by simp [Ty.size], .inr ⟨w.heap.size, 0, rfl, ⟨Nat.le_refl _, Nat.lt_succ_self _⟩, fun j u hj => ?_⟩, fun i x hi => ?_⟩
    · rw [List.getElem?_map, Option.map_eq_some_iff] at hj
      obtain ⟨b, hb, rfl⟩ := hj
      have hlt := (List.getElem?_eq_some_iff.1 hb).1
      rw [Nat.zero_add, Lib.bytesWorld_cell w e s j (by omega), List.getD_eq_getElem?_getD, hb]; rfl
    · show _ = _
      have h2 : (s.data.toList.map fun b => Value.int .u8 (b.toNat : Int))[i]? = some (.int .u8 (x.toNat : Int)) := by rw [List.getElem?_map, hi]; rfl
      obtain ⟨hlt, he2⟩ := List.getElem?_eq_some_iff.1 h2
      rw [show Ty.size .byte = 1 from rfl, Nat.mul_one, List.drop_eq_getElem_cons hlt, he2]; rfl
  · exact ⟨rfl, rfl, rfl, by rw [Lib.bytesWorld_size]; omega, fun k hk _ => Lib.bytesWorld_at_old w e s k hk⟩
end
end Go.Z
