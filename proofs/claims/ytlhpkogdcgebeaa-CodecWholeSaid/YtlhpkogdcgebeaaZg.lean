/- A small logic over the model's walk, continued: slices of arrays in memory. No program in sight. -/
import Derived.Test.YtlhpkogdcgebeaaZf
import Derived.Lib.AppendStr
namespace Go.Z
open Go.RowKit Go.Lib
section
variable {P : Program} {a : Act} {w : World} {d : Option Tmp} {T : TypeId} {pos : String} {af : Array Edge} {gd : Option (Nat × Bool)}
theorem r_slice_arr {t e : TypeId} {x : Operand} {n sz g o : Nat} (ht : P.underlying t = some (.array n e)) (hS : ∀ w, (sizeOf e).run P w = .ok sz w) (hx : a.eval x = .pointer (some ⟨g, o, none⟩)) :
    (execOp a.eval ⟨d, .slice t x none none none, T, pos, af, gd⟩).run P w = .ok (.value (.slice (some ⟨g, o, none⟩) n n)) w := by
  simp [execOp, Instr.sliceAt, run_underlying ht, hx, Instr.sureAddr, Instr.sliceBounds, hS, Addr.add]
end
theorem rep_arr {t : Ty} {w : World} {F : Nat → Prop} {g o : Nat} {bt : TypeId} {cs : List Value} {xs : List t.den} (hb : Blk w g bt cs) (hF : F g) (hl : xs.length * t.size + o ≤ cs.length) (hm : xs.length ≤ maxLen)
    (h2 : ∀ (i : Nat) (x : t.den), xs[i]? = some x → t.rep w F ((cs.drop (o + i * t.size)).take t.size) x) : (Ty.slice t).rep w F [.slice (some ⟨g, o, none⟩) xs.length xs.length] xs := by
  refine ⟨_, _, (cs.drop o).take (xs.length * t.size), rfl, Nat.le_refl _, hm, by rw [List.length_take, List.length_drop]; omega, .inr ⟨g, o, rfl, hF, fun j u hj => ?_⟩, fun i x hi => ?_⟩
  · rw [hb.cell]
    have hlt := (List.getElem?_eq_some_iff.1 hj).1
    rw [List.length_take] at hlt
    rw [List.getElem?_take_of_lt (by omega), List.getElem?_drop] at hj
    exact hj
  · have h := h2 i x hi
    have hlt := (List.getElem?_eq_some_iff.1 hi).1
    have hm : (i + 1) * t.size ≤ xs.length * t.size := Nat.mul_le_mul_right _ hlt
    rw [Nat.add_mul, Nat.one_mul] at hm
    rw [List.drop_take, List.take_take, List.drop_drop, Nat.min_eq_left (by omega)]
    exact h
/-- append of a text onto bytes that are owned -/
theorem Own.str {e : TypeId} {B : Nat} {w w' : World} {xs : List UInt8} {s : ByteArray} {cells : List Value} {v' : Value}
    (hrow : w'.ownsRow B e 1 v' (xs.length + s.size) (cells ++ strCells s)) (hl : cells.length = xs.length * 1) (h1 : ∀ u ∈ cells, u.oneCell' = true)
    (h2 : ∀ (i : Nat) (x : UInt8), xs[i]? = some x → Ty.byte.rep w no ((cells.drop (i * 1)).take 1) x) : ∃ A' c', v' = .slice A' (xs ++ s.data.toList).length c' ∧ Own .byte e B w' no A' c' (xs ++ s.data.toList) := by
  have hn : (xs ++ s.data.toList).length = xs.length + s.size := by rw [List.length_append]; rfl
  have hform : ∃ A' c', v' = .slice A' (xs.length + s.size) c' := by
    rcases hrow.2 with ⟨hv, hn⟩ | ⟨g, cap, cur, hv, _⟩
    · exact ⟨none, 0, by rw [hv, hn]⟩
    · exact ⟨_, _, hv⟩
  obtain ⟨A', c', rfl⟩ := hform
  refine ⟨A', c', by rw [hn], cells ++ strCells s, by rw [hn]; exact hrow, fun u hu => ?_, ?_⟩
  · rcases List.mem_append.1 hu with hu | hu
    · exact h1 u hu
    · simp only [strCells, List.mem_map] at hu
      obtain ⟨b, _, rfl⟩ := hu
      rfl
  · refine rep_append (t := .byte) (xs := xs) (ys := s.data.toList) hl (fun i x hi => (show _ = _ from h2 i x hi)) fun i x hi => ?_
    have : (strCells s)[i]? = some (.int .u8 (x.toNat : Int)) := by
      have hi' : s.data[i]? = some x := by rw [← Array.getElem?_toList]; exact hi
      simp [strCells, hi']
    show _ = _
    obtain ⟨hlt, he⟩ := List.getElem?_eq_some_iff.1 this
    rw [show Ty.size .byte = 1 from rfl, Nat.mul_one, List.drop_eq_getElem_cons hlt, he]; rfl
section
variable {r : Option Nat} {P : Program} {ops : Array Oper} {Q : Exit → Act → World → Prop} {a : Act} {w : World} {rest : List Oper} {n : Nat} {ds : List Deferred} {l : List (Nat × Value)} {d : Nat} {T : TypeId} {pos : String} {af : Array Edge}
theorem st_append_str {tt u e : TypeId} {B : Nat} {x y : Operand} {i : TypeInfo} {A : Option Addr} {c : Nat} {xs : List UInt8} {s : ByteArray} (hf : Fr a n ds l) (hd : Nat.ble (d + 1) n = true)
    (ht : P.underlying tt = some (.slice e)) (hu : P.underlying u = some .string) (hi : P.info? e = some i) (hz : i.zero = some (.int .u8 0)) (hsize : i.size = 1) (hby : i.bytes = 1)
    {n1 : Nat} (hx : ev l x = some (.slice A n1 c)) (hn1 : n1 = xs.length) (hown : Own .byte e B w no A c xs) (hy : ev l y = some (.string s)) (h63 : xs.length + s.size ≤ 140737488355328) (hB : B ≤ w.heap.size)
    (h : ∀ A' c' w' a', Own .byte e B w' no A' c' (xs ++ s.data.toList) → Ch (obl A) w w' → Fr a' n ds ((d, .slice A' (xs ++ s.data.toList).length c') :: l) → WL r P ops Q rest a' w') :
    WL r P ops Q (⟨some d, .call { callee := .builtin .append, args := #[x, y], argTypes := #[tt, u] }, T, pos, af, none⟩ :: rest) a w := by
  subst hn1
  obtain ⟨cells, hrow, h1, h2⟩ := hown
  obtain ⟨v', w', hrun, h3, h4, _⟩ := run_append_own_string (P := P) w B tt u T e i ht hu hi hz hsize hby _ xs.length cells hrow s (by simp only [maxLen]; omega) h63 hB
  obtain ⟨A', c', rfl, hO⟩ := Own.str h3 hrow.1 h1 h2
  have hch : Ch (obl A) w w' := by have := Ch.of_grown h4; rwa [ownBlock_slice] at this
  refine valw hf hd ?_ fun a' hf' => h _ _ _ a' hO hch hf'
  simp only [execOp, resolve, invoke, builtin, Sem.run_bind, Sem.run_pure, Result.andThen_ok, List.map_toArray, List.map_cons, List.map_nil, hf.eval hx, hf.eval hy, hrun]
end
end Go.Z
