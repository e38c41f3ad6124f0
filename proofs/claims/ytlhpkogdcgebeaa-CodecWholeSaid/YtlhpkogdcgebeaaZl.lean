/- A small logic over the model's walk, continued: append of elements with slices behind them. No program in sight. -/
import Derived.Test.YtlhpkogdcgebeaaZj
namespace Go.Z
open Go.RowKit
theorem Own.inside {t : Ty} {e : TypeId} {B : Nat} {w : World} {F : Nat → Prop} {A : Option Addr} {c : Nat} {xs : List t.den} (h : Own t e B w F A c xs) : Own t e B w (fun b => F b ∧ b < w.heap.size) A c xs := by
  obtain ⟨cells, h1, h2, h3⟩ := h
  exact ⟨cells, h1, h2, fun i x hi => rep_in t (h3 i x hi)⟩
/-- rows of unlike elements are not the same row -/
theorem Own.ne {t t' : Ty} {e e' : TypeId} {B B' : Nat} {w : World} {F F' : Nat → Prop} {A A' : Option Addr} {c c' : Nat} {xs : List t.den} {ys : List t'.den} (h : Own t e B w F A c xs) (h' : Own t' e' B' w F' A' c' ys) (hne : Nat.beq e e' = false) : ∀ k, k ∈ obl A → k ∉ obl A' := by
  obtain ⟨_, ⟨_, h1⟩, _⟩ := h
  obtain ⟨_, ⟨_, h2⟩, _⟩ := h'
  intro k hk hk'
  rcases h1 with ⟨h1, _⟩ | ⟨g, _, _, h1, _, hg, _⟩
  · injection h1 with h1 _ _; subst h1; cases hk
  rcases h2 with ⟨h2, _⟩ | ⟨g', _, _, h2, _, hg', _⟩
  · injection h2 with h2 _ _; subst h2; cases hk'
  injection h1 with h1 _ _; injection h2 with h2 _ _
  subst h1; subst h2
  simp only [obl, List.mem_singleton] at hk hk'
  subst hk; subst hk'
  rw [hg] at hg'
  injection hg' with hg'; injection hg' with _ he
  subst he
  simp at hne
section
variable {r : Option Nat} {P : Program} {ops : Array Oper} {Q : Exit → Act → World → Prop} {a : Act} {w : World} {rest : List Oper} {n : Nat} {ds : List Deferred} {l : List (Nat × Value)} {d : Nat} {T : TypeId} {pos : String} {af : Array Edge}
theorem st_append_deep {M : List Nat} {t : Ty} {tt e : TypeId} {B : Nat} {x y : Operand} {i : TypeInfo} {z : Value} {bytes : Nat} {A : Option Addr} {c : Nat} {xs : List t.den} (hf : Fr a n ds l) (hd : Nat.ble (d + 1) n = true)
    (ht : P.underlying tt = some (.slice e)) (hi : P.info? e = some i) (hz : i.zero = some z) (hsize : i.size = t.size) (hby : i.bytes = bytes) (hzs : z.cells.size = t.size) (hsz : 0 < t.size) (hbp : 0 < bytes)
    {n1 : Nat} (hx : ev l x = some (.slice A n1 c)) (hn1 : n1 = xs.length) (hown : Own t e B w (nt (M ++ obl A)) A c xs) {F2 : Nat → Prop} {A2 : Option Addr} {n2 c2 : Nat} {ys : List t.den} (hy : ev l y = some (.slice A2 n2 c2)) (hr : (Ty.slice t).rep w F2 [.slice A2 n2 c2] ys)
    (h63 : (xs.length + ys.length) * bytes ≤ 140737488355328) (hF2 : ∀ b, F2 b → b < w.heap.size → b ∉ M ++ obl A) (hB : B ≤ w.heap.size)
    (h : ∀ A' c' w' a', Own t e B w' (nt (M ++ obl A')) A' c' (xs ++ ys) → Ch (obl A) w w' → (∀ k, k ∈ obl A' → k ∈ obl A ∨ k = w.heap.size) → Fr a' n ds ((d, .slice A' (xs ++ ys).length c') :: l) → WL r P ops Q rest a' w') :
    WL r P ops Q (⟨some d, .call { callee := .builtin .append, args := #[x, y], argTypes := #[tt, tt] }, T, pos, af, none⟩ :: rest) a w :=
  st_append (F := fun b => nt (M ++ obl A) b ∧ b < w.heap.size) hf hd ht hi hz hsize hby hzs hsz hbp hx hn1 hown.inside hy hr (fun cs x hc => rep_as (F := F2) hc fun b h1 h2 => ⟨hF2 b h1 h2, h2⟩) h63
    (fun b hb hm => hb.1 (List.mem_append.2 (.inr hm))) hB fun A' c' w' a' hO hch hk hfr => h A' c' w' a' (hO.more fun b hb hm => by
      rcases List.mem_append.1 hm with hm | hm
      · exact hb.1 (List.mem_append.2 (.inl hm))
      · rcases hk b hm with h1 | h1
        · exact hb.1 (List.mem_append.2 (.inr h1))
        · have := hb.2; omega) hch hk hfr
end
end Go.Z
