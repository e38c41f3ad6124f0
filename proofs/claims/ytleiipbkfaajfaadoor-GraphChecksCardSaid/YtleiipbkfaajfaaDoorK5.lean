/- Plain: the depths of nodes, by the program and by the reference: the same. * Plain: the depths of nodes by the program: the same as the reference's. * Plain: the places of a graph and the steps from place to place, by the program and by the reference: the same. * Plain: the steps from place to place by the reference: the same as the program's. * Plain: whether a place comes back to itself, by the reference. * Plain: whether a place comes back to itself, by the reference: a search by breadth. * Plain: whether a place comes back to itself, by the program: a search by depth. * Plain: what is wrong with a graph, its order, its depths: the program and the reference tell the same. * Plain: what is wrong with any graph, and its order: the statement 'GraphChecks' on data. * A small logic over the model's walk, continued: arguments of a row, opened: what a reader treads reads as a datum. No program in sight. * The law 'GraphChecks' as it is given: whatever the input, the call returns true, and each argument reads behind it as it read before. No condition but that utf8's two tables hold what the library's text lays, which the card ties. -/
import Derived.Test.YtleiipbkfaajfaaDoorK4
import Derived.Test.YtleiipbkfaajfaaDoorK0
import Derived.OpenShut
import Derived.ShutString
import Derived.ChangeOld
import Derived.ChangeArms
import Derived.DataReads
import Derived.Test.YtleiipbkfaajfaaDoorRows
import Derived.Test.YtleiipbkfaajfaaDoorTie
import Derived.Test.YtleiipbkfaajfaaDoorCards
import Derived.WalkKit
import Derived.ProofKit
import Derived.Below
import Derived.LaidMore
import Derived.Stop.Joined
import Derived.SevenTiedAt
import Derived.Lib.LaidIn
import Derived.Lib.LaidU8T
import Derived.PinnedBridge
import Derived.SizedLaws
section
set_option linter.unusedVariables false
set_option linter.unusedSimpArgs false
namespace Go.A
theorem mrg_any {α β : Type} [DecidableEq β] {body : α → Option (Option β)} {rest : Option β} {y : β} {p : α → Bool} : ∀ {l : List α}, (∀ x ∈ l, body x = if p x = true then some (some y) else some none) → mrg body rest l = if l.any p = true then some y else rest
  | [], _ => rfl
  | x :: l, h => by
    have hx := h x (List.mem_cons_self ..)
    have ih := mrg_any (rest := rest) (l := l) fun z hz => h z (List.mem_cons_of_mem _ hz)
    unfold mrg
    rw [hx, List.any_cons]
    cases hp : p x with
    | true =>
      simp only [Option.bind_some, if_true, Bool.true_or]
      rw [if_pos]
      rw [List.all_eq_true]
      intro z hz
      have hz2 := h z (List.mem_cons_of_mem _ hz)
      refine decide_eq_true ?_
      rw [hz2]
      cases p z <;> simp
    | false =>
      simp only [Option.bind_some, Bool.false_eq_true, if_false, Bool.false_or]
      exact ih
end Go.A
namespace Go.Proofs.YtleiipbkfaajfaaDoor
open Go.RowKit Go.Graph
/-! ### the reference -/
theorem R_depth_eq (n : Nd) (l : List Int) (h5 : n.2.1 = 5 ∨ n.2.1 = 9 → 2 ≤ l.length) (hb : -1 ≤ d0 l ∧ d0 l ≤ 4) : F.R08_depth n l = some (depthOf n l) := by
  have hj5 : F.R08_depth_j5 n l (d0 l) = some (depthOf n l) := by
    unfold F.R08_depth_j5 depthOf depthA
    have hj2 : ∀ y, F.R08_depth_j2 y = some (capd y) := fun y => by unfold F.R08_depth_j2 F.R08_depth_j1 capd; split <;> rfl
    have hj4 : ∀ y, (y = true ↔ n.2.1 = 5 ∨ n.2.1 = 9) → F.R08_depth_j4 n l (d0 l) y = some (capd (if n.2.1 = 5 ∨ n.2.1 = 9 then (if iget l 0 ≠ iget l 1 then -1 else d0 l) else if n.2.1 = 11 ∨ n.2.1 = 16 ∨ n.2.1 = 15 then (if d0 l ≠ 0 then -1 else d0 l) else d0 l)) := fun y hy => by
      unfold F.R08_depth_j4 F.R08_depth_j3
      simp only [hj2, decide_eq_true_eq]
      by_cases h : n.2.1 = 5 ∨ n.2.1 = 9
      · have := h5 h
        rw [if_pos (hy.2 h), if_pos h, iix (i := 0) (by omega) (by omega), Option.bind_some, iix (i := 1) (by omega) (by omega), Option.bind_some]
        by_cases e : iget l 0 = iget l 1
        · rw [if_neg (fun h => h e), if_neg (fun h => h e)]
        · rw [if_pos e, if_pos e]
      · rw [if_neg (fun h2 => h (hy.1 h2)), if_neg h]
        by_cases h11 : n.2.1 = 11
        · simp only [h11, if_true, true_or]; split <;> rfl
        · by_cases h16 : n.2.1 = 16
          · simp only [h16, if_true, true_or, or_true, if_false, Int.reduceEq]; split <;> rfl
          · by_cases h15 : n.2.1 = 15
            · simp only [h15, if_true, or_true, if_false, Int.reduceEq]; split <;> rfl
            · simp only [h11, h16, h15, if_false, or_self]
    simp only [hj2]
    by_cases h14 : n.2.1 = 14
    · rw [if_pos h14, if_pos h14]
    · rw [if_neg h14, if_neg h14]
      by_cases h12 : n.2.1 = 12
      · rw [if_pos h12, if_pos h12, A.gd1 ⟨by omega, by omega⟩]
      · rw [if_neg h12, if_neg h12]
        by_cases h13 : n.2.1 = 13
        · rw [if_pos h13, if_pos h13, A.gd1 ⟨by omega, by omega⟩]
        · rw [if_neg h13, if_neg h13]
          by_cases h5' : n.2.1 = 5
          · rw [if_pos h5', hj4 _ (by simp [h5'])]
          · rw [if_neg h5', hj4 _ (by simp [h5'])]
  unfold F.R08_depth
  by_cases h : (0 : Int) < (l.length : Int)
  · rw [if_pos h, iix (i := 0) (by omega) (by omega), Option.bind_some, d0_iget]; exact hj5
  · rw [if_neg h, d0_nil (l := l) (by omega)]; exact hj5
/-- what holds of each node behind the first part -/
def Own (g : List Nd) : Prop := ∀ n, n ∈ g → ownQ n = true
theorem own_ins {n : Nd} (h : ownQ n = true) : 0 ≤ insK n.2.1 ∧ (n.2.2.1.length : Int) = insK n.2.1 := by
  unfold ownQ at h
  by_cases hc : n.1 < 1 ∨ 255 < n.1 ∨ insK n.2.1 < 0 ∨ (n.2.2.1.length : Int) ≠ insK n.2.1
  · rw [if_pos hc] at h; cases h
  · omega
theorem own_id {n : Nd} (h : ownQ n = true) : 1 ≤ n.1 ∧ n.1 ≤ 255 := by
  unfold ownQ at h
  by_cases hc : n.1 < 1 ∨ 255 < n.1 ∨ insK n.2.1 < 0 ∨ (n.2.2.1.length : Int) ≠ insK n.2.1
  · rw [if_pos hc] at h; cases h
  · omega
theorem own_D {n : Nd} (h : ownQ n = true) : (n.2.1 = 14 → 1 ≤ n.2.2.2.2.2.2 ∧ n.2.2.2.2.2.2 ≤ 4) ∧ (n.2.1 ≠ 14 → n.2.2.2.2.2.2 = 0) := by
  unfold ownQ at h
  by_cases hc : n.1 < 1 ∨ 255 < n.1 ∨ insK n.2.1 < 0 ∨ (n.2.2.1.length : Int) ≠ insK n.2.1
  · rw [if_pos hc] at h; cases h
  · rw [if_neg hc] at h
    by_cases h2 : ownC n
    · rw [if_pos h2] at h; cases h
    · unfold ownC at h2; omega
theorem insK_cases (k : Int) (h : 0 ≤ insK k) : (k = 1 ∧ insK k = 0) ∨ ((k = 5 ∨ k = 9) ∧ insK k = 2) ∨ (k ≠ 1 ∧ k ≠ 5 ∧ k ≠ 9 ∧ insK k = 1) := by
  unfold insK at h ⊢
  by_cases h1 : k < 1 ∨ 16 < k
  · rw [if_pos h1] at h; omega
  · rw [if_neg h1]
    by_cases h2 : k = 1
    · rw [if_pos h2]; omega
    · rw [if_neg h2]
      by_cases h3 : k = 5 ∨ k = 9
      · rw [if_pos h3]; omega
      · rw [if_neg h3]; omega
theorem own_len {n : Nd} (h : ownQ n = true) : (n.2.1 = 1 ∧ n.2.2.1.length = 0) ∨ ((n.2.1 = 5 ∨ n.2.1 = 9) ∧ n.2.2.1.length = 2) ∨ (n.2.1 ≠ 1 ∧ n.2.1 ≠ 5 ∧ n.2.1 ≠ 9 ∧ n.2.2.1.length = 1) := by
  have h1 := own_ins h
  rcases insK_cases n.2.1 h1.1 with h2 | h2 | h2 <;> omega
theorem iset_len {l : List Int} {i : Nat} {v : Int} : (l.set i v).length = l.length := List.length_set
theorem depths_l1 (g : List Nd) (l d : List Int) (y : Nat) (p : Nat) (x : Nd) (k5 : List Int → Int → Option (List Int × Bool)) (hb : Few g) (hfed : Fed g) (ho : Own g) (hd : d.length = g.length) (hib : InB d) (hp : l[y]? = some (p : Int)) (hy : y < 100) (hx : g[p]? = some x) :
    F.R08_depths_l1 k5 g l d (y : Int) x A.FU [] 0 = if depthOf x (inD g d x.2.2.1) < 0 then some ([], false) else k5 (d.set p (depthOf x (inD g d x.2.2.1))) ((y : Int) + 1) := by
  have hlen := hb.1
  have hin := hb.in hx
  have hpl := (List.getElem?_eq_some_iff.1 hx).1
  have hxg := List.mem_of_getElem? hx
  have loop := A.lp x.2.2.1 (fun f (s : List Int) i => F.R08_depths_l1 k5 g l d (y : Int) x f s i) (fun _ t s => if depthOf x (s ++ inD g d t) < 0 then some ([], false) else k5 (d.set p (depthOf x (s ++ inD g d t))) ((y : Int) + 1)) (fun k s => s = inD g d (x.2.2.1.take k))
    (fun f s hs => by
      rw [List.take_of_length_le (Nat.le_refl _)] at hs
      subst hs
      have hdep : F.R08_depth (x.1, x.2.1, x.2.2.1, (x.2.2.2.1.1, x.2.2.2.1.2.1, x.2.2.2.1.2.2), x.2.2.2.2.1, x.2.2.2.2.2.1, x.2.2.2.2.2.2) (inD g d x.2.2.1) = some (depthOf x (inD g d x.2.2.1)) := R_depth_eq x (inD g d x.2.2.1) (fun h => by rcases own_len (ho x hxg) with h2 | h2 | h2 <;> simp only [inD, List.length_map] <;> omega) (hib.d0 g _)
      have e : (inD g d x.2.2.1 ++ inD g d ([] : List Int)) = inD g d x.2.2.1 := by simp [inD]
      rw [F.R08_depths_l1, if_neg (by omega), A.ixn hp, Option.bind_some, hdep, Option.bind_some, iix (by omega) (by omega), Option.bind_some, Option.bind_some, e, iix (by omega) (by rw [iset_len]; omega), Option.bind_some, A.gd1 (A.r64n (by omega)), Int.toNat_natCast]
      have e2 : iget (d.set p (depthOf x (inD g d x.2.2.1))) (p : Int) = depthOf x (inD g d x.2.2.1) := by
        unfold iget; rw [Int.toNat_natCast, List.getElem?_set_self (by omega)]; rfl
      rw [e2])
    (fun f s k z hz hk hs ih => by
      have h1 := hfed x hxg z (List.mem_of_getElem? hz)
      have h2 := (idx_le g z).2
      rw [F.R08_depths_l1, if_pos (by omega), A.ixn hz, Option.bind_some, index_eq g z (by omega), Option.bind_some, iix h1 (by omega), Option.bind_some]
      have hs2 : s ++ [iget d (idx g z)] = inD g d (x.2.2.1.take (k + 1)) := by rw [hs]; exact inD_take hz
      rw [A.gd1 (by rw [hs]; simp only [inD, List.length_map, List.length_take, List.length_cons, List.length_nil]; omega), A.gd1 (A.r64n (by omega)), ih _ hs2]
      simp only [inD, List.map_cons, List.append_assoc, List.singleton_append])
    (by have := FU_big; omega) [] (by simp [inD])
  rw [loop]
  rfl
theorem depths_l3 (g : List Nd) (d : List Int) (hb : Few g) (hfed : Fed g) (ho : Own g) (hd : d.length = g.length) : F.R08_depths_l3 g d A.FU 0 = if loopsF g d g = true then some (d, true) else some ([], false) :=
  A.lp0 g (fun f y => F.R08_depths_l3 g d f y) (fun _ t => if loopsF g d t = true then some (d, true) else some ([], false))
    (fun f => by rw [F.R08_depths_l3, if_neg (by omega)]; rfl)
    (fun f k x hx hk ih => by
      have hlen := hb.1
      have hxg := List.mem_of_getElem? hx
      rw [F.R08_depths_l3, if_pos (by omega), A.ixn hx, Option.bind_some, loopsF]
      simp only [F.R08_depths_j2, A.gd1 (A.r64n (n := k) (by omega)), ih, decide_eq_true_eq]
      by_cases h14 : x.2.1 = 14
      · have hl : x.2.2.1.length = 1 := by rcases own_len (ho x hxg) with h2 | h2 | h2 <;> omega
        have hk0 : x.2.2.1[0]? = some (iget x.2.2.1 0) := by
          unfold iget
          rw [show (0 : Int).toNat = 0 from rfl, List.getElem?_eq_getElem (by omega)]; rfl
        have h1 := hfed x hxg _ (List.mem_of_getElem? hk0)
        have h2 := (idx_le g (iget x.2.2.1 0)).2
        rw [if_pos h14, show A.ix x.2.2.1 0 = _ from A.ixn hk0, Option.bind_some, index_eq g _ (by omega), Option.bind_some, iix h1 (by omega), Option.bind_some]
        by_cases e : iget d (idx g (iget x.2.2.1 0)) ≠ x.2.2.2.2.2.2
        · rw [if_pos e]
          have e2 : x.2.1 = 14 ∧ iget d (idx g (iget x.2.2.1 0)) ≠ x.2.2.2.2.2.2 := ⟨h14, e⟩
          rw [if_pos e2, if_neg Bool.false_ne_true]
        · rw [if_neg e]
          have e2 : ¬ (x.2.1 = 14 ∧ iget d (idx g (iget x.2.2.1 0)) ≠ x.2.2.2.2.2.2) := fun h => e h.2
          rw [if_neg e2]
      · have e2 : ¬ (x.2.1 = 14 ∧ iget d (idx g (iget x.2.2.1 0)) ≠ x.2.2.2.2.2.2) := fun h => h14 h.1
        rw [if_neg h14, if_neg Bool.false_ne_true, if_neg e2])
    (by have := FU_big; have := hb.1; omega)
/-- places of nodes -/
def Plc (g : List Nd) (l : List Int) : Prop := ∀ (i : Nat) (p : Int), l[i]? = some p → ∃ (k : Nat) (n : Nd), p = (k : Int) ∧ g[k]? = some n
theorem depths_l4 (g : List Nd) (l : List Int) (hb : Few g) (hfed : Fed g) (ho : Own g) (hl : l.length ≤ 60) (hp : Plc g l) : F.R08_depths g l = some (depths g l) := by
  have hlen := hb.1
  have loop := A.lp l (fun f (s : List Int) i => F.R08_depths_l4 g l f s i) (fun _ t s => match depthsF g t s with
    | some d => if loopsF g d g = true then some (d, true) else some ([], false)
    | none => some ([], false)) (fun k s => s.length = g.length ∧ InB s)
    (fun f s hs => by rw [F.R08_depths_l4, if_neg (by omega), depths_l3 g s hb hfed ho hs.1]; rfl)
    (fun f s k x hx hk hs ih => by
      obtain ⟨q, n, rfl, hn⟩ := hp k x hx
      rw [F.R08_depths_l4, if_pos (by omega), A.ixn hx, Option.bind_some, A.ixn hn, Option.bind_some, depths_l1 g l s k q n _ hb hfed ho hs.1 hs.2 hx (by omega) hn, depthsF, at_some rfl hn]
      by_cases h : depthOf n (inD g s n.2.2.1) < 0
      · rw [if_pos h, if_pos h]
      · rw [if_neg h, if_neg h, Int.toNat_natCast]
        exact ih _ ⟨by rw [iset_len]; exact hs.1, hs.2.set q (by omega) (depthOf_le n _)⟩)
    (by have := FU_big; omega) (List.replicate g.length 0) ⟨by simp, InB.rep _⟩
  unfold F.R08_depths depths
  rw [A.gd1 (by omega), loop]
  cases depthsF g l (List.replicate g.length 0) with
  | none => rfl
  | some d => simp only []; cases loopsF g d g <;> rfl
end Go.Proofs.YtleiipbkfaajfaaDoor
end

section
set_option linter.unusedVariables false
set_option linter.unusedSimpArgs false
set_option synthInstance.maxSize 1000000
set_option synthInstance.maxHeartbeats 400000
namespace Go.Proofs.YtleiipbkfaajfaaDoor
open Go.RowKit Go.Graph
def RelD (g : List Nd) (d : List Int) (dm : List (Int × Int)) : Prop := ∀ (i : Nat) (n : Nd), g[i]? = some n → Z.mget 0 dm n.1 = iget d (i : Int)
theorem RelD.in {g : List Nd} {d : List Int} {dm : List (Int × Int)} (h : RelD g d dm) {k : Int} (h0 : 0 ≤ idx g k) : Z.mget 0 dm k = iget d (idx g k) := by
  obtain ⟨q, h1, _, h3⟩ := idx_get h0
  have h4 := h _ q h1
  rw [h3, Int.toNat_of_nonneg h0] at h4
  exact h4
theorem iget_nat {l : List Int} {i : Nat} (h : i < l.length) : l[i]? = some (iget l (i : Int)) := by
  unfold iget; rw [Int.toNat_natCast, List.getElem?_eq_getElem h]; rfl
theorem inD_at {g : List Nd} {d l : List Int} {i : Nat} {k : Int} (h : l[i]? = some k) : iget (inD g d l) (i : Int) = iget d (idx g k) := by
  unfold iget
  rw [Int.toNat_natCast, inD, List.getElem?_map, h]; rfl
theorem out_eq (g : List Nd) (d : List Int) (a0 : (List (Int × Nd)) × (List Int) × (List (Int × Int))) (n : Nd) (hr : RelD g d a0.2.2) (hib : InB d) (ho : ownQ n = true) (hf : ∀ k ∈ n.2.2.1, 0 ≤ idx g k) :
    ∃ v b, F.graph_plan_out a0 n = some (v, b) ∧ ((b = false ∧ depthOf n (inD g d n.2.2.1) < 0) ∨ (b = true ∧ v = depthOf n (inD g d n.2.2.1) ∧ 0 ≤ v)) := by
  have hlen := own_len ho
  have hD := own_D ho
  unfold F.graph_plan_out
  by_cases h1 : n.2.1 = 1
  · have hl : n.2.2.1 = [] := List.eq_nil_of_length_eq_zero (by omega)
    rw [if_pos h1]
    refine ⟨0, true, rfl, .inr ⟨rfl, ?_, Int.le_refl _⟩⟩
    unfold depthOf depthA capd
    simp only [h1, hl, inD, List.map_nil, d0]; simp
  · rw [if_neg h1]
    by_cases h14 : n.2.1 = 14
    · rw [if_pos h14]
      have := hD.1 h14
      refine ⟨_, true, rfl, .inr ⟨rfl, ?_, by omega⟩⟩
      unfold depthOf depthA capd
      rw [if_pos h14, if_neg (by omega)]
    · rw [if_neg h14]
      have hpos : 0 < n.2.2.1.length := by omega
      obtain ⟨k0, hk0⟩ : ∃ k0, n.2.2.1[0]? = some k0 := ⟨_, List.getElem?_eq_getElem hpos⟩
      have f0 := hf k0 (List.mem_of_getElem? hk0)
      have b0 := hib (idx g k0)
      have e0 : d0 (inD g d n.2.2.1) = iget d (idx g k0) := by rw [← d0_iget]; exact inD_at hk0
      rw [show A.ix n.2.2.1 0 = _ from A.ixn hk0, Option.bind_some, A.lt, hr.in f0]
      have hj3 : ∀ y, (y = true ↔ (n.2.1 = 5 ∨ n.2.1 = 9) ∧ iget (inD g d n.2.2.1) 0 ≠ iget (inD g d n.2.2.1) 1) → ∃ v b, F.graph_plan_out_j3 n (iget d (idx g k0)) y = some (v, b) ∧ ((b = false ∧ depthOf n (inD g d n.2.2.1) < 0) ∨ (b = true ∧ v = depthOf n (inD g d n.2.2.1) ∧ 0 ≤ v)) := fun y hy => by
        unfold F.graph_plan_out_j3 depthOf depthA
        rw [if_neg h14, e0]
        by_cases hyt : y = true
        · have h2 := hy.1 hyt
          rw [if_pos hyt]
          refine ⟨0, false, rfl, .inl ⟨rfl, ?_⟩⟩
          rw [if_neg (by omega), if_neg (by omega), if_pos h2.1, if_pos h2.2]; decide
        · have h2 : ¬ ((n.2.1 = 5 ∨ n.2.1 = 9) ∧ iget (inD g d n.2.2.1) 0 ≠ iget (inD g d n.2.2.1) 1) := fun h => hyt (hy.2 h)
          rw [if_neg hyt]
          simp only [F.graph_plan_out_j1, F.graph_plan_out_j2, A.ba]
          by_cases h12 : n.2.1 = 12
          · rw [if_pos h12, if_pos h12, A.gd1 ⟨by omega, by omega⟩]
            unfold capd
            by_cases h4 : 4 < iget d (idx g k0) + 1
            · exact ⟨_, _, rfl, .inl ⟨decide_eq_false (by omega), by rw [if_pos h4]; decide⟩⟩
            · exact ⟨_, _, rfl, .inr ⟨decide_eq_true (by omega), by rw [if_neg h4], by omega⟩⟩
          · rw [if_neg h12, if_neg h12]
            by_cases h13 : n.2.1 = 13
            · rw [if_pos h13, if_pos h13, A.gd1 ⟨by omega, by omega⟩]
              unfold capd
              rw [if_neg (by omega)]
              by_cases h4 : 0 ≤ iget d (idx g k0) - 1
              · exact ⟨_, _, rfl, .inr ⟨decide_eq_true (by omega), rfl, h4⟩⟩
              · exact ⟨_, _, rfl, .inl ⟨decide_eq_false (by omega), by omega⟩⟩
            · rw [if_neg h13, if_neg h13]
              have hz : ∀ x : Int, n.2.1 = 11 ∨ n.2.1 = 16 ∨ n.2.1 = 15 → ∃ v b, (some (iget d (idx g k0), decide (iget d (idx g k0) = 0)) : Option (Int × Bool)) = some (v, b) ∧ ((b = false ∧ capd (if n.2.1 = 5 ∨ n.2.1 = 9 then if iget (inD g d n.2.2.1) 0 ≠ iget (inD g d n.2.2.1) 1 then -1 else iget d (idx g k0) else if n.2.1 = 11 ∨ n.2.1 = 16 ∨ n.2.1 = 15 then if iget d (idx g k0) ≠ 0 then -1 else iget d (idx g k0) else iget d (idx g k0)) < 0) ∨ (b = true ∧ v = capd (if n.2.1 = 5 ∨ n.2.1 = 9 then if iget (inD g d n.2.2.1) 0 ≠ iget (inD g d n.2.2.1) 1 then -1 else iget d (idx g k0) else if n.2.1 = 11 ∨ n.2.1 = 16 ∨ n.2.1 = 15 then if iget d (idx g k0) ≠ 0 then -1 else iget d (idx g k0) else iget d (idx g k0)) ∧ 0 ≤ v)) := fun _ hk => by
                rw [if_neg (by omega), if_pos hk]
                by_cases h0 : iget d (idx g k0) = 0
                · rw [h0]; exact ⟨_, _, rfl, .inr ⟨rfl, rfl, Int.le_refl _⟩⟩
                · rw [if_pos h0]; exact ⟨_, _, rfl, .inl ⟨decide_eq_false h0, by decide⟩⟩
              by_cases h11 : n.2.1 = 11
              · rw [if_pos h11]; exact hz 0 (.inl h11)
              · rw [if_neg h11]
                by_cases h16 : n.2.1 = 16
                · rw [if_pos h16]; exact hz 0 (.inr (.inl h16))
                · rw [if_neg h16]
                  by_cases h15 : n.2.1 = 15
                  · rw [if_pos h15]; exact hz 0 (.inr (.inr h15))
                  · rw [if_neg h15]
                    refine ⟨_, _, rfl, .inr ⟨decide_eq_true (by omega), ?_, by omega⟩⟩
                    by_cases h5 : n.2.1 = 5 ∨ n.2.1 = 9
                    · rw [if_pos h5, if_neg (fun h => h2 ⟨h5, h⟩)]; unfold capd; rw [if_neg (by omega)]
                    · rw [if_neg h5, if_neg (by omega)]; unfold capd; rw [if_neg (by omega)]
      by_cases h2 : (1 : Int) < (n.2.2.1.length : Int)
      · have h5 : n.2.1 = 5 ∨ n.2.1 = 9 := by omega
        obtain ⟨k1, hk1⟩ : ∃ k1, n.2.2.1[1]? = some k1 := ⟨_, List.getElem?_eq_getElem (by omega)⟩
        have f1 := hf k1 (List.mem_of_getElem? hk1)
        rw [if_pos h2, show A.ix n.2.2.1 1 = _ from A.ixn hk1, Option.bind_some, A.lt, hr.in f1]
        refine hj3 _ ?_
        rw [decide_eq_true_eq, show iget (inD g d n.2.2.1) 0 = _ from inD_at hk0, show iget (inD g d n.2.2.1) 1 = _ from inD_at hk1]
        exact ⟨fun h => ⟨h5, fun e => h e.symm⟩, fun h e => h.2 e.symm⟩
      · rw [if_neg h2]
        exact hj3 false ⟨fun h => (by cases h), fun h => by omega⟩
theorem relD_set {g : List Nd} (hi : Inc g) {d : List Int} {dm : List (Int × Int)} (h : RelD g d dm) (hd : d.length = g.length) {i : Nat} {n : Nd} (hn : g[i]? = some n) (v : Int) : RelD g (d.set i v) (Z.mins dm n.1 v) := fun j q hq => by
  rw [Z.mget_ins]
  have hl := (List.getElem?_eq_some_iff.1 hn).1
  by_cases e : q.1 = n.1
  · have := hi.inj hq hn e
    subst this
    rw [if_pos e]
    unfold iget
    rw [Int.toNat_natCast, List.getElem?_set_self (by omega)]; rfl
  · rw [if_neg e, h j q hq]
    have hne : i ≠ j := fun h2 => e (by subst h2; rw [hn] at hq; injection hq with hq; rw [hq])
    unfold iget
    rw [Int.toNat_natCast, List.getElem?_set_ne hne]
/-- which numbers a map of depths has -/
def KeyD (g : List Nd) (l : List Int) (dm : List (Int × Int)) : Prop := ∀ id, Z.mhas dm id = l.any fun p => decide (idAt g p = id)
theorem depths_l3P (g : List Nd) (l : List Int) (hb : Few g) (hi : Inc g) (hfed : Fed g) (ho : Own g) (hl : l.length ≤ 60) (hp : Plc g l) : ∀ (r k f : Nat) (d : List Int) (dm : List (Int × Int)), k + r = l.length → r < f → RelD g d dm → InB d → d.length = g.length → KeyD g (l.take k) dm →
    (∃ d' dm', depthsF g (l.drop k) d = some d' ∧ F.graph_plan_depths_l3 (mapOf g, l.map (idAt g), []) f dm (k : Int) = A.mrg (F.graph_plan_depths_b2 (mapOf g, l.map (idAt g), []) dm') (some (true, (mapOf g, l.map (idAt g), dm'))) (mapOf g) ∧ RelD g d' dm' ∧ InB d' ∧ d'.length = g.length ∧ KeyD g l dm') ∨
    (depthsF g (l.drop k) d = none ∧ ∃ p, F.graph_plan_depths_l3 (mapOf g, l.map (idAt g), []) f dm (k : Int) = some (false, p))
  | 0, k, f, d, dm, hk, hf, h1, h2, h3, h4 => by
    obtain ⟨f, rfl⟩ : ∃ f', f = f' + 1 := ⟨f - 1, by omega⟩
    left
    rw [List.take_of_length_le (by omega)] at h4
    refine ⟨d, dm, by rw [List.drop_eq_nil_of_le (by omega)]; rfl, ?_, h1, h2, h3, h4⟩
    rw [F.graph_plan_depths_l3, if_neg (by simp only [List.length_map]; omega)]
  | r + 1, k, f, d, dm, hk, hf, h1, h2, h3, h4 => by
    obtain ⟨f, rfl⟩ : ∃ f', f = f' + 1 := ⟨f - 1, by omega⟩
    have hx : l[k]? = some l[k] := List.getElem?_eq_getElem (by omega)
    generalize l[k] = x at hx
    obtain ⟨q, n, rfl, hn⟩ := hp k x hx
    have hng := List.mem_of_getElem? hn
    have hid : idAt g (q : Int) = n.1 := by unfold idAt; rw [at_some rfl hn]
    have e1 : A.ix (l.map (idAt g)) (k : Int) = some n.1 := A.ixn (by rw [List.getElem?_map, hx, Option.map_some, hid])
    obtain ⟨v, b, ho1, ho2⟩ := out_eq g d (mapOf g, l.map (idAt g), dm) n h1 h2 (ho n hng) (hfed n hng)
    have eF : F.graph_plan_depths_l3 (mapOf g, l.map (idAt g), []) (f + 1) dm (k : Int) = if (!b) = true then some (false, (mapOf g, l.map (idAt g), dm)) else A.gd (Z.R64 ((k : Int) + 1)) (F.graph_plan_depths_l3 (mapOf g, l.map (idAt g), []) f (Z.mins dm n.1 v) ((k : Int) + 1)) := by
      rw [F.graph_plan_depths_l3, if_pos (by simp only [List.length_map]; omega)]
      simp only [e1, Option.bind_some, A.lt, hi.mget hn]
      rw [show F.graph_plan_out (mapOf g, l.map (idAt g), dm) (n.1, n.2.1, n.2.2.1, (n.2.2.2.1.1, n.2.2.2.1.2.1, n.2.2.2.1.2.2), n.2.2.2.2.1, n.2.2.2.2.2.1, n.2.2.2.2.2.2) = _ from ho1, Option.bind_some]
    rw [A.dropx hx, depthsF, at_some rfl hn, eF]
    rcases ho2 with ⟨rfl, h5⟩ | ⟨rfl, h5, h6⟩
    · right
      rw [if_pos (show depthOf n (n.2.2.1.map fun k => iget d (idx g k)) < 0 from h5)]
      exact ⟨rfl, _, if_pos rfl⟩
    · subst h5
      rw [if_neg (show ¬ depthOf n (n.2.2.1.map fun k => iget d (idx g k)) < 0 by simp only [inD] at h6; omega), if_neg (by simp), A.gd1 (A.r64n (by omega)), Int.toNat_natCast]
      have := depths_l3P g l hb hi hfed ho hl hp r (k + 1) f (d.set q (depthOf n (inD g d n.2.2.1))) (Z.mins dm n.1 (depthOf n (inD g d n.2.2.1))) (by omega) (by omega) (relD_set hi h1 h3 hn _) (h2.set q h6 (depthOf_le n _)) (by rw [iset_len]; exact h3) (fun id => by
        rw [Z.mhas_ins, take_s hx, List.any_append, h4 id, List.any_cons, List.any_nil, Bool.or_false, hid, Bool.or_comm]
        congr 1
        exact decide_eq_decide.2 ⟨fun h => h.symm, fun h => h.symm⟩)
      exact this
theorem loopsF_any (g : List Nd) (d : List Int) : ∀ l, loopsF g d l = !(l.any fun x => decide (x.2.1 = 14 ∧ iget d (idx g (iget x.2.2.1 0)) ≠ x.2.2.2.2.2.2))
  | [] => rfl
  | x :: r => by
    unfold loopsF
    rw [List.any_cons]
    by_cases h : x.2.1 = 14 ∧ iget d (idx g (iget x.2.2.1 0)) ≠ x.2.2.2.2.2.2
    · rw [if_pos h, decide_eq_true h]; rfl
    · rw [if_neg h, decide_eq_false h, Bool.false_or]; exact loopsF_any g d r
/-- depths: they end alike -/
theorem depths_same (g : List Nd) (l : List Int) (hb : Few g) (hi : Inc g) (hfed : Fed g) (ho : Own g) (hl : l.length ≤ 60) (hp : Plc g l) :
    (∃ d dm, F.R08_depths g l = some (d, true) ∧ F.graph_plan_depths (mapOf g, l.map (idAt g), []) = some (true, (mapOf g, l.map (idAt g), dm)) ∧ RelD g d dm ∧ InB d ∧ d.length = g.length ∧ KeyD g l dm ∧ loopsF g d g = true ∧ depthsF g l (List.replicate g.length 0) = some d) ∨
    (F.R08_depths g l = some ([], false) ∧ ∃ p, F.graph_plan_depths (mapOf g, l.map (idAt g), []) = some (false, p)) := by
  have h0 : RelD g (List.replicate g.length 0) [] := fun i n hn => by
    unfold iget; rw [Int.toNat_natCast, List.getElem?_replicate]; split <;> rfl
  rw [depths_l4 g l hb hfed ho hl hp]
  unfold F.graph_plan_depths depths
  rcases depths_l3P g l hb hi hfed ho hl hp l.length 0 A.FU (List.replicate g.length 0) [] (by omega) (by have := FU_big; omega) h0 (InB.rep _) (by simp) (fun id => by simp [Z.mhas]) with ⟨d, dm, h1, h2, h3, h4, h5, h6⟩ | ⟨h1, p, h2⟩
  · rw [List.drop_zero] at h1
    rw [h1]
    simp only []
    have hm : A.mrg (F.graph_plan_depths_b2 (mapOf g, l.map (idAt g), []) dm) (some (true, (mapOf g, l.map (idAt g), dm))) (mapOf g) = if (mapOf g).any (fun p => decide (p.2.2.1 = 14 ∧ iget d (idx g (iget p.2.2.2.1 0)) ≠ p.2.2.2.2.2.2.2)) = true then some (false, (mapOf g, l.map (idAt g), dm)) else some (true, (mapOf g, l.map (idAt g), dm)) := by
      refine A.mrg_any fun p hp => ?_
      obtain ⟨n, hn, rfl⟩ := List.mem_map.1 hp
      unfold F.graph_plan_depths_b2 F.graph_plan_depths_j1
      by_cases h14 : n.2.1 = 14
      · have hl1 : n.2.2.1.length = 1 := by rcases own_len (ho n hn) with h2 | h2 | h2 <;> omega
        have hk0 : n.2.2.1[0]? = some (iget n.2.2.1 0) := iget_nat (i := 0) (by omega)
        have f0 := hfed n hn _ (List.mem_of_getElem? hk0)
        rw [if_pos h14, show A.ix n.2.2.1 0 = _ from A.ixn hk0, Option.bind_some, A.lt, h3.in f0]
        by_cases e : iget d (idx g (iget n.2.2.1 0)) ≠ n.2.2.2.2.2.2
        · rw [decide_eq_true e, if_pos rfl, decide_eq_true (And.intro h14 e), if_pos rfl]
        · rw [decide_eq_false e, if_neg Bool.false_ne_true, decide_eq_false (fun h => e h.2), if_neg Bool.false_ne_true]
      · rw [if_neg h14, if_neg Bool.false_ne_true, decide_eq_false (fun h => h14 h.1), if_neg Bool.false_ne_true]
    have hany : (mapOf g).any (fun p => decide (p.2.2.1 = 14 ∧ iget d (idx g (iget p.2.2.2.1 0)) ≠ p.2.2.2.2.2.2.2)) = g.any fun x => decide (x.2.1 = 14 ∧ iget d (idx g (iget x.2.2.1 0)) ≠ x.2.2.2.2.2.2) := by
      unfold mapOf; rw [List.any_map]; rfl
    have h2' : F.graph_plan_depths_l3 (mapOf g, l.map (idAt g), []) A.FU [] 0 = _ := h2.trans hm
    rw [h2', hany, loopsF_any]
    cases hc : g.any fun x => decide (x.2.1 = 14 ∧ iget d (idx g (iget x.2.2.1 0)) ≠ x.2.2.2.2.2.2) with
    | true => right; exact ⟨rfl, _, rfl⟩
    | false => left; exact ⟨d, dm, rfl, rfl, h3, h4, h5, h6, by rw [loopsF_any, hc]; rfl, rfl⟩
  · rw [List.drop_zero] at h1
    rw [h1]
    right
    exact ⟨rfl, p, h2⟩
end Go.Proofs.YtleiipbkfaajfaaDoor
end

section
set_option linter.unusedVariables false
set_option linter.unusedSimpArgs false
set_option synthInstance.maxSize 1000000
set_option synthInstance.maxHeartbeats 400000
namespace Go.Proofs.YtleiipbkfaajfaaDoor
open Go.RowKit Go.Graph
/-! ### places -/
theorem insS_len (g : List Nd) (d : List Int) (id : Int) : ∀ (k : Nat) (l : List Int), (insS g d id k l).length = l.length
  | _, [] => rfl
  | k, x :: r => by unfold insS; rw [List.length_cons, List.length_cons, insS_len g d id (k + 1) r]
theorem outS_len (n : Nd) (v : Int) : (outS n v).length ≤ 1 := by unfold outS; split <;> simp
theorem in2 {g : List Nd} (ho : Own g) {n : Nd} (hn : n ∈ g) : n.2.2.1.length ≤ 2 := by rcases own_len (ho n hn) with h | h | h <;> omega
theorem spots_l2P (g : List Nd) (d : List Int) (a0 : (List (Int × Nd)) × (List Int) × (List (Int × Int))) (k8 : List Sp → Int → Option (List Sp)) (y : Nat) (x : Nd) (xs : List Sp) (hr : RelD g d a0.2.2) (hx : g[y]? = some x) (hl : x.2.2.1.length ≤ 2) (hf : ∀ k ∈ x.2.2.1, 0 ≤ idx g k) (hxs : xs.length ≤ 1000) (hy : y ≤ 100) :
    F.graph_plan_spots_l2 k8 a0 (y : Int) x A.FU xs 0 = k8 (xs ++ (insS g d x.1 0 x.2.2.1 ++ outS x (iget d (y : Int)))) ((y : Int) + 1) :=
  A.lp x.2.2.1 (fun f (s : List Sp) i => F.graph_plan_spots_l2 k8 a0 (y : Int) x f s i) (fun k t s => k8 (s ++ (insS g d x.1 k t ++ outS x (iget d (y : Int)))) ((y : Int) + 1)) (fun k s => s.length ≤ 1000 + k)
    (fun f s hs => by
      rw [F.graph_plan_spots_l2, if_neg (by omega), insS, List.nil_append, outS, A.lt, hr y x hx]
      simp only [F.graph_plan_spots_j1, A.gd1 (A.r64n (n := y) (by omega))]
      by_cases h : x.2.1 ≠ 15
      · rw [if_pos h, if_pos h, A.gd1 (by simp only [List.length_cons, List.length_nil]; omega)]
      · rw [if_neg h, if_neg h, List.append_nil])
    (fun f s k z hz hk hs ih => by
      have h1 := hf z (List.mem_of_getElem? hz)
      rw [F.graph_plan_spots_l2, if_pos (by omega), A.ixn hz, Option.bind_some, A.lt, hr.in h1, A.gd1 (by simp only [List.length_cons, List.length_nil]; omega), A.gd1 (A.r64n (by omega)), ih _ (by simp only [List.length_append, List.length_cons, List.length_nil]; omega), insS]
      simp only [List.append_assoc, List.singleton_append, List.cons_append, List.nil_append])
    (by have := FU_big; omega) xs (by omega)
theorem spotsP_eq (g : List Nd) (d : List Int) (a0 : (List (Int × Nd)) × (List Int) × (List (Int × Int))) (hb : Few g) (hfed : Fed g) (ho : Own g) (hr : RelD g d a0.2.2) : F.graph_plan_spots a0 g = some (spots g d) := by
  have hlen := hb.1
  have loop := A.lp g (fun f (s : List Sp) i => F.graph_plan_spots_l3 a0 g f s i) (fun k t s => some (s ++ spotsF g d k t)) (fun k s => s.length ≤ 3 * k)
    (fun f s hs => by rw [F.graph_plan_spots_l3, if_neg (by omega), spotsF, List.append_nil])
    (fun f s k x hx hk hs ih => by
      have hxg := List.mem_of_getElem? hx
      have h2 := in2 ho hxg
      have h3 := outS_len x (iget d (k : Int))
      rw [F.graph_plan_spots_l3, if_pos (by omega), A.ixn hx, Option.bind_some, spots_l2P g d a0 _ k x s hr hx h2 (hfed x hxg) (by omega) (by omega), ih _ (by rw [List.length_append, List.length_append, insS_len]; omega), spotsF]
      simp only [List.append_assoc])
    (by have := FU_big; omega) [] (by simp)
  unfold F.graph_plan_spots
  rw [loop]; rfl
theorem spots_l2R (g : List Nd) (d : List Int) (k8 : List Sp → Int → Option (List Sp)) (y : Nat) (x : Nd) (xs : List Sp) (hg : g.length ≤ 100) (hd : d.length = g.length) (hx : g[y]? = some x) (hl : x.2.2.1.length ≤ 2) (hf : ∀ k ∈ x.2.2.1, 0 ≤ idx g k) (hxs : xs.length ≤ 1000) (hy : y ≤ 100) :
    F.R08_spots_l2 k8 g d (y : Int) x A.FU xs 0 = k8 (xs ++ (insS g d x.1 0 x.2.2.1 ++ outS x (iget d (y : Int)))) ((y : Int) + 1) :=
  A.lp x.2.2.1 (fun f (s : List Sp) i => F.R08_spots_l2 k8 g d (y : Int) x f s i) (fun k t s => k8 (s ++ (insS g d x.1 k t ++ outS x (iget d (y : Int)))) ((y : Int) + 1)) (fun k s => s.length ≤ 1000 + k)
    (fun f s hs => by
      have hyl := (List.getElem?_eq_some_iff.1 hx).1
      rw [F.R08_spots_l2, if_neg (by omega), insS, List.nil_append, outS]
      simp only [F.R08_spots_j1, A.gd1 (A.r64n (n := y) (by omega))]
      by_cases h : x.2.1 ≠ 15
      · rw [if_pos h, if_pos h, iix (by omega) (by omega), Option.bind_some, A.gd1 (by simp only [List.length_cons, List.length_nil]; omega)]
      · rw [if_neg h, if_neg h, List.append_nil])
    (fun f s k z hz hk hs ih => by
      have h1 := hf z (List.mem_of_getElem? hz)
      have h2 := (idx_le g z).2
      rw [F.R08_spots_l2, if_pos (by omega), A.ixn hz, Option.bind_some, index_eq g z hg, Option.bind_some, iix h1 (by omega), Option.bind_some, A.gd1 (by simp only [List.length_cons, List.length_nil]; omega), A.gd1 (A.r64n (by omega)), ih _ (by simp only [List.length_append, List.length_cons, List.length_nil]; omega), insS]
      simp only [List.append_assoc, List.singleton_append, List.cons_append, List.nil_append])
    (by have := FU_big; omega) xs (by omega)
theorem spotsR_eq (g : List Nd) (d : List Int) (hb : Few g) (hfed : Fed g) (ho : Own g) (hd : d.length = g.length) : F.R08_spots g d = some (spots g d) := by
  have hlen := hb.1
  have loop := A.lp g (fun f (s : List Sp) i => F.R08_spots_l3 g d f s i) (fun k t s => some (s ++ spotsF g d k t)) (fun k s => s.length ≤ 3 * k)
    (fun f s hs => by rw [F.R08_spots_l3, A.ba, if_neg (by simp), spotsF, List.append_nil])
    (fun f s k x hx hk hs ih => by
      have hxg := List.mem_of_getElem? hx
      have h2 := in2 ho hxg
      have h3 := outS_len x (iget d (k : Int))
      rw [F.R08_spots_l3, A.ba, if_pos (by simp only [decide_eq_true_eq]; omega), A.ixn hx, Option.bind_some, spots_l2R g d _ k x s (by omega) hd hx h2 (hfed x hxg) (by omega) (by omega), ih _ (by rw [List.length_append, List.length_append, insS_len]; omega), spotsF]
      simp only [List.append_assoc])
    (by have := FU_big; omega) [] (by simp)
  unfold F.R08_spots
  rw [loop]; rfl
/-! ### summaries -/
abbrev Ed := Pl × Pl × Sm
theorem five {P : Int → Prop} (h0 : P 0) (h1 : P 1) (h2 : P 2) (h3 : P 3) (h4 : P 4) (d : Int) (hd : 0 ≤ d ∧ d ≤ 4) : P d := by
  have : d = 0 ∨ d = 1 ∨ d = 2 ∨ d = 3 ∨ d = 4 := by omega
  rcases this with rfl | rfl | rfl | rfl | rfl <;> assumption
theorem Id_eqP (d : Int) (hd : 0 ≤ d ∧ d ≤ 4) : F.summ_Id d = some (idP d) := five (P := fun d => F.summ_Id d = some (idP d)) (by kernel_rfl) (by kernel_rfl) (by kernel_rfl) (by kernel_rfl) (by kernel_rfl) d hd
theorem Enter_eqP (d : Int) (hd : 0 ≤ d ∧ d ≤ 4) : F.summ_Enter d = some (enterP d) := five (P := fun d => F.summ_Enter d = some (enterP d)) (by kernel_rfl) (by kernel_rfl) (by kernel_rfl) (by kernel_rfl) (by kernel_rfl) d hd
theorem Leave_eqP (d : Int) (hd : 0 ≤ d ∧ d ≤ 4) : F.summ_Leave d = some (leaveP d) := five (P := fun d => F.summ_Leave d = some (leaveP d)) (by kernel_rfl) (by kernel_rfl) (by kernel_rfl) (by kernel_rfl) (by kernel_rfl) d hd
theorem Next_eqP (d : Int) (hd : 0 ≤ d ∧ d ≤ 4) : F.summ_Next d = some (nextP d) := five (P := fun d => F.summ_Next d = some (nextP d)) (by kernel_rfl) (by kernel_rfl) (by kernel_rfl) (by kernel_rfl) (by kernel_rfl) d hd
theorem Id_eqR (d : Int) (hd : 0 ≤ d ∧ d ≤ 4) : F.R02_Id d = some (idP d) := five (P := fun d => F.R02_Id d = some (idP d)) (by kernel_rfl) (by kernel_rfl) (by kernel_rfl) (by kernel_rfl) (by kernel_rfl) d hd
theorem Enter_eqR (d : Int) (hd : 0 ≤ d ∧ d ≤ 4) : F.R02_Enter d = some (enterP d) := five (P := fun d => F.R02_Enter d = some (enterP d)) (by kernel_rfl) (by kernel_rfl) (by kernel_rfl) (by kernel_rfl) (by kernel_rfl) d hd
theorem Leave_eqR (d : Int) (hd : 0 ≤ d ∧ d ≤ 4) : F.R02_Leave d = some (leaveP d) := five (P := fun d => F.R02_Leave d = some (leaveP d)) (by kernel_rfl) (by kernel_rfl) (by kernel_rfl) (by kernel_rfl) (by kernel_rfl) d hd
theorem Next_eqR (d : Int) (hd : 0 ≤ d ∧ d ≤ 4) : F.R02_Next d = some (nextP d) := five (P := fun d => F.R02_Next d = some (nextP d)) (by kernel_rfl) (by kernel_rfl) (by kernel_rfl) (by kernel_rfl) (by kernel_rfl) d hd
theorem within_eqP (n : Nd) (d : Int) (hd : 0 ≤ d ∧ d ≤ 4) : F.graph_within n d = some (withinP n d) := by
  unfold F.graph_within withinP
  simp only [Id_eqP d hd, Enter_eqP d hd, Leave_eqP d hd, Next_eqP d hd, Option.bind_some, F.graph_within_j1]
  repeat' split
  all_goals rfl
theorem within_eqR (n : Nd) (d : Int) (hd : 0 ≤ d ∧ d ≤ 4) : F.R08_within n d = some (withinP n d) := by
  unfold F.R08_within withinP
  simp only [Id_eqR d hd, Enter_eqR d hd, Leave_eqR d hd, Next_eqR d hd, Option.bind_some, F.R08_within_j1]
  repeat' split
  all_goals rfl
/-! ### whom a node feeds -/
def useN (id nd : Int) : Nat → List Int → List Pl
  | _, [] => []
  | k, z :: r => if z = id then (nd, (k : Int)) :: useN id nd (k + 1) r else useN id nd (k + 1) r
def usesF (id : Int) : List Nd → List Pl
  | [] => []
  | n :: r => useN id n.1 0 n.2.2.1 ++ usesF id r
theorem useN_len (id nd : Int) : ∀ (k : Nat) (l : List Int), (useN id nd k l).length ≤ l.length
  | _, [] => Nat.le_refl 0
  | k, z :: r => by
    unfold useN
    have := useN_len id nd (k + 1) r
    split <;> simp only [List.length_cons] <;> omega
theorem usesF_len (id : Int) : ∀ (l : List Nd), (∀ n ∈ l, n.2.2.1.length ≤ 2) → (usesF id l).length ≤ 2 * l.length
  | [], _ => Nat.le_refl 0
  | n :: r, h => by
    unfold usesF
    have h1 := usesF_len id r fun x hx => h x (List.mem_cons_of_mem _ hx)
    have h2 := useN_len id n.1 0 n.2.2.1
    have h3 := h n (List.mem_cons_self ..)
    rw [List.length_append, List.length_cons]; omega
theorem Values_eq (g : List Nd) (hg : g.length ≤ 100) : F.slices_Values_api_Node_api_Node_1_it g = some g :=
  A.lp0 g (fun f y => F.slices_Values_api_Node_api_Node_1_it_l1 g f y) (fun _ l => some l)
    (fun f => by rw [F.slices_Values_api_Node_api_Node_1_it_l1, if_neg (by omega)])
    (fun f k x hx hk ih => by rw [F.slices_Values_api_Node_api_Node_1_it_l1, if_pos (by omega), A.ixn hx, Option.bind_some, A.gd1 (A.r64n (by omega)), ih]; rfl)
    (by have := FU_big; omega)
theorem users_l2 (id : Int) (n : Nd) (k4 : List Pl → Option (List Pl)) (xs : List Pl) (hl : n.2.2.1.length ≤ 2) (hxs : xs.length ≤ 1000) : F.graph_users_l2 k4 id n A.FU xs 0 = k4 (xs ++ useN id n.1 0 n.2.2.1) :=
  A.lp n.2.2.1 (fun f (s : List Pl) i => F.graph_users_l2 k4 id n f s i) (fun k t s => k4 (s ++ useN id n.1 k t)) (fun k s => s.length ≤ 1000 + k)
    (fun f s hs => by rw [F.graph_users_l2, if_neg (by omega), useN, List.append_nil])
    (fun f s k z hz hk hs ih => by
      rw [F.graph_users_l2, if_pos (by omega), A.ixn hz, Option.bind_some, useN]
      simp only [F.graph_users_j1, A.gd1 (A.r64n (n := k) (by omega))]
      by_cases h : z = id
      · rw [if_pos h, if_pos h, A.gd1 (by simp only [List.length_cons, List.length_nil]; omega), ih _ (by simp only [List.length_append, List.length_cons, List.length_nil]; omega)]
        simp only [List.append_assoc, List.singleton_append, List.cons_append, List.nil_append]
      · rw [if_neg h, if_neg h, ih _ (by omega)])
    (by have := FU_big; omega) xs (by omega)
theorem users_l3 (id : Int) : ∀ (l : List Nd) (xs : List Pl), (∀ n ∈ l, n.2.2.1.length ≤ 2) → xs.length + 2 * l.length ≤ 900 → F.graph_users_l3 id l xs = some (xs ++ usesF id l)
  | [], xs, _, _ => by rw [F.graph_users_l3, usesF, List.append_nil]
  | n :: r, xs, h, hx => by
    have h3 := h n (List.mem_cons_self ..)
    have h2 := useN_len id n.1 0 n.2.2.1
    rw [List.length_cons] at hx
    rw [F.graph_users_l3, users_l2 id n _ xs h3 (by omega), users_l3 id r _ (fun x hx => h x (List.mem_cons_of_mem _ hx)) (by rw [List.length_append]; omega), usesF, List.append_assoc]
theorem users_eq (g : List Nd) (id : Int) (hb : Few g) (h2 : ∀ n ∈ g, n.2.2.1.length ≤ 2) : F.graph_users g id = some (usesF id g) := by
  have := hb.1
  unfold F.graph_users F.slices_Values_api_Node_api_Node
  rw [Option.bind_some, Values_eq g (by omega), Option.bind_some, users_l3 id g [] h2 (by simp; omega)]; rfl
/-! ### steps -/
def inE (g : List Nd) (d : List Int) (n : Nd) : Nat → List Int → List Ed
  | _, [] => []
  | k, z :: r => ((n.1, (k : Int)), (n.1, 2), withinP n (iget d (idx g z))) :: inE g d n (k + 1) r
def outE (g : List Nd) (n : Nd) (v : Int) : List Ed := (usesF n.1 g).map fun u => ((n.1, 2), u, (idP v).1)
def edgesF (g : List Nd) (d : List Int) : Nat → List Nd → List Ed
  | _, [] => []
  | i, n :: r => if n.2.1 = 15 then edgesF g d (i + 1) r else inE g d n 0 n.2.2.1 ++ (outE g n (iget d (i : Int)) ++ edgesF g d (i + 1) r)
def edges (g : List Nd) (d : List Int) : List Ed := edgesF g d 0 g
theorem inE_len (g : List Nd) (d : List Int) (n : Nd) : ∀ (k : Nat) (l : List Int), (inE g d n k l).length = l.length
  | _, [] => rfl
  | k, x :: r => by unfold inE; rw [List.length_cons, List.length_cons, inE_len g d n (k + 1) r]
theorem edges_l2P (k30 : List Ed → Int → Option (List Ed)) (y : Nat) (n : Nd) (s : Sm) (us : List Pl) (xs : List Ed) (hy : y ≤ 100) (hu : us.length ≤ 1000) (hxs : xs.length ≤ 10000) :
    F.graph_plan_edges_l2 k30 (y : Int) n s.1 s.2.1 s.2.2.1 s.2.2.2.1 s.2.2.2.2.1 s.2.2.2.2.2.1 s.2.2.2.2.2.2.1 s.2.2.2.2.2.2.2 us A.FU xs 0 = k30 (xs ++ us.map fun u => ((n.1, 2), u, s)) ((y : Int) + 1) :=
  A.lp us (fun f (t : List Ed) i => F.graph_plan_edges_l2 k30 (y : Int) n s.1 s.2.1 s.2.2.1 s.2.2.2.1 s.2.2.2.2.1 s.2.2.2.2.2.1 s.2.2.2.2.2.2.1 s.2.2.2.2.2.2.2 us f t i) (fun k t e => k30 (e ++ t.map fun u => ((n.1, 2), u, s)) ((y : Int) + 1)) (fun k t => t.length ≤ 10000 + k)
    (fun f t ht => by rw [F.graph_plan_edges_l2, if_neg (by omega), F.graph_plan_edges_j1, A.gd1 (A.r64n (by omega)), List.map_nil, List.append_nil])
    (fun f t k z hz hk ht ih => by
      rw [F.graph_plan_edges_l2, if_pos (by omega), A.ixn hz, Option.bind_some, A.gd1 (by simp only [List.length_cons, List.length_nil]; omega), A.gd1 (A.r64n (by omega)), ih _ (by simp only [List.length_append, List.length_cons, List.length_nil]; omega)]
      simp only [List.append_assoc, List.singleton_append, List.cons_append, List.nil_append, List.map_cons])
    (by have := FU_big; omega) xs (by omega)
theorem edges_l4P (g : List Nd) (d : List Int) (a0 : (List (Int × Nd)) × (List Int) × (List (Int × Int))) (k30 : List Ed → Int → Option (List Ed)) (y : Nat) (n : Nd) (xs : List Ed) (hb : Few g) (ho : Own g) (hib : InB d) (hr : RelD g d a0.2.2) (hn : g[y]? = some n) (hf : ∀ k ∈ n.2.2.1, 0 ≤ idx g k) (hxs : xs.length ≤ 9000) :
    F.graph_plan_edges_l4 k30 a0 g (y : Int) n A.FU xs 0 = k30 (xs ++ (inE g d n 0 n.2.2.1 ++ outE g n (iget d (y : Int)))) ((y : Int) + 1) :=
  A.lp n.2.2.1 (fun f (t : List Ed) i => F.graph_plan_edges_l4 k30 a0 g (y : Int) n f t i) (fun k t e => k30 (e ++ (inE g d n k t ++ outE g n (iget d (y : Int)))) ((y : Int) + 1)) (fun k t => t.length ≤ 9000 + k)
    (fun f t ht => by
      have hlen := hb.1
      have hyl := (List.getElem?_eq_some_iff.1 hn).1
      have h2 := in2 ho (List.mem_of_getElem? hn)
      have hu := usesF_len n.1 g fun x hx => in2 ho hx
      rw [F.graph_plan_edges_l4, if_neg (by omega), A.lt, hr y n hn, Id_eqP _ (hib _), Option.bind_some, F.graph_plan_edges_j3, users_eq g n.1 hb (fun x hx => in2 ho hx), Option.bind_some,
        show F.graph_plan_edges_l2 k30 (y : Int) n _ _ _ _ _ _ _ _ (usesF n.1 g) A.FU t 0 = _ from edges_l2P k30 y n (idP (iget d (y : Int))).1 (usesF n.1 g) t (by omega) (by omega) (by omega), inE, List.nil_append]
      rfl)
    (fun f t k z hz hk ht ih => by
      have h1 := hf z (List.mem_of_getElem? hz)
      have h2 := in2 ho (List.mem_of_getElem? hn)
      rw [F.graph_plan_edges_l4, if_pos (by omega), A.ixn hz, Option.bind_some, A.lt, hr.in h1, show F.graph_within (n.1, n.2.1, n.2.2.1, (n.2.2.2.1.1, n.2.2.2.1.2.1, n.2.2.2.1.2.2), n.2.2.2.2.1, n.2.2.2.2.2.1, n.2.2.2.2.2.2) _ = _ from within_eqP n _ (hib _), Option.bind_some, A.gd1 (by simp only [List.length_cons, List.length_nil]; omega), A.gd1 (A.r64n (by omega)), ih _ (by simp only [List.length_append, List.length_cons, List.length_nil]; omega), inE]
      simp only [List.append_assoc, List.singleton_append, List.cons_append, List.nil_append])
    (by have := FU_big; have := in2 ho (List.mem_of_getElem? hn); omega) xs (by omega)
theorem edgesP_eq (g : List Nd) (d : List Int) (a0 : (List (Int × Nd)) × (List Int) × (List (Int × Int))) (hb : Few g) (hfed : Fed g) (ho : Own g) (hib : InB d) (hr : RelD g d a0.2.2) : F.graph_plan_edges a0 g = some (edges g d) := by
  have hlen := hb.1
  have loop := A.lp g (fun f (s : List Ed) i => F.graph_plan_edges_l5 a0 g f s i) (fun k t s => some (s ++ edgesF g d k t)) (fun k s => s.length ≤ 83 * k)
    (fun f s hs => by rw [F.graph_plan_edges_l5, if_neg (by omega), edgesF, List.append_nil])
    (fun f s k x hx hk hs ih => by
      have hxg := List.mem_of_getElem? hx
      have h2 := in2 ho hxg
      have hu := usesF_len x.1 g fun x hx => in2 ho hx
      rw [F.graph_plan_edges_l5, if_pos (by omega), A.ixn hx, Option.bind_some, edgesF]
      by_cases h : x.2.1 = 15
      · rw [if_pos h, if_pos h, F.graph_plan_edges_j1, A.gd1 (A.r64n (by omega)), ih _ (by omega)]
      · rw [if_neg h, if_neg h, edges_l4P g d a0 _ k x s hb ho hib hr hx (hfed x hxg) (by omega), ih _ (by rw [List.length_append, List.length_append, inE_len, outE, List.length_map]; omega)]
        simp only [List.append_assoc])
    (by have := FU_big; omega) [] (by simp)
  unfold F.graph_plan_edges
  rw [loop]; rfl
end Go.Proofs.YtleiipbkfaajfaaDoor
end

section
set_option linter.unusedVariables false
set_option linter.unusedSimpArgs false
set_option synthInstance.maxSize 1000000
set_option synthInstance.maxHeartbeats 400000
namespace Go.Proofs.YtleiipbkfaajfaaDoor
open Go.RowKit Go.Graph
theorem Find_eq (g : List Nd) (hb : Few g) {j : Nat} {n : Nd} (hi : Inc g) (hn : g[j]? = some n) : F.R08_Find g n.1 = some (n, true) := by
  have := hb.1
  have hin := hb.in hn
  unfold F.R08_Find
  rw [index_eq g _ (by omega), Option.bind_some, hi.idx hn, if_neg (by omega), A.ixn hn, Option.bind_some, A.gd1 (by simp only [List.length_nil]; omega)]
  rfl
theorem edges_l4R (g : List Nd) (k37 : List Ed → Int → Option (List Ed)) (sp : Sp) (r18 : Nd × Bool) (r59 : Sm × Int) (j : Nat) (m : Nd) (xs : List Ed) (hg : g.length ≤ 100) (hm : g[j]? = some m) (hl : m.2.2.1.length ≤ 2) (hxs : xs.length ≤ 20000) :
    F.R08_edges_l4 k37 g sp r18 r59 (j : Int) A.FU xs 0 = k37 (xs ++ (useN r18.1.1 m.1 0 m.2.2.1).map fun u => (sp.1, u, r59.1)) ((j : Int) + 1) :=
  A.lp m.2.2.1 (fun f (t : List Ed) i => F.R08_edges_l4 k37 g sp r18 r59 (j : Int) f t i) (fun k t e => k37 (e ++ (useN r18.1.1 m.1 k t).map fun u => (sp.1, u, r59.1)) ((j : Int) + 1)) (fun k t => t.length ≤ 20000 + k)
    (fun f t ht => by
      have hjl := (List.getElem?_eq_some_iff.1 hm).1
      rw [F.R08_edges_l4, A.ixn hm, Option.bind_some, if_neg (by omega), A.gd1 (A.r64n (by omega)), useN, List.map_nil, List.append_nil])
    (fun f t k z hz hk ht ih => by
      rw [F.R08_edges_l4, A.ixn hm, Option.bind_some, if_pos (by omega), Option.bind_some, A.ixn hz, Option.bind_some, useN]
      simp only [F.R08_edges_j3, A.gd1 (A.r64n (n := k) (by omega)), Option.bind_some]
      by_cases h : z = r18.1.1
      · rw [if_pos h, if_pos h, A.gd1 (by simp only [List.length_cons, List.length_nil]; omega), ih _ (by simp only [List.length_append, List.length_cons, List.length_nil]; omega)]
        simp only [List.append_assoc, List.singleton_append, List.cons_append, List.nil_append, List.map_cons]
      · rw [if_neg h, if_neg h, ih _ (by omega)])
    (by have := FU_big; omega) xs (by omega)
theorem edges_l5R (g : List Nd) (k30 : List Ed → Int → Option (List Ed)) (y : Nat) (sp : Sp) (r18 : Nd × Bool) (r59 : Sm × Int) (xs : List Ed) (hb : Few g) (ho : Own g) (hxs : xs.length ≤ 15000) (hy : y ≤ 1000) :
    F.R08_edges_l5 k30 g (y : Int) sp r18 r59 A.FU xs 0 = k30 (xs ++ (usesF r18.1.1 g).map fun u => (sp.1, u, r59.1)) ((y : Int) + 1) :=
  A.lp g (fun f (t : List Ed) i => F.R08_edges_l5 k30 g (y : Int) sp r18 r59 f t i) (fun k t e => k30 (e ++ (usesF r18.1.1 t).map fun u => (sp.1, u, r59.1)) ((y : Int) + 1)) (fun k t => t.length ≤ 15000 + 2 * k)
    (fun f t ht => by rw [F.R08_edges_l5, if_neg (by omega), F.R08_edges_j1, A.gd1 (A.r64n (by omega)), usesF, List.map_nil, List.append_nil])
    (fun f t k m hm hk ht ih => by
      have hlen := hb.1
      have h2 := in2 ho (List.mem_of_getElem? hm)
      have h3 := useN_len r18.1.1 m.1 0 m.2.2.1
      rw [F.R08_edges_l5, if_pos (by omega), edges_l4R g _ sp r18 r59 k m t (by omega) hm h2 (by omega), ih _ (by rw [List.length_append, List.length_map]; omega), usesF, List.map_append, List.append_assoc])
    (by have := FU_big; have := hb.1; omega) xs (by omega)
def edOf (g : List Nd) (sp : Sp) : List Ed := if sp.1.2 ≠ 2 then (if (find g sp.1.1).1.2.1 ≠ 15 then [(sp.1, ((find g sp.1.1).1.1, 2), withinP (find g sp.1.1).1 sp.2)] else []) else (usesF (find g sp.1.1).1.1 g).map fun u => (sp.1, u, (idP sp.2).1)
def edS (g : List Nd) : List Sp → List Ed
  | [] => []
  | sp :: r => edOf g sp ++ edS g r
def SpOk (g : List Nd) (sp : Sp) : Prop := (∃ (j : Nat) (n : Nd), g[j]? = some n ∧ n.1 = sp.1.1) ∧ 0 ≤ sp.2 ∧ sp.2 ≤ 4
theorem find_eq {g : List Nd} (hi : Inc g) {j : Nat} {n : Nd} (hn : g[j]? = some n) : find g n.1 = (n, true) := by
  unfold find
  rw [hi.idx hn, if_neg (by omega), at_some rfl hn]
theorem edgesR_l6 (g : List Nd) (l : List Sp) (hb : Few g) (hi : Inc g) (ho : Own g) (hl : l.length ≤ 130) (hs : ∀ sp ∈ l, SpOk g sp) : F.R08_edges g l = some (edS g l) := by
  have hlen := hb.1
  have loop := A.lp l (fun f (s : List Ed) i => F.R08_edges_l6 g l f s i) (fun k t s => some (s ++ edS g t)) (fun k s => s.length ≤ 83 * k)
    (fun f s hs => by rw [F.R08_edges_l6, if_neg (by omega), edS, List.append_nil])
    (fun f s k x hx hk hp ih => by
      obtain ⟨⟨j, n, hn, hid⟩, hd⟩ := hs x (List.mem_of_getElem? hx)
      have hu := usesF_len n.1 g fun x hx => in2 ho hx
      rw [F.R08_edges_l6, if_pos (by omega), A.ixn hx, Option.bind_some, ← hid, Find_eq g hb hi hn, Option.bind_some, edS, edOf, ← hid, find_eq hi hn]
      simp only [F.R08_edges_j2, F.R08_edges_j1, A.gd1 (A.r64n (n := k) (by omega)), Option.bind_some]
      by_cases h2 : x.1.2 ≠ 2
      · rw [if_pos h2, if_pos h2]
        by_cases h15 : n.2.1 ≠ 15
        · rw [if_pos h15, if_pos h15, show F.R08_within (n.1, n.2.1, n.2.2.1, (n.2.2.2.1.1, n.2.2.2.1.2.1, n.2.2.2.1.2.2), n.2.2.2.2.1, n.2.2.2.2.2.1, n.2.2.2.2.2.2) x.2 = _ from within_eqR n x.2 hd, Option.bind_some, A.gd1 (by simp only [List.length_cons, List.length_nil]; omega), ih _ (by simp only [List.length_append, List.length_cons, List.length_nil]; omega), hid]
          simp only [List.append_assoc]
        · rw [if_neg h15, if_neg h15, ih _ (by omega), List.nil_append]
      · rw [if_neg h2, if_neg h2, Id_eqR x.2 hd, Option.bind_some, edges_l5R g _ k x (n, true) (idP x.2) s hb ho (by omega) (by omega), ih _ (by rw [List.length_append, List.length_map]; show s.length + (usesF n.1 g).length ≤ _; omega), List.append_assoc])
    (by have := FU_big; omega) [] (by simp)
  unfold F.R08_edges
  rw [loop]; rfl
theorem edS_app (g : List Nd) : ∀ (a b : List Sp), edS g (a ++ b) = edS g a ++ edS g b
  | [], _ => rfl
  | x :: a, b => by rw [List.cons_append, edS, edS, edS_app g a b, List.append_assoc]
theorem edS_ins {g : List Nd} (hi : Inc g) (d : List Int) {j : Nat} {n : Nd} (hn : g[j]? = some n) : ∀ (k : Nat) (l : List Int), k + l.length ≤ 2 → edS g (insS g d n.1 k l) = if n.2.1 = 15 then [] else inE g d n k l
  | k, [], _ => by unfold insS inE edS; split <;> rfl
  | k, z :: r, h => by
    rw [List.length_cons] at h
    have h2 : ((k : Int) : Int) ≠ 2 := by omega
    unfold insS inE
    rw [edS, edS_ins hi d hn (k + 1) r (by omega), edOf]
    simp only [find_eq hi hn]
    rw [if_pos h2]
    by_cases h15 : n.2.1 = 15
    · simp [h15]
    · rw [if_neg h15, if_neg h15, if_pos h15]; rfl
theorem edS_spots {g : List Nd} (hi : Inc g) (ho : Own g) (d : List Int) : ∀ (m k : Nat), k + m = g.length → edS g (spotsF g d k (g.drop k)) = edgesF g d k (g.drop k)
  | 0, k, h => by rw [List.drop_eq_nil_of_le (by omega)]; rfl
  | m + 1, k, h => by
    have hx : g[k]? = some g[k] := List.getElem?_eq_getElem (by omega)
    generalize g[k] = x at hx
    have h2 := in2 ho (List.mem_of_getElem? hx)
    rw [A.dropx hx, spotsF, edgesF, edS_app, edS_app, edS_spots hi ho d m (k + 1) (by omega), edS_ins hi d hx 0 _ (by omega)]
    by_cases h15 : x.2.1 = 15
    · rw [if_pos h15, if_pos h15, outS, if_neg (fun h => h h15), edS]; rfl
    · rw [if_neg h15, if_neg h15, outS, if_pos h15, edS, edOf]
      simp only [find_eq hi hx]
      rw [if_neg (fun h => h rfl), edS, List.append_nil]; rfl
theorem insS_ok {g : List Nd} {d : List Int} (hib : InB d) {j : Nat} {n : Nd} (hn : g[j]? = some n) : ∀ (k : Nat) (l : List Int), ∀ sp ∈ insS g d n.1 k l, SpOk g sp
  | _, [], sp, h => by cases h
  | k, z :: r, sp, h => by
    unfold insS at h
    rcases List.mem_cons.1 h with rfl | h
    · exact ⟨⟨j, n, hn, rfl⟩, hib _⟩
    · exact insS_ok hib hn (k + 1) r sp h
theorem spots_ok {g : List Nd} {d : List Int} (hib : InB d) : ∀ (m k : Nat), k + m = g.length → ∀ sp ∈ spotsF g d k (g.drop k), SpOk g sp
  | 0, k, h, sp, hs => by rw [List.drop_eq_nil_of_le (by omega)] at hs; cases hs
  | m + 1, k, h, sp, hs => by
    have hx : g[k]? = some g[k] := List.getElem?_eq_getElem (by omega)
    generalize g[k] = x at hx
    rw [A.dropx hx, spotsF] at hs
    rcases List.mem_append.1 hs with hs | hs
    · exact insS_ok hib hx 0 _ sp hs
    · rcases List.mem_append.1 hs with hs | hs
      · unfold outS at hs
        split at hs
        · rw [List.mem_singleton] at hs; subst hs; exact ⟨⟨k, x, hx, rfl⟩, hib _⟩
        · cases hs
      · exact spots_ok hib m (k + 1) (by omega) sp hs
theorem spots_len {g : List Nd} (ho : Own g) (d : List Int) : ∀ (m k : Nat), k + m = g.length → (spotsF g d k (g.drop k)).length ≤ 3 * m
  | 0, k, h => by rw [List.drop_eq_nil_of_le (by omega)]; exact Nat.le_refl 0
  | m + 1, k, h => by
    have hx : g[k]? = some g[k] := List.getElem?_eq_getElem (by omega)
    generalize g[k] = x at hx
    have h2 := in2 ho (List.mem_of_getElem? hx)
    have h3 := outS_len x (iget d (k : Int))
    have h4 := spots_len ho d m (k + 1) (by omega)
    rw [A.dropx hx, spotsF, List.length_append, List.length_append, insS_len]; omega
theorem edgesR_eq (g : List Nd) (d : List Int) (hb : Few g) (hi : Inc g) (ho : Own g) (hib : InB d) : F.R08_edges g (spots g d) = some (edges g d) := by
  have h1 := spots_len ho d g.length 0 (by omega)
  have h2 := spots_ok (d := d) (g := g) hib g.length 0 (by omega)
  have h3 := edS_spots hi ho d g.length 0 (by omega)
  rw [List.drop_zero] at h1 h2 h3
  have := hb.1
  rw [edgesR_l6 g (spots g d) hb hi ho (by unfold spots; omega) h2]
  exact congrArg some h3
end Go.Proofs.YtleiipbkfaajfaaDoor
end

section
set_option linter.unusedVariables false
set_option linter.unusedSimpArgs false
set_option synthInstance.maxSize 1000000
set_option synthInstance.maxHeartbeats 400000
namespace Go.Proofs.YtleiipbkfaajfaaDoor
open Go.RowKit Go.Graph
inductive Rch {α : Type} (R : α → α → Prop) (a : α) : α → Prop
  | one {b : α} (h : R a b) : Rch R a b
  | step {b c : α} (h : Rch R a b) (h2 : R b c) : Rch R a c
/-! ### what is known of a graph's places -/
theorem insS_at (g : List Nd) (d : List Int) (id : Int) : ∀ (k : Nat) (l : List Int) (p : Pl) (v : Int), (p, v) ∈ insS g d id k l → p.1 = id ∧ (k : Int) ≤ p.2 ∧ p.2 < (k : Int) + l.length
  | _, [], _, _, h => by cases h
  | k, z :: r, p, v, h => by
    unfold insS at h
    rw [List.length_cons]
    rcases List.mem_cons.1 h with h | h
    · injection h with h1 h2; subst h1; refine ⟨rfl, Int.le_refl _, ?_⟩; simp only []; omega
    · have := insS_at g d id (k + 1) r p v h; omega
theorem insS_nodup (g : List Nd) (d : List Int) (id : Int) : ∀ (k : Nat) (l : List Int), ((insS g d id k l).map (·.1)).Nodup
  | _, [] => List.nodup_nil
  | k, z :: r => by
    unfold insS
    rw [List.map_cons, List.nodup_cons]
    refine ⟨fun h => ?_, insS_nodup g d id (k + 1) r⟩
    obtain ⟨⟨p, v⟩, h1, h2⟩ := List.mem_map.1 h
    have := insS_at g d id (k + 1) r p v h1
    simp only [] at h2
    rw [h2] at this; simp only [] at this; omega
theorem spotsF_ids {g : List Nd} (d : List Int) : ∀ (k : Nat) (l : List Nd) (sp : Sp), sp ∈ spotsF g d k l → ∃ n ∈ l, n.1 = sp.1.1
  | _, [], _, h => by cases h
  | k, n :: r, sp, h => by
    unfold spotsF at h
    rcases List.mem_append.1 h with h | h
    · exact ⟨n, List.mem_cons_self .., (insS_at g d n.1 0 _ sp.1 sp.2 h).1.symm⟩
    · rcases List.mem_append.1 h with h | h
      · unfold outS at h
        split at h
        · rw [List.mem_singleton] at h; subst h; exact ⟨n, List.mem_cons_self .., rfl⟩
        · cases h
      · obtain ⟨m, h1, h2⟩ := spotsF_ids d (k + 1) r sp h
        exact ⟨m, List.mem_cons_of_mem _ h1, h2⟩
theorem spotsF_nodup {g : List Nd} (d : List Int) : ∀ (k : Nat) (l : List Nd), l.Pairwise (fun a b => a.1 < b.1) → (∀ n ∈ l, n.2.2.1.length ≤ 2) → ((spotsF g d k l).map (·.1)).Nodup
  | _, [], _, _ => List.nodup_nil
  | k, n :: r, hp, hl => by
    rw [List.pairwise_cons] at hp
    have h2 := hl n (List.mem_cons_self ..)
    unfold spotsF
    rw [List.map_append, List.nodup_append, List.map_append, List.nodup_append]
    have hrest : ∀ p ∈ (spotsF g d (k + 1) r).map (·.1), p.1 ≠ n.1 := fun p hp2 e => by
      obtain ⟨sp, h1, rfl⟩ := List.mem_map.1 hp2
      obtain ⟨m, h3, h4⟩ := spotsF_ids d (k + 1) r sp h1
      have := hp.1 m h3; omega
    have hout : ∀ p ∈ (outS n (iget d (k : Int))).map (·.1), p = (n.1, 2) := fun p hp2 => by
      unfold outS at hp2
      split at hp2
      · simpa using hp2
      · cases hp2
    have hin : ∀ p ∈ (insS g d n.1 0 n.2.2.1).map (·.1), p.1 = n.1 ∧ p.2 < 2 := fun p hp2 => by
      obtain ⟨⟨q, v⟩, h1, rfl⟩ := List.mem_map.1 hp2
      have := insS_at g d n.1 0 _ q v h1
      simp only []; omega
    refine ⟨insS_nodup g d n.1 0 _, ⟨?_, spotsF_nodup d (k + 1) r hp.2 (fun x hx => hl x (List.mem_cons_of_mem _ hx)), ?_⟩, ?_⟩
    · unfold outS; split <;> simp
    · intro a ha b hb e
      have h3 := hout a ha
      subst e
      exact hrest a hb (by rw [h3])
    · intro a ha b hb e
      subst e
      have h3 := hin a ha
      rcases List.mem_append.1 hb with hb | hb
      · have := hout a hb; rw [this] at h3; simp only [] at h3; omega
      · exact hrest a hb h3.1
/-- where a step leads, is a place; a step to an output comes from the same node -/
theorem useN_mem (id nd : Int) : ∀ (k : Nat) (l : List Int) (u : Pl), u ∈ useN id nd k l → u.1 = nd ∧ ∃ j : Nat, u.2 = (k : Int) + j ∧ j < l.length
  | _, [], u, h => by cases h
  | k, z :: r, u, h => by
    unfold useN at h
    have hrec : u ∈ useN id nd (k + 1) r → u.1 = nd ∧ ∃ j : Nat, u.2 = (k : Int) + j ∧ j < (z :: r).length := fun h => by
      obtain ⟨h1, j, h2, h3⟩ := useN_mem id nd (k + 1) r u h
      exact ⟨h1, j + 1, by omega, by rw [List.length_cons]; omega⟩
    split at h
    · rcases List.mem_cons.1 h with rfl | h
      · exact ⟨rfl, 0, by simp, by rw [List.length_cons]; omega⟩
      · exact hrec h
    · exact hrec h
theorem insS_get (g : List Nd) (d : List Int) (id : Int) : ∀ (k : Nat) (l : List Int) (j : Nat), j < l.length → ∃ v, ((id, (k : Int) + j), v) ∈ insS g d id k l
  | _, [], j, h => by simp at h
  | k, z :: r, j, h => by
    unfold insS
    cases j with
    | zero => exact ⟨iget d (idx g z), by simp⟩
    | succ j =>
      rw [List.length_cons] at h
      obtain ⟨v, hv⟩ := insS_get g d id (k + 1) r j (by omega)
      refine ⟨v, List.mem_cons_of_mem _ ?_⟩
      have e : (k : Int) + ((j + 1 : Nat) : Int) = ((k + 1 : Nat) : Int) + (j : Int) := by omega
      rw [e]; exact hv
theorem spotsF_ins {g : List Nd} (d : List Int) : ∀ (k : Nat) (l : List Nd) (n : Nd), n ∈ l → ∀ sp ∈ insS g d n.1 0 n.2.2.1, sp ∈ spotsF g d k l
  | _, [], _, h, _, _ => by cases h
  | k, m :: r, n, h, sp, hs => by
    unfold spotsF
    rcases List.mem_cons.1 h with rfl | h
    · exact List.mem_append_left _ hs
    · exact List.mem_append_right _ (List.mem_append_right _ (spotsF_ins d (k + 1) r n h sp hs))
theorem spotsF_out {g : List Nd} (d : List Int) : ∀ (k : Nat) (l : List Nd) (n : Nd), n ∈ l → n.2.1 ≠ 15 → ∃ v, ((n.1, 2), v) ∈ spotsF g d k l
  | _, [], _, h, _ => by cases h
  | k, m :: r, n, h, h15 => by
    unfold spotsF
    rcases List.mem_cons.1 h with rfl | h
    · exact ⟨iget d (k : Int), List.mem_append_right _ (List.mem_append_left _ (by unfold outS; rw [if_pos h15]; simp))⟩
    · obtain ⟨v, hv⟩ := spotsF_out d (k + 1) r n h h15
      exact ⟨v, List.mem_append_right _ (List.mem_append_right _ hv)⟩
theorem usesF_mem (id : Int) : ∀ (l : List Nd) (u : Pl), u ∈ usesF id l → ∃ n ∈ l, u.1 = n.1 ∧ ∃ j : Nat, u.2 = (j : Int) ∧ j < n.2.2.1.length
  | [], u, h => by cases h
  | n :: r, u, h => by
    unfold usesF at h
    rcases List.mem_append.1 h with h | h
    · obtain ⟨h1, j, h2, h3⟩ := useN_mem id n.1 0 _ u h
      exact ⟨n, List.mem_cons_self .., h1, j, by omega, h3⟩
    · obtain ⟨m, h1, h2⟩ := usesF_mem id r u h
      exact ⟨m, List.mem_cons_of_mem _ h1, h2⟩
theorem inE_mem (g : List Nd) (d : List Int) (n : Nd) : ∀ (k : Nat) (l : List Int) (e : Ed), e ∈ inE g d n k l → e.1.1 = n.1 ∧ (k : Int) ≤ e.1.2 ∧ e.1.2 < (k : Int) + l.length ∧ e.2.1 = (n.1, 2)
  | _, [], _, h => by cases h
  | k, z :: r, e, h => by
    unfold inE at h
    rw [List.length_cons]
    rcases List.mem_cons.1 h with rfl | h
    · refine ⟨rfl, Int.le_refl _, ?_, rfl⟩; simp only []; omega
    · have := inE_mem g d n (k + 1) r e h
      refine ⟨this.1, by omega, by omega, this.2.2.2⟩
theorem edgesF_mem {g : List Nd} (d : List Int) : ∀ (k : Nat) (l : List Nd) (e : Ed), e ∈ edgesF g d k l → ∃ n ∈ l, e.1.1 = n.1 ∧ ((n.2.1 ≠ 15 ∧ e.2.1 = (n.1, 2) ∧ 0 ≤ e.1.2 ∧ e.1.2 < n.2.2.1.length) ∨ (e.1.2 = 2 ∧ ∃ m ∈ g, e.2.1.1 = m.1 ∧ ∃ j : Nat, e.2.1.2 = (j : Int) ∧ j < m.2.2.1.length))
  | _, [], _, h => by cases h
  | k, n :: r, e, h => by
    unfold edgesF at h
    have hrec : e ∈ edgesF g d (k + 1) r → ∃ m ∈ n :: r, e.1.1 = m.1 ∧ ((m.2.1 ≠ 15 ∧ e.2.1 = (m.1, 2) ∧ 0 ≤ e.1.2 ∧ e.1.2 < m.2.2.1.length) ∨ (e.1.2 = 2 ∧ ∃ q ∈ g, e.2.1.1 = q.1 ∧ ∃ j : Nat, e.2.1.2 = (j : Int) ∧ j < q.2.2.1.length)) := fun h => by
      obtain ⟨m, h1, h2⟩ := edgesF_mem d (k + 1) r e h
      exact ⟨m, List.mem_cons_of_mem _ h1, h2⟩
    split at h
    · exact hrec h
    · rename_i h15
      rcases List.mem_append.1 h with h | h
      · obtain ⟨h1, h2, h3, h4⟩ := inE_mem g d n 0 _ e h
        exact ⟨n, List.mem_cons_self .., h1, .inl ⟨h15, h4, by omega, by omega⟩⟩
      · rcases List.mem_append.1 h with h | h
        · unfold outE at h
          obtain ⟨u, hu, rfl⟩ := List.mem_map.1 h
          obtain ⟨m, h1, h2⟩ := usesF_mem n.1 g u hu
          exact ⟨n, List.mem_cons_self .., rfl, .inr ⟨rfl, m, h1, h2⟩⟩
        · exact hrec h
/-- a step leads to a place -/
theorem edge_to {g : List Nd} (d : List Int) {e : Ed} (he : e ∈ edges g d) : ∃ v, (e.2.1, v) ∈ spots g d := by
  obtain ⟨n, hn, h1, h | h⟩ := edgesF_mem d 0 g e he
  · obtain ⟨v, hv⟩ := spotsF_out d 0 g n hn h.1
    exact ⟨v, by rw [h.2.1]; exact hv⟩
  · obtain ⟨_, m, hm, h2, j, h3, h4⟩ := h
    obtain ⟨v, hv⟩ := insS_get g d m.1 0 m.2.2.1 j h4
    refine ⟨v, spotsF_ins d 0 g m hm _ ?_⟩
    have e1 : e.2.1 = (m.1, ((0 : Nat) : Int) + (j : Int)) := Prod.ext h2 (by rw [h3]; simp)
    rw [e1]; exact hv
theorem edge_from {g : List Nd} (d : List Int) {e : Ed} (he : e ∈ edges g d) : ∃ n ∈ g, e.1.1 = n.1 := by
  obtain ⟨n, hn, h1, _⟩ := edgesF_mem d 0 g e he
  exact ⟨n, hn, h1⟩
/-- a step to an output comes from an input of that node -/
theorem edge_out {g : List Nd} (d : List Int) (ho : Own g) {e : Ed} (he : e ∈ edges g d) (h2 : e.2.1.2 = 2) : e.1.1 = e.2.1.1 ∧ e.1.2 ≠ 2 := by
  obtain ⟨n, hn, h1, h | h⟩ := edgesF_mem d 0 g e he
  · have := in2 ho hn
    exact ⟨by rw [h1, h.2.1], by omega⟩
  · obtain ⟨_, m, hm, _, j, h3, h4⟩ := h
    have := in2 ho hm
    omega
/-! ### the depth of a place -/
theorem atS_mem {p : Pl} : ∀ {l : List Sp} {v : Int}, (l.map (·.1)).Nodup → (p, v) ∈ l → atS p l = v
  | [], _, _, h => by cases h
  | x :: r, v, hn, h => by
    rw [List.map_cons, List.nodup_cons] at hn
    unfold atS
    rcases List.mem_cons.1 h with rfl | h
    · rw [if_pos rfl]
    · rw [if_neg (fun e => hn.1 (by rw [e]; exact List.mem_map_of_mem (f := (·.1)) h))]
      exact atS_mem hn.2 h
theorem R_at_eq (l : List Sp) (p : Pl) (hl : l.length ≤ 100000) : F.R08_at l p = some (atS p l) :=
  A.lp0 l (fun f y => F.R08_at_l1 l p f y) (fun _ t => some (atS p t))
    (fun f => by rw [F.R08_at_l1, if_neg (by omega)]; rfl)
    (fun f k x hx hk ih => by
      rw [F.R08_at_l1, if_pos (by omega), A.ixn hx, Option.bind_some, Option.bind_some, atS]
      by_cases h : x.1 = p
      · rw [if_pos (show (x.1.1, x.1.2) = (p.1, p.2) from h), if_pos h]
      · rw [if_neg (show ¬ (x.1.1, x.1.2) = (p.1, p.2) from h), if_neg h, A.gd1 (A.r64n (by omega)), ih])
    (by have := FU_big; omega)
theorem R_on_eq (l : List Pl) (p : Pl) (hl : l.length ≤ 100000) : F.R08_on l p = some (decide (p ∈ l)) :=
  A.lp0 l (fun f y => F.R08_on_l1 l p f y) (fun _ t => some (decide (p ∈ t)))
    (fun f => by rw [F.R08_on_l1, if_neg (by omega)]; simp)
    (fun f k x hx hk ih => by
      rw [F.R08_on_l1, if_pos (by omega), A.ixn hx, Option.bind_some]
      by_cases h : x = p
      · rw [if_pos (show (x.1, x.2) = (p.1, p.2) from h)]; simp [h]
      · rw [if_neg (show ¬ (x.1, x.2) = (p.1, p.2) from h), A.gd1 (A.r64n (by omega)), ih]
        congr 1
        exact decide_eq_decide.2 ⟨fun h2 => List.mem_cons_of_mem _ h2, fun h2 => (List.mem_cons.1 h2).resolve_left fun e => h e.symm⟩)
    (by have := FU_big; omega)
end Go.Proofs.YtleiipbkfaajfaaDoor
end

section
set_option linter.unusedVariables false
set_option linter.unusedSimpArgs false
set_option synthInstance.maxSize 1000000
set_option synthInstance.maxHeartbeats 400000
namespace Go.Proofs.YtleiipbkfaajfaaDoor
open Go.RowKit Go.Graph
/-- may a way go along a step, at a depth or deeper, by no loop of that depth? -/
def openB (g : List Nd) (S : List Sp) (dd : Int) (e : Ed) : Bool := decide (dd ≤ atS e.2.1 S) && (decide ((find g e.1.1).1.2.1 ≠ 14) || decide ((find g e.1.1).1.2.2.2.2.2.2 ≠ dd) || decide (e.1.2 = 2))
theorem R_open_eq (g : List Nd) (S : List Sp) (e : Ed) (dd : Int) (hb : Few g) (hi : Inc g) (hS : S.length ≤ 100000) (hf : ∃ n ∈ g, e.1.1 = n.1) : F.R08_open g S e dd = some (openB g S dd e) := by
  obtain ⟨n, hn, h1⟩ := hf
  obtain ⟨j, hj⟩ := List.mem_iff_getElem?.1 hn
  unfold F.R08_open openB
  rw [h1, Find_eq g hb hi hj, Option.bind_some, show F.R08_at S (e.2.1.1, e.2.1.2) = _ from R_at_eq S e.2.1 hS, Option.bind_some, find_eq hi hj]
  by_cases h : dd ≤ atS e.2.1 S
  · rw [if_pos h, decide_eq_true h, Bool.true_and]
    congr 1
  · rw [if_neg h, decide_eq_false h, Bool.false_and]
def addR (g : List Nd) (S : List Sp) (dd : Int) (cur : Pl) : List Ed → List Pl → List Pl
  | [], r => r
  | e :: t, r => addR g S dd cur t (if e.1 = cur ∧ openB g S dd e = true ∧ e.2.1 ∉ r then r ++ [e.2.1] else r)
theorem round_l3 (g : List Nd) (S : List Sp) (E : List Ed) (from_ : Sp) (k3 : List Pl → List Pl → Int → Option Bool) (y : Nat) (cur : Pl) (r : List Pl) (hb : Few g) (hi : Inc g) (hS : S.length ≤ 100000) (hE : E.length ≤ 5000) (hf : ∀ e ∈ E, ∃ n ∈ g, e.1.1 = n.1) (hc : (from_.1 :: r)[y]? = some cur) (hy : y ≤ 10000) (hr : r.length ≤ 9000) (hall : ∀ k, (addR g S from_.2 cur (E.take k) r).length ≤ 9000) :
    F.R08_round_l3 k3 g S E from_ (y : Int) A.FU r (from_.1 :: r) 0 = k3 (addR g S from_.2 cur E r) (from_.1 :: addR g S from_.2 cur E r) ((y : Int) + 1) :=
  A.lp E (fun f (s : List Pl × List Pl) i => F.R08_round_l3 k3 g S E from_ (y : Int) f s.1 s.2 i) (fun k t s => k3 (addR g S from_.2 cur t s.1) (from_.1 :: addR g S from_.2 cur t s.1) ((y : Int) + 1)) (fun k s => s.2 = from_.1 :: s.1 ∧ s.2[y]? = some cur ∧ s.1 = addR g S from_.2 cur (E.take k) r)
    (fun f s hs => by
      rw [F.R08_round_l3, if_neg (by omega), A.gd1 (A.r64n (by omega)), hs.1]; rfl)
    (fun f s k e he hk hs ih => by
      obtain ⟨q, r'⟩ := s
      obtain ⟨h1, h2, h3⟩ := hs
      simp only [] at h1 h2 h3
      have hlen : q.length ≤ 9000 := by rw [h3]; exact hall _
      have hsnoc : ∀ (t : List Ed) (e : Ed) (r : List Pl), addR g S from_.2 cur (t ++ [e]) r = (if e.1 = cur ∧ openB g S from_.2 e = true ∧ e.2.1 ∉ addR g S from_.2 cur t r then addR g S from_.2 cur t r ++ [e.2.1] else addR g S from_.2 cur t r) := by
        intro t
        induction t with
        | nil => intro e r; rfl
        | cons x t iht => intro e r; rw [List.cons_append, addR, addR]; exact iht e _
      have hnext : addR g S from_.2 cur (E.take (k + 1)) r = if e.1 = cur ∧ openB g S from_.2 e = true ∧ e.2.1 ∉ q then q ++ [e.2.1] else q := by
        rw [take_s he, hsnoc, ← h3]
      have hopen := R_open_eq g S e from_.2 hb hi hS (hf e (List.mem_of_getElem? he))
      rw [F.R08_round_l3, if_pos (by omega), A.ixn he, Option.bind_some, A.ixn h2, Option.bind_some, addR]
      simp only [F.R08_round_j2, F.R08_round_j1, A.ixn he, Option.bind_some, A.gd1 (A.r64n (n := k) (by omega)), Bool.false_eq_true, if_false]
      have stay : ¬ (e.1 = cur ∧ openB g S from_.2 e = true ∧ e.2.1 ∉ q) → F.R08_round_l3 k3 g S E from_ (y : Int) f q r' ((k : Int) + 1) = k3 (addR g S from_.2 cur (E.drop (k + 1)) (if e.1 = cur ∧ openB g S from_.2 e = true ∧ e.2.1 ∉ q then q ++ [e.2.1] else q)) (from_.1 :: addR g S from_.2 cur (E.drop (k + 1)) (if e.1 = cur ∧ openB g S from_.2 e = true ∧ e.2.1 ∉ q then q ++ [e.2.1] else q)) ((y : Int) + 1) := fun hn => by
        rw [if_neg hn] at hnext ⊢
        exact ih (q, r') ⟨h1, h2, hnext.symm⟩
      by_cases hcur : e.1 = cur
      · rw [if_pos (show (e.1.1, e.1.2) = (cur.1, cur.2) from hcur), show F.R08_open g S ((e.1.1, e.1.2), (e.2.1.1, e.2.1.2), (e.2.2.1, e.2.2.2.1, e.2.2.2.2.1, e.2.2.2.2.2.1, (e.2.2.2.2.2.2.1, e.2.2.2.2.2.2.2.1, e.2.2.2.2.2.2.2.2.1, e.2.2.2.2.2.2.2.2.2))) from_.2 = _ from hopen, Option.bind_some]
        by_cases ho : openB g S from_.2 e = true
        · rw [if_pos ho, show F.R08_on q (e.2.1.1, e.2.1.2) = _ from R_on_eq q e.2.1 (by omega), Option.bind_some]
          by_cases hm : e.2.1 ∈ q
          · rw [decide_eq_true hm, Bool.not_true, if_neg Bool.false_ne_true]
            exact stay fun h => h.2.2 hm
          · have hc3 : e.1 = cur ∧ openB g S from_.2 e = true ∧ e.2.1 ∉ q := ⟨hcur, ho, hm⟩
            rw [decide_eq_false hm, Bool.not_false, if_pos rfl, A.gd1 (by simp only [List.length_cons, List.length_nil]; omega), A.gd1 (by rw [h1]; simp only [List.length_cons, List.length_nil]; omega), if_pos hc3]
            rw [if_pos hc3] at hnext
            refine ih (q ++ [e.2.1], r' ++ [e.2.1]) ⟨?_, ?_, hnext.symm⟩
            · simp only [h1, List.cons_append]
            · simp only []
              rw [List.getElem?_append_left (List.getElem?_eq_some_iff.1 h2).1]; exact h2
        · rw [if_neg ho]
          exact stay fun h => ho h.2.1
      · rw [if_neg (show ¬ (e.1.1, e.1.2) = (cur.1, cur.2) from hcur)]
        exact stay fun h => hcur h.1)
    (by have := FU_big; omega) (r, from_.1 :: r) ⟨rfl, hc, rfl⟩
/-! ### what the search finds -/
def okE (g : List Nd) (S : List Sp) (E : List Ed) (dd : Int) (p q : Pl) : Prop := ∃ e ∈ E, e.1 = p ∧ e.2.1 = q ∧ openB g S dd e = true
theorem addR_mono (g : List Nd) (S : List Sp) (dd : Int) (cur : Pl) : ∀ (t : List Ed) (r : List Pl), ∃ x, addR g S dd cur t r = r ++ x ∧ (∀ p ∈ x, ∃ e ∈ t, e.1 = cur ∧ e.2.1 = p ∧ openB g S dd e = true) ∧ (r.Nodup → (r ++ x).Nodup) ∧ (∀ e ∈ t, e.1 = cur → openB g S dd e = true → e.2.1 ∈ r ++ x)
  | [], r => ⟨[], by rw [addR, List.append_nil], by simp, by simp, by simp⟩
  | e :: t, r => by
    rw [addR]
    by_cases h : e.1 = cur ∧ openB g S dd e = true ∧ e.2.1 ∉ r
    · rw [if_pos h]
      obtain ⟨x, h1, h2, h3, h4⟩ := addR_mono g S dd cur t (r ++ [e.2.1])
      refine ⟨e.2.1 :: x, by rw [h1]; simp, fun p hp => ?_, fun hn => ?_, fun e2 he2 a b => ?_⟩
      · rcases List.mem_cons.1 hp with rfl | hp
        · exact ⟨e, List.mem_cons_self .., h.1, rfl, h.2.1⟩
        · obtain ⟨e2, a, b⟩ := h2 p hp; exact ⟨e2, List.mem_cons_of_mem _ a, b⟩
      · have := h3 (List.nodup_append.2 ⟨hn, by simp, fun a ha b hb => by rw [List.mem_singleton] at hb; subst hb; intro e2; subst e2; exact h.2.2 ha⟩)
        simpa using this
      · rcases List.mem_cons.1 he2 with rfl | he2
        · simp
        · have := h4 e2 he2 a b; simpa using this
    · rw [if_neg h]
      obtain ⟨x, h1, h2, h3, h4⟩ := addR_mono g S dd cur t r
      refine ⟨x, h1, fun p hp => ?_, h3, fun e2 he2 a b => ?_⟩
      · obtain ⟨e2, a, b⟩ := h2 p hp; exact ⟨e2, List.mem_cons_of_mem _ a, b⟩
      · rcases List.mem_cons.1 he2 with rfl | he2
        · refine List.mem_append_left _ ?_
          by_cases hm : e2.2.1 ∈ r
          · exact hm
          · exact absurd ⟨a, b, hm⟩ h
        · exact h4 e2 he2 a b
theorem nodup_len {α : Type} [DecidableEq α] : ∀ {l m : List α}, l.Nodup → (∀ x ∈ l, x ∈ m) → l.length ≤ m.length
  | [], m, _, _ => Nat.zero_le _
  | a :: l, m, hn, h => by
    rw [List.nodup_cons] at hn
    have ha := h a (List.mem_cons_self ..)
    have := nodup_len (l := l) (m := m.erase a) hn.2 fun x hx => (List.mem_erase_of_ne (fun e => by subst e; exact hn.1 hx)).2 (h x (List.mem_cons_of_mem _ hx))
    rw [List.length_erase_of_mem ha] at this
    have hpos : 0 < m.length := List.length_pos_of_mem ha
    rw [List.length_cons]; omega
/-- the reference's search tells whether a place comes back to itself -/
theorem round_eq (g : List Nd) (S : List Sp) (E : List Ed) (from_ : Sp) (hb : Few g) (hi : Inc g) (hS : S.length ≤ 100000) (hE : E.length ≤ 4000) (hf : ∀ e ∈ E, ∃ n ∈ g, e.1.1 = n.1) :
    ∃ b, F.R08_round g S E from_ = some b ∧ (b = true ↔ Rch (okE g S E from_.2) from_.1 from_.1) := by
  have sub : ∀ (r : List Pl), r.Nodup → (∀ p ∈ r, ∃ e ∈ E, e.2.1 = p) → r.length ≤ 4000 := fun r hn h => by
    have := nodup_len (m := E.map fun e => e.2.1) hn fun p hp => by obtain ⟨e, h1, h2⟩ := h p hp; exact List.mem_map.2 ⟨e, h1, h2⟩
    rw [List.length_map] at this; omega
  have main : ∀ (n f y : Nat) (r : List Pl), y + n = 4002 → n < f → r.Nodup → y ≤ 1 + r.length → (∀ p ∈ r, ∃ e ∈ E, e.2.1 = p) → (∀ p ∈ r, Rch (okE g S E from_.2) from_.1 p) → (∀ i p q, i < y → (from_.1 :: r)[i]? = some p → okE g S E from_.2 p q → q ∈ r) →
      ∃ b, F.R08_round_l4 g S E from_ f r (from_.1 :: r) (y : Int) = some b ∧ (b = true ↔ Rch (okE g S E from_.2) from_.1 from_.1) := by
    intro n
    induction n with
    | zero =>
      intro f y r hy hf' hn hyl hsub _ _
      have := sub r hn hsub
      omega
    | succ n ih =>
      intro f y r hy hf' hn hyl hsub hreach hclosed
      obtain ⟨f, rfl⟩ : ∃ f', f = f' + 1 := ⟨f - 1, by omega⟩
      have hl := sub r hn hsub
      rw [F.R08_round_l4]
      by_cases h : y < 1 + r.length
      · obtain ⟨cur, hcur⟩ : ∃ c, (from_.1 :: r)[y]? = some c := ⟨_, List.getElem?_eq_getElem (by rw [List.length_cons]; omega)⟩
        obtain ⟨x, h1, h2, h3, h4⟩ := addR_mono g S from_.2 cur E r
        have hsub2 : ∀ p ∈ r ++ x, ∃ e ∈ E, e.2.1 = p := fun p hp => by
          rcases List.mem_append.1 hp with hp | hp
          · exact hsub p hp
          · obtain ⟨e, a, _, b, _⟩ := h2 p hp; exact ⟨e, a, b⟩
        have hall : ∀ k, (addR g S from_.2 cur (E.take k) r).length ≤ 9000 := fun k => by
          obtain ⟨x', a, b, c, _⟩ := addR_mono g S from_.2 cur (E.take k) r
          have := sub (r ++ x') (c hn) fun p hp => by
            rcases List.mem_append.1 hp with hp | hp
            · exact hsub p hp
            · obtain ⟨e, a2, _, b2, _⟩ := b p hp; exact ⟨e, List.mem_of_mem_take a2, b2⟩
          rw [a]; omega
        rw [if_pos (by rw [List.length_cons]; omega), round_l3 g S E from_ _ y cur r hb hi hS (by omega) hf hcur (by omega) (by omega) hall, h1]
        have e1 : (y : Int) + 1 = ((y + 1 : Nat) : Int) := by omega
        rw [e1]
        have hcr : cur = from_.1 ∨ Rch (okE g S E from_.2) from_.1 cur := by
          cases y with
          | zero => injection hcur with hcur; exact .inl hcur.symm
          | succ y => exact .inr (hreach cur (List.mem_of_getElem? (by simpa using hcur)))
        refine ih f (y + 1) (r ++ x) (by omega) (by omega) (h3 hn) (by rw [List.length_append]; omega) hsub2 (fun p hp => ?_) fun i p q hi2 hp hok => ?_
        · rcases List.mem_append.1 hp with hp | hp
          · exact hreach p hp
          · obtain ⟨e, a, b, c, d2⟩ := h2 p hp
            rcases hcr with hcr | hcr
            · exact .one ⟨e, a, b.trans hcr, c, d2⟩
            · exact .step hcr ⟨e, a, b, c, d2⟩
        · rw [← List.cons_append, List.getElem?_append_left (by rw [List.length_cons]; omega)] at hp
          rcases Nat.lt_or_ge i y with h5 | h5
          · exact List.mem_append_left _ (hclosed i p q h5 hp hok)
          · obtain rfl : i = y := by omega
            rw [hcur] at hp; injection hp with hp; subst hp
            obtain ⟨e, a, b, c, d2⟩ := hok
            rw [← c]; exact h4 e a b d2
      · rw [if_neg (by rw [List.length_cons]; omega), show F.R08_on r (from_.1.1, from_.1.2) = _ from R_on_eq r from_.1 (by omega), Option.bind_some]
        refine ⟨_, rfl, ?_⟩
        rw [decide_eq_true_eq]
        refine ⟨hreach _, fun hr => ?_⟩
        have hin : ∀ q, Rch (okE g S E from_.2) from_.1 q → q ∈ r := fun q hq => by
          induction hq with
          | one h6 => exact hclosed 0 _ _ (by omega) rfl h6
          | step h6 h7 ih2 =>
            obtain ⟨i, hi3⟩ := List.mem_iff_getElem?.1 ih2
            have := (List.getElem?_eq_some_iff.1 hi3).1
            exact hclosed (i + 1) _ _ (by omega) (by simpa using hi3) h7
        exact hin _ hr
  exact main 4002 A.FU 0 [] (by omega) (by have := FU_big; omega) List.nodup_nil (by simp) (by simp) (by simp) (fun i p q h => by omega)
end Go.Proofs.YtleiipbkfaajfaaDoor
end

section
set_option linter.unusedVariables false
set_option linter.unusedSimpArgs false
set_option synthInstance.maxSize 1000000
set_option synthInstance.maxHeartbeats 400000
namespace Go.Proofs.YtleiipbkfaajfaaDoor
open Go.RowKit Go.Graph
abbrev Seen := List (Pl × Bool)
def seen (m : Seen) (v : Pl) : Prop := Z.mget false m v = true
def addP (deep : List Sp) (from_ : Pl) (dd : Int) : List Pl → Seen → List Pl → Option (Seen × List Pl)
  | [], m, xs => some (m, xs)
  | t :: r, m, xs => if t = from_ then none else if dd ≤ Z.mget 0 deep t ∧ Z.mget false m t = false then addP deep from_ dd r (Z.mins m t true) (xs ++ [t]) else addP deep from_ dd r m xs
theorem reaches_l3 (deep : List Sp) (from_ : Pl) (dd : Int) (k3 : Seen → List Pl → Option Bool) (tos : List Pl) (m : Seen) (xs : List Pl) (hl : tos.length ≤ 4000) (hx : xs.length ≤ 10000) :
    F.graph_plan_reaches_l3 k3 deep from_ dd tos A.FU m xs 0 = match addP deep from_ dd tos m xs with
      | none => some true
      | some s => k3 s.1 s.2 :=
  A.lp tos (fun f (s : Seen × List Pl) i => F.graph_plan_reaches_l3 k3 deep from_ dd tos f s.1 s.2 i) (fun _ t s => match addP deep from_ dd t s.1 s.2 with
      | none => some true
      | some s => k3 s.1 s.2) (fun k s => s.2.length ≤ 10000 + k)
    (fun f s hs => by rw [F.graph_plan_reaches_l3, if_neg (by omega), addP])
    (fun f s k t ht hk hs ih => by
      rw [F.graph_plan_reaches_l3, if_pos (by omega), A.ixn ht, Option.bind_some, addP, A.lt]
      simp only [F.graph_plan_reaches_j2, F.graph_plan_reaches_j1, A.lt, A.gd1 (A.r64n (n := k) (by omega)), Bool.false_eq_true, if_false]
      by_cases h : t = from_
      · rw [if_pos (show (t.1, t.2) = (from_.1, from_.2) from h), if_pos h]
      · rw [if_neg (show ¬ (t.1, t.2) = (from_.1, from_.2) from h), if_neg h]
        by_cases hd : dd ≤ Z.mget 0 deep t
        · rw [if_pos (show dd ≤ Z.mget 0 deep (t.1, t.2) from hd)]
          by_cases hm : Z.mget false s.1 t = false
          · have hc : dd ≤ Z.mget 0 deep t ∧ Z.mget false s.1 t = false := ⟨hd, hm⟩
            rw [if_pos hc, show Z.mget false s.1 (t.1, t.2) = false from hm, Bool.not_false, if_pos rfl, A.gd1 (by simp only [List.length_cons, List.length_nil]; omega)]
            exact ih (Z.mins s.1 t true, s.2 ++ [t]) (by simp only [List.length_append, List.length_cons, List.length_nil]; omega)
          · have hm2 : Z.mget false s.1 t = true := by cases h2 : Z.mget false s.1 t with
              | true => rfl
              | false => exact absurd h2 hm
            have hc : ¬ (dd ≤ Z.mget 0 deep t ∧ Z.mget false s.1 t = false) := fun h2 => hm h2.2
            rw [if_neg hc, show Z.mget false s.1 (t.1, t.2) = true from hm2, Bool.not_true, if_neg Bool.false_ne_true]
            exact ih s (by omega)
        · rw [if_neg (show ¬ dd ≤ Z.mget 0 deep (t.1, t.2) from hd), if_neg (fun h2 => hd h2.1)]
          exact ih s (by omega))
    (by have := FU_big; omega) (m, xs) (by simp only []; omega)
/-- those that were not seen -/
def un (T : List Pl) (m : Seen) : Nat := (T.filter fun t => !(Z.mget false m t)).length
theorem un_ins {T : List Pl} {m : Seen} {t : Pl} (ht : t ∈ T) (hm : Z.mget false m t = false) : un T (Z.mins m t true) + 1 ≤ un T m := by
  unfold un
  have mono : ∀ (l : List Pl), (l.filter fun t' => !(Z.mget false (Z.mins m t true) t')).length ≤ (l.filter fun t' => !(Z.mget false m t')).length := by
    intro l
    induction l with
    | nil => exact Nat.le_refl _
    | cons a l ih =>
      rw [List.filter_cons, List.filter_cons, Z.mget_ins]
      by_cases e : a = t
      · rw [if_pos e, e, hm]; simp only [Bool.not_true, Bool.false_eq_true, if_false, Bool.not_false, if_true, List.length_cons]; omega
      · rw [if_neg e]; split <;> (try simp only [List.length_cons]) <;> omega
  induction T with
  | nil => cases ht
  | cons a l ih =>
    rw [List.filter_cons, List.filter_cons, Z.mget_ins]
    have := mono l
    by_cases e : a = t
    · rw [if_pos e, e, hm]; simp only [Bool.not_true, Bool.false_eq_true, if_false, Bool.not_false, if_true, List.length_cons]; omega
    · have := ih ((List.mem_cons.1 ht).resolve_left fun h => e h.symm)
      rw [if_neg e]; split <;> (try simp only [List.length_cons]) <;> omega
theorem addP_none {deep : List Sp} {from_ : Pl} {dd : Int} : ∀ {tos : List Pl} {m : Seen} {xs : List Pl}, addP deep from_ dd tos m xs = none → from_ ∈ tos
  | [], _, _, h => by cases h
  | t :: r, m, xs, h => by
    rw [addP] at h
    by_cases e : t = from_
    · rw [e]; exact List.mem_cons_self ..
    · rw [if_neg e] at h
      split at h
      · exact List.mem_cons_of_mem _ (addP_none h)
      · exact List.mem_cons_of_mem _ (addP_none h)
theorem seen_ins {m : Seen} {t v : Pl} : seen (Z.mins m t true) v ↔ v = t ∨ seen m v := by
  unfold seen
  rw [Z.mget_ins]
  by_cases e : v = t
  · rw [if_pos e]; simp [e]
  · rw [if_neg e]; simp [e]
theorem addP_some {deep : List Sp} {from_ : Pl} {dd : Int} {T : List Pl} : ∀ {tos : List Pl} {m m' : Seen} {xs xs' : List Pl}, (∀ t ∈ tos, t ∈ T) → addP deep from_ dd tos m xs = some (m', xs') →
    from_ ∉ tos ∧ (∀ v, seen m v → seen m' v) ∧ (∀ v, seen m' v → seen m v ∨ (v ∈ tos ∧ dd ≤ Z.mget 0 deep v)) ∧ (∀ t ∈ tos, dd ≤ Z.mget 0 deep t → seen m' t) ∧ (∀ v ∈ xs, v ∈ xs') ∧ (∀ v ∈ xs', v ∈ xs ∨ seen m' v) ∧ (∀ v, seen m' v → seen m v ∨ v ∈ xs') ∧ xs'.length + un T m' ≤ xs.length + un T m
  | [], m, m', xs, xs', _, h => by
    injection h with h; injection h with h1 h2; subst h1; subst h2
    exact ⟨by simp, fun v h => h, fun v h => .inl h, by simp, fun v h => h, fun v h => .inl h, fun v h => .inl h, Nat.le_refl _⟩
  | t :: r, m, m', xs, xs', hT, h => by
    rw [addP] at h
    by_cases e : t = from_
    · rw [if_pos e] at h; cases h
    · rw [if_neg e] at h
      by_cases hc : dd ≤ Z.mget 0 deep t ∧ Z.mget false m t = false
      · rw [if_pos hc] at h
        obtain ⟨a1, a2, a3, a4, a5, a6, a7, a8⟩ := addP_some (fun x hx => hT x (List.mem_cons_of_mem _ hx)) h
        have hun := un_ins (hT t (List.mem_cons_self ..)) hc.2
        refine ⟨fun h2 => (List.mem_cons.1 h2).elim (fun h3 => e h3.symm) a1, fun v hv => a2 v (seen_ins.2 (.inr hv)), fun v hv => ?_, fun x hx hdx => ?_, fun v hv => a5 v (List.mem_append_left _ hv), fun v hv => ?_, fun v hv => ?_, by rw [List.length_append] at a8; simp only [List.length_cons, List.length_nil] at a8; omega⟩
        · rcases a3 v hv with h2 | h2
          · rcases seen_ins.1 h2 with rfl | h3
            · exact .inr ⟨List.mem_cons_self .., hc.1⟩
            · exact .inl h3
          · exact .inr ⟨List.mem_cons_of_mem _ h2.1, h2.2⟩
        · rcases List.mem_cons.1 hx with rfl | hx
          · exact a2 _ (seen_ins.2 (.inl rfl))
          · exact a4 x hx hdx
        · rcases a6 v hv with h2 | h2
          · rcases List.mem_append.1 h2 with h2 | h2
            · exact .inl h2
            · rw [List.mem_singleton] at h2; subst h2; exact .inr (a2 _ (seen_ins.2 (.inl rfl)))
          · exact .inr h2
        · rcases a7 v hv with h2 | h2
          · rcases seen_ins.1 h2 with rfl | h3
            · exact .inr (a5 _ (List.mem_append_right _ (List.mem_singleton.2 rfl)))
            · exact .inl h3
          · exact .inr h2
      · rw [if_neg hc] at h
        obtain ⟨a1, a2, a3, a4, a5, a6, a7, a8⟩ := addP_some (fun x hx => hT x (List.mem_cons_of_mem _ hx)) h
        refine ⟨fun h2 => (List.mem_cons.1 h2).elim (fun h3 => e h3.symm) a1, a2, fun v hv => ?_, fun x hx hdx => ?_, a5, a6, a7, a8⟩
        · rcases a3 v hv with h2 | h2
          · exact .inl h2
          · exact .inr ⟨List.mem_cons_of_mem _ h2.1, h2.2⟩
        · rcases List.mem_cons.1 hx with rfl | hx
          · refine a2 _ ?_
            unfold seen
            cases h2 : Z.mget false m x with
            | true => rfl
            | false => exact absurd ⟨hdx, h2⟩ hc
          · exact a4 x hx hdx
def blk (g : List Nd) (dd : Int) (p : Pl) : Prop := (Z.mget ((0, 0, [], (0, 0, (ByteArray.mk #[])), (ByteArray.mk #[]), 0, 0) : Nd) (mapOf g) p.1).2.1 = 14 ∧ (Z.mget ((0, 0, [], (0, 0, (ByteArray.mk #[])), (ByteArray.mk #[]), 0, 0) : Nd) (mapOf g) p.1).2.2.2.2.2.2 = dd
def okP (g : List Nd) (steps : List (Pl × List Pl)) (deep : List Sp) (dd : Int) (p q : Pl) : Prop := q ∈ Z.mget [] steps p ∧ ¬ blk g dd p ∧ dd ≤ Z.mget 0 deep q
/-- the program's search tells whether a place comes back to itself -/
theorem reaches_eq (g : List Nd) (a0 : (List (Int × Nd)) × (List Int) × (List (Int × Int))) (h0 : a0.1 = mapOf g) (steps : List (Pl × List Pl)) (deep : List Sp) (from_ : Pl) (dd : Int) (T : List Pl) (hT : T.length ≤ 4000) (hst : ∀ p q, q ∈ Z.mget [] steps p → q ∈ T) (hsl : ∀ p, (Z.mget [] steps p).length ≤ 4000) (hfd : dd ≤ Z.mget 0 deep from_) :
    ∃ b, F.graph_plan_reaches a0 steps deep from_ dd = some b ∧ (b = true ↔ Rch (okP g steps deep dd) from_ from_) := by
  have main : ∀ (n f : Nat) (m : Seen) (xs : List Pl), xs.length + un T m ≤ n → n < f → xs.length ≤ 9000 → xs.length + un T m ≤ 9000 → (∀ v, seen m v → Rch (okP g steps deep dd) from_ v) → (∀ t ∈ xs, t = from_ ∨ seen m t) → (∀ v, v = from_ ∨ seen m v → v ∉ xs → ∀ w, okP g steps deep dd v w → w ≠ from_ ∧ seen m w) →
      ∃ b, F.graph_plan_reaches_l5 a0 steps deep from_ dd f m xs = some b ∧ (b = true ↔ Rch (okP g steps deep dd) from_ from_) := by
    intro n
    induction n with
    | zero =>
      intro f m xs hn hf hx900 _ i1 i2 i3
      obtain ⟨f, rfl⟩ : ∃ f', f = f' + 1 := ⟨f - 1, by omega⟩
      have hx : xs = [] := List.eq_nil_of_length_eq_zero (by omega)
      subst hx
      rw [F.graph_plan_reaches_l5, if_neg (by simp)]
      refine ⟨false, rfl, fun h => (by cases h), fun h => ?_⟩
      have hin : ∀ q, Rch (okP g steps deep dd) from_ q → q ≠ from_ ∧ seen m q := fun q hq => by
        induction hq with
        | one h6 => exact i3 from_ (.inl rfl) (by simp) _ h6
        | step h6 h7 ih2 => exact i3 _ (.inr ih2.2) (by simp) _ h7
      exact absurd rfl (hin _ h).1
    | succ n ih =>
      intro f m xs hn hf hx900 hu900 i1 i2 i3
      obtain ⟨f, rfl⟩ : ∃ f', f = f' + 1 := ⟨f - 1, by omega⟩
      rw [F.graph_plan_reaches_l5]
      by_cases hne : xs = []
      · subst hne
        rw [if_neg (by simp)]
        refine ⟨false, rfl, fun h => (by cases h), fun h => ?_⟩
        have hin : ∀ q, Rch (okP g steps deep dd) from_ q → q ≠ from_ ∧ seen m q := fun q hq => by
          induction hq with
          | one h6 => exact i3 from_ (.inl rfl) (by simp) _ h6
          | step h6 h7 ih2 => exact i3 _ (.inr ih2.2) (by simp) _ h7
        exact absurd rfl (hin _ h).1
      · obtain ⟨ys, at_, rfl⟩ : ∃ ys a, xs = ys ++ [a] := ⟨xs.dropLast, xs.getLast hne, (List.dropLast_concat_getLast hne).symm⟩
        have hl : (ys ++ [at_]).length = ys.length + 1 := by simp
        have e1 : (((ys ++ [at_]).length : Int) - 1) = (ys.length : Int) := by rw [hl]; omega
        have hat : (ys ++ [at_])[ys.length]? = some at_ := by simp
        rw [if_pos (by omega), A.gd1 ⟨by omega, by omega⟩, e1, A.ixn hat, Option.bind_some, A.gd1 ⟨by omega, by omega⟩, A.gd1 ⟨by omega, by rw [Int.toNat_natCast]; omega⟩, A.lt, F.graph_plan_reaches_j4, e1, Int.toNat_natCast, A.ba, h0]
        have htake : List.take ys.length (ys ++ [at_]) = ys := by simp
        rw [htake]
        have hatr : at_ = from_ ∨ seen m at_ := i2 at_ (by simp)
        by_cases hb : blk g dd at_
        · rw [if_pos (show decide ((Z.mget ((0, 0, [], (0, 0, (ByteArray.mk #[])), (ByteArray.mk #[]), 0, 0) : Nd) (mapOf g) at_.1).2.1 = 14 ∧ (Z.mget ((0, 0, [], (0, 0, (ByteArray.mk #[])), (ByteArray.mk #[]), 0, 0) : Nd) (mapOf g) at_.1).2.2.2.2.2.2 = dd) = true from decide_eq_true hb)]
          refine ih f m ys (by omega) (by omega) (by omega) (by omega) i1 (fun t ht => i2 t (List.mem_append_left _ ht)) fun v hv hvx w hw => ?_
          by_cases e : v = at_
          · subst e; exact absurd hb hw.2.1
          · exact i3 v hv (fun h => by
              rcases List.mem_append.1 h with h | h
              · exact hvx h
              · exact e (List.mem_singleton.1 h)) w hw
        · rw [if_neg (show ¬ decide ((Z.mget ((0, 0, [], (0, 0, (ByteArray.mk #[])), (ByteArray.mk #[]), 0, 0) : Nd) (mapOf g) at_.1).2.1 = 14 ∧ (Z.mget ((0, 0, [], (0, 0, (ByteArray.mk #[])), (ByteArray.mk #[]), 0, 0) : Nd) (mapOf g) at_.1).2.2.2.2.2.2 = dd) = true from fun h => hb (by have h9 := of_decide_eq_true h; exact h9)), A.lt, show Z.mget [] steps (at_.1, at_.2) = Z.mget [] steps at_ from rfl, reaches_l3 deep from_ dd _ _ m ys (hsl at_) (by omega)]
          cases hadd : addP deep from_ dd (Z.mget [] steps at_) m ys with
          | none =>
            have hfrom := addP_none hadd
            have hok : okP g steps deep dd at_ from_ := ⟨hfrom, hb, hfd⟩
            refine ⟨true, rfl, fun _ => ?_, fun _ => rfl⟩
            rcases hatr with h | h
            · rw [h] at hok; exact .one hok
            · exact .step (i1 at_ h) hok
          | some s =>
            obtain ⟨m', xs'⟩ := s
            obtain ⟨a1, a2, a3, a4, a5, a6, a7, a8⟩ := addP_some (T := T) (hst at_) hadd
            simp only []
            refine ih f m' xs' (by omega) (by omega) (by omega) (by omega) (fun v hv => ?_) (fun t ht => ?_) fun v hv hvx w hw => ?_
            · rcases a3 v hv with h | h
              · exact i1 v h
              · have hok : okP g steps deep dd at_ v := ⟨h.1, hb, h.2⟩
                rcases hatr with h2 | h2
                · rw [h2] at hok; exact .one hok
                · exact .step (i1 at_ h2) hok
            · rcases a6 t ht with h | h
              · rcases i2 t (List.mem_append_left _ h) with h2 | h2
                · exact .inl h2
                · exact .inr (a2 t h2)
              · exact .inr h
            · have hv2 : v = from_ ∨ seen m v := by
                rcases hv with h | h
                · exact .inl h
                · rcases a7 v h with h2 | h2
                  · exact .inr h2
                  · exact absurd h2 hvx
              by_cases e : v = at_
              · subst e
                exact ⟨fun h => a1 (h ▸ hw.1), a4 w hw.1 hw.2.2⟩
              · obtain ⟨h1, h2⟩ := i3 v hv2 (fun h => by
                  rcases List.mem_append.1 h with h | h
                  · exact hvx (a5 v h)
                  · exact e (List.mem_singleton.1 h)) w hw
                exact ⟨h1, a2 w h2⟩
  have hu : un T [] ≤ T.length := List.length_filter_le _ _
  exact main (1 + T.length) A.FU [] [from_] (by simp; omega) (by have := FU_big; omega) (by simp) (by simp; omega) (fun v h => by cases h) (fun t ht => .inl (List.mem_singleton.1 ht)) (fun v hv hx w hw => by
    rcases hv with h | h
    · exact absurd (List.mem_singleton.2 h) hx
    · cases h)
end Go.Proofs.YtleiipbkfaajfaaDoor
end

section
set_option linter.unusedVariables false
set_option linter.unusedSimpArgs false
set_option synthInstance.maxSize 1000000
set_option synthInstance.maxHeartbeats 400000
namespace Go.Proofs.YtleiipbkfaajfaaDoor
open Go.RowKit Go.Graph
theorem mget_mem {p : Pl} : ∀ {l : List Sp} {v : Int}, (l.map (·.1)).Nodup → (p, v) ∈ l → Z.mget 0 l p = v
  | [], _, _, h => by cases h
  | (a, w) :: r, v, hn, h => by
    rw [List.map_cons, List.nodup_cons] at hn
    unfold Z.mget
    rcases List.mem_cons.1 h with h | h
    · injection h with h1 h2; rw [if_pos h1, h2]
    · rw [if_neg (fun e => hn.1 (by rw [← e]; exact List.mem_map_of_mem (f := (·.1)) h))]
      exact mget_mem hn.2 h
theorem mhas_app {l : List Sp} {p : Pl} (h : p ∉ l.map (·.1)) : Z.mhas l p = false := by
  induction l with
  | nil => rfl
  | cons a r ih =>
    rw [List.map_cons, List.mem_cons, not_or] at h
    obtain ⟨q, v⟩ := a
    unfold Z.mhas
    rw [if_neg h.1]; exact ih h.2
/-! ### the program's search of all places -/
def toOf (E : List Ed) (p : Pl) : List Pl := (E.filter fun e => decide (e.1 = p)).map fun e => e.2.1
theorem turns_l2 (a0 : (List (Int × Nd)) × (List Int) × (List (Int × Int))) (S : List Sp) (E : List Ed) (hE : E.length ≤ 4000) : ∃ st, (∀ p, Z.mget [] st p = toOf E p) ∧ F.graph_plan_turns_l2 a0 S E A.FU [] 0 = A.mrg (F.graph_plan_turns_b1 a0 S st) (some false) S := by
  have main : ∀ (n k f : Nat) (m : List (Pl × List Pl)), k + n = E.length → n < f → (∀ p, Z.mget [] m p = toOf (E.take k) p) → ∃ st, (∀ p, Z.mget [] st p = toOf E p) ∧ F.graph_plan_turns_l2 a0 S E f m (k : Int) = A.mrg (F.graph_plan_turns_b1 a0 S st) (some false) S := by
    intro n
    induction n with
    | zero =>
      intro k f m hk hf hm
      obtain ⟨f, rfl⟩ : ∃ f', f = f' + 1 := ⟨f - 1, by omega⟩
      rw [List.take_of_length_le (by omega)] at hm
      exact ⟨m, hm, by rw [F.graph_plan_turns_l2, if_neg (by omega)]⟩
    | succ n ih =>
      intro k f m hk hf hm
      obtain ⟨f, rfl⟩ : ∃ f', f = f' + 1 := ⟨f - 1, by omega⟩
      have hx : E[k]? = some E[k] := List.getElem?_eq_getElem (by omega)
      generalize E[k] = x at hx
      have hlen : (Z.mget [] m x.1).length ≤ 4000 := by
        rw [hm]; unfold toOf
        rw [List.length_map]
        have := List.length_filter_le (fun e : Ed => decide (e.1 = x.1)) (E.take k)
        rw [List.length_take] at this; omega
      rw [F.graph_plan_turns_l2, if_pos (by omega), A.ixn hx, Option.bind_some, A.gd1 (by rw [show Z.mget [] m (x.1.1, x.1.2) = Z.mget [] m x.1 from rfl]; simp only [List.length_cons, List.length_nil]; omega), A.gd1 (A.r64n (by omega))]
      refine ih (k + 1) f _ (by omega) (by omega) fun p => ?_
      rw [show Z.mins m (x.1.1, x.1.2) (Z.mget [] m (x.1.1, x.1.2) ++ [(x.2.1.1, x.2.1.2)]) = Z.mins m x.1 (Z.mget [] m x.1 ++ [x.2.1]) from rfl, Z.mget_ins, take_s hx]
      unfold toOf
      rw [List.filter_append, List.map_append, List.filter_cons, List.filter_nil]
      by_cases e : p = x.1
      · subst e
        rw [if_pos rfl, hm, if_pos (decide_eq_true rfl)]; rfl
      · rw [if_neg e, hm, if_neg (by simp only [decide_eq_true_eq]; exact fun h => e h.symm), List.map_nil, List.append_nil]; rfl
  exact main E.length 0 A.FU [] (by omega) (by have := FU_big; omega) (fun p => rfl)
theorem turns_l3 (g : List Nd) (a0 : (List (Int × Nd)) × (List Int) × (List (Int × Int))) (S : List Sp) (E : List Ed) (hS : S.length ≤ 4000) (hn : (S.map (·.1)).Nodup) (hE : F.graph_plan_edges a0 g = some E) : F.graph_plan_turns_l3 a0 g S A.FU [] 0 = F.graph_plan_turns_l2 a0 S E A.FU [] 0 :=
  A.lp S (fun f (m : List Sp) i => F.graph_plan_turns_l3 a0 g S f m i) (fun _ _ _ => F.graph_plan_turns_l2 a0 S E A.FU [] 0) (fun k m => m = S.take k)
    (fun f m hm => by
      rw [List.take_of_length_le (Nat.le_refl _)] at hm
      rw [F.graph_plan_turns_l3, if_neg (by omega), show F.graph_plan_edges (a0.1, a0.2.1, a0.2.2) g = some E from hE, Option.bind_some, hm])
    (fun f m k x hx hk hm ih => by
      rw [F.graph_plan_turns_l3, if_pos (by omega), A.ixn hx, Option.bind_some, A.gd1 (A.r64n (by omega))]
      refine ih _ ?_
      rw [show Z.mins m (x.1.1, x.1.2) x.2 = Z.mins m x.1 x.2 from rfl, mins_new (mhas_app ?_), hm, take_s hx]
      rw [hm]
      intro h
      rw [List.map_take] at h
      have hd := hn
      rw [← List.take_append_drop k (S.map (·.1)), List.nodup_append] at hd
      refine hd.2.2 _ h _ ?_ rfl
      rw [← List.map_drop, A.dropx hx, List.map_cons]; exact List.mem_cons_self ..)
    (by have := FU_big; omega) [] (by simp)
/-! ### both searches are alike -/
theorem nodeAt {g : List Nd} (hi : Inc g) {n : Nd} (hn : n ∈ g) (z : Nd) : Z.mget z (mapOf g) n.1 = n ∧ find g n.1 = (n, true) := by
  obtain ⟨j, hj⟩ := List.mem_iff_getElem?.1 hn
  exact ⟨hi.mget hj, find_eq hi hj⟩
theorem mem_st {g : List Nd} {d : List Int} {st : List (Pl × List Pl)} (hst : ∀ p, Z.mget [] st p = toOf (edges g d) p) {p q : Pl} : q ∈ Z.mget [] st p ↔ ∃ e ∈ edges g d, e.1 = p ∧ e.2.1 = q := by
  rw [hst]; unfold toOf
  constructor
  · intro h
    obtain ⟨e, h1, h2⟩ := List.mem_map.1 h
    obtain ⟨h3, h4⟩ := List.mem_filter.1 h1
    exact ⟨e, h3, of_decide_eq_true h4, h2⟩
  · rintro ⟨e, h1, h2, h3⟩
    exact List.mem_map.2 ⟨e, List.mem_filter.2 ⟨h1, decide_eq_true h2⟩, h3⟩
theorem nodup_S {g : List Nd} {d : List Int} (hi : Inc g) (ho : Own g) : ((spots g d).map (·.1)).Nodup := spotsF_nodup d 0 g hi fun n hn => in2 ho hn
theorem ok_iff {g : List Nd} {d : List Int} (hi : Inc g) (ho : Own g) {dd : Int} {p q : Pl} : okE g (spots g d) (edges g d) dd p q ↔ (∃ e ∈ edges g d, e.1 = p ∧ e.2.1 = q) ∧ dd ≤ Z.mget 0 (spots g d) q ∧ (¬ blk g dd p ∨ p.2 = 2) := by
  have hN := nodup_S (d := d) hi ho
  have key : ∀ e ∈ edges g d, (openB g (spots g d) dd e = true ↔ dd ≤ Z.mget 0 (spots g d) e.2.1 ∧ (¬ blk g dd e.1 ∨ e.1.2 = 2)) := fun e he => by
    obtain ⟨v, hv⟩ := edge_to d he
    obtain ⟨n, hn, h1⟩ := edge_from d he
    obtain ⟨h2, h3⟩ := nodeAt hi hn ((0, 0, [], (0, 0, (ByteArray.mk #[])), (ByteArray.mk #[]), 0, 0) : Nd)
    unfold openB blk
    rw [mget_mem hN hv, atS_mem hN hv, h1, h3, h2, Bool.and_eq_true, decide_eq_true_eq, Bool.or_eq_true, Bool.or_eq_true, decide_eq_true_eq, decide_eq_true_eq, decide_eq_true_eq]
    constructor
    · rintro ⟨a, (b | b) | b⟩
      · exact ⟨a, .inl fun h => b h.1⟩
      · exact ⟨a, .inl fun h => b h.2⟩
      · exact ⟨a, .inr b⟩
    · rintro ⟨a, b | b⟩
      · by_cases c : n.2.1 = 14
        · exact ⟨a, .inl (.inr fun h => b ⟨c, h⟩)⟩
        · exact ⟨a, .inl (.inl c)⟩
      · exact ⟨a, .inr b⟩
  constructor
  · rintro ⟨e, h1, h2, h3, h4⟩
    have := (key e h1).1 h4
    rw [h2, h3] at this
    exact ⟨⟨e, h1, h2, h3⟩, this⟩
  · rintro ⟨⟨e, h1, h2, h3⟩, h4⟩
    refine ⟨e, h1, h2, h3, (key e h1).2 ?_⟩
    rw [h2, h3]; exact h4
theorem rch_iff {g : List Nd} {d : List Int} {st : List (Pl × List Pl)} (hi : Inc g) (ho : Own g) (hst : ∀ p, Z.mget [] st p = toOf (edges g d) p) {dd : Int} {a : Pl} : Rch (okP g st (spots g d) dd) a a ↔ Rch (okE g (spots g d) (edges g d) dd) a a := by
  have up : ∀ {p q}, okP g st (spots g d) dd p q → okE g (spots g d) (edges g d) dd p q := fun {p q} h =>
    (ok_iff hi ho).2 ⟨(mem_st hst).1 h.1, h.2.2, .inl h.2.1⟩
  have down : ∀ {p q}, okE g (spots g d) (edges g d) dd p q → (p.2 ≠ 2 ∨ ¬ blk g dd p) → okP g st (spots g d) dd p q := fun {p q} h h2 => by
    obtain ⟨h3, h4, h5⟩ := (ok_iff hi ho).1 h
    refine ⟨(mem_st hst).2 h3, ?_, h4⟩
    rcases h2 with h2 | h2
    · exact h5.resolve_right h2
    · exact h2
  have blk_same : ∀ {p q : Pl}, p.1 = q.1 → (blk g dd p ↔ blk g dd q) := fun {p q} e => by unfold blk; rw [e]
  constructor
  · intro h
    have : ∀ b, Rch (okP g st (spots g d) dd) a b → Rch (okE g (spots g d) (edges g d) dd) a b := fun b h => by
      induction h with
      | one h => exact .one (up h)
      | step _ h2 ih => exact .step ih (up h2)
    exact this a h
  · intro h
    have key : ∀ b, Rch (okE g (spots g d) (edges g d) dd) a b → Rch (okP g st (spots g d) dd) a b ∨ (a.2 = 2 ∧ blk g dd a) := fun b h => by
      induction h with
      | one h =>
        by_cases h2 : a.2 = 2 ∧ blk g dd a
        · exact .inr h2
        · exact .inl (.one (down h (by
            by_cases h3 : a.2 = 2
            · exact .inr fun h4 => h2 ⟨h3, h4⟩
            · exact .inl h3)))
      | @step b c _ h2 ih =>
        rcases ih with ih | ih
        · refine .inl (.step ih (down h2 ?_))
          by_cases h3 : b.2 = 2
          · refine .inr fun h4 => ?_
            have hlast : ∃ p, okP g st (spots g d) dd p b := by cases ih with
              | one h => exact ⟨_, h⟩
              | step _ h => exact ⟨_, h⟩
            obtain ⟨p, hp⟩ := hlast
            obtain ⟨e, h5, h6, h7⟩ := (mem_st hst).1 hp.1
            have h8 := edge_out d ho h5 (by rw [h7]; exact h3)
            rw [h6, h7] at h8
            exact hp.2.1 ((blk_same h8.1).2 h4)
          · exact .inl h3
        · exact .inr ih
    rcases key a h with h2 | ⟨h2, h3⟩
    · exact h2
    · have hlast : ∃ p, okE g (spots g d) (edges g d) dd p a := by cases h with
        | one h => exact ⟨_, h⟩
        | step _ h => exact ⟨_, h⟩
      obtain ⟨p, hp⟩ := hlast
      obtain ⟨⟨e, h5, h6, h7⟩, _, h9⟩ := (ok_iff hi ho).1 hp
      have h8 := edge_out d ho h5 (by rw [h7]; exact h2)
      rw [h6, h7] at h8
      rcases h9 with h9 | h9
      · exact absurd ((blk_same h8.1).2 h3) h9
      · exact absurd h9 h8.2
theorem edges_len {g : List Nd} (ho : Own g) (hg : g.length ≤ 40) (d : List Int) : ∀ (m k : Nat), k + m = g.length → (edgesF g d k (g.drop k)).length ≤ 83 * m
  | 0, k, h => by rw [List.drop_eq_nil_of_le (by omega)]; exact Nat.le_refl 0
  | m + 1, k, h => by
    have hx : g[k]? = some g[k] := List.getElem?_eq_getElem (by omega)
    generalize g[k] = x at hx
    have h2 := in2 ho (List.mem_of_getElem? hx)
    have h3 := usesF_len x.1 g fun x hx => in2 ho hx
    have h4 := edges_len ho hg d m (k + 1) (by omega)
    rw [A.dropx hx, edgesF]
    split
    · omega
    · rw [List.length_append, List.length_append, inE_len, outE, List.length_map]; omega
theorem spots_port {g : List Nd} (ho : Own g) (d : List Int) : ∀ (k : Nat) (l : List Nd), (∀ n ∈ l, n ∈ g) → ∀ sp ∈ spotsF g d k l, 0 ≤ sp.1.2 ∧ sp.1.2 ≤ 2
  | _, [], _, _, h => by cases h
  | k, n :: r, hl, sp, h => by
    have h2 := in2 ho (hl n (List.mem_cons_self ..))
    unfold spotsF at h
    rcases List.mem_append.1 h with h | h
    · have := insS_at g d n.1 0 _ sp.1 sp.2 h; omega
    · rcases List.mem_append.1 h with h | h
      · unfold outS at h
        split at h
        · rw [List.mem_singleton] at h; subst h; simp
        · cases h
      · exact spots_port ho d (k + 1) r (fun x hx => hl x (List.mem_cons_of_mem _ hx)) sp h
/-- the program's search and the reference's, over all places -/
theorem turns_same (g : List Nd) (d : List Int) (a0 : (List (Int × Nd)) × (List Int) × (List (Int × Int))) (h0 : a0.1 = mapOf g) (hb : Few g) (hi : Inc g) (hfed : Fed g) (ho : Own g) (hib : InB d) (hr : RelD g d a0.2.2) (hd : d.length = g.length) :
    ∃ b, F.graph_plan_turns a0 g = some b ∧ ∀ r5 r9, F.R08_whole_l1 g r5 r9 (spots g d) (edges g d) A.FU 0 = some (if b = true then ([], [], 81) else (r5.1, r9.1, 0)) := by
  have hlen := hb.1
  have hS : (spots g d).length ≤ 120 := by
    have := spots_len ho d g.length 0 (by omega); rw [List.drop_zero] at this; unfold spots; omega
  have hE : (edges g d).length ≤ 4000 := by
    have := edges_len ho hlen d g.length 0 (by omega); rw [List.drop_zero] at this; unfold edges; omega
  have hN := nodup_S (d := d) hi ho
  have hok : ∀ sp ∈ spots g d, SpOk g sp := by
    have := spots_ok (d := d) (g := g) hib g.length 0 (by omega); rw [List.drop_zero] at this; exact this
  obtain ⟨st, hst, hl2⟩ := turns_l2 a0 (spots g d) (edges g d) hE
  have hto : ∀ p q, q ∈ Z.mget [] st p → q ∈ (edges g d).map fun e => e.2.1 := fun p q h => by
    obtain ⟨e, h1, _, h3⟩ := (mem_st hst).1 h
    exact List.mem_map.2 ⟨e, h1, h3⟩
  have htl : ∀ p, (Z.mget [] st p).length ≤ 4000 := fun p => by
    rw [hst]; unfold toOf; rw [List.length_map]
    exact Nat.le_trans (List.length_filter_le _ _) hE
  have hval : ∀ sp ∈ spots g d, ∃ b, F.graph_plan_reaches a0 st (spots g d) sp.1 sp.2 = some b ∧ F.R08_round g (spots g d) (edges g d) sp = some b := fun sp hsp => by
    obtain ⟨b, h1, h2⟩ := reaches_eq g a0 h0 st (spots g d) sp.1 sp.2 ((edges g d).map fun e => e.2.1) (by rw [List.length_map]; exact hE) hto htl (by rw [mget_mem hN (p := sp.1) (v := sp.2) hsp]; exact Int.le_refl _)
    obtain ⟨b', h3, h4⟩ := round_eq g (spots g d) (edges g d) sp hb hi (by omega) hE (fun e he => edge_from d he)
    refine ⟨b, h1, ?_⟩
    rw [h3]; congr 1
    rw [Bool.eq_iff_iff, h4, h2]
    exact (rch_iff hi ho hst).symm
  let p : Sp → Bool := fun sp => (F.graph_plan_reaches a0 st (spots g d) sp.1 sp.2).getD false
  refine ⟨(spots g d).any p, ?_, fun r5 r9 => ?_⟩
  · unfold F.graph_plan_turns
    rw [show F.graph_plan_spots (a0.1, a0.2.1, a0.2.2) g = _ from spotsP_eq g d a0 hb hfed ho hr, Option.bind_some, turns_l3 g a0 (spots g d) (edges g d) (by omega) hN (edgesP_eq g d a0 hb hfed ho hib hr), hl2]
    have := A.mrg_any (body := F.graph_plan_turns_b1 a0 (spots g d) st) (rest := some false) (y := true) (p := p) (l := spots g d) fun sp hsp => by
      obtain ⟨b, h1, _⟩ := hval sp hsp
      obtain ⟨⟨j, n, hn, hid⟩, hdd⟩ := hok sp hsp
      have hng := List.mem_of_getElem? hn
      have hids := own_id (ho n hng)
      have hport : 0 ≤ sp.1.2 ∧ sp.1.2 ≤ 2 := spots_port ho d 0 g (fun n hn => hn) sp hsp
      unfold F.graph_plan_turns_b1
      have hh : decide (IntKind.i64.has sp.1.1) = true ∧ decide (IntKind.i64.has sp.1.2) = true := ⟨decide_eq_true (Z.i64_has ⟨by omega, by omega⟩), decide_eq_true (Z.i64_has ⟨by omega, by omega⟩)⟩
      rw [A.gd1 hh, show F.graph_plan_reaches (a0.1, a0.2.1, a0.2.2) st (spots g d) (sp.1.1, sp.1.2) sp.2 = _ from h1, Option.bind_some, show p sp = b from congrArg (fun o => Option.getD o false) h1]
    rw [this]
    cases (spots g d).any p <;> rfl
  · have loop := A.lp0 (spots g d) (fun f y => F.R08_whole_l1 g r5 r9 (spots g d) (edges g d) f y) (fun _ t => some (if t.any p = true then ([], [], 81) else (r5.1, r9.1, 0)))
      (fun f => by rw [F.R08_whole_l1, if_neg (by omega)]; rfl)
      (fun f k x hx hk ih => by
        obtain ⟨b, h1, h2⟩ := hval x (List.mem_of_getElem? hx)
        rw [F.R08_whole_l1, if_pos (by omega), A.ixn hx, Option.bind_some, show F.R08_round g (spots g d) (edges g d) ((x.1.1, x.1.2), x.2) = _ from h2, Option.bind_some, List.any_cons, show p x = b from congrArg (fun o => Option.getD o false) h1]
        cases b with
        | true => rfl
        | false => rw [if_neg Bool.false_ne_true, A.gd1 (A.r64n (by omega)), ih, Bool.false_or])
      (by have := FU_big; omega)
    exact loop
/-! ### the whole -/
theorem own_of {g : List Nd} (h : okL g 0 0 g = true) : Own g := fun n hn => by
  obtain ⟨j, hj⟩ := List.mem_iff_getElem?.1 hn
  have hL := okL_iff g g.length 0 (by omega)
  rw [List.drop_zero, show lastOf g 0 = 0 from rfl] at hL
  have := hL.1 h j n (by omega) hj
  cases hq : ownQ n with
  | true => rfl
  | false => exact absurd (.inr (.inl hq)) this
theorem orderF_plc (g : List Nd) : ∀ (r : Nat) (done : List Bool) (l l' : List Int), orderF g r done l = some l' → Plc g l → Plc g l'
  | 0, done, l, l', h, hp => by injection h with h; subst h; exact hp
  | r + 1, done, l, l', h, hp => by
    rw [orderF] at h
    by_cases hc : firstF g done 0 g (-1) < 0
    · rw [if_pos hc] at h; cases h
    · rw [if_neg hc] at h
      by_cases hg : g.length = 0
      · have := firstF_le g done 0 g (-1) (by omega)
        have e : g = [] := List.eq_nil_of_length_eq_zero hg
        subst e
        simp [firstF] at hc
      · have hle := firstF_le g done 0 g (-1) (by omega) (by omega)
        refine orderF_plc g r _ _ l' h fun i p hip => ?_
        rw [List.getElem?_append] at hip
        split at hip
        · exact hp i p hip
        · rename_i hil
          have : i - l.length = 0 := by
            have := (List.getElem?_eq_some_iff.1 hip).1
            simp only [List.length_cons, List.length_nil] at this; omega
          rw [this] at hip
          injection hip with hip
          subst hip
          exact ⟨(firstF g done 0 g (-1)).toNat, g[(firstF g done 0 g (-1)).toNat]'(by omega), by omega, List.getElem?_eq_getElem (by omega)⟩
structure Whole (g : List Nd) (l d : List Int) (dm : List (Int × Int)) : Prop where
  inc : Inc g
  fed : Fed g
  own : Own g
  rel : RelD g d dm
  inb : InB d
  dlen : d.length = g.length
  key : KeyD g l dm
  plc : Plc g l
  llen : l.length = g.length
  ord : orderF g g.length (List.replicate g.length false) [] = some l
  dep : depthsF g l (List.replicate g.length 0) = some d
  lps : loopsF g d g = true
/-- the program's answer and the reference's -/
theorem whole_same (g : List Nd) (hb : Few g) :
    (∃ e, e ≠ 0 ∧ F.graph_whole g = some (none, e) ∧ F.R08_whole g = some ([], [], e)) ∨
    (∃ l d dm, F.graph_whole g = some (some (mapOf g, l.map (idAt g), dm), 0) ∧ F.R08_whole g = some (l, d, 0) ∧ Whole g l d dm) := by
  rw [whole_P g hb]
  unfold F.R08_whole
  rw [parts_eq g hb, ok_eq]
  by_cases h32 : (32 : Int) < (g.length : Int)
  · rw [if_pos h32, if_pos h32]
    exact .inl ⟨80, by decide, rfl, rfl⟩
  rw [if_neg h32, if_neg h32]
  by_cases hok : okR g 0 g = true
  case neg => rw [if_neg hok, if_neg hok]; exact .inl ⟨80, by decide, rfl, rfl⟩
  rw [if_pos hok, if_pos hok]
  by_cases hfn : g.all (fun n => decide (chk n.2.1 n.2.2.2.1 = 0)) = true
  case neg => rw [if_neg hfn, if_neg hfn]; exact .inl ⟨60, by decide, rfl, rfl⟩
  rw [if_pos hfn, if_pos hfn]
  by_cases hin : g.all (fun n => n.2.2.1.all (inOk g)) = true
  case neg => rw [if_neg hin, if_neg hin]; exact .inl ⟨80, by decide, rfl, rfl⟩
  rw [if_pos hin, if_pos hin, Option.bind_some, if_neg (by decide)]
  have hi := ok_inc hok
  have hfed := fed_of hin
  have ho := own_of (by rw [ok_eq]; exact hok)
  have hlen := hb.1
  unfold sortP
  rcases order_sort hb hi hfed (mapOf g) with ⟨l, h1, h2, h3, h4⟩ | ⟨h1, p, h2⟩
  case inr => rw [h1, h2]; exact .inl ⟨81, by decide, rfl, rfl⟩
  rw [h1, h2]
  simp only [Option.bind_some, Bool.not_true, Bool.false_eq_true, if_false]
  have hplc : Plc g l := orderF_plc g g.length _ [] l h4 fun i p h => by cases h
  rcases depths_same g l hb hi hfed ho (by omega) hplc with ⟨d, dm, d1, d2, d3, d4, d5, d6, d7, d8⟩ | ⟨d1, p, d2⟩
  case inr => rw [d1, d2]; exact .inl ⟨80, by decide, rfl, rfl⟩
  rw [d1, d2]
  simp only [Option.bind_some, Bool.not_true, Bool.false_eq_true, if_false]
  obtain ⟨b, t1, t2⟩ := turns_same g d (mapOf g, l.map (idAt g), dm) rfl hb hi hfed ho d4 d3 d5
  rw [t1, spotsR_eq g d hb hfed ho d5]
  simp only [Option.bind_some]
  rw [edgesR_eq g d hb hi ho d4]
  simp only [Option.bind_some, t2]
  cases b with
  | true => exact .inl ⟨81, by decide, rfl, rfl⟩
  | false => exact .inr ⟨l, d, dm, rfl, rfl, hi, hfed, ho, d3, d4, d5, d6, hplc, h3, h4, d8, d7⟩
end Go.Proofs.YtleiipbkfaajfaaDoor
end

section
set_option linter.unusedVariables false
set_option linter.unusedSimpArgs false
set_option synthInstance.maxSize 1000000
set_option synthInstance.maxHeartbeats 400000
namespace Go.Proofs.YtleiipbkfaajfaaDoor
open Go.RowKit Go.Graph
theorem begun_true : F.L08_begun = some true := by kernel_rfl
theorem Equal_refl (l : List Int) (hl : l.length ≤ 1000) : F.slices_Equal_int_int l l = some true := by
  unfold F.slices_Equal_int_int
  rw [if_neg (fun h => h rfl)]
  exact A.lp0 l (fun f y => F.slices_Equal_int_int_l1 l l f y) (fun _ _ => some true)
    (fun f => by rw [F.slices_Equal_int_int_l1, if_neg (by omega)])
    (fun f k x hx hk ih => by rw [F.slices_Equal_int_int_l1, if_pos (by omega), A.ixn hx, Option.bind_some, Option.bind_some, if_neg (fun h => h rfl), A.gd1 (A.r64n (by omega)), ih])
    (by have := FU_big; omega)
theorem R_Order_l1 (g : List Nd) (l d : List Int) (hl : l.length ≤ 100) (hp : Plc g l) : F.R08_Order_l1 g (l, d, 0) A.FU [] 0 = some (l.map (idAt g), 0) := by
  have loop := A.lp l (fun f (s : List Int) y => F.R08_Order_l1 g (l, d, 0) f s y) (fun _ t s => some (s ++ t.map (idAt g), 0)) (fun k s => s.length = k)
    (fun f s hs => by rw [F.R08_Order_l1, if_neg (by simp), List.map_nil, List.append_nil])
    (fun f s k x hx hk hs ih => by
      obtain ⟨q, n, rfl, hn⟩ := hp k x hx
      have hid : idAt g (q : Int) = n.1 := by unfold idAt; rw [at_some rfl hn]
      rw [F.R08_Order_l1, if_pos (by simp only []; omega), A.ixn hx, Option.bind_some, A.ixn hn, Option.bind_some, A.gd1 (by simp only [List.length_cons, List.length_nil]; omega), A.gd1 (A.r64n (by omega)), ih _ (by simp only [List.length_append, List.length_cons, List.length_nil]; omega), List.map_cons, hid]
      simp only [List.append_assoc, List.singleton_append, List.cons_append, List.nil_append])
    (by have := FU_big; omega) [] rfl
  rw [loop]; rfl
/-- order and check: both tell the same -/
theorem tells (g : List Nd) (hb : Few g) : ∃ l e, F.graph_Order g = some (l, e) ∧ F.R08_Order g = some (l, e) ∧ F.graph_Check g = some e ∧ F.R08_Check g = some e ∧ l.length ≤ 100 := by
  have hlen := hb.1
  unfold F.graph_Order F.R08_Order F.graph_Check F.R08_Check
  rcases whole_same g hb with ⟨e, h0, h1, h2⟩ | ⟨l, d, dm, h1, h2, W⟩
  · rw [h1, h2]
    simp only [Option.bind_some, A.om, if_pos h0]
    exact ⟨[], e, rfl, rfl, rfl, rfl, by simp⟩
  · rw [h1, h2]
    simp only [Option.bind_some, A.om, ne_eq, not_true_eq_false, if_false]
    rw [R_Order_l1 g l d (by have := W.llen; omega) W.plc]
    exact ⟨_, 0, rfl, rfl, rfl, rfl, by rw [List.length_map]; have := W.llen; omega⟩
theorem graphChecks_plain (g : List Nd) (k : Int) (hg : (Z.Ty.slice T39).ok g) (hk : IntKind.i64.has k) : F.L08_GraphChecks g k = some true := by
  obtain ⟨b, hf, hb⟩ := few_eq g
  unfold F.L08_GraphChecks F.L08_GraphChecks_j2 F.L08_GraphChecks_j1
  rw [begun_true, Option.bind_some, hf]
  simp only [Bool.not_true, Bool.false_eq_true, if_false, Option.bind_some]
  cases b with
  | false => rfl
  | true =>
    obtain ⟨l, e, h1, h2, h3, h4, h5⟩ := tells g (hb rfl)
    rw [h1, h2, h3, h4]
    simp only [Bool.not_true, Bool.false_eq_true, if_false, Option.bind_some, if_true, Equal_refl l (by omega), decide_true, cond_true]
    have hins : ∃ i, F.graph_Ins k = some i ∧ F.R08_Ins k = some i := ⟨_, gIns_eq k, R08_Ins_eq k⟩
    obtain ⟨i, i1, i2⟩ := hins
    have hkey : ∃ y, F.graph_Keyed k = some y ∧ F.R08_Keyed k = some y := ⟨_, rfl, (Keyed_eq k).symm⟩
    obtain ⟨y, y1, y2⟩ := hkey
    rw [i1, i2, y1, y2]
    simp only [Option.bind_some, if_true, beq_self_eq_true]
end Go.Proofs.YtleiipbkfaajfaaDoor
end

section
namespace Go.Z
open Go.RowKit
/-- whatever is trodden as a T reads as a t -/
def OpenT (P : Program) (T : TypeId) (t : Ty) : Prop :=
  P.cellsOf T = t.size ∧ ∀ (H : Type) (enc : TypeId × Value → H) (w : World) (base : Nat) (spare : Nat → Bool) (held : Bool) (fuel : Nat) (cs : List Value) (x : DataW H × List MemPlace),
    DataW.trod enc P w base spare held fuel T cs = some x → ∃ y : t.den, t.rep w (nt []) cs y
section
variable {P : Program} {T e : TypeId}
theorem ot_int {k : IntKind} (hc : P.cellsOf T = 1) (ht : P.underlying T = some (.int k)) : OpenT P T (.int k) := ⟨hc, fun H enc w base spare held fuel cs x h => by
  obtain ⟨n, rfl, _, hw⟩ := DataW.trod_int ht h
  refine ⟨n, rfl, ?_⟩
  simp only [Lit.wf, Bool.and_eq_true, decide_eq_true_eq] at hw
  exact hw⟩
theorem ot_str (hc : P.cellsOf T = 1) (ht : P.underlying T = some .string) : OpenT P T .str := ⟨hc, fun H enc w base spare held fuel cs x h => by
  obtain ⟨s, rfl, _, hs⟩ := DataW.trod_string ht h
  exact ⟨s, rfl, hs⟩⟩

/-- parts of a struct or of an array, in a row -/
def OpenPs (P : Program) : List (TypeId × Nat) → Nat → Ty → Prop
  | [], _, _ => False
  | [(T, o')], o, t => o' = o ∧ OpenT P T t
  | (T, o') :: p :: ps, o, .pair a b => o' = o ∧ OpenT P T a ∧ OpenPs P (p :: ps) (o + a.size) b
  | _ :: _ :: _, _, _ => False
theorem open_ps {H : Type} {enc : TypeId × Value → H} {w : World} {base : Nat} {spare : Nat → Bool} {held : Bool} {fuel : Nat} {cs : List Value} :
    ∀ (ps : List (TypeId × Nat)) (o : Nat) (t : Ty), OpenPs P ps o t → (∀ p ∈ ps, ∃ x, DataW.trod enc P w base spare held fuel p.1 ((cs.drop p.2).take (P.cellsOf p.1)) = some x) → ∃ y : t.den, t.rep w (nt []) ((cs.drop o).take t.size) y
  | [], _, _, h, _ => h.elim
  | [(T, o')], o, t, h, hx => by
    obtain ⟨rfl, ⟨hc, ho⟩⟩ := h
    obtain ⟨x, hx⟩ := hx (T, o') (List.mem_singleton.2 rfl)
    rw [← hc]; exact ho _ _ _ _ _ _ _ _ _ hx
  | (T, o') :: p :: ps, o, .pair a b, h, hx => by
    obtain ⟨rfl, ⟨hc, ho⟩, hr⟩ := h
    obtain ⟨x, h1⟩ := hx (T, o') (List.mem_cons_self ..)
    obtain ⟨ya, hya⟩ := ho _ _ _ _ _ _ _ _ _ h1
    obtain ⟨yb, hyb⟩ := open_ps (p :: ps) _ b hr fun q hq => hx q (List.mem_cons_of_mem _ hq)
    refine ⟨(ya, yb), _, _, ?_, hya, hyb⟩
    show (cs.drop o').take (a.size + b.size) = _
    rw [hc, List.take_add, List.drop_drop]
  | _ :: _ :: _, _, .int _, h, _ => h.elim
  | _ :: _ :: _, _, .byte, h, _ => h.elim
  | _ :: _ :: _, _, .bool, h, _ => h.elim
  | _ :: _ :: _, _, .str, h, _ => h.elim
  | _ :: _ :: _, _, .slice _, h, _ => h.elim
theorem ot_struct {fs : List Field} {t : Ty} (hc : P.cellsOf T = t.size) (ht : P.underlying T = some (.struct fs.toArray)) (h : OpenPs P (fs.map fun f => (f.type, f.offset)) 0 t) : OpenT P T t := ⟨hc, fun H enc w base spare held fuel cs x hx => by
  obtain ⟨xs, n, _, _, hl, hs, hf⟩ := DataW.trod_struct ht hx
  have hcs : cs = (cs.drop 0).take t.size := by rw [List.drop_zero, List.take_of_length_le (by omega)]
  rw [hcs]
  refine open_ps (fuel := n) (enc := enc) (base := base) (spare := spare) (held := held) _ 0 t h fun p hp => ?_
  obtain ⟨f, hf1, rfl⟩ := List.mem_map.1 hp
  obtain ⟨i, hi, he⟩ := List.getElem_of_mem hf1
  have h1 := hf i f (by rw [List.getElem?_toArray, List.getElem?_eq_getElem hi, he])
  rw [h1, List.getElem?_eq_getElem (by rw [hs]; simpa using hi)]
  exact ⟨_, rfl⟩⟩
/-- rows of elements -/
theorem rows_of {t : Ty} {w : World} {g : Addr} : ∀ (n : Nat), (∀ i, i < n → ∃ (cs : List Value) (y : t.den), cs.length = t.size ∧ (∀ j u, cs[j]? = some u → w.cell? (g.add (i * t.size + j)) = some u) ∧ t.rep w (nt []) cs y) →
    ∃ (cells : List Value) (ys : List t.den), ys.length = n ∧ cells.length = n * t.size ∧ (∀ j u, cells[j]? = some u → w.cell? (g.add j) = some u) ∧ ∀ (i : Nat) (y : t.den), ys[i]? = some y → t.rep w (nt []) ((cells.drop (i * t.size)).take t.size) y
  | 0, _ => ⟨[], [], rfl, by simp, by simp, by simp⟩
  | n + 1, h => by
    obtain ⟨cells, ys, h1, h2, h3, h4⟩ := rows_of n fun i hi => h i (by omega)
    obtain ⟨cs, y, c1, c2, c3⟩ := h n (by omega)
    refine ⟨cells ++ cs, ys ++ [y], by simp [h1], by rw [List.length_append, h2, c1, Nat.succ_mul], fun j u hj => ?_, ?_⟩
    · by_cases hlt : j < cells.length
      · rw [List.getElem?_append_left hlt] at hj; exact h3 j u hj
      · rw [List.getElem?_append_right (by omega)] at hj
        have := c2 _ u hj
        rwa [h2, show n * t.size + (j - n * t.size) = j by omega] at this
    · refine rep_append (xs := ys) (ys := [y]) (by rw [h2, h1]) h4 fun i y' hi => ?_
      have : i = 0 := by have := (List.getElem?_eq_some_iff.1 hi).1; simp at this; omega
      subst this
      simp at hi; subst hi
      rw [Nat.zero_mul, List.drop_zero, List.take_of_length_le (by omega)]; exact c3
theorem ot_slice {t : Ty} (hc : P.cellsOf T = 1) (ht : P.underlying T = some (.slice e)) (h : OpenT P e t) : OpenT P T (.slice t) := ⟨hc, fun H enc w base spare held fuel cs x hx => by
  rcases DataW.trod_slice ht hx with ⟨rfl, _⟩ | ⟨ad, len, cap, elems, rest, n, _, rfl, _, hb, hl, hm, hlen, hel, _, _⟩
  · exact ⟨[], rep_nil _⟩
  · have each : ∀ i, i < len → ∃ (cs : List Value) (y : t.den), cs.length = t.size ∧ (∀ j u, cs[j]? = some u → w.cell? (ad.add (i * t.size + j)) = some u) ∧ t.rep w (nt []) cs y := fun i hi => by
      have h1 := hel i hi
      rw [List.getElem?_eq_getElem (by omega), Option.bind_eq_some_iff] at h1
      obtain ⟨cs', h2, h3⟩ := h1
      obtain ⟨_, h4, h5⟩ := World.cells?_some h2
      obtain ⟨y, hy⟩ := h.2 _ _ _ _ _ _ _ _ _ h3
      rw [h.1] at h4 h5
      refine ⟨cs', y, h4, fun j u hj => ?_, hy⟩
      have hlt := (List.getElem?_eq_some_iff.1 hj).1
      have := h5 j (by omega)
      rw [add_add] at this
      rw [this, hj]
    obtain ⟨cells, ys, h1, h2, h3, h4⟩ := rows_of len each
    by_cases hz : len = 0
    · subst hz
      have : ys = [] := List.eq_nil_of_length_eq_zero h1
      subst this
      exact ⟨[], some ad, cap, [], rfl, by simp, hm, by simp, .inl rfl, by simp⟩
    · have hp := pos_size t
      have hlt : 0 < cells.length := by rw [h2]; exact Nat.mul_pos (by omega) hp
      have h0 := h3 0 _ (List.getElem?_eq_getElem hlt)
      have hspot := World.cell?_spot h0
      obtain ⟨b, off, spot⟩ := ad
      simp only [Addr.add] at hspot
      subst hspot
      refine ⟨ys, some ⟨b, off, none⟩, cap, cells, by rw [h1], by omega, hm, by rw [h1]; exact h2, .inr ⟨b, off, rfl, by simp [nt], fun j u hj => ?_⟩, h4⟩
      have := h3 j u hj
      rwa [Addr.add_lit] at this⟩
end
end Go.Z
end

section
namespace Go.Proofs.YtleiipbkfaajfaaDoor.graphChecksDone
open Go.ChangeShapes Go.WideShapes Go.ChangeAt Go.RowKit
set_option linter.unusedVariables false
theorem own : ownKnob Tryd.prog.godebug = none := by kernel_rfl
theorem laidOut : laidOutB Tryd.prog = true := by kernel_rfl
theorem ot3 : Z.OpenT Tryd.prog 3 (Z.Ty.int .i64) := Z.ot_int (by kernel_rfl) Tryd.underlying3
theorem ot27 : Z.OpenT Tryd.prog 27 (Z.Ty.slice (Z.Ty.int .i64)) := Z.ot_slice (by kernel_rfl) Tryd.underlying27 ot3
theorem ot2 : Z.OpenT Tryd.prog 2 (Z.Ty.int .i64) := Z.ot_int (by kernel_rfl) Tryd.underlying2
theorem ot9 : Z.OpenT Tryd.prog 9 Z.Ty.str := Z.ot_str (by kernel_rfl) Tryd.underlying9
theorem ot38 : Z.OpenT Tryd.prog 38 T37 := Z.ot_struct (by kernel_rfl) Tryd.underlying38 ⟨rfl, ot3, rfl, ot2, rfl, ot9⟩
theorem ot40 : Z.OpenT Tryd.prog 40 T39 := Z.ot_struct (by kernel_rfl) Tryd.underlying40 ⟨rfl, ot3, rfl, ot3, rfl, ot27, rfl, ot38, rfl, ot9, rfl, ot2, rfl, ot3⟩
theorem ot22 : Z.OpenT Tryd.prog 22 (Z.Ty.slice T39) := Z.ot_slice (by kernel_rfl) Tryd.underlying22 ot40
theorem ot24 : Z.OpenT Tryd.prog 24 T23 := Z.ot_struct (by kernel_rfl) Tryd.underlying24 ⟨rfl, ot22⟩
set_option maxRecDepth 100000 in
theorem laid_met (os : Os) (args : Array Value) : laidMetH Tryd.prog Rows.graphChecksRow.laid (({ World.holding Tryd.prog os ⟨#[], #[], []⟩ with heap := ((World.holding Tryd.prog os ⟨#[], #[], []⟩).heap.modify 0 (A.putCells A.tabF)).modify 1 (A.putCells A.tabA) } : World).forCall (fun _ _ => 0) ⟨#[], args, []⟩).memory := by
  rw [MakeChecks.laidMetH_plain _ _ _ (by kernel_rfl)]
  exact (LaidIn.of_run (l := Rows.graphChecksRow.laid) [1, 0] 8 (by kernel_rfl) (by kernel_rfl) (by kernel_rfl) (by kernel_rfl)).met
theorem of_laid {W : World} (h : laidMetH Tryd.prog Rows.graphChecksRow.laid W) : Lib.Utf8Tabs 0 1 W := by
  rw [MakeChecks.laidMetH_plain _ _ _ (by kernel_rfl)] at h
  have h1 := Lib.laidMet.reads h (.tail _ (.head _))
  rw [show Rows.laid_unicode_utf8_first = Lib.firstData from Pinned.utf8First_eq] at h1
  have h2 := Lib.laidMet.reads h (.head _)
  rw [show (Rows.laid_unicode_utf8_acceptRanges : DataW Unit) = Lib.acceptData by kernel_rfl] at h2
  exact utf8Tabs_of_readsT (U8Types.of196 Tryd.laysValid) ⟨by kernel_rfl, by kernel_rfl, by kernel_rfl, by kernel_rfl, by kernel_rfl, by kernel_rfl, by kernel_rfl⟩ h1 h2
set_option maxHeartbeats 1000000 in
set_option maxRecDepth 100000 in
theorem lifted (os : Os) (started : os.Started) (H : Type) (enc : TypeId × Value → H) :
    ReturnsInHanded {} Tryd.checked os 3 .any (fun w args => (Rows.graphChecksSpec.pre enc Tryd.prog Tryd.f3 [] false w args ∧ laidMetH Tryd.prog Rows.graphChecksRow.laid w) ∧ sizedMet enc Tryd.prog Tryd.f3 (OpenSpec.ofChange Rows.graphChecksSpec) false w args) (Rows.graphChecksSpec.post enc Tryd.prog Tryd.f3 false true false false) := by
  refine returnsInHanded_of_change_and (C := Tryd.checked) (X := fun w _ => laidMetH Tryd.prog Rows.graphChecksRow.laid w) (fun _ _ _ hh h => h.of_heap hh) own started (by kernel_rfl) Tryd.func3
    (ChangeSpec.witness_shaped (enc := enc) (C := Tryd.checked) (os := os) (X := fun w _ => laidMetH Tryd.prog Rows.graphChecksRow.laid w) false ({ World.holding Tryd.prog os ⟨#[], #[], []⟩ with heap := ((World.holding Tryd.prog os ⟨#[], #[], []⟩).heap.modify 0 (A.putCells A.tabF)).modify 1 (A.putCells A.tabA) }) #[.agg #[.slice none 0 0], .int .i64 0] 16 rfl (World.shaped_of_RefB (by kernel_rfl) (by kernel_rfl)) (by kernel_rfl) (by kernel_rfl) (by kernel_rfl) (laid_met os _)) ?_
  intro W base args ds gs before hval0 hW hcnd _ hL _
  have hval : ∀ (j : Nat) t v, Tryd.f3.params[j]? = some t → args[j]? = some v → Value.okWide Tryd.prog W .any base t v := hval0
  have hW' := hW
  obtain ⟨p, q, hA0, hV, rfl, hfz, hnd⟩ := hW
  have hA : DataW.TrodAll enc Tryd.prog W 0 (fun _ => true) true Tryd.f3.params.toList args.toList ds p := hA0
  rw [Tryd.params3] at hA hval
  obtain ⟨v0, vs0, d0, ds0, p0, q0, hargs, rfl, rfl, h0, r0⟩ := trodAll_cons hA
  obtain ⟨v1, vs1, d1, ds1, p1, q1, rfl, rfl, rfl, h1, r1⟩ := trodAll_cons r0
  obtain ⟨rfl, rfl, rfl⟩ := trodAll_nil r1
  obtain rfl : args = #[v0, v1] := by cases args; simp_all
  obtain ⟨rfl, rfl⟩ := trodVars_none hV
  have k0 := h0
  have lt0 : ∀ x ∈ p0, x.block < W.heap.size := by obtain ⟨m, hm⟩ := k0; exact DataW.trod_lt m _ _ _ hm
  obtain ⟨fu0, hf0⟩ := h0
  obtain ⟨x0, hx0⟩ := ot24.2 _ _ _ _ _ _ _ _ _ hf0
  obtain ⟨cs0, rfl, _⟩ := okWide_struct Tryd.underlying24 (hval 0 24 v0 rfl rfl)
  replace hx0 : T23.rep W (Z.nt []) cs0.toList x0 := hx0
  have hok0 := Z.rep_ok _ hx0
  obtain ⟨a0, c0, hc0⟩ : ∃ a c, cs0.toList = [.slice a x0.length c] := by obtain ⟨a, c, _, h, _⟩ := hx0; exact ⟨a, c, h⟩
  obtain rfl : cs0 = #[.slice a0 x0.length c0] := by rw [← Array.toArray_toList (xs := cs0), hc0]
  have k1 := h1
  have lt1 : ∀ x ∈ p1, x.block < W.heap.size := by obtain ⟨m, hm⟩ := k1; exact DataW.trod_lt m _ _ _ hm
  obtain ⟨fu1, hf1⟩ := h1
  obtain ⟨x1, hx1⟩ := ot3.2 _ _ _ _ _ _ _ _ _ hf1
  obtain ⟨u1, rfl⟩ := okWide_int Tryd.underlying3 (hval 1 3 v1 rfl rfl)
  have he1 := hx1.1
  replace he1 : u1 = x1 := by simpa [Value.cells] using he1
  subst he1
  have hok1 := hx1.2
  clear hA0 hval0
  have htab := of_laid hL
  have hF : F.L08_GraphChecks x0 u1 = some true := graphChecks_plain x0 u1 hok0 hok1
  have hct := L08_GraphChecks_ok x0 u1 a0 c0 hok1 true hF
  refine (hct W (fun _ => True) (A.Hp.start ⟨A.Hall.sh hx0, A.Hall.tabs htab⟩)).mono ?_
  rintro e W' ⟨v, H', rfl, ⟨rfl, rfl⟩, hh⟩
  have bel := hh.ch.below
  exact ⟨_, rfl, _, _, _, [], _, [], hW', trodAll_mk1 (shut_bool Tryd.underlying4 _), (trodAll_cons_mk (Below.trod laidOut (by kernel_rfl) (of_decide_eq_true (by kernel_rfl)) k0 bel lt0) (trodAll_cons_mk (Below.trod laidOut (by kernel_rfl) (of_decide_eq_true (by kernel_rfl)) k1 bel lt1) trodAll_mk0)), rfl, bel.frame _, fun h => by cases h⟩
theorem over : Rows.graphChecksRow.holds Tryd.pinned (OpenSpec.ofChange Rows.graphChecksSpec) :=
  OpenClaim.holds_of_wide 3 Tryd.f3 rfl rfl rfl rfl rfl rfl rfl ⟨rfl, rfl, rfl, rfl, rfl⟩ rfl rfl rfl rfl rfl (by kernel_rfl) Tryd.func3 (by kernel_rfl)
    (of_decide_eq_true (by kernel_rfl)) (by unfold Func.isWrapper; first | (rw [if_pos (by decide +kernel)]; kernel_rfl) | (rw [if_neg (by decide +kernel)]; exact ⟨rfl, rfl⟩))
    (fun os started H enc _ => lifted os started H enc)
/-- the given statement -/
theorem proved : Rows.GraphChecksCardSaid :=
  Claim7.holds_tied_plain_at .later [] [.data, .pinned] true (true, "5accb819764bdfb54aec7bf5ca22e52637ae82d22dbe71865d5ce6d1d9810029") false
    over (fun _ h => by cases h) (by kernel_rfl) (fun _ h => by cases h) graphChecks_row_tie rfl ⟨rfl, rfl⟩ (by kernel_rfl) rfl
    (fun f fn hf hfn => by
      obtain rfl : f = 3 := Option.some.inj ((show Tryd.prog.funcNamed Rows.graphChecksRow.func = some 3 by kernel_rfl).symm.trans hf) |>.symm
      obtain rfl : fn = Tryd.f3 := (Option.some.inj (Tryd.func3.symm.trans hfn)).symm
      exact ⟨by kernel_rfl, fun j t ht => by
        rw [Tryd.params3] at ht
        have hm : t ∈ [24, 3] := by simpa using Array.mem_of_getElem? ht
        have hall : ([24, 3].all fun u => !Tryd.prog.wantsStandIn u) = true := by kernel_rfl
        exact (show Tryd.prog.wantsStandIn t = false by simpa using List.all_eq_true.1 hall t hm)⟩)
    (by kernel_rfl)
#print axioms proved
end Go.Proofs.YtleiipbkfaajfaaDoor.graphChecksDone
end
