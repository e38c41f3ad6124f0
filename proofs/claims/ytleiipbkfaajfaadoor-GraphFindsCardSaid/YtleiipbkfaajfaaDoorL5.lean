/- Plain: what is wrong with a graph, its order, its depths: the program and the reference tell the same. * Plain: what is wrong with any graph, and its order: the statement 'GraphChecks' on data. * Plain: nodes by number and name, depths, whom a node feeds: the statement 'GraphFinds' on data. * Plain: depths, whom a node feeds: the statement 'GraphFinds' on data. * A small logic over the model's walk, continued: arguments of a row, opened: what a reader treads reads as a datum. No program in sight. * The law 'GraphFinds' as it is given: whatever the input, the call returns true, and each argument reads behind it as it read before. No condition but that utf8's two tables hold what the library's text lays, which the card ties. -/
import Derived.Test.YtleiipbkfaajfaaDoorL4
import Derived.Test.YtleiipbkfaajfaaDoorL0
import Derived.OpenShut
import Derived.ShutString
import Derived.ChangeOld
import Derived.ChangeArms
import Derived.DataReads
import Derived.Test.YtleiipbkfaajfaaDoorRows
import Derived.Test.YtleiipbkfaajfaaDoorTie
import Derived.Test.YtleiipbkfaajfaaDoorCards
import Derived.WalkKit
import Derived.ProofKit
import Derived.Below
import Derived.LaidMore
import Derived.Stop.Joined
import Derived.SevenTiedAt
import Derived.Lib.LaidIn
import Derived.Lib.LaidU8T
import Derived.PinnedBridge
import Derived.SizedLaws
section
set_option linter.unusedVariables false
set_option linter.unusedSimpArgs false
set_option synthInstance.maxSize 1000000
set_option synthInstance.maxHeartbeats 400000
namespace Go.Proofs.YtleiipbkfaajfaaDoor
open Go.RowKit Go.Graph
theorem mget_mem {p : Pl} : ∀ {l : List Sp} {v : Int}, (l.map (·.1)).Nodup → (p, v) ∈ l → Z.mget 0 l p = v
  | [], _, _, h => by cases h
  | (a, w) :: r, v, hn, h => by
    rw [List.map_cons, List.nodup_cons] at hn
    unfold Z.mget
    rcases List.mem_cons.1 h with h | h
    · injection h with h1 h2; rw [if_pos h1, h2]
    · rw [if_neg (fun e => hn.1 (by rw [← e]; exact List.mem_map_of_mem (f := (·.1)) h))]
      exact mget_mem hn.2 h
theorem mhas_app {l : List Sp} {p : Pl} (h : p ∉ l.map (·.1)) : Z.mhas l p = false := by
  induction l with
  | nil => rfl
  | cons a r ih =>
    rw [List.map_cons, List.mem_cons, not_or] at h
    obtain ⟨q, v⟩ := a
    unfold Z.mhas
    rw [if_neg h.1]; exact ih h.2
/-! ### the program's search of all places -/
def toOf (E : List Ed) (p : Pl) : List Pl := (E.filter fun e => decide (e.1 = p)).map fun e => e.2.1
theorem turns_l2 (a0 : (List (Int × Nd)) × (List Int) × (List (Int × Int))) (S : List Sp) (E : List Ed) (hE : E.length ≤ 4000) : ∃ st, (∀ p, Z.mget [] st p = toOf E p) ∧ F.graph_plan_turns_l2 a0 S E A.FU [] 0 = A.mrg (F.graph_plan_turns_b1 a0 S st) (some false) S := by
  have main : ∀ (n k f : Nat) (m : List (Pl × List Pl)), k + n = E.length → n < f → (∀ p, Z.mget [] m p = toOf (E.take k) p) → ∃ st, (∀ p, Z.mget [] st p = toOf E p) ∧ F.graph_plan_turns_l2 a0 S E f m (k : Int) = A.mrg (F.graph_plan_turns_b1 a0 S st) (some false) S := by
    intro n
    induction n with
    | zero =>
      intro k f m hk hf hm
      obtain ⟨f, rfl⟩ : ∃ f', f = f' + 1 := ⟨f - 1, by omega⟩
      rw [List.take_of_length_le (by omega)] at hm
      exact ⟨m, hm, by rw [F.graph_plan_turns_l2, if_neg (by omega)]⟩
    | succ n ih =>
      intro k f m hk hf hm
      obtain ⟨f, rfl⟩ : ∃ f', f = f' + 1 := ⟨f - 1, by omega⟩
      have hx : E[k]? = some E[k] := List.getElem?_eq_getElem (by omega)
      generalize E[k] = x at hx
      have hlen : (Z.mget [] m x.1).length ≤ 4000 := by
        rw [hm]; unfold toOf
        rw [List.length_map]
        have := List.length_filter_le (fun e : Ed => decide (e.1 = x.1)) (E.take k)
        rw [List.length_take] at this; omega
      rw [F.graph_plan_turns_l2, if_pos (by omega), A.ixn hx, Option.bind_some, A.gd1 (by rw [show Z.mget [] m (x.1.1, x.1.2) = Z.mget [] m x.1 from rfl]; simp only [List.length_cons, List.length_nil]; omega), A.gd1 (A.r64n (by omega))]
      refine ih (k + 1) f _ (by omega) (by omega) fun p => ?_
      rw [show Z.mins m (x.1.1, x.1.2) (Z.mget [] m (x.1.1, x.1.2) ++ [(x.2.1.1, x.2.1.2)]) = Z.mins m x.1 (Z.mget [] m x.1 ++ [x.2.1]) from rfl, Z.mget_ins, take_s hx]
      unfold toOf
      rw [List.filter_append, List.map_append, List.filter_cons, List.filter_nil]
      by_cases e : p = x.1
      · subst e
        rw [if_pos rfl, hm, if_pos (decide_eq_true rfl)]; rfl
      · rw [if_neg e, hm, if_neg (by simp only [decide_eq_true_eq]; exact fun h => e h.symm), List.map_nil, List.append_nil]; rfl
  exact main E.length 0 A.FU [] (by omega) (by have := FU_big; omega) (fun p => rfl)
theorem turns_l3 (g : List Nd) (a0 : (List (Int × Nd)) × (List Int) × (List (Int × Int))) (S : List Sp) (E : List Ed) (hS : S.length ≤ 4000) (hn : (S.map (·.1)).Nodup) (hE : F.graph_plan_edges a0 g = some E) : F.graph_plan_turns_l3 a0 g S A.FU [] 0 = F.graph_plan_turns_l2 a0 S E A.FU [] 0 :=
  A.lp S (fun f (m : List Sp) i => F.graph_plan_turns_l3 a0 g S f m i) (fun _ _ _ => F.graph_plan_turns_l2 a0 S E A.FU [] 0) (fun k m => m = S.take k)
    (fun f m hm => by
      rw [List.take_of_length_le (Nat.le_refl _)] at hm
      rw [F.graph_plan_turns_l3, if_neg (by omega), show F.graph_plan_edges (a0.1, a0.2.1, a0.2.2) g = some E from hE, Option.bind_some, hm])
    (fun f m k x hx hk hm ih => by
      rw [F.graph_plan_turns_l3, if_pos (by omega), A.ixn hx, Option.bind_some, A.gd1 (A.r64n (by omega))]
      refine ih _ ?_
      rw [show Z.mins m (x.1.1, x.1.2) x.2 = Z.mins m x.1 x.2 from rfl, mins_new (mhas_app ?_), hm, take_s hx]
      rw [hm]
      intro h
      rw [List.map_take] at h
      have hd := hn
      rw [← List.take_append_drop k (S.map (·.1)), List.nodup_append] at hd
      refine hd.2.2 _ h _ ?_ rfl
      rw [← List.map_drop, A.dropx hx, List.map_cons]; exact List.mem_cons_self ..)
    (by have := FU_big; omega) [] (by simp)
/-! ### both searches are alike -/
theorem nodeAt {g : List Nd} (hi : Inc g) {n : Nd} (hn : n ∈ g) (z : Nd) : Z.mget z (mapOf g) n.1 = n ∧ find g n.1 = (n, true) := by
  obtain ⟨j, hj⟩ := List.mem_iff_getElem?.1 hn
  exact ⟨hi.mget hj, find_eq hi hj⟩
theorem mem_st {g : List Nd} {d : List Int} {st : List (Pl × List Pl)} (hst : ∀ p, Z.mget [] st p = toOf (edges g d) p) {p q : Pl} : q ∈ Z.mget [] st p ↔ ∃ e ∈ edges g d, e.1 = p ∧ e.2.1 = q := by
  rw [hst]; unfold toOf
  constructor
  · intro h
    obtain ⟨e, h1, h2⟩ := List.mem_map.1 h
    obtain ⟨h3, h4⟩ := List.mem_filter.1 h1
    exact ⟨e, h3, of_decide_eq_true h4, h2⟩
  · rintro ⟨e, h1, h2, h3⟩
    exact List.mem_map.2 ⟨e, List.mem_filter.2 ⟨h1, decide_eq_true h2⟩, h3⟩
theorem nodup_S {g : List Nd} {d : List Int} (hi : Inc g) (ho : Own g) : ((spots g d).map (·.1)).Nodup := spotsF_nodup d 0 g hi fun n hn => in2 ho hn
theorem ok_iff {g : List Nd} {d : List Int} (hi : Inc g) (ho : Own g) {dd : Int} {p q : Pl} : okE g (spots g d) (edges g d) dd p q ↔ (∃ e ∈ edges g d, e.1 = p ∧ e.2.1 = q) ∧ dd ≤ Z.mget 0 (spots g d) q ∧ (¬ blk g dd p ∨ p.2 = 2) := by
  have hN := nodup_S (d := d) hi ho
  have key : ∀ e ∈ edges g d, (openB g (spots g d) dd e = true ↔ dd ≤ Z.mget 0 (spots g d) e.2.1 ∧ (¬ blk g dd e.1 ∨ e.1.2 = 2)) := fun e he => by
    obtain ⟨v, hv⟩ := edge_to d he
    obtain ⟨n, hn, h1⟩ := edge_from d he
    obtain ⟨h2, h3⟩ := nodeAt hi hn ((0, 0, [], (0, 0, (ByteArray.mk #[])), (ByteArray.mk #[]), 0, 0) : Nd)
    unfold openB blk
    rw [mget_mem hN hv, atS_mem hN hv, h1, h3, h2, Bool.and_eq_true, decide_eq_true_eq, Bool.or_eq_true, Bool.or_eq_true, decide_eq_true_eq, decide_eq_true_eq, decide_eq_true_eq]
    constructor
    · rintro ⟨a, (b | b) | b⟩
      · exact ⟨a, .inl fun h => b h.1⟩
      · exact ⟨a, .inl fun h => b h.2⟩
      · exact ⟨a, .inr b⟩
    · rintro ⟨a, b | b⟩
      · by_cases c : n.2.1 = 14
        · exact ⟨a, .inl (.inr fun h => b ⟨c, h⟩)⟩
        · exact ⟨a, .inl (.inl c)⟩
      · exact ⟨a, .inr b⟩
  constructor
  · rintro ⟨e, h1, h2, h3, h4⟩
    have := (key e h1).1 h4
    rw [h2, h3] at this
    exact ⟨⟨e, h1, h2, h3⟩, this⟩
  · rintro ⟨⟨e, h1, h2, h3⟩, h4⟩
    refine ⟨e, h1, h2, h3, (key e h1).2 ?_⟩
    rw [h2, h3]; exact h4
theorem rch_iff {g : List Nd} {d : List Int} {st : List (Pl × List Pl)} (hi : Inc g) (ho : Own g) (hst : ∀ p, Z.mget [] st p = toOf (edges g d) p) {dd : Int} {a : Pl} : Rch (okP g st (spots g d) dd) a a ↔ Rch (okE g (spots g d) (edges g d) dd) a a := by
  have up : ∀ {p q}, okP g st (spots g d) dd p q → okE g (spots g d) (edges g d) dd p q := fun {p q} h =>
    (ok_iff hi ho).2 ⟨(mem_st hst).1 h.1, h.2.2, .inl h.2.1⟩
  have down : ∀ {p q}, okE g (spots g d) (edges g d) dd p q → (p.2 ≠ 2 ∨ ¬ blk g dd p) → okP g st (spots g d) dd p q := fun {p q} h h2 => by
    obtain ⟨h3, h4, h5⟩ := (ok_iff hi ho).1 h
    refine ⟨(mem_st hst).2 h3, ?_, h4⟩
    rcases h2 with h2 | h2
    · exact h5.resolve_right h2
    · exact h2
  have blk_same : ∀ {p q : Pl}, p.1 = q.1 → (blk g dd p ↔ blk g dd q) := fun {p q} e => by unfold blk; rw [e]
  constructor
  · intro h
    have : ∀ b, Rch (okP g st (spots g d) dd) a b → Rch (okE g (spots g d) (edges g d) dd) a b := fun b h => by
      induction h with
      | one h => exact .one (up h)
      | step _ h2 ih => exact .step ih (up h2)
    exact this a h
  · intro h
    have key : ∀ b, Rch (okE g (spots g d) (edges g d) dd) a b → Rch (okP g st (spots g d) dd) a b ∨ (a.2 = 2 ∧ blk g dd a) := fun b h => by
      induction h with
      | one h =>
        by_cases h2 : a.2 = 2 ∧ blk g dd a
        · exact .inr h2
        · exact .inl (.one (down h (by
            by_cases h3 : a.2 = 2
            · exact .inr fun h4 => h2 ⟨h3, h4⟩
            · exact .inl h3)))
      | @step b c _ h2 ih =>
        rcases ih with ih | ih
        · refine .inl (.step ih (down h2 ?_))
          by_cases h3 : b.2 = 2
          · refine .inr fun h4 => ?_
            have hlast : ∃ p, okP g st (spots g d) dd p b := by cases ih with
              | one h => exact ⟨_, h⟩
              | step _ h => exact ⟨_, h⟩
            obtain ⟨p, hp⟩ := hlast
            obtain ⟨e, h5, h6, h7⟩ := (mem_st hst).1 hp.1
            have h8 := edge_out d ho h5 (by rw [h7]; exact h3)
            rw [h6, h7] at h8
            exact hp.2.1 ((blk_same h8.1).2 h4)
          · exact .inl h3
        · exact .inr ih
    rcases key a h with h2 | ⟨h2, h3⟩
    · exact h2
    · have hlast : ∃ p, okE g (spots g d) (edges g d) dd p a := by cases h with
        | one h => exact ⟨_, h⟩
        | step _ h => exact ⟨_, h⟩
      obtain ⟨p, hp⟩ := hlast
      obtain ⟨⟨e, h5, h6, h7⟩, _, h9⟩ := (ok_iff hi ho).1 hp
      have h8 := edge_out d ho h5 (by rw [h7]; exact h2)
      rw [h6, h7] at h8
      rcases h9 with h9 | h9
      · exact absurd ((blk_same h8.1).2 h3) h9
      · exact absurd h9 h8.2
theorem edges_len {g : List Nd} (ho : Own g) (hg : g.length ≤ 40) (d : List Int) : ∀ (m k : Nat), k + m = g.length → (edgesF g d k (g.drop k)).length ≤ 83 * m
  | 0, k, h => by rw [List.drop_eq_nil_of_le (by omega)]; exact Nat.le_refl 0
  | m + 1, k, h => by
    have hx : g[k]? = some g[k] := List.getElem?_eq_getElem (by omega)
    generalize g[k] = x at hx
    have h2 := in2 ho (List.mem_of_getElem? hx)
    have h3 := usesF_len x.1 g fun x hx => in2 ho hx
    have h4 := edges_len ho hg d m (k + 1) (by omega)
    rw [A.dropx hx, edgesF]
    split
    · omega
    · rw [List.length_append, List.length_append, inE_len, outE, List.length_map]; omega
theorem spots_port {g : List Nd} (ho : Own g) (d : List Int) : ∀ (k : Nat) (l : List Nd), (∀ n ∈ l, n ∈ g) → ∀ sp ∈ spotsF g d k l, 0 ≤ sp.1.2 ∧ sp.1.2 ≤ 2
  | _, [], _, _, h => by cases h
  | k, n :: r, hl, sp, h => by
    have h2 := in2 ho (hl n (List.mem_cons_self ..))
    unfold spotsF at h
    rcases List.mem_append.1 h with h | h
    · have := insS_at g d n.1 0 _ sp.1 sp.2 h; omega
    · rcases List.mem_append.1 h with h | h
      · unfold outS at h
        split at h
        · rw [List.mem_singleton] at h; subst h; simp
        · cases h
      · exact spots_port ho d (k + 1) r (fun x hx => hl x (List.mem_cons_of_mem _ hx)) sp h
/-- the program's search and the reference's, over all places -/
theorem turns_same (g : List Nd) (d : List Int) (a0 : (List (Int × Nd)) × (List Int) × (List (Int × Int))) (h0 : a0.1 = mapOf g) (hb : Few g) (hi : Inc g) (hfed : Fed g) (ho : Own g) (hib : InB d) (hr : RelD g d a0.2.2) (hd : d.length = g.length) :
    ∃ b, F.graph_plan_turns a0 g = some b ∧ ∀ r5 r9, F.R08_whole_l1 g r5 r9 (spots g d) (edges g d) A.FU 0 = some (if b = true then ([], [], 81) else (r5.1, r9.1, 0)) := by
  have hlen := hb.1
  have hS : (spots g d).length ≤ 120 := by
    have := spots_len ho d g.length 0 (by omega); rw [List.drop_zero] at this; unfold spots; omega
  have hE : (edges g d).length ≤ 4000 := by
    have := edges_len ho hlen d g.length 0 (by omega); rw [List.drop_zero] at this; unfold edges; omega
  have hN := nodup_S (d := d) hi ho
  have hok : ∀ sp ∈ spots g d, SpOk g sp := by
    have := spots_ok (d := d) (g := g) hib g.length 0 (by omega); rw [List.drop_zero] at this; exact this
  obtain ⟨st, hst, hl2⟩ := turns_l2 a0 (spots g d) (edges g d) hE
  have hto : ∀ p q, q ∈ Z.mget [] st p → q ∈ (edges g d).map fun e => e.2.1 := fun p q h => by
    obtain ⟨e, h1, _, h3⟩ := (mem_st hst).1 h
    exact List.mem_map.2 ⟨e, h1, h3⟩
  have htl : ∀ p, (Z.mget [] st p).length ≤ 4000 := fun p => by
    rw [hst]; unfold toOf; rw [List.length_map]
    exact Nat.le_trans (List.length_filter_le _ _) hE
  have hval : ∀ sp ∈ spots g d, ∃ b, F.graph_plan_reaches a0 st (spots g d) sp.1 sp.2 = some b ∧ F.R08_round g (spots g d) (edges g d) sp = some b := fun sp hsp => by
    obtain ⟨b, h1, h2⟩ := reaches_eq g a0 h0 st (spots g d) sp.1 sp.2 ((edges g d).map fun e => e.2.1) (by rw [List.length_map]; exact hE) hto htl (by rw [mget_mem hN (p := sp.1) (v := sp.2) hsp]; exact Int.le_refl _)
    obtain ⟨b', h3, h4⟩ := round_eq g (spots g d) (edges g d) sp hb hi (by omega) hE (fun e he => edge_from d he)
    refine ⟨b, h1, ?_⟩
    rw [h3]; congr 1
    rw [Bool.eq_iff_iff, h4, h2]
    exact (rch_iff hi ho hst).symm
  let p : Sp → Bool := fun sp => (F.graph_plan_reaches a0 st (spots g d) sp.1 sp.2).getD false
  refine ⟨(spots g d).any p, ?_, fun r5 r9 => ?_⟩
  · unfold F.graph_plan_turns
    rw [show F.graph_plan_spots (a0.1, a0.2.1, a0.2.2) g = _ from spotsP_eq g d a0 hb hfed ho hr, Option.bind_some, turns_l3 g a0 (spots g d) (edges g d) (by omega) hN (edgesP_eq g d a0 hb hfed ho hib hr), hl2]
    have := A.mrg_any (body := F.graph_plan_turns_b1 a0 (spots g d) st) (rest := some false) (y := true) (p := p) (l := spots g d) fun sp hsp => by
      obtain ⟨b, h1, _⟩ := hval sp hsp
      obtain ⟨⟨j, n, hn, hid⟩, hdd⟩ := hok sp hsp
      have hng := List.mem_of_getElem? hn
      have hids := own_id (ho n hng)
      have hport : 0 ≤ sp.1.2 ∧ sp.1.2 ≤ 2 := spots_port ho d 0 g (fun n hn => hn) sp hsp
      unfold F.graph_plan_turns_b1
      have hh : decide (IntKind.i64.has sp.1.1) = true ∧ decide (IntKind.i64.has sp.1.2) = true := ⟨decide_eq_true (Z.i64_has ⟨by omega, by omega⟩), decide_eq_true (Z.i64_has ⟨by omega, by omega⟩)⟩
      rw [A.gd1 hh, show F.graph_plan_reaches (a0.1, a0.2.1, a0.2.2) st (spots g d) (sp.1.1, sp.1.2) sp.2 = _ from h1, Option.bind_some, show p sp = b from congrArg (fun o => Option.getD o false) h1]
    rw [this]
    cases (spots g d).any p <;> rfl
  · have loop := A.lp0 (spots g d) (fun f y => F.R08_whole_l1 g r5 r9 (spots g d) (edges g d) f y) (fun _ t => some (if t.any p = true then ([], [], 81) else (r5.1, r9.1, 0)))
      (fun f => by rw [F.R08_whole_l1, if_neg (by omega)]; rfl)
      (fun f k x hx hk ih => by
        obtain ⟨b, h1, h2⟩ := hval x (List.mem_of_getElem? hx)
        rw [F.R08_whole_l1, if_pos (by omega), A.ixn hx, Option.bind_some, show F.R08_round g (spots g d) (edges g d) ((x.1.1, x.1.2), x.2) = _ from h2, Option.bind_some, List.any_cons, show p x = b from congrArg (fun o => Option.getD o false) h1]
        cases b with
        | true => rfl
        | false => rw [if_neg Bool.false_ne_true, A.gd1 (A.r64n (by omega)), ih, Bool.false_or])
      (by have := FU_big; omega)
    exact loop
/-! ### the whole -/
theorem own_of {g : List Nd} (h : okL g 0 0 g = true) : Own g := fun n hn => by
  obtain ⟨j, hj⟩ := List.mem_iff_getElem?.1 hn
  have hL := okL_iff g g.length 0 (by omega)
  rw [List.drop_zero, show lastOf g 0 = 0 from rfl] at hL
  have := hL.1 h j n (by omega) hj
  cases hq : ownQ n with
  | true => rfl
  | false => exact absurd (.inr (.inl hq)) this
theorem orderF_plc (g : List Nd) : ∀ (r : Nat) (done : List Bool) (l l' : List Int), orderF g r done l = some l' → Plc g l → Plc g l'
  | 0, done, l, l', h, hp => by injection h with h; subst h; exact hp
  | r + 1, done, l, l', h, hp => by
    rw [orderF] at h
    by_cases hc : firstF g done 0 g (-1) < 0
    · rw [if_pos hc] at h; cases h
    · rw [if_neg hc] at h
      by_cases hg : g.length = 0
      · have := firstF_le g done 0 g (-1) (by omega)
        have e : g = [] := List.eq_nil_of_length_eq_zero hg
        subst e
        simp [firstF] at hc
      · have hle := firstF_le g done 0 g (-1) (by omega) (by omega)
        refine orderF_plc g r _ _ l' h fun i p hip => ?_
        rw [List.getElem?_append] at hip
        split at hip
        · exact hp i p hip
        · rename_i hil
          have : i - l.length = 0 := by
            have := (List.getElem?_eq_some_iff.1 hip).1
            simp only [List.length_cons, List.length_nil] at this; omega
          rw [this] at hip
          injection hip with hip
          subst hip
          exact ⟨(firstF g done 0 g (-1)).toNat, g[(firstF g done 0 g (-1)).toNat]'(by omega), by omega, List.getElem?_eq_getElem (by omega)⟩
structure Whole (g : List Nd) (l d : List Int) (dm : List (Int × Int)) : Prop where
  inc : Inc g
  fed : Fed g
  own : Own g
  rel : RelD g d dm
  inb : InB d
  dlen : d.length = g.length
  key : KeyD g l dm
  plc : Plc g l
  llen : l.length = g.length
  ord : orderF g g.length (List.replicate g.length false) [] = some l
  dep : depthsF g l (List.replicate g.length 0) = some d
  lps : loopsF g d g = true
/-- the program's answer and the reference's -/
theorem whole_same (g : List Nd) (hb : Few g) :
    (∃ e, e ≠ 0 ∧ F.graph_whole g = some (none, e) ∧ F.R08_whole g = some ([], [], e)) ∨
    (∃ l d dm, F.graph_whole g = some (some (mapOf g, l.map (idAt g), dm), 0) ∧ F.R08_whole g = some (l, d, 0) ∧ Whole g l d dm) := by
  rw [whole_P g hb]
  unfold F.R08_whole
  rw [parts_eq g hb, ok_eq]
  by_cases h32 : (32 : Int) < (g.length : Int)
  · rw [if_pos h32, if_pos h32]
    exact .inl ⟨80, by decide, rfl, rfl⟩
  rw [if_neg h32, if_neg h32]
  by_cases hok : okR g 0 g = true
  case neg => rw [if_neg hok, if_neg hok]; exact .inl ⟨80, by decide, rfl, rfl⟩
  rw [if_pos hok, if_pos hok]
  by_cases hfn : g.all (fun n => decide (chk n.2.1 n.2.2.2.1 = 0)) = true
  case neg => rw [if_neg hfn, if_neg hfn]; exact .inl ⟨60, by decide, rfl, rfl⟩
  rw [if_pos hfn, if_pos hfn]
  by_cases hin : g.all (fun n => n.2.2.1.all (inOk g)) = true
  case neg => rw [if_neg hin, if_neg hin]; exact .inl ⟨80, by decide, rfl, rfl⟩
  rw [if_pos hin, if_pos hin, Option.bind_some, if_neg (by decide)]
  have hi := ok_inc hok
  have hfed := fed_of hin
  have ho := own_of (by rw [ok_eq]; exact hok)
  have hlen := hb.1
  unfold sortP
  rcases order_sort hb hi hfed (mapOf g) with ⟨l, h1, h2, h3, h4⟩ | ⟨h1, p, h2⟩
  case inr => rw [h1, h2]; exact .inl ⟨81, by decide, rfl, rfl⟩
  rw [h1, h2]
  simp only [Option.bind_some, Bool.not_true, Bool.false_eq_true, if_false]
  have hplc : Plc g l := orderF_plc g g.length _ [] l h4 fun i p h => by cases h
  rcases depths_same g l hb hi hfed ho (by omega) hplc with ⟨d, dm, d1, d2, d3, d4, d5, d6, d7, d8⟩ | ⟨d1, p, d2⟩
  case inr => rw [d1, d2]; exact .inl ⟨80, by decide, rfl, rfl⟩
  rw [d1, d2]
  simp only [Option.bind_some, Bool.not_true, Bool.false_eq_true, if_false]
  obtain ⟨b, t1, t2⟩ := turns_same g d (mapOf g, l.map (idAt g), dm) rfl hb hi hfed ho d4 d3 d5
  rw [t1, spotsR_eq g d hb hfed ho d5]
  simp only [Option.bind_some]
  rw [edgesR_eq g d hb hi ho d4]
  simp only [Option.bind_some, t2]
  cases b with
  | true => exact .inl ⟨81, by decide, rfl, rfl⟩
  | false => exact .inr ⟨l, d, dm, rfl, rfl, hi, hfed, ho, d3, d4, d5, d6, hplc, h3, h4, d8, d7⟩
end Go.Proofs.YtleiipbkfaajfaaDoor
end

section
set_option linter.unusedVariables false
set_option linter.unusedSimpArgs false
set_option synthInstance.maxSize 1000000
set_option synthInstance.maxHeartbeats 400000
namespace Go.Proofs.YtleiipbkfaajfaaDoor
open Go.RowKit Go.Graph
theorem begun_true : F.L08_begun = some true := by kernel_rfl
end Go.Proofs.YtleiipbkfaajfaaDoor
end

section
set_option linter.unusedVariables false
set_option linter.unusedSimpArgs false
set_option synthInstance.maxSize 1000000
set_option synthInstance.maxHeartbeats 400000
namespace Go.Proofs.YtleiipbkfaajfaaDoor
open Go.RowKit Go.Graph
/-! ### by name -/
def byName (k : Int) (s : ByteArray) : List Nd → Int × Bool
  | [] => (0, false)
  | n :: r => if n.2.1 = k ∧ n.2.2.2.2.1 = s then (n.1, true) else byName k s r
theorem Named_P (g : List Nd) (k : Int) (s : ByteArray) (hg : g.length ≤ 100) : F.graph_Named g k s = some (byName k s g) :=
  A.lp0 g (fun f y => F.graph_Named_l1 g k s f y) (fun _ l => some (byName k s l))
    (fun f => by rw [F.graph_Named_l1, if_neg (by omega)]; rfl)
    (fun f i x hx hk ih => by
      rw [F.graph_Named_l1, if_pos (by omega), A.ixn hx, Option.bind_some, A.ba, byName]
      by_cases h : x.2.1 = k ∧ x.2.2.2.2.1 = s
      · rw [if_pos (decide_eq_true h), if_pos h]
      · rw [if_neg (by rw [decide_eq_true_iff]; exact h), if_neg h, A.gd1 (A.r64n (by omega)), ih])
    (by have := FU_big; omega)
theorem Named_R (g : List Nd) (k : Int) (s : ByteArray) (hg : g.length ≤ 100) : F.R08_Named g k s = some (byName k s g) :=
  A.lp0 g (fun f y => F.R08_Named_l2 g k s f y) (fun _ l => some (byName k s l))
    (fun f => by rw [F.R08_Named_l2, if_neg (by omega)]; rfl)
    (fun f i x hx hk ih => by
      rw [F.R08_Named_l2, if_pos (by omega), A.ixn hx, Option.bind_some, Option.bind_some, byName]
      by_cases h : x.2.1 = k
      · rw [if_pos h, F.R08_Named_j1]
        by_cases h2 : x.2.2.2.2.1 = s
        · rw [if_pos (decide_eq_true h2), if_pos ⟨h, h2⟩, A.ixn hx, Option.bind_some]
        · rw [if_neg (by rw [decide_eq_true_iff]; exact h2), if_neg (fun e => h2 e.2), A.gd1 (A.r64n (by omega)), ih]
      · rw [if_neg h, F.R08_Named_j1, if_neg (by simp), if_neg (fun e => h e.1), A.gd1 (A.r64n (by omega)), ih])
    (by have := FU_big; omega)
/-! ### a clone, and the same -/
theorem clone_int (l : List Int) (h : l.length ≤ 5000) : F.slices_Clone_int_int l = some l := by
  unfold F.slices_Clone_int_int
  rw [A.gd1 (by simp only [List.length_nil]; omega)]; rfl
theorem set_same {α : Type} {l : List α} {k : Nat} {x : α} (h : l[k]? = some x) : l.set k x = l := by
  apply List.ext_getElem?
  intro i
  rw [List.getElem?_set]
  split
  · rename_i e; subst e; split
    · rw [h]
    · rename_i h2; rw [List.getElem?_eq_none (by omega)]
  · rfl
theorem Clone_eq (g : List Nd) (hg : g.length ≤ 100) (h : ∀ n ∈ g, n.2.2.1.length ≤ 5000) : F.graph_Clone g = some g := by
  unfold F.graph_Clone F.slices_Clone_api_Node_api_Node
  rw [A.gd1 (by simp only [List.length_nil]; omega), Option.bind_some]
  exact A.lp g (fun f (s : List Nd) y => F.graph_Clone_l1 g f s y) (fun _ _ s => some s) (fun _ s => s = g)
    (fun f s hs => by rw [F.graph_Clone_l1, if_neg (by omega)])
    (fun f s k x hx hk hs ih => by
      subst hs
      rw [F.graph_Clone_l1, if_pos (by omega), A.ixn hx, Option.bind_some, clone_int _ (h x (List.mem_of_getElem? hx)), Option.bind_some, Option.bind_some, A.gd1 (A.r64n (by omega))]
      rw [show (List.set s (k : Int).toNat (x.1, x.2.1, x.2.2.1, (x.2.2.2.1.1, x.2.2.2.1.2.1, x.2.2.2.1.2.2), x.2.2.2.2.1, x.2.2.2.2.2.1, x.2.2.2.2.2.2)) = s from by rw [Int.toNat_natCast]; exact set_same hx]
      exact ih s rfl)
    (by have := FU_big; omega) g rfl
theorem Same_refl (g : List Nd) (hg : g.length ≤ 100) (h : ∀ n ∈ g, n.2.2.1.length ≤ 5000) : F.R08_Same g g = some true := by
  unfold F.R08_Same
  rw [if_neg (fun e => e rfl)]
  refine A.lp0 g (fun f y => F.R08_Same_l4 g g f y) (fun _ _ => some true)
    (fun f => by rw [F.R08_Same_l4, if_neg (by omega)]) (fun f k x hx hk ih => ?_) (by have := FU_big; omega)
  rw [F.R08_Same_l4, if_pos (by omega), A.ixn hx, Option.bind_some, Option.bind_some, F.R08_Same_j3, if_neg (by simp), F.R08_Same_j2, if_neg (by simp)]
  have hin := h x (List.mem_of_getElem? hx)
  have inner := A.lp0 x.2.2.1 (fun f' y => F.R08_Same_l1 (F.R08_Same_l4 g g f) (k : Int) x.2.2.1 x.2.2.1 f' y) (fun _ _ => some true)
    (fun f' => by rw [F.R08_Same_l1, if_neg (by omega), A.gd1 (A.r64n (by omega)), ih])
    (fun f' i z hz hi ih' => by
      rw [F.R08_Same_l1, if_pos (by omega), A.ixn hz, Option.bind_some, Option.bind_some, if_neg (fun e => e rfl), A.gd1 (A.r64n (by omega)), ih'])
    (by have := FU_big; omega)
  exact inner
/-! ### by number -/
theorem IndexF_eq (g : List Nd) (id : Int) (hg : g.length ≤ 100) : F.slices_IndexFunc_api_Node_api_Node_graph_Find_1 g id = some (idx g id) :=
  A.lp0 g (fun f y => F.slices_IndexFunc_api_Node_api_Node_graph_Find_1_l1 g id f y) (fun k l => some (idxF id k l))
    (fun f => by rw [F.slices_IndexFunc_api_Node_api_Node_graph_Find_1_l1, if_neg (by omega)]; rfl)
    (fun f k x hx hk ih => by
      rw [F.slices_IndexFunc_api_Node_api_Node_graph_Find_1_l1, if_pos (by omega), A.ixn hx, Option.bind_some, F.graph_Find_1, Option.bind_some, idxF]
      by_cases h : x.1 = id
      · rw [if_pos (decide_eq_true h), if_pos h]
      · rw [if_neg (by rw [decide_eq_true_iff]; exact h), if_neg h, A.gd1 (A.r64n (by omega)), ih])
    (by have := FU_big; omega)
def z39 : Nd := (0, 0, [], (0, 0, ByteArray.mk #[]), ByteArray.mk #[], 0, 0)
theorem Find_same (g : List Nd) (id : Int) (hb : Few g) : ∃ n b, F.graph_Find g id = some (n, b) ∧ F.R08_Find g id = some (n, b) ∧ n.2.2.1.length ≤ 5000 := by
  have hlen := hb.1
  unfold F.graph_Find F.R08_Find
  rw [IndexF_eq g id (by omega), index_eq g id (by omega), Option.bind_some, Option.bind_some]
  rcases idx_cases z39 g id with ⟨e, _⟩ | ⟨j, n, e, hn, _⟩
  · rw [e]
    exact ⟨z39, false, rfl, rfl, by decide⟩
  · have hj : j < g.length := (List.getElem?_eq_some_iff.1 hn).1
    have hin := hb.in hn
    have hcut : List.drop (j : Int).toNat (List.take ((j : Int) + 1).toNat g) = [n] := by
      rw [Int.toNat_natCast, show ((j : Int) + 1).toNat = j + 1 by omega, List.take_add_one, hn, List.drop_append]
      simp only [List.length_take, Option.toList]
      rw [Nat.min_eq_left (by omega), Nat.sub_self, List.drop_of_length_le (by rw [List.length_take]; omega)]; rfl
    rw [e, if_neg (by omega), if_neg (by omega), A.gd1 (A.r64n (by omega)), A.gd1 (by omega), hcut, Clone_eq [n] (by simp) (by intro m hm; rw [List.mem_singleton] at hm; rw [hm]; exact hin), Option.bind_some, A.ixn hn, Option.bind_some, A.gd1 (by simp only [List.length_nil]; omega)]
    exact ⟨n, true, rfl, rfl, hin⟩
end Go.Proofs.YtleiipbkfaajfaaDoor
end

section
set_option linter.unusedVariables false
set_option linter.unusedSimpArgs false
set_option synthInstance.maxSize 1000000
set_option synthInstance.maxHeartbeats 400000
namespace Go.Proofs.YtleiipbkfaajfaaDoor
open Go.RowKit Go.Graph
/-! ### in order stands each node -/
theorem firstF_new (g : List Nd) (done : List Bool) : ∀ (r : List Nd) (i : Nat) (a : Int), 0 ≤ firstF g done i r a → (0 ≤ a ∧ firstF g done i r a = a) ∨ (∃ j : Nat, firstF g done i r a = (j : Int) ∧ j < i + r.length ∧ bget done (j : Int) = false)
  | [], i, a, h => .inl ⟨h, rfl⟩
  | x :: r, i, a, h => by
    unfold firstF at h ⊢
    rcases firstF_new g done r (i + 1) _ h with ⟨h1, h2⟩ | ⟨j, h1, h2, h3⟩
    · by_cases hc : (a < 0 ∧ bget done i = false) ∧ ready g done x = true
      · rw [if_pos hc] at h2 ⊢
        exact .inr ⟨i, h2, by simp only [List.length_cons]; omega, hc.1.2⟩
      · rw [if_neg hc] at h1 h2 ⊢
        exact .inl ⟨h1, h2⟩
    · exact .inr ⟨j, h1, by simp only [List.length_cons]; omega, h3⟩
theorem bget_set (l : List Bool) (j k : Nat) (hj : j < l.length) : bget (l.set j true) (k : Int) = if j = k then true else bget l (k : Int) := by
  unfold bget
  rw [Int.toNat_natCast, List.getElem?_set]
  by_cases h : j = k
  · subst h; simp [hj]
  · rw [if_neg h, if_neg h]
theorem order_nodup (g : List Nd) : ∀ (r : Nat) (done : List Bool) (acc l : List Int), orderF g r done acc = some l → done.length = g.length → acc.Nodup → (∀ p ∈ acc, ∃ j : Nat, p = (j : Int) ∧ bget done (j : Int) = true) → l.Nodup
  | 0, done, acc, l, h, _, hn, _ => by unfold orderF at h; injection h with h; subst h; exact hn
  | r + 1, done, acc, l, h, hd, hn, ha => by
    unfold orderF at h
    split at h
    · cases h
    · rename_i h0
      rcases firstF_new g done g 0 (-1) (by omega) with ⟨h1, _⟩ | ⟨j, h1, h2, h3⟩
      · omega
      · rw [h1, Int.toNat_natCast] at h
        refine order_nodup g r _ _ l h (by rw [List.length_set]; exact hd) ?_ fun p hp => ?_
        · rw [List.nodup_append]
          refine ⟨hn, by simp, fun a ha' b hb => ?_⟩
          rw [List.mem_singleton] at hb
          obtain ⟨i, e, hi⟩ := ha a ha'
          intro e2
          rw [e, hb] at e2
          have : i = j := by omega
          subst this
          rw [hi] at h3; cases h3
        · rcases List.mem_append.1 hp with hp | hp
          · obtain ⟨i, e, hi⟩ := ha p hp
            exact ⟨i, e, by rw [bget_set _ _ _ (by omega)]; split <;> first | rfl | exact hi⟩
          · rw [List.mem_singleton] at hp
            exact ⟨j, hp, by rw [bget_set _ _ _ (by omega), if_pos rfl]⟩
theorem Whole.all {g : List Nd} {l d : List Int} {dm : List (Int × Int)} (W : Whole g l d dm) {j : Nat} (hj : j < g.length) : (j : Int) ∈ l := by
  have hn := order_nodup g _ _ [] l W.ord (by simp) (by simp) (by simp)
  by_cases h : (j : Int) ∈ l
  · exact h
  · exfalso
    have hm := nodup_len (l := (j : Int) :: l) (m := (List.range g.length).map Int.ofNat) (List.nodup_cons.2 ⟨h, hn⟩) fun x hx => by
      rcases List.mem_cons.1 hx with rfl | hx
      · exact List.mem_map.2 ⟨j, List.mem_range.2 hj, rfl⟩
      · obtain ⟨i, hi, e⟩ := List.getElem_of_mem hx
        obtain ⟨k, n, e2, hk⟩ := W.plc i x (by rw [List.getElem?_eq_getElem hi, e])
        exact List.mem_map.2 ⟨k, List.mem_range.2 (List.getElem?_eq_some_iff.1 hk).1, e2.symm⟩
    rw [List.length_cons, List.length_map, List.length_range, W.llen] at hm
    omega
theorem Depth_same (g : List Nd) (id : Int) (hb : Few g) : ∃ x e, F.graph_Depth g id = some (x, e) ∧ F.R08_Depth g id = some (x, e) := by
  have hlen := hb.1
  unfold F.graph_Depth F.R08_Depth
  rcases whole_same g hb with ⟨e, h0, h1, h2⟩ | ⟨l, d, dm, h1, h2, W⟩
  · rw [h1, h2]
    simp only [Option.bind_some, A.om]
    rw [if_pos h0, if_pos h0]
    exact ⟨0, e, rfl, rfl⟩
  · rw [h1, h2]
    simp only [Option.bind_some, A.om, A.lt, ne_eq, not_true_eq_false, if_false]
    rw [index_eq g id (by omega), Option.bind_some, W.key id]
    by_cases h : idx g id < 0
    · have ha : (l.any fun p => decide (idAt g p = id)) = false := by
        rw [List.any_eq_false]
        intro p hp
        obtain ⟨i, hi, e⟩ := List.getElem_of_mem hp
        obtain ⟨k, n, e2, hk⟩ := W.plc i p (by rw [List.getElem?_eq_getElem hi, e])
        intro e3
        have e4 : n.1 = id := by
          have := of_decide_eq_true e3
          unfold idAt at this; rw [at_some e2 hk] at this; exact this
        have := W.inc.idx hk
        rw [e4] at this
        omega
      rw [ha, if_pos h]
      exact ⟨0, 4, rfl, rfl⟩
    · have h0 : 0 ≤ idx g id := by omega
      obtain ⟨n, e1, e2, e3⟩ := idx_get h0
      have hlt := (List.getElem?_eq_some_iff.1 e1).1
      have ha : (l.any fun p => decide (idAt g p = id)) = true := by
        rw [List.any_eq_true]
        refine ⟨idx g id, ?_, decide_eq_true (by unfold idAt; rw [e2, e3])⟩
        have := W.all hlt
        rw [Int.toNat_of_nonneg h0] at this
        exact this
      rw [ha, if_neg h, W.rel.in h0, iix h0 (by rw [W.dlen]; omega), Option.bind_some]
      exact ⟨_, 0, rfl, rfl⟩
/-! ### whom a node feeds -/
theorem Users_l2 (g : List Nd) (id : Int) (k4 : List Pl → Int → Option (List Pl)) (k : Nat) (n : Nd) (xs : List Pl) (hk : g[k]? = some n) (hg : g.length ≤ 100) (h2 : n.2.2.1.length ≤ 2) (hx : xs.length ≤ 1000) :
    F.R08_Users_l2 k4 g id (k : Int) A.FU xs 0 = k4 (xs ++ useN id n.1 0 n.2.2.1) ((k : Int) + 1) := by
  have hkl := (List.getElem?_eq_some_iff.1 hk).1
  exact A.lp n.2.2.1 (fun f (s : List Pl) y => F.R08_Users_l2 k4 g id (k : Int) f s y) (fun i l s => k4 (s ++ useN id n.1 i l) ((k : Int) + 1)) (fun i s => s.length ≤ 1000 + i)
    (fun f s hs => by rw [F.R08_Users_l2, A.ixn hk, Option.bind_some, if_neg (by omega), A.gd1 (A.r64n (by omega)), useN, List.append_nil])
    (fun f s i z hz hi hs ih => by
      rw [F.R08_Users_l2, A.ixn hk, Option.bind_some, if_pos (by omega), Option.bind_some, A.ixn hz, Option.bind_some, useN]
      by_cases h : z = id
      · rw [if_pos h, if_pos h, Option.bind_some, A.gd1 (by simp only [List.length_cons, List.length_nil]; omega), F.R08_Users_j1, A.gd1 (A.r64n (by omega)), ih _ (by simp only [List.length_append, List.length_cons, List.length_nil]; omega), List.append_assoc]; rfl
      · rw [if_neg h, if_neg h, F.R08_Users_j1, A.gd1 (A.r64n (by omega)), ih _ (by omega)])
    (by have := FU_big; omega) xs (by omega)
theorem usesF_le2 (id : Int) : ∀ (l : List Nd), (∀ n ∈ l, n.2.2.1.length ≤ 2) → (usesF id l).length ≤ 2 * l.length
  | [], _ => by simp [usesF]
  | n :: r, h => by
    have h1 := useN_len id n.1 0 n.2.2.1
    have h2 := h n (List.mem_cons_self ..)
    have h3 := usesF_le2 id r fun m hm => h m (List.mem_cons_of_mem _ hm)
    simp only [usesF, List.length_append, List.length_cons]; omega
theorem Users_l3 (g : List Nd) (id : Int) (hg : g.length ≤ 100) (h2 : ∀ n ∈ g, n.2.2.1.length ≤ 2) : F.R08_Users_l3 g id A.FU [] 0 = some (usesF id g) := by
  have := A.lp g (fun f (s : List Pl) y => F.R08_Users_l3 g id f s y) (fun _ l s => some (s ++ usesF id l)) (fun k s => s.length ≤ 2 * k)
    (fun f s hs => by rw [F.R08_Users_l3, if_neg (by omega), usesF, List.append_nil])
    (fun f s k n hn hk hs ih => by
      have h3 := h2 n (List.mem_of_getElem? hn)
      have h4 := useN_len id n.1 0 n.2.2.1
      rw [F.R08_Users_l3, if_pos (by omega), Users_l2 g id _ k n s hn hg h3 (by omega), ih _ (by rw [List.length_append]; omega), usesF, List.append_assoc])
    (by have := FU_big; omega) [] (by simp)
  simpa using this
/-- both tell the same places -/
theorem Users_same (g : List Nd) (id : Int) (hb : Few g) : ∃ l, F.graph_Users g id = some l ∧ F.R08_Users g id = some l ∧ l.length ≤ 200 := by
  have hlen := hb.1
  unfold F.graph_Users F.R08_Users F.graph_Check F.R08_Check
  rcases whole_same g hb with ⟨e, h0, h1, h2⟩ | ⟨l, d, dm, h1, h2, W⟩
  · rw [h1, h2]
    simp only [Option.bind_some, A.om]
    rw [if_pos h0, if_pos h0]
    exact ⟨[], rfl, rfl, by simp⟩
  · rw [h1, h2]
    have h3 : ∀ n ∈ g, n.2.2.1.length ≤ 2 := fun n hn => in2 W.own hn
    simp only [Option.bind_some, A.om, ne_eq, not_true_eq_false, if_false]
    rw [users_eq g id hb h3, Option.bind_some, Users_l3 g id (by omega) h3]
    exact ⟨usesF id g, rfl, rfl, by have := usesF_le2 id g h3; omega⟩
/-! ### told -/
theorem it_eq (l : List Pl) (hl : l.length ≤ 1000) : F.slices_Values_api_Place_api_Place_1_it l = some l :=
  A.lp0 l (fun f y => F.slices_Values_api_Place_api_Place_1_it_l1 l f y) (fun _ r => some r)
    (fun f => by rw [F.slices_Values_api_Place_api_Place_1_it_l1, if_neg (by omega)])
    (fun f k x hx hk ih => by rw [F.slices_Values_api_Place_api_Place_1_it_l1, if_pos (by omega), A.ixn hx, Option.bind_some, A.gd1 (A.r64n (by omega)), ih]; rfl)
    (by have := FU_big; omega)
theorem told_l1 (m : Nat) : ∀ (r s : List Pl), s.length + r.length ≤ 1000 → F.L08_told_slices_Values_api_Place_api_Place_1_l1 (m : Int) r s = some (s ++ r.take (m - s.length))
  | [], s, _ => by rw [F.L08_told_slices_Values_api_Place_api_Place_1_l1]; simp
  | x :: r, s, h => by
    simp only [List.length_cons] at h
    rw [F.L08_told_slices_Values_api_Place_api_Place_1_l1]
    by_cases hm : (m : Int) ≤ (s.length : Int)
    · rw [if_pos hm, show m - s.length = 0 by omega]; simp
    · rw [if_neg hm, A.gd1 (by simp only [List.length_cons, List.length_nil]; omega), told_l1 m r _ (by simp only [List.length_append, List.length_cons, List.length_nil]; omega)]
      rw [show m - s.length = (m - (s ++ [(x.1, x.2)]).length) + 1 by simp only [List.length_append, List.length_cons, List.length_nil]; omega, List.take_succ_cons, List.append_assoc]
      rfl
theorem told_eq (l : List Pl) (m : Nat) (hl : l.length ≤ 1000) : F.L08_told_slices_Values_api_Place_api_Place_1 l (m : Int) = some (l.take m) := by
  unfold F.L08_told_slices_Values_api_Place_api_Place_1
  rw [it_eq l hl, Option.bind_some, told_l1 m l [] (by simpa using hl)]
  simp
theorem EqualP_refl (l : List Pl) (hl : l.length ≤ 1000) : F.slices_Equal_api_Place_api_Place l l = some true := by
  unfold F.slices_Equal_api_Place_api_Place
  rw [if_neg (fun h => h rfl)]
  exact A.lp0 l (fun f y => F.slices_Equal_api_Place_api_Place_l1 l l f y) (fun _ _ => some true)
    (fun f => by rw [F.slices_Equal_api_Place_api_Place_l1, if_neg (by omega)])
    (fun f k x hx hk ih => by rw [F.slices_Equal_api_Place_api_Place_l1, if_pos (by omega), A.ixn hx, Option.bind_some, Option.bind_some, if_neg (fun h => h rfl), A.gd1 (A.r64n (by omega)), ih])
    (by have := FU_big; omega)
theorem graphFinds_plain (g : List Nd) (id k : Int) (s : ByteArray) (m : UInt8) (hg : (Z.Ty.slice T39).ok g) (hid : IntKind.i64.has id) (hk : IntKind.i64.has k) (hs : s.size ≤ maxLen) (_ : True) : F.L08_GraphFinds g id k s m = some true := by
  obtain ⟨b, hf, hb⟩ := few_eq g
  unfold F.L08_GraphFinds F.L08_GraphFinds_j2 F.L08_GraphFinds_j1
  rw [begun_true, Option.bind_some, hf]
  simp only [Bool.not_true, Bool.false_eq_true, if_false, Option.bind_some]
  cases b with
  | false => rfl
  | true =>
    have hb := hb rfl
    have hlen := hb.1
    obtain ⟨n, is, a1, a2, a3⟩ := Find_same g id hb
    obtain ⟨x, e, c1, c2⟩ := Depth_same g id hb
    obtain ⟨l, u1, u2, u3⟩ := Users_same g id hb
    have hm := m.toNat_lt
    have htake : (min (l.length : Int) (m.toNat : Int)).toNat = min l.length m.toNat := by omega
    have hS : F.R08_Same [n] [n] = some true := Same_refl [n] (by simp) (by intro q hq; rw [List.mem_singleton] at hq; rw [hq]; exact a3)
    have h999 : F.L08_told_slices_Values_api_Place_api_Place_1 l 999 = some l := by
      have := told_eq l 999 (by omega)
      rw [List.take_of_length_le (by omega)] at this; exact this
    rw [a1, a2, Named_P g k s (by omega), Named_R g k s (by omega), c1, c2, u1, u2]
    simp only [Bool.not_true, Bool.false_eq_true, if_false, Option.bind_some]
    rw [show F.R08_Same [(n.1, n.2.1, n.2.2.1, (n.2.2.2.1.1, n.2.2.2.1.2.1, n.2.2.2.1.2.2), n.2.2.2.2.1, n.2.2.2.2.2.1, n.2.2.2.2.2.2)] [(n.1, n.2.1, n.2.2.1, (n.2.2.2.1.1, n.2.2.2.1.2.1, n.2.2.2.1.2.2), n.2.2.2.2.1, n.2.2.2.2.2.1, n.2.2.2.2.2.2)] = some true from hS, Option.bind_some]
    simp only [beq_self_eq_true, decide_true, cond_true, if_true, h999, Option.bind_some, EqualP_refl l (by omega)]
    rw [A.gd1 ⟨⟨by omega, by omega⟩, ⟨by omega, by omega⟩⟩, A.gd1 (by rw [htake]; omega), told_eq l m.toNat (by omega), Option.bind_some, htake]
    rw [show List.take (min l.length m.toNat) l = List.take m.toNat l from by
      by_cases h : m.toNat ≤ l.length
      · rw [Nat.min_eq_right h]
      · rw [Nat.min_eq_left (by omega), List.take_of_length_le (Nat.le_refl _), List.take_of_length_le (by omega)]]
    rw [EqualP_refl _ (by rw [List.length_take]; omega)]; rfl
end Go.Proofs.YtleiipbkfaajfaaDoor
end

section
namespace Go.Z
open Go.RowKit
/-- whatever is trodden as a T reads as a t -/
def OpenT (P : Program) (T : TypeId) (t : Ty) : Prop :=
  P.cellsOf T = t.size ∧ ∀ (H : Type) (enc : TypeId × Value → H) (w : World) (base : Nat) (spare : Nat → Bool) (held : Bool) (fuel : Nat) (cs : List Value) (x : DataW H × List MemPlace),
    DataW.trod enc P w base spare held fuel T cs = some x → ∃ y : t.den, t.rep w (nt []) cs y
section
variable {P : Program} {T e : TypeId}
theorem ot_int {k : IntKind} (hc : P.cellsOf T = 1) (ht : P.underlying T = some (.int k)) : OpenT P T (.int k) := ⟨hc, fun H enc w base spare held fuel cs x h => by
  obtain ⟨n, rfl, _, hw⟩ := DataW.trod_int ht h
  refine ⟨n, rfl, ?_⟩
  simp only [Lit.wf, Bool.and_eq_true, decide_eq_true_eq] at hw
  exact hw⟩
theorem ot_byte (hc : P.cellsOf T = 1) (ht : P.underlying T = some (.int .u8)) : OpenT P T .byte := ⟨hc, fun H enc w base spare held fuel cs x h => by
  obtain ⟨n, rfl, _, hw⟩ := DataW.trod_int ht h
  simp [Lit.wf, IntKind.min, IntKind.max, IntKind.signed, IntKind.bits] at hw
  exact ⟨UInt8.ofNat n.toNat, congrArg (fun z => [Value.int .u8 z]) (u8_of (by omega))⟩⟩
theorem ot_str (hc : P.cellsOf T = 1) (ht : P.underlying T = some .string) : OpenT P T .str := ⟨hc, fun H enc w base spare held fuel cs x h => by
  obtain ⟨s, rfl, _, hs⟩ := DataW.trod_string ht h
  exact ⟨s, rfl, hs⟩⟩

/-- parts of a struct or of an array, in a row -/
def OpenPs (P : Program) : List (TypeId × Nat) → Nat → Ty → Prop
  | [], _, _ => False
  | [(T, o')], o, t => o' = o ∧ OpenT P T t
  | (T, o') :: p :: ps, o, .pair a b => o' = o ∧ OpenT P T a ∧ OpenPs P (p :: ps) (o + a.size) b
  | _ :: _ :: _, _, _ => False
theorem open_ps {H : Type} {enc : TypeId × Value → H} {w : World} {base : Nat} {spare : Nat → Bool} {held : Bool} {fuel : Nat} {cs : List Value} :
    ∀ (ps : List (TypeId × Nat)) (o : Nat) (t : Ty), OpenPs P ps o t → (∀ p ∈ ps, ∃ x, DataW.trod enc P w base spare held fuel p.1 ((cs.drop p.2).take (P.cellsOf p.1)) = some x) → ∃ y : t.den, t.rep w (nt []) ((cs.drop o).take t.size) y
  | [], _, _, h, _ => h.elim
  | [(T, o')], o, t, h, hx => by
    obtain ⟨rfl, ⟨hc, ho⟩⟩ := h
    obtain ⟨x, hx⟩ := hx (T, o') (List.mem_singleton.2 rfl)
    rw [← hc]; exact ho _ _ _ _ _ _ _ _ _ hx
  | (T, o') :: p :: ps, o, .pair a b, h, hx => by
    obtain ⟨rfl, ⟨hc, ho⟩, hr⟩ := h
    obtain ⟨x, h1⟩ := hx (T, o') (List.mem_cons_self ..)
    obtain ⟨ya, hya⟩ := ho _ _ _ _ _ _ _ _ _ h1
    obtain ⟨yb, hyb⟩ := open_ps (p :: ps) _ b hr fun q hq => hx q (List.mem_cons_of_mem _ hq)
    refine ⟨(ya, yb), _, _, ?_, hya, hyb⟩
    show (cs.drop o').take (a.size + b.size) = _
    rw [hc, List.take_add, List.drop_drop]
  | _ :: _ :: _, _, .int _, h, _ => h.elim
  | _ :: _ :: _, _, .byte, h, _ => h.elim
  | _ :: _ :: _, _, .bool, h, _ => h.elim
  | _ :: _ :: _, _, .str, h, _ => h.elim
  | _ :: _ :: _, _, .slice _, h, _ => h.elim
theorem ot_struct {fs : List Field} {t : Ty} (hc : P.cellsOf T = t.size) (ht : P.underlying T = some (.struct fs.toArray)) (h : OpenPs P (fs.map fun f => (f.type, f.offset)) 0 t) : OpenT P T t := ⟨hc, fun H enc w base spare held fuel cs x hx => by
  obtain ⟨xs, n, _, _, hl, hs, hf⟩ := DataW.trod_struct ht hx
  have hcs : cs = (cs.drop 0).take t.size := by rw [List.drop_zero, List.take_of_length_le (by omega)]
  rw [hcs]
  refine open_ps (fuel := n) (enc := enc) (base := base) (spare := spare) (held := held) _ 0 t h fun p hp => ?_
  obtain ⟨f, hf1, rfl⟩ := List.mem_map.1 hp
  obtain ⟨i, hi, he⟩ := List.getElem_of_mem hf1
  have h1 := hf i f (by rw [List.getElem?_toArray, List.getElem?_eq_getElem hi, he])
  rw [h1, List.getElem?_eq_getElem (by rw [hs]; simpa using hi)]
  exact ⟨_, rfl⟩⟩
/-- rows of elements -/
theorem rows_of {t : Ty} {w : World} {g : Addr} : ∀ (n : Nat), (∀ i, i < n → ∃ (cs : List Value) (y : t.den), cs.length = t.size ∧ (∀ j u, cs[j]? = some u → w.cell? (g.add (i * t.size + j)) = some u) ∧ t.rep w (nt []) cs y) →
    ∃ (cells : List Value) (ys : List t.den), ys.length = n ∧ cells.length = n * t.size ∧ (∀ j u, cells[j]? = some u → w.cell? (g.add j) = some u) ∧ ∀ (i : Nat) (y : t.den), ys[i]? = some y → t.rep w (nt []) ((cells.drop (i * t.size)).take t.size) y
  | 0, _ => ⟨[], [], rfl, by simp, by simp, by simp⟩
  | n + 1, h => by
    obtain ⟨cells, ys, h1, h2, h3, h4⟩ := rows_of n fun i hi => h i (by omega)
    obtain ⟨cs, y, c1, c2, c3⟩ := h n (by omega)
    refine ⟨cells ++ cs, ys ++ [y], by simp [h1], by rw [List.length_append, h2, c1, Nat.succ_mul], fun j u hj => ?_, ?_⟩
    · by_cases hlt : j < cells.length
      · rw [List.getElem?_append_left hlt] at hj; exact h3 j u hj
      · rw [List.getElem?_append_right (by omega)] at hj
        have := c2 _ u hj
        rwa [h2, show n * t.size + (j - n * t.size) = j by omega] at this
    · refine rep_append (xs := ys) (ys := [y]) (by rw [h2, h1]) h4 fun i y' hi => ?_
      have : i = 0 := by have := (List.getElem?_eq_some_iff.1 hi).1; simp at this; omega
      subst this
      simp at hi; subst hi
      rw [Nat.zero_mul, List.drop_zero, List.take_of_length_le (by omega)]; exact c3
theorem ot_slice {t : Ty} (hc : P.cellsOf T = 1) (ht : P.underlying T = some (.slice e)) (h : OpenT P e t) : OpenT P T (.slice t) := ⟨hc, fun H enc w base spare held fuel cs x hx => by
  rcases DataW.trod_slice ht hx with ⟨rfl, _⟩ | ⟨ad, len, cap, elems, rest, n, _, rfl, _, hb, hl, hm, hlen, hel, _, _⟩
  · exact ⟨[], rep_nil _⟩
  · have each : ∀ i, i < len → ∃ (cs : List Value) (y : t.den), cs.length = t.size ∧ (∀ j u, cs[j]? = some u → w.cell? (ad.add (i * t.size + j)) = some u) ∧ t.rep w (nt []) cs y := fun i hi => by
      have h1 := hel i hi
      rw [List.getElem?_eq_getElem (by omega), Option.bind_eq_some_iff] at h1
      obtain ⟨cs', h2, h3⟩ := h1
      obtain ⟨_, h4, h5⟩ := World.cells?_some h2
      obtain ⟨y, hy⟩ := h.2 _ _ _ _ _ _ _ _ _ h3
      rw [h.1] at h4 h5
      refine ⟨cs', y, h4, fun j u hj => ?_, hy⟩
      have hlt := (List.getElem?_eq_some_iff.1 hj).1
      have := h5 j (by omega)
      rw [add_add] at this
      rw [this, hj]
    obtain ⟨cells, ys, h1, h2, h3, h4⟩ := rows_of len each
    by_cases hz : len = 0
    · subst hz
      have : ys = [] := List.eq_nil_of_length_eq_zero h1
      subst this
      exact ⟨[], some ad, cap, [], rfl, by simp, hm, by simp, .inl rfl, by simp⟩
    · have hp := pos_size t
      have hlt : 0 < cells.length := by rw [h2]; exact Nat.mul_pos (by omega) hp
      have h0 := h3 0 _ (List.getElem?_eq_getElem hlt)
      have hspot := World.cell?_spot h0
      obtain ⟨b, off, spot⟩ := ad
      simp only [Addr.add] at hspot
      subst hspot
      refine ⟨ys, some ⟨b, off, none⟩, cap, cells, by rw [h1], by omega, hm, by rw [h1]; exact h2, .inr ⟨b, off, rfl, by simp [nt], fun j u hj => ?_⟩, h4⟩
      have := h3 j u hj
      rwa [Addr.add_lit] at this⟩
end
end Go.Z
end

section
namespace Go.Proofs.YtleiipbkfaajfaaDoor.graphFindsDone
open Go.ChangeShapes Go.WideShapes Go.ChangeAt Go.RowKit
set_option linter.unusedVariables false
theorem own : ownKnob Tryd.prog.godebug = none := by kernel_rfl
theorem laidOut : laidOutB Tryd.prog = true := by kernel_rfl
theorem ot3 : Z.OpenT Tryd.prog 3 (Z.Ty.int .i64) := Z.ot_int (by kernel_rfl) Tryd.underlying3
theorem ot27 : Z.OpenT Tryd.prog 27 (Z.Ty.slice (Z.Ty.int .i64)) := Z.ot_slice (by kernel_rfl) Tryd.underlying27 ot3
theorem ot2 : Z.OpenT Tryd.prog 2 (Z.Ty.int .i64) := Z.ot_int (by kernel_rfl) Tryd.underlying2
theorem ot9 : Z.OpenT Tryd.prog 9 Z.Ty.str := Z.ot_str (by kernel_rfl) Tryd.underlying9
theorem ot38 : Z.OpenT Tryd.prog 38 T37 := Z.ot_struct (by kernel_rfl) Tryd.underlying38 ⟨rfl, ot3, rfl, ot2, rfl, ot9⟩
theorem ot40 : Z.OpenT Tryd.prog 40 T39 := Z.ot_struct (by kernel_rfl) Tryd.underlying40 ⟨rfl, ot3, rfl, ot3, rfl, ot27, rfl, ot38, rfl, ot9, rfl, ot2, rfl, ot3⟩
theorem ot22 : Z.OpenT Tryd.prog 22 (Z.Ty.slice T39) := Z.ot_slice (by kernel_rfl) Tryd.underlying22 ot40
theorem ot24 : Z.OpenT Tryd.prog 24 T23 := Z.ot_struct (by kernel_rfl) Tryd.underlying24 ⟨rfl, ot22⟩
theorem ot5 : Z.OpenT Tryd.prog 5 Z.Ty.byte := Z.ot_byte (by kernel_rfl) Tryd.underlying5
set_option maxRecDepth 100000 in
theorem laid_met (os : Os) (args : Array Value) : laidMetH Tryd.prog Rows.graphFindsRow.laid (({ World.holding Tryd.prog os ⟨#[], #[], []⟩ with heap := ((World.holding Tryd.prog os ⟨#[], #[], []⟩).heap.modify 0 (A.putCells A.tabF)).modify 1 (A.putCells A.tabA) } : World).forCall (fun _ _ => 0) ⟨#[], args, []⟩).memory := by
  rw [MakeChecks.laidMetH_plain _ _ _ (by kernel_rfl)]
  exact (LaidIn.of_run (l := Rows.graphFindsRow.laid) [1, 0] 8 (by kernel_rfl) (by kernel_rfl) (by kernel_rfl) (by kernel_rfl)).met
theorem of_laid {W : World} (h : laidMetH Tryd.prog Rows.graphFindsRow.laid W) : Lib.Utf8Tabs 0 1 W := by
  rw [MakeChecks.laidMetH_plain _ _ _ (by kernel_rfl)] at h
  have h1 := Lib.laidMet.reads h (.tail _ (.head _))
  rw [show Rows.laid_unicode_utf8_first = Lib.firstData from Pinned.utf8First_eq] at h1
  have h2 := Lib.laidMet.reads h (.head _)
  rw [show (Rows.laid_unicode_utf8_acceptRanges : DataW Unit) = Lib.acceptData by kernel_rfl] at h2
  exact utf8Tabs_of_readsT (U8Types.of196 Tryd.laysValid) ⟨by kernel_rfl, by kernel_rfl, by kernel_rfl, by kernel_rfl, by kernel_rfl, by kernel_rfl, by kernel_rfl⟩ h1 h2
set_option maxHeartbeats 1000000 in
set_option maxRecDepth 100000 in
theorem lifted (os : Os) (started : os.Started) (H : Type) (enc : TypeId × Value → H) :
    ReturnsInHanded {} Tryd.checked os 6 .any (fun w args => (Rows.graphFindsSpec.pre enc Tryd.prog Tryd.f6 [] false w args ∧ laidMetH Tryd.prog Rows.graphFindsRow.laid w) ∧ sizedMet enc Tryd.prog Tryd.f6 (OpenSpec.ofChange Rows.graphFindsSpec) false w args) (Rows.graphFindsSpec.post enc Tryd.prog Tryd.f6 false true false false) := by
  refine returnsInHanded_of_change_and (C := Tryd.checked) (X := fun w _ => laidMetH Tryd.prog Rows.graphFindsRow.laid w) (fun _ _ _ hh h => h.of_heap hh) own started (by kernel_rfl) Tryd.func6
    (ChangeSpec.witness_shaped (enc := enc) (C := Tryd.checked) (os := os) (X := fun w _ => laidMetH Tryd.prog Rows.graphFindsRow.laid w) false ({ World.holding Tryd.prog os ⟨#[], #[], []⟩ with heap := ((World.holding Tryd.prog os ⟨#[], #[], []⟩).heap.modify 0 (A.putCells A.tabF)).modify 1 (A.putCells A.tabA) }) #[.agg #[.slice none 0 0], .int .i64 0, .int .i64 0, .string (ByteArray.mk #[]), .int .u8 0] 16 rfl (World.shaped_of_RefB (by kernel_rfl) (by kernel_rfl)) (by kernel_rfl) (by kernel_rfl) (by kernel_rfl) (laid_met os _)) ?_
  intro W base args ds gs before hval0 hW hcnd _ hL _
  have hval : ∀ (j : Nat) t v, Tryd.f6.params[j]? = some t → args[j]? = some v → Value.okWide Tryd.prog W .any base t v := hval0
  have hW' := hW
  obtain ⟨p, q, hA0, hV, rfl, hfz, hnd⟩ := hW
  have hA : DataW.TrodAll enc Tryd.prog W 0 (fun _ => true) true Tryd.f6.params.toList args.toList ds p := hA0
  rw [Tryd.params6] at hA hval
  obtain ⟨v0, vs0, d0, ds0, p0, q0, hargs, rfl, rfl, h0, r0⟩ := trodAll_cons hA
  obtain ⟨v1, vs1, d1, ds1, p1, q1, rfl, rfl, rfl, h1, r1⟩ := trodAll_cons r0
  obtain ⟨v2, vs2, d2, ds2, p2, q2, rfl, rfl, rfl, h2, r2⟩ := trodAll_cons r1
  obtain ⟨v3, vs3, d3, ds3, p3, q3, rfl, rfl, rfl, h3, r3⟩ := trodAll_cons r2
  obtain ⟨v4, vs4, d4, ds4, p4, q4, rfl, rfl, rfl, h4, r4⟩ := trodAll_cons r3
  obtain ⟨rfl, rfl, rfl⟩ := trodAll_nil r4
  obtain rfl : args = #[v0, v1, v2, v3, v4] := by cases args; simp_all
  obtain ⟨rfl, rfl⟩ := trodVars_none hV
  have k0 := h0
  have lt0 : ∀ x ∈ p0, x.block < W.heap.size := by obtain ⟨m, hm⟩ := k0; exact DataW.trod_lt m _ _ _ hm
  obtain ⟨fu0, hf0⟩ := h0
  obtain ⟨x0, hx0⟩ := ot24.2 _ _ _ _ _ _ _ _ _ hf0
  obtain ⟨cs0, rfl, _⟩ := okWide_struct Tryd.underlying24 (hval 0 24 v0 rfl rfl)
  replace hx0 : T23.rep W (Z.nt []) cs0.toList x0 := hx0
  have hok0 := Z.rep_ok _ hx0
  obtain ⟨a0, c0, hc0⟩ : ∃ a c, cs0.toList = [.slice a x0.length c] := by obtain ⟨a, c, _, h, _⟩ := hx0; exact ⟨a, c, h⟩
  obtain rfl : cs0 = #[.slice a0 x0.length c0] := by rw [← Array.toArray_toList (xs := cs0), hc0]
  have k1 := h1
  have lt1 : ∀ x ∈ p1, x.block < W.heap.size := by obtain ⟨m, hm⟩ := k1; exact DataW.trod_lt m _ _ _ hm
  obtain ⟨fu1, hf1⟩ := h1
  obtain ⟨x1, hx1⟩ := ot3.2 _ _ _ _ _ _ _ _ _ hf1
  obtain ⟨u1, rfl⟩ := okWide_int Tryd.underlying3 (hval 1 3 v1 rfl rfl)
  have he1 := hx1.1
  replace he1 : u1 = x1 := by simpa [Value.cells] using he1
  subst he1
  have hok1 := hx1.2
  have k2 := h2
  have lt2 : ∀ x ∈ p2, x.block < W.heap.size := by obtain ⟨m, hm⟩ := k2; exact DataW.trod_lt m _ _ _ hm
  obtain ⟨fu2, hf2⟩ := h2
  obtain ⟨x2, hx2⟩ := ot3.2 _ _ _ _ _ _ _ _ _ hf2
  obtain ⟨u2, rfl⟩ := okWide_int Tryd.underlying3 (hval 2 3 v2 rfl rfl)
  have he2 := hx2.1
  replace he2 : u2 = x2 := by simpa [Value.cells] using he2
  subst he2
  have hok2 := hx2.2
  have k3 := h3
  have lt3 : ∀ x ∈ p3, x.block < W.heap.size := by obtain ⟨m, hm⟩ := k3; exact DataW.trod_lt m _ _ _ hm
  obtain ⟨fu3, hf3⟩ := h3
  obtain ⟨x3, hx3⟩ := ot9.2 _ _ _ _ _ _ _ _ _ hf3
  obtain ⟨u3, rfl⟩ := okWide_string Tryd.underlying9 (hval 3 9 v3 rfl rfl)
  have he3 := hx3.1
  replace he3 : u3 = x3 := by simpa [Value.cells] using he3
  subst he3
  have hok3 := hx3.2
  have k4 := h4
  have lt4 : ∀ x ∈ p4, x.block < W.heap.size := by obtain ⟨m, hm⟩ := k4; exact DataW.trod_lt m _ _ _ hm
  obtain ⟨fu4, hf4⟩ := h4
  obtain ⟨x4, hx4⟩ := ot5.2 _ _ _ _ _ _ _ _ _ hf4
  obtain ⟨u4, rfl⟩ := okWide_int Tryd.underlying5 (hval 4 5 v4 rfl rfl)
  have he4 := hx4
  replace he4 : u4 = (x4.toNat : Int) := by simpa [Value.cells, Z.Ty.rep] using he4
  subst he4
  clear hA0 hval0
  have htab := of_laid hL
  have hF : F.L08_GraphFinds x0 u1 u2 u3 x4 = some true := graphFinds_plain x0 u1 u2 u3 x4 hok0 hok1 hok2 hok3 trivial
  have hct := L08_GraphFinds_ok x0 u1 u2 u3 x4 a0 c0 hok1 hok2 hok3 true hF
  refine (hct W (fun _ => True) (A.Hp.start ⟨A.Hall.sh hx0, A.Hall.tabs htab⟩)).mono ?_
  rintro e W' ⟨v, H', rfl, ⟨rfl, rfl⟩, hh⟩
  have bel := hh.ch.below
  exact ⟨_, rfl, _, _, _, [], _, [], hW', trodAll_mk1 (shut_bool Tryd.underlying4 _), (trodAll_cons_mk (Below.trod laidOut (by kernel_rfl) (of_decide_eq_true (by kernel_rfl)) k0 bel lt0) (trodAll_cons_mk (Below.trod laidOut (by kernel_rfl) (of_decide_eq_true (by kernel_rfl)) k1 bel lt1) (trodAll_cons_mk (Below.trod laidOut (by kernel_rfl) (of_decide_eq_true (by kernel_rfl)) k2 bel lt2) (trodAll_cons_mk (Below.trod laidOut (by kernel_rfl) (of_decide_eq_true (by kernel_rfl)) k3 bel lt3) (trodAll_cons_mk (Below.trod laidOut (by kernel_rfl) (of_decide_eq_true (by kernel_rfl)) k4 bel lt4) trodAll_mk0))))), rfl, bel.frame _, fun h => by cases h⟩
theorem over : Rows.graphFindsRow.holds Tryd.pinned (OpenSpec.ofChange Rows.graphFindsSpec) :=
  OpenClaim.holds_of_wide 6 Tryd.f6 rfl rfl rfl rfl rfl rfl rfl ⟨rfl, rfl, rfl, rfl, rfl⟩ rfl rfl rfl rfl rfl (by kernel_rfl) Tryd.func6 (by kernel_rfl)
    (of_decide_eq_true (by kernel_rfl)) (by unfold Func.isWrapper; first | (rw [if_pos (by decide +kernel)]; kernel_rfl) | (rw [if_neg (by decide +kernel)]; exact ⟨rfl, rfl⟩))
    (fun os started H enc _ => lifted os started H enc)
/-- the given statement -/
theorem proved : Rows.GraphFindsCardSaid :=
  Claim7.holds_tied_plain_at .later [] [.data, .pinned] true (true, "5accb819764bdfb54aec7bf5ca22e52637ae82d22dbe71865d5ce6d1d9810029") false
    over (fun _ h => by cases h) (by kernel_rfl) (fun _ h => by cases h) graphFinds_row_tie rfl ⟨rfl, rfl⟩ (by kernel_rfl) rfl
    (fun f fn hf hfn => by
      obtain rfl : f = 6 := Option.some.inj ((show Tryd.prog.funcNamed Rows.graphFindsRow.func = some 6 by kernel_rfl).symm.trans hf) |>.symm
      obtain rfl : fn = Tryd.f6 := (Option.some.inj (Tryd.func6.symm.trans hfn)).symm
      exact ⟨by kernel_rfl, fun j t ht => by
        rw [Tryd.params6] at ht
        have hm : t ∈ [24, 3, 3, 9, 5] := by simpa using Array.mem_of_getElem? ht
        have hall : ([24, 3, 3, 9, 5].all fun u => !Tryd.prog.wantsStandIn u) = true := by kernel_rfl
        exact (show Tryd.prog.wantsStandIn t = false by simpa using List.all_eq_true.1 hall t hm)⟩)
    (by kernel_rfl)
#print axioms proved
end Go.Proofs.YtleiipbkfaajfaaDoor.graphFindsDone
end
