/- A layer over the small logic, continued: calls. No program in sight. * A layer over the small logic, continued: regions in an open order. No program in sight. * A layer over the small logic, continued: functions on data that may fail; turns of what is known. No program in sight. * A layer over the small logic, continued: maps that are gone through, pointers that may be none, arrays. No program in sight. * A layer over the small logic, continued: ranges over functions. No program in sight. * A layer over the small logic, continued: maps whose values are rows of their own. No program in sight. * A layer over the small logic, continued: utf8.ValidString, the library's tables as things that are known. No program in sight. * utf8.ValidString by the library's contract. * A layer over the small logic, continued: the same rules in few words. No program in sight. * A layer over the small logic, continued: a shared row's first ones, in an open region. No program in sight. * A layer over the small logic, continued: an entry that goes. No program in sight. * A layer over the small logic, continued: pointers that may be none, as rows of at most one. No program in sight. * A checked machine for closed runs: values and memory by names, one function that computes. Definitions, each small: the kernel copies what it unfolds. No program in sight. * A checked machine for closed runs, continued: operations that change memory, calls, code. Definitions, each small. No program in sight. * A checked machine for closed runs, continued: its tables, out of a program. Definitions. No program in sight. * Closed tests, run by the checked machine. * The checked machine is right, first part: what its values and its memory say of the model's. No program in sight. * The checked machine is right, second part: pure operations. No program in sight. * The checked machine is right, third part: pure operations, one by one. No program in sight. -/
import Derived.Test.YtlbdgahbamalcaaGreatDoorA0
import Derived.RangeFuncSeq
import Derived.RangeFuncBound
import Derived.Shelf.Unicode.ValidAny
import Derived.KernelRfl
section
set_option linter.unusedVariables false
set_option linter.unusedSimpArgs false
namespace Go.A
open Go.RowKit Go.Z

/-- what a call is given of what is known: some as it is, rows that are lent, things that are handed over (by the call's numbers and ours) -/
inductive Sub (H : List (Nat × Res)) : List (Nat × Res) → List (Nat × Nat) → List Nat → Prop
  | nil : Sub H [] [] []
  | s (k : Nat) {k0 : Nat} {r : Res} {H0 : List (Nat × Res)} {ms : List (Nat × Nat)} {ls : List Nat} (h : Sub H H0 ms ls) (h1 : hk H k = some r := by rfl) (hb : r.bl = [] := by rfl) (hr : r.ref = none := by rfl) : Sub H ((k0, r) :: H0) ms ls
  | o (k : Nat) {k0 : Nat} {t : Ty} {e : TypeId} {A : Option Addr} {c : Nat} {xs : List t.den} {H0 : List (Nat × Res)} {ms : List (Nat × Nat)} {ls : List Nat} (h : Sub H H0 ms ls) (h1 : hk H k = some (.own t e A c xs) := by rfl) : Sub H ((k0, .ln t A c xs) :: H0) ms (k :: ls)
  | l (k : Nat) {k0 : Nat} {t : Ty} {A : Option Addr} {c : Nat} {xs : List t.den} {H0 : List (Nat × Res)} {ms : List (Nat × Nat)} {ls : List Nat} (h : Sub H H0 ms ls) (h1 : hk H k = some (.sh (.slice t) [.slice A xs.length c] xs) := by rfl) : Sub H ((k0, .ln t A c xs) :: H0) ms ls
  | nl {k0 : Nat} {t : Ty} {H0 : List (Nat × Res)} {ms : List (Nat × Nat)} {ls : List Nat} (h : Sub H H0 ms ls) : Sub H ((k0, .ln t none 0 []) :: H0) ms ls
  | ns {k0 : Nat} {t : Ty} {H0 : List (Nat × Res)} {ms : List (Nat × Nat)} {ls : List Nat} (h : Sub H H0 ms ls) : Sub H ((k0, .sh (.slice t) [.slice none 0 0] []) :: H0) ms ls
  | b (k : Nat) {k0 : Nat} {g : Nat} {e : TypeId} {cs : List Value} {H0 : List (Nat × Res)} {ms : List (Nat × Nat)} {ls : List Nat} (h : Sub H H0 ms ls) (h1 : hk H k = some (.blk g e cs) := by rfl) : Sub H ((k0, .el none g 0 cs) :: H0) ms (k :: ls)
  | lm (k : Nat) {k0 : Nat} {κ : Type} {enc : κ → Value} {t : Ty} {agg : Bool} {b : Nat} {m : List (κ × t.den)} {H0 : List (Nat × Res)} {ms : List (Nat × Nat)} {ls : List Nat} (h : Sub H H0 ms ls) (h1 : hk H k = some (.mp κ enc t agg b m) := by rfl) : Sub H ((k0, .lmp κ enc t agg b m) :: H0) ms (k :: ls)
  | m (k : Nat) {k0 : Nat} {r : Res} {H0 : List (Nat × Res)} {ms : List (Nat × Nat)} {ls : List Nat} (h : Sub H H0 ms ls) (h1 : hk H k = some r := by rfl) (hr : r.ref = none := by rfl) : Sub H ((k0, r) :: H0) ((k0, k) :: ms) ls
def blks (H : List (Nat × Res)) : List (Nat × Nat) → List Nat
  | [] => []
  | (_, k) :: ms => match hk H k with
    | some r => r.bl ++ blks H ms
    | none => blks H ms
theorem mem_blks {H : List (Nat × Res)} {b : Nat} : ∀ {ms : List (Nat × Nat)}, b ∈ blks H ms ↔ ∃ p, p ∈ ms ∧ Bk H p.2 b
  | [] => by simp [blks]
  | (i, k) :: ms => by
    unfold blks
    cases hj : hk H k with
    | none =>
      simp only []
      rw [mem_blks]
      exact ⟨fun ⟨p, h1, h2⟩ => ⟨p, List.mem_cons_of_mem _ h1, h2⟩, fun ⟨p, h1, h2⟩ => by
        rcases List.mem_cons.1 h1 with rfl | h1
        · obtain ⟨r, h3, _⟩ := h2; rw [hj] at h3; cases h3
        · exact ⟨p, h1, h2⟩⟩
    | some r =>
      simp only [List.mem_append]
      rw [mem_blks]
      constructor
      · rintro (h | ⟨p, h1, h2⟩)
        · exact ⟨(i, k), List.mem_cons_self .., r, hj, h⟩
        · exact ⟨p, List.mem_cons_of_mem _ h1, h2⟩
      · rintro ⟨p, h1, h2⟩
        rcases List.mem_cons.1 h1 with rfl | h1
        · obtain ⟨r2, h3, h4⟩ := h2; rw [hj] at h3; injection h3 with h3; subst h3; exact .inl h4
        · exact .inr ⟨p, h1, h2⟩
theorem Sub.hp {C : Cx} {H : List (Nat × Res)} {w : World} (hh : Hp C H w) {H0 : List (Nat × Res)} {ms : List (Nat × Nat)} {ls : List Nat} (h : Sub H H0 ms ls) (h1 : nod (H0.map (·.1)) = true) (h2 : nod (ms.map (·.2)) = true) (h3 : ls.all (fun k => !(ms.map (·.2)).any (Nat.beq k)) = true) :
    Hp ⟨0, [], w, blks H ms, Fh C H⟩ H0 w := by
  -- what each entry is
  have hvis : ∀ {H0 : List (Nat × Res)} {k : Nat} {r : Res}, hk H0 k = some r → (k, r) ∈ H0 := by
    intro H0
    induction H0 with
    | nil => intro k r h; cases h
    | cons p q ih =>
      obtain ⟨d, u⟩ := p
      intro k r h
      rw [hk_cons] at h
      split at h
      · rename_i e; subst e; injection h with h; subst h; exact List.mem_cons_self ..
      · exact List.mem_cons_of_mem _ (ih h)
  have hmoved : ∀ {H0 : List (Nat × Res)} {ms : List (Nat × Nat)} {ls : List Nat}, Sub H H0 ms ls → ∀ k r, (k, r) ∈ H0 → r.ref = none ∧ ∀ b, b ∈ r.bl → ∃ j, (k, j) ∈ ms ∧ hk H j = some r := by
    intro H0 ms ls h
    induction h with
    | nil => intro k r hm; cases hm
    | s k _ h1 hb hr ih =>
      intro k r hm
      rcases List.mem_cons.1 hm with e | hm
      · injection e with e1 e2; subst e1; subst e2; exact ⟨hr, fun b hb2 => by rw [hb] at hb2; cases hb2⟩
      · exact ih k r hm
    | m k _ h1 hr ih =>
      intro k r hm
      rcases List.mem_cons.1 hm with e | hm
      · injection e with e1 e2; subst e1; subst e2; exact ⟨hr, fun b hb2 => ⟨_, List.mem_cons_self .., h1⟩⟩
      · obtain ⟨h4, h5⟩ := ih k r hm
        exact ⟨h4, fun b hb => by obtain ⟨j, h6, h7⟩ := h5 b hb; exact ⟨j, List.mem_cons_of_mem _ h6, h7⟩⟩
    | _ =>
      rename_i ih
      intro k r hm
      rcases List.mem_cons.1 hm with e | hm
      · injection e with e1 e2; subst e1; subst e2; exact ⟨rfl, fun b hb2 => by cases hb2⟩
      · exact ih k r hm
  have hbk : ∀ k b, Bk H0 k b → ∃ j, (k, j) ∈ ms ∧ Bk H j b := fun k b ⟨r, h4, h5⟩ => by
    obtain ⟨j, h6, h7⟩ := (hmoved h k r (hvis h4)).2 b h5
    exact ⟨j, h6, r, h7, h5⟩
  have hnb : ∀ b, (∀ k, ¬ Bk H k b) → ∀ k, ¬ Bk H0 k b := fun b hB k hk => by obtain ⟨j, _, h4⟩ := hbk k b hk; exact hB j h4
  have hF : ∀ b, Fh C H b → Fh ⟨0, [], w, blks H ms, Fh C H⟩ H0 b := fun b hb => ⟨hnb b hb.1, .inl hb⟩
  have hholds : ∀ {H1 : List (Nat × Res)} {ms1 : List (Nat × Nat)} {ls1 : List Nat}, Sub H H1 ms1 ls1 → (∀ k, k ∈ ls1 → ∀ p, p ∈ ms → p.2 ≠ k) → ∀ k r, (k, r) ∈ H1 → r.holds w (Fh ⟨0, [], w, blks H ms, Fh C H⟩ H0) (Bk H0) := by
    intro H1 ms1 ls1 h
    have go : ∀ k r, hk H k = some r → r.ref = none → r.holds w (Fh ⟨0, [], w, blks H ms, Fh C H⟩ H0) (Bk H0) := fun k r h4 h5 =>
      Res.to (hh.hold k r h4) (S := []) (Ch.refl w) (fun b hb _ => ⟨by simp, hF b hb⟩) (fun b hb _ => ⟨by simp, hnb b hb⟩) (fun i b hi _ => by rw [h5] at hi; cases hi) (by simp)
    induction h with
    | nil => intro _ k r hm; cases hm
    | s k _ h1 hb hr ih =>
      intro hl k r hm
      rcases List.mem_cons.1 hm with e | hm
      · injection e with e1 e2; subst e1; subst e2; exact go _ _ h1 hr
      · exact ih hl k r hm
    | m k _ h1 hr ih =>
      intro hl k r hm
      rcases List.mem_cons.1 hm with e | hm
      · injection e with e1 e2; subst e1; subst e2; exact go _ _ h1 hr
      · exact ih hl k r hm
    | o k _ h1 ih =>
      intro hl k' r hm
      rcases List.mem_cons.1 hm with e | hm
      · injection e with e1 e2; subst e1; subst e2
        obtain ⟨G, h4, h5⟩ := rowO h1 w hh
        refine Row.to h4 (S := []) (Ch.refl w) (fun b hb _ => ⟨by simp, hF b hb⟩) fun b hb _ => ⟨by simp, fun k2 hk2 => ?_⟩
        obtain ⟨j, h6, h7⟩ := hbk k2 b hk2
        exact hl k (List.mem_cons_self ..) _ h6 (hh.dis j k b h7 (h5 b hb))
      · exact ih (fun k hk => hl k (List.mem_cons_of_mem _ hk)) k' r hm
    | b k _ h1 ih =>
      intro hl k' r hm
      rcases List.mem_cons.1 hm with e | hm
      · injection e with e1 e2; subst e1; subst e2
        have hB : Blk w _ _ _ := hh.hold k _ h1
        refine ⟨fun j u hu => ?_, hB.lt, fun k2 hk2 => ?_⟩
        · rw [Addr.add_lit, Nat.zero_add, hB.cell]; exact hu
        · obtain ⟨j, h6, h7⟩ := hbk k2 _ hk2
          exact hl k (List.mem_cons_self ..) _ h6 (hh.dis j k _ h7 ⟨_, h1, by simp [Res.bl]⟩)
      · exact ih (fun k hk => hl k (List.mem_cons_of_mem _ hk)) k' r hm
    | lm k _ h1 ih =>
      intro hl k' r hm
      rcases List.mem_cons.1 hm with e | hm
      · injection e with e1 e2; subst e1; subst e2
        have hB : Mt _ _ _ w (Fh C H) _ _ := hh.hold k _ h1
        refine ⟨Mt.to hB (S := []) (Ch.refl w) (by simp) fun b hb _ => ⟨by simp, hF b hb⟩, fun k2 hk2 => ?_⟩
        obtain ⟨j, h6, h7⟩ := hbk k2 _ hk2
        exact hl k (List.mem_cons_self ..) _ h6 (hh.dis j k _ h7 ⟨_, h1, by simp [Res.bl]⟩)
      · exact ih (fun k hk => hl k (List.mem_cons_of_mem _ hk)) k' r hm
    | l k _ h1 ih =>
      intro hl k' r hm
      rcases List.mem_cons.1 hm with e | hm
      · injection e with e1 e2; subst e1; subst e2
        obtain ⟨G, h4, h5⟩ := rowS h1 w hh
        exact Row.to h4 (S := []) (Ch.refl w) (fun b hb _ => ⟨by simp, hF b hb⟩) fun b hb _ => ⟨by simp, hnb b (h5 b hb)⟩
      · exact ih hl k' r hm
    | nl _ ih =>
      intro hl k' r hm
      rcases List.mem_cons.1 hm with e | hm
      · injection e with e1 e2; subst e1; subst e2
        exact ⟨Nat.le_refl _, by simp [maxLen], [], by simp, .inl rfl, fun i x hi => by simp at hi⟩
      · exact ih hl k' r hm
    | ns _ ih =>
      intro hl k' r hm
      rcases List.mem_cons.1 hm with e | hm
      · injection e with e1 e2; subst e1; subst e2; exact rep_nil _
      · exact ih hl k' r hm
  have hls : ∀ k, k ∈ ls → ∀ p, p ∈ ms → p.2 ≠ k := fun k hk p hp e => by
    have h4 := List.all_eq_true.1 h3 k hk
    simp only [Bool.not_eq_true', List.any_map, List.any_eq_false] at h4
    exact h4 p hp (by simp [Function.comp, e])
  refine ⟨Ch.refl' _ _, fun k r hk1 => hholds h hls k r (hvis hk1), fun k b hb => ?_, fun k k' b hb hb' => ?_, fun k r j hk1 hr => ?_⟩
  · obtain ⟨j, h4, h5⟩ := hbk k b hb
    exact ⟨.inr (mem_blks.2 ⟨_, h4, h5⟩), (hh.bnd j b h5).2⟩
  · obtain ⟨j, h4, h5⟩ := hbk k b hb
    obtain ⟨j', h6, h7⟩ := hbk k' b hb'
    exact nod_map (f := fun p : Nat × Nat => p.2) (g := fun p : Nat × Nat => p.1) h2 (k, j) (k', j') h4 h6 (hh.dis j j' b h5 h7)
  · rw [(hmoved h k r (hvis hk1)).1] at hr; cases hr

/-- what is no longer ours -/
def kill : List Nat → List (Nat × Res) → List (Nat × Res)
  | [], H => H
  | k :: ks, H => (k, .dead) :: drp k (kill ks H)
theorem hk_kill {H : List (Nat × Res)} : ∀ {ks : List Nat} {j : Nat} {r : Res}, hk (kill ks H) j = some r → r = .dead ∨ (hk H j = some r ∧ j ∉ ks ∧ ∀ k, k ∈ ks → r.ref ≠ some k)
  | [], j, r, h => .inr ⟨h, by simp, by simp⟩
  | k :: ks, j, r, h => by
    unfold kill at h
    rw [hk_cons] at h
    split at h
    · injection h with h; exact .inl h.symm
    · rename_i hne
      rcases hk_drp k _ j r h with h1 | ⟨h1, h2⟩
      · exact .inl h1
      · rcases hk_kill h1 with h3 | ⟨h3, h4, h5⟩
        · exact .inl h3
        · refine .inr ⟨h3, fun hm => ?_, fun i hi => ?_⟩
          · rcases List.mem_cons.1 hm with e | hm
            · exact hne e.symm
            · exact h4 hm
          · rcases List.mem_cons.1 hi with rfl | hi
            · exact h2
            · exact h5 i hi
theorem hk_drp_of {k : Nat} : ∀ {H : List (Nat × Res)} {j : Nat} {r : Res}, hk H j = some r → r.ref ≠ some k → hk (drp k H) j = some r
  | [], _, _, h, _ => by cases h
  | (d, u) :: q, j, r, h1, h2 => by
    unfold drp
    rw [hk_cons] at h1 ⊢
    by_cases hd : d = j
    · rw [if_pos hd] at h1 ⊢
      injection h1 with h1
      subst h1
      cases hu : u.ref with
      | none => rfl
      | some i =>
        simp only []
        have : Nat.beq i k = false := by cases hb : Nat.beq i k with
          | false => rfl
          | true => exact absurd (by rw [hu, Nat.eq_of_beq_eq_true hb]) h2
        rw [this]; rfl
    · rw [if_neg hd] at h1 ⊢
      exact hk_drp_of h1 h2
theorem hk_kill_of {H : List (Nat × Res)} : ∀ {ks : List Nat} {j : Nat} {r : Res}, hk H j = some r → j ∉ ks → (∀ k, k ∈ ks → r.ref ≠ some k) → hk (kill ks H) j = some r
  | [], _, _, h, _, _ => h
  | k :: ks, j, r, h, h1, h2 => by
    unfold kill
    rw [hk_cons, if_neg (fun e => h1 (by rw [e]; exact List.mem_cons_self ..))]
    exact hk_drp_of (hk_kill_of h (fun hm => h1 (List.mem_cons_of_mem _ hm)) fun i hi => h2 i (List.mem_cons_of_mem _ hi)) (h2 k (List.mem_cons_self ..))
def sft (n : Nat) : List (Nat × Res) → List (Nat × Res)
  | [] => []
  | (k, r) :: H => (k + n, r) :: sft n H
theorem hk_sft {n : Nat} {H0 : List (Nat × Res)} : ∀ {H : List (Nat × Res)} {j : Nat} {r : Res}, hk (hcat (sft n H) H0) j = some r → (∃ k, j = k + n ∧ hk H k = some r) ∨ (hk H0 j = some r ∧ ∀ k, j = k + n → hk H k = none)
  | [], j, r, h => .inr ⟨h, fun _ _ => rfl⟩
  | (d, u) :: H, j, r, h => by
    replace h : hk ((d + n, u) :: hcat (sft n H) H0) j = some r := h
    rw [hk_cons] at h
    split at h
    · rename_i e; injection h with h; subst h; exact .inl ⟨d, e.symm, by rw [hk_cons, if_pos rfl]⟩
    · rename_i hne
      rcases hk_sft h with ⟨k, h1, h2⟩ | ⟨h1, h2⟩
      · exact .inl ⟨k, h1, by rw [hk_cons, if_neg (fun e => hne (by rw [e, h1]))]; exact h2⟩
      · exact .inr ⟨h1, fun k hk => by rw [hk_cons, if_neg (fun e => hne (by rw [e, hk]))]; exact h2 k hk⟩
def outs : List (Nat × Res) → Bool
  | [] => true
  | (_, r) :: H => (match r with | .ln _ _ _ _ => false | .el _ _ _ _ => false | .mit _ _ _ _ _ _ => false | .lmp _ _ _ _ _ _ => false | _ => true) && outs H
theorem outs_spec : ∀ {H : List (Nat × Res)} {k : Nat} {r : Res}, outs H = true → hk H k = some r → (∀ t A c xs, r ≠ .ln t A c xs) ∧ (∀ k b o cs, r ≠ .el k b o cs) ∧ r.ref = none
  | [], _, _, _, h => by cases h
  | (d, u) :: H, k, r, ho, h => by
    simp only [outs, Bool.and_eq_true] at ho
    rw [hk_cons] at h
    split at h
    · injection h with h; subst h
      cases u <;> simp_all [Res.ref]
    · exact outs_spec ho.2 h
theorem outs_lmp : ∀ {H : List (Nat × Res)} {k : Nat} {κ : Type} {enc : κ → Value} {t : Ty} {agg : Bool} {b : Nat} {m : List (κ × t.den)}, outs H = true → hk H k = some (.lmp κ enc t agg b m) → False
  | [], _, _, _, _, _, _, _, _, h => by cases h
  | (d, u) :: H, k, _, _, _, _, _, _, ho, h => by
    simp only [outs, Bool.and_eq_true] at ho
    rw [hk_cons] at h
    split at h
    · injection h with h; subst h; exact absurd ho.1 (by simp)
    · exact outs_lmp ho.2 h
def frs (n : Nat) (H : List (Nat × Res)) : List (Nat × Res) → Bool
  | [] => true
  | (k, _) :: H' => (match hk H (k + n) with | none => true | some _ => false) && frs n H H'
theorem Hp.back {C : Cx} {H H' : List (Nat × Res)} {w w' : World} {ms : List (Nat × Nat)} {n : Nat} (h : Hp C H w) (h' : Hp ⟨0, [], w, blks H ms, Fh C H⟩ H' w') (ho : outs H' = true) (hf : frs n H H' = true) : Hp C (hcat (sft n H') (kill (ms.map (·.2)) H)) w' := by
  have hS : ∀ b, b ∈ blks H ms → ∃ k, k ∈ ms.map (·.2) ∧ Bk H k b := fun b hb => by
    obtain ⟨p, h1, h2⟩ := mem_blks.1 hb; exact ⟨p.2, List.mem_map.2 ⟨p, h1, rfl⟩, h2⟩
  have hbk : ∀ j b, Bk (hcat (sft n H') (kill (ms.map (·.2)) H)) j b → (∃ k, j = k + n ∧ Bk H' k b) ∨ ((∀ k, j = k + n → hk H' k = none) ∧ Bk H j b ∧ j ∉ ms.map (·.2)) := fun j b ⟨r, h1, h2⟩ => by
    rcases hk_sft h1 with ⟨k, h3, h4⟩ | ⟨h3, h4⟩
    · exact .inl ⟨k, h3, r, h4, h2⟩
    · rcases hk_kill h3 with rfl | ⟨h5, h6, _⟩
      · cases h2
      · exact .inr ⟨h4, ⟨r, h5, h2⟩, h6⟩
  have hnew : ∀ k b, Bk H' k b → (w.heap.size ≤ b ∨ b ∈ blks H ms) ∧ b < w'.heap.size := fun k b hb => h'.bnd k b hb
  have hold : ∀ b, (∀ k, ¬ Bk H k b) → b < w.heap.size → b ∉ blks H ms ∧ ∀ j, ¬ Bk (hcat (sft n H') (kill (ms.map (·.2)) H)) j b := fun b hB hl => by
    refine ⟨fun hb => by obtain ⟨k, _, h1⟩ := hS b hb; exact hB k h1, fun j hj => ?_⟩
    rcases hbk j b hj with ⟨k, _, h1⟩ | ⟨_, h1, _⟩
    · rcases (hnew k b h1).1 with h2 | h2
      · omega
      · obtain ⟨k, _, h3⟩ := hS b h2; exact hB k h3
    · exact hB j h1
  have hch := h'.ch
  have hsz : w.heap.size ≤ w'.heap.size := hch.size
  have hrefk : ∀ j r i, hk H j = some r → r.ref = some i → i ∉ ms.map (·.2) → ∀ b, Bk H i b → Bk (hcat (sft n H') (kill (ms.map (·.2)) H)) i b := fun j r i hj hr hi b hb => by
    obtain ⟨r2, h1, h2⟩ := hb
    have h3 := (h.ref j r i hj hr).2 r2 h1
    refine ⟨r2, ?_, h2⟩
    have h4 : hk (kill (ms.map (·.2)) H) i = some r2 := hk_kill_of h1 hi fun k _ => by rw [h3]; simp
    -- no new thing has that number
    have h5 : ∀ {H' : List (Nat × Res)}, frs n H H' = true → hk (hcat (sft n H') (kill (ms.map (·.2)) H)) i = some r2 := by
      intro H'
      induction H' with
      | nil => intro _; exact h4
      | cons p q ih =>
        obtain ⟨d, u⟩ := p
        intro hf
        simp only [frs, Bool.and_eq_true] at hf
        show hk ((d + n, u) :: hcat (sft n q) _) i = some r2
        rw [hk_cons, if_neg (fun e => by subst e; rw [h1] at hf; exact absurd hf.1 (by simp))]
        exact ih hf.2
    exact h5 hf
  refine ⟨?_, fun j r hj => ?_, fun j b hj => ?_, fun j j' b hj hj' => ?_, fun j r i hj hri => ?_⟩
  · have hc0 := h.ch
    refine ⟨hch.os.trans hc0.os, hch.tape.trans hc0.tape, hch.output.trans hc0.output, Nat.le_trans hc0.size hch.size, fun b hb hn => ?_⟩
    have hb2 : b ∉ blks H ms := fun hbS => by
      obtain ⟨k, _, h1⟩ := hS b hbS
      rcases (h.bnd k b h1).1 with h2 | h2
      · omega
      · exact hn h2
    rw [hch.block b (Nat.lt_of_lt_of_le hb hc0.size) hb2]
    exact hc0.block b hb hn
  · rcases hk_sft hj with ⟨k, rfl, h1⟩ | ⟨h1, _⟩
    · obtain ⟨o1, o2, o3⟩ := outs_spec ho h1
      have hh := h'.hold k r h1
      have hF : ∀ b, Fh ⟨0, [], w, blks H ms, Fh C H⟩ H' b → b < w'.heap.size → Fh C (hcat (sft n H') (kill (ms.map (·.2)) H)) b := fun b hb hl => by
        refine ⟨fun j hj => ?_, ?_⟩
        · rcases hbk j b hj with ⟨k, _, h2⟩ | ⟨_, h2, h3⟩
          · exact hb.1 k h2
          · rcases hb.2 with h4 | h4 | h4
            · exact h4.1 j h2
            · have := (h.bnd j b h2).2; have h4 : w.heap.size ≤ b := h4; omega
            · obtain ⟨k, h5, h6⟩ := hS b h4; exact h3 (by rw [h.dis j k b h2 h6]; exact h5)
        · rcases hb.2 with h4 | h4 | h4
          · exact h4.2
          · exact .inr (.inl (Nat.le_trans h.ch.size h4))
          · obtain ⟨k, _, h6⟩ := hS b h4; exact .inr (h.bnd k b h6).1
      cases r with
      | ln t A c xs => exact absurd rfl (o1 t A c xs)
      | el k b o cs => exact absurd rfl (o2 k b o cs)
      | mit k g b n seen la => cases o3
      | dead => trivial
      | sh t cs x => exact rep_to hh (S := []) (Ch.refl w') fun b hb hl => ⟨by simp, hF b hb hl⟩
      | own t e A c xs => exact Own.to hh (S := []) (Ch.refl w') (by simp) fun b hb hl => ⟨by simp, hF b hb hl⟩
      | blk g e cs => exact hh
      | mp κ enc t agg b m => exact Mt.to hh (S := []) (Ch.refl w') (by simp) fun b hb hl => ⟨by simp, hF b hb hl⟩
      | si g s p => exact hh
      | ob g p => exact hh
      | lmp κ enc t agg b m => exact (outs_lmp ho h1).elim
      | mr κ enc t e b As m => exact Mr.to hh (S := []) (Ch.refl w') (by simp) fun b hb hl => ⟨by simp, hF b hb hl⟩
      | gn bs p hp => exact hp hh (S := []) (Ch.refl w') (by simp) fun b hb hl => ⟨by simp, hF b hb hl⟩
    · rcases hk_kill h1 with rfl | ⟨h2, h3, h4⟩
      · trivial
      · refine Res.to (h.hold j r h2) hch (fun b hb hl => ⟨(hold b hb.1 hl).1, (hold b hb.1 hl).2, hb.2⟩) (fun b hb hl => hold b hb hl) (fun i b hi hB => ⟨fun hbS => ?_, ?_⟩) fun b hb hbS => ?_
        · obtain ⟨k, h5, h6⟩ := hS b hbS; exact h4 k h5 (by rw [hi, h.dis i k b hB h6])
        · exact hrefk j r i h2 hi (fun hm => h4 i hm hi) b hB
        · obtain ⟨k, h5, h6⟩ := hS b hbS; exact h3 (by rw [h.dis j k b ⟨r, h2, hb⟩ h6]; exact h5)
  · rcases hbk j b hj with ⟨k, _, h1⟩ | ⟨_, h1, _⟩
    · obtain ⟨h2, h3⟩ := hnew k b h1
      refine ⟨?_, h3⟩
      rcases h2 with h2 | h2
      · exact .inl (Nat.le_trans h.ch.size h2)
      · obtain ⟨k, _, h6⟩ := hS b h2; exact (h.bnd k b h6).1
    · exact ⟨(h.bnd j b h1).1, Nat.lt_of_lt_of_le (h.bnd j b h1).2 hsz⟩
  · have cross : ∀ k j b, Bk H' k b → Bk H j b → j ∉ ms.map (·.2) → False := fun k j b h1 h2 h3 => by
      rcases (hnew k b h1).1 with h4 | h4
      · have := (h.bnd j b h2).2; omega
      · obtain ⟨i, h5, h6⟩ := hS b h4; exact h3 (by rw [h.dis j i b h2 h6]; exact h5)
    rcases hbk j b hj with ⟨k, rfl, h1⟩ | ⟨_, h1, h3⟩ <;> rcases hbk j' b hj' with ⟨k', rfl, h2⟩ | ⟨_, h2, h4⟩
    · rw [h'.dis k k' b h1 h2]
    · exact (cross k j' b h1 h2 h4).elim
    · exact (cross k' j b h2 h1 h3).elim
    · exact h.dis j j' b h1 h2
  · rcases hk_sft hj with ⟨k, rfl, h1⟩ | ⟨h1, _⟩
    · rw [(outs_spec ho h1).2.2] at hri; cases hri
    · rcases hk_kill h1 with rfl | ⟨h2, h3, h4⟩
      · cases hri
      · obtain ⟨h5, h6⟩ := h.ref j r i h2 hri
        refine ⟨h5, fun r2 h7 => ?_⟩
        rcases hk_sft h7 with ⟨k, rfl, h8⟩ | ⟨h8, _⟩
        · exact (outs_spec ho h8).2.2
        · rcases hk_kill h8 with rfl | ⟨h9, _⟩
          · rfl
          · exact h6 r2 h9

section
variable {r : Option Nat} {P : Program} {ops : Array Oper} {Q : Exit → Act → World → Prop} {rest lst : List Oper} {C : Cx} {l : List (Nat × Value)} {H : List (Nat × Res)} {d : Nat} {T : TypeId} {pos : String} {af : Array Edge}
theorem hk_kill_eq {H : List (Nat × Res)} : ∀ (ks : List Nat) (j : Nat), hk (kill ks H) j = bif ks.any (Nat.beq j) then some .dead else (hk H j).map fun v => bif rin ks v.ref then .dead else v
  | [], j => by
    show hk H j = (hk H j).map _
    cases hk H j with
    | none => rfl
    | some v => cases hv : v.ref <;> simp [rin, hv]
  | k :: ks, j => by
    show hk ((k, .dead) :: drp k (kill ks H)) j = _
    rw [hk_cons, hk_drp_eq, hk_kill_eq ks j, List.any_cons]
    by_cases hjk : k = j
    · subst hjk; simp
    have hbe : Nat.beq j k = false := by cases hb : Nat.beq j k with
      | false => rfl
      | true => exact absurd (Nat.eq_of_beq_eq_true hb).symm hjk
    rw [if_neg hjk, hbe]
    revert hbe; intro _
    cases ks.any (Nat.beq j) <;> cases hv : hk H j <;> try rfl
    rename_i v
    cases hr : v.ref with
    | none => simp [rin, hr]
    | some i => simp only [cond_false, Bool.false_or, Option.map_some, rin, hr, List.any_cons, List.any_nil, Bool.or_false]; cases hb : ks.any (Nat.beq i) <;> cases hb2 : Nat.beq i k <;> simp_all [rin, Res.ref]
/-- what was handed over is no longer known, nor what hangs on it -/
def kld (js : List Nat) (H : List (Nat × Res)) (ks : List Nat) : List (Nat × Res) := ded ks (ded js H)
theorem hk_kld {H : List (Nat × Res)} {ks js : List Nat} (h : hng ks js H = true) (j : Nat) : hk (kld js H ks) j = hk (kill ks H) j ∨ (hk (kld js H ks) j = some .dead ∧ hk (kill ks H) j = none) := by
  rw [kld, hk_ded, hk_ded, hk_kill_eq]
  cases ks.any (Nat.beq j) with
  | true => exact .inl rfl
  | false => exact hng_at h j
theorem hk_hcat : ∀ {A H H' : List (Nat × Res)}, (∀ j, hk H' j = hk H j ∨ (hk H' j = some .dead ∧ hk H j = none)) → ∀ j, hk (hcat A H') j = hk (hcat A H) j ∨ (hk (hcat A H') j = some .dead ∧ hk (hcat A H) j = none)
  | [], _, _, h, j => h j
  | (d, u) :: A, H, H', h, j => by
    show hk ((d, u) :: hcat A H') j = hk ((d, u) :: hcat A H) j ∨ (hk ((d, u) :: hcat A H') j = some .dead ∧ hk ((d, u) :: hcat A H) j = none)
    rw [hk_cons, hk_cons]
    by_cases h2 : d = j
    · rw [if_pos h2, if_pos h2]; exact .inl rfl
    · rw [if_neg h2, if_neg h2]; exact hk_hcat (A := A) h j
/-- a call of a function of the program -/
theorem AL.call (n : Nat) (js : List Nat) {f : FuncId} {c : Operand} {xs : List Operand} {vs vs' first cap : List Value} {ts : Array TypeId} {H0 : List (Nat × Res)} {ms : List (Nat × Nat)} {ls : List Nat} {S : List Nat} {R : Value → List (Nat × Res) → Prop}
    (hcf : ∀ args w, (callFunc f args).run P w = .ok (.enter f args) w) (hct : Ct P f vs' H0 S R) (hs : Sub H H0 ms ls)
    (h : ∀ v H', R v H' → (outs H' && frs n H H') = true ∧ AL r P ops Q rest C ((d, v) :: l) (hcat (sft n H') (kld js H (ms.map (·.2)))))
    (hc : ev l c = some (.func (.func f) first.toArray cap.toArray) := by rfl) (hx : evs l xs = some vs := by rfl) (hv : first ++ vs ++ cap = vs' := by rfl) (hS : blks H ms = S := by rfl) (h1 : nod (H0.map (·.1)) = true := by rfl) (h2 : nod (ms.map (·.2)) = true := by rfl) (h3 : ls.all (fun k => !(ms.map (·.2)).any (Nat.beq k)) = true := by rfl) (hd : Nat.ble (d + 1) C.n = true := by rfl) (hj : hng (ms.map (·.2)) js H = true := by kernel_rfl) :
    AL r P ops Q (⟨some d, .call { callee := .value c, args := xs.toArray, argTypes := ts }, T, pos, af, none⟩ :: rest) C l H := fun a w hf hh => by
  subst hS; subst hv
  refine Z.call1 hf hd (r_callv hcf hf (first := first) (cap := cap) (vs := vs) (xs := xs) hc hx) (hct w (Fh C H) (hs.hp hh h1 h2 h3)) fun e w' ⟨v, H', he, hR, hh'⟩ => ⟨v, he, fun a' hf' => ?_⟩
  obtain ⟨h4, h5⟩ := h v H' hR
  rw [Bool.and_eq_true] at h4
  exact h5 a' w' hf' ((hh.back hh' h4.1 h4.2).ext (hk_hcat (hk_kld hj)))
end
end Go.A
end

section
set_option linter.unusedVariables false
set_option linter.unusedSimpArgs false
namespace Go.A
open Go.RowKit Go.Z

theorem pk_kont {r : Option Nat} {P : Program} {Y : Exit → Act → World → Prop} (hp : Pq Y) : ∀ {K : List Kx}, Pq (kont r P Y K)
  | [] => hp
  | .c _ :: K => fun c a d v w h => pk_kont hp (K := K) c a d v w h
  | .b _ :: K => fun c a d v w h => pk_kont hp (K := K) c a d v w h
  | .m _ :: K => fun c a d v w h => pk_kont hp (K := K) c a d v w h
  | .s :: K => fun c a d v w h => pk_kont hp (K := K) c a d v w h
section
variable {r : Option Nat} {P : Program} {ops : Array Oper} {Q : Exit → Act → World → Prop} {S S' : World → Prop} {m : Nat}
/-- m is behind -/
def gn (ops : Array Oper) (li : Array Bool) (m : Nat) : Bool := (ops[m]?).isSome && li.getD m false
/-- whatever comes up next, and S holds behind it as long as m is to come -/
def Hem (r : Option Nat) (P : Program) (ops : Array Oper) (Q : Exit → Act → World → Prop) (S : World → Prop) (m : Nat) : Nat → Array Bool → Act → World → Prop
  | 0, listed, a, w => Region.ready .any ops listed = [] ∧ Q .normal a w
  | f + 1, listed, a, w => (Region.ready .any ops listed = [] → Q .normal a w) ∧
    ∀ i ∈ Region.ready .any ops listed, wpOpIn (FW r) 0 P ops Q i (fun a' w' => (gn ops (listed.setIfInBounds i true) m = false → S w') ∧ Hem r P ops Q S m f (listed.setIfInBounds i true) a' w') a w
theorem Hem.any : ∀ (f : Nat) (listed : Array Bool) (a : Act) (w : World), Hem r P ops Q S m f listed a w → wpAnyIn (FW r) 0 P .any ops Q f listed a w
  | 0, _, _, _, h => h
  | f + 1, _, _, _, h => ⟨h.1, fun i hi => wpOpIn_mono (fun a' w' h' => Hem.any f _ a' w' h'.2) (h.2 i hi)⟩
/-- m comes behind i -/
def bonf (ops : Array Oper) (i : Nat) : Nat → Nat → Bool
  | 0, _ => false
  | f + 1, m => match ops[m]? with
    | none => false
    | some o => (o.after.any fun e => Region.binds .any e && Nat.beq e.on i) || o.after.any fun e => Region.binds .any e && bonf ops i f e.on
def bon (ops : Array Oper) (m i : Nat) : Bool := match ops[m]? with
  | none => true
  | some _ => !(Nat.beq i m) && bonf ops i 12 m
/-- what is behind others is listed behind them -/
def Clo (ops : Array Oper) (li : Array Bool) : Prop := ∀ k o, ops[k]? = some o → li.getD k false = true → ∀ e ∈ o.after, Region.binds .any e = true → li.getD e.on false = true
def cloB (ops : Array Oper) (li : Array Bool) : Bool := (List.range ops.size).all fun k => match ops[k]? with
  | none => true
  | some o => !(li.getD k false) || o.after.all fun e => !(Region.binds .any e) || li.getD e.on false
theorem clo_of {ops : Array Oper} {li : Array Bool} (h : cloB ops li = true) : Clo ops li := fun k o hk hl e he hb => by
  have := List.all_eq_true.1 h k (List.mem_range.2 (Array.getElem?_eq_some_iff.1 hk).1)
  rw [hk] at this
  simp only [hl, Bool.not_true, Bool.false_or] at this
  have h2 := (Array.all_eq_true_iff_forall_mem.1 this) e he
  simpa [hb] using h2
theorem getD_mono {li : Array Bool} {j k : Nat} (h : li.getD k false = true) : (li.setIfInBounds j true).getD k false = true := by
  by_cases e : j = k
  · subst e
    by_cases hs : j < li.size
    · simp [hs]
    · simp [Array.getElem?_eq_none (Nat.le_of_not_lt hs)] at h
  · rw [getD_set_ne false e]; exact h
theorem Clo.step {ops : Array Oper} {li : Array Bool} {j : Nat} (h : Clo ops li) (hj : j ∈ Region.ready .any ops li) : Clo ops (li.setIfInBounds j true) := fun k o hk hl e he hb => by
  by_cases hjk : j = k
  · subst hjk
    obtain ⟨_, oj, hoj, hall⟩ := mem_ready.1 hj
    rw [hk] at hoj; injection hoj with hoj; subst hoj
    exact getD_mono (hall e he hb)
  · rw [getD_set_ne false hjk] at hl
    exact getD_mono (h k o hk hl e he hb)
theorem bonf_listed {ops : Array Oper} {li : Array Bool} {i : Nat} (hc : Clo ops li) : ∀ (f m : Nat) {o : Oper}, ops[m]? = some o → (∀ e ∈ o.after, Region.binds .any e = true → li.getD e.on false = true) → bonf ops i f m = true → li.getD i false = true
  | 0, _, _, _, _, h => by cases h
  | f + 1, m, o, hm, ha, h => by
    unfold bonf at h
    rw [hm] at h
    simp only [Bool.or_eq_true, Array.any_eq_true'] at h
    rcases h with ⟨e, he, hb⟩ | ⟨e, he, hb⟩
    · rw [Bool.and_eq_true] at hb
      rw [← Nat.eq_of_beq_eq_true hb.2]; exact ha e he hb.1
    · rw [Bool.and_eq_true] at hb
      have h1 := hb.2
      cases f with
      | zero => cases h1
      | succ f =>
        cases ho : ops[e.on]? with
        | none => unfold bonf at h1; rw [ho] at h1; cases h1
        | some o' => exact bonf_listed hc (f + 1) e.on ho (hc e.on o' ho (ha e he hb.1)) h1
theorem gn_ne {li : Array Bool} {i : Nat} (h : i ≠ m) : gn ops (li.setIfInBounds i true) m = gn ops li m := by unfold gn; rw [getD_set_ne false h]
theorem gn_mono {li : Array Bool} {j : Nat} (h : gn ops (li.setIfInBounds j true) m = false) : gn ops li m = false := by
  cases hg : gn ops li m with
  | false => rfl
  | true =>
    unfold gn at h hg
    rw [Bool.and_eq_true] at hg
    rw [hg.1, getD_mono hg.2] at h; cases h
theorem bon_ne {i : Nat} {oi : Oper} (hi : ops[i]? = some oi) (h : bon ops m i = true) : i ≠ m := fun e => by
  subst e
  unfold bon at h
  rw [hi] at h
  simp only [Bool.and_eq_true, Nat.beq_refl, Bool.not_true, Bool.false_eq_true, false_and] at h
theorem bon_gn {li : Array Bool} {i : Nat} (hc : Clo ops li) (hb : bon ops m i = true) (hr : i ∈ Region.ready .any ops li) : gn ops li m = false := by
  cases hg : gn ops li m with
  | false => rfl
  | true =>
    unfold gn at hg
    rw [Bool.and_eq_true] at hg
    unfold bon at hb
    cases hm : ops[m]? with
    | none => rw [hm] at hg; cases hg.1
    | some om =>
      rw [hm] at hb
      simp only [Bool.and_eq_true] at hb
      have hl := bonf_listed hc 12 m hm (hc m om hm hg.2) hb.2
      have h0 := (mem_ready.1 hr).1
      by_cases hsz : i < li.size
      · simp [hsz] at h0 hl; rw [h0] at hl; cases hl
      · simp [Array.getElem?_eq_none (Nat.le_of_not_lt hsz)] at hl
/-- T: what the operation looks at; either m comes behind it, or it looks at nothing -/
theorem Hem.first {T : World → Prop} {i : Nat} {oi : Oper} {v : Value} (hn : noDefer ops = true) (hi : ops[i]? = some oi) (hs : Region.noSelect ops = true) (hne : i ≠ m) (hb : (bon ops m i = true ∧ ∀ w, S w → T w) ∨ ∀ w, T w) (hQ : ∀ c a w, Q (.panic c) (a.put oi.dst v) w → Q (.panic c) a w) : ∀ (f : Nat) (listed : Array Bool) (a : Act) (w : World), Clo ops listed →
    (∀ j oj, ops[j]? = some oj → j ≠ i → listed.getD j true = false → (∀ e ∈ oj.after, Region.binds .any e = true → e.on ≠ i) → oi.apart ops oj = true) → i ∈ Region.ready .any ops listed → YieldsIf P ops T oi v a → (gn ops listed m = false → S w) →
    Hem r P ops Q S m f (listed.setIfInBounds i true) (a.put oi.dst v) w → Hem r P ops Q S m (f + 1) listed a w
  | 0, listed, a, w, hcl, _, hr, hy, hS, H => ⟨fun h => (by rw [h] at hr; cases hr), fun j hj => by
      have hT : T w := by
        rcases hb with hb | hb
        · exact hb.2 w (hS (bon_gn hcl hb.1 hr))
        · exact hb w
      by_cases hji : j = i
      · subst hji; exact Hel.op (noDefer_spec hn hi) hi hy hT ⟨fun h => hS (gn_mono h), H⟩
      · have := ready_mono hj hji; rw [H.1] at this; cases this⟩
  | f + 1, listed, a, w, hcl, hfree, hr, hy, hS, H => ⟨fun h => (by rw [h] at hr; cases hr), fun j hj => by
      have hT : T w := by
        rcases hb with hb | hb
        · exact hb.2 w (hS (bon_gn hcl hb.1 hr))
        · exact hb w
      by_cases hji : j = i
      · subst hji; exact Hel.op (noDefer_spec hn hi) hi hy hT ⟨fun h => hS (gn_mono h), H⟩
      · have h1 := H.2 j (ready_mono hj hji)
        obtain ⟨hun, oj, hoj, hall⟩ := mem_ready.1 hj
        have hno : ∀ e ∈ oj.after, Region.binds .any e = true → e.on ≠ i := fun e he hb heq => by
          have hl := hall e he hb
          have h0 := (mem_ready.1 hr).1
          rw [heq] at hl
          by_cases hsz : i < listed.size
          · simp [hsz] at h0 hl; rw [h0] at hl; cases hl
          · simp [Array.getElem?_eq_none (Nat.le_of_not_lt hsz)] at hl
        have h2 := Hel.put (noDefer_spec hn hoj) hoj (hfree j oj hoj hji hun hno) (fun cs b => Region.noSelect_spec hs i oi cs b hi) (fun cs b => Region.noSelect_spec hs j oj cs b hoj) hQ hy h1
        refine wpOpIn_mono (fun a' w' h3 => ?_) h2
        have hS' : gn ops (listed.setIfInBounds j true) m = false → S w' := fun h => h3.2.1 (by rw [Array.setIfInBounds_comm _ _ (Ne.symm hji), gn_ne hne]; exact h)
        refine ⟨hS', Hem.first hn hi hs hne hb hQ f _ a' w' (hcl.step hj) (fun k ok hk hki hkun hkno => hfree k ok hk hki ?_ hkno) (ready_mono hr (Ne.symm hji)) h3.1 hS' ?_⟩
        · by_cases hjk : j = k
          · subst hjk; exact hun
          · rwa [getD_set_ne true hjk] at hkun
        · rw [Array.setIfInBounds_comm _ _ hji]; exact h3.2.2⟩
theorem Hem.str (hS : ∀ w, S' w → S w) : ∀ (f : Nat) (li : Array Bool) (a : Act) (w : World), Hem r P ops Q S' m f li a w → Hem r P ops Q S m f li a w
  | 0, _, _, _, h => h
  | f + 1, li, a, w, h => ⟨h.1, fun i hi => wpOpIn_mono (fun a' w' h' => ⟨fun hm => hS w' (h'.1 hm), Hem.str hS f _ a' w' h'.2⟩) (h.2 i hi)⟩
/-- how it goes on behind one of its operations -/
def HZ (r : Option Nat) (P : Program) (ops : Array Oper) (Q : Exit → Act → World → Prop) (S : World → Prop) (m fuel : Nat) (listed : Array Bool) (i : Nat) : Exit → Act → World → Prop
  | .normal, a, w => (gn ops (listed.setIfInBounds i true) m = false → S w) ∧ Hem r P ops Q S m fuel (listed.setIfInBounds i true) a w
  | e, a, w => Q e a w
theorem Hem.list {a : Act} {w : World} {fuel : Nat} {listed : Array Bool} {i : Nat} {o : Oper} (hi : ops[i]? = some o) (h : WL r P ops (HZ r P ops Q S m fuel listed i) [o] a w) : wpOpIn (FW r) 0 P ops Q i (fun a' w' => (gn ops (listed.setIfInBounds i true) m = false → S w') ∧ Hem r P ops Q S m fuel (listed.setIfInBounds i true) a' w') a w := by
  unfold wpOpIn
  rw [hi]
  simp only []
  unfold WL wpListIn at h
  by_cases hw : Region.wanted o (yielded ops a.tmps) = true
  · rw [if_pos hw] at h ⊢
    refine ⟨h.1, ?_⟩
    have h := h.2
    generalize (o.semAt (FW r).round a.eval).run P w = res at h ⊢
    cases res with
    | ok x w' =>
      cases x with
      | enter f args => exact ⟨h.1, CallsIn.mono h.2 fun e w'' he => by cases e <;> first | exact he | exact he.elim fun _ hh => hh.elim fun _ hh => ⟨_, _, hh⟩⟩
      | row row args => exact ⟨h.1, RowsIn.mono h.2 fun _ _ he => he⟩
      | round l f tmps assign body => exact ⟨h.1, RoundIn.mono h.2 fun e w'' he => by cases e <;> first | exact he | exact he.elim fun _ hh => hh.elim fun _ hh => ⟨_, _, hh⟩⟩
      | _ => exact h
    | halt x w' => cases x <;> exact h
  · rw [if_neg hw] at h ⊢
    exact h
section
variable {K : Kn} {w : World} {n : Nat} {ds : List Deferred}
theorem dqm_walk {li' : Array Bool} {f : Nat} (hn : (Region.noSelect ops && noDefer ops) = true) (hQ : ∀ c a d v w, Q (.panic c) (Act.put a d v) w → Q (.panic c) a w) {bb : Nat → Bool} (hbb : ∀ i, bb i = true → ∀ o, ops[i]? = some o → i ≠ m ∧ ((bon ops m i = true ∧ ∀ w, S w → K.ok w) ∨ ∀ w, K.ok w)) :
    ∀ {is : List (Nat × Hint)} {li : Array Bool} {s s' : QS} {a : Act}, (gn ops li m = false → S w) → Clo ops li → is.all (fun p => bb p.1) = true → dqs P K n ops is li s = some (li', s') → (∀ p, p ∈ s'.c → p) → (∀ p, p ∈ s'.q → p.1 = p.2) → s.ok a n ds → (∀ a', s'.ok a' n ds → Hem r P ops Q S m f li' a' w) → Hem r P ops Q S m (f + is.length) li a w
  | [], _, s, s', a, _, _, _, hq, _, _, hs, h => by simp only [dqs, Option.some.injEq, Prod.mk.injEq] at hq; obtain ⟨h1, h2⟩ := hq; subst h1; subst h2; exact h a hs
  | (i, g) :: is, li, s, s', a, hS, hcl, hb, hq, hc, he, hs0, h => by
    have hn' := hn
    rw [Bool.and_eq_true] at hn
    rw [List.all_cons, Bool.and_eq_true] at hb
    unfold dqs at hq
    split at hq
    · rename_i o hi
      split at hq
      · rename_i hfr
        rw [Bool.and_eq_true] at hfr
        split at hq
        · rename_i s1 h1
          have hle := dqs_le hq
          obtain ⟨d, v, hd, k1, k2, k3⟩ := q1_ok hs0 h1 (fun p hp => hc p (hle.c p hp)) (fun p hp => he p (hle.q p hp))
          have hrest : Hem r P ops Q S m (f + is.length) (li.setIfInBounds i true) (a.put (some d) v) w := dqm_walk hn' hQ hbb (fun hg => hS (gn_mono hg)) (hcl.step (by simpa using hfr.2)) hb.2 hq hc he k1 h
          obtain ⟨hne, hb1⟩ := hbb i hb.1 o hi
          refine Hem.first (T := K.ok) hn.2 hi hn.1 hne hb1 (fun c a w => hQ c a _ v w) _ li a w hcl (Region.free_spec hi hfr.1) (by simpa using hfr.2) ?_ hS (by rw [hd]; exact hrest)
          rcases k3 with ⟨hw, hv⟩ | ⟨hw, rfl⟩
          · exact .inl ⟨hw, hv⟩
          · exact .inr ⟨hw, rfl⟩
        · cases hq
      · cases hq
    · cases hq
end
variable {C : Cx} {l : List (Nat × Value)} {H Hq : List (Nat × Res)} {f : Nat} {li : List Bool}
/-- what is left of a region in an open order; Hq: what all that is left keeps, but for m, which comes last -/
abbrev AH (r : Option Nat) (P : Program) (ops : Array Oper) (Q : Exit → Act → World → Prop) (Hq : List (Nat × Res)) (m f : Nat) (li : List Bool) (C : Cx) (l : List (Nat × Value)) (H : List (Nat × Res)) : Prop :=
  ∀ a w, Fr a C.n C.ds l → Hp C H w → Hem r P ops Q (Hp C Hq) m f li.toArray a w
theorem Hp.drew {w w' : World} (h : Hp C H w) (hc : Ch [] w w') : Hp C H w' := by
  refine ⟨?_, fun k r hk1 => ?_, fun k b hb => ?_, h.dis, h.ref⟩
  · have hch := h.ch
    exact ⟨hc.os.trans hch.os, hc.tape.trans hch.tape, hc.output.trans hch.output, Nat.le_trans hch.size hc.size, fun b hb' hn => by rw [hc.block b (Nat.lt_of_lt_of_le hb' hch.size) (by simp)]; exact hch.block b hb' hn⟩
  · exact Res.to (h.hold k r hk1) hc (fun b hF _ => ⟨by simp, hF⟩) (fun b hB _ => ⟨by simp, hB⟩) (fun i b _ hB => ⟨by simp, hB⟩) (by simp)
  · exact ⟨(h.bnd k b hb).1, Nat.lt_of_lt_of_le (h.bnd k b hb).2 hc.size⟩
theorem AX.dr {Y : Exit → Act → World → Prop} {K : List Kx} {id : Nat} {lo : List Oper} (hm : P.follows .mixedOrders = true) (m f : Nat) (li : List Bool) (h : AH r P lo.toArray (kont r P Y K) [] m f li C l H) (hf1 : lo.toArray.size = f := by rfl) (hl : (Array.replicate lo.toArray.size false).toList = li := by kernel_rfl) :
    AX r P Y K (.region id lo.toArray true) C l H := fun a w hf hh => by
  subst hf1; subst hl
  have := h a _ hf (Hp.drew hh (Ch.drew w))
  rw [Array.toArray_toList] at this
  exact wpIn_region_any hm (Hem.any _ _ _ _ this)
/-- from here on more is kept -/
theorem AH.str (gs : List Nat) {Hq' : List (Nat × Res)} (h : AH r P ops Q Hq' m f li C l H) (e : kpH Hq' gs gs = Hq := by kernel_rfl) : AH r P ops Q Hq m f li C l H := fun a w hf hh =>
  Hem.str (fun w h => h.cov gs e) _ _ a w (h a w hf hh)
/-- quiet operations first; qs: the things that all that is left keeps -/
theorem AH.q (hQ : Pq Q) (gs qs bs es : List Nat) (li' : List Bool) (f : Nat) (is : List (Nat × Hint)) (ks : List Nat) (cs : List Prop) (nl : List (Nat × Value)) {g : Nat} (hc : conj cs) (h : AH r P ops Q (kpH H qs qs) m f li' C (cat nl l) H)
    (hg : g = f + is.length := by rfl) (hb : is.all (fun p => bon ops m p.1) = true := by kernel_rfl) (hcl : cloB ops li.toArray = true := by kernel_rfl) (hn : (Region.noSelect ops && noDefer ops) = true := by kernel_rfl)
    (hq : ((dqs P ⟨knb (kpH H qs qs) bs, kne (kpH H qs qs) es⟩ C.n ops is li.toArray (q0 l)).bind fun x => (qfin l ks x.2).map fun y => (x.1.toList, y)) = some (li', cs, nl) := by kernel_rfl)
    (he : (dqs P ⟨knb (kpH H qs qs) bs, kne (kpH H qs qs) es⟩ C.n ops is li.toArray (q0 l)).map (fun s => s.2.q.map Prod.fst) = (dqs P ⟨knb (kpH H qs qs) bs, kne (kpH H qs qs) es⟩ C.n ops is li.toArray (q0 l)).map (fun s => s.2.q.map Prod.snd) := by kernel_rfl)
    (e : kpH (kpH H qs qs) gs gs = Hq := by kernel_rfl) : AH r P ops Q Hq m g li C l H := AH.str gs (e := e) fun a w hf hh => by
  subst hg
  cases hq1 : dqs P ⟨knb (kpH H qs qs) bs, kne (kpH H qs qs) es⟩ C.n ops is li.toArray (q0 l) with
  | none => rw [hq1] at hq; cases hq
  | some x =>
    obtain ⟨li1, s'⟩ := x
    rw [hq1] at hq he
    have hq : ((qfin l ks s').map fun y => (li1.toList, y)) = some (li', cs, nl) := hq
    have he : s'.q.map Prod.fst = s'.q.map Prod.snd := by injection he
    cases hq2 : qfin l ks s' with
    | none => rw [hq2] at hq; cases hq
    | some y =>
      obtain ⟨cs1, nl1⟩ := y
      rw [hq2] at hq
      simp only [Option.map_some, Option.some.injEq, Prod.mk.injEq] at hq
      obtain ⟨h1, h2, h3⟩ := hq
      subst h1; subst h2; subst h3
      have hcs : s'.c = cs1 := by unfold qfin at hq2; split at hq2; (injection hq2 with hq2; injection hq2); cases hq2
      exact dqm_walk hn hQ (bb := fun i => bon ops m i) (fun i hi o ho => ⟨bon_ne ho hi, .inl ⟨hi, fun w' h' => kn_ok h' bs es⟩⟩) (fun _ => hh.keep qs) (clo_of hcl) hb hq1 (by rw [hcs]; exact conj_all hc) (map_pairs he) (q0_ok hf) fun a' hok => by
        have := h a' w (qfin_fr hok (dqs_inv (q0_inv l) hq1) hq2).1 hh
        rwa [Array.toArray_toList] at this
/-- an operation that tells the same in all worlds that keep what is kept -/
theorem AH.v (hQ : Pq Q) (gs qs : List Nat) (i : Nat) (li' : List Bool) {d : Nat} {op : Op} {T : TypeId} {pos : String} {af : Array Edge} {v : Value} (hi : ops[i]? = some ⟨some d, op, T, pos, af, none⟩) (hr : ∀ a w, Fr a C.n C.ds l → Hp C (kpH H qs qs) w → (execOp a.eval ⟨some d, op, T, pos, af, none⟩).run P w = .ok (.value v) w)
    (h : AH r P ops Q (kpH H qs qs) m f li' C ((d, v) :: l) H) (hb : bon ops m i = true := by kernel_rfl) (hcl : cloB ops li.toArray = true := by kernel_rfl) (hl : (li.toArray.setIfInBounds i true).toList = li' := by kernel_rfl) (hd : Nat.ble (d + 1) C.n = true := by rfl) (hs : (Region.noSelect ops && noDefer ops) = true := by kernel_rfl)
    (hfr : (Region.free .any ops li.toArray i && (Region.ready .any ops li.toArray).contains i) = true := by kernel_rfl) (e : kpH (kpH H qs qs) gs gs = Hq := by kernel_rfl) : AH r P ops Q Hq m (f + 1) li C l H := AH.str gs (e := e) fun a w hf hh => by
  rw [Bool.and_eq_true] at hs hfr
  refine Hem.first (T := Hp C (kpH H qs qs)) hs.2 hi hs.1 (bon_ne hi hb) (.inl ⟨hb, fun _ h => h⟩) (fun c a w => hQ c a _ _ w) f li.toArray a w (clo_of hcl) (Region.free_spec hi hfr.1) (by simpa using hfr.2) (.inl ⟨wanted_none, fun w' h' => hr a w' hf h'⟩) (fun _ => hh.keep qs) ?_
  have := h _ w (hf.put (Nat.le_of_ble_eq_true hd) v) hh
  rw [← hl, Array.toArray_toList] at this
  exact this
/-- the same, under a guard that lets it run -/
theorem AH.vg (hQ : Pq Q) (gs qs : List Nat) (i : Nat) (li' : List Bool) {d j dj : Nat} {b : Bool} {op : Op} {T : TypeId} {pos : String} {af : Array Edge} {v : Value} (hi : ops[i]? = some ⟨some d, op, T, pos, af, some (j, b)⟩) (hr : ∀ a w, Fr a C.n C.ds l → Hp C (kpH H qs qs) w → (execOp a.eval ⟨some d, op, T, pos, af, none⟩).run P w = .ok (.value v) w)
    (h : AH r P ops Q (kpH H qs qs) m f li' C ((d, v) :: l) H) (hj : (ops[j]?).bind (·.dst) = some dj := by rfl) (hbb : lk l dj = some (.bool b) := by rfl) (hb : bon ops m i = true := by kernel_rfl) (hcl : cloB ops li.toArray = true := by kernel_rfl) (hl : (li.toArray.setIfInBounds i true).toList = li' := by kernel_rfl) (hd : Nat.ble (d + 1) C.n = true := by rfl) (hs : (Region.noSelect ops && noDefer ops) = true := by kernel_rfl)
    (hfr : (Region.free .any ops li.toArray i && (Region.ready .any ops li.toArray).contains i) = true := by kernel_rfl) (e : kpH (kpH H qs qs) gs gs = Hq := by kernel_rfl) : AH r P ops Q Hq m (f + 1) li C l H := AH.str gs (e := e) fun a w hf hh => by
  rw [Bool.and_eq_true] at hs hfr
  refine Hem.first (T := Hp C (kpH H qs qs)) hs.2 hi hs.1 (bon_ne hi hb) (.inl ⟨hb, fun _ h => h⟩) (fun c a w => hQ c a _ _ w) f li.toArray a w (clo_of hcl) (Region.free_spec hi hfr.1) (by simpa using hfr.2) (.inl ⟨wanted_on hf hj hbb, fun w' h' => hr a w' hf h'⟩) (fun _ => hh.keep qs) ?_
  have := h _ w (hf.put (Nat.le_of_ble_eq_true hd) v) hh
  rw [← hl, Array.toArray_toList] at this
  exact this
/-- just one operation may come up -/
theorem AH.one (i : Nat) {o : Oper} (h : AL r P ops (HZ r P ops Q (Hp C Hq) m f li.toArray i) [o] C l H) (hi : ops[i]? = some o := by rfl) (hr : Region.ready .any ops li.toArray = [i] := by kernel_rfl) : AH r P ops Q Hq m (f + 1) li C l H := fun a w hf hh =>
  ⟨fun h0 => (by rw [hr] at h0; cases h0), fun j hj => by rw [hr, List.mem_singleton] at hj; subst hj; exact Hem.list hi (h a w hf hh)⟩
/-- behind it -/
theorem AH.nx {i : Nat} (li' : List Bool) (gs : List Nat) (h : AH r P ops Q Hq m f li' C l H) (e : kpH H gs gs = Hq := by kernel_rfl) (hl : (li.toArray.setIfInBounds i true).toList = li' := by kernel_rfl) : AL r P ops (HZ r P ops Q (Hp C Hq) m f li.toArray i) [] C l H := fun a w hf hh => by
  refine Z.done ?_
  show (_ → Hp C Hq w) ∧ _
  have := h a w hf hh
  rw [← hl, Array.toArray_toList] at this
  exact ⟨fun _ => hh.cov gs e, this⟩
theorem AH.done {Y : Exit → Act → World → Prop} {K : List Kx} (h : AE r P Y K .normal C l H) (hr : Region.ready .any ops li.toArray = [] := by kernel_rfl) : AH r P ops (kont r P Y K) Hq m f li C l H := fun a w hf hh => by
  cases f with
  | zero => exact ⟨hr, h a w hf hh⟩
  | succ f => exact ⟨fun _ => h a w hf hh, by rw [hr]; simp⟩
theorem cov {X : Act → World → Prop} {l' : List (Nat × Value)} {H' : List (Nat × Res)} (gs : List Nat) (h : ∀ a w, Fr a C.n C.ds l' → Hp C H' w → X a w) (h1 : kp l (l'.map (·.1)) = l' := by kernel_rfl) (h2 : kpH H gs gs = H' := by kernel_rfl) : ∀ a w, Fr a C.n C.ds l → Hp C H w → X a w := fun a w hf hh => h a w (Fr.cov hf h1) (hh.cov gs h2)
end
/-- the index of an element is reckoned: what it points at is known ahead -/
theorem peek {C : Cx} {H : List (Nat × Res)} {w : World} (hh : Hp C H w) (k kn : Nat) {t : Ty} {A : Option Addr} {c : Nat} {xs : List t.den} {i : Int} {v : t.den} (hi : ix xs i = some v) (hrow : ∀ w, Hp C H w → ∃ G : Nat → Prop, Row t w (Fh C H) G A c xs ∧ ∀ b, G b → ∀ k, ¬ Bk H k b) (hn : nok H kn (1 + lv t) = true) :
    ∃ ps : Lf, ps.length = lv t ∧ t.ok v ∧ ∃ b o, A = some ⟨b, o, none⟩ ∧ Hp C (hcat (kx (kn + 1) (rs t v ps)) ((kn, .el none b (o + i.toNat * t.size) (cl t v ps)) :: H)) w := by
  obtain ⟨k, rfl, hv⟩ := ix_some hi
  obtain ⟨G, hR, hG⟩ := hrow w hh
  obtain ⟨b, o, es, hA, hb, hbl, hc, hr⟩ := hR.at hv
  obtain ⟨ps, hl, rfl, hrs⟩ := rep_cl (B := Bk H) t (rep_in t hr)
  have hnk : hk H kn = none := nok_none hn (Nat.le_refl _) (by omega)
  have h1 : Hp C ((kn, .el none b (o + k * t.size) (cl t v ps)) :: H) w := hh.add hnk rfl (fun j hj => by cases hj) ⟨hc, hbl, hG b hb⟩
  have hnn : ∀ n k', nok H k' n = true → (∀ j, k' ≤ j → j < k' + n → j ≠ kn) → nok ((kn, .el none b (o + k * t.size) (cl t v ps)) :: H) k' n = true := by
    intro n
    induction n with
    | zero => intro _ _ _; rfl
    | succ n ih =>
      intro k' h2 h3
      simp only [nok, Bool.and_eq_true] at h2 ⊢
      refine ⟨?_, ih (k' + 1) h2.2 fun j h4 h5 => h3 j (by omega) (by omega)⟩
      rw [hk_cons, if_neg (Ne.symm (h3 k' (Nat.le_refl _) (by omega)))]; exact h2.1
  have hn2 : nok H (kn + 1) (rs t v ps).length = true := by
    rw [rs_len t v ps hl]
    rw [Nat.add_comm 1] at hn
    simp only [nok, Bool.and_eq_true] at hn; exact hn.2
  refine ⟨ps, hl, rep_ok t hr, b, o, hA, ?_⟩
  rw [Int.toNat_natCast]
  refine h1.adds (hnn _ _ hn2 fun j h4 _ => by omega) fun r2 h4 => ?_
  obtain ⟨h5, h6, h7⟩ := hrs r2 h4
  have hbk : ∀ j b', Bk ((kn, .el none b (o + k * t.size) (cl t v ps)) :: H) j b' ↔ Bk H j b' := fun j b' => by
    by_cases hj : j = kn
    · subst hj
      rw [Bk.cons_eq]
      exact ⟨fun h => by simp [Res.bl] at h, fun ⟨_, h8, _⟩ => by rw [hnk] at h8; cases h8⟩
    · exact Bk.cons_ne hj
  exact ⟨h6, h7, Res.to h5 (S := []) (Ch.refl w) (fun b' hF _ => ⟨by simp, ⟨fun j hj => hF.1.1 j ((hbk j b').1 hj), hF.1.2⟩, hF.2⟩) (fun b' hB _ => ⟨by simp, fun j hj => hB j ((hbk j b').1 hj)⟩) (fun i b' _ hB => ⟨by simp, (hbk i b').2 hB⟩) (by simp)⟩
end Go.A
end

section
set_option linter.unusedVariables false
set_option linter.unusedSimpArgs false
namespace Go.A
open Go.RowKit Go.Z

/-- rounds at most -/
def FU : Nat := 340282366920938463463374607431768211456
/-- only if a thing holds -/
def gd {α : Type} (p : Prop) [Decidable p] (x : Option α) : Option α := if p then x else none
theorem gd_some {α : Type} {p : Prop} [Decidable p] {x : Option α} {y : α} (h : gd p x = some y) : p ∧ x = some y := by
  unfold gd at h
  split at h
  · exact ⟨‹p›, h⟩
  · cases h
theorem bd_some {α β : Type} {x : Option α} {f : α → Option β} {y : β} (h : x.bind f = some y) : ∃ v, x = some v ∧ f v = some y := Option.bind_eq_some_iff.1 h
theorem no0 {α : Type} {y : α} {p : Prop} (h : (none : Option α) = some y) : p := by cases h
theorem ix_nat {α : Type} (xs : List α) (k : Nat) : ix xs (k : Int) = xs[k]? := by unfold ix; rw [if_neg (by omega), Int.toNat_natCast]
instance (k : IntKind) (n : Int) : Decidable (k.has n) := by unfold IntKind.has; infer_instance
theorem hasl (k : IntKind) (n : Int) (h : decide (k.has n) = true) : k.has n := of_decide_eq_true h
theorem has_min {k : IntKind} {a b : Int} (h1 : k.has a) (h2 : k.has b) : k.has (min a b) := by
  rcases Int.le_total a b with h | h
  · rw [Int.min_eq_left h]; exact h1
  · rw [Int.min_eq_right h]; exact h2
section
variable {X : Act → World → Prop} {C : Cx} {l : List (Nat × Value)} {H : List (Nat × Res)}
theorem nil (k : Nat) (t : Ty) (e : TypeId) (h : ∀ a w, Fr a C.n C.ds l → Hp C ((k, .own t e none 0 []) :: H) w → X a w) (hn : hk H k = none := by kernel_rfl) : ∀ a w, Fr a C.n C.ds l → Hp C H w → X a w := fun a w hf hh =>
  h a w hf (hh.add hn rfl (fun j hj => by cases hj) (Own.nil t e 0 w _))
theorem snil (k : Nat) (t : Ty) (h : ∀ a w, Fr a C.n C.ds l → Hp C ((k, .sh (.slice t) [.slice none 0 0] []) :: H) w → X a w) (hn : hk H k = none := by kernel_rfl) : ∀ a w, Fr a C.n C.ds l → Hp C H w → X a w := fun a w hf hh =>
  h a w hf (hh.add hn rfl (fun j hj => by cases hj) (rep_nil t))
theorem frz (k : Nat) (js : List Nat) {t : Ty} {e : TypeId} {A : Option Addr} {c : Nat} {xs : List t.den} (h : ∀ a w, Fr a C.n C.ds l → Hp C ((k, .sh (.slice t) [.slice A xs.length c] xs) :: ded js H) w → X a w) (hk1 : hk H k = some (.own t e A c xs) := by rfl) (hj : hng [k] js H = true := by kernel_rfl) : ∀ a w, Fr a C.n C.ds l → Hp C H w → X a w := fun a w hf hh => h a w hf (Hp.dd (hh.frz hk1) hj)
/-- a slot's value, told otherwise -/
theorem cst (d : Nat) {v v' : Value} (e : v = v') (h : ∀ a w, Fr a C.n C.ds ((d, v') :: l) → Hp C H w → X a w) (h1 : lk l d = some v := by rfl) : ∀ a w, Fr a C.n C.ds l → Hp C H w → X a w := fun a w hf hh => h a w (hf.cons hf (by rw [h1, e])) hh
/-- an own row, by another number -/
theorem Hp.mv {w : World} (hh : Hp C H w) {k k2 : Nat} {r : Res} (h1 : hk H k = some r) (hne : k2 ≠ k) (h2 : ∀ u, hk H k2 = some u → u = .dead) (hr : r.ref = none) : Hp C ((k2, r) :: (k, .dead) :: drp k H) w := by
  have hd : Hp C ((k, .dead) :: drp k H) w := hh.upd (S := []) (Ch.refl w) (by simp) (by simp [Res.bl]) (fun j hj => by cases hj) fun _ _ _ _ _ _ _ => trivial
  have hbk : ∀ j b, Bk ((k2, r) :: (k, .dead) :: drp k H) j b → (j = k2 ∧ b ∈ r.bl) ∨ (j ≠ k2 ∧ j ≠ k ∧ Bk H j b) := fun j b ⟨r2, h3, h4⟩ => by
    rw [hk_cons] at h3
    split at h3
    · rename_i e; injection h3 with h3; subst h3; exact .inl ⟨e.symm, h4⟩
    · rename_i hn
      rw [hk_cons] at h3
      split at h3
      · injection h3 with h3; subst h3; cases h4
      · rename_i hn2
        rcases hk_drp k H j r2 h3 with rfl | ⟨h5, _⟩
        · cases h4
        · exact .inr ⟨Ne.symm hn, Ne.symm hn2, r2, h5, h4⟩
  have hnb : ∀ b, (∀ j, ¬ Bk H j b) → ∀ j, ¬ Bk ((k2, r) :: (k, .dead) :: drp k H) j b := fun b hB j hj => by
    rcases hbk j b hj with ⟨_, h3⟩ | ⟨_, _, h3⟩
    · exact hB k ⟨r, h1, h3⟩
    · exact hB j h3
  refine ⟨hh.ch, fun j r2 hj => ?_, fun j b hj => ?_, fun j j' b hj hj' => ?_, fun j r2 i hj hri => ?_⟩
  · rw [hk_cons] at hj
    split at hj
    · injection hj with hj; subst hj
      exact Res.to (hh.hold k r h1) (S := []) (Ch.refl w) (fun b hF _ => ⟨by simp, hnb b hF.1, hF.2⟩) (fun b hB _ => ⟨by simp, hnb b hB⟩) (fun i b hi _ => by rw [hr] at hi; cases hi) (by simp)
    · rename_i hn
      rw [hk_cons] at hj
      split at hj
      · injection hj with hj; subst hj; trivial
      · rename_i hn2
        rcases hk_drp k H j r2 hj with rfl | ⟨h5, h6⟩
        · trivial
        · refine Res.to (hh.hold j r2 h5) (S := []) (Ch.refl w) (fun b hF _ => ⟨by simp, hnb b hF.1, hF.2⟩) (fun b hB _ => ⟨by simp, hnb b hB⟩) (fun i b hi hB => ⟨by simp, ?_⟩) (by simp)
          obtain ⟨r3, h7, h8⟩ := hB
          have hik : i ≠ k := fun e => h6 (by rw [hi, e])
          have hik2 : i ≠ k2 := fun e => by subst e; rw [h2 _ h7] at h8; cases h8
          refine ⟨r3, ?_, h8⟩
          rw [hk_cons, if_neg (Ne.symm hik2), hk_cons, if_neg (Ne.symm hik)]
          exact hk_drp_of h7 (by rw [(hh.ref j r2 i h5 hi).2 r3 h7]; simp)
  · rcases hbk j b hj with ⟨_, h3⟩ | ⟨_, _, h3⟩
    · exact hh.bnd k b ⟨r, h1, h3⟩
    · exact hh.bnd j b h3
  · rcases hbk j b hj with ⟨h3, h4⟩ | ⟨_, h3, h4⟩ <;> rcases hbk j' b hj' with ⟨h5, h6⟩ | ⟨_, h5, h6⟩
    · rw [h3, h5]
    · exact absurd (hh.dis k j' b ⟨r, h1, h4⟩ h6) (Ne.symm h5)
    · exact absurd (hh.dis k j b ⟨r, h1, h6⟩ h4) (Ne.symm h3)
    · exact hh.dis j j' b h4 h6
  · rw [hk_cons] at hj
    split at hj
    · injection hj with hj; subst hj; rw [hr] at hri; cases hri
    · rename_i hn
      obtain ⟨h5, h6⟩ := hd.ref j r2 i hj hri
      refine ⟨h5, fun r3 h7 => ?_⟩
      rw [hk_cons] at h7
      split at h7
      · injection h7 with h7; subst h7; exact hr
      · exact h6 r3 h7
theorem mv (k k2 : Nat) (js : List Nat) {r : Res} (h : ∀ a w, Fr a C.n C.ds l → Hp C ((k2, r) :: (k, .dead) :: ded js H) w → X a w) (hk1 : hk H k = some r := by rfl) (hr : r.ref = none := by rfl) (hn : hk H k2 = none := by kernel_rfl) (hj : hng [k] js H = true := by kernel_rfl) : ∀ a w, Fr a C.n C.ds l → Hp C H w → X a w := fun a w hf hh => h a w hf (Hp.dd2 (hh.mv hk1 (fun e => by subst e; rw [hk1] at hn; cases hn) (fun u hu => by rw [hn] at hu; cases hu) hr) hj)
def gone (H : List (Nat × Res)) (k : Nat) : Bool := match hk H k with
  | none => true
  | some .dead => true
  | _ => false
theorem mvd (k k2 : Nat) (js : List Nat) {r : Res} (h : ∀ a w, Fr a C.n C.ds l → Hp C ((k2, r) :: (k, .dead) :: ded js H) w → X a w) (hk1 : hk H k = some r := by rfl) (hr : r.ref = none := by rfl) (hne : Nat.beq k2 k = false := by rfl) (hn : gone H k2 = true := by kernel_rfl) (hj : hng [k] js H = true := by kernel_rfl) : ∀ a w, Fr a C.n C.ds l → Hp C H w → X a w := fun a w hf hh => h a w hf (Hp.dd2 (hh.mv hk1 (fun e => by rw [e, Nat.beq_refl] at hne; cases hne) (fun u hu => by
  unfold gone at hn; rw [hu] at hn
  cases u <;> first | rfl | cases hn) hr) hj)
end
section
variable {r : Option Nat} {P : Program} {ops : Array Oper} {Q : Exit → Act → World → Prop} {C : Cx} {l : List (Nat × Value)} {H Hq : List (Nat × Res)} {m f : Nat} {li : List Bool}
theorem AH.cnd {ρ : Type} {A B R : Option ρ} {j : Nat} {b : Bool} (hb : lk l j = some (.bool b)) (hF : (if b = true then A else B) = R) (ht : A = R → AH r P ops Q Hq m f li C ((j, .bool true) :: l) H) (he : B = R → AH r P ops Q Hq m f li C ((j, .bool false) :: l) H) : AH r P ops Q Hq m f li C l H := fun a w hf hh => by
  cases b with
  | true => rw [if_pos rfl] at hF; exact ht hF a w (hf.cons hf hb) hh
  | false => rw [if_neg (by simp)] at hF; exact he hF a w (hf.cons hf hb) hh
theorem AH.cnp {ρ : Type} {A B R : Option ρ} {j : Nat} {p : Prop} [Decidable p] (hb : lk l j = some (.bool (decide p))) (hF : (if p then A else B) = R) (ht : p → A = R → AH r P ops Q Hq m f li C ((j, .bool true) :: l) H) (he : ¬ p → B = R → AH r P ops Q Hq m f li C ((j, .bool false) :: l) H) : AH r P ops Q Hq m f li C l H := fun a w hf hh => by
  by_cases hp : p
  · rw [if_pos hp] at hF; exact ht hp hF a w (hf.cons hf (by rw [hb, decide_eq_true hp])) hh
  · rw [if_neg hp] at hF; exact he hp hF a w (hf.cons hf (by rw [hb, decide_eq_false hp])) hh
theorem AH.pkl (k kn : Nat) {t : Ty} {A : Option Addr} {c : Nat} {xs : List t.den} {i : Int} {v : t.den} (hi : ix xs i = some v) (h : t.ok v → tele (lv t) fun ps => ∀ b o, A = some ⟨b, o, none⟩ → AH r P ops Q Hq m f li C l (hcat (kx (kn + 1) (rs t v ps)) ((kn, .el none b (o + i.toNat * t.size) (cl t v ps)) :: H)))
    (hk1 : hk H k = some (.ln t A c xs) := by rfl) (hn : nok H kn (1 + lv t) = true := by kernel_rfl) : AH r P ops Q Hq m f li C l H := fun a w hf hh => by
  obtain ⟨ps, hl, hok, b, o, hA, h2⟩ := peek hh k kn hi (rowL hk1) hn
  exact tele_at (h hok) ps hl b o hA a w hf h2
theorem AH.pko (k kn : Nat) {t : Ty} {e : TypeId} {A : Option Addr} {c : Nat} {xs : List t.den} {i : Int} {v : t.den} (hi : ix xs i = some v) (h : t.ok v → tele (lv t) fun ps => ∀ g, A = some ⟨g, 0, none⟩ → AH r P ops Q Hq m f li C l (hcat (kx (kn + 1) (rs t v ps)) ((kn, .el (some k) g (i.toNat * t.size) (cl t v ps)) :: H)))
    (hk1 : hk H k = some (.own t e A c xs) := by rfl) (hn : nok H kn (1 + lv t) = true := by kernel_rfl) : AH r P ops Q Hq m f li C l H := fun a w hf hh => by
  obtain ⟨k', rfl, hv⟩ := ix_some hi
  obtain ⟨G, hR, hG⟩ := rowO hk1 w hh
  obtain ⟨b, o, es, hA, hb, hbl, hc, hr⟩ := hR.at hv
  have ho : o = 0 := by
    obtain ⟨cells, hrow, _⟩ : Own t e 0 w (Fh C H) A c xs := hh.hold k _ hk1
    rcases hrow.2 with ⟨hv, _⟩ | ⟨g, cap, cur, hv, _⟩
    · injection hv with hA' _ _; rw [hA] at hA'; cases hA'
    · injection hv with hA' _ _; rw [hA] at hA'; injection hA' with hA'; injection hA' with _ h2 _
  subst ho
  rw [Nat.zero_add] at hc
  obtain ⟨ps, hl, rfl, hrs⟩ := rep_cl (B := Bk H) t (rep_in t hr)
  have hnk : hk H kn = none := nok_none hn (Nat.le_refl _) (by omega)
  have h1 : Hp C ((kn, .el (some k) b (k' * t.size) (cl t v ps)) :: H) w := hh.add hnk rfl (fun j hj r hr => by injection hj with hj; subst hj; rw [hk1] at hr; injection hr with hr; subst hr; rfl) ⟨hc, hbl, hG b hb⟩
  have hn2 : nok H (kn + 1) (rs t v ps).length = true := by
    rw [rs_len t v ps hl]
    rw [Nat.add_comm 1] at hn
    simp only [nok, Bool.and_eq_true] at hn; exact hn.2
  have hnn : ∀ n k2, nok H k2 n = true → (∀ j, k2 ≤ j → j < k2 + n → j ≠ kn) → nok ((kn, .el (some k) b (k' * t.size) (cl t v ps)) :: H) k2 n = true := by
    intro n
    induction n with
    | zero => intro _ _ _; rfl
    | succ n ih =>
      intro k2 h2 h3
      simp only [nok, Bool.and_eq_true] at h2 ⊢
      refine ⟨?_, ih (k2 + 1) h2.2 fun j h4 h5 => h3 j (by omega) (by omega)⟩
      rw [hk_cons, if_neg (Ne.symm (h3 k2 (Nat.le_refl _) (by omega)))]; exact h2.1
  have h2 : Hp C (hcat (kx (kn + 1) (rs t v ps)) ((kn, .el (some k) b (k' * t.size) (cl t v ps)) :: H)) w := by
    refine h1.adds (hnn _ _ hn2 fun j h4 _ => by omega) fun r2 h4 => ?_
    obtain ⟨h5, h6, h7⟩ := hrs r2 h4
    have hbk : ∀ j b', Bk ((kn, .el (some k) b (k' * t.size) (cl t v ps)) :: H) j b' ↔ Bk H j b' := fun j b' => by
      by_cases hj : j = kn
      · subst hj
        rw [Bk.cons_eq]
        exact ⟨fun h => by simp [Res.bl] at h, fun ⟨_, h8, _⟩ => by rw [hnk] at h8; cases h8⟩
      · exact Bk.cons_ne hj
    exact ⟨h6, h7, Res.to h5 (S := []) (Ch.refl w) (fun b' hF _ => ⟨by simp, ⟨fun j hj => hF.1.1 j ((hbk j b').1 hj), hF.1.2⟩, hF.2⟩) (fun b' hB _ => ⟨by simp, fun j hj => hB j ((hbk j b').1 hj)⟩) (fun i b' _ hB => ⟨by simp, (hbk i b').2 hB⟩) (by simp)⟩
  exact tele_at (h (rep_ok t hr)) ps hl b hA a w hf (by rw [Int.toNat_natCast]; exact h2)
theorem r_ixo {a : Act} {w : World} {d : Option Tmp} {T : TypeId} {pos : String} {af : Array Edge} {n : Nat} {ds : List Deferred} {tt e : TypeId} {x y : Operand} {A : Option Addr} {b c : Nat} {t : Ty} {xs : List t.den} {i : Int} {kd : IntKind} {v : t.den} (hi : ix xs i = some v) (hA : A = some ⟨b, 0, none⟩) (hf : Fr a n ds l)
    (hx : ev l x = some (.slice A xs.length c) := by rfl) (hy : ev l y = some (.int kd i) := by rfl) (ht : P.underlying tt = some (.slice e) := by rfl) (hs : szB P e = some t.size := by kernel_rfl) : (execOp a.eval ⟨d, .indexAddr tt x y, T, pos, af, none⟩).run P w = .ok (.value (.pointer (some ⟨b, i.toNat * t.size, none⟩))) w := by
  obtain ⟨k, rfl, hv⟩ := ix_some hi
  have := r_indexAddrA (P := P) (w := w) (d := d) (T := T) (pos := pos) (af := af) (gd := none) ht (szB_run hs) (hf.eval hx) hA (hf.eval hy) rfl (List.getElem?_eq_some_iff.1 hv).1
  rw [Addr.add_lit, Nat.zero_add] at this
  exact this
theorem r_ixa {a : Act} {w : World} {d : Option Tmp} {T : TypeId} {pos : String} {af : Array Edge} {n : Nat} {ds : List Deferred} {tt e : TypeId} {x y : Operand} {A : Option Addr} {b o c : Nat} {t : Ty} {xs : List t.den} {i : Int} {kd : IntKind} {v : t.den} (hi : ix xs i = some v) (hA : A = some ⟨b, o, none⟩) (hf : Fr a n ds l)
    (hx : ev l x = some (.slice A xs.length c) := by rfl) (hy : ev l y = some (.int kd i) := by rfl) (ht : P.underlying tt = some (.slice e) := by rfl) (hs : szB P e = some t.size := by kernel_rfl) : (execOp a.eval ⟨d, .indexAddr tt x y, T, pos, af, none⟩).run P w = .ok (.value (.pointer (some ⟨b, o + i.toNat * t.size, none⟩))) w := by
  obtain ⟨k, rfl, hv⟩ := ix_some hi
  have := r_indexAddrA (P := P) (w := w) (d := d) (T := T) (pos := pos) (af := af) (gd := none) ht (szB_run hs) (hf.eval hx) hA (hf.eval hy) rfl (List.getElem?_eq_some_iff.1 hv).1
  rw [Addr.add_lit] at this
  exact this
end
end Go.A
end

section
set_option linter.unusedVariables false
set_option linter.unusedSimpArgs false
namespace Go.A
open Go.RowKit Go.Z

/-- a value by a name -/
def lt {α β : Type} (x : α) (f : α → Option β) : Option β := f x
/-- none, or some -/
def om {α β : Type} (x : Option α) (a : Option β) (f : α → Option β) : Option β := match x with
  | none => a
  | some p => f p
section
variable {P : Program} {w : World}
theorem run_nextMapL {g b m : Nat} {seen : List Nat} {es : List (Value × Value)} {ty : TypeId} (hr : Rg w g b m seen) (hm : MapC w b es) :
    ((∀ i, i < m → i ∈ seen) ∧ (Instr.next (.pointer (some ⟨g, 0, none⟩)) false ty).run P w = .ok (.tuple #[.bool false]) w) ∨
    ∃ i k v w', i < m ∧ i ∉ seen ∧ es[i]? = some (k, v) ∧ (Instr.next (.pointer (some ⟨g, 0, none⟩)) false ty).run P w = .ok (.tuple #[.bool true, k, v]) w' ∧ Ch [g] w w' ∧ w'.heap.size = w.heap.size ∧ Rg w' g b m (i :: seen) ∧ Lst w' g b k v := by
  obtain ⟨hne, arr, clock, since, sb, hb, hlen, hg, hsc, hold, hnd, hseen⟩ := hr
  obtain ⟨arr', clock', hb', hes, _, _⟩ := hm
  rw [hb] at hb'
  injection hb' with hb'; injection hb' with hb' _
  have hb' := List.toArray_inj hb'
  subst hb'
  have hgl := (Array.getElem?_eq_some_iff.1 hg).1
  have hgetg : (getObj g).run P w = .ok (.mapIter (some b) since sb.toArray since) w := by simp [getObj, Sem.run, hg]
  have hgetb : (getObj b).run P w = .ok (.map arr.toArray clock) w := by simp [getObj, Sem.run, hb]
  have htest := next_test_false sb.toArray arr.toArray since since (by simpa using hold) (Nat.le_refl _)
  obtain ⟨L, hL⟩ : ∃ L, L = arr.toArray.filter fun e => !sb.toArray.contains e.born := ⟨_, rfl⟩
  have hLm : ∀ e, e ∈ L.toList ↔ e ∈ arr ∧ e.born ∉ sb := fun e => by rw [hL]; simp
  have e1 : L.filter (fun x => decide (x.born < since)) = L := Array.filter_eq_self.2 (fun x hx => by have := (hLm x).1 (by simpa using hx); simpa using hold x this.1)
  have e2 : L.filter (fun x => decide (x.born ≥ since)) = #[] := by
    rw [Array.filter_eq_empty_iff]
    intro x hx
    have := hold x ((hLm x).1 (by simpa using hx)).1
    simp; omega
  by_cases h0 : L.size = 0
  · left
    have hLe : L = #[] := Array.eq_empty_of_size_eq_zero h0
    refine ⟨fun i hi => ?_, ?_⟩
    · obtain ⟨e, he⟩ : ∃ e, arr[i]? = some e := ⟨_, List.getElem?_eq_getElem (by omega)⟩
      refine (hseen i e he).1 (Classical.byContradiction fun hn => ?_)
      have := (hLm e).2 ⟨List.mem_of_getElem? he, hn⟩
      rw [hLe] at this; simp at this
    · simp only [Instr.next, Sem.run_bind, hgetg, Result.andThen_ok, hgetb, htest, Bool.false_eq_true, if_false, ← hL, e1, e2, Array.append_empty]
      rw [hLe]
      simp [Question.forced]
  · right
    have hie : L.isEmpty = false := by simp [Array.isEmpty, h0]
    have hj : ∃ j, j < L.size ∧ ∃ w1 : World, (choose (.mapNext L.size)).run P w = .ok j w1 ∧ (w1 = w ∨ w1 = w.drew) := by
      rw [run_choose_drew]
      by_cases hfo : (Question.mapNext L.size).forced = true
      · rw [if_pos hfo]; exact ⟨0, by omega, w, rfl, .inl rfl⟩
      · rw [if_neg hfo]; exact ⟨_, Nat.mod_lt _ (by omega), _, rfl, .inr rfl⟩
    obtain ⟨j, hjl, w1, hch, hw1⟩ := hj
    obtain ⟨e, he⟩ : ∃ e, L[j]? = some e := ⟨_, Array.getElem?_eq_getElem hjl⟩
    have heL : e ∈ L.toList := by have := List.mem_of_getElem? (l := L.toList) (i := j) (by rw [Array.getElem?_toList]; exact he); exact this
    obtain ⟨hea, hen⟩ := (hLm e).1 heL
    obtain ⟨i, hi⟩ := List.mem_iff_getElem?.1 hea
    have hil := (List.getElem?_eq_some_iff.1 hi).1
    have hheap : w1.heap = w.heap := by rcases hw1 with rfl | rfl <;> rfl
    have hc1 : Ch [] w w1 := by rcases hw1 with rfl | rfl; exact Ch.refl _; exact Ch.drew _
    have hset : (setObj g (.mapIter (some b) since (sb.toArray.push e.born) clock)).run P w1 = .ok () (w1.putObj g (.mapIter (some b) since (sb.toArray.push e.born) clock)) := by
      simp [setObj, Sem.run, World.putObj, hheap, hg]
    refine ⟨i, e.key, e.val, w1.putObj g (.mapIter (some b) since (sb.toArray.push e.born) clock), by omega, fun hs => hen ((hseen i e hi).2 hs), by rw [← hes, List.getElem?_map, hi]; rfl, ?_, hc1.then (Ch.putObj w1 g _), by simp [hheap], ⟨hne, arr, clock, since, sb ++ [e.born], ?_, hlen, ?_, hsc, hold, hnd, ?_⟩, ?_⟩
    · simp only [Instr.next, Sem.run_bind, hgetg, Result.andThen_ok, hgetb, htest, Bool.false_eq_true, if_false, ← hL, e1, e2, hie, Array.append_empty, Array.empty_append, Array.size_map, hch, Array.getElem?_map, he, Option.map_some, hset, Sem.run_pure]
    · rw [World.putObj_heap_other (fun h => hne h.symm), hheap]; exact hb
    · rw [World.putObj_heap_same (by rw [hheap]; exact hgl)]
      subst hsc; simp
    · intro i' e' he'
      rw [List.mem_append, List.mem_singleton, List.mem_cons, hseen i' e' he']
      constructor
      · rintro (h | h)
        · exact .inr h
        · left
          have hi'l := (List.getElem?_eq_some_iff.1 he').1
          have := (List.getElem_inj hnd (i := i') (j := i) (h₀ := by simpa using hi'l) (h₁ := by simpa using hil)).1 (by
            simp only [List.getElem_map]
            rw [(List.getElem?_eq_some_iff.1 he').2, (List.getElem?_eq_some_iff.1 hi).2]; exact h)
          exact this
      · rintro (h | h)
        · right; subst h; rw [hi] at he'; injection he' with he'; rw [he']
        · exact .inl h
    · have h1 := World.putObj_heap_same (w := w1) (r := g) (o := .mapIter (some b) since (sb.toArray.push e.born) clock) (by rw [hheap]; exact hgl)
      have h2 : (w1.putObj g (.mapIter (some b) since (sb.toArray.push e.born) clock)).heap[b]? = some (.map arr.toArray clock) := by rw [World.putObj_heap_other (fun h => hne h.symm), hheap]; exact hb
      have hf : arr.find? (·.born == e.born) = some e := by
        cases hfi : arr.find? (·.born == e.born) with
        | none => have := List.find?_eq_none.1 hfi e hea; simp at this
        | some e2 =>
          have h3 := List.find?_some hfi
          obtain ⟨j, hj⟩ := List.mem_iff_getElem?.1 (List.mem_of_find?_eq_some hfi)
          have hjl := (List.getElem?_eq_some_iff.1 hj).1
          have := (List.getElem_inj hnd (i := j) (j := i) (h₀ := by simpa using hjl) (h₁ := by simpa using hil)).1 (by
            simp only [List.getElem_map]
            rw [(List.getElem?_eq_some_iff.1 hj).2, (List.getElem?_eq_some_iff.1 hi).2]; simpa using h3)
          subst this; rw [hi] at hj; exact hj.symm
      exact ⟨since, clock, e.born, sb.toArray, arr, e, h1, h2, hf, rfl, rfl⟩
end
section
variable {r : Option Nat} {P : Program} {ops : Array Oper} {Q : Exit → Act → World → Prop} {rest lst : List Oper} {C : Cx} {l : List (Nat × Value)} {H : List (Nat × Res)} {d : Nat} {op : Op} {T : TypeId} {pos : String} {af : Array Edge}
variable {κ : Type} [DecidableEq κ] {enc : κ → Value} {kt et tt : TypeId} {t : Ty} {agg : Bool} {b : Nat} {m : List (κ × t.den)}
omit [DecidableEq κ] in
/-- the next entry of a map: its rows get numbers from kn on -/
theorem AL.nxm (k ki kn : Nat) {x : Operand} {g : Nat} {seen : List Nat} {la : Option (Value × Value)}
    (h1 : (∀ i, i < m.length → i ∈ seen) → AL r P ops Q rest C ((d, .tuple #[.bool false]) :: l) H)
    (h2 : ∀ i p, m[i]? = some p → i ∉ seen → t.ok p.2 → tele (lv t) fun ps => AL r P ops Q rest C ((d, .tuple #[.bool true, enc p.1, vof agg (cl t p.2 ps)]) :: l) (hcat (kx kn (rs t p.2 ps)) ((ki, .mit k g b m.length (i :: seen) (some (enc p.1, vof agg (cl t p.2 ps)))) :: H)))
    (hk1 : hk H k = some (.mp κ enc t agg b m) := by rfl) (hk2 : hk H ki = some (.mit k g b m.length seen la) := by rfl) (hx : ev l x = some (.pointer (some ⟨g, 0, none⟩)) := by rfl) (hd : Nat.ble (d + 1) C.n = true := by rfl)
    (hn : ∀ s la, nok ((ki, .mit k g b m.length s la) :: H) kn (lv t) = true := by intro _ _; kernel_rfl) (hj : hng [ki] [] H = true := by kernel_rfl) : AL r P ops Q (⟨some d, .next x false, T, pos, af, none⟩ :: rest) C l H := fun a w hf hh => by
  have hkk : k ≠ ki := fun e => by subst e; rw [hk1] at hk2; injection hk2 with hk2; cases hk2
  obtain ⟨es, hmc, hl, h3⟩ : Mt enc t agg w (Fh C H) b m := hh.hold k _ hk1
  rcases run_nextMapL (P := P) (ty := T) (hh.hold ki _ hk2).1 hmc with ⟨h4, h5⟩ | ⟨i, kv, v, w', i1, i2, i3, i4, i5, i6, i7, i8⟩
  · refine Z.val hf hd ?_ fun a' hf' => h1 h4 a' w hf' hh
    simp only [execOp, hf.eval hx, Sem.run_bind, h5, Result.andThen_ok, Sem.run_pure]
  · obtain ⟨p, hp⟩ : ∃ p, m[i]? = some p := ⟨_, List.getElem?_eq_getElem i1⟩
    obtain ⟨cs, h6, h7⟩ := h3 i p hp
    rw [h6] at i3; injection i3 with i3; injection i3 with e1 e2
    subst e1; subst e2
    have hup : ∀ la, (∀ kv, la = some kv → Lst w' g b kv.1 kv.2) → Hp C ((ki, .mit k g b m.length (i :: seen) la) :: H) w' := fun la hla => Hp.dd (js := []) (hh.upd i5 (fun b' hb' => ⟨_, hk2, by simpa [Res.bl] using hb'⟩) (fun b' hb' => .inl ⟨_, hk2, hb'⟩) (fun j hj => by
        simp only [Res.ref, Option.some.injEq] at hj; subst hj
        exact ⟨hkk, fun r hr => by rw [hk1] at hr; injection hr with hr; subst hr; rfl⟩) fun F B _ _ _ hB _ => ⟨i7, hB k b rfl ⟨_, hk1, by simp [Res.bl]⟩, hla⟩) hj
    have hr' : ∀ la, t.rep w' (Fh C ((ki, .mit k g b m.length (i :: seen) la) :: H)) cs p.2 := fun la => by
      refine rep_to h7 i5 fun b' hb' hl' => ⟨fun hm => hb'.1 ki ⟨_, hk2, by simpa [Res.bl] using hm⟩, ⟨fun j hj => ?_, hb'.2⟩⟩
      by_cases hjk : j = ki
      · subst hjk
        have h0 := Bk.cons_eq.1 hj
        exact hb'.1 j ⟨_, hk2, h0⟩
      · obtain ⟨r2, h8, h9⟩ := (Bk.cons_ne hjk).1 hj
        exact hb'.1 j ⟨r2, h8, h9⟩
    have hok := rep_ok t h7
    obtain ⟨ps, hl2, rfl, h9⟩ := put_dat (hup (some (enc p.1, vof agg cs)) (fun kv h => by injection h with h; subst h; exact i8)) (hr' _) kn (hn _ _)
    refine Z.valw hf hd ?_ fun a' hf' => tele_at (h2 i p hp i2 hok) ps hl2 a' w' hf' h9
    simp only [execOp, hf.eval hx, Sem.run_bind, i4, Result.andThen_ok, Sem.run_pure]
end

/-! ### arrays in memory -/
section
variable {r : Option Nat} {P : Program} {ops : Array Oper} {Q : Exit → Act → World → Prop} {rest lst : List Oper} {C : Cx} {l : List (Nat × Value)} {H : List (Nat × Res)} {d : Nat} {op : Op} {T : TypeId} {pos : String} {af : Array Edge}
end
section
variable {P : Program} {C : Cx} {l : List (Nat × Value)} {H : List (Nat × Res)}
/-- a row that is none -/
theorem nilS {X : Act → World → Prop} (k : Nat) {t : Ty} {A : Option Addr} {n c : Nat} {xs : List t.den} (hA : A.isNone = true) (h : xs = [] → ∀ a w, Fr a C.n C.ds l → Hp C H w → X a w) (hk1 : hk H k = some (.sh (.slice t) [.slice A xs.length c] xs) := by rfl) : ∀ a w, Fr a C.n C.ds l → Hp C H w → X a w := fun a w hf hh =>
  h (rep_none (hh.hold k _ hk1) hA) a w hf hh
theorem Row.none {t : Ty} {w : World} {F G : Nat → Prop} {A : Option Addr} {c : Nat} {xs : List t.den} (h : Row t w F G A c xs) (hA : A.isNone = true) : xs = [] := by
  obtain ⟨_, _, _, _, h5, _⟩ := h
  rcases h5 with h5 | ⟨b, o, rfl, _⟩
  · exact List.eq_nil_of_length_eq_zero h5
  · cases hA
theorem nilL {X : Act → World → Prop} (k : Nat) {t : Ty} {A : Option Addr} {c : Nat} {xs : List t.den} (hA : A.isNone = true) (h : xs = [] → ∀ a w, Fr a C.n C.ds l → Hp C H w → X a w) (hk1 : hk H k = some (.ln t A c xs) := by rfl) : ∀ a w, Fr a C.n C.ds l → Hp C H w → X a w := fun a w hf hh => by
  obtain ⟨G, hR, _⟩ := rowL hk1 w hh
  exact h (Row.none hR hA) a w hf hh
theorem AX.cnn {r : Option Nat} {Y : Exit → Act → World → Prop} {K : List Kx} {c : Operand} {x y : Code} {b : Bool} (hc : ev l c = some (.bool b)) (ht : b = true → AX r P Y K x C l H) (he : b = false → AX r P Y K y C l H) : AX r P Y K (.cond c x y) C l H := fun a w hf hh => Z.cond hf hc (fun h => ht h a w hf hh) (fun h => he h a w hf hh)
end
section
variable {r : Option Nat} {P : Program} {ops : Array Oper} {Q : Exit → Act → World → Prop} {rest : List Oper} {C : Cx} {l : List (Nat × Value)} {H : List (Nat × Res)} {d : Nat} {T : TypeId} {pos : String} {af : Array Edge}
end
end Go.A
namespace Go.Z
section
variable {P : Program} {a : Act} {w : World}
end
end Go.Z
end

section
set_option linter.unusedVariables false
set_option linter.unusedSimpArgs false
namespace Go.A
open Go.RowKit Go.Z

/-- what an iterator promises: element after element, each as E says; what it needs is there before each -/
def Seqk (P : Program) (gf : FuncId) (cap : List Value) (N : Nat) (E : Nat → World → World → List Value → Prop) (Dat : Nat → World → Prop) : Prop :=
  ∀ (lid : Nat) (w : World) (J : Nat → World → Prop) (Jx : World → Prop), (∀ k W W', J k W → Ch [] W W' → J k W') → (∀ W W', Jx W → Ch [] W W' → Jx W') → (∀ k W, J k W → Dat k W) → J 0 w →
    (∀ k W0 W args, k < N → J k W0 → Ch [] W0 W → E k W0 W args → YieldAt (FW none) 0 P lid args.toArray W fun e W' => (e = .returned (.bool true) ∧ J (k + 1) W') ∨ (e = .returned (.bool false) ∧ Jx W')) →
    Calls P gf (.func (.yield lid) #[] #[] :: cap).toArray w fun e W' => e = .returned (.tuple #[]) ∧ (J N W' ∨ Jx W')
/-- how a round may be left -/
def RK (D L : Nat) (o : Obj) (I : Nat → World → Prop) (X : Exit → World → Prop) (k : Nat) (e : Exit) (W' : World) : Prop :=
  W'.heap[L]? = some o ∧ Dfr W' D ∧ match e with
    | .normal => I (k + 1) W'
    | .ret => X .ret W'
    | .exit id => X (.exit id) W'
    | _ => False
def RQ (D L : Nat) (o : Obj) (I : Nat → World → Prop) (X : Exit → World → Prop) (k : Nat) : Exit → Act → World → Prop := fun e _ W' => RK D L o I X k e W'
section
variable {P : Program} {Q : Exit → Act → World → Prop} {a : Act} {w : World} {n : Nat} {ds : List Deferred} {l : List (Nat × Value)}
theorem rangeK {g : Operand} {ps : List Nat} {assign body : Code} {gf : FuncId} {cap : List Value} (hf : Fr a n ds l) (hg : ev l g = some (.func (.func gf) #[] cap.toArray))
    (hcf : ∀ args w, (callFunc gf args).run P w = .ok (.enter gf args) w) (N : Nat) (E : Nat → World → World → List Value → Prop) (Dat : Nat → World → Prop) (I : Nat → World → Prop) (X : Exit → World → Prop) (hseq : Seqk P gf cap N E Dat)
    (hlen : ∀ k W0 W args, E k W0 W args → args.length = ps.length) (hps : ∀ p, p ∈ ps → p < n)
    (hI0 : ∀ W1, (∃ W', Ch [] w W' ∧ W'.heap.size = w.heap.size + 1 ∧ Dfr W' w.heap.size ∧ Ch [] W' W1 ∧ W1.heap.size = W'.heap.size + 1) → (∃ o, W1.heap[w.heap.size + 1]? = some o) → I 0 W1)
    (hst : ∀ k W W', I k W → Ch [w.heap.size + 1] W W' → I k W') (hxt : ∀ e W W', X e W → Ch [w.heap.size + 1] W W' → X e W') (hdat : ∀ k W, I k W → Dat k W)
    (hround : ∀ k W0 W args a o, k < N → I k W0 → Ch [] W0 W → w.heap.size + 1 < W0.heap.size → E k W0 W args → args.length = ps.length → W.heap[w.heap.size + 1]? = some o → Dfr W w.heap.size → Fr a n [] (bindl ps args l) →
      WP (some (w.heap.size + 1)) P assign (fun e a1 W1 => e = .normal ∧ W1.heap[w.heap.size + 1]? = some o ∧ Dfr W1 w.heap.size ∧ ∀ W2 o2, Ch [w.heap.size + 1] W1 W2 → W2.heap[w.heap.size + 1]? = some o2 → Dfr W2 w.heap.size →
        WP (some (w.heap.size + 1)) P body (RQ w.heap.size (w.heap.size + 1) o2 I X k) a1 W2) a W)
    (hdone : ∀ W a', I N W → Dfr W w.heap.size → Fr a' n (mkD w.heap.size :: ds) l → Q .normal a' W)
    (hret : ∀ W a', X .ret W → Dfr W w.heap.size → Fr a' n (mkD w.heap.size :: ds) l → Q .ret a' W)
    (hexit : ∀ id W a', X (.exit id) W → Dfr W w.heap.size → Fr a' n (mkD w.heap.size :: ds) l → Q (.exit id) a' W) : WP none P (Code.rangeFunc g ps.toArray assign body) Q a w := by
  refine wpIn_rangeFunc fun fn hfn => ?_
  obtain ⟨rec, hrec⟩ : ∃ rec : LoopState → Option Code → Loop, rec = fun st pe => { state := st, pending := pe, fn, tmps := a.tmps, params := ps.toArray, assign, body, defers := w.heap.size } := ⟨_, rfl⟩
  obtain ⟨W1, hW1⟩ : ∃ W1, (w.alloc (.deferred (some []))).alloc (.loop (rec .ready none)) = W1 := ⟨_, rfl⟩
  have hL1 : W1.heap[w.heap.size + 1]? = some (.loop (rec .ready none)) := by
    rw [← hW1]; have := World.alloc_heap_new (w.alloc (.deferred (some []))) (.loop (rec .ready none)); rwa [World.size_alloc] at this
  have hK1 : Dfr W1 w.heap.size := by
    rw [← hW1]; exact (Below.heap_alloc _ _ _ (by simp)).trans (World.alloc_heap_new w _)
  have up : ∀ {W W' : World}, Ch [] W W' → Ch [w.heap.size + 1] W W' := fun h => h.mono (by simp)
  have hI1 : I 0 W1 := hI0 W1 ⟨_, Ch.alloc w _, World.size_alloc .., World.alloc_heap_new w _, by rw [← hW1]; exact Ch.alloc _ _, by rw [← hW1]; exact World.size_alloc ..⟩ ⟨_, hL1⟩
  have hfr : a.eval g = .func (.func gf) #[] cap.toArray := hf.eval hg
  have hcall := hseq (w.heap.size + 1) W1
    (fun k W => I k W ∧ W.heap[w.heap.size + 1]? = some (.loop (rec .ready none)) ∧ Dfr W w.heap.size)
    (fun W => ∃ e c, X e W ∧ ((e = .ret ∧ c = Code.ret) ∨ ∃ id, e = .exit id ∧ c = Code.exit id) ∧ W.heap[w.heap.size + 1]? = some (.loop (rec .done (some c))) ∧ Dfr W w.heap.size)
    (fun k W W' ⟨h1, h2, h3⟩ hc => ⟨hst k W W' h1 (up hc), (hc.block _ (Array.getElem?_eq_some_iff.1 h2).1 (by simp)).trans h2, h3.ch hc (by simp)⟩)
    (fun W W' ⟨e, c, h1, h0, h2, h3⟩ hc => ⟨e, c, hxt e W W' h1 (up hc), h0, (hc.block _ (Array.getElem?_eq_some_iff.1 h2).1 (by simp)).trans h2, h3.ch hc (by simp)⟩)
    (fun k W h => hdat k W h.1) ⟨hI1, hL1, hK1⟩ ?_
  · refine ⟨w.heap.size + 1, [mkD w.heap.size], W1, { target := .fn (.func gf) cap.toArray, args := #[.func (.yield (w.heap.size + 1)) #[] #[]] }, W1, gf,
      (.func (.yield (w.heap.size + 1)) #[] #[] :: cap).toArray, W1, ?_, ?_, fun _ _ => trivial, ?_, (fun h => by cases h), (callsFW hcall).mono ?_⟩
    · rw [← hW1, hrec]; exact run_enterLoop_outer _ _ _ _ _
    · simp only [resolve, hfr]
      simp [go_sem]
    · simp [invoke, go_sem, hcf]
    · have fin : ∀ (W : World) (st : LoopState) (pe : Option Code), W.heap[w.heap.size + 1]? = some (.loop (rec st pe)) → st ≠ .busy → Dfr W w.heap.size →
          ∃ W', (Instr.endLoop (w.heap.size + 1)).run P W = .ok pe W' ∧ Ch [w.heap.size + 1] W W' ∧ Dfr W' w.heap.size := fun W st pe hl hb hk => by
        have := run_endLoop (P := P) hl (by rw [hrec]; exact hb)
        rw [hrec] at this
        exact ⟨_, this, Ch.putObj _ _ _, hk.ch (Ch.putObj _ _ _) (by simp)⟩
      rintro e W ⟨rfl, ⟨h1, h2, h3⟩ | ⟨e, c, h1, h0, h2, h3⟩⟩
      · obtain ⟨W', hr, hc, hk⟩ := fin W .ready none h2 (by simp) h3
        exact ⟨none, W', hr, hdone W' _ (hst N W W' h1 hc) hk ⟨hf.size, by show [mkD w.heap.size] ++ a.defers = _; rw [hf.defs]; rfl, hf.get⟩⟩
      · obtain ⟨W', hr, hc, hk⟩ := fin W .done (some c) h2 (by simp) h3
        have hfr' : Fr { a with defers := [mkD w.heap.size] ++ a.defers } n (mkD w.heap.size :: ds) l := ⟨hf.size, by show [mkD w.heap.size] ++ a.defers = _; rw [hf.defs]; rfl, hf.get⟩
        refine ⟨some c, W', hr, ?_⟩
        rcases h0 with ⟨rfl, rfl⟩ | ⟨id, rfl, rfl⟩
        · exact wpIn_ret (hret W' _ (hxt _ W W' h1 hc) hk hfr')
        · exact wpIn_exit (hexit id W' _ (hxt _ W W' h1 hc) hk hfr')
  · rintro k W0 W args hk ⟨h1, h2, h3⟩ hc hEk
    have hlt : w.heap.size + 1 < W0.heap.size := (Array.getElem?_eq_some_iff.1 h2).1
    have hl : W.heap[w.heap.size + 1]? = some (.loop (rec .ready none)) := (hc.block _ hlt (by simp)).trans h2
    have hkk : Dfr W w.heap.size := h3.ch hc (by simp)
    have hlen' := hlen k W0 W args hEk
    have hy := run_yield (P := P) (args := args.toArray) hl (by rw [hrec]; simpa using hlen')
    refine ⟨fn, _, assign, body, by rw [hrec] at hy; exact hy, roundIn_of_wpIn hfn ?_⟩
    have hfr0 : Fr ⟨(ps.zip args).foldl (fun t (p, v) => t.setIfInBounds p v) a.tmps, []⟩ n [] (bindl ps args l) := bind_fr ps args hps ⟨hf.size, rfl, hf.get⟩
    have hzip : ((rec .ready none).params.zip args.toArray).foldl (fun t (p, v) => t.setIfInBounds p v) (rec .ready none).tmps = (ps.zip args).foldl (fun t (p, v) => t.setIfInBounds p v) a.tmps := by
      rw [hrec]; simp
    rw [hrec] at hzip
    simp only at hzip
    rw [hzip]
    refine wpIn_mono (hround k W0 W args _ _ hk h1 hc hlt hEk hlen' hl hkk hfr0) ?_
    rintro e a1 W' ⟨rfl, hl', hk', hbody⟩
    refine ⟨_, run_beginRound hl' (by rw [hrec]), ?_⟩
    have hltW : w.heap.size + 1 < W'.heap.size := (Array.getElem?_eq_some_iff.1 hl').1
    have hc2 : Ch [w.heap.size + 1] W' (W'.putObj (w.heap.size + 1) (.loop { rec .ready none with state := .busy })) := Ch.putObj _ _ _
    have hl2 : (W'.putObj (w.heap.size + 1) (.loop { rec .ready none with state := .busy })).heap[w.heap.size + 1]? = some (.loop { rec .ready none with state := .busy }) := World.putObj_heap_same hltW
    have hk2 := hk'.ch hc2 (by simp)
    refine wpIn_mono (hbody _ _ hc2 hl2 hk2) ?_
    have fin : ∀ (jump : Option Code) (W3 : World), W3.heap[w.heap.size + 1]? = some (.loop { rec .ready none with state := .busy }) → Dfr W3 w.heap.size →
        ∃ W4, (Instr.endRound (w.heap.size + 1) jump).run P W3 = .ok (.bool jump.isNone) W4 ∧ Ch [w.heap.size + 1] W3 W4 ∧ W4.heap[w.heap.size + 1]? = some (.loop (rec (if jump.isNone then .ready else .done) jump)) ∧ Dfr W4 w.heap.size := fun jump W3 hl3 hk3 => by
      have hend := run_endRound (P := P) jump hl3
      rw [hrec] at hend ⊢
      exact ⟨_, hend, Ch.putObj _ _ _, World.putObj_heap_same (Array.getElem?_eq_some_iff.1 hl3).1, hk3.ch (Ch.putObj _ _ _) (by simp)⟩
    rintro e a3 W3 ⟨hl3, hk3, hp⟩
    cases e with
    | normal =>
      obtain ⟨W4, hr, hc4, hl4, hk4⟩ := fin none W3 hl3 hk3
      exact ⟨_, W4, hr, .inl ⟨rfl, hst _ _ _ hp hc4, hl4, hk4⟩⟩
    | ret =>
      obtain ⟨W4, hr, hc4, hl4, hk4⟩ := fin (some .ret) W3 hl3 hk3
      exact ⟨_, W4, hr, .inr ⟨rfl, .ret, .ret, hxt _ _ _ hp hc4, .inl ⟨rfl, rfl⟩, hl4, hk4⟩⟩
    | exit id =>
      obtain ⟨W4, hr, hc4, hl4, hk4⟩ := fin (some (.exit id)) W3 hl3 hk3
      exact ⟨_, W4, hr, .inr ⟨rfl, .exit id, .exit id, hxt _ _ _ hp hc4, .inr ⟨id, rfl, rfl⟩, hl4, hk4⟩⟩
    | goto t => exact hp.elim
    | panic ch => exact hp.elim
    | outgrown => exact hp.elim
end

/-! ### the caller's side -/
abbrev lpT : Obj → Prop := fun _ => True
abbrev dfT : Obj → Prop := fun o => o = .deferred (some [])
/-- a thing with memory of its own -/
def Res.hasb : Res → Bool
  | .own .. => true
  | .blk .. => true
  | .mp .. => true
  | .si .. => true
  | .ob .. => true
  | .mr .. => true
  | .gn .. => true
  | _ => false
theorem Res.nob : ∀ {r : Res}, r.hasb = false → r.ref = none → r.bl = []
  | .dead, _, _ => rfl
  | .sh .., _, _ => rfl
  | .ln .., _, _ => rfl
  | .el .., _, _ => rfl
  | .own .., h, _ => by cases h
  | .blk .., h, _ => by cases h
  | .mp .., h, _ => by cases h
  | .mit .., _, h => by cases h
  | .si .., h, _ => by cases h
  | .ob .., h, _ => by cases h
  | .lmp .., _, _ => rfl
  | .mr .., h, _ => by cases h
  | .gn .., h, _ => by cases h
/-- what is handed to a round: memory of its own, by the same numbers -/
def mvl (H : List (Nat × Res)) : List Nat → List (Nat × Nat)
  | [] => []
  | k :: ks => match hk H k with
    | some r => bif rok [] r.ref then (bif r.hasb then (k, k) :: mvl H ks else mvl H ks) else mvl H ks
    | none => mvl H ks
theorem rok_nil {o : Option Nat} (h : rok [] o = true) : o = none := by
  cases o with
  | none => rfl
  | some j => simp [rok] at h
theorem sub_mvl (H : List (Nat × Res)) : ∀ ks : List Nat, Sub H (kpH H [] ks) (mvl H ks) []
  | [] => .nil
  | k :: ks => by
    unfold kpH mvl
    cases hj : hk H k with
    | none => exact sub_mvl H ks
    | some r =>
      simp only []
      cases hr : rok [] r.ref with
      | false => exact sub_mvl H ks
      | true =>
        cases hb : r.hasb with
        | false => exact .s k (sub_mvl H ks) hj (Res.nob hb (rok_nil hr)) (rok_nil hr)
        | true => exact .m k (sub_mvl H ks) hj (rok_nil hr)
theorem Hp.nds {n n' : Nat} {ds ds' : List Deferred} {w0 : World} {S : List Nat} {F : Nat → Prop} {H : List (Nat × Res)} {w : World} (h : Hp ⟨n, ds, w0, S, F⟩ H w) : Hp ⟨n', ds', w0, S, F⟩ H w := ⟨h.ch, h.hold, h.bnd, h.dis, h.ref⟩
/-- behind a round: what it had is ours again -/
theorem fin_round {C : Cx} {H He : List (Nat × Res)} {W W' : World} {n : Nat} {ds : List Deferred} {bs : List Nat} (hh0 : Hp C H W) (hb : Hp ⟨n, ds, W, blks H (mvl H bs), Fh C H⟩ He W') (gs : List Nat) (M : Nat) (ps : List (Nat × Nat)) {Ho : List (Nat × Res)}
    (h1 : (outs (kpH He gs gs) && frs M H (kpH He gs gs)) = true) (h2 : ren (hcat (sft M (kpH He gs gs)) (kill ((mvl H bs).map (·.2)) H)) ps = Ho) (h3 : nod (ps.map (·.1)) = true) (h4 : nod (ps.map (·.2)) = true) : Hp C Ho W' := by
  rw [Bool.and_eq_true] at h1
  subst h2
  exact (hh0.back (hb.keep gs).nds h1.1 h1.2).ren ps h3 h4

abbrev HK (kd kl D L : Nat) (p : Obj → Prop) (nh H : List (Nat × Res)) : List (Nat × Res) := (kl, .ob L p) :: (kd, .ob D dfT) :: hcat nh H
def IK (C : Cx) (kd kl D L : Nat) (J : Nat → List (Nat × Res) → Prop) (H : List (Nat × Res)) : Nat → World → Prop := fun k W => ∃ nh, J k nh ∧ Hp C (HK kd kl D L lpT nh H) W
def XK (P : Program) (Y : Exit → Act → World → Prop) (K : List Kx) (C : Cx) (l : List (Nat × Value)) (D L : Nat) : Exit → World → Prop := fun e W => ∀ W', Ch [L] W W' → ∀ a', Fr a' C.n (mkD D :: C.ds) l → kont none P Y K e a' W'
def nrf (k : Nat) (H : List (Nat × Res)) : Bool := H.all fun p => match p.2.ref with
  | none => true
  | some j => !(Nat.beq j k)
theorem hk_mem : ∀ {H : List (Nat × Res)} {k : Nat} {r : Res}, hk H k = some r → (k, r) ∈ H
  | [], _, _, h => by cases h
  | (d, u) :: q, k, r, h => by
    rw [hk_cons] at h
    split at h
    · rename_i e; subst e; injection h with h; subst h; exact List.mem_cons_self ..
    · exact List.mem_cons_of_mem _ (hk_mem h)
theorem nrf_spec {k : Nat} {H : List (Nat × Res)} (h : nrf k H = true) {j : Nat} {r : Res} (hj : hk H j = some r) : r.ref ≠ some k := fun e => by
  have := List.all_eq_true.1 h _ (hk_mem hj)
  simp [e] at this
/-- the object of a block turns to another -/
theorem Hp.ob {C : Cx} {H : List (Nat × Res)} {w w' : World} {k L : Nat} {p q : Obj → Prop} {o : Obj} (h : Hp C ((k, .ob L p) :: H) w) (hr : nrf k H = true) (hc : Ch [L] w w') (ho : w'.heap[L]? = some o) (hq : q o) : Hp C ((k, .ob L q) :: H) w' := by
  have hsame : ∀ j b, Bk ((k, .ob L q) :: H) j b ↔ Bk ((k, .ob L p) :: H) j b := fun j b => by
    by_cases hj : j = k
    · subst hj; rw [Bk.cons_eq, Bk.cons_eq]; exact Iff.rfl
    · rw [Bk.cons_ne hj, Bk.cons_ne hj]
  have hL : ∀ b, (∀ j, ¬ Bk ((k, .ob L p) :: H) j b) → b ∉ [L] := fun b hb hm => by
    rw [List.mem_singleton] at hm; subst hm
    exact hb k (Bk.cons_eq.2 (by simp [Res.bl]))
  have hnb : ∀ b, (∀ j, ¬ Bk ((k, .ob L p) :: H) j b) → ∀ j, ¬ Bk ((k, .ob L q) :: H) j b := fun b hb j hj => hb j ((hsame j b).1 hj)
  have hLk : ∀ j b, Bk ((k, .ob L p) :: H) j b → j ≠ k → b ∉ [L] := fun j b hb hj hm => by
    rw [List.mem_singleton] at hm; subst hm
    exact hj (h.dis j k b hb (Bk.cons_eq.2 (by simp [Res.bl])))
  refine ⟨?_, fun j r hj => ?_, fun j b hj => ?_, fun j j' b hj hj' => h.dis j j' b ((hsame j b).1 hj) ((hsame j' b).1 hj'), fun j r i hj hri => ?_⟩
  · have hch := h.ch
    refine ⟨hc.os.trans hch.os, hc.tape.trans hch.tape, hc.output.trans hch.output, Nat.le_trans hch.size hc.size, fun b hb hn => ?_⟩
    rw [hc.block b (Nat.lt_of_lt_of_le hb hch.size) (fun hm => ?_)]
    · exact hch.block b hb hn
    · rw [List.mem_singleton] at hm; subst hm
      rcases (h.bnd k b (Bk.cons_eq.2 (by simp [Res.bl]))).1 with h1 | h1
      · omega
      · exact hn h1
  · rw [hk_cons] at hj
    split at hj
    · injection hj with hj; subst hj; exact ⟨o, ho, hq⟩
    · rename_i hn
      have hj' : hk ((k, .ob L p) :: H) j = some r := by rw [hk_cons, if_neg hn]; exact hj
      refine Res.to (h.hold j r hj') hc (fun b hb _ => ⟨hL b hb.1, hnb b hb.1, hb.2⟩) (fun b hb _ => ⟨hL b hb, hnb b hb⟩) (fun i b hi hB => ⟨hLk i b hB fun e => nrf_spec hr hj (by rw [hi, e]), (hsame i b).2 hB⟩) fun b hb => hLk j b ⟨r, hj', hb⟩ (Ne.symm hn)
  · obtain ⟨h1, h2⟩ := h.bnd j b ((hsame j b).1 hj)
    exact ⟨h1, Nat.lt_of_lt_of_le h2 hc.size⟩
  · rw [hk_cons] at hj
    split at hj
    · injection hj with hj; subst hj; cases hri
    · rename_i hn
      obtain ⟨h5, h6⟩ := h.ref j r i (by rw [hk_cons, if_neg hn]; exact hj) hri
      refine ⟨h5, fun r2 h7 => ?_⟩
      rw [hk_cons] at h7
      split at h7
      · injection h7 with h7; subst h7; rfl
      · rename_i hn2; exact h6 r2 (by rw [hk_cons, if_neg hn2]; exact h7)

theorem Hp.obj {C : Cx} {H : List (Nat × Res)} {w w' : World} {k L : Nat} {p q : Obj → Prop} {o : Obj} (h : Hp C H w) (hk1 : hk H k = some (.ob L p)) (hc : Ch [L] w w') (ho : w'.heap[L]? = some o) (hq : q o) : Hp C ((k, .ob L q) :: drp k H) w' :=
  h.upd hc (fun b hb => by rw [List.mem_singleton] at hb; subst hb; exact ⟨_, hk1, by simp [Res.bl]⟩) (fun b hb => .inl ⟨_, hk1, hb⟩) (fun j hj => by cases hj) fun F B _ _ _ _ _ => ⟨o, ho, hq⟩
/-- the promise of an iterator over data: elements xs, of what is captured -/
def El (t : Ty) (ag : List Value → List Value) (xs : List t.den) (Φ : Nat → World → Nat → Prop) : Nat → World → World → List Value → Prop := fun k W0 W args =>
  ∃ x cs, xs[k]? = some x ∧ args = ag cs ∧ t.rep W (fun b => Φ k W0 b ∨ W0.heap.size ≤ b) cs x
def Sq (P : Program) (gf : FuncId) (cap : List Value) (Hc : List (Nat × Res)) (t : Ty) (ag : List Value → List Value) (xs : List t.den) : Prop :=
  ∀ Φ : Nat → World → Nat → Prop, Seqk P gf cap xs.length (El t ag xs Φ) (fun k W => Hp ⟨0, [], W, [], Φ k W⟩ Hc W)

theorem nod_nodup : ∀ {l : List Nat}, nod l = true ↔ l.Nodup
  | [] => by simp [nod]
  | k :: l => by
    simp only [nod, Bool.and_eq_true, Bool.not_eq_true', List.nodup_cons, nod_nodup (l := l)]
    refine and_congr ⟨fun h hm => ?_, fun h => ?_⟩ Iff.rfl
    · rw [List.any_eq_false] at h; exact h k hm (Nat.beq_refl k)
    · rw [List.any_eq_false]; exact fun x hx e => h (by rw [Nat.eq_of_beq_eq_true e]; exact hx)
theorem kpH_sub (H : List (Nat × Res)) (all : List Nat) : ∀ ks : List Nat, List.Sublist ((kpH H all ks).map (·.1)) ks
  | [] => List.Sublist.refl _
  | k :: ks => by
    unfold kpH
    cases hk H k with
    | none => exact (kpH_sub H all ks).cons k
    | some r =>
      simp only []
      cases rok all r.ref with
      | false => exact (kpH_sub H all ks).cons k
      | true => exact (kpH_sub H all ks).cons_cons k
theorem mvl_sub (H : List (Nat × Res)) : ∀ ks : List Nat, List.Sublist ((mvl H ks).map (·.2)) ks
  | [] => List.Sublist.refl _
  | k :: ks => by
    unfold mvl
    cases hk H k with
    | none => exact (mvl_sub H ks).cons k
    | some r =>
      simp only []
      cases rok [] r.ref with
      | false => exact (mvl_sub H ks).cons k
      | true => cases r.hasb with
        | false => exact (mvl_sub H ks).cons k
        | true => exact (mvl_sub H ks).cons_cons k

/-- what stands behind a round's beginning -/
def MF (P : Program) (D L : Nat) (o : Obj) (Yb : Obj → Exit → Act → World → Prop) (body : Code) : Act → World → Prop := fun a1 W1 => W1.heap[L]? = some o ∧ Dfr W1 D ∧ ∀ W2 o2, Ch [L] W1 W2 → W2.heap[L]? = some o2 → Dfr W2 D → WP (some L) P body (Yb o2) a1 W2
section
variable {P : Program} {Y : Exit → Act → World → Prop} {K : List Kx} {C : Cx} {l : List (Nat × Value)} {H : List (Nat × Res)}
theorem AX.rgf {g : Operand} {ps : List Nat} {assign body : Code} {gf : FuncId} {cap : List Value} {Hc : List (Nat × Res)} {t : Ty} {ag : List Value → List Value} {xs : List t.den}
    (kd kl kn : Nat) (hs gs bs : List Nat) (J : Nat → List (Nat × Res) → Prop) (nh : List (Nat × Res)) (hcf : ∀ args w, (callFunc gf args).run P w = .ok (.enter gf args) w) (hseq : Sq P gf cap Hc t ag xs) (hag : ∀ cs, (ag cs).length = ps.length) (hJ0 : J 0 nh)
    (hsub : ∀ k nh D L, J k nh → (∃ ls, Sub (HK kd kl D L lpT nh (kpH H hs hs)) Hc [] ls) ∧ nrf kl ((kd, .ob D dfT) :: hcat nh (kpH H hs hs)) = true ∧ ∀ o, nok (kpH (HK kd kl D L (fun x => x = o) nh (kpH H hs hs)) [] bs) kn (lv t) = true)
    (hround : ∀ k nh x D L W o, J k nh → xs[k]? = some x → t.ok x → Hp C (HK kd kl D L (fun x => x = o) nh (kpH H hs hs)) W → tele (lv t) fun pl =>
      AX (some L) P (fun _ _ _ => False) [.m (MF P D L o (fun o2 => RQ D L o2 (IK C kd kl D L J (kpH H hs hs)) (XK P Y K C l D L) k) body)] assign
        ⟨C.n, [], W, blks (HK kd kl D L (fun x => x = o) nh (kpH H hs hs)) (mvl (HK kd kl D L (fun x => x = o) nh (kpH H hs hs)) bs), Fh C (HK kd kl D L (fun x => x = o) nh (kpH H hs hs))⟩ (bindl ps (ag (cl t x pl)) l)
        (hcat (kx kn (rs t x pl)) (kpH (HK kd kl D L (fun x => x = o) nh (kpH H hs hs)) [] bs)))
    (hdone : ∀ nh D L, J xs.length nh → AE none P Y K .normal ⟨C.n, mkD D :: C.ds, C.w0, C.S, C.F⟩ l (HK kd kl D L lpT nh (kpH H hs hs)))
    (hg : ev l g = some (.func (.func gf) #[] cap.toArray) := by rfl) (hps : ps.all (fun p => Nat.ble (p + 1) C.n) = true := by rfl) (h0 : kpH H gs gs = hcat nh (kpH H hs hs) := by kernel_rfl)
    (hn1 : hk (hcat nh (kpH H hs hs)) kd = none := by kernel_rfl) (hn2 : hk (hcat nh (kpH H hs hs)) kl = none := by kernel_rfl) (hne : Nat.beq kd kl = false := by rfl) (hbs : nod bs = true := by rfl) (hHc : nod (Hc.map (·.1)) = true := by rfl) :
    AX none P Y K (.rangeFunc g ps.toArray assign body) C l H := fun a w hf hh => by
  have hne : kd ≠ kl := fun e => by rw [e, Nat.beq_refl] at hne; cases hne
  obtain ⟨Φ, hΦ⟩ : ∃ Φ : Nat → World → Nat → Prop, Φ = fun k W b => ∃ h : IK C kd kl w.heap.size (w.heap.size + 1) J (kpH H hs hs) k W, Fh C (HK kd kl w.heap.size (w.heap.size + 1) lpT (Classical.choose h) (kpH H hs hs)) b := ⟨_, rfl⟩
  have hΦe : ∀ k W (h : IK C kd kl w.heap.size (w.heap.size + 1) J (kpH H hs hs) k W), Φ k W = Fh C (HK kd kl w.heap.size (w.heap.size + 1) lpT (Classical.choose h) (kpH H hs hs)) := fun k W h => by
    subst hΦ; funext b; exact propext ⟨fun ⟨_, h2⟩ => h2, fun h2 => ⟨h, h2⟩⟩
  have hlast : ∀ {k : Nat} {nh : List (Nat × Res)} {D : Nat}, J k nh → nrf kl ((kd, .ob D dfT) :: hcat nh (kpH H hs hs)) = true := fun h => (hsub _ _ _ 0 h).2.1
  refine rangeK hf hg hcf xs.length _ _ (IK C kd kl w.heap.size (w.heap.size + 1) J (kpH H hs hs)) (XK P Y K C l w.heap.size (w.heap.size + 1)) (hseq Φ) (fun k W0 W args ⟨x, cs, _, h2, _⟩ => by rw [h2]; exact hag cs) (fun p hp => Nat.le_of_ble_eq_true (List.all_eq_true.1 hps p hp)) ?_ ?_ ?_ ?_ ?_ ?_ ?_ ?_
  · rintro W1 ⟨W', hc1, hz1, hd, hc2, hz2⟩ ⟨o, ho⟩
    refine ⟨nh, hJ0, ?_⟩
    have h1 : Hp C (hcat nh (kpH H hs hs)) w := hh.cov gs h0
    have h2 : Hp C ((kd, .ob w.heap.size dfT) :: hcat nh (kpH H hs hs)) W' := h1.new hn1 hc1 (fun b hb => by simp only [Res.bl, List.mem_singleton] at hb; omega) (fun j hj => by cases hj) fun F B _ _ _ => ⟨_, hd, rfl⟩
    refine h2.new (by rw [hk_cons, if_neg hne]; exact hn2) hc2 (fun b hb => by simp only [Res.bl, List.mem_singleton] at hb; omega) (fun j hj => by cases hj) fun F B _ _ _ => ⟨o, ho, trivial⟩
  · rintro k W W' ⟨nh, hJ, hW⟩ hc
    obtain ⟨o, ho, _⟩ : ∃ o, W.heap[w.heap.size + 1]? = some o ∧ lpT o := hW.hold kl (.ob (w.heap.size + 1) lpT) (by rw [hk_cons, if_pos rfl])
    have hlt := Nat.lt_of_lt_of_le (Array.getElem?_eq_some_iff.1 ho).1 hc.size
    exact ⟨nh, hJ, hW.ob (hlast hJ) hc (Array.getElem?_eq_getElem hlt) trivial⟩
  · exact fun e W W' h hc W2 hc2 => h W2 (Ch.then (U := [w.heap.size + 1]) hc hc2 (by simp) (by simp))
  · intro k W h
    rw [hΦe k W h]
    obtain ⟨hJ, hW⟩ := Classical.choose_spec h
    obtain ⟨ls, hS⟩ := (hsub _ _ w.heap.size (w.heap.size + 1) hJ).1
    exact hS.hp hW hHc rfl (by simp)
  · intro k W0 W args a1 o hk1 hI hc hlt ⟨x, cs, hx, hargs, hrep⟩ hlen ho hdf hfr
    rw [hΦe k W0 hI] at hrep
    obtain ⟨hJ, hW⟩ := Classical.choose_spec hI
    obtain ⟨nh, hnh⟩ : ∃ nh, nh = Classical.choose hI := ⟨_, rfl⟩
    rw [← hnh] at hrep hJ hW
    have hW1 : Hp C (HK kd kl w.heap.size (w.heap.size + 1) (fun x => x = o) nh (kpH H hs hs)) W := hW.ob (hlast hJ) (hc.mono (by simp)) ho rfl
    have hb := (sub_mvl (HK kd kl w.heap.size (w.heap.size + 1) (fun x => x = o) nh (kpH H hs hs)) bs).hp hW1 (nod_nodup.2 ((kpH_sub _ _ bs).nodup (nod_nodup.1 hbs))) (nod_nodup.2 ((mvl_sub _ bs).nodup (nod_nodup.1 hbs))) (by simp)
    have hrep2 : t.rep W (Fh ⟨C.n, [], W, blks (HK kd kl w.heap.size (w.heap.size + 1) (fun x => x = o) nh (kpH H hs hs)) (mvl (HK kd kl w.heap.size (w.heap.size + 1) (fun x => x = o) nh (kpH H hs hs)) bs), Fh C (HK kd kl w.heap.size (w.heap.size + 1) (fun x => x = o) nh (kpH H hs hs))⟩ (kpH (HK kd kl w.heap.size (w.heap.size + 1) (fun x => x = o) nh (kpH H hs hs)) [] bs)) cs x := by
      have hnb : ∀ b, (∀ j, ¬ Bk (HK kd kl w.heap.size (w.heap.size + 1) (fun x => x = o) nh (kpH H hs hs)) j b) → ∀ j, ¬ Bk (kpH (HK kd kl w.heap.size (w.heap.size + 1) (fun x => x = o) nh (kpH H hs hs)) [] bs) j b := fun b hB j ⟨r, h1, h2⟩ => hB j ⟨r, (hk_kpH h1).1, h2⟩
      have hpq : ∀ j b, Bk (HK kd kl w.heap.size (w.heap.size + 1) (fun x => x = o) nh (kpH H hs hs)) j b → Bk (HK kd kl w.heap.size (w.heap.size + 1) lpT nh (kpH H hs hs)) j b := fun j b hj => by
        by_cases e : j = kl
        · subst e; rw [Bk.cons_eq] at hj ⊢; exact hj
        · rw [Bk.cons_ne e] at hj ⊢; exact hj
      refine rep_to hrep (S := []) (Ch.refl W) fun b hb hl => ⟨by simp, ?_⟩
      have : Fh C (HK kd kl w.heap.size (w.heap.size + 1) (fun x => x = o) nh (kpH H hs hs)) b := by
        rcases hb with hb | hb
        · exact ⟨fun j hj => hb.1 j (hpq j b hj), hb.2⟩
        · exact ⟨fun j hj => by have := (hW.bnd j b (hpq j b hj)).2; omega, .inr (.inl (Nat.le_trans hW.ch.size hb))⟩
      exact ⟨hnb b this.1, .inl this⟩
    obtain ⟨pl, hpl, hcs, hb2⟩ := put_dat hb.nds hrep2 kn ((hsub _ _ w.heap.size (w.heap.size + 1) hJ).2.2 o)
    subst hcs
    rw [hargs] at hfr
    refine wpIn_mono (tele_at (hround k nh x w.heap.size (w.heap.size + 1) W o hJ hx (rep_ok t hrep) hW1) pl hpl a1 W hfr hb2) fun e a2 W2 he => ?_
    cases e with
    | normal => exact ⟨rfl, he⟩
    | _ => exact False.elim he
  · rintro W a' ⟨nh, hJ, hW⟩ hd hf'
    exact hdone nh _ _ hJ a' W hf' hW.nds
  · exact fun W a' hX hd hf' => hX W (Ch.refl' _ _) a' hf'
  · exact fun id W a' hX hd hf' => hX W (Ch.refl' _ _) a' hf'
/-- a round's body, behind the taking of its element -/
theorem AE.flip {D L : Nat} {o : Obj} {Yb : Obj → Exit → Act → World → Prop} {body : Code} (kd kl : Nat) (h : ∀ o2, AX (some L) P (Yb o2) [] body ⟨C.n, [], C.w0, C.S, C.F⟩ l ((kl, .ob L (fun x => x = o2)) :: H)) (hds : C.ds = [] := by rfl)
    (h1 : hk H kl = some (.ob L (fun x => x = o)) := by rfl) (h2 : hk H kd = some (.ob D dfT) := by rfl) (hj : hng [kl] [] H = true := by kernel_rfl) : AE (some L) P Y (.m (MF P D L o Yb body) :: K) .normal C l H := fun a w hf hh => by
  obtain ⟨o', ho', e⟩ : ∃ o', w.heap[L]? = some o' ∧ o' = o := hh.hold kl _ h1
  obtain ⟨d, hd, e2⟩ : ∃ d, w.heap[D]? = some d ∧ d = .deferred (some []) := hh.hold kd _ h2
  subst e; subst e2
  rw [hds] at hf
  exact ⟨ho', hd, fun W2 o2 hc ho2 _ => h o2 a W2 hf (Hp.dd (js := []) (hh.obj (q := fun x => x = o2) h1 hc ho2 rfl) hj).nds⟩
theorem end_round {n : Nat} {ds : List Deferred} {W W' : World} {kd kl D L M : Nat} {p : Obj → Prop} {o2 : Obj} {nh Hk He Ho : List (Nat × Res)} {bs gs : List Nat} {ps : List (Nat × Nat)} (hh0 : Hp C (HK kd kl D L p nh Hk) W) (hb : Hp ⟨n, ds, W, blks (HK kd kl D L p nh Hk) (mvl (HK kd kl D L p nh Hk) bs), Fh C (HK kd kl D L p nh Hk)⟩ He W')
    (hkd : hk He kd = some (.ob D dfT)) (hkl : hk He kl = some (.ob L (fun x => x = o2))) (h1 : (outs (kpH He gs gs) && frs M (HK kd kl D L p nh Hk) (kpH He gs gs)) = true)
    (h2 : ren (hcat (sft M (kpH He gs gs)) (kill ((mvl (HK kd kl D L p nh Hk) bs).map (·.2)) (HK kd kl D L p nh Hk))) ps = (kl, .ob L (fun x => x = o2)) :: Ho) (h3 : nod (ps.map (·.1)) = true) (h4 : nod (ps.map (·.2)) = true) (h5 : nrf kl Ho = true) :
    W'.heap[L]? = some o2 ∧ Dfr W' D ∧ ∀ W2, Ch [L] W' W2 → Hp C ((kl, .ob L lpT) :: Ho) W2 := by
  obtain ⟨o', ho', e⟩ : ∃ o', W'.heap[L]? = some o' ∧ o' = o2 := hb.hold kl _ hkl
  obtain ⟨d, hd, e2⟩ : ∃ d, W'.heap[D]? = some d ∧ d = .deferred (some []) := hb.hold kd _ hkd
  subst e; subst e2
  refine ⟨ho', hd, fun W2 hc => ?_⟩
  have := fin_round hh0 hb gs M ps h1 h2 h3 h4
  exact this.ob h5 hc (Array.getElem?_eq_getElem (Nat.lt_of_lt_of_le (Array.getElem?_eq_some_iff.1 ho').1 hc.size)) trivial
theorem AE.bn {X : Exit → World → Prop} {k n : Nat} {W : World} {kd kl D L : Nat} {p : Obj → Prop} {o2 : Obj} {nh Hk He : List (Nat × Res)} {J : Nat → List (Nat × Res) → Prop} {bs : List Nat} {S : List Nat} {F : Nat → Prop} (hh0 : Hp C (HK kd kl D L p nh Hk) W) (gs : List Nat) (M : Nat) (ps : List (Nat × Nat)) (nh' : List (Nat × Res)) (hJ : J (k + 1) nh')
    (hS : S = blks (HK kd kl D L p nh Hk) (mvl (HK kd kl D L p nh Hk) bs)) (hF : F = Fh C (HK kd kl D L p nh Hk))
    (hkd : hk He kd = some (.ob D dfT) := by rfl) (hkl : hk He kl = some (.ob L (fun x => x = o2)) := by rfl) (h1 : (outs (kpH He gs gs) && frs M (HK kd kl D L p nh Hk) (kpH He gs gs)) = true := by kernel_rfl)
    (h2 : ren (hcat (sft M (kpH He gs gs)) (kill ((mvl (HK kd kl D L p nh Hk) bs).map (·.2)) (HK kd kl D L p nh Hk))) ps = (kl, .ob L (fun x => x = o2)) :: (kd, .ob D dfT) :: hcat nh' Hk := by kernel_rfl) (h3 : nod (ps.map (·.1)) = true := by rfl) (h4 : nod (ps.map (·.2)) = true := by rfl) (h5 : nrf kl ((kd, .ob D dfT) :: hcat nh' Hk) = true := by kernel_rfl) :
    AE (some L) P (RQ D L o2 (IK C kd kl D L J Hk) X k) [] .normal ⟨n, [], W, S, F⟩ l He := fun a w hf hh => by
  subst hS; subst hF
  obtain ⟨h6, h7, h8⟩ := end_round hh0 hh hkd hkl h1 h2 h3 h4 h5
  exact ⟨h6, h7, nh', hJ, h8 w (Ch.refl' _ _)⟩
theorem kont_exit {r : Option Nat} {id : Nat} {a : Act} {w : World} : ∀ {K : List Kx}, popx id K = none → Y (.exit id) a w → kont r P Y K (.exit id) a w
  | [], _, h => h
  | .b i :: K, hp, h => by
    unfold popx at hp
    show (if id = i then kont r P Y K .normal a w else kont r P Y K (.exit id) a w)
    cases hb : Nat.beq i id with
    | true => rw [hb] at hp; cases hp
    | false => rw [hb] at hp; rw [if_neg (fun e => by subst e; simp at hb)]; exact kont_exit hp h
  | .c _ :: K, hp, h => kont_exit (K := K) hp h
  | .m _ :: K, hp, h => kont_exit (K := K) hp h
  | .s :: K, hp, h => kont_exit (K := K) hp h
theorem AE.x {r : Option Nat} {id : Nat} {K' : List Kx} (e : popx id K = some K') (h : AE r P Y K' .normal C l H) : AE r P Y K (.exit id) C l H := fun a w hf hh => popx_spec e (h a w hf hh)
theorem AX.bexit {Kb : List Kx} {id : Nat} {I : Nat → World → Prop} {lo : List (Nat × Value)} {k n : Nat} {W : World} {kd kl D L : Nat} {p : Obj → Prop} {o2 : Obj} {nh Hk He : List (Nat × Res)} {bs : List Nat} {S : List Nat} {F : Nat → Prop} (hh0 : Hp C (HK kd kl D L p nh Hk) W) (gs : List Nat) (M : Nat) (ps : List (Nat × Nat)) (Ho : List (Nat × Res))
    (hout : AE none P Y K (.exit id) ⟨C.n, mkD D :: C.ds, C.w0, C.S, C.F⟩ lo ((kl, .ob L lpT) :: Ho)) (hS : S = blks (HK kd kl D L p nh Hk) (mvl (HK kd kl D L p nh Hk) bs)) (hF : F = Fh C (HK kd kl D L p nh Hk))
    (hpx : popx id Kb = none := by rfl) (hkd : hk He kd = some (.ob D dfT) := by rfl) (hkl : hk He kl = some (.ob L (fun x => x = o2)) := by rfl) (h1 : (outs (kpH He gs gs) && frs M (HK kd kl D L p nh Hk) (kpH He gs gs)) = true := by kernel_rfl)
    (h2 : ren (hcat (sft M (kpH He gs gs)) (kill ((mvl (HK kd kl D L p nh Hk) bs).map (·.2)) (HK kd kl D L p nh Hk))) ps = (kl, .ob L (fun x => x = o2)) :: Ho := by kernel_rfl) (h3 : nod (ps.map (·.1)) = true := by rfl) (h4 : nod (ps.map (·.2)) = true := by rfl) (h5 : nrf kl Ho = true := by kernel_rfl) :
    AX (some L) P (RQ D L o2 I (XK P Y K C lo D L) k) Kb (.exit id) ⟨n, [], W, S, F⟩ l He := fun a w hf hh => by
  subst hS; subst hF
  obtain ⟨h6, h7, h8⟩ := end_round hh0 hh hkd hkl h1 h2 h3 h4 h5
  exact wpIn_exit (kont_exit hpx ⟨h6, h7, fun W' hc a' hf' => hout a' W' hf' (h8 W' hc).nds⟩)
end

/-! ### functions that hold such a loop -/
/-- how a function ends that holds such a loop, and does not panic -/
def bodyQ (P : Program) (fn : Func) (R : Ending → World → Prop) : Exit → Act → World → Prop
  | .normal, a, w => bodyPostM (FW none) 0 P fn R .normal a w
  | .ret, a, w => bodyPostM (FW none) 0 P fn R .ret a w
  | _, _, _ => False
def unob : List (Nat × Res) → List (Nat × Res)
  | [] => []
  | (k, r) :: H => (k, match r with
    | .ob _ _ => .dead
    | r => match r.ref with
      | none => r
      | some _ => .dead) :: unob H
theorem hk_unob : ∀ {H : List (Nat × Res)} {k : Nat} {r : Res}, hk (unob H) k = some r → r = .dead ∨ (hk H k = some r ∧ r.ref = none ∧ ∀ g p, r ≠ .ob g p)
  | [], _, _, h => by cases h
  | (d, u) :: H, k, r, h => by
    unfold unob at h
    rw [hk_cons] at h ⊢
    split at h
    · rename_i e
      rw [if_pos e]
      injection h with h
      cases u with
      | ob g p => exact .inl h.symm
      | el k b o cs => cases k with
        | none => subst h; exact .inr ⟨rfl, rfl, fun g p e => by cases e⟩
        | some j => exact .inl h.symm
      | mit k g b n s la => exact .inl h.symm
      | _ => subst h; exact .inr ⟨rfl, rfl, fun g p e => by cases e⟩
    · rename_i e; rw [if_neg e]; exact hk_unob h
def okD (H : List (Nat × Res)) : List Nat → List Nat → Prop
  | [], [] => True
  | D :: Ds, k :: ks => hk H k = some (.ob D dfT) ∧ okD H Ds ks
  | _, _ => False
theorem okD_mem {H : List (Nat × Res)} : ∀ {Ds ks : List Nat}, okD H Ds ks → ∀ D, D ∈ Ds → ∃ k, k ∈ ks ∧ hk H k = some (.ob D dfT)
  | [], _, _, D, h => by cases h
  | D :: Ds, [], h, _, _ => by cases h
  | D :: Ds, k :: ks, h, E, hm => by
    rcases List.mem_cons.1 hm with rfl | hm
    · exact ⟨k, List.mem_cons_self .., h.1⟩
    · obtain ⟨j, h1, h2⟩ := okD_mem h.2 E hm; exact ⟨j, List.mem_cons_of_mem _ h1, h2⟩
theorem okD_nodup {C : Cx} {H : List (Nat × Res)} {w : World} (hh : Hp C H w) : ∀ {Ds ks : List Nat}, okD H Ds ks → ks.Nodup → Ds.Nodup
  | [], _, _, _ => List.nodup_nil
  | D :: Ds, [], h, _ => by cases h
  | D :: Ds, k :: ks, h, hn => by
    rw [List.nodup_cons] at hn ⊢
    refine ⟨fun hm => ?_, okD_nodup hh h.2 hn.2⟩
    obtain ⟨j, h1, h2⟩ := okD_mem h.2 D hm
    have := hh.dis k j D ⟨_, h.1, by simp [Res.bl]⟩ ⟨_, h2, by simp [Res.bl]⟩
    exact hn.1 (this ▸ h1)
theorem Hp.unob {C : Cx} {H : List (Nat × Res)} {w w' : World} {Ds : List Nat} (h : Hp C H w) (hD : ∀ D, D ∈ Ds → ∃ k, hk H k = some (.ob D dfT)) (hc : Ch Ds w w') : Hp C (A.unob H) w' := by
  have hbk : ∀ j b, Bk (A.unob H) j b → Bk H j b ∧ b ∉ Ds := fun j b ⟨r, h1, h2⟩ => by
    rcases hk_unob h1 with rfl | ⟨h3, _, h4⟩
    · cases h2
    · refine ⟨⟨r, h3, h2⟩, fun hm => ?_⟩
      obtain ⟨k, h5⟩ := hD b hm
      have := h.dis j k b ⟨r, h3, h2⟩ ⟨_, h5, by simp [Res.bl]⟩
      subst this
      rw [h3] at h5; injection h5 with h5; exact h4 _ _ h5
  have hfree : ∀ b, (∀ k, ¬ Bk H k b) → b ∉ Ds ∧ ∀ k, ¬ Bk (A.unob H) k b := fun b hb => ⟨fun hm => by obtain ⟨k, h5⟩ := hD b hm; exact hb k ⟨_, h5, by simp [Res.bl]⟩, fun j hj => hb j (hbk j b hj).1⟩
  refine ⟨?_, fun j r hj => ?_, fun j b hj => ?_, fun j j' b hj hj' => h.dis j j' b (hbk j b hj).1 (hbk j' b hj').1, fun j r i hj hri => ?_⟩
  · have hch := h.ch
    refine ⟨hc.os.trans hch.os, hc.tape.trans hch.tape, hc.output.trans hch.output, Nat.le_trans hch.size hc.size, fun b hb hn => ?_⟩
    rw [hc.block b (Nat.lt_of_lt_of_le hb hch.size) (fun hm => ?_)]
    · exact hch.block b hb hn
    · obtain ⟨k, h5⟩ := hD b hm
      rcases (h.bnd k b ⟨_, h5, by simp [Res.bl]⟩).1 with h1 | h1
      · omega
      · exact hn h1
  · rcases hk_unob hj with rfl | ⟨h3, h4, h5⟩
    · trivial
    · exact Res.to (h.hold j r h3) hc (fun b hb _ => ⟨(hfree b hb.1).1, (hfree b hb.1).2, hb.2⟩) (fun b hb _ => hfree b hb) (fun i b hi _ => by rw [h4] at hi; cases hi) fun b hb => (hbk j b ⟨r, hj, hb⟩).2
  · exact ⟨(h.bnd j b (hbk j b hj).1).1, Nat.lt_of_lt_of_le (h.bnd j b (hbk j b hj).1).2 hc.size⟩
  · rcases hk_unob hj with rfl | ⟨_, h4, _⟩
    · cases hri
    · rw [h4] at hri; cases hri
section
variable {r : Option Nat} {P : Program} {K : List Kx} {l : List (Nat × Value)} {H : List (Nat × Res)}
theorem Ct.enterM {f : FuncId} {fn : Func} {c : Code} {vs : List Value} {n : Nat} {S : List Nat} {R : Value → List (Nat × Res) → Prop} (hf : P.funcs[f]? = some fn) (hb : fn.body = some c) (hn : fn.ntmps = n) (hm : Nat.ble vs.length n = true)
    (h : ∀ w F, AX none P (bodyQ P fn fun e w' => ∃ v H', e = .returned v ∧ R v H' ∧ Hp ⟨0, [], w, S, F⟩ H' w') [] c ⟨n, [], w, S, F⟩ (argl vs 0) H) : Ct P f vs H S R := fun w F hh =>
  Z.enterM hf hb hn (Nat.le_of_ble_eq_true hm) fun a hf' => wpIn_mono (h w F a w hf' hh.nds) fun e a w h => (by cases e <;> first | exact h | exact False.elim h)
theorem AE.rtM {fn : Func} {w0 : World} {S : List Nat} {F : Nat → Prop} {n : Nat} {R : Value → List (Nat × Res) → Prop} {Ds : List Nat} {ds : List Deferred} (kds : List Nat) (ps : List (Nat × Nat)) (v : Value) (hD : okD H Ds kds) (hres : ∀ a w, Fr a n ds l → Hp ⟨n, ds, w0, S, F⟩ (A.unob H) w → (results fn a.tmps).run P w = .ok v w) (hR : R v (A.ren (A.unob H) ps)) (hds : marks Ds = ds := by rfl) (hk : nod kds = true := by rfl) (h1 : nod (ps.map (·.1)) = true := by rfl) (h2 : nod (ps.map (·.2)) = true := by rfl) :
    AE r P (bodyQ P fn fun e w' => ∃ v H', e = .returned v ∧ R v H' ∧ Hp ⟨0, [], w0, S, F⟩ H' w') K .ret ⟨n, ds, w0, S, F⟩ l H := fun a w hf hh => by
  subst hds
  refine kont_ret (retM hf (fun D hm => ?_) (okD_nodup hh hD (nod_nodup.1 hk)) fun w' hc _ => ?_)
  · obtain ⟨k, _, h3⟩ := okD_mem hD D hm
    obtain ⟨d, hd, e2⟩ : ∃ d, w.heap[D]? = some d ∧ d = .deferred (some []) := hh.hold k _ h3
    subst e2; exact hd
  · have h3 := hh.unob (fun D hm => by obtain ⟨k, _, h3⟩ := okD_mem hD D hm; exact ⟨k, h3⟩) hc
    exact ⟨v, hres a w' hf h3, v, _, rfl, hR, (h3.ren ps h1 h2).nds⟩
theorem AX.rtM {fn : Func} {w0 : World} {S : List Nat} {F : Nat → Prop} {n : Nat} {R : Value → List (Nat × Res) → Prop} {Ds : List Nat} {ds : List Deferred} (kds : List Nat) (ps : List (Nat × Nat)) (v : Value) (hD : okD H Ds kds) (hres : ∀ a w, Fr a n ds l → Hp ⟨n, ds, w0, S, F⟩ (A.unob H) w → (results fn a.tmps).run P w = .ok v w) (hR : R v (A.ren (A.unob H) ps)) (hds : marks Ds = ds := by rfl) (hk : nod kds = true := by rfl) (h1 : nod (ps.map (·.1)) = true := by rfl) (h2 : nod (ps.map (·.2)) = true := by rfl) :
    AX r P (bodyQ P fn fun e w' => ∃ v H', e = .returned v ∧ R v H' ∧ Hp ⟨0, [], w0, S, F⟩ H' w') K .ret ⟨n, ds, w0, S, F⟩ l H := fun a w hf hh => wpIn_ret (AE.rtM kds ps v hD hres hR hds hk h1 h2 a w hf hh)
end

/-! ### the iterator's side -/
structure Yl (P : Program) (lid : Nat) (J : Nat → World → Prop) (Jx : World → Prop) (Φ : Nat → World → Nat → Prop) (Hc : List (Nat × Res)) (t : Ty) (ag : List Value → List Value) (xs : List t.den) : Prop where
  js : ∀ k W W', J k W → Ch [] W W' → J k W'
  jx : ∀ W W', Jx W → Ch [] W W' → Jx W'
  dat : ∀ k W, J k W → Hp ⟨0, [], W, [], Φ k W⟩ Hc W
  y : ∀ k W0 W args, k < xs.length → J k W0 → Ch [] W0 W → El t ag xs Φ k W0 W args → YieldAt (FW none) 0 P lid args.toArray W fun e W' => (e = .returned (.bool true) ∧ J (k + 1) W') ∨ (e = .returned (.bool false) ∧ Jx W')
/-- what is left to yield -/
def Rem {α : Type} (xs : List α) (k : Nat) (rs : List α) : Prop := xs.drop k = rs ∧ k ≤ xs.length
theorem Rem.zero {α : Type} (xs : List α) : Rem xs 0 xs := ⟨rfl, Nat.zero_le _⟩
theorem Rem.nil {α : Type} {xs : List α} {k : Nat} (h : Rem xs k []) : k = xs.length := by
  have := List.drop_eq_nil_iff.1 h.1; have := h.2; omega
theorem Rem.at {α : Type} {xs rs : List α} {k : Nat} {x : α} (h : Rem xs k (x :: rs)) : xs[k]? = some x := by
  have h1 := h.1
  have : (xs.drop k)[0]? = some x := by rw [h1]; rfl
  rw [List.getElem?_drop] at this; simpa using this
theorem Rem.next {α : Type} {xs rs : List α} {k : Nat} {x : α} (h : Rem xs k (x :: rs)) : Rem xs (k + 1) rs := by
  refine ⟨?_, ?_⟩
  · rw [← List.drop_drop, h.1]; rfl
  · exact (List.getElem?_eq_some_iff.1 h.at).1
def cns {α : Type} (x : α) (r : Option (List α)) : Option (List α) := r.map (x :: ·)
theorem cns_some {α : Type} {x : α} {r : Option (List α)} {rs : List α} (h : cns x r = some rs) : ∃ rs', rs = x :: rs' ∧ r = some rs' := by
  cases r with
  | none => cases h
  | some l => exact ⟨l, (Option.some.inj h).symm, rfl⟩
abbrev CY (n : Nat) (Φ : Nat → World → Nat → Prop) (i : Nat × World) : Cx := ⟨n, [], i.2, [], Φ i.1 i.2⟩
section
variable {P : Program} {lid : Nat} {J : Nat → World → Prop} {Jx : World → Prop} {Φ : Nat → World → Nat → Prop} {Hc : List (Nat × Res)} {t : Ty} {ag : List Value → List Value} {xs : List t.den} {n : Nat}
theorem Sq.enter {gf : FuncId} {fn : Func} {c : Code} {cap : List Value} (hf : P.funcs[gf]? = some fn) (hb : fn.body = some c) (hn : fn.ntmps = n) (hm : Nat.ble (cap.length + 1) n = true)
    (h : ∀ lid w J Jx Φ, Yl P lid J Jx Φ Hc t ag xs → J 0 w → AX none P (bodyPost P fn fun e W' => e = .returned (.tuple #[]) ∧ (J xs.length W' ∨ Jx W')) [] c (CY n Φ (0, w)) (argl (.func (.yield lid) #[] #[] :: cap) 0) Hc) : Sq P gf cap Hc t ag xs := fun Φ lid w J Jx h1 h2 h3 h4 h5 =>
  Z.enter hf hb hn (Nat.le_of_ble_eq_true hm) fun a hf' => h lid w J Jx Φ ⟨h1, h2, h3, h5⟩ h4 a w hf' (h3 0 w h4).nds
theorem AL.yield {ops : Array Oper} {Q : Exit → Act → World → Prop} {rest : List Oper} {l : List (Nat × Value)} {H : List (Nat × Res)} {d : Nat} {T : TypeId} {pos : String} {af : Array Edge} {c : Operand} {ass : List Operand} {ts : Array TypeId} {vs : List Value} {k : Nat} {w0 : World} {x : t.den} {rs : List t.den}
    (hY : Yl P lid J Jx Φ Hc t ag xs) (hJ : J k w0) (hR : Rem xs k (x :: rs)) (cs : List Value) (hD : Dat H t cs x)
    (ht : ∀ w', J (k + 1) w' → Rem xs (k + 1) rs → AL none P ops Q rest (CY n Φ (k + 1, w')) ((d, .bool true) :: l) Hc)
    (he : ∀ w', Jx w' → AL none P ops Q rest ⟨n, [], w', [], no⟩ ((d, .bool false) :: l) [])
    (hc : ev l c = some (.func (.yield lid) #[] #[]) := by rfl) (hx : evs l ass = some vs := by rfl) (hv : ag cs = vs := by rfl) (hd : Nat.ble (d + 1) n = true := by rfl) :
    AL none P ops Q (⟨some d, .call { callee := .value c, args := ass.toArray, argTypes := ts }, T, pos, af, none⟩ :: rest) (CY n Φ (k, w0)) l H := fun a w hf hh => by
  subst hv
  have hlt : k < xs.length := (List.getElem?_eq_some_iff.1 hR.at).1
  refine callY hf hd hc hx (hY.y k w0 w _ hlt hJ hh.ch ⟨x, cs, hR.at, rfl, rep_as (Dat.rep hh t hD) fun b hb hl => ?_⟩) ?_
  · rcases hb.2 with h1 | h1 | h1
    · exact .inl h1
    · exact .inr h1
    · cases h1
  · rintro e w' (⟨rfl, h1⟩ | ⟨rfl, h1⟩)
    · exact ⟨_, rfl, fun a' hf' => ht w' h1 hR.next a' w' hf' (hY.dat _ _ h1).nds⟩
    · exact ⟨_, rfl, fun a' hf' => he w' h1 a' w' hf' ⟨Ch.refl' _ _, fun k r h => (by cases h), fun k b ⟨_, h, _⟩ => (by cases h), fun k k' b ⟨_, h, _⟩ => (by cases h), fun k r j h => (by cases h)⟩⟩
theorem AE.rtY {fn : Func} {l : List (Nat × Value)} {H : List (Nat × Res)} {k : Nat} {w0 : World} (hY : Yl P lid J Jx Φ Hc t ag xs) (hJ : J k w0) (hR : Rem xs k []) (h : fn.results = #[] := by rfl) : AE none P (bodyPost P fn fun e W' => e = .returned (.tuple #[]) ∧ (J xs.length W' ∨ Jx W')) [] .normal (CY n Φ (k, w0)) l H := fun a w hf hh =>
  Z.endv hf (Z.res0 h w) ⟨rfl, .inl (hR.nil ▸ hY.js _ _ _ hJ hh.ch)⟩
theorem AX.rtX {fn : Func} {K : List Kx} {l : List (Nat × Value)} {H : List (Nat × Res)} {w0 : World} {F : Nat → Prop} (hY : Yl P lid J Jx Φ Hc t ag xs) (hJ : Jx w0) (h : fn.results = #[] := by rfl) : AX none P (bodyPost P fn fun e W' => e = .returned (.tuple #[]) ∧ (J xs.length W' ∨ Jx W')) K .ret ⟨n, [], w0, [], F⟩ l H := AX.ret0 fun a w hf hh =>
  Z.retv hf (Z.res0 h w) ⟨rfl, .inr (hY.jx _ _ hJ hh.ch)⟩
end
section
variable {r : Option Nat} {P : Program} {Y : Exit → Act → World → Prop} {K : List Kx} {C : Cx} {l : List (Nat × Value)} {H : List (Nat × Res)} {ι : Type} {Cf : ι → Cx}
/-- where ways meet, and rounds, in a context that turns -/
abbrev StC (Cf : ι → Cx) (l : List (Nat × Value)) (H : List (Nat × Res)) (ks hs : List Nat) (J : ι → List (Nat × Value) → List (Nat × Res) → Prop) : Act → World → Prop := fun a w => ∃ i nl nh, J i nl nh ∧ Fr a (Cf i).n (Cf i).ds (cat nl (kp l ks)) ∧ Hp (Cf i) (hcat nh (kpH H hs hs)) w
theorem AE.jC {l' : List (Nat × Value)} {H' : List (Nat × Res)} {ks hs : List Nat} {J : ι → List (Nat × Value) → List (Nat × Res) → Prop} (i : ι) (gs : List Nat) (nl : List (Nat × Value)) (nh : List (Nat × Res)) (hJ : J i nl nh) (h1 : kp l ((cat nl (kp l' ks)).map (·.1)) = cat nl (kp l' ks) := by kernel_rfl) (h2 : kpH H gs gs = hcat nh (kpH H' hs hs) := by kernel_rfl) :
    AE r P Y (.m (StC Cf l' H' ks hs J) :: K) .normal (Cf i) l H := fun a w hf hh => ⟨i, nl, nh, hJ, Fr.cov hf h1, hh.cov gs h2⟩
theorem AX.loopC (Cf : ι → Cx) (i0 : ι) (ks hs gs : List Nat) (J : Nat → ι → List (Nat × Value) → List (Nat × Res) → Prop) (m : Nat) (nl : List (Nat × Value)) (nh : List (Nat × Res)) {x : Code} (hJ : J m i0 nl nh)
    (h : ∀ f i nl nh, J f i nl nh → AX r P Y (.m (StC Cf l H ks hs fun i nl nh => ∃ f', f' < f ∧ J f' i nl nh) :: K) x (Cf i) (cat nl (kp l ks)) (hcat nh (kpH H hs hs)))
    (h1 : kp l ((cat nl (kp l ks)).map (·.1)) = cat nl (kp l ks) := by kernel_rfl) (h2 : kpH H gs gs = hcat nh (kpH H hs hs) := by kernel_rfl) : AX r P Y K (.loop x) (Cf i0) l H := fun a w hf hh => by
  refine Z.loop (fun f a w => StC Cf l H ks hs (J f) a w) m ⟨i0, nl, nh, hJ, Fr.cov hf h1, hh.cov gs h2⟩ fun f a w ⟨i, nl, nh, hJ, hf, hh⟩ => ?_
  refine wpIn_mono (h f i nl nh hJ a w hf hh) fun e a w hq => ?_
  cases e with
  | normal => obtain ⟨i, nl, nh, ⟨f', hlt, hJ'⟩, hf', hh'⟩ := hq; exact ⟨f', hlt, i, nl, nh, hJ', hf', hh'⟩
  | _ => exact hq
end
theorem drop_at {α : Type} {xs : List α} {k : Nat} {x : α} (h : xs[k]? = some x) : xs.drop k = x :: xs.drop (k + 1) := by
  obtain ⟨hl, rfl⟩ := List.getElem?_eq_some_iff.1 h
  exact List.drop_eq_getElem_cons hl
end Go.A
end

section
set_option linter.unusedVariables false
set_option linter.unusedSimpArgs false
set_option linter.unusedSectionVars false
namespace Go.A
open Go.RowKit Go.Z
section
variable {P : Program} {kt et tt : TypeId} {κ : Type} [DecidableEq κ] {enc : κ → Value} {w : World} {b : Nat}
end

section
variable {P : Program} {kt et tt st ty : TypeId} {κ : Type} [DecidableEq κ] {enc : κ → Value} {w : World} {b : Nat} {t : Ty} {e : TypeId} {F G : Nat → Prop} {As : List (Option Addr × Nat)} {m : List (κ × List t.den)}
end

section
variable {r : Option Nat} {P : Program} {ops : Array Oper} {Q : Exit → Act → World → Prop} {rest : List Oper} {C : Cx} {l : List (Nat × Value)} {H : List (Nat × Res)}
end
end Go.A
end

section
set_option linter.unusedVariables false
namespace Go.A
open Go.RowKit Go.Z Go.Shelf Go.Proofs Go.Lib
def tabF : List Value := (List.range 256).map fun c => .int .u8 (firstT c)
def tabA : List Value := (List.range 32).map fun j => .int .u8 (if j % 2 = 0 then accLo (j / 2) else accHi (j / 2))
end Go.A
end

section
set_option maxRecDepth 100000
namespace Go.Proofs.YtlbdgahbamalcaaGreatDoor
open Go.RowKit Go.Shelf Go.Lib
def Tryz.laysValid_ren : Go.Shelf.Ren := ⟨fun | 196 => 60 | 259 => 89 | n => n, fun | 9 => 9 | 4 => 4 | 3 => 3 | 5 => 5 | 12 => 12 | 119 => 162 | 0 => 0 | 46 => 120 | 139 => 165 | 138 => 164 | 53 => 151 | n => n, fun | 3 => 0 | 4 => 1 | n => n⟩
theorem Tryz.laysValid : Go.Proofs.Lays.n196 Tryz.prog Tryz.laysValid_ren where
  mixed := by kernel_rfl
  f196 := Tryz.func60.trans (congrArg some (by kernel_rfl))
  f259 := Tryz.func89.trans (congrArg some (by kernel_rfl))
  t0 := Tryz.underlying0
  a0 := Tryz.isAgg0
  z0 := Tryz.sizeOf0
  v0 := Tryz.zeroValue0
  t3 := Tryz.underlying3
  a3 := Tryz.isAgg3
  z3 := Tryz.sizeOf3
  v3 := Tryz.zeroValue3
  t4 := Tryz.underlying4
  a4 := Tryz.isAgg4
  z4 := Tryz.sizeOf4
  v4 := Tryz.zeroValue4
  t5 := Tryz.underlying5
  a5 := Tryz.isAgg5
  z5 := Tryz.sizeOf5
  v5 := Tryz.zeroValue5
  t9 := Tryz.underlying9
  a9 := Tryz.isAgg9
  z9 := Tryz.sizeOf9
  v9 := Tryz.zeroValue9
  t12 := Tryz.underlying12
  a12 := Tryz.isAgg12
  z12 := Tryz.sizeOf12
  v12 := Tryz.zeroValue12
  t46 := Tryz.underlying120
  a46 := Tryz.isAgg120
  z46 := Tryz.sizeOf120
  v46 := Tryz.zeroValue120
  t53 := Tryz.underlying151
  a53 := Tryz.isAgg151
  z53 := Tryz.sizeOf151
  v53 := Tryz.zeroValue151
  t119 := Tryz.underlying162
  a119 := Tryz.isAgg162
  z119 := Tryz.sizeOf162
  t138 := Tryz.underlying164
  a138 := Tryz.isAgg164
  z138 := Tryz.sizeOf164
  v138 := Tryz.zeroValue164
  t139 := Tryz.underlying165
  a139 := Tryz.isAgg165
  z139 := Tryz.sizeOf165
  v139 := Tryz.zeroValue165
  g3 := by kernel_rfl
  g4 := by kernel_rfl
end Go.Proofs.YtlbdgahbamalcaaGreatDoor
end

section
set_option linter.unusedVariables false
namespace Go.A
open Go.RowKit Go.Z
/-- truths by a number's bits -/
def mb : Nat → Nat → List Bool
  | 0, _ => []
  | n + 1, m => Nat.beq (m % 2) 1 :: mb n (m / 2)
/-- steps that only part what stands ahead from what stands behind -/
def nxs : Nat → Option Code → List Kx → Option (Option Code × List Kx)
  | 0, c, K => some (c, K)
  | n + 1, some (.seq x y), K => nxs n (some x) (.c y :: K)
  | n + 1, some (.block id c), K => nxs n (some c) (.b id :: K)
  | n + 1, some .skip, K => nxs n none K
  | n + 1, some (.label _), K => nxs n none K
  | n + 1, some (.exit id), K => match popx id K with
    | some K' => nxs n none K'
    | none => none
  | n + 1, none, .c y :: K => nxs n (some y) K
  | n + 1, none, .b _ :: K => nxs n none K
  | n + 1, none, .s :: K => nxs n none K
  | _ + 1, _, _ => none
section
variable {r : Option Nat} {P : Program} {Y : Exit → Act → World → Prop} {C : Cx} {l : List (Nat × Value)} {H : List (Nat × Res)} {K K' : List Kx} {c c' : Code}
def GX (r : Option Nat) (P : Program) (Y : Exit → Act → World → Prop) (C : Cx) (l : List (Nat × Value)) (H : List (Nat × Res)) : Option Code → List Kx → Prop
  | some c, K => AX r P Y K c C l H
  | none, K => AE r P Y K .normal C l H
theorem nxs_ok : ∀ {n : Nat} {c c' : Option Code} {K K' : List Kx}, nxs n c K = some (c', K') → GX r P Y C l H c' K' → GX r P Y C l H c K := by
  intro n
  induction n with
  | zero => intro c c' K K' e h; injection e with e; injection e with e1 e2; subst e1; subst e2; exact h
  | succ n ih =>
    intro c c' K K' e h
    unfold nxs at e
    split at e
    · injection e with e; injection e with e1 e2; subst e1; subst e2; exact h
    · rename_i e0; cases e0; exact AX.seq (ih e h)
    · rename_i e0; cases e0; exact AX.block (ih e h)
    · rename_i e0; cases e0; exact AX.skip (ih e h)
    · rename_i e0; cases e0; exact AX.label (ih e h)
    · rename_i e0
      cases e0
      split at e
      · rename_i hp; exact AX.exit hp (ih e h)
      · cases e
    · rename_i e0; cases e0; exact AE.c (ih e h)
    · rename_i e0; cases e0; exact AE.b (ih e h)
    · rename_i e0; cases e0; exact AE.s (ih e h)
    · cases e
theorem xx (n : Nat) (h : AX r P Y K' c' C l H) (e : nxs n (some c) K = some (some c', K') := by rfl) : AX r P Y K c C l H := nxs_ok (c := some c) (c' := some c') e h
theorem xe (n : Nat) (h : AE r P Y K' .normal C l H) (e : nxs n (some c) K = some (none, K') := by rfl) : AX r P Y K c C l H := nxs_ok (c := some c) (c' := none) e h
theorem ex (n : Nat) (h : AX r P Y K' c' C l H) (e : nxs n none K = some (some c', K') := by rfl) : AE r P Y K .normal C l H := nxs_ok (c := none) (c' := some c') e h
theorem ee (n : Nat) (h : AE r P Y K' .normal C l H) (e : nxs n none K = some (none, K') := by rfl) : AE r P Y K .normal C l H := nxs_ok (c := none) (c' := none) e h
theorem xl (n : Nat) {id : Nat} {lo : List Oper} (h : AL r P lo.toArray (kont r P Y K') lo C l H) (e : nxs n (some c) K = some (some (.region id lo.toArray false), K') := by rfl) : AX r P Y K c C l H := xx n (AX.reg h) e
theorem el (n : Nat) {id : Nat} {lo : List Oper} (h : AL r P lo.toArray (kont r P Y K') lo C l H) (e : nxs n none K = some (some (.region id lo.toArray false), K') := by rfl) : AE r P Y K .normal C l H := ex n (AX.reg h) e
theorem dl (n : Nat) {ops : Array Oper} {id : Nat} {lo : List Oper} (h : AL r P lo.toArray (kont r P Y K') lo C l H) (e : nxs n none K = some (some (.region id lo.toArray false), K') := by rfl) : AL r P ops (kont r P Y K) [] C l H := AL.done (el n h e)
theorem dx (n : Nat) {ops : Array Oper} (h : AX r P Y K' c' C l H) (e : nxs n none K = some (some c', K') := by rfl) : AL r P ops (kont r P Y K) [] C l H := AL.done (ex n h e)
theorem de (n : Nat) {ops : Array Oper} (h : AE r P Y K' .normal C l H) (e : nxs n none K = some (none, K') := by rfl) : AL r P ops (kont r P Y K) [] C l H := AL.done (ee n h e)
end
section
variable {r : Option Nat} {P : Program} {ops : Array Oper} {Q : Exit → Act → World → Prop} {lst rest : List Oper} {C : Cx} {l : List (Nat × Value)} {H : List (Nat × Res)} {T : TypeId} {pos : String} {af : Array Edge}
/-- quiet operations, without conditions -/
theorem q0 (bs es : List Nat) (hs : List Hint) (nl : List (Nat × Value)) (h : AL r P ops Q (lst.drop hs.length) C (cat nl l) H)
    (hq : ((qs P ⟨knb H bs, kne H es⟩ C.n ops hs lst (Z.q0 l)).bind (qfin l (nl.map Prod.fst))) = some ([], nl) := by kernel_rfl)
    (he : (qs P ⟨knb H bs, kne H es⟩ C.n ops hs lst (Z.q0 l)).map (fun s => s.q.map Prod.fst) = (qs P ⟨knb H bs, kne H es⟩ C.n ops hs lst (Z.q0 l)).map (fun s => s.q.map Prod.snd) := by kernel_rfl) : AL r P ops Q lst C l H :=
  AL.q bs es hs (nl.map Prod.fst) [] nl trivial h hq he
theorem q (bs es : List Nat) (hs : List Hint) (cs : List Prop) (nl : List (Nat × Value)) (hc : conj cs) (h : AL r P ops Q (lst.drop hs.length) C (cat nl l) H)
    (hq : ((qs P ⟨knb H bs, kne H es⟩ C.n ops hs lst (Z.q0 l)).bind (qfin l (nl.map Prod.fst))) = some (cs, nl) := by kernel_rfl)
    (he : (qs P ⟨knb H bs, kne H es⟩ C.n ops hs lst (Z.q0 l)).map (fun s => s.q.map Prod.fst) = (qs P ⟨knb H bs, kne H es⟩ C.n ops hs lst (Z.q0 l)).map (fun s => s.q.map Prod.snd) := by kernel_rfl) : AL r P ops Q lst C l H :=
  AL.q bs es hs (nl.map Prod.fst) cs nl hc h hq he
/-- a whole thing is stored -/
theorem sw (k : Nat) (js : List Nat) (new : List Value) {t bt : TypeId} {x y : Operand} {g o m : Nat} {cs : List Value} {v : Value} (h : AL r P ops Q rest C l ((k, .blk g bt new) :: ded js H))
    (hb : hk H k = some (.blk g bt cs) := by rfl) (hx : ev l x = some (.pointer (some ⟨g, o, none⟩)) := by rfl) (hy : ev l y = some v := by rfl) (hS : szB P t = some m := by kernel_rfl)
    (hv : v.cells = new.toArray := by rfl) (hm : new.length = m := by rfl) (ho : Nat.ble (o + m) cs.length = true := by rfl) (h1 : new.all (fun u => u.oneCell') = true := by rfl) (hc : cs.take o ++ new ++ cs.drop (o + m) = new := by rfl) (hj : hng [k] js H = true := by kernel_rfl) :
    AL r P ops Q (⟨none, .store t x y, T, pos, af, none⟩ :: rest) C l H := AL.store k js h hb hx hy hS hv hm ho h1 hc hj
end
section
variable {r : Option Nat} {P : Program} {Y : Exit → Act → World → Prop} {K : List Kx} {C : Cx} {l : List (Nat × Value)} {H : List (Nat × Res)}
/-- where ways meet, by what is told alone -/
theorem j {l' : List (Nat × Value)} {H' : List (Nat × Res)} {ks hs : List Nat} {J : List (Nat × Value) → List (Nat × Res) → Prop} {nl : List (Nat × Value)} {nh : List (Nat × Res)} (hJ : J nl nh) (h1 : kp l ((cat nl (kp l' ks)).map (·.1)) = cat nl (kp l' ks) := by kernel_rfl) (h2 : kpH H (nh.map (·.1) ++ hs) (nh.map (·.1) ++ hs) = hcat nh (kpH H' hs hs) := by kernel_rfl) :
    AE r P Y (.m (St C l' H' ks hs J) :: K) .normal C l H := AE.j (nh.map (·.1) ++ hs) nl nh hJ h1 h2
theorem lp_ (ks hs : List Nat) (J : Nat → List (Nat × Value) → List (Nat × Res) → Prop) {nl : List (Nat × Value)} {nh : List (Nat × Res)} {x : Code} (hJ : J FU nl nh)
    (h : ∀ f nl nh, J f nl nh → AX r P Y (.m (St C l H ks hs fun nl nh => ∃ f', f' < f ∧ J f' nl nh) :: K) x C (cat nl (kp l ks)) (hcat nh (kpH H hs hs)))
    (h1 : kp l ((cat nl (kp l ks)).map (·.1)) = cat nl (kp l ks) := by kernel_rfl) (h2 : kpH H (nh.map (·.1) ++ hs) (nh.map (·.1) ++ hs) = hcat nh (kpH H hs hs) := by kernel_rfl) : AX r P Y K (.loop x) C l H :=
  AX.loop ks hs (nh.map (·.1) ++ hs) J FU nl nh hJ h h1 h2
end
section
variable {r : Option Nat} {P : Program} {ops : Array Oper} {Q : Exit → Act → World → Prop} {Hq : List (Nat × Res)} {m g : Nat} {li : List Bool} {C : Cx} {l : List (Nat × Value)} {H : List (Nat × Res)}
/-- quiet operations first, in an open region -/
theorem hq (hQ : Pq Q) (gs qs bs es : List Nat) (li' : List Bool) (f : Nat) (is : List (Nat × Hint)) (nl : List (Nat × Value)) (h : AH r P ops Q (kpH H qs qs) m f li' C (cat nl l) H)
    (hg : g = f + is.length := by rfl) (hb : is.all (fun p => bon ops m p.1) = true := by kernel_rfl) (hcl : cloB ops li.toArray = true := by kernel_rfl) (hn : (Region.noSelect ops && noDefer ops) = true := by kernel_rfl)
    (hq : ((dqs P ⟨knb (kpH H qs qs) bs, kne (kpH H qs qs) es⟩ C.n ops is li.toArray (Z.q0 l)).bind fun x => (qfin l (nl.map Prod.fst) x.2).map fun y => (x.1.toList, y)) = some (li', [], nl) := by kernel_rfl)
    (he : (dqs P ⟨knb (kpH H qs qs) bs, kne (kpH H qs qs) es⟩ C.n ops is li.toArray (Z.q0 l)).map (fun s => s.2.q.map Prod.fst) = (dqs P ⟨knb (kpH H qs qs) bs, kne (kpH H qs qs) es⟩ C.n ops is li.toArray (Z.q0 l)).map (fun s => s.2.q.map Prod.snd) := by kernel_rfl)
    (e : kpH (kpH H qs qs) gs gs = Hq := by kernel_rfl) : AH r P ops Q Hq m g li C l H := AH.q hQ gs qs bs es li' f is (nl.map Prod.fst) [] nl trivial h hg hb hcl hn hq he e
end
section
variable {r : Option Nat} {P : Program} {l : List (Nat × Value)} {H : List (Nat × Res)} {fn : Func} {K : List Kx} {w0 : World} {S : List Nat} {F : Nat → Prop} {n : Nat} {R : Value → List (Nat × Res) → Prop}
/-- results that all lie in slots -/
theorem rt1 (ps : List (Nat × Nat)) {t : Nat} {v : Value} (hR : R v (A.ren H ps)) (hf : fn.results = #[.tmp t] := by rfl) (hv : lk l t = some v := by rfl) (h1 : nod (ps.map (·.1)) = true := by rfl) (h2 : nod (ps.map (·.2)) = true := by rfl) :
    AX r P (bodyPost P fn fun e w' => ∃ v H', e = .returned v ∧ R v H' ∧ Hp ⟨0, [], w0, S, F⟩ H' w') K .ret ⟨n, [], w0, S, F⟩ l H := AX.ret ps v (fun a w h hh => Z.resv1 hf (Z.rv_t h hv)) hR h1 h2
end
/-- where the body's own end is kept -/
theorem pb {r : Option Nat} {P : Program} {fn : Func} {R : Ending → World → Prop} {K : List Kx} : Pq (kont r P (bodyPost P fn R) K) := pk_kont (Z.Pq.body _ _ _)
end Go.A
end

section
set_option linter.unusedVariables false
namespace Go.A
open Go.RowKit Go.Z
section
variable {P : Program} {C : Cx} {l : List (Nat × Value)} {H : List (Nat × Res)}
/-- a shared row's first ones are a shared row -/
theorem cutp {X : Act → World → Prop} (k kn : Nat) {t : Ty} {A : Option Addr} {c : Nat} {xs : List t.den} (v : Nat) (h2 : v ≤ xs.length) (h : ∀ a w, Fr a C.n C.ds l → Hp C ((kn, .sh (.slice t) [.slice A (xs.take v).length c] (xs.take v)) :: H) w → X a w)
    (hk1 : hk H k = some (.sh (.slice t) [.slice A xs.length c] xs) := by rfl) (hn : hk H kn = none := by kernel_rfl) : ∀ a w, Fr a C.n C.ds l → Hp C H w → X a w := fun a w hf hh => by
  have hr : (Ty.slice t).rep w (Fh C H) [.slice A xs.length c] xs := hh.hold k _ hk1
  have hl2 : (xs.take v).length = v := by rw [List.length_take]; omega
  have hr2 := rep_take hr h2
  have hr3 : (Ty.slice t).rep w (Fh C H) [.slice A (xs.take v).length c] (xs.take v) := by rw [hl2]; exact hr2
  exact h a w hf (hh.add hn rfl (fun j hj => by cases hj) (rep_in _ hr3))
theorem r_cuth (k : Nat) {a : Act} {w : World} {t : Ty} {tt e : TypeId} {x hi : Operand} {A : Option Addr} {c : Nat} {xs : List t.den} {k2 : IntKind} {q : Int} {v : Nat} {d : Option Tmp} {T : TypeId} {pos : String} {af : Array Edge} {gd : Option (Nat × Bool)} (hf : Fr a C.n C.ds l) (hh : Hp C H w) (hq : q = (v : Int)) (h2 : v ≤ xs.length)
    (hk1 : hk H k = some (.sh (.slice t) [.slice A xs.length c] xs) := by rfl) (hx : ev l x = some (.slice A xs.length c) := by rfl) (hhi : ev l hi = some (.int k2 q) := by rfl) (hS : szB P e = some t.size := by kernel_rfl)
    (ht : P.underlying tt = some (.slice e) := by rfl) : (execOp a.eval ⟨d, .slice tt x none (some hi) none, T, pos, af, gd⟩).run P w = .ok (.value (.slice A (xs.take v).length c)) w := by
  have hr : (Ty.slice t).rep w (Fh C H) [.slice A xs.length c] xs := hh.hold k _ hk1
  have hlen := rep_slice_len hr
  have hl2 : (xs.take v).length = v := by rw [List.length_take]; omega
  rw [hl2]
  exact r_slice_h ht (szB_run hS) (hf.eval hx) (hf.eval hhi) hq (by omega)
end
end Go.A
end

section
set_option linter.unusedVariables false
set_option linter.unusedSimpArgs false
namespace Go.Z
open Go.RowKit
section
variable {κ : Type} [DecidableEq κ] {α : Type}
end
section
variable {r : Option Nat} {P : Program} {ops : Array Oper} {Q : Exit → Act → World → Prop} {a : Act} {w : World} {rest : List Oper} {n : Nat} {ds : List Deferred} {l : List (Nat × Value)} {d : Nat} {T : TypeId} {pos : String} {af : Array Edge}
variable {κ : Type} [DecidableEq κ] {enc : κ → Value} {kt et tt kt2 : TypeId} {t : Ty} {agg : Bool} {F : Nat → Prop} {b : Nat} {m : List (κ × t.den)}
theorem valw0 {op : Op} {v : Value} {w' : World} (hf : Fr a n ds l) (hr : (execOp a.eval ⟨none, op, T, pos, af, none⟩).run P w = .ok (.value v) w')
    (h : ∀ a', Fr a' n ds l → WL r P ops Q rest a' w') : WL r P ops Q (⟨none, op, T, pos, af, none⟩ :: rest) a w :=
  stepw rfl hr (fun _ h => by cases h) fun _ hK => hK _ _ (h _ (hf.put_none v))
theorem zc_get (zs : List Value) (n q : Nat) (h : q < n * zs.length) (h0 : 0 < zs.length) : (Builtin.zeroCells zs.toArray n).toList[q]? = zs[q % zs.length]? := by
  have hm := Nat.mod_lt q h0
  simp [Builtin.zeroCells, h, hm]
/-- the end of an own row is cleared -/
theorem run_clearOwn {t : Ty} {e tt ty : TypeId} {B : Nat} {F : Nat → Prop} {A : Option Addr} {c : Nat} {xs : List t.den} (h : Own t e B w F A c xs) (ht : P.underlying tt = some (.slice e)) {z : Value} {zs : List Value} (hz : ∀ w, (zeroValue e).run P w = .ok z w)
    (hzc : z.cells = zs.toArray) (hzl : zs.length = t.size) (h1z : ∀ u ∈ zs, u.oneCell' = true) {z0 : t.den} (hz0 : t.rep w no zs z0) {u : Nat} (hu : u ≤ xs.length) (hF : ∀ b, F b → b ∉ obl A) :
    ∃ w', (Builtin.clear_ #[tt] ty #[.slice (cutA A c u t.size) (xs.length - u) (c - u)]).run P w = .ok (.tuple #[]) w' ∧ Ch (obl A) w w' ∧ w'.heap.size = w.heap.size ∧ Own t e B w' F A c (xs.take u ++ List.replicate (xs.length - u) z0) := by
  rcases Nat.eq_or_lt_of_le hu with he | hlt
  · subst he
    refine ⟨w, ?_, Ch.refl w |>.mono (by simp), rfl, by simpa using h⟩
    rw [Nat.sub_self]
    cases cutA A c xs.length t.size <;> simp [Builtin.clear_, run_underlying ht]
  obtain ⟨cells, ⟨hl, hrow⟩, h1c, h2⟩ := h
  rcases hrow with ⟨hv0, hn⟩ | ⟨g, cap, cur, hv0, hb, hg, hnc, hcm, hcs, htake⟩
  · omega
  injection hv0 with hA' _ hc'
  subst hA'; subst hc'
  have hpos := pos_size t
  have hl : cells.length = xs.length * t.size := hl
  have hcur : xs.length * t.size ≤ cur.size := by rw [hcs]; exact Nat.mul_le_mul_right _ hnc
  have hcell : ∀ q, q < xs.length * t.size → cur.toList[q]? = cells[q]? := fun q hq => by rw [← htake, List.getElem?_take_of_lt hq]
  have hBlk : Blk w g e cur.toList := by unfold Blk; simpa using hg
  obtain ⟨zc, hzcd⟩ : ∃ zc, zc = (Builtin.zeroCells zs.toArray (xs.length - u)).toList := ⟨_, rfl⟩
  have hzcl : zc.length = (xs.length - u) * t.size := by rw [hzcd]; simp [Builtin.zeroCells, hzl]
  have hsum : u * t.size + zc.length = xs.length * t.size := by rw [hzcl, ← Nat.add_mul]; congr 1; omega
  have hzq : ∀ q, q < zc.length → zc[q]? = zs[q % t.size]? := fun q hq => by rw [hzcd, zc_get zs _ q (by rw [hzl, ← hzcl]; exact hq) (by omega), hzl]
  have h1zc : ∀ v ∈ zc, v.oneCell' = true := fun v hv => by
    obtain ⟨q, hq⟩ := List.mem_iff_getElem?.1 hv
    have := hzq q (List.getElem?_eq_some_iff.1 hq).1
    rw [this] at hq; exact h1z v (List.mem_of_getElem? hq)
  have hst := run_storeCells_at P g (u * t.size) e zc 0 cur w hg (by omega) h1zc
  rw [Nat.add_zero] at hst
  obtain ⟨cs', hcs'⟩ : ∃ cs', cs' = cur.toList.take (u * t.size) ++ zc ++ cur.toList.drop (u * t.size + zc.length) := ⟨_, rfl⟩
  rw [← hcs'] at hst
  have hlen' : cs'.length = cur.size := by rw [hcs']; simp; omega
  have hlt2 : (xs.take u ++ List.replicate (xs.length - u) z0).length = xs.length := by simp; omega
  have hget : ∀ q, q < xs.length * t.size → (cs'.take (xs.length * t.size))[q]? = if q < u * t.size then cells[q]? else zc[q - u * t.size]? := fun q hq => by
    rw [List.getElem?_take_of_lt hq, hcs', patch_get (by simp; omega), hcell q hq]
    split
    · rfl
    · rw [if_pos (by omega)]
  have hch : Ch (obl (some (⟨g, 0, none⟩ : Addr))) w (w.setRow g cs'.toArray) := Ch.setRow w g _
  refine ⟨w.setRow g cs'.toArray, ?_, hch, by simp [World.setRow], cs'.take (xs.length * t.size), ⟨by rw [hlt2, List.length_take, hlen', Nat.min_eq_left hcur], .inr ⟨g, c, cs'.toArray, by rw [hlt2], hb, ?_, by rw [hlt2]; exact hnc, hcm, by rw [List.size_toArray, hlen', hcs], by rw [hlt2]⟩⟩, ?_, ?_⟩
  · have hne : xs.length - u ≠ 0 := by omega
    obtain ⟨m, hm⟩ : ∃ m, xs.length - u = m + 1 := ⟨xs.length - u - 1, by omega⟩
    have hcut : cutA (some (⟨g, 0, none⟩ : Addr)) c u t.size = some ⟨g, u * t.size, none⟩ := by
      unfold cutA; rw [if_neg (by omega)]; simp [Addr.add_lit]
    rw [hcut]
    have hst2 : (storeCells ⟨g, u * t.size, none⟩ (Builtin.zeroCells z.cells (xs.length - u)).toList 0).run P w = .ok () (w.setRow g cs'.toArray) := by rw [hzc, ← hzcd]; exact hst
    rw [hm] at hst2 ⊢
    simp [Builtin.clear_, run_underlying ht, hz, hst2]
  · have := hBlk.setRow (cs' := cs')
    unfold Blk at this; exact this
  · intro v hv
    obtain ⟨q, hq⟩ := List.mem_iff_getElem?.1 hv
    have hql : q < xs.length * t.size := by have := (List.getElem?_eq_some_iff.1 hq).1; rw [List.length_take] at this; omega
    rw [hget q hql] at hq
    split at hq
    · exact h1c v (List.mem_of_getElem? hq)
    · exact h1zc v (List.mem_of_getElem? hq)
  · intro i x hx
    have hil : i < xs.length := by have := (List.getElem?_eq_some_iff.1 hx).1; rwa [hlt2] at this
    have his : i * t.size + t.size ≤ xs.length * t.size := by
      have : (i + 1) * t.size ≤ xs.length * t.size := Nat.mul_le_mul_right _ hil
      rwa [Nat.add_mul, Nat.one_mul] at this
    by_cases hiu : i < u
    · have hx2 : xs[i]? = some x := by rwa [List.getElem?_append_left (by simp; omega), List.getElem?_take_of_lt hiu] at hx
      have hiu2 : i * t.size + t.size ≤ u * t.size := by
        have : (i + 1) * t.size ≤ u * t.size := Nat.mul_le_mul_right _ hiu
        rwa [Nat.add_mul, Nat.one_mul] at this
      have e1 : ((cs'.take (xs.length * t.size)).drop (i * t.size)).take t.size = (cells.drop (i * t.size)).take t.size := by
        refine List.ext_getElem? fun q => ?_
        rw [seg_get, seg_get]
        split
        · rw [hget _ (by omega), if_pos (by omega)]
        · rfl
      rw [e1]
      exact rep_to (h2 i x hx2) hch fun b hb _ => ⟨hF b hb, hb⟩
    · have hx0 : x = z0 := by
        rw [List.getElem?_append_right (by simp; omega), List.getElem?_replicate] at hx
        split at hx
        · injection hx with hx; exact hx.symm
        · cases hx
      subst hx0
      have hui : u * t.size ≤ i * t.size := Nat.mul_le_mul_right _ (by omega)
      have e1 : ((cs'.take (xs.length * t.size)).drop (i * t.size)).take t.size = zs := by
        refine List.ext_getElem? fun q => ?_
        rw [seg_get]
        split
        · rename_i hq
          rw [hget _ (by omega), if_neg (by omega), hzq _ (by omega)]
          have : i * t.size + q - u * t.size = q + (i - u) * t.size := by rw [Nat.sub_mul]; omega
          rw [this, Nat.add_mul_mod_self_right, Nat.mod_eq_of_lt hq]
        · rw [List.getElem?_eq_none (by omega)]
      rw [e1]
      exact rep_to (F' := F) hz0 hch fun _ h _ => h.elim
end
end Go.Z
namespace Go.A
open Go.RowKit Go.Z
section
variable {r : Option Nat} {P : Program} {ops : Array Oper} {Q : Exit → Act → World → Prop} {rest lst : List Oper} {C : Cx} {l : List (Nat × Value)} {H : List (Nat × Res)} {d : Nat} {op : Op} {T : TypeId} {pos : String} {af : Array Edge}
variable {κ : Type} [DecidableEq κ] {enc : κ → Value} {kt et tt kt2 : TypeId} {t : Ty} {agg : Bool} {b : Nat} {m : List (κ × t.den)}
end
section
variable {r : Option Nat} {P : Program} {ops : Array Oper} {Q : Exit → Act → World → Prop} {rest lst : List Oper} {C : Cx} {l : List (Nat × Value)} {H : List (Nat × Res)} {d : Nat} {op : Op} {T T2 : TypeId} {pos pos2 : String} {af af2 : Array Edge}
theorem Dat.rep0 {w : World} : ∀ (t : Ty) {cs : List Value} {x : t.den}, Dat [] t cs x → t.rep w no cs x
  | .int _, _, _, h => h
  | .byte, _, _, h => h
  | .bool, _, _, h => h
  | .str, _, _, h => h
  | .slice e, cs, xs, h => by
    rcases h with ⟨k, h⟩ | ⟨h1, h2⟩
    · cases h
    · subst h1; subst h2; exact rep_nil e
  | .pair a b, cs, x, h => ⟨_, _, (List.take_append_drop a.size cs).symm, Dat.rep0 a h.1, Dat.rep0 b h.2⟩
/-- clear(xs[lo:]) of an own row -/
theorem AL.clr (k : Nat) (js : List Nat) {t : Ty} {tt e : TypeId} {x lo : Operand} {A : Option Addr} {c : Nat} {xs : List t.den} {k1 : IntKind} {p : Int} {u : Nat} {z : Value} {zs : List Value} (z0 : t.den) (hp : p = (u : Int)) (h2 : u ≤ xs.length)
    (hz : ∀ w, (zeroValue e).run P w = .ok z w) (hz0 : Dat [] t zs z0)
    (h : AL r P ops Q rest C l ((k, .own t e A c (xs.take u ++ List.replicate (xs.length - u) z0)) :: ded js H)) (hS : ∀ w, (sizeOf e).run P w = .ok t.size w)
    (hk1 : hk H k = some (.own t e A c xs) := by rfl) (hx : ev l x = some (.slice A xs.length c) := by rfl) (hlo : ev l lo = some (.int k1 p) := by rfl) (ht : P.underlying tt = some (.slice e) := by rfl)
    (hzc : z.cells = zs.toArray := by rfl) (hzl : zs.length = t.size := by rfl) (h1 : zs.all (fun u => u.oneCell') = true := by rfl) (hd : Nat.ble (d + 1) C.n = true := by rfl) (hne : (l.any fun q => Nat.beq q.1 d) = false := by kernel_rfl) (hj : hng [k] js H = true := by kernel_rfl) :
    AL r P ops Q (⟨some d, .slice tt x (some lo) none none, T, pos, af, none⟩ :: ⟨none, .call { callee := .builtin .clear, args := #[.tmp d], argTypes := #[tt] }, T2, pos2, af2, none⟩ :: rest) C l H := fun a w hf hh => by
  have hO : Own t e 0 w (Fh C H) A c xs := hh.hold k _ hk1
  have hOi : Own t e 0 w (fun b => Fh C H b ∧ b < w.heap.size) A c xs := by
    obtain ⟨cells0, p1, p2, p3⟩ := hO
    exact ⟨cells0, p1, p2, fun i x hi => rep_in t (p3 i x hi)⟩
  have hr0 : t.rep w no zs z0 := Dat.rep0 t hz0
  refine Z.val (v := .slice (cutA A c u t.size) (xs.length - u) (c - u)) hf hd (r_slice_l ht hS (hf.eval hx) (hf.eval hlo) hp h2) fun a1 hf1 => ?_
  obtain ⟨w', g1, g2, g3, g4⟩ := run_clearOwn (P := P) (ty := T2) hOi ht hz hzc hzl (fun u hu => List.all_eq_true.1 h1 u hu) hr0 h2 (fun b hb hbA => hb.1.1 k ⟨_, hk1, hbA⟩)
  refine Z.valw0 (w' := w') (v := .tuple #[]) hf1 ?_ fun a' hf' => h a' w' ⟨hf'.size, hf'.defs, fun q v hv => hf'.get q v ?_⟩ (Hp.dd (hh.upd g2 (fun b hb => ⟨_, hk1, hb⟩) (fun b hb => .inl ⟨_, hk1, hb⟩) (fun j hj => by cases hj) fun F B hF _ _ _ _ => g4.more fun b hb => hF b hb.1 hb.2) hj)
  · simp only [execOp, resolve, invoke, builtin, Sem.run_bind, Sem.run_pure, Result.andThen_ok, List.map_toArray, List.map_cons, List.map_nil, hf1.eval (x := .tmp d) (lk_cons_same l d _), g1]
  · rw [lk_cons_other]
    · exact hv
    · intro e; subst e
      have : ∀ l : List (Nat × Value), (l.any fun q => Nat.beq q.1 d) = false → lk l d = none := by
        intro l
        induction l with
        | nil => intro _; rfl
        | cons q r ih =>
          intro h
          simp only [List.any_cons, Bool.or_eq_false_iff] at h
          obtain ⟨q1, q2⟩ := q
          simp only [lk, h.1, cond_false]; exact ih h.2
      rw [this l hne] at hv; cases hv
end
end Go.A
end

section
set_option linter.unusedVariables false
set_option linter.unusedSimpArgs false
namespace Go.Z
open Go.RowKit
section
variable {r : Option Nat} {P : Program} {ops : Array Oper} {Q : Exit → Act → World → Prop} {a : Act} {w : World} {rest : List Oper} {n : Nat} {ds : List Deferred} {l : List (Nat × Value)} {d : Nat} {T : TypeId} {pos : String} {af : Array Edge}
end
end Go.Z
namespace Go.A
open Go.RowKit Go.Z
section
variable {P : Program} {a : Act} {w : World} {d : Option Tmp} {T tt ty e : TypeId} {pos : String} {af : Array Edge} {n : Nat} {ds : List Deferred} {l : List (Nat × Value)} {x y : Operand} {A : Option Addr}
end
section
variable {C : Cx} {l : List (Nat × Value)} {H : List (Nat × Res)} {X : Act → World → Prop}
end
section
variable {r : Option Nat} {P : Program} {ops : Array Oper} {Q : Exit → Act → World → Prop} {rest lst : List Oper} {C : Cx} {l : List (Nat × Value)} {H : List (Nat × Res)} {d : Nat} {T : TypeId} {pos : String} {af : Array Edge}
end
section
variable {r : Option Nat} {P : Program} {ops : Array Oper} {Q : Exit → Act → World → Prop} {rest lst : List Oper} {C : Cx} {l : List (Nat × Value)} {H : List (Nat × Res)} {d : Nat} {T : TypeId} {pos : String} {af : Array Edge}
end
end Go.A
end

section
set_option linter.unusedVariables false
namespace Go.M
noncomputable section NC
open Go.Z

/-! ### tables: a tree by numbers -/
inductive T (α : Type) where
  | lf
  | nd (v : Option α) (l r : T α)
  deriving Inhabited
def T.get {α : Type} (t : T α) : Nat → Option α := T.rec (fun _ => none) (fun v _ _ gl gr i => Nat.rec v (fun j _ => bif Nat.beq (j % 2) 0 then gl (j / 2) else gr (j / 2)) i) t
def T.put {α : Type} (f : Nat) : T α → Nat → Option α → T α :=
  Nat.rec (fun t _ _ => t) (fun _ ih t i v => Nat.rec
    (T.rec (.nd v .lf .lf) (fun _ l r _ _ => .nd v l r) t)
    (fun j _ => T.rec (bif Nat.beq (j % 2) 0 then .nd none (ih .lf (j / 2) v) .lf else .nd none .lf (ih .lf (j / 2) v))
      (fun u l r _ _ => bif Nat.beq (j % 2) 0 then .nd u (ih l (j / 2) v) r else .nd u l (ih r (j / 2) v)) t) i) f
def T.set {α : Type} (t : T α) (i : Nat) (v : α) : T α := T.put (i + 1) t i (some v)
def T.del {α : Type} (t : T α) (i : Nat) : T α := T.put (i + 1) t i none
/-- a tree out of a function of numbers -/
def tb {α : Type} : Nat → (Nat → Option α) → T α
  | 0, _ => .lf
  | d + 1, f => .nd (f 0) (tb d fun k => f (2 * k + 1)) (tb d fun k => f (2 * k + 2))

/-! ### values -/
/-- a capacity: known, or what the row has less so many -/
inductive Cap where
  | c (n : Nat)
  | u (n sz : Nat)
  deriving Inhabited
inductive V where
  | k (v : Value)
  | p (i o : Nat)
  | s (i o n : Nat) (c : Cap)
  | m (i : Nat)
  | f (fn : FuncId) (first cap : List V)
  | y (i : Nat)
  | q (i : Nat)
  | w (i : Nat)
  | gl (g o : Nat)
  | g (l : List V)
  | t (l : List V)
  | i (T : TypeId) (v : V)
  deriving Inhabited
def V.cells : V → List V
  | .g l => l
  | v => [v]
/-- a value of one cell -/
def oneV : V → Bool
  | .g _ => false
  | .t _ => false
  | _ => true
def tupV : V → Bool
  | .t _ => true
  | _ => false
def plain : Value → Bool
  | .agg _ => false
  | .tuple _ => false
  | _ => true
def ofV : Value → Option V
  | .agg cs => bif cs.toList.all plain then some (.g (cs.toList.map .k)) else none
  | .tuple _ => none
  | v => some (.k v)
def bo (b : Bool) : V := .k (.bool b)
def it (n : Int) : V := .k (.int .i64 n)
def nt (n : Nat) : V := .k (.int .i64 (.ofNat n))

/-! ### what memory holds -/
/-- how far a map's iterator is -/
inductive Pick where
  | fresh
  | cur (k : V) (all : Bool)
/-- slots: the newest first -/
inductive Env where
  | o
  | c (t : Nat) (v : V) (r : Env)
def Env.get (e : Env) (t : Nat) : Option V := Env.rec none (fun u v _ ih => bif Nat.beq u t then some v else ih) e
def Env.set (e : Env) (t : Nat) (v : V) : Env := .c t v e
def Env.del (e : Env) (t : Nat) : Env := Env.rec .o (fun u v _ ih => bif Nat.beq u t then ih else .c u v ih) e
inductive O where
  | c (T : TypeId) (l : List V)
  | m (es : List (V × V)) (clk : Nat) (pend : Option (Nat × Nat))
  | q (m clk : Nat) (x : Pick)
  | qn
  | st (s : ByteArray) (pos : Nat)
  | lp (env : Env) (ps : List Nat) (asg body : Code) (st : Bool) (pend : Option Code)
  | df

/-- a type, as it is used -/
structure Ti where
  u : TypeDesc
  n : Nat
  ag : Bool
  z : List V
  b : Nat
  e : Bool
  pl : List (Nat × Nat)
structure Cx where
  ty : T Ti
  fn : T Func
  gv : T (List V)
/-- slots; deferred calls; memory; the next name; within a round?; what stands below this name may not be changed -/
structure S where
  env : Env
  ds : List (Option (V × List V) × Nat)
  h : T O
  nx : Nat
  rd : Bool
  fl : Nat
def S.up (s : S) (d : Nat) (v : V) : S := ⟨s.env.set d v, s.ds, s.h, s.nx, s.rd, s.fl⟩
def S.upo (s : S) (d : Option Nat) (v : V) : S := match d with
  | some d => s.up d v
  | none => s
def S.seth (s : S) (h : T O) : S := ⟨s.env, s.ds, h, s.nx, s.rd, s.fl⟩
def S.sethn (s : S) (h : T O) (nx : Nat) : S := ⟨s.env, s.ds, h, nx, s.rd, s.fl⟩
def S.new (s : S) (o : O) : S := s.sethn (s.h.set s.nx o) (s.nx + 1)
inductive X where
  | n
  | r
  | e (i : Nat)

/-! ### looking at values -/
def V.val? : V → Option Value
  | .k v => some v
  | _ => none
def V.int? (x : V) : Option (IntKind × Int) := match x.val? with
  | some (.int a b) => some (a, b)
  | _ => none
def V.nat? (x : V) : Option Nat := match x.int? with
  | some (_, .ofNat n) => some n
  | _ => none
def V.bool? (x : V) : Option Bool := match x.val? with
  | some (.bool b) => some b
  | _ => none
def V.str? (x : V) : Option ByteArray := match x.val? with
  | some (.string b) => some b
  | _ => none
def V.ptr? : V → Option (Nat × Nat)
  | .p a b => some (a, b)
  | _ => none
def V.gl? : V → Option (Nat × Nat)
  | .gl a b => some (a, b)
  | _ => none
def V.sl? : V → Option (Nat × Nat × Nat × Cap)
  | .s a b d e => some (a, b, d, e)
  | _ => none
def V.map? : V → Option Nat
  | .m a => some a
  | _ => none
def V.agg? : V → Option (List V)
  | .g l => some l
  | _ => none
def V.tup? : V → Option (List V)
  | .t l => some l
  | _ => none
def nilS : Value → Bool
  | .slice none 0 0 => true
  | _ => false
def V.nilS (x : V) : Bool := match x.val? with
  | some v => Go.M.nilS v
  | none => false
/-! ### equality of names -/
def capB : Cap → Cap → Bool
  | .c a, .c b => Nat.beq a b
  | .u a x, .u b y => Nat.beq a b && Nat.beq x y
  | _, _ => false
def vB : Value → Value → Bool
  | .int a m, .int b n => decide (a = b) && decide (m = n)
  | .bool a, .bool b => a == b
  | .string a, .string b => decide (a = b)
  | .pointer none, .pointer none => true
  | .slice none 0 0, .slice none 0 0 => true
  | .map none, .map none => true
  | .nilFunc, .nilFunc => true
  | .nilIface, .nilIface => true
  | _, _ => false
mutual
def beq : V → V → Bool
  | .k a, .k b => vB a b
  | .p i o, .p j q => Nat.beq i j && Nat.beq o q
  | .s i o n c, .s j q m d => Nat.beq i j && Nat.beq o q && Nat.beq n m && capB c d
  | .m i, .m j => Nat.beq i j
  | .f a x y, .f b u v => Nat.beq a b && beqs x u && beqs y v
  | .y i, .y j => Nat.beq i j
  | .q i, .q j => Nat.beq i j
  | .w i, .w j => Nat.beq i j
  | .gl i n, .gl j m => Nat.beq i j && Nat.beq n m
  | .g x, .g y => beqs x y
  | .t x, .t y => beqs x y
  | .i a x, .i b y => Nat.beq a b && beq x y
  | _, _ => false
def beqs : List V → List V → Bool
  | [], [] => true
  | a :: x, b :: y => beq a b && beqs x y
  | _, _ => false
end

section
variable (C : Cx)
/-! ### operands, types -/
def opd (e : Env) : Operand → Option V
  | .tmp t => e.get t
  | .const v => ofV v
  | .global g => some (.gl g 0)
  | .func f => some (.f f [] [])
def opds (e : Env) : List Operand → Option (List V)
  | [] => some []
  | x :: r => match opd e x with
    | some v => match opds e r with
      | some vs => some (v :: vs)
      | none => none
    | none => none
def parts (e : Env) : List (Nat × Operand) → Option (List (Nat × V))
  | [] => some []
  | (i, x) :: r => match opd e x with
    | some v => match parts e r with
      | some vs => some ((i, v) :: vs)
      | none => none
    | none => none
def und (t : TypeId) : Option TypeDesc := match C.ty.get t with
  | some I => some I.u
  | none => none
def sliceEl (t : TypeId) : Option TypeId := match und C t with
  | some (.slice e) => some e
  | _ => none
def sliceTi (t : TypeId) : Option Ti := match sliceEl C t with
  | some e => C.ty.get e
  | none => none
def arrTi (t : TypeId) : Option (Nat × Ti) := match und C t with
  | some (.array n e) => match C.ty.get e with
    | some J => some (n, J)
    | none => none
  | _ => none
def mapTi (t : TypeId) : Option (TypeId × Ti) := match und C t with
  | some (.map k v) => match C.ty.get v with
    | some J => some (k, J)
    | none => none
  | _ => none
def isStr (t : TypeId) : Bool := match und C t with
  | some .string => true
  | _ => false
def intK (t : TypeId) : Option IntKind := match und C t with
  | some (.int k) => some k
  | _ => none
def isIf (t : TypeId) : Bool := match und C t with
  | some (.interface _) => true
  | _ => false
def zeroV (I : Ti) : V := bif I.ag then .g I.z else I.z.headD (.g [])
def fieldAt (t : TypeId) (i : Nat) : Option (Nat × Ti) := match und C t with
  | some (.struct fs) => match fs.toList[i]? with
    | some f => match C.ty.get f.type with
      | some J => some (f.offset, J)
      | none => none
    | none => none
  | _ => none
def cut (ag : Bool) (n o : Nat) (xs : List V) : Option V :=
  bif ag then (bif Nat.beq ((xs.drop o).take n).length n then some (.g ((xs.drop o).take n)) else none) else xs[o]?

/-! ### numbers -/
def inr : IntKind → Int → Bool
  | .i64, .ofNat m => Nat.blt m 9223372036854775808
  | .i64, .negSucc m => Nat.blt m 9223372036854775808
  | .u64, .ofNat m => Nat.blt m 18446744073709551616
  | .u8, .ofNat m => Nat.blt m 256
  | .i32, .ofNat m => Nat.blt m 2147483648
  | _, _ => false
def wr (k : IntKind) (n : Int) : Int := bif inr k n then n else k.wrap n
def wrv (k : IntKind) (n : Int) : Option V := some (.k (.int k (wr k n)))
def qquo (k : IntKind) (m n : Int) : Option V := bif decide (n = 0) then none else wrv k (m.tdiv n)
def qrem (k : IntKind) (m n : Int) : Option V := bif decide (n = 0) then none else some (.k (.int k (m.tmod n)))
def qi (k : IntKind) (m n : Int) : BinOp → Option V
  | .add => wrv k (m + n)
  | .sub => wrv k (m - n)
  | .mul => wrv k (m * n)
  | .lss => some (bo (decide (m < n)))
  | .leq => some (bo (decide (m ≤ n)))
  | .gtr => some (bo (decide (n < m)))
  | .geq => some (bo (decide (n ≤ m)))
  | .eql => some (bo (decide (m = n)))
  | .neq => some (bo (!decide (m = n)))
  | .quo => qquo k m n
  | .rem => qrem k m n
  | _ => none
def qs (a b : ByteArray) : BinOp → Option V
  | .eql => some (bo (decide (a = b)))
  | .neq => some (bo (!decide (a = b)))
  | .lss => some (bo (Op.bytesLess a.toList b.toList))
  | .gtr => some (bo (!(Op.bytesLess a.toList b.toList || a.toList == b.toList)))
  | _ => none

/-! ### equality -/
def eqFw (rec : TypeId → V → V → Option Bool) (xs ys : List V) : List Field → Option Bool
  | [] => some true
  | f :: r => match C.ty.get f.type with
    | none => none
    | some J => match cut J.ag J.n f.offset xs, cut J.ag J.n f.offset ys with
      | some a, some b => bif f.name == "_" then none else match rec f.type a b with
        | some true => eqFw rec xs ys r
        | some false => some false
        | none => none
      | _, _ => none
def eqIw (rec : V → V → Option Bool) (c : Nat) (ag : Bool) (xs ys : List V) : Nat → Nat → Option Bool
  | 0, _ => some true
  | n + 1, i => match cut ag c (i * c) xs, cut ag c (i * c) ys with
    | some a, some b => match rec a b with
      | some true => eqIw rec c ag xs ys n (i + 1)
      | some false => some false
      | none => none
    | _, _ => none
def eqInt (x y : V) : Option Bool := match x.int? with
  | some (a, m) => match y.int? with
    | some (b, n) => bif decide (a = b) then some (decide (m = n)) else none
    | none => none
  | none => none
def eqBool (x y : V) : Option Bool := match x.bool? with
  | some a => match y.bool? with
    | some b => some (decide (a = b))
    | none => none
  | none => none
def eqStr (x y : V) : Option Bool := match x.str? with
  | some a => match y.str? with
    | some b => some (decide (a = b))
    | none => none
  | none => none
/-- is it nil? of the types that have it -/
def kP : Value → Option Bool
  | .pointer none => some true
  | _ => none
def kS : Value → Option Bool
  | .slice none _ _ => some true
  | _ => none
def kM : Value → Option Bool
  | .map none => some true
  | _ => none
def kF : Value → Option Bool
  | .nilFunc => some true
  | _ => none
def kI : Value → Option Bool
  | .nilIface => some true
  | _ => none
def nzP : V → Option Bool
  | .p _ _ => some false
  | .gl _ _ => some false
  | .k v => kP v
  | _ => none
def nzS : V → Option Bool
  | .s _ _ _ _ => some false
  | .k v => kS v
  | _ => none
def nzM : V → Option Bool
  | .m _ => some false
  | .k v => kM v
  | _ => none
def nzF : V → Option Bool
  | .f _ _ _ => some false
  | .y _ => some false
  | .k v => kF v
  | _ => none
def nzI : V → Option Bool
  | .i _ _ => some false
  | .k v => kI v
  | _ => none
/-- one of both is nil -/
def eqN (x y : Option Bool) : Option Bool := match x with
  | some true => y
  | some false => match y with
    | some true => some false
    | _ => none
  | none => none
def eqAgg (rec : TypeId → V → V → Option Bool) (x y : V) (fs : List Field) : Option Bool := match x.agg? with
  | some xs => match y.agg? with
    | some ys => eqFw C rec xs ys fs
    | none => none
  | none => none
def eqArr (rec : TypeId → V → V → Option Bool) (x y : V) (n : Nat) (e : TypeId) : Option Bool := match x.agg? with
  | some xs => match y.agg? with
    | some ys => match C.ty.get e with
      | some J => eqIw (rec e) J.n J.ag xs ys n 0
      | none => none
    | none => none
  | none => none
def eqOk (t : TypeId) : Bool := match C.ty.get t with
  | some I => I.e
  | none => false
def eqV (d : Nat) : TypeId → V → V → Option Bool := Nat.rec (fun _ _ _ => none) (fun _ rec t x y => match und C t with
  | none => none
  | some u => match u with
    | .int _ => eqInt x y
    | .bool => eqBool x y
    | .string => eqStr x y
    | .pointer _ => eqN (nzP x) (nzP y)
    | .slice _ => eqN (nzS x) (nzS y)
    | .map _ _ => eqN (nzM x) (nzM y)
    | .func _ _ _ => eqN (nzF x) (nzF y)
    | .interface _ => eqN (nzI x) (nzI y)
    | .struct fs => bif eqOk C t then eqAgg C rec x y fs.toList else none
    | .array n e => eqArr C rec x y n e
    | _ => none) d

/-! ### pure operations -/
def okK : Value → Bool
  | .int _ _ => false
  | .float _ _ => false
  | .complex _ _ _ => false
  | .string _ => false
  | _ => true
def okEq : V → Bool
  | .k v => okK v
  | .w _ => false
  | .t _ => false
  | _ => true
def pEq (t : TypeId) (x y : V) : BinOp → Option V
  | .eql => match eqV C 20 t x y with
    | some b => some (bo b)
    | none => none
  | .neq => match eqV C 20 t x y with
    | some b => some (bo (!b))
    | none => none
  | _ => none
def binI (op : BinOp) (k : IntKind) (m : Int) (k2 : IntKind) (n : Int) : Option V := bif decide (k = k2) then qi k m n op else none
def bin (op : BinOp) (t : TypeId) (x y : V) : Option V := match x.int? with
  | some (a, m) => match y.int? with
    | some (b, n) => binI op a m b n
    | none => none
  | none => match x.str? with
    | some a => match y.str? with
      | some b => qs a b op
      | none => none
    | none => bif okEq x then pEq C t x y op else none
def isC : Operand → Bool
  | .const _ => true
  | _ => false
def isEq : BinOp → Bool
  | .eql => true
  | .neq => true
  | _ => false
/-- what is compared may be: a struct or an array without interfaces in it; an interface with nil as it stands there -/
def cmpOk (op : BinOp) (t : TypeId) (x y : Operand) : Bool := bif isEq op then (match C.ty.get t with
  | some I => bif I.ag then I.e else bif isIf C t then isC x || isC y else true
  | none => false) else true
def pBin (e : Env) (op : BinOp) (t : TypeId) (x y : Operand) : Option V := match opd e x with
  | some a => match opd e y with
    | some b => bif cmpOk C op t x y then bin C op t a b else none
    | none => none
  | none => none
def pPick (e : Env) (c x y : Operand) : Option V := match opd e c with
  | some v => match v.bool? with
    | some b => bif b then opd e x else opd e y
    | none => none
  | none => none
def pUn (e : Env) (op : UnOp) (x : Operand) : Option V := match opd e x with
  | some v => match op with
    | .not => match v.bool? with
      | some b => some (bo (!b))
      | none => none
    | .neg => match v.int? with
      | some (k, n) => wrv k (0 - n)
      | none => none
    | _ => none
  | none => none
def pExt (e : Env) (x : Operand) (i : Nat) : Option V := match opd e x with
  | some v => match v.tup? with
    | some vs => vs[i]?
    | none => none
  | none => none
def nonNil : V → Option V
  | .p i o => some (.p i o)
  | .gl i o => some (.gl i o)
  | .f a b c => some (.f a b c)
  | .y i => some (.y i)
  | _ => none
def pNil (e : Env) (x : Operand) : Option V := match opd e x with
  | some v => nonNil v
  | none => none
def pFunc (e : Env) (fn : Fn) (xs ys : List Operand) : Option V := match fn with
  | .func f => match opds e xs with
    | some vs => match opds e ys with
      | some us => some (.f f vs us)
      | none => none
    | none => none
  | _ => none
def pConv (e : Env) (s d : TypeId) (x : Operand) : Option V := match opd e x with
  | some v => match v.int? with
    | some (_, n) => match und C s with
      | some _ => match intK C d with
        | some k => wrv k n
        | none => none
      | none => none
    | none => match v.str? with
      | some b => bif isStr C s && isStr C d then some (.k (.string b)) else none
      | none => none
  | none => none
def offP (v : V) (k : Nat) : Option V := match v.ptr? with
  | some (i, o) => some (.p i (o + k))
  | none => match v.gl? with
    | some (i, o) => some (.gl i (o + k))
    | none => none
def pFa (e : Env) (t : TypeId) (x : Operand) (i : Nat) : Option V := match fieldAt C t i with
  | some (o, J) => bif Nat.beq J.n 0 then none else match opd e x with
    | some v => offP v o
    | none => none
  | none => none
def pFld (e : Env) (t : TypeId) (x : Operand) (i : Nat) : Option V := match fieldAt C t i with
  | some (o, J) => match opd e x with
    | some v => match v.agg? with
      | some cs => cut J.ag J.n o cs
      | none => none
    | none => none
  | none => none
def natAt (e : Env) (x : Operand) : Option Nat := match opd e x with
  | some v => v.nat?
  | none => none
def ixA (t : TypeId) (v : V) (u : Nat) : Option V := match v.sl? with
  | some (j, o, n, _) => match sliceTi C t with
    | some J => bif Nat.blt u n then some (.p j (o + u * J.n)) else none
    | none => none
  | none => match arrTi C t with
    | some (n, J) => bif Nat.blt u n then offP v (u * J.n) else none
    | none => none
def pIxA (e : Env) (t : TypeId) (x i : Operand) : Option V := match opd e x with
  | some v => match natAt e i with
    | some u => ixA C t v u
    | none => none
  | none => none
def ixV (t : TypeId) (v : V) (u : Nat) : Option V := match v.agg? with
  | some cs => match arrTi C t with
    | some (n, J) => bif Nat.blt u n then cut J.ag J.n (u * J.n) cs else none
    | none => none
  | none => match v.str? with
    | some s => bif isStr C t then (match s.data.toList[u]? with
      | some b => some (.k (.int .u8 (.ofNat b.toNat)))
      | none => none) else none
    | none => none
def pIx (e : Env) (t : TypeId) (x i : Operand) : Option V := match opd e x with
  | some v => match natAt e i with
    | some u => ixV C t v u
    | none => none
  | none => none
def optInt (e : Env) (d : Nat) : Option Operand → Option Nat
  | none => some d
  | some x => natAt e x
/-- a slice of a slice, whose elements have so many cells -/
def cutK (sz lo hi m i o n k : Nat) : Option V := bif Nat.ble lo hi && Nat.ble hi m && Nat.ble m k then some (.s i (bif Nat.beq m lo then o else o + lo * sz) (hi - lo) (.c (m - lo))) else none
def cutU (sz lo hi i o n k z : Nat) : Option V := bif Nat.beq sz z && Nat.ble lo hi && Nat.ble hi n && (Nat.blt lo hi || Nat.beq lo 0) then some (.s i (o + lo * sz) (hi - lo) (.u (k + lo) z)) else none
def cutS (sz lo hi : Nat) (mx : Option Nat) (i o n : Nat) (c : Cap) : Option V := match c with
  | .c k => cutK sz lo hi (mx.getD k) i o n k
  | .u k z => match mx with
    | some m => cutK sz lo hi m i o n n
    | none => cutU sz lo hi i o n k z
def optMx (e : Env) : Option Operand → Option (Option Nat)
  | none => some none
  | some x => match natAt e x with
    | some m => some (some m)
    | none => none
def slStr (e : Env) (s : ByteArray) (lo hi : Option Operand) : Option V := match optInt e 0 lo with
  | some l => match optInt e s.size hi with
    | some h => bif Nat.ble l h && Nat.ble h s.size then some (.k (.string (s.extract l h))) else none
    | none => none
  | none => none
def slSl (e : Env) (t : TypeId) (i o n : Nat) (c : Cap) (lo hi mx : Option Operand) : Option V := bif mx.isSome && hi.isNone then none else match sliceTi C t with
  | some J => match optInt e 0 lo with
    | some l => match optInt e n hi with
      | some h => match optMx e mx with
        | some m => cutS J.n l h m i o n c
        | none => none
      | none => none
    | none => none
  | none => none
def slNil (e : Env) (lo hi mx : Option Operand) : Option V := bif mx.isSome && hi.isNone then none else match optInt e 0 lo with
  | some l => match optInt e 0 hi with
    | some h => match optInt e 0 mx with
      | some m => bif Nat.beq (l + h + m) 0 then some (.k (.slice none 0 0)) else none
      | none => none
    | none => none
  | none => none
def slArr (e : Env) (t : TypeId) (i o : Nat) (lo hi mx : Option Operand) : Option V := bif mx.isSome && hi.isNone then none else match arrTi C t with
  | some (n, J) => match optInt e 0 lo with
    | some l => match optInt e n hi with
      | some h => match optInt e n mx with
        | some m => cutK J.n l h m i o n n
        | none => none
      | none => none
    | none => none
  | none => none
def slV (e : Env) (t : TypeId) (v : V) (lo hi mx : Option Operand) : Option V := match v.sl? with
  | some (i, o, n, c) => slSl C e t i o n c lo hi mx
  | none => match v.ptr? with
    | some (i, o) => slArr C e t i o lo hi mx
    | none => match v.str? with
      | some s => bif isStr C t && mx.isNone then slStr e s lo hi else none
      | none => bif v.nilS && (sliceTi C t).isSome then slNil e lo hi mx else none
def pSl (e : Env) (t : TypeId) (x : Operand) (lo hi mx : Option Operand) : Option V := match opd e x with
  | some v => slV C e t v lo hi mx
  | none => none
def fillV (pl : Nat → Option (Nat × Nat)) (cells : List V) : List (Nat × V) → Option (List V)
  | [] => some cells
  | (i, v) :: r => match pl i with
    | none => none
    | some (off, n) => bif Nat.beq v.cells.length n && Nat.ble (off + n) cells.length && !tupV v then fillV pl (cells.take off ++ v.cells ++ cells.drop (off + n)) r else none
def bldV (I : Ti) (pl : Nat → Option (Nat × Nat)) (vs : List (Nat × V)) : Option V := match fillV pl I.z vs with
  | some cs => some (.g cs)
  | none => none
def bldT (I : Ti) (vs : List (Nat × V)) : TypeDesc → Option V
  | .struct _ => bldV I (fun i => I.pl[i]?) vs
  | .array _ el => match C.ty.get el with
    | some J => bldV I (fun i => some (i * J.n, J.n)) vs
    | none => none
  | _ => none
def pBuild (e : Env) (t : TypeId) (ps : List (Nat × Operand)) : Option V := match C.ty.get t with
  | some I => match parts e ps with
    | some vs => bldT C I vs I.u
    | none => none
  | none => none
def pMki (e : Env) (t : TypeId) (x : Operand) : Option V := bif isIf C t then none else match und C t with
  | some _ => match opd e x with
    | some v => some (.i t v)
    | none => none
  | none => none
def V.if? : V → Option (TypeId × V)
  | .i a b => some (a, b)
  | _ => none
def isNilI (x : V) : Bool := match x.val? with
  | some .nilIface => true
  | _ => false
def tasNo (I : Ti) (ok : Bool) : Option V := bif ok then some (.t [zeroV I, bo false]) else none
def tasV (v : V) (ty2_ : TypeId) (ok : Bool) (I : Ti) : Option V := match v.if? with
  | some (t, u) => bif isIf C ty2_ then none else bif Nat.beq t ty2_ then some (bif ok then .t [u, bo true] else u) else tasNo I ok
  | none => bif isNilI v then tasNo I ok else none
def pTas (e : Env) (x : Operand) (ty2_ : TypeId) (ok : Bool) : Option V := match C.ty.get ty2_ with
  | some I => match opd e x with
    | some v => tasV C v ty2_ ok I
    | none => none
  | none => none
def lenS (x : V) : Option Nat := match x.sl? with
  | some (_, _, n, _) => some n
  | none => bif x.nilS then some 0 else none
def lenB (x : V) : Option Nat := match x.str? with
  | some s => some s.size
  | none => none
def lenA (t : TypeId) : Option Nat := match arrTi C t with
  | some (n, _) => some n
  | none => none
def lenV (t : TypeId) (x : V) : Option Nat := match sliceEl C t with
  | some _ => lenS x
  | none => bif isStr C t then lenB x else lenA C t
def mm (f : Int → Int → Int) (x y : V) : Option V := match x.int? with
  | some (a, m) => match y.int? with
    | some (_, n) => some (.k (.int a (f m n)))
    | none => none
  | none => none
def natV : Option Nat → Option V
  | some n => some (nt n)
  | none => none
def arg1 {α : Type} (l : Option (List V)) (f : V → Option α) : Option α := match l with
  | some [x] => f x
  | _ => none
def arg2 {α : Type} (l : Option (List V)) (f : V → V → Option α) : Option α := match l with
  | some [x, y] => f x y
  | _ => none
def ty1 {α : Type} (ts : List TypeId) (f : TypeId → Option α) : Option α := match ts with
  | t :: _ => f t
  | _ => none
def imin (m n : Int) : Int := bif decide (n < m) then n else m
def imax (m n : Int) : Int := bif decide (m < n) then n else m
def pBi (e : Env) (xs : List Operand) (ts : List TypeId) : Builtin → Option V
  | .len => arg1 (opds e xs) fun x => ty1 ts fun t => natV (lenV C t x)
  | .min => arg2 (opds e xs) (mm imin)
  | .max => arg2 (opds e xs) (mm imax)
  | _ => none
def pCall (e : Env) (c : Call) : Option V := match c.callee with
  | .builtin b => pBi C e c.args.toList c.argTypes.toList b
  | _ => none
def pure1 (e : Env) : Op → Option V
  | .move x => opd e x
  | .assign x => opd e x
  | .pick c x y => pPick e c x y
  | .binOp op t x y _ => pBin C e op t x y
  | .unOp op _ x => pUn e op x
  | .extract x i => pExt e x i
  | .nilCheck x => pNil e x
  | .makeFunc fn xs ys => pFunc e fn xs.toList ys.toList
  | .convert s d x => pConv C e s d x
  | .fieldAddr t x i => pFa C e t x i
  | .field t x i => pFld C e t x i
  | .indexAddr t x i => pIxA C e t x i
  | .index t x i => pIx C e t x i
  | .slice t x lo hi mx => pSl C e t x lo hi mx
  | .build t ps => pBuild C e t ps.toList
  | .makeInterface t x => pMki C e t x
  | .typeAssert x _ ty2_ ok => pTas C e x ty2_ ok
  | .call c => pCall C e c
  | _ => none

/-! ### operations that read memory -/
def rowAt (h : T O) (i : Nat) : Option (TypeId × List V) := match h.get i with
  | some (.c T xs) => some (T, xs)
  | _ => none
def cellsAt (h : T O) (v : V) : Option (List V × Nat) := match v.ptr? with
  | some (i, o) => match rowAt h i with
    | some (_, xs) => some (xs, o)
    | none => none
  | none => match v.gl? with
    | some (g, o) => match C.gv.get g with
      | some xs => some (xs, o)
      | none => none
    | none => none
def loadV (h : T O) (t : TypeId) (p : V) : Option V := match C.ty.get t with
  | some J => match cellsAt C h p with
    | some (xs, o) => cut J.ag J.n o xs
    | none => none
  | none => none
/-- the one entry with such a key: where it stands, its key, its value; all keys are looked at -/
def look (kt : TypeId) (k : V) : List (V × V) → Nat → Option (Option (Nat × V × V))
  | [], _ => some none
  | (x, v) :: r, i => match eqV C 20 kt k x with
    | some true => match look kt k r (i + 1) with
      | some none => some (some (i, x, v))
      | _ => none
    | some false => look kt k r (i + 1)
    | none => none
def mapC (h : T O) (i : Nat) : Option (List (V × V) × Nat) := match h.get i with
  | some (.m es c _) => some (es, c)
  | _ => none
def mapAt (h : T O) (i : Nat) : Option (List (V × V)) := match mapC h i with
  | some (es, _) => some es
  | none => none
def isNilM (x : V) : Bool := match x.val? with
  | some (.map none) => true
  | _ => false
def mapOf (h : T O) (m : V) : Option (List (V × V)) := match m.map? with
  | some i => mapAt h i
  | none => bif isNilM m then some [] else none
def okV (ok : Bool) (v : V) (b : Bool) : V := bif ok then .t [v, bo b] else v
/-- may such values be keys? by the type, and by how many cells there are -/
def keyT : Nat → TypeId → Bool
  | 0, _ => false
  | d + 1, t => match C.ty.get t with
    | some I => match I.u with
      | .struct fs => fs.toList.all fun f => match C.ty.get f.type with
        | some J => Nat.ble (f.offset + J.n) I.n && Nat.ble 1 J.n && keyT d f.type
        | none => false
      | .array m e => match C.ty.get e with
        | some J => Nat.ble (m * J.n) I.n && Nat.ble 1 J.n && keyT d e
        | none => false
      | .interface _ => false
      | _ => true
    | none => false
def keyS (t : TypeId) (x : V) : Bool := match C.ty.get t with
  | some I => bif I.ag then (match x.agg? with
    | some xs => Nat.beq xs.length I.n
    | none => false) else true
  | none => false
def keyB (t : TypeId) (x : V) : Bool := keyT C 20 t && keyS C t x
def lookB (kt : TypeId) (k : V) (es : List (V × V)) : Option (Option (Nat × V × V)) := bif keyB C kt k then look C kt k es 0 else none
def lkV (t : TypeId) (es : List (V × V)) (k : V) (ok : Bool) : Option V := match mapTi C t with
  | some (kt, J) => match lookB C kt k es with
    | some (some (_, _, v)) => some (okV ok v true)
    | some none => some (okV ok (zeroV J) false)
    | none => none
  | none => none
def rLoad (e : Env) (h : T O) (t : TypeId) (x : Operand) : Option V := match opd e x with
  | some p => loadV C h t p
  | none => none
def rLook (e : Env) (h : T O) (t : TypeId) (m k : Operand) (ok : Bool) : Option V := match opd e m with
  | some m => match opd e k with
    | some k => match mapOf h m with
      | some es => lkV C t es k ok
      | none => none
    | none => none
  | none => none
def V.it? : V → Option Nat
  | .q a => some a
  | _ => none
def curOf (h : T O) (i : Nat) : Option (Nat × Nat × V) := match h.get i with
  | some (.q m c (.cur k _)) => some (m, c, k)
  | _ => none
def rEnt (e : Env) (h : T O) (x : Operand) : Option V := match opd e x with
  | some v => match v.it? with
    | some i => match curOf h i with
      | some (m, c, k) => match mapC h m with
        | some (es, c') => bif Nat.beq c c' then (match es.find? (fun x => beq x.1 k) with
          | some (_, v) => some (.t [k, v])
          | none => none) else none
        | none => none
      | none => none
    | none => none
  | none => none
def byteV (x : V) : Option UInt8 := match x.int? with
  | some (.u8, .ofNat b) => bif Nat.blt b 256 then some (UInt8.ofNat b) else none
  | _ => none
def bytesV : List V → Option (List UInt8)
  | [] => some []
  | x :: r => match byteV x with
    | some b => match bytesV r with
      | some l => some (b :: l)
      | none => none
    | none => none
def bytesOf (h : T O) (x : V) : Option (List UInt8) := match x.sl? with
  | some (i, o, n, _) => match rowAt h i with
    | some (_, xs) => bif Nat.beq ((xs.drop o).take n).length n then bytesV ((xs.drop o).take n) else none
    | none => none
  | none => bif x.nilS then some [] else none
def u8T (t : TypeId) : Bool := match sliceEl C t with
  | some e => match intK C e with
    | some .u8 => true
    | _ => false
  | none => false
def rConv (e : Env) (h : T O) (s d : TypeId) (x : Operand) : Option V := bif u8T C s && isStr C d then (match opd e x with
  | some v => match bytesOf h v with
    | some l => some (.k (.string ⟨l.toArray⟩))
    | none => none
  | none => none) else none
def lenM (h : T O) (t : TypeId) (m : V) : Option V := bif (mapTi C t).isSome then (match mapOf h m with
  | some es => some (nt es.length)
  | none => none) else none
def rCall (e : Env) (h : T O) (c : Call) : Option V := match c.callee with
  | .builtin .len => arg1 (opds e c.args.toList) fun m => ty1 c.argTypes.toList fun t => lenM C h t m
  | _ => none
def read1 (e : Env) (h : T O) : Op → Option V
  | .load t x => rLoad C e h t x
  | .lookup t m k ok => rLook C e h t m k ok
  | .entry x => rEnt e h x
  | .convert s d x => rConv C e h s d x
  | .call c => rCall C e h c
  | _ => none
/-! ### operations that make memory -/
def rep (z : List V) : Nat → List V
  | 0 => []
  | n + 1 => z ++ rep z n
def aBox (e : Env) (i : Nat) (t : TypeId) (x : Operand) : Option (V × O) := match opd e x with
  | some v => match C.ty.get t with
    | some J => bif !tupV v && Nat.beq v.cells.length J.n then some (.p i 0, .c t v.cells) else none
    | none => none
  | none => none
def aAl (i : Nat) (t : TypeId) : Option (V × O) := match C.ty.get t with
  | some I => some (.p i 0, .c t I.z)
  | none => none
def bsV (J : Ti) (el : TypeId) (i n : Nat) (vs : List (Nat × V)) : Option (V × O) := bif Nat.ble (n * J.n) 16777216 && Nat.ble 1 J.n then (match fillV (fun i => some (i * J.n, J.n)) (rep J.z n) vs with
  | some cs => some (.s i 0 n (.c n), .c el cs)
  | none => none) else none
def aBs (e : Env) (i : Nat) (t : TypeId) (n : Nat) (ps : List (Nat × Operand)) : Option (V × O) := match sliceEl C t with
  | some el => match C.ty.get el with
    | some J => match parts e ps with
      | some vs => bsV J el i n vs
      | none => none
    | none => none
  | none => none
def rgV (h : T O) (i : Nat) (t : TypeId) (v : V) : Option (V × O) := match v.map? with
  | some m => bif (mapTi C t).isSome then (match mapC h m with
    | some (_, c) => some (.q i, .q m c .fresh)
    | none => none) else none
  | none => match v.str? with
    | some s => bif isStr C t then some (.q i, .st s 0) else none
    | none => bif isNilM v && (mapTi C t).isSome then some (.q i, .qn) else none
def aRg (e : Env) (h : T O) (i : Nat) (t : TypeId) (x : Operand) : Option (V × O) := match opd e x with
  | some v => rgV C h i t v
  | none => none
def byteK (x : UInt8) : V := .k (.int .u8 (.ofNat x.toNat))
def alloc1 (e : Env) (h : T O) (i : Nat) : Op → Option (V × O)
  | .alloc t => aAl C i t
  | .box t x => aBox C e i t x
  | .buildSlice t n ps => aBs C e i t n ps.toList
  | .makeMap _ r => bif r.isNone then some (.m i, .m [] 0 none) else none
  | .range t x => aRg C e h i t x
  | _ => none
end
end NC
end Go.M
end

section
set_option linter.unusedVariables false
namespace Go.M
noncomputable section NC
open Go.Z
inductive Job where
  | code (c : Code) (s : S)
  | call (f : V) (args : List V) (h : T O) (nx fl : Nat)
  | dcall (f : V) (args : List V) (h : T O) (nx fl : Nat)
inductive Rs where
  | code (x : X) (s : S)
  | call (v : V) (h : T O) (nx : Nat)
section
variable (C : Cx)
/-! ### rows -/
/-- n cells of a row from o on -/
def cells (xs : List V) (o n : Nat) : Option (List V) := bif Nat.beq ((xs.drop o).take n).length n then some ((xs.drop o).take n) else none
/-- the cells of the elements of a slice or a string, and how many elements these are -/
def elems (h : T O) (sz : Nat) (y : V) : Option (List V × Nat) := match y.sl? with
  | some (i, o, n, _) => bif Nat.beq n 0 then some ([], 0) else match rowAt h i with
    | some (_, xs) => match cells xs o (n * sz) with
      | some l => some (l, n)
      | none => none
    | none => none
  | none => match y.str? with
    | some b => some (b.toList.map byteK, b.size)
    | none => bif y.nilS then some ([], 0) else none
def splice (xs : List V) (o : Nat) (ys : List V) : Option (List V) := bif Nat.ble (o + ys.length) xs.length then some (xs.take o ++ ys ++ xs.drop (o + ys.length)) else none
abbrev Ch3 := Option (V × T O × Nat)
def apIn (el i o n : Nat) (c : Cap) (at_ : Nat) (xs ys : List V) (k : Nat) (h : T O) (nx : Nat) : Ch3 := match splice xs at_ ys with
  | some xs' => some (.s i o (n + k) c, h.set i (.c el xs'), nx)
  | none => none
def apNew (el sz n o m : Nat) (xs ys : List V) (k : Nat) (h : T O) (nx : Nat) : Ch3 := match cells xs o m with
  | some l => some (.s nx 0 (n + k) (.u 0 sz), h.set nx (.c el (l ++ ys)), nx + 1)
  | none => none
def apS (el sz i o n : Nat) (c : Cap) (xs ys : List V) (k : Nat) (h : T O) (nx fl : Nat) : Ch3 := match c with
  | .c cap => bif Nat.ble (n + k) cap then (bif Nat.ble fl i then apIn el i o n c (o + n * sz) xs ys k h nx else none) else apNew el sz n o (n * sz) xs ys k h nx
  | .u _ _ => bif Nat.ble fl i then (bif Nat.ble (o + n * sz + ys.length) xs.length then apIn el i o n c (o + n * sz) xs ys k h nx else apNew el sz n o (n * sz) xs ys k (h.del i) nx) else none
def ap1 (el : TypeId) (sz : Nat) (x : V) (ys : List V) (k : Nat) (h : T O) (nx fl : Nat) : Ch3 := match x.sl? with
  | some (i, o, n, c) => match rowAt h i with
    | some (T, xs) => bif Nat.beq T el then apS el sz i o n c xs ys k h nx fl else none
    | none => none
  | none => bif x.nilS then some (.s nx 0 k (.u 0 sz), h.set nx (.c el ys), nx + 1) else none
def isSl (x : V) : Bool := x.nilS || x.sl?.isSome
/-- so many bytes no memory bears -/
def fits (sz b n : Nat) : Bool := Nat.ble (n * b) 140737488355328 && Nat.ble 1 b && Nat.ble 1 sz
def append1 (J : Ti) (el : TypeId) (h : T O) (nx fl : Nat) (x y : V) : Ch3 := bif !isSl y then none else match elems h J.n y with
  | none => none
  | some (ys, k) => bif Nat.beq k 0 then (bif isSl x then some (x, h, nx) else none) else bif fits J.n J.b ((x.sl?.elim 0 fun q => q.2.2.1) + k) then ap1 el J.n x ys k h nx fl else none

/-! ### maps -/
/-- another value for the entry that stands there -/
def setAt (v : V) : List (V × V) → Nat → List (V × V)
  | [], _ => []
  | (x, u) :: r, p => match p with
    | 0 => (x, v) :: r
    | p + 1 => (x, u) :: setAt v r p
/-- a key that is no other where it is equal -/
def flatV : Value → Bool
  | .int _ _ => true
  | .bool _ => true
  | .string _ => true
  | _ => false
def flatC : V → Bool
  | .k v => flatV v
  | _ => false
def flatK : V → Bool
  | .k v => flatV v
  | .g l => l.all flatC
  | _ => false

/-! ### operations that change memory -/
abbrev Ef := Option (V × S)
def un : V := .t []
def storeAt (s : S) (i o : Nat) (vs : List V) : Ef := bif Nat.blt i s.fl then none else match rowAt s.h i with
  | some (T, xs) => match splice xs o vs with
    | some ys => some (un, s.seth (s.h.set i (.c T ys)))
    | none => none
  | none => none
def eStore (s : S) (t : TypeId) (a x : Operand) : Ef := match opd s.env a with
  | some p => match p.ptr? with
    | some (i, o) => match opd s.env x with
      | some v => match C.ty.get t with
        | some J => bif Nat.beq v.cells.length J.n && !tupV v then storeAt s i o v.cells else none
        | none => none
      | none => none
    | none => none
  | none => none
def mapI (e : Env) (m : Operand) : Option Nat := match opd e m with
  | some v => v.map?
  | none => none
/-- a map that may be changed: its entries, and how many were ever put in -/
def mapW (s : S) (i : Nat) : Option (List (V × V) × Nat) := bif Nat.blt i s.fl then none else match s.h.get i with
  | some (.m es c _) => some (es, c)
  | _ => none
def putM (s : S) (i : Nat) (es : List (V × V)) (c : Nat) (k v : V) : Option (Option (Nat × V × V)) → Ef
  | some (some (p, x, _)) => bif beq k x && flatK k then some (un, s.seth (s.h.set i (.m (setAt v es p) c none))) else none
  | some none => some (un, s.seth (s.h.set i (.m (es ++ [(k, v)]) (c + 1) none)))
  | none => none
def eUpd (s : S) (t : TypeId) (m k x : Operand) : Ef := match mapI s.env m with
  | some i => match opd s.env k with
    | some k => match opd s.env x with
      | some v => match mapTi C t with
        | some (kt, _) => match mapW s i with
          | some (es, c) => putM s i es c k v (lookB C kt k es)
          | none => none
        | none => none
      | none => none
    | none => none
  | none => none
def entP (s : S) (i : Nat) (es : List (V × V)) (c p : Nat) (v : V) : Ef := some (.t [v, .w s.nx], s.sethn (s.h.set i (.m es c (some (s.nx, p)))) (s.nx + 1))
def entM (s : S) (J : Ti) (i : Nat) (es : List (V × V)) (c : Nat) (k : V) : Option (Option (Nat × V × V)) → Ef
  | some (some (p, x, v)) => bif beq k x && flatK k then entP s i es c p v else none
  | some none => entP s i (es ++ [(k, zeroV J)]) (c + 1) es.length (zeroV J)
  | none => none
def eEnt (s : S) (t : TypeId) (m k : Operand) : Ef := match mapI s.env m with
  | some i => match opd s.env k with
    | some k => match mapTi C t with
      | some (kt, J) => match mapW s i with
        | some (es, c) => entM s J i es c k (lookB C kt k es)
        | none => none
      | none => none
    | none => none
  | none => none
def pendAt (s : S) (i : Nat) : Option (List (V × V) × Nat × Nat × Nat) := bif Nat.blt i s.fl then none else match s.h.get i with
  | some (.m es c (some (j, k))) => some (es, c, j, k)
  | _ => none
def V.w? : V → Option Nat
  | .w a => some a
  | _ => none
def eEst (s : S) (m w x : Operand) : Ef := match mapI s.env m with
  | some i => match opd s.env w with
    | some w => match w.w? with
      | some j => match opd s.env x with
        | some v => match pendAt s i with
          | some (es, c, j', p) => bif Nat.beq j j' then some (un, s.seth (s.h.set i (.m (setAt v es p) c none))) else none
          | none => none
        | none => none
      | none => none
    | none => none
  | none => none
def nxQ (s : S) : O → Ef
  | .qn => some (.t [bo false], s)
  | _ => none
def nxStr (s : S) (i : Nat) : O → Ef
  | .st b pos => bif Nat.blt pos b.size then (bif Nat.blt i s.fl then none else some (.t [bo true, nt pos, .k (.int .i32 (Utf8.decode b pos).1)], s.seth (s.h.set i (.st b (pos + (Utf8.decode b pos).2))))) else some (.t [bo false], s)
  | _ => none
def eNext (s : S) (x : Operand) (str : Bool) : Ef := match opd s.env x with
  | some v => match v.it? with
    | some i => match s.h.get i with
      | some o => bif str then nxStr s i o else nxQ s o
      | none => none
    | none => none
  | none => none
def back (s : S) : Ch3 → Ef
  | some (v, h, nx) => some (v, s.sethn h nx)
  | none => none
def eApp (s : S) (t : TypeId) (x y : V) : Ef := match sliceEl C t with
  | some el => match C.ty.get el with
    | some J => back s (append1 J el s.h s.nx s.fl x y)
    | none => none
  | none => none
/-- two types that are one -/
def ty2 {α : Type} (ts : List TypeId) (f : TypeId → Option α) : Option α := match ts with
  | [t, u] => bif Nat.beq t u then f t else none
  | _ => none
def eBi (s : S) (xs : List Operand) (ts : List TypeId) : Builtin → Ef
  | .append => ty2 ts fun t => arg2 (opds s.env xs) fun x y => eApp C s t x y
  | _ => none
def callR (s : S) : Option Rs → Ef
  | some (.call v h nx) => some (v, s.sethn h nx)
  | _ => none
def eCv (ih : Job → Option Rs) (s : S) (f : Operand) (xs : List Operand) : Ef := match opds s.env xs with
  | some args => match opd s.env f with
    | some fv => callR s (ih (.call fv args s.h s.nx s.fl))
    | none => none
  | none => none
def eCall (ih : Job → Option Rs) (s : S) (c : Call) : Ef := match c.callee with
  | .value f => eCv ih s f c.args.toList
  | .builtin b => eBi C s c.args.toList c.argTypes.toList b
  | _ => none
def isF : V → Bool
  | .f _ _ _ => true
  | _ => false
def eDef (s : S) (c : Call) : Ef := match c.callee with
  | .value f => match opds s.env c.args.toList with
    | some args => match opd s.env f with
      | some fv => bif s.rd || !isF fv then none else some (un, ⟨s.env, (some (fv, args), 0) :: s.ds, s.h, s.nx, s.rd, s.fl⟩)
      | none => none
    | none => none
  | _ => none
def eff (ih : Job → Option Rs) (s : S) : Op → Ef
  | .store t a x => eStore C s t a x
  | .mapUpdate t m k x => eUpd C s t m k x
  | .insert t m k x => eUpd C s t m k x
  | .mapEntry t m k => eEnt C s t m k
  | .entryStore t m w x => eEst s m w x
  | .next x b => eNext s x b
  | .call c => eCall C ih s c
  | .defer c => eDef s c
  | _ => none

/-- 0: pure; 1: reads; 2: makes; 3: changes; 4: one of the first three -/
def clsC (c : Call) : Nat := match c.callee with
  | .builtin .len => 4
  | .builtin .cap => 0
  | .builtin .min => 0
  | .builtin .max => 0
  | _ => 3
def cls : Op → Nat
  | .load _ _ => 1
  | .lookup _ _ _ _ => 1
  | .entry _ => 1
  | .alloc _ => 2
  | .box _ _ => 2
  | .buildSlice _ _ _ => 2
  | .makeMap _ _ => 2
  | .makeSlice _ _ _ => 2
  | .range _ _ => 2
  | .store _ _ _ => 3
  | .mapUpdate _ _ _ _ => 3
  | .insert _ _ _ _ => 3
  | .mapEntry _ _ _ => 3
  | .entryStore _ _ _ _ => 3
  | .next _ _ => 3
  | .defer _ => 3
  | .convert _ _ _ => 4
  | .call c => clsC c
  | _ => 0
def orV (a b : Option V) : Option V := match a with
  | some v => some v
  | none => b
/-- a value without a change: pure, or read -/
def look1 (e : Env) (h : T O) (o : Op) : Nat → Option V
  | 0 => pure1 C e o
  | 1 => read1 C e h o
  | _ => orV (pure1 C e o) (read1 C e h o)
def made (s : S) : Option (V × O) → Ef
  | some (v, x) => some (v, s.new x)
  | none => none
def kept (s : S) (o : Op) : Option V → Ef
  | some v => some (v, s)
  | none => made s (alloc1 C s.env s.h s.nx o)
def op1 (ih : Job → Option Rs) (s : S) (o : Op) : Nat → Ef
  | 3 => eff C ih s o
  | 2 => made s (alloc1 C s.env s.h s.nx o)
  | n => kept C s o (look1 C s.env s.h o n)
def wantB (want : Bool) (e : Env) : Option Nat → Option Bool
  | some d => match e.get d with
    | some v => match v.bool? with
      | some b => some (b == want)
      | none => some false
    | none => none
  | none => some false
def wantedV (ops : List Oper) (e : Env) (g : Option (Nat × Bool)) : Option Bool := match g with
  | none => some true
  | some (j, want) => match ops[j]? with
    | some o => wantB want e o.dst
    | none => some false
def seq1 (ih : Job → Option Rs) (all : List Oper) : List Oper → S → Option S
  | [], s => some s
  | o :: r, s => match wantedV all s.env o.guard with
    | some true => (match op1 C ih s o.op (cls o.op) with
      | some (v, s') => seq1 ih all r (s'.upo o.dst v)
      | none => none)
    | some false => seq1 ih all r (s.upo o.dst un)
    | none => none

/-! ### a region in an open order -/
def tst (b i : Nat) : Bool := Nat.beq (Nat.land (b / 2 ^ i) 1) 1
/-- what surely stands ahead of an operation, as bits -/
def bits (bs : List Nat) (l : List Edge) : Nat := l.foldl (fun s e => bif Region.binds .any e then Nat.lor s (Nat.lor (2 ^ e.on) (bs.getD e.on 0)) else s) 0
def bitsAll : List Oper → List Nat → List Nat
  | [], bs => bs
  | o :: r, bs => bitsAll r (bs ++ [bits bs o.after.toList])
/-- edges lead back -/
def edgesOk (i : Nat) (l : List Edge) : Bool := l.all fun e => !Region.binds .any e || Nat.blt e.on i
def edgesAll : List Oper → Nat → Bool
  | [], _ => true
  | o :: r, i => edgesOk i o.after.toList && edgesAll r (i + 1)
def tmpOf : Operand → Option Nat
  | .tmp t => some t
  | _ => none
def optL : Option Nat → List Nat
  | some d => [d]
  | none => []
def gdOf (ops : List Oper) : Option (Nat × Bool) → List Nat
  | some (j, _) => match ops[j]? with
    | some o => optL o.dst
    | none => []
  | none => []
/-- the slots that an operation looks at -/
def sees (ops : List Oper) (o : Oper) : List Nat := o.op.operands.toList.filterMap tmpOf ++ gdOf ops o.guard
def has (l : List Nat) : Option Nat → Bool
  | some d => l.any fun x => Nat.beq x d
  | none => false
/-- must one of both stand ahead of the other? -/
def near (d : Option Nat) (l : List Nat) (d' : Option Nat) (l' : List Nat) : Bool := has l' d || has l d' || has (optL d) d'
def pairsOk (d' : Option Nat) (l' : List Nat) (b : Nat) : List (Option Nat × List Nat) → Nat → Bool
  | [], _ => true
  | (d, l) :: r, i => (!near d l d' l' || tst b i) && pairsOk d' l' b r (i + 1)
def pairsAll (ops : List Oper) (bs : List Nat) : List Oper → List (Option Nat × List Nat) → Bool
  | [], _ => true
  | o :: r, acc => pairsOk o.dst (sees ops o) (bs.getD acc.length 0) acc 0 && pairsAll ops bs r (acc ++ [(o.dst, sees ops o)])
/-- how many, as a number that the kernel has at once -/
def cnt {α : Type} (l : List α) : Nat := List.rec 0 (fun _ _ n => Nat.add n 1) l
/-- what is known of a region ahead of its run -/
def stat (ops : List Oper) : Option (List Nat) := bif edgesAll ops 0 && pairsAll ops (bitsAll ops []) ops [] then some (bitsAll ops []) else none
structure D where
  s : S                              -- as in the order of the text
  cs : List (Nat × S)                -- the changes: by which operation, what stands behind it; the last first
  xs : List (Nat × Nat × O)          -- what was made: by which operation, its name; the last first
  rs : List (Nat × Op × Env × V)     -- what was read
  q : Nat                            -- the next name for what is made here
def layIf (h : T O) (i : Nat) (x : O) : T O := match h.get i with
  | some _ => h
  | none => h.set i x
def lay (h : T O) (p : Nat → Bool) : List (Nat × Nat × O) → T O
  | [] => h
  | (j, i, x) :: r => bif p j then layIf (lay h p r) i x else lay h p r
def noQ : O → Bool
  | .q _ _ _ => false
  | _ => true
def dMade (d : D) (i : Nat) (dst : Option Nat) : Option (V × O) → Option D
  | some (v, x) => bif noQ x then some ⟨d.s.upo dst v, d.cs, (i, d.q, x) :: d.xs, d.rs, d.q + 1⟩ else none
  | none => none
def dLook (d : D) (i : Nat) (o : Oper) : Option V → Option D
  | some v => some ⟨d.s.upo o.dst v, d.cs, d.xs, (i, o.op, d.s.env, v) :: d.rs, d.q⟩
  | none => dMade d i o.dst (alloc1 C d.s.env d.s.h d.q o.op)
def there (b : Nat) (h : T O) (x : Nat × Nat × O) : Bool := !tst b x.1 || (h.get x.2.1).isSome
def dEff (d : D) (i b : Nat) (dst : Option Nat) : Ef → Option D
  | some (v, s) => bif d.xs.all (there b s.h) then some ⟨s.upo dst v, (i, s) :: d.cs, d.xs, d.rs, d.q⟩ else none
  | none => none
def dStep (ih : Job → Option Rs) (d : D) (i b : Nat) (o : Oper) : Nat → Option D
  | 3 => bif d.cs.all (fun c => tst b c.1) then dEff d i b o.dst (eff C ih (d.s.seth (lay d.s.h (tst b) d.xs)) o.op) else none
  | 2 => dMade d i o.dst (alloc1 C d.s.env d.s.h d.q o.op)
  | n => dLook C d i o (look1 C d.s.env (lay d.s.h (tst b) d.xs) o.op n)
def dOne (ih : Job → Option Rs) (all : List Oper) (d : D) (i b : Nat) (o : Oper) : Option D := match wantedV all d.s.env o.guard with
  | some true => dStep C ih d i b o (cls o.op)
  | some false => some ⟨d.s.upo o.dst un, d.cs, d.xs, d.rs, d.q⟩
  | none => none
def dGo (ih : Job → Option Rs) (all : List Oper) (bs : List Nat) : List Oper → Nat → D → Option D
  | [], _, d => some d
  | o :: r, i, d => match dOne C ih all d i (bs.getD i 0) o with
    | some d => dGo ih all bs r (i + 1) d
    | none => none
def same1 (v : V) : Option V → Bool
  | some u => beq u v
  | none => false
def behind (s0 : S) : List (Nat × S) → S
  | [] => s0
  | (_, s) :: _ => s
/-- what was read is the same ahead of each change that may come behind it, and behind each that may come ahead of it -/
def reread2 (s0 : S) (d : D) (b : Nat) (o : Op) (e : Env) (v : V) (lo hi : Nat) : Bool :=
  bif Nat.beq lo hi then true else (List.range (hi + 1 - lo)).all fun k => same1 v (look1 C e (lay (behind s0 (d.cs.drop (cnt d.cs - (lo + k)))).h (tst b) d.xs) o (cls o))
def reread (s0 : S) (bs : List Nat) (d : D) (x : Nat × Op × Env × V) : Bool := bif Nat.beq (cls x.2.1) 0 then true else
  reread2 C s0 d (bs.getD x.1 0) x.2.1 x.2.2.1 x.2.2.2 (cnt (d.cs.filter fun c => tst (bs.getD x.1 0) c.1)) (cnt d.cs - cnt (d.cs.filter fun c => tst (bs.getD c.1 0) x.1))
def dEnd (s0 : S) (bs : List Nat) : Option D → Option S
  | some d => bif d.rs.all (reread C s0 bs d) then some (d.s.seth (lay d.s.h (fun _ => true) d.xs)) else none
  | none => none
def dRun0 (ih : Job → Option Rs) (ops : List Oper) (bs : List Nat) (s0 : S) (q : Nat) : Option S := dEnd C s0 bs (dGo C ih ops bs ops 0 ⟨s0, [], [], [], q⟩)
def drawn (ih : Job → Option Rs) (ops : Array Oper) (s : S) : Option S := match stat ops.toList with
  | some bs => dRun0 C ih ops.toList bs (s.sethn s.h (s.nx + cnt ops.toList)) s.nx
  | none => none

/-! ### loops over maps -/
def writes : Code → List Nat
  | .region _ ops _ => ops.toList.filterMap (·.dst)
  | .seq a b => writes a ++ writes b
  | .cond _ a b => writes a ++ writes b
  | .block _ a => writes a
  | .loop a => writes a
  | .scope a => writes a
  | _ => []
def delAll (e : Env) : List Nat → Env
  | [] => e
  | d :: r => delAll (e.del d) r
/-- a region that begins with the next step of an iterator over a map: the iterator, the slot, what comes behind it -/
structure Nx where
  x : Operand
  d : Nat
  all : List Oper
  r : List Oper
  c : Code
def nextOp (ops : List Oper) (c : Code) : Option Nx := match ops with
  | ⟨some d, .next x false, _, _, _, none⟩ :: r => some ⟨x, d, ops, r, c⟩
  | _ => none
def nextIt : Code → Option Nx
  | .seq (.region _ ops false) c => nextOp ops.toList c
  | _ => none
def roundC (ih : Job → Option Rs) (c : Code) : Option S → Option Rs
  | some s => ih (.code c s)
  | none => none
/-- what stands behind the step, with what it gave -/
def round0 (ih : Job → Option Rs) (N : Nx) (s : S) (v : V) : Option Rs := roundC ih N.c (seq1 C ih N.all N.r (s.up N.d v))
def round1 (ih : Job → Option Rs) (N : Nx) (s : S) (i m c : Nat) (al : Bool) (k v : V) : Option Rs := round0 C ih N (s.seth (s.h.set i (.q m c (.cur k al)))) (.t [bo true, k, v])
def roundR : Option Rs → Option S
  | some (.code .n s) => some s
  | _ => none
def left : Option Rs → Option Rs
  | some (.code x s) => match x with
    | .n => none
    | x => some (.code x s)
  | _ => none
def finL (ih : Job → Option Rs) (N : Nx) (s : S) (i : Nat) : Option Rs := left (round0 C ih N (s.seth (s.h.del i)) (.t [bo false]))
def lastQ (h : T O) (i : Nat) : Option (Nat × Nat) := match h.get i with
  | some (.q m c (.cur _ true)) => some (m, c)
  | _ => none
def one2 (ih : Job → Option Rs) (N : Nx) (i : Nat) (s : S) : Option (Nat × Nat) → Option Rs
  | some (m, c) => match mapC s.h m with
    | some (_, c') => bif Nat.beq c c' then finL C ih N s i else none
    | none => none
  | none => none
def itOf (N : Nx) (s : S) : Option Nat := match opd s.env N.x with
  | some v => v.it?
  | none => none
def one1 (ih : Job → Option Rs) (N : Nx) : Option S → Option Rs
  | some s => match itOf N s with
    | some i => bif Nat.blt i s.fl then none else one2 C ih N i s (lastQ s.h i)
    | none => none
  | none => none
def sameO (x y : Option V) : Bool := match x with
  | some a => match y with
    | some b => beq a b
    | none => false
  | none => true
/-- the slots hold what they held -/
def envLe (e0 e2 e : Env) : Bool := Env.rec true (fun t _ _ ih => sameO (e0.get t) (e2.get t) && ih) e
/-- each entry from the same state, in which nothing that stands may be changed -/
def rounds (ih : Job → Option Rs) (N : Nx) (s : S) (i m c : Nat) : List (V × V) → Bool
  | [] => true
  | (k, v) :: r => match roundR (round1 C ih N ⟨s.env, s.ds, s.h, s.nx, s.rd, s.nx⟩ i m c false k v) with
    | some s2 => s.ds.isEmpty && s2.ds.isEmpty && envLe s.env s2.env s.env && rounds ih N s i m c r
    | none => false
/-- two keys that are not one value -/
def ne0 : V → V → Bool
  | .k a, .k b => flatV a && flatV b && !vB a b
  | _, _ => false
def neL : List V → List V → Bool
  | a :: x, b :: y => ne0 a b || neL x y
  | _, _ => false
def neK : V → V → Bool
  | .g x, .g y => neL x y
  | a, b => ne0 a b
def dk : List (V × V) → Bool
  | [] => true
  | (k, _) :: r => r.all (fun y => neK k y.1) && dk r
def bare (s : S) (b : Code) : S := ⟨delAll s.env (writes b), s.ds, s.h, s.nx, s.rd, s.fl⟩
def many (ih : Job → Option Rs) (N : Nx) (s : S) (i m c : Nat) (es : List (V × V)) : Option Rs := match itOf N s with
  | some j => bif Nat.beq j i && dk es && rounds C ih N s i m c es then finL C ih N s i else none
  | none => none
def mapLoop (ih : Job → Option Rs) (b : Code) (N : Nx) (s : S) (i m c : Nat) (es : List (V × V)) : Option Rs := match es with
  | [] => finL C ih N s i
  | [(k, v)] => one1 C ih N (roundR (round1 C ih N s i m c true k v))
  | es => many C ih N (bare s b) i m c es

/-! ### code, calls -/
def bindV : List Nat → List V → Env → Option Env
  | [], [], e => some e
  | p :: ps, v :: vs, e => bindV ps vs (e.set p v)
  | _, _, _ => none
def argV : List V → Nat → Env → Env
  | [], _, e => e
  | v :: vs, i, e => argV vs (i + 1) (e.set i v)
def isDf : Option O → Bool
  | some .df => true
  | _ => false
def callH : Option Rs → Option (T O × Nat)
  | some (.call _ h nx) => some (h, nx)
  | _ => none
def runDs (ih : Job → Option Rs) (fl : Nat) : List (Option (V × List V) × Nat) → T O → Nat → Option (T O × Nat)
  | [], h, nx => some (h, nx)
  | (none, i) :: r, h, nx => bif Nat.ble fl i && isDf (h.get i) then runDs ih fl r (h.del i) nx else none
  | (some (f, args), _) :: r, h, nx => match callH (ih (.dcall f args h nx fl)) with
    | some (h, nx) => runDs ih fl r h nx
    | none => none
def res1 (e : Env) (h : T O) : ResultVar → Option V
  | .tmp t => e.get t
  | .cell a t => match e.get a with
    | some p => loadV C h t p
    | none => none
def resV (e : Env) (h : T O) : List ResultVar → Option (List V)
  | [] => some []
  | x :: r => match res1 C e h x with
    | some v => match resV e h r with
      | some vs => some (v :: vs)
      | none => none
    | none => none
def one : List V → V
  | [v] => v
  | l => .t l
def nrm (o : Option S) : Option Rs := match o with
  | some s => some (.code .n s)
  | none => none
def cSeq (ih : Job → Option Rs) (b : Code) : Option Rs → Option Rs
  | some (.code .n s) => ih (.code b s)
  | r => r
def cCond (ih : Job → Option Rs) (x : Operand) (a b : Code) (s : S) : Option Rs := match opd s.env x with
  | some v => match v.bool? with
    | some t => ih (.code (bif t then a else b) s)
    | none => none
  | none => none
def blk (i j : Nat) (s : S) : Option Rs := bif Nat.beq j i then some (.code .n s) else some (.code (.e j) s)
def cBlock (i : Nat) : Option Rs → Option Rs
  | some (.code (.e j) s) => blk i j s
  | r => r
def cAgain (ih : Job → Option Rs) (b : Code) : Option Rs → Option Rs
  | some (.code .n s) => ih (.code (.loop b) s)
  | r => r
def freshAt (h : T O) (i : Nat) : Option (Nat × Nat) := match h.get i with
  | some (.q m c .fresh) => some (m, c)
  | _ => none
def isNext (b : Code) (s : S) : Option (Nx × Nat × Nat × Nat × List (V × V)) := match nextIt b with
  | some N => match opd s.env N.x with
    | some v => match v.it? with
      | some i => match freshAt s.h i with
        | some (m, c) => match mapC s.h m with
          | some (es, c') => bif Nat.beq c c' then some (N, i, m, c, es) else none
          | none => none
        | none => none
      | none => none
    | none => none
  | none => none
def cLoop (ih : Job → Option Rs) (b : Code) (s : S) : Option Rs := match isNext b s with
  | some (N, i, m, c, es) => bif Nat.blt i s.fl then none else mapLoop C ih b N s i m c es
  | none => cAgain ih b (ih (.code b s))
def lpAt (h : T O) (i : Nat) : Option (Env × List Nat × Code × Code × Bool × Option Code) := match h.get i with
  | some (.lp e ps a b st p) => some (e, ps, a, b, st, p)
  | _ => none
def pendX : Option Code → Option X
  | none => some .n
  | some .ret => some .r
  | some (.exit j) => some (.e j)
  | _ => none
def rfEnd (s : S) (i : Nat) : Option (T O × Nat) → Option Rs
  | some (h, nx) => match lpAt h (i + 1) with
    | some (_, _, _, _, st, p) => bif st && p.isNone then none else match pendX p with
      | some x => some (.code x ⟨s.env, (none, i) :: s.ds, h.del (i + 1), nx, s.rd, s.fl⟩)
      | none => none
    | none => none
  | none => none
def cRf (ih : Job → Option Rs) (f : Operand) (ps : List Nat) (asg body : Code) (s : S) : Option Rs := match opd s.env f with
  | some fv => bif s.rd || !isF fv then none else rfEnd s s.nx (callH (ih (.call fv [.y (s.nx + 1)] ((s.h.set s.nx .df).set (s.nx + 1) (.lp s.env ps asg body false none)) (s.nx + 2) s.fl)))
  | none => none
def fCode (ih : Job → Option Rs) (s : S) : Code → Option Rs
  | .skip => some (.code .n s)
  | .label _ => some (.code .n s)
  | .region _ ops d => nrm (bif d then drawn C ih ops s else seq1 C ih ops.toList ops.toList s)
  | .seq a b => cSeq ih b (ih (.code a s))
  | .cond x a b => cCond ih x a b s
  | .block i b => cBlock i (ih (.code b s))
  | .scope b => ih (.code b s)
  | .loop b => cLoop C ih b s
  | .exit i => some (.code (.e i) s)
  | .ret => some (.code .r s)
  | .rangeFunc f ps asg body => cRf ih f ps.toList asg body s
  | _ => none
def jump : X → Option (Bool × Option Code)
  | .n => some (false, none)
  | .r => some (true, some .ret)
  | .e j => some (true, some (.exit j))
def yOut (i : Nat) (s : S) (b : Bool) (c : Option Code) : Option (Env × List Nat × Code × Code × Bool × Option Code) → Option Rs
  | some (e, ps, asg, body, _, _) => some (.call (bo (!b)) (s.h.set i (.lp e ps asg body b c)) s.nx)
  | none => none
def yEnd (i : Nat) : Option Rs → Option Rs
  | some (.code x s) => match jump x with
    | some (b, c) => yOut i s b c (lpAt s.h i)
    | none => none
  | _ => none
def yGo (ih : Job → Option Rs) (i : Nat) (body : Code) (s : S) : Option (Env × List Nat × Code × Code × Bool × Option Code) → Option Rs
  | some (e, ps, a, b, false, none) => yEnd i (ih (.code body (s.seth (s.h.set i (.lp e ps a b true none)))))
  | _ => none
def yBody (ih : Job → Option Rs) (i : Nat) (body : Code) : Option Rs → Option Rs
  | some (.code .n s) => yGo ih i body s (lpAt s.h i)
  | _ => none
def yCall (ih : Job → Option Rs) (i : Nat) (args : List V) (h : T O) (nx fl : Nat) : Option Rs := bif Nat.blt i fl then none else match lpAt h i with
  | some (e, ps, asg, body, false, none) => match bindV ps args e with
    | some e' => yBody ih i body (ih (.code asg ⟨e', [], h, nx, true, fl⟩))
    | none => none
  | _ => none
def retR (s : S) (rs : List ResultVar) : Option (T O × Nat) → Option Rs
  | some (h, nx) => match resV C s.env h rs with
    | some vs => some (.call (one vs) h nx)
    | none => none
  | none => none
def isExit : X → Bool
  | .e _ => true
  | _ => false
def bodyR (ih : Job → Option Rs) (fl : Nat) (rs : List ResultVar) : Option Rs → Option Rs
  | some (.code x s) => bif isExit x then none else retR C s rs (runDs ih fl s.ds s.h s.nx)
  | _ => none
/-- each slot that is written is one of the function's -/
def okD (n : Nat) : Code → Bool
  | .region _ ops _ => ops.toList.all fun o => match o.dst with
    | some d => Nat.blt d n
    | none => true
  | .seq a b => okD n a && okD n b
  | .cond _ a b => okD n a && okD n b
  | .block _ a => okD n a
  | .loop a => okD n a
  | .scope a => okD n a
  | .rangeFunc _ ps a b => ps.toList.all (fun d => Nat.blt d n) && okD n a && okD n b
  | _ => true
def fnCall (ih : Job → Option Rs) (fid : Nat) (args : List V) (h : T O) (nx fl : Nat) : Option Rs := match C.fn.get fid with
  | some fn => match fn.body with
    | some c => bif okD fn.ntmps c && Nat.ble args.length fn.ntmps then bodyR C ih fl fn.results.toList (ih (.code c ⟨argV args 0 .o, [], h, nx, false, fl⟩)) else none
    | none => none
  | none => none
/-- a deferred function that asks for the panic first -/
def isRec (c : Call) : Bool := match c.callee with
  | .builtin .recover => Nat.beq c.args.size 0 && Nat.beq c.argTypes.size 0
  | _ => false
def recOp : List Oper → Option Nat
  | [⟨some d, .call c, _, _, _, none⟩] => bif isRec c then some d else none
  | _ => none
def dBody : Code → Option (Nat × Code)
  | .seq (.region _ ops false) b => match recOp ops.toList with
    | some d => some (d, b)
    | none => none
  | _ => none
def endD (rs : List ResultVar) : Option Rs → Option Rs
  | some (.code x s) => bif isExit x || !s.ds.isEmpty || !rs.isEmpty then none else some (.call un s.h s.nx)
  | _ => none
def dRun (ih : Job → Option Rs) (fn : Func) (args : List V) (h : T O) (nx fl : Nat) : Option (Nat × Code) → Option Rs
  | some (d, b) => bif okD fn.ntmps b && Nat.ble args.length fn.ntmps && Nat.blt d fn.ntmps then endD fn.results.toList (ih (.code b ⟨(argV args 0 .o).set d (.k .nilIface), [], h, nx, false, fl⟩)) else none
  | none => none
def dCall (ih : Job → Option Rs) (args : List V) (h : T O) (nx fl : Nat) : V → Option Rs
  | .f fid first cap => match C.fn.get fid with
    | some fn => match fn.body with
      | some c => dRun ih fn (first ++ args ++ cap) h nx fl (dBody c)
      | none => none
    | none => none
  | _ => none
def fCall (ih : Job → Option Rs) (args : List V) (h : T O) (nx fl : Nat) : V → Option Rs
  | .y i => yCall ih i args h nx fl
  | .f fid first cap => fnCall C ih fid (first ++ args ++ cap) h nx fl
  | _ => none
def F (ih : Job → Option Rs) : Job → Option Rs
  | .code c s => fCode C ih s c
  | .call f args h nx fl => fCall C ih args h nx fl f
  | .dcall f args h nx fl => dCall C ih args h nx fl f
def ai (n : Nat) : Job → Option Rs := Nat.rec (fun _ => none) (fun _ ih j => F C ih j) n
end
end NC
end Go.M
end

section
set_option linter.unusedVariables false
namespace Go.M
noncomputable section NC
open Go.Z
def isAg : TypeDesc → Bool
  | .struct _ => true
  | .array _ _ => true
  | _ => false
def isAggV : Value → Bool
  | .agg _ => true
  | _ => false
/-- where a struct's fields lie -/
def plsOf (P : Program) : TypeDesc → Option (List (Nat × Nat))
  | .struct fs => qpl P fs.toList
  | _ => some []
def tiOf (P : Program) (t : Nat) : Option Ti := match P.underlying t, P.info? t with
  | some u, some i => match i.zero, plsOf P u with
    | some z, some pl => bif z.cells.toList.all plain && (bif isAg u then isAggV z else plain z) && Nat.beq z.cells.size i.size then some ⟨u, i.size, isAg u, z.cells.toList.map .k, i.bytes, !P.stoodInHeld t && !P.eqGuardType P.depth t, pl⟩ else none
    | _, _ => none
  | _, _ => none
def fnOf (P : Program) (i : Nat) : Option Func := match P.funcs[i]? with
  | some f => bif f.name == "runtime.NumGoroutine" then none else some f
  | none => none
def mkC (P : Program) (gv : T (List V)) : Cx := ⟨tb 12 (tiOf P), tb 12 (fnOf P), gv⟩
/-- what a call without arguments gives -/
def run0 (C : Cx) (n : Nat) (f : FuncId) : Option V := match ai C n (.call (.f f [] []) [] .lf 0 0) with
  | some (.call v _ _) => some v
  | _ => none
end NC
end Go.M
end

section
set_option maxRecDepth 100000
namespace Go.Proofs.YtlbdgahbamalcaaGreatDoor
theorem T6 : M.run0 (M.mkC Tryz.prog .lf) 100000 6 = some (.k (.bool true)) := by kernel_rfl
end Go.Proofs.YtlbdgahbamalcaaGreatDoor
end

section
set_option linter.unusedVariables false
set_option linter.unusedSimpArgs false
namespace Go.M
open Go.RowKit Go.Z

/-! ### trees -/
section
variable {α : Type}
theorem T.get_lf (i : Nat) : (T.lf : T α).get i = none := rfl
theorem T.get_0 (v : Option α) (l r : T α) : (T.nd v l r).get 0 = v := rfl
theorem T.get_s (v : Option α) (l r : T α) (j : Nat) : (T.nd v l r).get (j + 1) = bif Nat.beq (j % 2) 0 then l.get (j / 2) else r.get (j / 2) := rfl
theorem T.put_s0 (f : Nat) (t : T α) (v : Option α) : T.put (f + 1) t 0 v = match t with | .lf => .nd v .lf .lf | .nd _ l r => .nd v l r := by cases t <;> rfl
theorem T.put_ss (f : Nat) (t : T α) (j : Nat) (v : Option α) : T.put (f + 1) t (j + 1) v = match t with
    | .lf => bif Nat.beq (j % 2) 0 then .nd none (T.put f .lf (j / 2) v) .lf else .nd none .lf (T.put f .lf (j / 2) v)
    | .nd u l r => bif Nat.beq (j % 2) 0 then .nd u (T.put f l (j / 2) v) r else .nd u l (T.put f r (j / 2) v) := by cases t <;> rfl
theorem T.get_put : ∀ (f : Nat) (t : T α) (i : Nat) (v : Option α) (j : Nat), i < f → (T.put f t i v).get j = if j = i then v else t.get j
  | 0, _, _, _, _, h => by omega
  | f + 1, t, 0, v, j, _ => by
    rw [T.put_s0]
    cases t <;> cases j <;> simp [T.get_lf, T.get_0, T.get_s]
  | f + 1, t, i + 1, v, j, h => by
    rw [T.put_ss]
    have ih := fun t j => T.get_put f t (i / 2) v j (by omega)
    cases t with
    | lf =>
      rcases Nat.mod_two_eq_zero_or_one i with hi | hi <;> cases j with
      | zero => simp [hi, T.get_0, T.get_lf, show Nat.beq 1 0 = false from rfl]
      | succ j =>
        rcases Nat.mod_two_eq_zero_or_one j with hj | hj <;> simp only [hi, hj, cond_true, cond_false, T.get_s, ih, T.get_lf, show Nat.beq 1 0 = false from rfl, show Nat.beq 0 0 = true from rfl] <;>
          (try split) <;> (try split) <;> first | rfl | omega
    | nd u l r =>
      rcases Nat.mod_two_eq_zero_or_one i with hi | hi <;> cases j with
      | zero => simp [hi, T.get_0, show Nat.beq 1 0 = false from rfl]
      | succ j =>
        rcases Nat.mod_two_eq_zero_or_one j with hj | hj <;> simp only [hi, hj, cond_true, cond_false, T.get_s, ih, show Nat.beq 1 0 = false from rfl, show Nat.beq 0 0 = true from rfl] <;>
          (try split) <;> (try split) <;> first | rfl | omega
theorem T.get_set (t : T α) (i : Nat) (v : α) (j : Nat) : (t.set i v).get j = if j = i then some v else t.get j := T.get_put _ t i _ j (by omega)
theorem T.get_del (t : T α) (i j : Nat) : (t.del i).get j = if j = i then none else t.get j := T.get_put _ t i _ j (by omega)
theorem T.get_set_same (t : T α) (i : Nat) (v : α) : (t.set i v).get i = some v := by rw [T.get_set, if_pos rfl]
theorem T.get_set_other (t : T α) {i j : Nat} (v : α) (h : j ≠ i) : (t.set i v).get j = t.get j := by rw [T.get_set, if_neg h]
theorem tb_get : ∀ (d : Nat) (f : Nat → Option α) (i : Nat) (x : α), (tb d f).get i = some x → f i = some x
  | 0, _, _, _, h => by cases h
  | d + 1, f, 0, x, h => h
  | d + 1, f, i + 1, x, h => by
    unfold tb at h
    rw [T.get_s] at h
    rcases Nat.mod_two_eq_zero_or_one i with hi | hi <;> rw [hi] at h
    · have := tb_get d _ _ _ (show (tb d fun k => f (2 * k + 1)).get (i / 2) = some x from h)
      rwa [show 2 * (i / 2) + 1 = i + 1 by omega] at this
    · have := tb_get d _ _ _ (show (tb d fun k => f (2 * k + 2)).get (i / 2) = some x from h)
      rwa [show 2 * (i / 2) + 2 = i + 1 by omega] at this
end
theorem Env.get_c (t : Nat) (v : V) (r : Env) (d : Nat) : (Env.c t v r).get d = if t = d then some v else r.get d := by
  show (bif Nat.beq t d then some v else r.get d) = _
  by_cases h : t = d
  · subst h; simp
  · rw [if_neg h, show Nat.beq t d = false from by cases hb : Nat.beq t d with | false => rfl | true => exact absurd (Nat.eq_of_beq_eq_true hb) h]; rfl
theorem Env.get_o (d : Nat) : Env.o.get d = none := rfl
theorem Env.get_del (t : Nat) : ∀ (e : Env) (d : Nat) (v : V), (e.del t).get d = some v → e.get d = some v ∧ d ≠ t
  | .o, d, v, h => by cases h
  | .c u x r, d, v, h => by
    have h' : (bif Nat.beq u t then r.del t else .c u x (r.del t)).get d = some v := h
    cases hb : Nat.beq u t with
    | true =>
      rw [hb] at h'
      obtain ⟨h1, h2⟩ := Env.get_del t r d v h'
      have : u = t := Nat.eq_of_beq_eq_true hb
      rw [Env.get_c, if_neg (by omega)]
      exact ⟨h1, h2⟩
    | false =>
      rw [hb] at h'
      rw [cond_false, Env.get_c] at h'
      rw [Env.get_c]
      split
      · rename_i e
        subst e
        rw [if_pos rfl] at h'
        exact ⟨h', fun e => by subst e; simp at hb⟩
      · rename_i e
        rw [if_neg e] at h'
        exact Env.get_del t r d v h'

/-! ### where names lie -/
/-- block, first cell, capacity (in elements), cells of an element -/
structure Pl where
  b : Nat
  o : Nat
  c : Nat
  s : Nat
abbrev Rho := Nat → Option Pl
def Le (ρ ρ' : Rho) : Prop := ∀ i x, ρ i = some x → ρ' i = some x
theorem Le.refl (ρ : Rho) : Le ρ ρ := fun _ _ h => h
theorem Le.trans {a b c : Rho} (h : Le a b) (k : Le b c) : Le a c := fun i x hx => k i x (h i x hx)
def Rho.add (ρ : Rho) (i : Nat) (x : Pl) : Rho := fun j => if j = i then some x else ρ j
theorem Rho.le_add {ρ : Rho} {i : Nat} {x : Pl} (h : ρ i = none) : Le ρ (ρ.add i x) := fun j y hy => by
  unfold Rho.add
  split
  · rename_i e; subst e; rw [h] at hy; cases hy
  · exact hy
theorem Rho.add_same (ρ : Rho) (i : Nat) (x : Pl) : ρ.add i x i = some x := if_pos rfl
theorem Rho.add_other {ρ : Rho} {i j : Nat} {x : Pl} (h : j ≠ i) : ρ.add i x j = ρ j := if_neg h

def capN (x : Pl) : Cap → Nat
  | .c n => n
  | .u u _ => x.c - u
def slOk (x : Pl) (o n : Nat) : Cap → Bool
  | .c m => decide (n ≤ m)
  | .u u z => decide (z = x.s ∧ o = u * x.s ∧ u + n ≤ x.c)
mutual
/-- the model's value -/
def cv (ρ : Rho) : V → Option Value
  | .k v => if plain v = true then some v else none
  | .p i o => match ρ i with
    | some x => some (.pointer (some ⟨x.b, x.o + o, none⟩))
    | none => none
  | .s i o n c => match ρ i with
    | some x => if slOk x o n c = true then some (.slice (some ⟨x.b, x.o + o, none⟩) n (capN x c)) else none
    | none => none
  | .m i => match ρ i with
    | some x => some (.map (some x.b))
    | none => none
  | .f fn first cap => match cvl ρ first, cvl ρ cap with
    | some a, some b => some (.func (.func fn) a.toArray b.toArray)
    | _, _ => none
  | .y i => match ρ i with
    | some x => some (.func (.yield x.b) #[] #[])
    | none => none
  | .q i => match ρ i with
    | some x => some (.pointer (some ⟨x.b, 0, none⟩))
    | none => none
  | .w i => match ρ i with
    | some x => some (.int .i64 (x.b : Int))
    | none => none
  | .gl g o => some (.pointer (some ⟨g, o, none⟩))
  | .g l => match cvc ρ l with
    | some l => some (.agg l.toArray)
    | none => none
  | .t l => match cvl ρ l with
    | some l => some (.tuple l.toArray)
    | none => none
  | .i T v => match cv ρ v with
    | some u => some (.iface T u)
    | none => none
/-- values, one by one -/
def cvl (ρ : Rho) : List V → Option (List Value)
  | [] => some []
  | x :: r => match cv ρ x, cvl ρ r with
    | some v, some vs => some (v :: vs)
    | _, _ => none
/-- cells: values of one cell each -/
def cvc (ρ : Rho) : List V → Option (List Value)
  | [] => some []
  | x :: r => if oneV x = true then (match cv ρ x, cvc ρ r with
    | some v, some vs => some (v :: vs)
    | _, _ => none) else none
end
mutual
theorem cv_mono {ρ ρ' : Rho} (h : Le ρ ρ') : ∀ (x : V) (v : Value), cv ρ x = some v → cv ρ' x = some v
  | .k u, v, hv => by unfold cv at hv ⊢; exact hv
  | .p i o, v, hv => by
    unfold cv at hv ⊢
    cases hi : ρ i with
    | none => rw [hi] at hv; cases hv
    | some x => rw [h i x hi]; rw [hi] at hv; exact hv
  | .s i o n c, v, hv => by
    unfold cv at hv ⊢
    cases hi : ρ i with
    | none => rw [hi] at hv; cases hv
    | some x => rw [h i x hi]; rw [hi] at hv; exact hv
  | .m i, v, hv => by
    unfold cv at hv ⊢
    cases hi : ρ i with
    | none => rw [hi] at hv; cases hv
    | some x => rw [h i x hi]; rw [hi] at hv; exact hv
  | .f fn first cap, v, hv => by
    unfold cv at hv ⊢
    cases h1 : cvl ρ first with
    | none => rw [h1] at hv; cases hv
    | some a => cases h2 : cvl ρ cap with
      | none => rw [h1, h2] at hv; cases hv
      | some b => rw [cvl_mono h _ _ h1, cvl_mono h _ _ h2]; rw [h1, h2] at hv; exact hv
  | .y i, v, hv => by
    unfold cv at hv ⊢
    cases hi : ρ i with
    | none => rw [hi] at hv; cases hv
    | some x => rw [h i x hi]; rw [hi] at hv; exact hv
  | .q i, v, hv => by
    unfold cv at hv ⊢
    cases hi : ρ i with
    | none => rw [hi] at hv; cases hv
    | some x => rw [h i x hi]; rw [hi] at hv; exact hv
  | .w i, v, hv => by
    unfold cv at hv ⊢
    cases hi : ρ i with
    | none => rw [hi] at hv; cases hv
    | some x => rw [h i x hi]; rw [hi] at hv; exact hv
  | .gl g o, v, hv => by unfold cv at hv ⊢; exact hv
  | .g l, v, hv => by
    unfold cv at hv ⊢
    cases h1 : cvc ρ l with
    | none => rw [h1] at hv; cases hv
    | some a => rw [cvc_mono h _ _ h1]; rw [h1] at hv; exact hv
  | .t l, v, hv => by
    unfold cv at hv ⊢
    cases h1 : cvl ρ l with
    | none => rw [h1] at hv; cases hv
    | some a => rw [cvl_mono h _ _ h1]; rw [h1] at hv; exact hv
  | .i T x, v, hv => by
    unfold cv at hv ⊢
    cases h1 : cv ρ x with
    | none => rw [h1] at hv; cases hv
    | some a => rw [cv_mono h _ _ h1]; rw [h1] at hv; exact hv
theorem cvl_mono {ρ ρ' : Rho} (h : Le ρ ρ') : ∀ (x : List V) (v : List Value), cvl ρ x = some v → cvl ρ' x = some v
  | [], v, hv => by unfold cvl at hv ⊢; exact hv
  | x :: r, v, hv => by
    unfold cvl at hv ⊢
    cases h1 : cv ρ x with
    | none => rw [h1] at hv; cases hv
    | some a => cases h2 : cvl ρ r with
      | none => rw [h1, h2] at hv; cases hv
      | some b => rw [cv_mono h _ _ h1, cvl_mono h _ _ h2]; rw [h1, h2] at hv; exact hv
theorem cvc_mono {ρ ρ' : Rho} (h : Le ρ ρ') : ∀ (x : List V) (v : List Value), cvc ρ x = some v → cvc ρ' x = some v
  | [], v, hv => by unfold cvc at hv ⊢; exact hv
  | x :: r, v, hv => by
    unfold cvc at hv ⊢
    split at hv
    · rename_i ho
      rw [if_pos ho]
      cases h1 : cv ρ x with
      | none => rw [h1] at hv; cases hv
      | some a => cases h2 : cvc ρ r with
        | none => rw [h1, h2] at hv; cases hv
        | some b => rw [cv_mono h _ _ h1, cvc_mono h _ _ h2]; rw [h1, h2] at hv; exact hv
    · cases hv
end
section
variable {ρ : Rho}
theorem cvl_cons {x : V} {r : List V} {l : List Value} (h : cvl ρ (x :: r) = some l) : ∃ v vs, l = v :: vs ∧ cv ρ x = some v ∧ cvl ρ r = some vs := by
  unfold cvl at h
  cases h1 : cv ρ x with
  | none => rw [h1] at h; cases h
  | some a => cases h2 : cvl ρ r with
    | none => rw [h1, h2] at h; cases h
    | some b => rw [h1, h2] at h; injection h with h; exact ⟨a, b, h.symm, rfl, rfl⟩
theorem cvc_cons {x : V} {r : List V} {l : List Value} (h : cvc ρ (x :: r) = some l) : ∃ v vs, l = v :: vs ∧ oneV x = true ∧ cv ρ x = some v ∧ cvc ρ r = some vs := by
  unfold cvc at h
  split at h
  · rename_i ho
    cases h1 : cv ρ x with
    | none => rw [h1] at h; cases h
    | some a => cases h2 : cvc ρ r with
      | none => rw [h1, h2] at h; cases h
      | some b => rw [h1, h2] at h; injection h with h; exact ⟨a, b, h.symm, ho, rfl, rfl⟩
  · cases h
theorem cvl_nil {l : List Value} (h : cvl ρ [] = some l) : l = [] := by unfold cvl at h; injection h with h; exact h.symm
theorem cvc_nil {l : List Value} (h : cvc ρ [] = some l) : l = [] := by unfold cvc at h; injection h with h; exact h.symm
theorem cvl_mk {x : V} {r : List V} {v : Value} {vs : List Value} (h1 : cv ρ x = some v) (h2 : cvl ρ r = some vs) : cvl ρ (x :: r) = some (v :: vs) := by unfold cvl; rw [h1, h2]
theorem cvc_mk {x : V} {r : List V} {v : Value} {vs : List Value} (h0 : oneV x = true) (h1 : cv ρ x = some v) (h2 : cvc ρ r = some vs) : cvc ρ (x :: r) = some (v :: vs) := by unfold cvc; rw [if_pos h0, h1, h2]
theorem cvc_len : ∀ {l : List V} {vs : List Value}, cvc ρ l = some vs → vs.length = l.length
  | [], vs, h => by rw [cvc_nil h]; rfl
  | x :: r, vs, h => by obtain ⟨v, us, rfl, _, _, h2⟩ := cvc_cons h; simp [cvc_len h2]
theorem cvl_len : ∀ {l : List V} {vs : List Value}, cvl ρ l = some vs → vs.length = l.length
  | [], vs, h => by rw [cvl_nil h]; rfl
  | x :: r, vs, h => by obtain ⟨v, us, rfl, _, h2⟩ := cvl_cons h; simp [cvl_len h2]
theorem cvc_get : ∀ {l : List V} {vs : List Value} {i : Nat} {x : V}, cvc ρ l = some vs → l[i]? = some x → ∃ v, vs[i]? = some v ∧ cv ρ x = some v ∧ oneV x = true
  | [], vs, i, x, h, hi => by cases hi
  | y :: r, vs, 0, x, h, hi => by obtain ⟨v, us, rfl, h0, h1, _⟩ := cvc_cons h; injection hi with hi; subst hi; exact ⟨v, rfl, h1, h0⟩
  | y :: r, vs, i + 1, x, h, hi => by
    obtain ⟨v, us, rfl, _, _, h2⟩ := cvc_cons h
    obtain ⟨u, h3, h4⟩ := cvc_get h2 (i := i) (x := x) (by simpa using hi)
    exact ⟨u, by simpa using h3, h4⟩
theorem cvl_get : ∀ {l : List V} {vs : List Value} {i : Nat} {x : V}, cvl ρ l = some vs → l[i]? = some x → ∃ v, vs[i]? = some v ∧ cv ρ x = some v
  | [], vs, i, x, h, hi => by cases hi
  | y :: r, vs, 0, x, h, hi => by obtain ⟨v, us, rfl, h1, _⟩ := cvl_cons h; injection hi with hi; subst hi; exact ⟨v, rfl, h1⟩
  | y :: r, vs, i + 1, x, h, hi => by
    obtain ⟨v, us, rfl, _, h2⟩ := cvl_cons h
    obtain ⟨u, h3, h4⟩ := cvl_get h2 (i := i) (x := x) (by simpa using hi)
    exact ⟨u, by simpa using h3, h4⟩
theorem cvc_app : ∀ {l m : List V} {vs us : List Value}, cvc ρ l = some vs → cvc ρ m = some us → cvc ρ (l ++ m) = some (vs ++ us)
  | [], m, vs, us, h, k => by rw [cvc_nil h]; exact k
  | x :: r, m, vs, us, h, k => by obtain ⟨v, ws, rfl, h0, h1, h2⟩ := cvc_cons h; exact cvc_mk h0 h1 (cvc_app h2 k)
theorem cvl_app : ∀ {l m : List V} {vs us : List Value}, cvl ρ l = some vs → cvl ρ m = some us → cvl ρ (l ++ m) = some (vs ++ us)
  | [], m, vs, us, h, k => by rw [cvl_nil h]; exact k
  | x :: r, m, vs, us, h, k => by obtain ⟨v, ws, rfl, h1, h2⟩ := cvl_cons h; exact cvl_mk h1 (cvl_app h2 k)
theorem cvc_take : ∀ {l : List V} {vs : List Value} (n : Nat), cvc ρ l = some vs → cvc ρ (l.take n) = some (vs.take n)
  | [], vs, n, h => by rw [cvc_nil h]; simp; unfold cvc; rfl
  | x :: r, vs, 0, h => by simp; unfold cvc; rfl
  | x :: r, vs, n + 1, h => by obtain ⟨v, ws, rfl, h0, h1, h2⟩ := cvc_cons h; exact cvc_mk h0 h1 (cvc_take n h2)
theorem cvc_drop : ∀ {l : List V} {vs : List Value} (n : Nat), cvc ρ l = some vs → cvc ρ (l.drop n) = some (vs.drop n)
  | [], vs, n, h => by rw [cvc_nil h]; simp; unfold cvc; rfl
  | x :: r, vs, 0, h => h
  | x :: r, vs, n + 1, h => by obtain ⟨v, ws, rfl, h0, h1, h2⟩ := cvc_cons h; exact cvc_drop n h2
theorem cvc_one : ∀ {l : List V} {vs : List Value}, cvc ρ l = some vs → ∀ u ∈ vs, u.oneCell' = true
  | [], vs, h, u, hu => by rw [cvc_nil h] at hu; cases hu
  | x :: r, vs, h, u, hu => by
    obtain ⟨v, ws, rfl, h0, h1, h2⟩ := cvc_cons h
    rcases List.mem_cons.1 hu with rfl | hu
    · cases x <;> unfold cv at h1 <;> first
        | (cases h0; done)
        | (split at h1
           · rename_i hp; injection h1 with h1; subst h1; rename_i w; cases w <;> first | rfl | cases hp
           · cases h1)
        | (split at h1 <;> first | (injection h1 with h1; subst h1; rfl) | cases h1 | (split at h1 <;> first | (injection h1 with h1; subst h1; rfl) | cases h1))
        | (injection h1 with h1; subst h1; rfl)
    · exact cvc_one h2 u hu
end
end Go.M
end

section
set_option linter.unusedVariables false
set_option linter.unusedSimpArgs false
set_option linter.unusedSectionVars false
namespace Go.M
open Go.RowKit Go.Z
/-- a type, as the program has it -/
structure TOK (P : Program) (t : TypeId) (I : Ti) : Prop where
  u : P.underlying t = some I.u
  sz : szB P t = some I.n
  ag : aggB P t = some I.ag
  info : ∃ i z, P.info? t = some i ∧ i.zero = some z ∧ I.z = z.cells.toList.map .k ∧ z.cells.toList.all plain = true ∧ (I.ag = true → z = .agg z.cells) ∧ (I.ag = false → plain z = true) ∧ i.bytes = I.b ∧ i.size = I.n ∧ z.cells.size = I.n
  pl : ∀ fs, I.u = .struct fs → qpl P fs.toList = some I.pl
  e : I.e = true → P.stoodInHeld t = false ∧ P.eqGuardType P.depth t = false
/-- the tables are the program's -/
structure OKC (P : Program) (C : Cx) : Prop where
  ty : ∀ t I, C.ty.get t = some I → TOK P t I
  fn : ∀ i f, C.fn.get i = some f → P.funcs[i]? = some f ∧ f.name ≠ "runtime.NumGoroutine"
  mixed : P.follows .mixedOrders = true
  gv : ∀ g, C.gv.get g = none
/-- slots that hold what is said -/
structure Fe (ρ : Rho) (e : Env) (n : Nat) (a : Act) : Prop where
  size : a.tmps.size = n
  get : ∀ d x, e.get d = some x → ∃ v, cv ρ x = some v ∧ a.tmps[d]? = some v
section
variable {ρ ρ' : Rho} {e : Env} {n : Nat} {a : Act}
theorem Fe.mono (h : Fe ρ e n a) (hl : Le ρ ρ') : Fe ρ' e n a := ⟨h.size, fun d x hd => by obtain ⟨v, h1, h2⟩ := h.get d x hd; exact ⟨v, cv_mono hl _ _ h1, h2⟩⟩
theorem Fe.put (h : Fe ρ e n a) {d : Nat} (hd : d < n) {x : V} {v : Value} (hv : cv ρ x = some v) : Fe ρ (e.set d x) n (a.put (some d) v) := by
  refine ⟨by simp [Act.put, h.size], fun t y ht => ?_⟩
  have ht' : (Env.c d x e).get t = some y := ht
  rw [Env.get_c] at ht'
  split at ht'
  · rename_i e1
    subst e1
    injection ht' with ht'
    subst ht'
    exact ⟨v, hv, by simp [Act.put, h.size, hd]⟩
  · rename_i e1
    obtain ⟨u, h1, h2⟩ := h.get t y ht'
    exact ⟨u, h1, by simp only [Act.put]; rw [Array.getElem?_setIfInBounds_ne e1]; exact h2⟩
theorem Fe.defs (h : Fe ρ e n a) (ds : List Deferred) : Fe ρ e n { a with defers := ds } := ⟨h.size, h.get⟩
end
/-! ### looking at values -/
section
variable {x : V}
theorem V.int?_eq {k : IntKind} {n : Int} (h : x.int? = some (k, n)) : x = .k (.int k n) := by
  unfold V.int? V.val? at h
  cases x with
  | k v => cases v with
    | int a b => simp only [Option.some.injEq, Prod.mk.injEq] at h; obtain ⟨rfl, rfl⟩ := h; rfl
    | _ => cases h
  | _ => cases h
theorem V.val?_eq {v : Value} (h : x.val? = some v) : x = .k v := by
  unfold V.val? at h
  cases x with
  | k v => injection h with h; subst h; rfl
  | _ => cases h
theorem V.nat?_eq {n : Nat} (h : x.nat? = some n) : ∃ k, x = .k (.int k (.ofNat n)) := by
  unfold V.nat? at h
  split at h
  · rename_i k m h1; injection h with h; subst h; exact ⟨_, V.int?_eq h1⟩
  · cases h
theorem V.bool?_eq {b : Bool} (h : x.bool? = some b) : x = .k (.bool b) := by
  unfold V.bool? at h
  split at h
  · rename_i c h1; injection h with h; subst h; exact V.val?_eq h1
  · cases h
theorem V.str?_eq {b : ByteArray} (h : x.str? = some b) : x = .k (.string b) := by
  unfold V.str? at h
  split at h
  · rename_i c h1; injection h with h; subst h; exact V.val?_eq h1
  · cases h
theorem V.ptr?_eq {i o : Nat} (h : x.ptr? = some (i, o)) : x = .p i o := by
  unfold V.ptr? at h
  cases x <;> first | (simp only [Option.some.injEq, Prod.mk.injEq] at h; obtain ⟨rfl, rfl⟩ := h; rfl) | cases h
theorem V.gl?_eq {i o : Nat} (h : x.gl? = some (i, o)) : x = .gl i o := by
  unfold V.gl? at h
  cases x <;> first | (simp only [Option.some.injEq, Prod.mk.injEq] at h; obtain ⟨rfl, rfl⟩ := h; rfl) | cases h
theorem V.sl?_eq {i o n : Nat} {c : Cap} (h : x.sl? = some (i, o, n, c)) : x = .s i o n c := by
  unfold V.sl? at h
  cases x <;> first | (simp only [Option.some.injEq, Prod.mk.injEq] at h; obtain ⟨rfl, rfl, rfl, rfl⟩ := h; rfl) | cases h
theorem V.map?_eq {i : Nat} (h : x.map? = some i) : x = .m i := by
  unfold V.map? at h
  cases x <;> first | (injection h with h; subst h; rfl) | cases h
theorem V.agg?_eq {l : List V} (h : x.agg? = some l) : x = .g l := by
  unfold V.agg? at h
  cases x <;> first | (injection h with h; subst h; rfl) | cases h
theorem V.tup?_eq {l : List V} (h : x.tup? = some l) : x = .t l := by
  unfold V.tup? at h
  cases x <;> first | (injection h with h; subst h; rfl) | cases h
theorem V.if?_eq {t : TypeId} {v : V} (h : x.if? = some (t, v)) : x = .i t v := by
  unfold V.if? at h
  cases x <;> first | (simp only [Option.some.injEq, Prod.mk.injEq] at h; obtain ⟨rfl, rfl⟩ := h; rfl) | cases h
theorem V.it?_eq {i : Nat} (h : x.it? = some i) : x = .q i := by
  unfold V.it? at h
  cases x <;> first | (injection h with h; subst h; rfl) | cases h
theorem V.nilS_eq (h : x.nilS = true) : x = .k (.slice none 0 0) := by
  unfold V.nilS at h
  split at h
  · rename_i v h1
    rw [V.val?_eq h1]
    unfold Go.M.nilS at h
    split at h
    · rfl
    · cases h
  · cases h
theorem isNilM_eq (h : isNilM x = true) : x = .k (.map none) := by
  unfold isNilM at h
  split at h
  · rename_i h1; exact V.val?_eq h1
  · cases h
theorem isNilI_eq (h : isNilI x = true) : x = .k .nilIface := by
  unfold isNilI at h
  split at h
  · rename_i h1; exact V.val?_eq h1
  · cases h
end
theorem cv_k {ρ : Rho} {v u : Value} (h : cv ρ (.k v) = some u) : u = v := by
  unfold cv at h
  split at h
  · injection h with h; exact h.symm
  · cases h
theorem cv_p {ρ : Rho} {i o : Nat} {u : Value} (h : cv ρ (.p i o) = some u) : ∃ x, ρ i = some x ∧ u = .pointer (some ⟨x.b, x.o + o, none⟩) := by
  unfold cv at h
  split at h
  · rename_i x hx; injection h with h; exact ⟨x, hx, h.symm⟩
  · cases h
theorem cv_p_mk {ρ : Rho} {i o : Nat} {x : Pl} (h : ρ i = some x) : cv ρ (.p i o) = some (.pointer (some ⟨x.b, x.o + o, none⟩)) := by unfold cv; rw [h]
theorem cv_s {ρ : Rho} {i o n : Nat} {c : Cap} {u : Value} (h : cv ρ (.s i o n c) = some u) : ∃ x, ρ i = some x ∧ slOk x o n c = true ∧ u = .slice (some ⟨x.b, x.o + o, none⟩) n (capN x c) := by
  unfold cv at h
  split at h
  · rename_i x hx
    split at h
    · rename_i h2; injection h with h; exact ⟨x, hx, h2, h.symm⟩
    · cases h
  · cases h
theorem cv_s_mk {ρ : Rho} {i o n : Nat} {c : Cap} {x : Pl} (h : ρ i = some x) (h2 : slOk x o n c = true) : cv ρ (.s i o n c) = some (.slice (some ⟨x.b, x.o + o, none⟩) n (capN x c)) := by unfold cv; rw [h]; simp only [h2, if_true]
theorem cv_m {ρ : Rho} {i : Nat} {u : Value} (h : cv ρ (.m i) = some u) : ∃ x, ρ i = some x ∧ u = .map (some x.b) := by
  unfold cv at h
  split at h
  · rename_i x hx; injection h with h; exact ⟨x, hx, h.symm⟩
  · cases h
theorem cv_g {ρ : Rho} {l : List V} {u : Value} (h : cv ρ (.g l) = some u) : ∃ vs, cvc ρ l = some vs ∧ u = .agg vs.toArray := by
  unfold cv at h
  split at h
  · rename_i x hx; injection h with h; exact ⟨x, hx, h.symm⟩
  · cases h
theorem cv_g_mk {ρ : Rho} {l : List V} {vs : List Value} (h : cvc ρ l = some vs) : cv ρ (.g l) = some (.agg vs.toArray) := by unfold cv; rw [h]
theorem cv_t {ρ : Rho} {l : List V} {u : Value} (h : cv ρ (.t l) = some u) : ∃ vs, cvl ρ l = some vs ∧ u = .tuple vs.toArray := by
  unfold cv at h
  split at h
  · rename_i x hx; injection h with h; exact ⟨x, hx, h.symm⟩
  · cases h
theorem cv_t_mk {ρ : Rho} {l : List V} {vs : List Value} (h : cvl ρ l = some vs) : cv ρ (.t l) = some (.tuple vs.toArray) := by unfold cv; rw [h]
theorem cv_i {ρ : Rho} {T : TypeId} {v : V} {u : Value} (h : cv ρ (.i T v) = some u) : ∃ w, cv ρ v = some w ∧ u = .iface T w := by
  unfold cv at h
  split at h
  · rename_i x hx; injection h with h; exact ⟨x, hx, h.symm⟩
  · cases h
theorem cv_i_mk {ρ : Rho} {T : TypeId} {v : V} {w : Value} (h : cv ρ v = some w) : cv ρ (.i T v) = some (.iface T w) := by unfold cv; rw [h]
theorem cv_f {ρ : Rho} {fn : FuncId} {xs ys : List V} {u : Value} (h : cv ρ (.f fn xs ys) = some u) : ∃ a b, cvl ρ xs = some a ∧ cvl ρ ys = some b ∧ u = .func (.func fn) a.toArray b.toArray := by
  unfold cv at h
  split at h
  · rename_i a b h1 h2; injection h with h; exact ⟨a, b, h1, h2, h.symm⟩
  · cases h
theorem cv_f_mk {ρ : Rho} {fn : FuncId} {xs ys : List V} {a b : List Value} (h1 : cvl ρ xs = some a) (h2 : cvl ρ ys = some b) : cv ρ (.f fn xs ys) = some (.func (.func fn) a.toArray b.toArray) := by unfold cv; rw [h1, h2]
theorem cv_y {ρ : Rho} {i : Nat} {u : Value} (h : cv ρ (.y i) = some u) : ∃ x, ρ i = some x ∧ u = .func (.yield x.b) #[] #[] := by
  unfold cv at h
  split at h
  · rename_i x hx; injection h with h; exact ⟨x, hx, h.symm⟩
  · cases h
theorem cv_q {ρ : Rho} {i : Nat} {u : Value} (h : cv ρ (.q i) = some u) : ∃ x, ρ i = some x ∧ u = .pointer (some ⟨x.b, 0, none⟩) := by
  unfold cv at h
  split at h
  · rename_i x hx; injection h with h; exact ⟨x, hx, h.symm⟩
  · cases h
theorem cv_w {ρ : Rho} {i : Nat} {u : Value} (h : cv ρ (.w i) = some u) : ∃ x, ρ i = some x ∧ u = .int .i64 (x.b : Int) := by
  unfold cv at h
  split at h
  · rename_i x hx; injection h with h; exact ⟨x, hx, h.symm⟩
  · cases h
theorem cv_gl {ρ : Rho} {g o : Nat} {u : Value} (h : cv ρ (.gl g o) = some u) : u = .pointer (some ⟨g, o, none⟩) := by unfold cv at h; injection h with h; exact h.symm
theorem cv_gl_mk {ρ : Rho} {g o : Nat} : cv ρ (.gl g o) = some (.pointer (some ⟨g, o, none⟩)) := by unfold cv; rfl
theorem cv_bo {ρ : Rho} (b : Bool) : cv ρ (bo b) = some (.bool b) := by unfold bo cv; rfl
theorem cv_it {ρ : Rho} (k : IntKind) (n : Int) : cv ρ (.k (.int k n)) = some (.int k n) := by unfold cv; rfl
theorem cv_nt {ρ : Rho} (n : Nat) : cv ρ (nt n) = some (.int .i64 (n : Int)) := by unfold nt cv; rfl
theorem cv_str {ρ : Rho} (s : ByteArray) : cv ρ (.k (.string s)) = some (.string s) := by unfold cv; rfl
/-- the cells of a value -/
theorem cv_cells {ρ : Rho} {x : V} {v : Value} (ht : tupV x = false) (h : cv ρ x = some v) : ∃ vs, cvc ρ x.cells = some vs ∧ v.cells = vs.toArray := by
  cases x with
  | g l => obtain ⟨vs, h1, rfl⟩ := cv_g h; exact ⟨vs, h1, rfl⟩
  | t l => cases ht
  | _ =>
    refine ⟨[v], cvc_mk rfl h (by unfold cvc; rfl), ?_⟩
    have h2 : v.oneCell' = true := cvc_one (cvc_mk (ρ := ρ) rfl h (show cvc ρ [] = some [] by unfold cvc; rfl)) v (List.mem_singleton.2 rfl)
    cases v <;> first | rfl | cases h2
theorem cvc_k {ρ : Rho} : ∀ {l : List Value}, l.all plain = true → cvc ρ (l.map .k) = some l
  | [], _ => by unfold cvc; rfl
  | v :: r, h => by
    simp only [List.all_cons, Bool.and_eq_true] at h
    exact cvc_mk rfl (by unfold cv; rw [if_pos h.1]) (cvc_k h.2)
theorem ofV_ok {ρ : Rho} {v : Value} {x : V} (h : ofV v = some x) : cv ρ x = some v := by
  unfold ofV at h
  cases v with
  | agg cs =>
    cases hp : cs.toList.all plain with
    | false => simp only [hp, cond_false] at h; cases h
    | true =>
      simp only [hp, cond_true, Option.some.injEq] at h
      subst h
      exact cv_g_mk (cvc_k hp)
  | tuple cs => cases h
  | _ => injection h with h; subst h; unfold cv; rfl
section
variable {P : Program} {C : Cx} {ρ : Rho} {e : Env} {n : Nat} {a : Act}
theorem opd_ok (hf : Fe ρ e n a) {x : Operand} {v : V} (h : opd e x = some v) : ∃ u, cv ρ v = some u ∧ a.eval x = u := by
  cases x with
  | tmp t =>
    obtain ⟨u, h1, h2⟩ := hf.get t v h
    exact ⟨u, h1, by simp [Act.eval, Array.getD_eq_getD_getElem?, h2]⟩
  | const w => exact ⟨w, ofV_ok h, rfl⟩
  | global g => injection h with h; subst h; exact ⟨_, cv_gl_mk, rfl⟩
  | func f => injection h with h; subst h; exact ⟨_, cv_f_mk (by unfold cvl; rfl) (by unfold cvl; rfl), rfl⟩
theorem opds_ok (hf : Fe ρ e n a) : ∀ {xs : List Operand} {vs : List V}, opds e xs = some vs → ∃ us, cvl ρ vs = some us ∧ xs.toArray.map a.eval = us.toArray
  | [], vs, h => by injection h with h; subst h; exact ⟨[], by unfold cvl; rfl, by simp⟩
  | x :: r, vs, h => by
    unfold opds at h
    split at h
    · rename_i v hv
      split at h
      · rename_i ws hw
        injection h with h; subst h
        obtain ⟨u, h1, h2⟩ := opd_ok hf hv
        obtain ⟨us, h3, h4⟩ := opds_ok hf hw
        exact ⟨u :: us, cvl_mk h1 h3, by
          simp only [List.map_toArray, List.map_cons, h2] at h4 ⊢
          rw [Array.mk.injEq] at h4
          rw [h4]⟩
      · cases h
    · cases h
theorem parts_ok (hf : Fe ρ e n a) : ∀ {xs : List (Nat × Operand)} {vs : List (Nat × V)}, parts e xs = some vs → ∃ us : List (Nat × Value), us.map (·.1) = vs.map (·.1) ∧ cvl ρ (vs.map (·.2)) = some (us.map (·.2)) ∧ xs.toArray.map (fun (i, x) => (i, a.eval x)) = us.toArray
  | [], vs, h => by injection h with h; subst h; exact ⟨[], rfl, by simp; unfold cvl; rfl, by simp⟩
  | (i, x) :: r, vs, h => by
    unfold parts at h
    split at h
    · rename_i v hv
      split at h
      · rename_i ws hw
        injection h with h; subst h
        obtain ⟨u, h1, h2⟩ := opd_ok hf hv
        obtain ⟨us, h3, h4, h5⟩ := parts_ok hf hw
        exact ⟨(i, u) :: us, by simp [h3], cvl_mk h1 h4, by
          simp only [List.map_toArray, List.map_cons, h2] at h5 ⊢
          rw [Array.mk.injEq] at h5
          rw [h5]⟩
      · cases h
    · cases h
/-! ### types -/
theorem und_ok (hC : OKC P C) {t : TypeId} {u : TypeDesc} (h : und C t = some u) : P.underlying t = some u := by
  unfold und at h
  split at h
  · rename_i I hI; injection h with h; subst h; exact (hC.ty t I hI).u
  · cases h
theorem sliceEl_ok (hC : OKC P C) {t el : TypeId} (h : sliceEl C t = some el) : P.underlying t = some (.slice el) := by
  unfold sliceEl at h
  split at h
  · rename_i hu; injection h with h; subst h; exact und_ok hC hu
  · cases h
theorem sliceTi_ok (hC : OKC P C) {t : TypeId} {J : Ti} (h : sliceTi C t = some J) : ∃ el, P.underlying t = some (.slice el) ∧ sliceEl C t = some el ∧ C.ty.get el = some J := by
  unfold sliceTi at h
  split at h
  · rename_i el he; exact ⟨el, sliceEl_ok hC he, he, h⟩
  · cases h
theorem arrTi_ok (hC : OKC P C) {t n : Nat} {J : Ti} (h : arrTi C t = some (n, J)) : ∃ el, P.underlying t = some (.array n el) ∧ C.ty.get el = some J := by
  unfold arrTi at h
  split at h
  · rename_i m el hu
    split at h
    · rename_i K hK; simp only [Option.some.injEq, Prod.mk.injEq] at h; obtain ⟨rfl, rfl⟩ := h; exact ⟨el, und_ok hC hu, hK⟩
    · cases h
  · cases h
theorem mapTi_ok (hC : OKC P C) {t kt : Nat} {J : Ti} (h : mapTi C t = some (kt, J)) : ∃ vt, P.underlying t = some (.map kt vt) ∧ C.ty.get vt = some J := by
  unfold mapTi at h
  split at h
  · rename_i m el hu
    split at h
    · rename_i K hK; simp only [Option.some.injEq, Prod.mk.injEq] at h; obtain ⟨rfl, rfl⟩ := h; exact ⟨el, und_ok hC hu, hK⟩
    · cases h
  · cases h
theorem isStr_ok (hC : OKC P C) {t : TypeId} (h : isStr C t = true) : P.underlying t = some .string := by
  unfold isStr at h
  split at h
  · rename_i hu; exact und_ok hC hu
  · cases h
theorem intK_ok (hC : OKC P C) {t : TypeId} {k : IntKind} (h : intK C t = some k) : P.underlying t = some (.int k) := by
  unfold intK at h
  split at h
  · rename_i hu; injection h with h; subst h; exact und_ok hC hu
  · cases h
theorem fieldAt_ok (hC : OKC P C) {t : TypeId} {i o : Nat} {J : Ti} (h : fieldAt C t i = some (o, J)) : ∃ fs f, P.underlying t = some (.struct fs) ∧ fs[i]? = some f ∧ f.offset = o ∧ C.ty.get f.type = some J := by
  unfold fieldAt at h
  split at h
  · rename_i fs hu
    split at h
    · rename_i f hf
      split at h
      · rename_i K hK
        simp only [Option.some.injEq, Prod.mk.injEq] at h
        obtain ⟨rfl, rfl⟩ := h
        exact ⟨fs, f, und_ok hC hu, by rw [← Array.getElem?_toList]; exact hf, rfl, hK⟩
      · cases h
    · cases h
  · cases h
theorem sz_ok (hC : OKC P C) {t : TypeId} {J : Ti} (h : C.ty.get t = some J) (w : World) : (sizeOf t).run P w = .ok J.n w := szB_run (hC.ty t J h).sz w
theorem ag_ok (hC : OKC P C) {t : TypeId} {J : Ti} (h : C.ty.get t = some J) (w : World) : (isAgg t).run P w = .ok J.ag w := aggB_run (hC.ty t J h).ag w
/-- a part of cells -/
theorem cut_ok (hC : OKC P C) {t : TypeId} {J : Ti} (hJ : C.ty.get t = some J) {xs : List V} {vs : List Value} {o : Nat} {v : V} (hx : cvc ρ xs = some vs) (h : cut J.ag J.n o xs = some v) :
    ∃ u, cv ρ v = some u ∧ (∀ w, (part t vs.toArray o).run P w = .ok u w) ∧ (match J.ag with | true => u = .agg ((vs.drop o).take J.n).toArray ∧ ((vs.drop o).take J.n).length = J.n | false => vs[o]? = some u) := by
  unfold cut at h
  cases hag : J.ag with
  | true =>
    rw [hag, cond_true] at h
    cases hb : Nat.beq ((xs.drop o).take J.n).length J.n with
    | false => rw [hb] at h; cases h
    | true =>
      rw [hb, cond_true] at h
      injection h with h; subst h
      have h1 := cvc_take J.n (cvc_drop o hx)
      have hl : ((vs.drop o).take J.n).length = J.n := by rw [cvc_len h1]; exact Nat.eq_of_beq_eq_true hb
      refine ⟨_, cv_g_mk h1, fun w => ?_, rfl, hl⟩
      rw [part_agg (zs := ((vs.drop o).take J.n).toArray) w (fun w => by rw [ag_ok hC hJ, hag]) (sz_ok hC hJ) (by apply Array.toList_inj.1; simp [List.drop_take, Nat.add_sub_cancel_left])]
  | false =>
    rw [hag, cond_false] at h
    obtain ⟨u, h1, h2, _⟩ := cvc_get hx h
    exact ⟨u, h2, fun w => part_one w (fun w => by rw [ag_ok hC hJ, hag]) (by simpa using h1), h1⟩
/-! ### numbers -/
theorem inr_wrap {k : IntKind} {m : Int} (h : inr k m = true) : k.wrap m = m := by
  have key : ∀ {m b : Nat}, Nat.blt m b = true → m < b := fun h => Nat.le_of_ble_eq_true h
  cases k <;> cases m <;> first | (cases h; done) | (have h1 := key h; unfold IntKind.wrap IntKind.bits IntKind.signed; simp only [Bool.true_and, Bool.false_and, decide_eq_true_eq, Bool.false_eq_true, if_false, Int.ofNat_eq_natCast]; (try split) <;> omega)
theorem wr_eq (k : IntKind) (m : Int) : wr k m = k.wrap m := by
  unfold wr
  cases h : inr k m with
  | true => rw [cond_true, inr_wrap h]
  | false => rfl
end
end Go.M
end

section
set_option linter.unusedVariables false
set_option linter.unusedSimpArgs false
set_option linter.unusedSectionVars false
namespace Go.M
open Go.RowKit Go.Z
section
variable {P : Program} {C : Cx} {ρ : Rho} {e : Env} {n : Nat} {a : Act}
/-! ### equality -/
theorem eqFw_ok (hC : OKC P C) {d k : Nat} {rec : TypeId → V → V → Option Bool} (hrec : ∀ t x y b u v, rec t x y = some b → cv ρ x = some u → cv ρ y = some v → EqV P (d + k) t u v b) {xs ys : List V} {us vs : List Value} (hx : cvc ρ xs = some us) (hy : cvc ρ ys = some vs) :
    ∀ {fs : List Field} {b : Bool}, eqFw C rec xs ys fs = some b → EqF P (d + k) us.toArray vs.toArray fs b
  | [], b, h => by injection h with h; subst h; exact eqf_nil
  | f :: r, b, h => by
    unfold eqFw at h
    split at h
    · cases h
    · rename_i J hJ
      split at h
      · rename_i p q hp hq
        cases hn : f.name == "_" with
        | true => rw [hn] at h; cases h
        | false =>
          rw [hn, cond_false] at h
          obtain ⟨u, h1, h2, _⟩ := cut_ok hC hJ hx hp
          obtain ⟨v, h3, h4, _⟩ := cut_ok hC hJ hy hq
          have hnn : (f.name != "_") = true := by simp [bne, hn]
          split at h
          · rename_i hr
            have := eqf_cons hnn h2 h4 (hrec _ _ _ _ _ _ hr h1 h3) (eqFw_ok hC hrec hx hy h)
            simpa using this
          · rename_i hr
            injection h with h; subst h
            intro w
            have he := hrec _ _ _ _ _ _ hr h1 h3 w
            have hn' : f.name ≠ "_" := by simpa using hnn
            simp [Op.eqFields, hn', h2, h4, he]
          · cases h
      · cases h
theorem eqIw_ok (hC : OKC P C) {d k : Nat} {el : TypeId} {J : Ti} (hJ : C.ty.get el = some J) {rec : V → V → Option Bool} (hrec : ∀ x y b u v, rec x y = some b → cv ρ x = some u → cv ρ y = some v → EqV P (d + k) el u v b) {xs ys : List V} {us vs : List Value} (hx : cvc ρ xs = some us) (hy : cvc ρ ys = some vs) :
    ∀ {m i : Nat} {b : Bool}, eqIw rec J.n J.ag xs ys m i = some b → EqI P (d + k) el J.n us.toArray vs.toArray (List.range' i m) b
  | 0, i, b, h => by injection h with h; subst h; exact eqi_nil
  | m + 1, i, b, h => by
    unfold eqIw at h
    rw [List.range'_succ]
    split at h
    · rename_i p q hp hq
      obtain ⟨u, h1, h2, _⟩ := cut_ok hC hJ hx hp
      obtain ⟨v, h3, h4, _⟩ := cut_ok hC hJ hy hq
      split at h
      · rename_i hr
        have := eqi_cons h2 h4 (hrec _ _ _ _ _ hr h1 h3) (eqIw_ok hC hJ hrec hx hy h)
        simpa using this
      · rename_i hr
        injection h with h; subst h
        intro w
        have he := hrec _ _ _ _ _ hr h1 h3 w
        simp [Op.eqItems, h2, h4, he]
      · cases h
    · cases h
theorem eqN_cases {x y : Option Bool} {b : Bool} (h : eqN x y = some b) : (x = some true ∧ y = some b) ∨ (x = some false ∧ y = some true ∧ b = false) := by
  unfold eqN at h
  split at h
  · exact .inl ⟨rfl, h⟩
  · split at h
    · injection h with h; exact .inr ⟨rfl, rfl, h.symm⟩
    · cases h
  · cases h
theorem nzP_ok {x : V} {b : Bool} {u : Value} (h : nzP x = some b) (hu : cv ρ x = some u) : (b = true ∧ u = .pointer none) ∨ (b = false ∧ ∃ ad, u = .pointer (some ad)) := by
  unfold nzP at h
  split at h
  · injection h with h; obtain ⟨y, _, rfl⟩ := cv_p hu; exact .inr ⟨h.symm, _, rfl⟩
  · injection h with h; exact .inr ⟨h.symm, _, cv_gl hu⟩
  · rename_i v
    rw [cv_k hu]
    unfold kP at h
    split at h
    · injection h with h; exact .inl ⟨h.symm, rfl⟩
    · cases h
  · cases h
theorem nzS_ok {x : V} {b : Bool} {u : Value} (h : nzS x = some b) (hu : cv ρ x = some u) : (b = true ∧ ∃ p q, u = .slice none p q) ∨ (b = false ∧ ∃ ad p q, u = .slice (some ad) p q) := by
  unfold nzS at h
  split at h
  · injection h with h; obtain ⟨y, _, _, rfl⟩ := cv_s hu; exact .inr ⟨h.symm, _, _, _, rfl⟩
  · rename_i v
    rw [cv_k hu]
    unfold kS at h
    split at h
    · injection h with h; exact .inl ⟨h.symm, _, _, rfl⟩
    · cases h
  · cases h
theorem nzM_ok {x : V} {b : Bool} {u : Value} (h : nzM x = some b) (hu : cv ρ x = some u) : (b = true ∧ u = .map none) ∨ (b = false ∧ ∃ ad, u = .map (some ad)) := by
  unfold nzM at h
  split at h
  · injection h with h; obtain ⟨y, _, rfl⟩ := cv_m hu; exact .inr ⟨h.symm, _, rfl⟩
  · rename_i v
    rw [cv_k hu]
    unfold kM at h
    split at h
    · injection h with h; exact .inl ⟨h.symm, rfl⟩
    · cases h
  · cases h
theorem nzF_ok {x : V} {b : Bool} {u : Value} (h : nzF x = some b) (hu : cv ρ x = some u) : (b = true ∧ u = .nilFunc) ∨ (b = false ∧ ∃ p q r, u = .func p q r) := by
  unfold nzF at h
  split at h
  · injection h with h; obtain ⟨_, _, _, _, rfl⟩ := cv_f hu; exact .inr ⟨h.symm, _, _, _, rfl⟩
  · injection h with h; obtain ⟨y, _, rfl⟩ := cv_y hu; exact .inr ⟨h.symm, _, _, _, rfl⟩
  · rename_i v
    rw [cv_k hu]
    unfold kF at h
    split at h
    · injection h with h; exact .inl ⟨h.symm, rfl⟩
    · cases h
  · cases h
theorem nzI_ok {x : V} {b : Bool} {u : Value} (h : nzI x = some b) (hu : cv ρ x = some u) : (b = true ∧ u = .nilIface) ∨ (b = false ∧ ∃ p q, u = .iface p q) := by
  unfold nzI at h
  split at h
  · injection h with h; obtain ⟨_, _, rfl⟩ := cv_i hu; exact .inr ⟨h.symm, _, _, rfl⟩
  · rename_i v
    rw [cv_k hu]
    unfold kI at h
    split at h
    · injection h with h; exact .inl ⟨h.symm, rfl⟩
    · cases h
  · cases h
theorem eqInt_ok {x y : V} {b : Bool} (h : eqInt x y = some b) : ∃ k p q, x = .k (.int k p) ∧ y = .k (.int k q) ∧ b = decide (p = q) := by
  unfold eqInt at h
  split at h
  · rename_i k p hx
    split at h
    · rename_i k2 q hy
      cases hk : decide (k = k2) with
      | false => rw [hk] at h; cases h
      | true =>
        rw [hk, cond_true] at h
        injection h with h
        have := of_decide_eq_true hk
        subst this
        exact ⟨k, p, q, V.int?_eq hx, V.int?_eq hy, h.symm⟩
    · cases h
  · cases h
theorem eqV_ok (hC : OKC P C) : ∀ (d k : Nat) (t : TypeId) (x y : V) (b : Bool) (u v : Value), eqV C d t x y = some b → cv ρ x = some u → cv ρ y = some v → EqV P (d + k) t u v b
  | 0, k, t, x, y, b, u, v, h, _, _ => by cases h
  | d + 1, k, t, x, y, b, u, v, h, hu, hv => by
    have ih := eqV_ok hC d k
    rw [show d + 1 + k = (d + k) + 1 by omega]
    have h' : (match und C t with
      | none => none
      | some u => match u with
        | .int _ => eqInt x y
        | .bool => eqBool x y
        | .string => eqStr x y
        | .pointer _ => eqN (nzP x) (nzP y)
        | .slice _ => eqN (nzS x) (nzS y)
        | .map _ _ => eqN (nzM x) (nzM y)
        | .func _ _ _ => eqN (nzF x) (nzF y)
        | .interface _ => eqN (nzI x) (nzI y)
        | .struct fs => bif eqOk C t then eqAgg C (eqV C d) x y fs.toList else none
        | .array n e => eqArr C (eqV C d) x y n e
        | _ => none) = some b := h
    split at h'
    · cases h'
    · rename_i tu htu
      have hut := und_ok hC htu
      split at h'
      · obtain ⟨kk, p, q, rfl, rfl, rfl⟩ := eqInt_ok h'
        rw [cv_k hu, cv_k hv]; exact eq_int hut
      · unfold eqBool at h'
        split at h'
        · rename_i p hp
          split at h'
          · rename_i q hq
            injection h' with h'; subst h'
            rw [V.bool?_eq hp] at hu; rw [V.bool?_eq hq] at hv
            rw [cv_k hu, cv_k hv]; exact eq_bool hut
          · cases h'
        · cases h'
      · unfold eqStr at h'
        split at h'
        · rename_i p hp
          split at h'
          · rename_i q hq
            injection h' with h'; subst h'
            rw [V.str?_eq hp] at hu; rw [V.str?_eq hq] at hv
            rw [cv_k hu, cv_k hv]; exact eq_str hut
          · cases h'
        · cases h'
      · intro w
        rcases eqN_cases h' with ⟨h1, h2⟩ | ⟨h1, h2, rfl⟩
        · rcases nzP_ok h1 hu with ⟨_, rfl⟩ | ⟨h3, _⟩
          · rcases nzP_ok h2 hv with ⟨rfl, rfl⟩ | ⟨rfl, ad, rfl⟩ <;> simp [Op.equalIn, run_underlying hut]
          · cases h3
        · rcases nzP_ok h1 hu with ⟨h3, _⟩ | ⟨_, ad, rfl⟩
          · cases h3
          · rcases nzP_ok h2 hv with ⟨_, rfl⟩ | ⟨h3, _⟩
            · simp [Op.equalIn, run_underlying hut]
            · cases h3
      · intro w
        rcases eqN_cases h' with ⟨h1, h2⟩ | ⟨h1, h2, rfl⟩
        · rcases nzS_ok h1 hu with ⟨_, p, q, rfl⟩ | ⟨h3, _⟩
          · rcases nzS_ok h2 hv with ⟨rfl, p2, q2, rfl⟩ | ⟨rfl, ad, p2, q2, rfl⟩ <;> simp [Op.equalIn, run_underlying hut]
          · cases h3
        · rcases nzS_ok h1 hu with ⟨h3, _⟩ | ⟨_, ad, p, q, rfl⟩
          · cases h3
          · rcases nzS_ok h2 hv with ⟨_, p2, q2, rfl⟩ | ⟨h3, _⟩
            · simp [Op.equalIn, run_underlying hut]
            · cases h3
      · intro w
        rcases eqN_cases h' with ⟨h1, h2⟩ | ⟨h1, h2, rfl⟩
        · rcases nzM_ok h1 hu with ⟨_, rfl⟩ | ⟨h3, _⟩
          · rcases nzM_ok h2 hv with ⟨rfl, rfl⟩ | ⟨rfl, ad, rfl⟩ <;> simp [Op.equalIn, run_underlying hut]
          · cases h3
        · rcases nzM_ok h1 hu with ⟨h3, _⟩ | ⟨_, ad, rfl⟩
          · cases h3
          · rcases nzM_ok h2 hv with ⟨_, rfl⟩ | ⟨h3, _⟩
            · simp [Op.equalIn, run_underlying hut]
            · cases h3
      · intro w
        rcases eqN_cases h' with ⟨h1, h2⟩ | ⟨h1, h2, rfl⟩
        · rcases nzF_ok h1 hu with ⟨_, rfl⟩ | ⟨h3, _⟩
          · rcases nzF_ok h2 hv with ⟨rfl, rfl⟩ | ⟨rfl, p, q, r, rfl⟩ <;> simp [Op.equalIn, run_underlying hut]
          · cases h3
        · rcases nzF_ok h1 hu with ⟨h3, _⟩ | ⟨_, p, q, r, rfl⟩
          · cases h3
          · rcases nzF_ok h2 hv with ⟨_, rfl⟩ | ⟨h3, _⟩
            · simp [Op.equalIn, run_underlying hut]
            · cases h3
      · intro w
        rcases eqN_cases h' with ⟨h1, h2⟩ | ⟨h1, h2, rfl⟩
        · rcases nzI_ok h1 hu with ⟨_, rfl⟩ | ⟨h3, _⟩
          · rcases nzI_ok h2 hv with ⟨rfl, rfl⟩ | ⟨rfl, p, q, rfl⟩ <;> simp [Op.equalIn, run_underlying hut]
          · cases h3
        · rcases nzI_ok h1 hu with ⟨h3, _⟩ | ⟨_, p, q, rfl⟩
          · cases h3
          · rcases nzI_ok h2 hv with ⟨_, rfl⟩ | ⟨h3, _⟩
            · simp [Op.equalIn, run_underlying hut]
            · cases h3
      · rename_i fs
        cases he : eqOk C t with
        | false => rw [he] at h'; cases h'
        | true =>
          rw [he, cond_true] at h'
          have hs : P.stoodInHeld t = false := by
            unfold eqOk at he
            split at he
            · rename_i I hI; exact ((hC.ty t I hI).e he).1
            · cases he
          unfold eqAgg at h'
          split at h'
          · rename_i xs hx
            split at h'
            · rename_i ys hy
              rw [V.agg?_eq hx] at hu; rw [V.agg?_eq hy] at hv
              obtain ⟨us, h1, rfl⟩ := cv_g hu
              obtain ⟨vs, h2, rfl⟩ := cv_g hv
              exact eq_struct (fs := fs.toList) (by simpa using hut) hs (eqFw_ok hC (fun t x y b u v h h1 h2 => ih t x y b u v h h1 h2) h1 h2 h')
            · cases h'
          · cases h'
      · rename_i m el
        unfold eqArr at h'
        split at h'
        · rename_i xs hx
          split at h'
          · rename_i ys hy
            split at h'
            · rename_i J hJ
              rw [V.agg?_eq hx] at hu; rw [V.agg?_eq hy] at hv
              obtain ⟨us, h1, rfl⟩ := cv_g hu
              obtain ⟨vs, h2, rfl⟩ := cv_g hv
              obtain ⟨i, z, hi, _, _, _, _, _, _, hn, _⟩ := (hC.ty el J hJ).info
              exact eq_array (c := J.n) (i := i) (is := List.range' 0 m) hut hi (by simp [Program.cellsOf, hi, hn]) (by rw [List.range_eq_range']) (eqIw_ok hC hJ (fun x y b u v h h1 h2 => ih el x y b u v h h1 h2) h1 h2 h')
            · cases h'
          · cases h'
        · cases h'
      · cases h'
end
end Go.M
end
