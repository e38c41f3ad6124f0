/- A small logic over the model's walk, continued: quiet operations in a row, in a list or in an open order. No program in sight. -/
import Derived.Test.YtlhpkogdcgebeaaZm
namespace Go.Z
open Go.RowKit

structure QS where
  l : List (Nat × Value)
  g : List (Nat × Nat × Bool × Value)
  c : List Prop
  q : List (Value × Value)
  wr : List Nat

def gk : List (Nat × Nat × Bool × Value) → Nat → Option (Nat × Bool × Value)
  | [], _ => none
  | (t, x) :: r, d => bif Nat.beq t d then some x else gk r d
def gfree : List (Nat × Nat × Bool × Value) → Nat → Bool
  | [], _ => true
  | (t, j, _) :: r, d => !(Nat.beq t d) && !(Nat.beq j d) && gfree r d
/-- an operand, under a guard or under none -/
def evg (s : QS) (gd : Option (Nat × Bool)) : Operand → Option Value
  | .tmp t => match gk s.g t with
    | some (dj, b, v) => match gd with
      | some (dj', b') => if dj' = dj then if b' = b then some v else none else none
      | none => none
    | none => lk s.l t
  | x => ev s.l x
def qput (s : QS) (d : Nat) (c : List Prop) (q : List (Value × Value)) (v : Value) : Option QS :=
  if gfree s.g d then some ⟨(d, v) :: s.l, s.g, s.c ++ c, q ++ s.q, d :: s.wr⟩ else none
/-- one side of a choice among truths, of which one stands under the choice's own guard -/
def qside (s : QS) (tc : Nat) (b : Bool) : Operand → Option Bool
  | .tmp t => match gk s.g t with
    | some (dj, b', .bool u) => if dj = tc then if b' = b then some u else none else none
    | some _ => none
    | none => if t = tc then some b else match lk s.l t with
      | some (.bool u) => some u
      | _ => none
  | x => match ev s.l x with
    | some (.bool u) => some u
    | _ => none
def qpk (s : QS) (d : Nat) : Op → Option QS
  | .pick (.tmp tc) x y => match gk s.g tc, lk s.l tc with
    | none, some (.bool cb) => match qside s tc true x, qside s tc false y with
      | some b1, some b2 => qput s d [] [] (.bool (bif cb then b1 else b2))
      | _, _ => none
    | _, _ => none
  | _ => none
def qno (P : Program) (K : Kn) (s : QS) (d : Nat) (h : Hint) (op : Op) : Option QS := match qv P K h (evg s none) op with
  | some (c, q, v) => qput s d c q v
  | none => none
def q1 (P : Program) (K : Kn) (n : Nat) (ops : Array Oper) (s : QS) (h : Hint) (o : Oper) : Option QS := match o.dst with
  | none => none
  | some d => if Nat.ble (d + 1) n then match o.guard with
    | none => match h with
      | .pk => qpk s d o.op
      | h => qno P K s d h o.op
    | some (j, b) => match (ops[j]?).bind (·.dst) with
      | none => none
      | some dj => match gk s.g dj, lk s.l dj with
        | none, some (.bool c) => match h with
          | .off => if c = !b then qput s d [] [] undef else none
          | .on .pk => if c = b then qpk s d o.op else none
          | .on h => if c = b then qno P K s d h o.op else none
          | .sy h => if d = dj then none else if gfree s.g d then match lk s.l d with
            | none => match qv P K h (evg s (some (dj, b))) o.op with
              | some (cs, q, v) => some ⟨s.l, (d, dj, b, v) :: s.g, s.c ++ cs.map (fun p => c = b → p), q ++ s.q, d :: s.wr⟩
              | none => none
            | some _ => none else none
          | _ => none
        | none, some (.tuple vs) => match h with
          | .off => if vs.toList.isEmpty then qput s d [] [] undef else none
          | _ => none
        | _, _ => none else none
def qs (P : Program) (K : Kn) (n : Nat) (ops : Array Oper) : List Hint → List Oper → QS → Option QS
  | [], _, s => some s
  | h :: hs, o :: r, s => match q1 P K n ops s h o with
    | some s' => qs P K n ops hs r s'
    | none => none
  | _ :: _, [], _ => none
def dqs (P : Program) (K : Kn) (n : Nat) (ops : Array Oper) : List (Nat × Hint) → Array Bool → QS → Option (Array Bool × QS)
  | [], li, s => some (li, s)
  | (i, h) :: r, li, s => match ops[i]? with
    | some o => if Region.free .any ops li i && (Region.ready .any ops li).contains i then match q1 P K n ops s h o with
      | some s' => dqs P K n ops r (li.setIfInBounds i true) s'
      | none => none else none
    | none => none
def qfin (l0 : List (Nat × Value)) (ks : List Nat) (s : QS) : Option (List Prop × List (Nat × Value)) :=
  if s.wr.all (fun d => ks.contains d || (lk l0 d).isNone) then some (s.c, kp s.l ks) else none
def conj : List Prop → Prop
  | [] => True
  | [p] => p
  | p :: q :: r => p ∧ conj (q :: r)
def cat : List (Nat × Value) → List (Nat × Value) → List (Nat × Value)
  | [], l => l
  | p :: r, l => p :: cat r l
theorem conj_all : ∀ {cs : List Prop}, conj cs → ∀ p, p ∈ cs → p
  | [], _, p, hp => by cases hp
  | [q], h, p, hp => by rw [List.mem_singleton] at hp; subst hp; exact h
  | q :: q' :: r, h, p, hp => by
    rcases List.mem_cons.1 hp with rfl | hp
    · exact h.1
    · exact conj_all h.2 p hp

theorem lk_cons (d e : Nat) (v : Value) (l : List (Nat × Value)) : lk ((d, v) :: l) e = if d = e then some v else lk l e := by
  by_cases h : d = e
  · subst h; rw [lk_cons_same, if_pos rfl]
  · rw [lk_cons_other _ _ h, if_neg h]
theorem gk_cons (d e : Nat) (x : Nat × Bool × Value) (l : List (Nat × Nat × Bool × Value)) : gk ((d, x) :: l) e = if d = e then some x else gk l e := by
  unfold gk
  by_cases h : d = e
  · subst h; simp
  · have : Nat.beq d e = false := by cases hb : Nat.beq d e with
      | false => rfl
      | true => exact absurd (Nat.eq_of_beq_eq_true hb) h
    simp only [this, cond_false, if_neg h]
    cases l <;> rfl
theorem gfree_spec : ∀ {g : List (Nat × Nat × Bool × Value)} {d : Nat}, gfree g d = true → gk g d = none ∧ ∀ t j b v, gk g t = some (j, b, v) → j ≠ d
  | [], d, _ => ⟨rfl, fun t j b v h => by cases h⟩
  | (t, j, x) :: r, d, h => by
    simp only [gfree, Bool.and_eq_true, Bool.not_eq_true'] at h
    obtain ⟨⟨h1, h2⟩, h3⟩ := h
    have e1 : t ≠ d := fun e => by subst e; simp at h1
    have e2 : j ≠ d := fun e => by subst e; simp at h2
    obtain ⟨i1, i2⟩ := gfree_spec h3
    refine ⟨by rw [gk_cons, if_neg e1]; exact i1, fun t' j' b v h => ?_⟩
    rw [gk_cons] at h
    split at h
    · injection h with h; injection h with h4 h5; rw [← h4]; exact e2
    · exact i2 _ _ _ _ h

structure QS.ok (s : QS) (a : Act) (n : Nat) (ds : List Deferred) : Prop where
  fr : Fr a n ds s.l
  gd : ∀ t dj b v, gk s.g t = some (dj, b, v) → lk s.l t = none ∧ ∃ c, lk s.l dj = some (.bool c) ∧ gk s.g dj = none ∧ a.tmps[t]? = some (if c = b then v else undef)
structure QS.inv (l0 : List (Nat × Value)) (s : QS) : Prop where
  out : ∀ d, d ∉ s.wr → lk s.l d = lk l0 d
  wrn : ∀ d, d ∈ s.wr → (lk s.l d).isSome = true ∨ lk l0 d = none ∨ ∃ v, lk s.l d = some v
/-- s' goes on from s -/
structure QS.le (s s' : QS) : Prop where
  c : ∀ p, p ∈ s.c → p ∈ s'.c
  q : ∀ p, p ∈ s.q → p ∈ s'.q
theorem QS.le.refl (s : QS) : QS.le s s := ⟨fun _ h => h, fun _ h => h⟩
theorem QS.le.trans {s t u : QS} (h : QS.le s t) (k : QS.le t u) : QS.le s u := ⟨fun _ hp => k.c _ (h.c _ hp), fun _ hp => k.q _ (h.q _ hp)⟩

section
variable {P : Program} {K : Kn} {n : Nat} {ds : List Deferred} {ops : Array Oper} {a : Act} {s s' : QS}

theorem evg_none (hs : s.ok a n ds) (x : Operand) (v : Value) (h : evg s none x = some v) : a.eval x = v := by
  unfold evg at h
  split at h
  · split at h
    · cases h
    · exact hs.fr.eval (x := .tmp _) h
  · exact hs.fr.eval h
theorem evg_some {dj : Nat} {b : Bool} (hs : s.ok a n ds) (hg : lk s.l dj = some (.bool b)) (x : Operand) (v : Value) (h : evg s (some (dj, b)) x = some v) : a.eval x = v := by
  unfold evg at h
  split at h
  · rename_i t
    split at h
    · rename_i dj' b' v' hgk
      by_cases e1 : dj = dj'
      · subst e1
        by_cases e2 : b = b'
        · subst e2
          simp only [if_true] at h
          injection h with h
          subst h
          obtain ⟨_, c, h1, _, h2⟩ := hs.gd _ _ _ _ hgk
          rw [hg] at h1
          injection h1 with h1; injection h1 with h1
          rw [if_pos h1.symm] at h2
          simp [Act.eval, Array.getD_eq_getD_getElem?, h2]
        · simp [e2] at h
      · simp [e1] at h
    · exact hs.fr.eval (x := .tmp _) h
  · exact hs.fr.eval h

theorem qput_ok {d : Nat} {c : List Prop} {q : List (Value × Value)} {v : Value} (hd : d < n) (hs : s.ok a n ds) (h : qput s d c q v = some s') : s'.ok (a.put (some d) v) n ds ∧ QS.le s s' ∧ (∀ p, p ∈ c → p ∈ s'.c) ∧ (∀ p, p ∈ q → p ∈ s'.q) := by
  unfold qput at h
  split at h
  · rename_i hg
    injection h with h
    subst h
    obtain ⟨g1, g2⟩ := gfree_spec hg
    refine ⟨⟨hs.fr.put hd v, fun t dj b u ht => ?_⟩, ⟨fun p hp => List.mem_append_left _ hp, fun p hp => List.mem_append_right _ hp⟩, fun p hp => List.mem_append_right _ hp, fun p hp => List.mem_append_left _ hp⟩
    obtain ⟨h1, cc, h2, h3, h4⟩ := hs.gd t dj b u ht
    have hdt : d ≠ t := fun e => by subst e; change gk s.g d = _ at ht; rw [g1] at ht; cases ht
    have hdj : d ≠ dj := fun e => g2 _ _ _ _ ht e.symm
    refine ⟨by rw [lk_cons, if_neg hdt]; exact h1, cc, by rw [lk_cons, if_neg hdj]; exact h2, h3, ?_⟩
    simp only [Act.put]
    rw [Array.getElem?_setIfInBounds_ne hdt]; exact h4
  · cases h
theorem qput_inv {d : Nat} {c : List Prop} {q : List (Value × Value)} {v : Value} {l0 : List (Nat × Value)} (hi : s.inv l0) (h : qput s d c q v = some s') : s'.inv l0 := by
  unfold qput at h
  split at h
  · injection h with h
    subst h
    refine ⟨fun e he => ?_, fun e he => ?_⟩
    · simp only [List.mem_cons, not_or] at he
      rw [lk_cons, if_neg (fun h => he.1 h.symm)]; exact hi.out e he.2
    · simp only [List.mem_cons] at he
      by_cases hde : d = e
      · left; subst hde; rw [lk_cons, if_pos rfl]; rfl
      · rw [lk_cons, if_neg hde]
        exact hi.wrn e (he.resolve_left fun h => hde h.symm)
  · cases h

theorem qside_ok {tc : Nat} {b u cb : Bool} {x : Operand} (hs : s.ok a n ds) (hg : gk s.g tc = none) (hc : lk s.l tc = some (.bool cb)) (hcb : cb = b) (h : qside s tc b x = some u) : a.eval x = .bool u := by
  unfold qside at h
  split at h
  · rename_i t
    split at h
    · rename_i dj b' u' hgk
      split at h
      · rename_i e1
        subst e1
        split at h
        · rename_i e2
          subst e2
          injection h with h; subst h
          obtain ⟨_, c, h1, _, h2⟩ := hs.gd _ _ _ _ hgk
          rw [hc] at h1
          injection h1 with h1; injection h1 with h1
          rw [if_pos (h1.symm.trans hcb)] at h2
          simp [Act.eval, Array.getD_eq_getD_getElem?, h2]
        · cases h
      · cases h
    · cases h
    · split at h
      · rename_i e1
        subst e1
        injection h with h; subst h; subst hcb
        exact hs.fr.eval (x := .tmp _) hc
      · split at h
        · rename_i hl
          injection h with h; subst h
          exact hs.fr.eval (x := .tmp _) hl
        · cases h
  · split at h
    · rename_i hl
      injection h with h; subst h
      exact hs.fr.eval hl
    · cases h

/-- what an operation does, S or not -/
def QDo (P : Program) (K : Kn) (ops : Array Oper) (a : Act) (o : Oper) (v : Value) : Prop :=
  (Region.wanted o (yielded ops a.tmps) = true ∧ ∀ w, K.ok w → (execOp a.eval o).run P w = .ok (.value v) w) ∨ (Region.wanted o (yielded ops a.tmps) = false ∧ v = undef)

theorem qpk_ok {d : Nat} {op : Op} {T : TypeId} {pos : String} {af : Array Edge} {gd : Option (Nat × Bool)} (hd : d < n) (hs : s.ok a n ds) (h : qpk s d op = some s') :
    ∃ v, s'.ok (a.put (some d) v) n ds ∧ QS.le s s' ∧ ∀ w, (execOp a.eval ⟨some d, op, T, pos, af, gd⟩).run P w = .ok (.value v) w := by
  unfold qpk at h
  split at h
  · rename_i tc x y
    split at h
    · rename_i cb hg hc
      split at h
      · rename_i b1 b2 h1 h2
        obtain ⟨k1, k2, _, _⟩ := qput_ok hd hs h
        refine ⟨_, k1, k2, fun w => ?_⟩
        have hcv : a.eval (.tmp tc) = .bool cb := hs.fr.eval (x := .tmp tc) hc
        cases cb with
        | true => exact r_pick_t hcv (qside_ok hs hg hc rfl h1)
        | false => exact r_pick_f hcv (qside_ok hs hg hc rfl h2)
      · cases h
    · cases h
  · cases h
theorem qpk_inv {d : Nat} {op : Op} {l0 : List (Nat × Value)} (hi : s.inv l0) (h : qpk s d op = some s') : s'.inv l0 := by
  unfold qpk at h
  split at h
  · split at h
    · split at h
      · exact qput_inv hi h
      · cases h
    · cases h
  · cases h
theorem qno_ok {d : Nat} {hn : Hint} {op : Op} {T : TypeId} {pos : String} {af : Array Edge} {gd : Option (Nat × Bool)} (hd : d < n) (hs : s.ok a n ds) (h : qno P K s d hn op = some s') (hc : ∀ p, p ∈ s'.c → p) (hq : ∀ p, p ∈ s'.q → p.1 = p.2) :
    ∃ v, s'.ok (a.put (some d) v) n ds ∧ QS.le s s' ∧ ∀ w, K.ok w → (execOp a.eval ⟨some d, op, T, pos, af, gd⟩).run P w = .ok (.value v) w := by
  unfold qno at h
  split at h
  · rename_i c q v hv
    obtain ⟨k1, k2, k3, k4⟩ := qput_ok hd hs h
    exact ⟨v, k1, k2, fun w hK => qv_ok (evg_none hs) hK hv (fun p hp => hc p (k3 p hp)) (fun p hp => hq p (k4 p hp))⟩
  · cases h
theorem qno_inv {d : Nat} {hn : Hint} {op : Op} {l0 : List (Nat × Value)} (hi : s.inv l0) (h : qno P K s d hn op = some s') : s'.inv l0 := by
  unfold qno at h
  split at h
  · exact qput_inv hi h
  · cases h

theorem bool_ne {c b : Bool} (h : c ≠ b) : c = !b := by cases c <;> cases b <;> first | rfl | exact absurd rfl h
theorem qsy_ok {d dj : Nat} {b c : Bool} {v u : Value} {cs : List Prop} {q : List (Value × Value)} (hd : d < n) (hs : s.ok a n ds) (hne : d ≠ dj) (hgf : gfree s.g d = true) (hln : lk s.l d = none) (hgk : gk s.g dj = none) (hlk : lk s.l dj = some (.bool c)) (hu : u = if c = b then v else undef) :
    QS.ok ⟨s.l, (d, dj, b, v) :: s.g, cs, q, d :: s.wr⟩ (a.put (some d) u) n ds := by
  obtain ⟨g1, g2⟩ := gfree_spec hgf
  refine ⟨⟨by simp [Act.put, hs.fr.size], hs.fr.defs, fun e x he => ?_⟩, fun t dj' b' u' ht => ?_⟩
  · have he : lk s.l e = some x := he
    have hde : d ≠ e := fun h => by subst h; rw [hln] at he; cases he
    simp only [Act.put]
    rw [Array.getElem?_setIfInBounds_ne hde]; exact hs.fr.get e x he
  · replace ht : gk ((d, dj, b, v) :: s.g) t = some (dj', b', u') := ht
    rw [gk_cons] at ht
    by_cases hdt : d = t
    · subst hdt
      rw [if_pos rfl] at ht
      injection ht with ht; injection ht with h1 ht; injection ht with h2 ht
      subst h1; subst h2; subst ht
      refine ⟨hln, c, hlk, ?_, ?_⟩
      · show gk ((d, dj, b, v) :: s.g) dj = none
        rw [gk_cons, if_neg hne]; exact hgk
      · simp only [Act.put]
        rw [hu, Array.getElem?_setIfInBounds_self_of_lt (by rw [hs.fr.size]; exact hd)]
    · rw [if_neg hdt] at ht
      obtain ⟨h1, cc, h2, h3, h4⟩ := hs.gd t dj' b' u' ht
      refine ⟨h1, cc, h2, ?_, ?_⟩
      · show gk ((d, dj, b, v) :: s.g) dj' = none
        rw [gk_cons, if_neg (fun h => g2 _ _ _ _ ht h.symm)]; exact h3
      · simp only [Act.put]
        rw [Array.getElem?_setIfInBounds_ne hdt]; exact h4

theorem q1_ok {h : Hint} {o : Oper} (hs : s.ok a n ds) (hr : q1 P K n ops s h o = some s') (hc : ∀ p, p ∈ s'.c → p) (hq : ∀ p, p ∈ s'.q → p.1 = p.2) :
    ∃ d v, o.dst = some d ∧ s'.ok (a.put (some d) v) n ds ∧ QS.le s s' ∧ QDo P K ops a o v := by
  obtain ⟨dst, op, T, pos, af, gd⟩ := o
  unfold q1 at hr
  split at hr
  · cases hr
  · rename_i d hdst
    have hdst : dst = some d := hdst
    subst hdst
    split at hr
    · rename_i hd
      have hd : d < n := Nat.le_of_ble_eq_true hd
      split at hr
      · rename_i hgd
        have hgd : gd = none := hgd
        subst hgd
        split at hr
        · obtain ⟨v, k1, k2, k3⟩ := qpk_ok (P := P) (T := T) (pos := pos) (af := af) (gd := none) hd hs hr
          exact ⟨d, v, rfl, k1, k2, .inl ⟨wanted_none, fun w _ => k3 w⟩⟩
        · obtain ⟨v, k1, k2, k3⟩ := qno_ok (T := T) (pos := pos) (af := af) (gd := none) hd hs hr hc hq
          exact ⟨d, v, rfl, k1, k2, .inl ⟨wanted_none, k3⟩⟩
      · rename_i j b hgd
        have hgd : gd = some (j, b) := hgd
        subst hgd
        split at hr
        · cases hr
        · rename_i dj hdj
          split at hr
          · rename_i c hgk hlk
            split at hr
            · split at hr
              · rename_i hcb
                obtain ⟨k1, k2, _, _⟩ := qput_ok hd hs hr
                exact ⟨d, undef, rfl, k1, k2, .inr ⟨wanted_off hs.fr hdj hlk (.inl (by rw [hcb])), rfl⟩⟩
              · cases hr
            · split at hr
              · rename_i hcb
                subst hcb
                obtain ⟨v, k1, k2, k3⟩ := qpk_ok (P := P) (T := T) (pos := pos) (af := af) (gd := some (j, c)) hd hs hr
                exact ⟨d, v, rfl, k1, k2, .inl ⟨wanted_on hs.fr hdj hlk, fun w _ => k3 w⟩⟩
              · cases hr
            · split at hr
              · rename_i hcb
                subst hcb
                obtain ⟨v, k1, k2, k3⟩ := qno_ok (T := T) (pos := pos) (af := af) (gd := some (j, c)) hd hs hr hc hq
                exact ⟨d, v, rfl, k1, k2, .inl ⟨wanted_on hs.fr hdj hlk, k3⟩⟩
              · cases hr
            · split at hr
              · cases hr
              · rename_i hne
                split at hr
                · rename_i hgf
                  split at hr
                  · rename_i hln
                    split at hr
                    · rename_i cs q v hv
                      injection hr with hr
                      subst hr
                      have hle : QS.le s ⟨s.l, (d, dj, b, v) :: s.g, s.c ++ cs.map (fun p => c = b → p), q ++ s.q, d :: s.wr⟩ := ⟨fun p hp => List.mem_append_left _ hp, fun p hp => List.mem_append_right _ hp⟩
                      by_cases hcb : c = b
                      · subst hcb
                        refine ⟨d, v, rfl, qsy_ok hd hs hne hgf hln hgk hlk (by rw [if_pos rfl]), hle, .inl ⟨wanted_on hs.fr hdj hlk, fun w hK => ?_⟩⟩
                        exact qv_ok (evg_some hs hlk) hK hv (fun p hp => hc (c = c → p) (List.mem_append_right _ (List.mem_map.2 ⟨p, hp, rfl⟩)) rfl) (fun p hp => hq p (List.mem_append_left _ hp))
                      · exact ⟨d, undef, rfl, qsy_ok hd hs hne hgf hln hgk hlk (by rw [if_neg hcb]), hle, .inr ⟨wanted_off hs.fr hdj hlk (.inl (congrArg Value.bool (bool_ne hcb))), rfl⟩⟩
                    · cases hr
                  · cases hr
                · cases hr
            · cases hr
          · rename_i vs hgk hlk
            split at hr
            · split at hr
              · rename_i hvs
                obtain ⟨k1, k2, _, _⟩ := qput_ok hd hs hr
                refine ⟨d, undef, rfl, k1, k2, .inr ⟨wanted_off hs.fr hdj hlk (.inr ?_), rfl⟩⟩
                have : vs = #[] := by
                  have h1 : vs.toList = [] := List.isEmpty_iff.1 hvs
                  rw [← Array.toArray_toList (xs := vs), h1]
                rw [this]; rfl
              · cases hr
            · cases hr
          · cases hr
    · cases hr

theorem q1_inv {h : Hint} {o : Oper} {l0 : List (Nat × Value)} (hi : s.inv l0) (hr : q1 P K n ops s h o = some s') : s'.inv l0 := by
  unfold q1 at hr
  split at hr
  · cases hr
  · split at hr
    · split at hr
      · split at hr
        · exact qpk_inv hi hr
        · exact qno_inv hi hr
      · split at hr
        · cases hr
        · split at hr
          · split at hr
            · split at hr
              · exact qput_inv hi hr
              · cases hr
            · split at hr
              · exact qpk_inv hi hr
              · cases hr
            · split at hr
              · exact qno_inv hi hr
              · cases hr
            · split at hr
              · cases hr
              · split at hr
                · split at hr
                  · rename_i hln
                    split at hr
                    · injection hr with hr
                      subst hr
                      refine ⟨fun e he => hi.out e (fun h => he (List.mem_cons_of_mem _ h)), fun e he => ?_⟩
                      rcases List.mem_cons.1 he with rfl | he
                      · by_cases hw : e ∈ s.wr
                        · exact hi.wrn e hw
                        · right; left; rw [← hi.out e hw]; exact hln
                      · exact hi.wrn e he
                    · cases hr
                  · cases hr
                · cases hr
            · cases hr
          · split at hr
            · split at hr
              · exact qput_inv hi hr
              · cases hr
            · cases hr
          · cases hr
    · cases hr
theorem q1_le {h : Hint} {o : Oper} (hr : q1 P K n ops s h o = some s') : QS.le s s' := by
  have hp : ∀ {d : Nat} {c : List Prop} {q : List (Value × Value)} {v : Value}, qput s d c q v = some s' → QS.le s s' := fun h => by
    unfold qput at h
    split at h
    · injection h with h; subst h; exact ⟨fun p hp => List.mem_append_left _ hp, fun p hp => List.mem_append_right _ hp⟩
    · cases h
  have hk : ∀ {d : Nat} {op : Op}, qpk s d op = some s' → QS.le s s' := fun h => by
    unfold qpk at h
    split at h
    · split at h
      · split at h
        · exact hp h
        · cases h
      · cases h
    · cases h
  have hn : ∀ {d : Nat} {g : Hint} {op : Op}, qno P K s d g op = some s' → QS.le s s' := fun h => by
    unfold qno at h
    split at h
    · exact hp h
    · cases h
  unfold q1 at hr
  split at hr
  · cases hr
  · split at hr
    · split at hr
      · split at hr
        · exact hk hr
        · exact hn hr
      · split at hr
        · cases hr
        · split at hr
          · split at hr
            · split at hr
              · exact hp hr
              · cases hr
            · split at hr
              · exact hk hr
              · cases hr
            · split at hr
              · exact hn hr
              · cases hr
            · split at hr
              · cases hr
              · split at hr
                · split at hr
                  · split at hr
                    · injection hr with hr; subst hr; exact ⟨fun p hp => List.mem_append_left _ hp, fun p hp => List.mem_append_right _ hp⟩
                    · cases hr
                  · cases hr
                · cases hr
            · cases hr
          · split at hr
            · split at hr
              · exact hp hr
              · cases hr
            · cases hr
          · cases hr
    · cases hr
theorem qs_le : ∀ {hs : List Hint} {lst : List Oper} {s : QS}, qs P K n ops hs lst s = some s' → QS.le s s'
  | [], _, s, h => by simp only [qs, Option.some.injEq] at h; subst h; exact QS.le.refl _
  | h :: hs, [], s, hr => by simp [qs] at hr
  | h :: hs, o :: r, s, hr => by
    unfold qs at hr
    split at hr
    · rename_i s1 h1; exact (q1_le h1).trans (qs_le hr)
    · cases hr
theorem dqs_le {li' : Array Bool} : ∀ {is : List (Nat × Hint)} {li : Array Bool} {s : QS}, dqs P K n ops is li s = some (li', s') → QS.le s s'
  | [], _, s, h => by simp only [dqs, Option.some.injEq, Prod.mk.injEq] at h; rw [h.2]; exact QS.le.refl _
  | (i, h) :: r, li, s, hr => by
    unfold dqs at hr
    split at hr
    · split at hr
      · split at hr
        · rename_i s1 h1; exact (q1_le h1).trans (dqs_le hr)
        · cases hr
      · cases hr
    · cases hr
end

theorem lk_cat (nl l : List (Nat × Value)) (d : Nat) : lk (cat nl l) d = (lk nl d).or (lk l d) := by
  induction nl with
  | nil => rfl
  | cons p r ih =>
    obtain ⟨e, v⟩ := p
    show lk ((e, v) :: cat r l) d = _
    rw [lk_cons, lk_cons, ih]
    split <;> rfl
theorem lk_kp_some {l : List (Nat × Value)} {ks : List Nat} {d : Nat} {v : Value} (hd : d ∈ ks) (hv : lk l d = some v) : lk (kp l ks) d = some v := by
  induction ks with
  | nil => cases hd
  | cons k r ih =>
    unfold kp
    by_cases hk : k = d
    · subst hk; rw [hv]; exact lk_cons_same _ _ _
    · have hr := ih ((List.mem_cons.1 hd).resolve_left fun h => hk h.symm)
      split
      · rw [lk_cons_other _ _ hk]; exact hr
      · exact hr
/-- what a run leaves in the slots -/
theorem qfin_fr {l0 nl : List (Nat × Value)} {ks : List Nat} {cs : List Prop} {s : QS} {a : Act} {n : Nat} {ds : List Deferred} (hok : s.ok a n ds) (hi : s.inv l0) (h : qfin l0 ks s = some (cs, nl)) : Fr a n ds (cat nl l0) ∧ s.c = cs := by
  unfold qfin at h
  split at h
  · rename_i hall
    injection h with h; injection h with h1 h2
    refine ⟨⟨hok.fr.size, hok.fr.defs, fun d v hd => ?_⟩, h1⟩
    rw [lk_cat, ← h2] at hd
    cases hk : lk (kp s.l ks) d with
    | some u => rw [hk] at hd; injection hd with hd; subst hd; exact hok.fr.get d _ (lk_kp ks d _ hk)
    | none =>
      rw [hk] at hd
      have hd : lk l0 d = some v := hd
      by_cases hw : d ∈ s.wr
      · have h3 := List.all_eq_true.1 hall d hw
        simp only [Bool.or_eq_true, List.contains_iff_mem, Option.isNone_iff_eq_none, hd] at h3
        have hks : d ∈ ks := by rcases h3 with h3 | h3; exact h3; cases h3
        rcases hi.wrn d hw with h4 | h4 | ⟨u, h4⟩
        · obtain ⟨u, hu⟩ := Option.isSome_iff_exists.1 h4
          rw [lk_kp_some hks hu] at hk; cases hk
        · rw [hd] at h4; cases h4
        · rw [lk_kp_some hks h4] at hk; cases hk
      · exact hok.fr.get d v (by rw [hi.out d hw]; exact hd)
  · cases h

section
variable {r : Option Nat} {P : Program} {K : Kn} {ops : Array Oper} {Q : Exit → Act → World → Prop} {a : Act} {w : World} {n : Nat} {ds : List Deferred}

theorem qs_walk : ∀ {hs : List Hint} {lst : List Oper} {s s' : QS} {a : Act}, qs P K n ops hs lst s = some s' → (∀ p, p ∈ s'.c → p) → (∀ p, p ∈ s'.q → p.1 = p.2) → K.ok w → s.ok a n ds → (∀ a', s'.ok a' n ds → WL r P ops Q (lst.drop hs.length) a' w) → WL r P ops Q lst a w
  | [], _, s, s', a, hq, _, _, _, hs, h => by simp only [qs, Option.some.injEq] at hq; subst hq; exact h a hs
  | g :: hs, [], s, s', a, hq, _, _, _, _, _ => by simp [qs] at hq
  | g :: hs, o :: lst, s, s', a, hq, hc, he, hK, hs0, h => by
    unfold qs at hq
    split at hq
    · rename_i s1 h1
      have hle := qs_le hq
      obtain ⟨d, v, hd, k1, k2, k3⟩ := q1_ok hs0 h1 (fun p hp => hc p (hle.c p hp)) (fun p hp => he p (hle.q p hp))
      have hrest : WL r P ops Q lst (a.put (some d) v) w := qs_walk hq hc he hK k1 h
      unfold WL wpListIn
      rcases k3 with ⟨hw, hv⟩ | ⟨hw, rfl⟩
      · rw [if_pos hw]
        refine ⟨fun _ _ => trivial, ?_⟩
        rw [semAt_run (hv w hK) (fun _ h => by cases h)]
        show wpListIn _ _ _ _ _ _ (a.put o.dst v) w
        rw [hd]; exact hrest
      · rw [if_neg (by rw [hw]; decide)]
        refine ⟨fun _ _ => trivial, ?_⟩
        rw [hd]; exact hrest
    · cases hq
theorem qs_inv {l0 : List (Nat × Value)} : ∀ {hs : List Hint} {lst : List Oper} {s s' : QS}, s.inv l0 → qs P K n ops hs lst s = some s' → s'.inv l0
  | [], _, s, s', hi, hq => by simp only [qs, Option.some.injEq] at hq; subst hq; exact hi
  | g :: hs, [], s, s', _, hq => by simp [qs] at hq
  | g :: hs, o :: lst, s, s', hi, hq => by
    unfold qs at hq
    split at hq
    · rename_i s1 h1; exact qs_inv (q1_inv hi h1) hq
    · cases hq
theorem dqs_inv {l0 : List (Nat × Value)} {li' : Array Bool} : ∀ {is : List (Nat × Hint)} {li : Array Bool} {s s' : QS}, s.inv l0 → dqs P K n ops is li s = some (li', s') → s'.inv l0
  | [], _, s, s', hi, hq => by simp only [dqs, Option.some.injEq, Prod.mk.injEq] at hq; rw [← hq.2]; exact hi
  | (i, h) :: is, li, s, s', hi, hq => by
    unfold dqs at hq
    split at hq
    · split at hq
      · split at hq
        · rename_i s1 h1; exact dqs_inv (q1_inv hi h1) hq
        · cases hq
      · cases hq
    · cases hq
variable {l : List (Nat × Value)}
def q0 (l : List (Nat × Value)) : QS := ⟨l, [], [], [], []⟩
theorem q0_ok (hf : Fr a n ds l) : (q0 l).ok a n ds := ⟨hf, fun t dj b v h => by cases h⟩
theorem q0_inv (l : List (Nat × Value)) : (q0 l).inv l := ⟨fun _ _ => rfl, fun d h => by cases h⟩

theorem map_pairs : ∀ {q : List (Value × Value)}, q.map Prod.fst = q.map Prod.snd → ∀ p, p ∈ q → p.1 = p.2
  | [], _, p, hp => by cases hp
  | x :: q, h, p, hp => by
    simp only [List.map_cons, List.cons.injEq] at h
    rcases List.mem_cons.1 hp with rfl | hp
    · exact h.1
    · exact map_pairs h.2 p hp

/-- the first operations of a list, quiet ones -/
theorem qr {lst : List Oper} (hs : List Hint) (ks : List Nat) (cs : List Prop) (nl : List (Nat × Value)) (hK : K.ok w) (hf : Fr a n ds l)
    (h : ∀ a', Fr a' n ds (cat nl l) → WL r P ops Q (lst.drop hs.length) a' w)
    (hc : conj cs := by first | exact trivial | (simp only [Go.Z.conj, Go.Z.R64]; omega) | omega)
    (hq : ((qs P K n ops hs lst (q0 l)).bind (qfin l ks)) = some (cs, nl) := by kernel_rfl)
    (he : (qs P K n ops hs lst (q0 l)).map (fun s => s.q.map Prod.fst) = (qs P K n ops hs lst (q0 l)).map (fun s => s.q.map Prod.snd) := by kernel_rfl) : WL r P ops Q lst a w := by
  cases hq1 : qs P K n ops hs lst (q0 l) with
  | none => rw [hq1] at hq; cases hq
  | some s' =>
    rw [hq1] at hq he
    have hq : qfin l ks s' = some (cs, nl) := hq
    have he : s'.q.map Prod.fst = s'.q.map Prod.snd := by injection he
    have hcs : s'.c = cs := by unfold qfin at hq; split at hq; (injection hq with hq; injection hq); cases hq
    exact qs_walk hq1 (by rw [hcs]; exact conj_all hc) (map_pairs he) hK (q0_ok hf) fun a' hok => h a' (qfin_fr hok (qs_inv (q0_inv l) hq1) hq).1
/-- a region of quiet operations -/
theorem qreg {id : Nat} {lst : List Oper} (hs : List Hint) (ks : List Nat) (cs : List Prop) (nl : List (Nat × Value)) (hK : K.ok w) (hf : Fr a n ds l)
    (h : ∀ a', Fr a' n ds (cat nl l) → Q .normal a' w)
    (hc : conj cs := by first | exact trivial | (simp only [Go.Z.conj, Go.Z.R64]; omega) | omega)
    (hl : lst.drop hs.length = [] := by kernel_rfl)
    (hq : ((qs P K n lst.toArray hs lst (q0 l)).bind (qfin l ks)) = some (cs, nl) := by kernel_rfl)
    (he : (qs P K n lst.toArray hs lst (q0 l)).map (fun s => s.q.map Prod.fst) = (qs P K n lst.toArray hs lst (q0 l)).map (fun s => s.q.map Prod.snd) := by kernel_rfl) : WP r P (Code.region id lst.toArray false) Q a w :=
  reg (qr hs ks cs nl hK hf (fun a' hf' => by rw [hl]; exact h a' hf') hc hq he)
/-- a region of quiet operations, and what stands behind it -/
theorem qseq {id : Nat} {lst : List Oper} {y : Code} (hs : List Hint) (ks : List Nat) (cs : List Prop) (nl : List (Nat × Value)) (hK : K.ok w) (hf : Fr a n ds l)
    (h : ∀ a', Fr a' n ds (cat nl l) → WP r P y Q a' w)
    (hc : conj cs := by first | exact trivial | (simp only [Go.Z.conj, Go.Z.R64]; omega) | omega)
    (hl : lst.drop hs.length = [] := by kernel_rfl)
    (hq : ((qs P K n lst.toArray hs lst (q0 l)).bind (qfin l ks)) = some (cs, nl) := by kernel_rfl)
    (he : (qs P K n lst.toArray hs lst (q0 l)).map (fun s => s.q.map Prod.fst) = (qs P K n lst.toArray hs lst (q0 l)).map (fun s => s.q.map Prod.snd) := by kernel_rfl) : WP r P (Code.seq (Code.region id lst.toArray false) y) Q a w :=
  wpIn_seq (qreg hs ks cs nl hK hf h hc hl hq he)
/-- the last operations of a list, quiet ones -/
theorem qe {lst : List Oper} (hs : List Hint) (ks : List Nat) (cs : List Prop) (nl : List (Nat × Value)) (hK : K.ok w) (hf : Fr a n ds l)
    (h : ∀ a', Fr a' n ds (cat nl l) → Q .normal a' w)
    (hc : conj cs := by first | exact trivial | (simp only [Go.Z.conj, Go.Z.R64]; omega) | omega)
    (hl : lst.drop hs.length = [] := by kernel_rfl)
    (hq : ((qs P K n ops hs lst (q0 l)).bind (qfin l ks)) = some (cs, nl) := by kernel_rfl)
    (he : (qs P K n ops hs lst (q0 l)).map (fun s => s.q.map Prod.fst) = (qs P K n ops hs lst (q0 l)).map (fun s => s.q.map Prod.snd) := by kernel_rfl) : WL r P ops Q lst a w :=
  qr hs ks cs nl hK hf (fun a' hf' => by rw [hl]; exact h a' hf') hc hq he

variable {S : World → Prop}
theorem dqs_walk {li' : Array Bool} {f : Nat} (hn : (Region.noSelect ops && noDefer ops) = true) (hQ : ∀ c a d v w, Q (.panic c) (Act.put a d v) w → Q (.panic c) a w) (hKS : ∀ w, S w → K.ok w) (hS : S w) :
    ∀ {is : List (Nat × Hint)} {li : Array Bool} {s s' : QS} {a : Act}, dqs P K n ops is li s = some (li', s') → (∀ p, p ∈ s'.c → p) → (∀ p, p ∈ s'.q → p.1 = p.2) → s.ok a n ds → (∀ a', s'.ok a' n ds → Hel r P ops Q S f li' a' w) → Hel r P ops Q S (f + is.length) li a w
  | [], _, s, s', a, hq, _, _, hs, h => by simp only [dqs, Option.some.injEq, Prod.mk.injEq] at hq; obtain ⟨h1, h2⟩ := hq; subst h1; subst h2; exact h a hs
  | (i, g) :: is, li, s, s', a, hq, hc, he, hs0, h => by
    have hn' := hn
    rw [Bool.and_eq_true] at hn
    unfold dqs at hq
    split at hq
    · rename_i o hi
      split at hq
      · rename_i hfr
        rw [Bool.and_eq_true] at hfr
        split at hq
        · rename_i s1 h1
          have hle := dqs_le hq
          obtain ⟨d, v, hd, k1, k2, k3⟩ := q1_ok hs0 h1 (fun p hp => hc p (hle.c p hp)) (fun p hp => he p (hle.q p hp))
          have hrest : Hel r P ops Q S (f + is.length) (li.setIfInBounds i true) (a.put (some d) v) w := dqs_walk hn' hQ hKS hS hq hc he k1 h
          refine Hel.first hn.2 hi hn.1 (fun c a w => hQ c a _ v w) _ li a w (Region.free_spec hi hfr.1) (by simpa using hfr.2) ?_ hS (by rw [hd]; exact hrest)
          rcases k3 with ⟨hw, hv⟩ | ⟨hw, rfl⟩
          · exact .inl ⟨hw, fun w hSw => hv w (hKS w hSw)⟩
          · exact .inr ⟨hw, rfl⟩
        · cases hq
      · cases hq
    · cases hq
/-- some operations of a region in an open order, quiet ones, are taken first -/
theorem dqr {li : Array Bool} (li' : List Bool) (f : Nat) (is : List (Nat × Hint)) (ks : List Nat) (cs : List Prop) (nl : List (Nat × Value)) (hQ : ∀ c a d v w, Q (.panic c) (Act.put a d v) w → Q (.panic c) a w) (hS : S w) (hKS : ∀ w, S w → K.ok w) (hf : Fr a n ds l)
    (h : ∀ a', Fr a' n ds (cat nl l) → Hel r P ops Q S f li'.toArray a' w)
    (hc : conj cs := by first | exact trivial | (simp only [Go.Z.conj, Go.Z.R64]; omega) | omega)
    (hn : (Region.noSelect ops && noDefer ops) = true := by kernel_rfl)
    (hq : ((dqs P K n ops is li (q0 l)).bind fun x => (qfin l ks x.2).map fun y => (x.1.toList, y)) = some (li', cs, nl) := by kernel_rfl)
    (he : (dqs P K n ops is li (q0 l)).map (fun s => s.2.q.map Prod.fst) = (dqs P K n ops is li (q0 l)).map (fun s => s.2.q.map Prod.snd) := by kernel_rfl) : Hel r P ops Q S (f + is.length) li a w := by
  cases hq1 : dqs P K n ops is li (q0 l) with
  | none => rw [hq1] at hq; cases hq
  | some x =>
    obtain ⟨li1, s'⟩ := x
    rw [hq1] at hq he
    have hq : ((qfin l ks s').map fun y => (li1.toList, y)) = some (li', cs, nl) := hq
    have he : s'.q.map Prod.fst = s'.q.map Prod.snd := by injection he
    cases hq2 : qfin l ks s' with
    | none => rw [hq2] at hq; cases hq
    | some y =>
      obtain ⟨cs1, nl1⟩ := y
      rw [hq2] at hq
      simp only [Option.map_some, Option.some.injEq, Prod.mk.injEq] at hq
      obtain ⟨h1, h2, h3⟩ := hq
      subst h1; subst h2; subst h3
      have hcs : s'.c = cs1 := by unfold qfin at hq2; split at hq2; (injection hq2 with hq2; injection hq2); cases hq2
      exact dqs_walk hn hQ hKS hS hq1 (by rw [hcs]; exact conj_all hc) (map_pairs he) (q0_ok hf) fun a' hok => by
        have := h a' (qfin_fr hok (dqs_inv (q0_inv l) hq1) hq2).1
        rwa [Array.toArray_toList] at this
end
end Go.Z
