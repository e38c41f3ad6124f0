/- A small logic over the model's walk: frames as lists of the slots that matter, worlds by what has not changed, and one law an operation. No program in sight. -/
import Derived.OrdersHeld
import Derived.Laws.AppendOwn
import Derived.Laws.Entries
import Derived.Tactics
import Derived.Below
import Derived.RangeFuncIn
import Derived.TacticsIn
import Derived.LoopIn
import Derived.OrdersIn
namespace Go.Z
open Go.RowKit

/-! ### frames -/
/-- the value that a list of slots gives a slot: the newest first -/
def lk : List (Nat × Value) → Nat → Option Value
  | [], _ => none
  | (e, v) :: r, d => bif Nat.beq e d then some v else lk r d

/-- an operand's value, by a list of slots -/
def ev (l : List (Nat × Value)) : Operand → Option Value
  | .tmp t => lk l t
  | .const v => some v
  | .global g => some (.pointer (some ⟨g, 0, none⟩))
  | .func f => some (.func (.func f) #[] #[])

/-- the slots that a list names hold what it says; there are n slots; these calls are deferred -/
structure Fr (a : Act) (n : Nat) (ds : List Deferred) (l : List (Nat × Value)) : Prop where
  size : a.tmps.size = n
  defs : a.defers = ds
  get : ∀ d v, lk l d = some v → a.tmps[d]? = some v

theorem lk_cons_same (l : List (Nat × Value)) (d : Nat) (v : Value) : lk ((d, v) :: l) d = some v := by simp [lk]
theorem lk_cons_other (l : List (Nat × Value)) {d e : Nat} (v : Value) (h : e ≠ d) : lk ((e, v) :: l) d = lk l d := by
  have : Nat.beq e d = false := by cases hb : Nat.beq e d with
    | false => rfl
    | true => exact absurd (Nat.eq_of_beq_eq_true hb) h
  simp [lk, this]

section
variable {a : Act} {n : Nat} {ds : List Deferred} {l : List (Nat × Value)}

theorem Fr.eval (h : Fr a n ds l) {x : Operand} {v : Value} (hx : ev l x = some v) : a.eval x = v := by
  cases x with
  | tmp t =>
    have := h.get t v hx
    simp [Act.eval, Array.getD_eq_getD_getElem?, this]
  | const u => injection hx
  | global g => injection hx
  | func f => injection hx

theorem Fr.put (h : Fr a n ds l) {d : Nat} (hd : d < n) (v : Value) : Fr (a.put (some d) v) n ds ((d, v) :: l) := by
  refine ⟨by simp [Act.put, h.size], h.defs, fun e u he => ?_⟩
  by_cases hed : d = e
  · subst hed
    rw [lk_cons_same] at he
    injection he with he
    subst he
    simp [Act.put, h.size, hd]
  · rw [lk_cons_other _ _ hed] at he
    simp only [Act.put]
    rw [Array.getElem?_setIfInBounds_ne hed]
    exact h.get e u he

theorem Fr.put_none (h : Fr a n ds l) (v : Value) : Fr (a.put none v) n ds l := h

/-- only these slots matter from here on -/
def kp (l : List (Nat × Value)) : List Nat → List (Nat × Value)
  | [] => []
  | k :: r => match lk l k with
    | some v => (k, v) :: kp l r
    | none => kp l r

theorem lk_kp (ks : List Nat) (d : Nat) (v : Value) (h : lk (kp l ks) d = some v) : lk l d = some v := by
  induction ks with
  | nil => simp [kp, lk] at h
  | cons k r ih =>
    unfold kp at h
    cases hk : lk l k with
    | none => rw [hk] at h; exact ih h
    | some u =>
      rw [hk] at h
      by_cases hkd : k = d
      · subst hkd
        rw [lk_cons_same] at h
        rw [hk]; exact h
      · exact ih (by rw [← h]; exact (lk_cons_other _ _ hkd).symm)

theorem Fr.keep (h : Fr a n ds l) (ks : List Nat) : Fr a n ds (kp l ks) := ⟨h.size, h.defs, fun d v hd => h.get d v (lk_kp ks d v hd)⟩

theorem Fr.cast {l' : List (Nat × Value)} (h : Fr a n ds l) (e : l = l') : Fr a n ds l' := e ▸ h

theorem Fr.nil (h : Fr a n ds l) : Fr a n ds [] := ⟨h.size, h.defs, fun d v hd => by simp [lk] at hd⟩

theorem Fr.cons {l' : List (Nat × Value)} {d : Nat} {v : Value} (h : Fr a n ds l) (h' : Fr a n ds l') (e : lk l d = some v) : Fr a n ds ((d, v) :: l') := by
  refine ⟨h.size, h.defs, fun d' v' hd => ?_⟩
  by_cases hk : d = d'
  · subst hk
    rw [lk_cons_same] at hd
    injection hd with hd
    subst hd
    exact h.get _ _ e
  · rw [lk_cons_other _ _ hk] at hd
    exact h'.get _ _ hd
end

/-- the frame of a call: the arguments in the first slots -/
def argl : List Value → Nat → List (Nat × Value)
  | [], _ => []
  | v :: r, k => (k, v) :: argl r (k + 1)

theorem lk_argl (vs : List Value) : ∀ (k d : Nat) (v : Value), lk (argl vs k) d = some v → k ≤ d ∧ vs[d - k]? = some v := by
  induction vs with
  | nil => intro k d v h; simp [argl, lk] at h
  | cons u r ih =>
    intro k d v h
    unfold argl at h
    by_cases hkd : k = d
    · subst hkd
      rw [lk_cons_same] at h
      injection h with h
      subst h
      simp
    · rw [lk_cons_other _ _ hkd] at h
      obtain ⟨h1, h2⟩ := ih _ _ _ h
      refine ⟨by omega, ?_⟩
      have : d - k = (d - (k + 1)) + 1 := by omega
      rw [this, List.getElem?_cons_succ]
      exact h2

theorem Fr.entry (vs : List Value) (n : Nat) (hn : vs.length ≤ n) :
    Fr { tmps := vs.toArray ++ Array.replicate (n - vs.toArray.size) undef, defers := [] } n [] (argl vs 0) := by
  refine ⟨by simp; omega, rfl, fun d v h => ?_⟩
  obtain ⟨_, h2⟩ := lk_argl vs 0 d v h
  have hd : d < vs.length := by
    rcases Nat.lt_or_ge d vs.length with h' | h'
    · exact h'
    · rw [List.getElem?_eq_none (by omega)] at h2; cases h2
  rw [Array.getElem?_append_left (by simpa using hd)]
  simpa using h2

/-! ### the walk: in a function (r = none), or in a round of a range over a function (r = some l) -/
abbrev FW (r : Option Nat) : Fence := { Fence.wide with round := r }
abbrev WP (r : Option Nat) (P : Program) (c : Code) (Q : Exit → Act → World → Prop) (a : Act) (w : World) : Prop := c.wpIn (FW r) 0 P Q a w
abbrev WL (r : Option Nat) (P : Program) (ops : Array Oper) (Q : Exit → Act → World → Prop) (l : List Oper) (a : Act) (w : World) : Prop := wpListIn (FW r) 0 P ops Q l a w

theorem callsFW {r : Option Nat} {n : Nat} {P : Program} {f : FuncId} {args : Array Value} {w : World} {R : Ending → World → Prop} (h : Calls P f args w R) : CallsIn (FW r) n P f args w R := by
  have h1 : CallsIn Fence.wide n P f args w R := callsIn_wide.2 h
  cases r with
  | none => exact h1
  | some l => exact h1

theorem semAt_run {r : Option Nat} {P : Program} {ρ : Operand → Value} {o : Oper} {x : Next} {w w' : World} (h : (execOp ρ o).run P w = .ok x w') (hx : ∀ d, x ≠ .defer d) : (o.semAt r ρ).run P w = .ok x w' := by
  cases r with
  | none => rw [Oper.semAt_none]; exact h
  | some l =>
    rw [Oper.semAt_some]
    · exact h
    · intro c hc
      unfold execOp at h
      rw [hc] at h
      simp only [Sem.run_bind] at h
      cases hr : (resolve ρ c o.type).run P w with
      | ok d w1 => rw [hr] at h; simp only [Result.andThen_ok, Sem.run_pure] at h; injection h with h _; exact hx _ h.symm
      | halt y w1 => rw [hr] at h; simp [Result.andThen] at h

section
variable {r : Option Nat} {P : Program} {ops : Array Oper} {Q : Exit → Act → World → Prop} {a : Act} {w : World} {rest : List Oper} {n : Nat} {ds : List Deferred} {l : List (Nat × Value)}

/-- a function is entered -/
theorem enter {f : FuncId} {fn : Func} {c : Code} {vs : List Value} {m : Nat} {R : Ending → World → Prop} (hf : P.funcs[f]? = some fn) (hb : fn.body = some c) (hn : fn.ntmps = m) (hm : vs.length ≤ m)
    (h : ∀ a, Fr a m [] (argl vs 0) → WP none P c (bodyPost P fn R) a w) : Calls P f vs.toArray w R := by
  refine calls_of_wp hf hb (wpIn_wide.1 (h _ ?_))
  subst hn
  exact Fr.entry vs _ hm

theorem stepw {o : Oper} {x : Next} {w' : World} (hg : o.guard = none) (hr : (execOp a.eval o).run P w = .ok x w') (hx : ∀ d, x ≠ .defer d)
    (h : ∀ K : Act → World → Prop, (∀ a w, WL r P ops Q rest a w → K a w) → o.uponIn (FW r) 0 P a K Q (.ok x w')) : WL r P ops Q (o :: rest) a w :=
  wpListIn_plain hg fun K hK => ⟨fun _ _ => trivial, by rw [semAt_run hr hx]; exact h K hK⟩

/-- an operation that gives a value in another world -/
theorem valw {d : Nat} {op : Op} {T : TypeId} {pos : String} {af : Array Edge} {v : Value} {w' : World} (hf : Fr a n ds l) (hd : Nat.ble (d + 1) n = true)
    (hr : (execOp a.eval ⟨some d, op, T, pos, af, none⟩).run P w = .ok (.value v) w')
    (h : ∀ a', Fr a' n ds ((d, v) :: l) → WL r P ops Q rest a' w') : WL r P ops Q (⟨some d, op, T, pos, af, none⟩ :: rest) a w :=
  stepw rfl hr (fun _ h => by cases h) fun _ hK => hK _ _ (h _ (hf.put (Nat.le_of_ble_eq_true hd) v))

/-- an operation that gives a value and leaves the world as it is -/
theorem val {d : Nat} {op : Op} {T : TypeId} {pos : String} {af : Array Edge} {v : Value} (hf : Fr a n ds l) (hd : Nat.ble (d + 1) n = true)
    (hr : (execOp a.eval ⟨some d, op, T, pos, af, none⟩).run P w = .ok (.value v) w)
    (h : ∀ a', Fr a' n ds ((d, v) :: l) → WL r P ops Q rest a' w) : WL r P ops Q (⟨some d, op, T, pos, af, none⟩ :: rest) a w := valw hf hd hr h

/-- a store -/
theorem skipw {op : Op} {T : TypeId} {pos : String} {af : Array Edge} {w' : World} (hf : Fr a n ds l)
    (hr : (execOp a.eval ⟨none, op, T, pos, af, none⟩).run P w = .ok .skip w')
    (h : ∀ a', Fr a' n ds l → WL r P ops Q rest a' w') : WL r P ops Q (⟨none, op, T, pos, af, none⟩ :: rest) a w :=
  stepw rfl hr (fun _ h => by cases h) fun _ hK => hK _ _ (h _ hf)

/-- a call of a function of the program -/
theorem call {d : Nat} {op : Op} {T : TypeId} {pos : String} {af : Array Edge} {f : FuncId} {args : Array Value} {R : Ending → World → Prop} (hf : Fr a n ds l) (hd : Nat.ble (d + 1) n = true)
    (hr : (execOp a.eval ⟨some d, op, T, pos, af, none⟩).run P w = .ok (.enter f args) w) (hc : Calls P f args w R)
    (h : ∀ e w', R e w' → (∃ v, e = .returned v ∧ ∀ a', Fr a' n ds ((d, v) :: l) → WL r P ops Q rest a' w') ∨ (∃ ch, e = .panicked ch ∧ Q (.panic ch) a w')) :
    WL r P ops Q (⟨some d, op, T, pos, af, none⟩ :: rest) a w :=
  stepw rfl hr (fun _ h => by cases h) fun _ hK => ⟨(fun h => by cases h), (callsFW hc).mono fun e w' he => by
    rcases h e w' he with ⟨v, rfl, h⟩ | ⟨ch, rfl, h⟩
    · exact hK _ _ (h _ (hf.put (Nat.le_of_ble_eq_true hd) v))
    · exact h⟩

/-- a call that does not panic -/
theorem call1 {d : Nat} {op : Op} {T : TypeId} {pos : String} {af : Array Edge} {f : FuncId} {args : Array Value} {R : Ending → World → Prop} (hf : Fr a n ds l) (hd : Nat.ble (d + 1) n = true)
    (hr : (execOp a.eval ⟨some d, op, T, pos, af, none⟩).run P w = .ok (.enter f args) w) (hc : Calls P f args w R)
    (h : ∀ e w', R e w' → ∃ v, e = .returned v ∧ ∀ a', Fr a' n ds ((d, v) :: l) → WL r P ops Q rest a' w') :
    WL r P ops Q (⟨some d, op, T, pos, af, none⟩ :: rest) a w := call hf hd hr hc fun e w' he => .inl (h e w' he)

/-- a call of what the library says in place of a function's body -/
theorem callrow {d : Nat} {op : Op} {T : TypeId} {pos : String} {af : Array Edge} {row : String} {args : Array Value} {R : Value → World → Prop} (hf : Fr a n ds l) (hd : Nat.ble (d + 1) n = true)
    (hr : (execOp a.eval ⟨some d, op, T, pos, af, none⟩).run P w = .ok (.row row args) w) (hc : RowsIn (FW r) 0 P row args w R)
    (h : ∀ v w', R v w' → ∀ a', Fr a' n ds ((d, v) :: l) → WL r P ops Q rest a' w') :
    WL r P ops Q (⟨some d, op, T, pos, af, none⟩ :: rest) a w :=
  stepw rfl hr (fun _ h => by cases h) fun _ hK => ⟨(fun h => by cases h), hc.mono fun v w' he => hK _ _ (h v w' he _ (hf.put (Nat.le_of_ble_eq_true hd) v))⟩

theorem defer {op : Op} {T : TypeId} {pos : String} {af : Array Edge} {dd : Deferred} (hf : Fr a n ds l)
    (hr : (execOp a.eval ⟨none, op, T, pos, af, none⟩).run P w = .ok (.defer dd) w)
    (h : ∀ a', Fr a' n (dd :: ds) l → WL none P ops Q rest a' w) : WL none P ops Q (⟨none, op, T, pos, af, none⟩ :: rest) a w :=
  wpListIn_plain rfl fun K hK => ⟨fun _ _ => trivial, by
    show Oper.uponIn _ _ _ _ _ _ _ ((Oper.semAt none a.eval _).run P w)
    rw [Oper.semAt_none, hr]
    exact hK _ _ (h _ ⟨hf.size, by rw [← hf.defs]; rfl, hf.get⟩)⟩

/-- a guarded operation that runs -/
theorem on {dst : Option Tmp} {op : Op} {T : TypeId} {pos : String} {af : Array Edge} {j dj : Nat} {b : Bool} (hf : Fr a n ds l) (hj : (ops[j]?).bind (·.dst) = some dj) (hb : lk l dj = some (.bool b))
    (h : WL r P ops Q (⟨dst, op, T, pos, af, none⟩ :: rest) a w) : WL r P ops Q (⟨dst, op, T, pos, af, some (j, b)⟩ :: rest) a w := by
  have hy : yielded ops a.tmps j = some b := by simp [yielded, hj, hf.get _ _ hb]
  unfold WL wpListIn at h ⊢
  have h1 : Region.wanted ⟨dst, op, T, pos, af, some (j, b)⟩ (yielded ops a.tmps) = true := by simp [Region.wanted, hy]
  have h2 : Region.wanted ⟨dst, op, T, pos, af, none⟩ (yielded ops a.tmps) = true := by simp [Region.wanted]
  rw [if_pos h1]
  rw [if_pos h2] at h
  exact h

/-- a guarded operation that does not run -/
theorem off {d : Nat} {op : Op} {T : TypeId} {pos : String} {af : Array Edge} {j dj : Nat} {b : Bool} {u : Value} (hf : Fr a n ds l) (hd : Nat.ble (d + 1) n = true) (hj : (ops[j]?).bind (·.dst) = some dj) (hb : lk l dj = some u)
    (hu : u = .bool (!b) ∨ u = undef)
    (h : ∀ a', Fr a' n ds ((d, undef) :: l) → WL r P ops Q rest a' w) : WL r P ops Q (⟨some d, op, T, pos, af, some (j, b)⟩ :: rest) a w := by
  have h1 : Region.wanted ⟨some d, op, T, pos, af, some (j, b)⟩ (yielded ops a.tmps) = false := by
    rcases hu with rfl | rfl <;> simp [Region.wanted, yielded, hj, hf.get _ _ hb, undef]
  unfold WL wpListIn
  rw [h1]
  exact ⟨fun _ _ => trivial, h _ (hf.put (Nat.le_of_ble_eq_true hd) undef)⟩

theorem off0 {op : Op} {T : TypeId} {pos : String} {af : Array Edge} {j dj : Nat} {b : Bool} {u : Value} (hf : Fr a n ds l) (hj : (ops[j]?).bind (·.dst) = some dj) (hb : lk l dj = some u)
    (hu : u = .bool (!b) ∨ u = undef)
    (h : ∀ a', Fr a' n ds l → WL r P ops Q rest a' w) : WL r P ops Q (⟨none, op, T, pos, af, some (j, b)⟩ :: rest) a w := by
  have h1 : Region.wanted ⟨none, op, T, pos, af, some (j, b)⟩ (yielded ops a.tmps) = false := by
    rcases hu with rfl | rfl <;> simp [Region.wanted, yielded, hj, hf.get _ _ hb, undef]
  unfold WL wpListIn
  rw [h1]
  exact ⟨fun _ _ => trivial, h _ hf⟩

theorem done (h : Q .normal a w) : WL r P ops Q [] a w := h

/-! ### code -/
theorem reg {id : Nat} {lo : List Oper} (h : WL r P lo.toArray Q lo a w) : WP r P (Code.region id lo.toArray false) Q a w := wpIn_region_lit h

theorem cond {c : Operand} {x y : Code} {b : Bool} (hf : Fr a n ds l) (hc : ev l c = some (.bool b)) (ht : b = true → WP r P x Q a w) (hn : b = false → WP r P y Q a w) : WP r P (Code.cond c x y) Q a w :=
  wpIn_cond_split (hf.eval hc) ht hn

/-- a test whose sentence is known by its proposition -/
theorem condp {c : Operand} {x y : Code} {p : Prop} [Decidable p] (hf : Fr a n ds l) (hc : ev l c = some (.bool (decide p))) (ht : p → WP r P x Q a w) (hn : ¬ p → WP r P y Q a w) : WP r P (Code.cond c x y) Q a w :=
  wpIn_cond_split (hf.eval hc) (fun h => ht (of_decide_eq_true h)) (fun h => hn (of_decide_eq_false h))

theorem condt {c : Operand} {x y : Code} (hf : Fr a n ds l) (hc : ev l c = some (.bool true)) (ht : WP r P x Q a w) : WP r P (Code.cond c x y) Q a w :=
  wpIn_cond_split (hf.eval hc) (fun _ => ht) (fun h => by cases h)

theorem condf {c : Operand} {x y : Code} (hf : Fr a n ds l) (hc : ev l c = some (.bool false)) (hn : WP r P y Q a w) : WP r P (Code.cond c x y) Q a w :=
  wpIn_cond_split (hf.eval hc) (fun h => by cases h) (fun _ => hn)

theorem skip (h : Q .normal a w) : WP r P Code.skip Q a w := wpIn_skip h
theorem exit {id : Nat} (h : Q (.exit id) a w) : WP r P (Code.exit id) Q a w := wpIn_exit h
theorem ret (h : Q .ret a w) : WP r P Code.ret Q a w := wpIn_ret h

/-- a loop: what holds at its head, by a measure that each round lowers -/
theorem loop {c : Code} (I : Nat → Act → World → Prop) (m : Nat) (h0 : I m a w)
    (round : ∀ m a w, I m a w → WP r P c (Exit.then (fun a' w' => ∃ m', m' < m ∧ I m' a' w') Q) a w) : WP r P (Code.loop c) Q a w := by
  intro b k cs hro hb hr
  have key : ∀ m a w, I m a w → ∃ e a' w', Q e a' w' ∧ ArrivesIn (Machine.fenced P (FW r)) P (lone (b.atR a (.code c :: .inLoop c :: k)) cs w) b k cs e a' w' := by
    intro m
    induction m using Nat.strongRecOn with
    | _ m ih =>
      intro a w hI
      obtain ⟨e, a₁, w₁, hq, harr⟩ := round m a w hI b (.inLoop c :: k) cs hro hb hr
      cases e with
      | normal =>
        obtain ⟨m', hlt, hI₁⟩ := hq
        obtain ⟨e₂, a₂, w₂, hq₂, harr₂⟩ := ih m' hlt a₁ w₁ hI₁
        exact ⟨e₂, a₂, w₂, hq₂, .of_steps (StepsIn.trans harr (.one (fenced_calm hb hr rfl) stepR_inLoop)) harr₂⟩
      | exit id => exact ⟨_, a₁, w₁, hq, .pass (x := .inLoop c) rfl (fun _ _ => .inl (by simp)) harr⟩
      | goto l => exact ⟨_, a₁, w₁, hq, .pass (x := .inLoop c) rfl (fun _ _ => .inl (by simp)) harr⟩
      | ret => exact ⟨_, a₁, w₁, hq, .pass (x := .inLoop c) rfl (fun _ _ => .inl (by simp)) harr⟩
      | panic ch => exact ⟨_, a₁, w₁, hq, .pass (x := .inLoop c) rfl (fun _ _ => .inl (by simp)) harr⟩
      | outgrown => exact ⟨_, a₁, w₁, hq, .pass (x := .inLoop c) rfl (fun _ _ => .inl (by simp)) harr⟩
  obtain ⟨e, a', w', hq, harr⟩ := key m a w h0
  exact ⟨e, a', w', hq, .of_steps (.one (fenced_calm hb hr rfl) stepR_loop) harr⟩

/-! ### the end of a function -/
theorem ret1 {fn : Func} {R : Ending → World → Prop} {t : Tmp} {v : Value} (hf : Fr a n [] l) (hr : fn.results = #[.tmp t]) (ht : lk l t = some v) (hR : R (.returned v) w) : bodyPost P fn R .ret a w :=
  bodyPost_ret (v := v) (by rw [results_tmp hr]; exact congrArg (fun x => Result.ok x w) (hf.eval (x := .tmp t) ht)) hf.defs hR

theorem ret2 {fn : Func} {R : Ending → World → Prop} {t u : Tmp} {v v' : Value} (hf : Fr a n [] l) (hr : fn.results = #[.tmp t, .tmp u]) (ht : lk l t = some v) (hu : lk l u = some v')
    (hR : R (.returned (.tuple #[v, v'])) w) : bodyPost P fn R .ret a w :=
  bodyPost_ret (v := .tuple #[v, v']) (by
    rw [results_tmp2 hr]
    have h1 : a.tmps.getD t undef = v := hf.eval (x := .tmp t) ht
    have h2 : a.tmps.getD u undef = v' := hf.eval (x := .tmp u) hu
    rw [h1, h2]) hf.defs hR

theorem ret3 {fn : Func} {R : Ending → World → Prop} {t u s : Tmp} {v v' v'' : Value} (hf : Fr a n [] l) (hr : fn.results = #[.tmp t, .tmp u, .tmp s]) (ht : lk l t = some v) (hu : lk l u = some v') (hs : lk l s = some v'')
    (hR : R (.returned (.tuple #[v, v', v''])) w) : bodyPost P fn R .ret a w :=
  bodyPost_ret (v := .tuple #[v, v', v'']) (by
    have h1 : a.tmps.getD t undef = v := hf.eval (x := .tmp t) ht
    have h2 : a.tmps.getD u undef = v' := hf.eval (x := .tmp u) hu
    have h3 : a.tmps.getD s undef = v'' := hf.eval (x := .tmp s) hs
    simp [results, hr, -Array.getD_eq_getD_getElem?, h1, h2, h3]) hf.defs hR

theorem ret0 {fn : Func} {R : Ending → World → Prop} (hf : Fr a n [] l) (hr : fn.results = #[]) (hR : R (.returned (.tuple #[])) w) : bodyPost P fn R .ret a w :=
  bodyPost_ret (results_none hr _ _ _) hf.defs hR

theorem end0 {fn : Func} {R : Ending → World → Prop} (hf : Fr a n [] l) (hr : fn.results = #[]) (hR : R (.returned (.tuple #[])) w) : bodyPost P fn R .normal a w :=
  bodyPost_end (results_none hr _ _ _) hf.defs hR
end
end Go.Z
