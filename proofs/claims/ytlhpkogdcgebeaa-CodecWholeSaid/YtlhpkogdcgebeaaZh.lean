/- A small logic over the model's walk, continued: functions that defer, and deferred functions that recover. No program in sight. -/
import Derived.Test.YtlhpkogdcgebeaaZg
import Derived.Recover
namespace Go.Z
open Go.RowKit
section
variable {r : Option Nat} {P : Program} {Q : Exit → Act → World → Prop} {a : Act} {w : World} {n : Nat} {ds : List Deferred} {l : List (Nat × Value)}

theorem seqn {x y : Code} (h : ∀ Q' : Exit → Act → World → Prop, (∀ a w, WP r P y Q a w → Q' .normal a w) → (∀ e a w, e ≠ .normal → Q e a w → Q' e a w) → WP r P x Q' a w) : WP r P (Code.seq x y) Q a w := by
  refine wpIn_seq (h _ (fun _ _ h => h) (fun e a w hne hq => ?_))
  cases e <;> first | exact hq | exact absurd rfl hne

theorem enterDf {f : FuncId} {fn : Func} {c : Code} {vs : List Value} {m : Nat} {R : Ending → World → Prop} (hf : P.funcs[f]? = some fn) (hb : fn.body = some c) (hn : fn.ntmps = m) (hm : vs.length ≤ m)
    (h : ∀ a, Fr a m [] (argl vs 0) → WP none P c (bodyPostD P fn R) a w) : Calls P f vs.toArray w R := by
  refine calls_of_wp_defers hf hb (wpIn_wide.1 (h _ ?_))
  subst hn
  exact Fr.entry vs _ hm

/-- a deferred function that asks at once for the panic: what the frame below is in, what is handed back, and what it is in then -/
def Rec (u : FrameMode) (v : Value) (u' : FrameMode) : Prop :=
  (u = .returning ∧ v = .nilIface ∧ u' = .returning) ∨ (∃ older, u = .panicking ({ v, recovered := false, goexit := false } :: older) ∧ u' = .panicking ({ v, recovered := true } :: older))

theorem bodyPost_S {fn : Func} {R : Ending → World → Prop} {u' : FrameMode} {c₀ : Frame} {cs : List Frame} (e : Exit) (a : Act) (w : World) (h : bodyPost P fn R e a w) :
    bodyPostS P fn c₀ cs (fun e u2 w' => u2 = u' ∧ R e w') e a ({ c₀ with mode := u' } :: cs) w := by
  cases e with
  | normal => exact ⟨h.1, u', rfl, h.2.elim fun v hv => ⟨v, hv.1, rfl, hv.2⟩⟩
  | ret => exact ⟨h.1, u', rfl, h.2.elim fun v hv => ⟨v, hv.1, rfl, hv.2⟩⟩
  | panic c => exact ⟨h.1, u', rfl, rfl, h.2⟩
  | exit _ => exact h.elim
  | goto _ => exact h.elim
  | outgrown => exact ⟨u', rfl, h⟩

theorem enterRec {f : FuncId} {fn : Func} {c : Code} {vs : List Value} {m id d : Nat} {T : TypeId} {pos : String} {af : Array Edge} {R : Ending → World → Prop} {u u' : FrameMode} {v : Value} (hr : Rec u v u') (hf : P.funcs[f]? = some fn)
    (hb : fn.body = some (Code.seq (.region id #[⟨some d, .call { callee := .builtin .recover, args := #[], argTypes := #[] }, T, pos, af, none⟩] false) c)) (hn : fn.ntmps = m) (hm : vs.length ≤ m) (hd : Nat.ble (d + 1) m = true)
    (h : ∀ a, Fr a m [] ((d, v) :: argl vs 0) → WP none P c (bodyPost P fn R) a w) : CallsD P f vs.toArray u w fun e u2 w' => u2 = u' ∧ R e w' := by
  refine callsD_of_wpS hf hb fun c₀ cs hu => wpS_seq (wpS_region ?_)
  have hx : ∀ a' : Act, (execOp a'.eval ⟨some d, .call { callee := .builtin .recover, args := #[], argTypes := #[] }, T, pos, af, none⟩).run P w = .ok .recover w := fun a' => by
    simp [execOp, resolve, invoke, builtin]
  have hl : List.range (Array.size #[(⟨some d, .call { callee := .builtin .recover, args := #[], argTypes := #[] }, T, pos, af, none⟩ : Oper)]) = [0] := rfl
  have h0 : Fr (a := { tmps := vs.toArray ++ Array.replicate (fn.ntmps - vs.toArray.size) undef, defers := [] }) m [] (argl vs 0) := by subst hn; exact Fr.entry vs _ hm
  have hq := wpIn_wide.1 (h _ (h0.put (Nat.le_of_ble_eq_true hd) v))
  rw [hl]
  simp only [wpOpsS, List.getElem?_toArray, List.getElem?_cons_zero, Region.wanted, if_true, hx]
  rcases hr with ⟨rfl, rfl, rfl⟩ | ⟨older, rfl, rfl⟩
  · have hrec : recoverD (c₀ :: cs) = none := by simp [recoverD, hu]
    simp only [hrec, Exit.thenS]
    have hc : c₀ = { c₀ with mode := .returning } := by rw [← hu]
    refine wpS_of_wp (Code.wp_mono (fun e a w hq => ?_) hq)
    rw [hc]; exact bodyPost_S e a w hq
  · have hrec : recoverD (c₀ :: cs) = some (v, { c₀ with mode := .panicking ({ v, recovered := true } :: older) } :: cs) := by simp [recoverD, hu]
    simp only [hrec, Exit.thenS]
    exact wpS_of_wp (Code.wp_mono (fun e a w hq => bodyPost_S e a w hq) hq)

/-- the end of a function that has one call deferred: it is left by a return -/
theorem retd {f : FuncId} {fn : Func} {R : Ending → World → Prop} {RD : Ending → World → Prop} {vs : List Value} (hf : Fr a n [{ target := .fn (.func f) #[], args := vs.toArray }] l)
    (hcf : ∀ args w, (callFunc f args).run P w = .ok (.enter f args) w) (hD : CallsD P f vs.toArray .returning w fun e u2 w' => u2 = .returning ∧ RD e w')
    (h : ∀ e w', RD e w' → ∃ v, e = .returned v ∧ ∃ r, (results fn a.tmps).run P w' = .ok r w' ∧ R (.returned r) w') : bodyPostD P fn R .ret a w := by
  show Leaves P fn a.tmps R a.defers .returning w
  rw [hf.defs]
  refine leaves_cons (by simp) (by simp [invoke, hcf]) (hD.mono fun e u2 w' ⟨hu, hr⟩ => ?_)
  obtain ⟨v, rfl, r, h1, h2⟩ := h e w' hr
  subst hu
  exact ⟨r, h1, h2⟩

/-- and by a panic, which the deferred call recovers -/
theorem retp {f : FuncId} {fn : Func} {R : Ending → World → Prop} {RD : Ending → World → Prop} {vs : List Value} {v0 : Value} (hf : Fr a n [{ target := .fn (.func f) #[], args := vs.toArray }] l)
    (hcf : ∀ args w, (callFunc f args).run P w = .ok (.enter f args) w)
    (hD : CallsD P f vs.toArray (.panicking [{ v := v0, recovered := false }]) w fun e u2 w' => u2 = .panicking [{ v := v0, recovered := true }] ∧ RD e w')
    (h : ∀ e w', RD e w' → ∃ v, e = .returned v ∧ ∃ r, (results fn a.tmps).run P w' = .ok r w' ∧ R (.returned r) w') : bodyPostD P fn R (.panic [{ v := v0, recovered := false }]) a w := by
  show Leaves P fn a.tmps R a.defers (.panicking [{ v := v0, recovered := false }]) w
  rw [hf.defs]
  refine leaves_cons (by simp) (by simp [invoke, hcf]) (hD.mono fun e u2 w' ⟨hu, hr⟩ => ?_)
  obtain ⟨v, rfl, r, h1, h2⟩ := h e w' hr
  subst hu
  exact ⟨r, h1, h2⟩

/-- results: a slot, and a variable -/
theorem res_tmp_cell {fn : Func} {t p g : Nat} {ty bt : TypeId} {v u : Value} {cs : List Value} (hf : Fr a n ds l) (h : fn.results = #[.tmp t, .cell p ty]) (ht : lk l t = some v) (hp : lk l p = some (.pointer (some ⟨g, 0, none⟩)))
    (hA : ∀ w, (isAgg ty).run P w = .ok false w) (hb : Blk w g bt cs) (hv : cs[0]? = some u) : (results fn a.tmps).run P w = .ok (.tuple #[v, u]) w := by
  have h1 : a.tmps.getD t undef = v := hf.eval (x := .tmp t) ht
  have h2 : a.tmps.getD p undef = .pointer (some ⟨g, 0, none⟩) := hf.eval (x := .tmp p) hp
  have h3 : w.cell? ⟨g, 0, none⟩ = some u := (hb.cell 0).trans hv
  have h4 : (loadVar ty ⟨g, 0, none⟩).run P w = .ok u w := by
    simp [loadVar, hA, h3]
  simp only [Array.getD_eq_getD_getElem?] at h1 h2
  simp [results, h, h1, h2, asAddr, h4]
/-! ### interfaces -/
section
variable {d : Option Tmp} {T : TypeId} {pos : String} {af : Array Edge} {gd : Option (Nat × Bool)} {t ty e0 : TypeId} {x : Operand} {v : Value}
theorem r_eqif_nil {ms : Array (String × TypeId)} (ht : P.underlying t = some (.interface ms)) (hx : a.eval x = .nilIface) : (execOp a.eval ⟨d, .binOp .eql t x (.const .nilIface) ty, T, pos, af, gd⟩).run P w = .ok (.value (.bool true)) w := by
  have hy : a.eval (.const .nilIface) = .nilIface := rfl
  have h : ∀ m, (Op.equalIn (m + 1) t .nilIface .nilIface).run P w = .ok true w := fun m => by simp [Op.equalIn, run_underlying ht]
  have h2 : (Op.equal t .nilIface .nilIface).run P w = .ok true w := h 9999
  simp [execOp, hx, hy, eqGuard, binOp, h2]
theorem r_eqif_some {ms : Array (String × TypeId)} (ht : P.underlying t = some (.interface ms)) (hx : a.eval x = .iface e0 v) : (execOp a.eval ⟨d, .binOp .eql t x (.const .nilIface) ty, T, pos, af, gd⟩).run P w = .ok (.value (.bool false)) w := by
  have hy : a.eval (.const .nilIface) = .nilIface := rfl
  have h : ∀ m, (Op.equalIn (m + 1) t (.iface e0 v) .nilIface).run P w = .ok false w := fun m => by simp [Op.equalIn, run_underlying ht]
  have h2 : (Op.equal t (.iface e0 v) .nilIface).run P w = .ok false w := h 9999
  simp [execOp, hx, hy, eqGuard, binOp, h2]
end
end
end Go.Z
