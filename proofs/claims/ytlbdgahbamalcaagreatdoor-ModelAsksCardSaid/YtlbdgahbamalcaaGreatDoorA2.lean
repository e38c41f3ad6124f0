/- The checked machine is right, fourth part: pure operations, one by one. No program in sight. * The checked machine is right, fifth part: pure operations, all. No program in sight. * The checked machine is right, sixth part: pure operations, all. No program in sight. * The checked machine is right, seventh part: memory. No program in sight. * The checked machine is right, eighth part: what is read. No program in sight. * The checked machine is right, ninth part: what is read of maps, iterators, bytes. No program in sight. * The checked machine is right, tenth part: all that is read; what is made. No program in sight. * The checked machine is right, eleventh part: what is made. No program in sight. * The checked machine is right, twelfth part: what changes memory. No program in sight. * The checked machine is right, thirteenth part: what changes maps. No program in sight. * The checked machine is right, fourteenth part: append. No program in sight. * The checked machine is right, fifteenth part: entries in place, strings' iterators, appends as operations. No program in sight. * The checked machine is right, sixteenth part: states, what a job says, single operations. No program in sight. * The checked machine is right, seventeenth part: how a function is entered and left. No program in sight. * The checked machine is right, eighteenth part: ranges over functions, rounds, code. No program in sight. * The checked machine is right, nineteenth part: loops over maps. No program in sight. * The checked machine is right, twentieth part: loops over maps, continued. No program in sight. -/
import Derived.Test.YtlbdgahbamalcaaGreatDoorA1
import Derived.Test.YtlbdgahbamalcaaGreatDoorA0
import Derived.RecoverIn
section
set_option linter.unusedVariables false
set_option linter.unusedSimpArgs false
set_option linter.unusedSectionVars false
namespace Go.M
open Go.RowKit Go.Z
/-- an operation that gives a value and leaves the world as it is -/
def Ex (P : Program) (a : Act) (w : World) (o : Op) (u : Value) : Prop := ∀ (dst : Option Tmp) (T : TypeId) (pos : String) (af : Array Edge) (gd : Option (Nat × Bool)), (execOp a.eval ⟨dst, o, T, pos, af, gd⟩).run P w = .ok (.value u) w
section
variable {P : Program} {C : Cx} {ρ : Rho} {e : Env} {n : Nat} {a : Act} {w : World}
theorem wrv_ok {k : IntKind} {m : Int} {v : V} (h : wrv k m = some v) : cv ρ v = some (.int k (k.wrap m)) := by
  injection h with h; subst h; rw [wr_eq]; exact cv_it _ _
theorem binI_ok {op : BinOp} {t ty : TypeId} {x y : Operand} {k k2 : IntKind} {p q : Int} {v : V} (hx : a.eval x = .int k p) (hy : a.eval y = .int k2 q) (h : binI op k p k2 q = some v) : ∃ u, cv ρ v = some u ∧ Ex P a w (.binOp op t x y ty) u := by
  unfold binI at h
  cases hk : decide (k = k2) with
  | false => rw [hk] at h; cases h
  | true =>
    rw [hk, cond_true] at h
    have := of_decide_eq_true hk
    subst this
    unfold qi at h
    split at h
    · exact ⟨_, wrv_ok h, fun _ _ _ _ _ => r_add hx hy⟩
    · exact ⟨_, wrv_ok h, fun _ _ _ _ _ => r_sub hx hy⟩
    · exact ⟨_, wrv_ok h, fun _ _ _ _ _ => r_mul hx hy⟩
    · injection h with h; subst h; exact ⟨_, cv_bo _, fun _ _ _ _ _ => r_lss hx hy⟩
    · injection h with h; subst h; exact ⟨_, cv_bo _, fun _ _ _ _ _ => r_leq hx hy⟩
    · injection h with h; subst h; exact ⟨_, cv_bo _, fun _ _ _ _ _ => by rw [r_gtr hx hy]⟩
    · injection h with h; subst h; exact ⟨_, cv_bo _, fun _ _ _ _ _ => by rw [r_geq hx hy]⟩
    · injection h with h; subst h; exact ⟨_, cv_bo _, fun _ _ _ _ _ => r_eql hx hy⟩
    · injection h with h; subst h; exact ⟨_, cv_bo _, fun _ _ _ _ _ => by rw [r_neq hx hy]; simp⟩
    · unfold qquo at h
      cases h0 : decide (q = 0) with
      | true => rw [h0] at h; cases h
      | false => rw [h0, cond_false] at h; exact ⟨_, wrv_ok h, fun _ _ _ _ _ => r_quo hx hy (of_decide_eq_false h0)⟩
    · unfold qrem at h
      cases h0 : decide (q = 0) with
      | true => rw [h0] at h; cases h
      | false => rw [h0, cond_false] at h; injection h with h; subst h; exact ⟨_, cv_it _ _, fun _ _ _ _ _ => r_rem hx hy (of_decide_eq_false h0)⟩
    · cases h
theorem qs_ok {op : BinOp} {t ty : TypeId} {x y : Operand} {p q : ByteArray} {v : V} (hx : a.eval x = .string p) (hy : a.eval y = .string q) (h : qs p q op = some v) : ∃ u, cv ρ v = some u ∧ Ex P a w (.binOp op t x y ty) u := by
  unfold qs at h
  split at h
  · injection h with h; subst h; exact ⟨_, cv_bo _, fun _ _ _ _ _ => r_eqs hx hy⟩
  · injection h with h; subst h; exact ⟨_, cv_bo _, fun _ _ _ _ _ => r_nes hx hy⟩
  · injection h with h; subst h; exact ⟨_, cv_bo _, fun _ _ _ _ _ => r_lss_str hx hy⟩
  · injection h with h; subst h; exact ⟨_, cv_bo _, fun _ _ _ _ _ => r_gtr_str hx hy⟩
  · cases h
theorem okEq_ok {x : V} {u : Value} (h : okEq x = true) (hu : cv ρ x = some u) : okK u = true := by
  cases x with
  | k v => rw [cv_k hu]; exact h
  | p i o => obtain ⟨_, _, rfl⟩ := cv_p hu; rfl
  | s i o n c => obtain ⟨_, _, _, rfl⟩ := cv_s hu; rfl
  | m i => obtain ⟨_, _, rfl⟩ := cv_m hu; rfl
  | f fn a b => obtain ⟨_, _, _, _, rfl⟩ := cv_f hu; rfl
  | y i => obtain ⟨_, _, rfl⟩ := cv_y hu; rfl
  | q i => obtain ⟨_, _, rfl⟩ := cv_q hu; rfl
  | w i => cases h
  | gl g o => rw [cv_gl hu]; rfl
  | g l => obtain ⟨_, _, rfl⟩ := cv_g hu; rfl
  | t l => cases h
  | i T v => obtain ⟨_, _, rfl⟩ := cv_i hu; rfl
theorem binOp_eql' {t : TypeId} {u v : Value} (hu : okK u = true) : binOp .eql t u v = (do pure (.bool (← Op.equal t u v)) : Sem Value) := by
  cases u <;> first | (cases hu; done) | (cases v <;> rfl)
theorem binOp_neq' {t : TypeId} {u v : Value} (hu : okK u = true) : binOp .neq t u v = (do pure (.bool (!(← Op.equal t u v))) : Sem Value) := by
  cases u <;> first | (cases hu; done) | (cases v <;> rfl)
/-- comparing u and v is let pass -/
theorem guard_pass {op : BinOp} {t : TypeId} {x y : Operand} {u v : Value} (h1 : ∀ a b, u = .agg a → v = .agg b → P.eqGuardType P.depth t = false) (h2 : u = .nilIface → v = .nilIface → (isC x || isC y) = true) :
    (eqGuard op t x y u v).run P w = .ok () w := by
  cases u with
  | agg a => cases v with
    | agg b => exact run_eqGuard_agg w op t x y a b (h1 a b rfl rfl)
    | _ => cases op <;> rfl
  | nilIface => cases v with
    | nilIface =>
      have := h2 rfl rfl
      cases x with
      | const c => cases op <;> rfl
      | _ => cases y with
        | const c => cases op <;> rfl
        | _ => cases this
    | _ => cases op <;> rfl
  | _ => cases op <;> rfl
theorem eq_agg_ag {d : Nat} {t : TypeId} {p q : Array Value} {b : Bool} (h : EqV P (d + 1) t (.agg p) (.agg q) b) : aggB P t = some true := by
  have h := h default
  unfold aggB
  cases hu : P.underlying t with
  | none => simp [Op.equalIn, underlying, hu, stuck] at h
  | some u => cases u <;> simp [Op.equalIn, run_underlying hu, stuck] at h ⊢
theorem eq_nilI {d : Nat} {t : TypeId} {b : Bool} (h : EqV P (d + 1) t .nilIface .nilIface b) : ∃ ms, P.underlying t = some (.interface ms) := by
  have h := h default
  cases hu : P.underlying t with
  | none => simp [Op.equalIn, underlying, hu, stuck] at h
  | some u => cases u <;> simp [Op.equalIn, run_underlying hu, stuck] at h ⊢
theorem pEq_ok (hC : OKC P C) {op : BinOp} {t ty : TypeId} {x y : Operand} {p q v : V} {u1 u2 : Value} (hp : cv ρ p = some u1) (hq : cv ρ q = some u2) (hx : a.eval x = u1) (hy : a.eval y = u2) (hk : okEq p = true) (hc : cmpOk C op t x y = true) (h : pEq C t p q op = some v) :
    ∃ u, cv ρ v = some u ∧ Ex P a w (.binOp op t x y ty) u := by
  have hk1 := okEq_ok hk hp
  have hg : isEq op = true → ∀ b, eqV C 20 t p q = some b → (eqGuard op t x y u1 u2).run P w = .ok () w := fun he b hb => by
    have hE : EqV P (19 + 1) t u1 u2 b := eqV_ok hC 20 0 t p q b _ _ hb hp hq
    unfold cmpOk at hc
    rw [he, cond_true] at hc
    split at hc
    · rename_i I hI
      have hab := (hC.ty t I hI).ag
      refine guard_pass (fun b1 b2 e1 e2 => ?_) (fun e1 e2 => ?_)
      · subst e1; subst e2
        rw [eq_agg_ag hE] at hab
        injection hab with hab
        rw [← hab, cond_true] at hc
        exact ((hC.ty t I hI).e hc).2
      · subst e1; subst e2
        obtain ⟨ms, hu⟩ := eq_nilI hE
        have hab2 : aggB P t = some false := by unfold aggB; rw [hu]
        rw [hab2] at hab
        injection hab with hab
        have hu2 := (hC.ty t I hI).u
        rw [hu] at hu2
        injection hu2 with hu2
        have hif : isIf C t = true := by unfold isIf und; rw [hI]; simp only []; rw [← hu2]
        rw [← hab, cond_false, hif, cond_true] at hc
        exact hc
    · cases hc
  unfold pEq at h
  split at h
  · split at h
    · rename_i b hb
      injection h with h; subst h
      have hE := eqV_ok hC 20 9980 t p q b _ _ hb hp hq w
      refine ⟨_, cv_bo _, fun dst T pos af gd => ?_⟩
      simp only [execOp, hx, hy, Sem.run_bind, hg rfl b hb, Result.andThen_ok, binOp_eql' hk1, show Op.equal t u1 u2 = Op.equalIn (20 + 9980) t u1 u2 from rfl, hE, Sem.run_pure]
    · cases h
  · split at h
    · rename_i b hb
      injection h with h; subst h
      have hE := eqV_ok hC 20 9980 t p q b _ _ hb hp hq w
      refine ⟨_, cv_bo _, fun dst T pos af gd => ?_⟩
      simp only [execOp, hx, hy, Sem.run_bind, hg rfl b hb, Result.andThen_ok, binOp_neq' hk1, show Op.equal t u1 u2 = Op.equalIn (20 + 9980) t u1 u2 from rfl, hE, Sem.run_pure]
    · cases h
  · cases h
theorem pBin_ok (hC : OKC P C) (hf : Fe ρ e n a) {op : BinOp} {t ty : TypeId} {x y : Operand} {v : V} (h : pBin C e op t x y = some v) : ∃ u, cv ρ v = some u ∧ Ex P a w (.binOp op t x y ty) u := by
  unfold pBin at h
  split at h
  · rename_i p hp
    split at h
    · rename_i q hq
      obtain ⟨u1, hp1, hx⟩ := opd_ok hf hp
      obtain ⟨u2, hq1, hy⟩ := opd_ok hf hq
      cases hc : cmpOk C op t x y with
      | false => rw [hc] at h; cases h
      | true =>
        rw [hc, cond_true] at h
        unfold bin at h
        split at h
        · rename_i k1 m1 h1
          split at h
          · rename_i k2 m2 h2
            rw [V.int?_eq h1] at hp1; rw [V.int?_eq h2] at hq1
            rw [cv_k hp1] at hx; rw [cv_k hq1] at hy
            exact binI_ok hx hy h
          · cases h
        · split at h
          · rename_i s1 h1
            split at h
            · rename_i s2 h2
              rw [V.str?_eq h1] at hp1; rw [V.str?_eq h2] at hq1
              rw [cv_k hp1] at hx; rw [cv_k hq1] at hy
              exact qs_ok hx hy h
            · cases h
          · cases hk : okEq p with
            | false => rw [hk] at h; cases h
            | true => rw [hk, cond_true] at h; exact pEq_ok hC hp1 hq1 hx hy hk hc h
    · cases h
  · cases h
end
end Go.M
end

section
set_option linter.unusedVariables false
set_option linter.unusedSimpArgs false
set_option linter.unusedSectionVars false
namespace Go.M
open Go.RowKit Go.Z
section
variable {P : Program} {C : Cx} {ρ : Rho} {e : Env} {n : Nat} {a : Act} {w : World}
abbrev Pk (P : Program) (ρ : Rho) (a : Act) (w : World) (o : Op) (v : V) : Prop := ∃ u, cv ρ v = some u ∧ Ex P a w o u
theorem pPick_ok (hf : Fe ρ e n a) {c x y : Operand} {v : V} (h : pPick e c x y = some v) : Pk P ρ a w (.pick c x y) v := by
  unfold pPick at h
  split at h
  · rename_i p hp
    split at h
    · rename_i b hb
      obtain ⟨u1, h1, h2⟩ := opd_ok hf hp
      rw [V.bool?_eq hb] at h1
      rw [cv_k h1] at h2
      cases b with
      | true =>
        rw [cond_true] at h
        obtain ⟨u, h3, h4⟩ := opd_ok hf h
        exact ⟨u, h3, fun _ _ _ _ _ => r_pick_t h2 h4⟩
      | false =>
        rw [cond_false] at h
        obtain ⟨u, h3, h4⟩ := opd_ok hf h
        exact ⟨u, h3, fun _ _ _ _ _ => r_pick_f h2 h4⟩
    · cases h
  · cases h
theorem pUn_ok (hf : Fe ρ e n a) {op : UnOp} {t : TypeId} {x : Operand} {v : V} (h : pUn e op x = some v) : Pk P ρ a w (.unOp op t x) v := by
  unfold pUn at h
  split at h
  · rename_i p hp
    obtain ⟨u1, h1, h2⟩ := opd_ok hf hp
    split at h
    · split at h
      · rename_i b hb
        injection h with h; subst h
        rw [V.bool?_eq hb] at h1
        rw [cv_k h1] at h2
        exact ⟨_, cv_bo _, fun _ _ _ _ _ => r_not h2⟩
      · cases h
    · split at h
      · rename_i k m hk
        rw [V.int?_eq hk] at h1
        rw [cv_k h1] at h2
        refine ⟨_, wrv_ok h, fun _ _ _ _ _ => ?_⟩
        simp [execOp, h2, Op.unary, Op.intArith]
      · cases h
    · cases h
  · cases h
theorem pExt_ok (hf : Fe ρ e n a) {x : Operand} {i : Nat} {v : V} (h : pExt e x i = some v) : Pk P ρ a w (.extract x i) v := by
  unfold pExt at h
  split at h
  · rename_i p hp
    split at h
    · rename_i vs hvs
      obtain ⟨u1, h1, h2⟩ := opd_ok hf hp
      rw [V.tup?_eq hvs] at h1
      obtain ⟨us, h3, rfl⟩ := cv_t h1
      obtain ⟨u, h4, h5⟩ := cvl_get h3 h
      exact ⟨u, h5, fun _ _ _ _ _ => r_extract h2 (by simpa using h4)⟩
    · cases h
  · cases h
theorem pNil_ok (hf : Fe ρ e n a) {x : Operand} {v : V} (h : pNil e x = some v) : Pk P ρ a w (.nilCheck x) v := by
  unfold pNil at h
  split at h
  · rename_i p hp
    obtain ⟨u1, h1, h2⟩ := opd_ok hf hp
    unfold nonNil at h
    split at h
    · injection h with h; subst h; obtain ⟨y, _, rfl⟩ := cv_p h1; exact ⟨_, h1, fun _ _ _ _ _ => r_nilCheck h2⟩
    · injection h with h; subst h; rw [cv_gl h1] at h2 h1; exact ⟨_, h1, fun _ _ _ _ _ => r_nilCheck h2⟩
    · injection h with h; subst h; obtain ⟨_, _, _, _, rfl⟩ := cv_f h1; exact ⟨_, h1, fun _ _ _ _ _ => by simp [execOp, h2]⟩
    · injection h with h; subst h; obtain ⟨_, _, rfl⟩ := cv_y h1; exact ⟨_, h1, fun _ _ _ _ _ => by simp [execOp, h2]⟩
    · cases h
  · cases h
theorem pFunc_ok (hf : Fe ρ e n a) {fn : Fn} {xs ys : Array Operand} {v : V} (h : pFunc e fn xs.toList ys.toList = some v) : Pk P ρ a w (.makeFunc fn xs ys) v := by
  unfold pFunc at h
  split at h
  · split at h
    · rename_i vs hvs
      split at h
      · rename_i us hus
        injection h with h; subst h
        obtain ⟨a1, h1, h2⟩ := opds_ok hf hvs
        obtain ⟨a2, h3, h4⟩ := opds_ok hf hus
        exact ⟨_, cv_f_mk h1 h3, fun _ _ _ _ _ => r_makeFunc (by simpa using h2) (by simpa using h4)⟩
      · cases h
    · cases h
  · cases h
theorem pConv_ok (hC : OKC P C) (hf : Fe ρ e n a) {s d : TypeId} {x : Operand} {v : V} (h : pConv C e s d x = some v) : Pk P ρ a w (.convert s d x) v := by
  unfold pConv at h
  split at h
  · rename_i p hp
    obtain ⟨u1, h1, h2⟩ := opd_ok hf hp
    split at h
    · rename_i k m hk
      rw [V.int?_eq hk] at h1
      rw [cv_k h1] at h2
      split at h
      · rename_i ds hs
        split at h
        · rename_i k2 hk2
          exact ⟨_, wrv_ok h, fun _ _ _ _ _ => r_conv (und_ok hC hs) (intK_ok hC hk2) h2⟩
        · cases h
      · cases h
    · split at h
      · rename_i b hb
        rw [V.str?_eq hb] at h1
        rw [cv_k h1] at h2
        cases hs : isStr C s && isStr C d with
        | false => rw [hs] at h; cases h
        | true =>
          rw [hs, cond_true] at h
          injection h with h; subst h
          rw [Bool.and_eq_true] at hs
          refine ⟨_, cv_str _, fun _ _ _ _ _ => ?_⟩
          simp [execOp, h2, convert, run_underlying (isStr_ok hC hs.1), run_underlying (isStr_ok hC hs.2)]
      · cases h
  · cases h
theorem offP_ok {v r : V} {k : Nat} {u : Value} (hu : cv ρ v = some u) (h : offP v k = some r) : ∃ ad, u = .pointer (some ad) ∧ cv ρ r = some (.pointer (some (ad.add k))) := by
  unfold offP at h
  split at h
  · rename_i i o hp
    injection h with h; subst h
    rw [V.ptr?_eq hp] at hu
    obtain ⟨x, hx, rfl⟩ := cv_p hu
    exact ⟨_, rfl, by rw [cv_p_mk hx, Addr.add_lit, Nat.add_assoc]⟩
  · split at h
    · rename_i i o hp
      injection h with h; subst h
      rw [V.gl?_eq hp] at hu
      rw [cv_gl hu]
      exact ⟨_, rfl, by rw [cv_gl_mk, Addr.add_lit]⟩
    · cases h
theorem pFa_ok (hC : OKC P C) (hf : Fe ρ e n a) {t : TypeId} {x : Operand} {i : Nat} {v : V} (h : pFa C e t x i = some v) : Pk P ρ a w (.fieldAddr t x i) v := by
  unfold pFa at h
  split at h
  · rename_i o J hJ
    cases h0 : Nat.beq J.n 0 with
    | true => rw [h0] at h; cases h
    | false =>
      rw [h0, cond_false] at h
      split at h
      · rename_i p hp
        obtain ⟨u1, h1, h2⟩ := opd_ok hf hp
        obtain ⟨fs, f, hu, hff, rfl, hT⟩ := fieldAt_ok hC hJ
        obtain ⟨ad, rfl, h3⟩ := offP_ok h1 h
        have hpos : ∃ m, J.n = m + 1 := by
          cases hn : J.n with
          | zero => rw [hn] at h0; cases h0
          | succ m => exact ⟨m, rfl⟩
        obtain ⟨m, hm⟩ := hpos
        exact ⟨_, h3, fun _ _ _ _ _ => r_fieldAddr' hu hff (fun w => by rw [sz_ok hC hT, hm]) h2⟩
      · cases h
  · cases h
theorem pFld_ok (hC : OKC P C) (hf : Fe ρ e n a) {t : TypeId} {x : Operand} {i : Nat} {v : V} (h : pFld C e t x i = some v) : Pk P ρ a w (.field t x i) v := by
  unfold pFld at h
  split at h
  · rename_i o J hJ
    split at h
    · rename_i p hp
      split at h
      · rename_i cs hcs
        obtain ⟨u1, h1, h2⟩ := opd_ok hf hp
        obtain ⟨fs, f, hu, hff, rfl, hT⟩ := fieldAt_ok hC hJ
        rw [V.agg?_eq hcs] at h1
        obtain ⟨vs, h3, rfl⟩ := cv_g h1
        obtain ⟨u, h4, h5, _⟩ := cut_ok hC hT h3 h
        refine ⟨u, h4, fun _ _ _ _ _ => ?_⟩
        have h6 := h5 w
        simp [execOp, Instr.field, run_underlying hu, hff, h2, asAgg, h6]
      · cases h
    · cases h
  · cases h
theorem natAt_ok (hf : Fe ρ e n a) {x : Operand} {m : Nat} (h : natAt e x = some m) : ∃ k, a.eval x = .int k (m : Int) := by
  unfold natAt at h
  split at h
  · rename_i p hp
    obtain ⟨u1, h1, h2⟩ := opd_ok hf hp
    obtain ⟨k, rfl⟩ := V.nat?_eq h
    rw [cv_k h1] at h2
    exact ⟨k, h2⟩
  · cases h
theorem pIxA_ok (hC : OKC P C) (hf : Fe ρ e n a) {t : TypeId} {x i : Operand} {v : V} (h : pIxA C e t x i = some v) : Pk P ρ a w (.indexAddr t x i) v := by
  unfold pIxA at h
  split at h
  · rename_i p hp
    split at h
    · rename_i m hm
      obtain ⟨u1, h1, h2⟩ := opd_ok hf hp
      obtain ⟨k, hk⟩ := natAt_ok hf hm
      unfold ixA at h
      split at h
      · rename_i j o l c hs
        split at h
        · rename_i J hJ
          cases hb : Nat.blt m l with
          | false => rw [hb] at h; cases h
          | true =>
            rw [hb, cond_true] at h
            injection h with h; subst h
            have hlt : m < l := Nat.le_of_ble_eq_true hb
            obtain ⟨el, hu, _, hT⟩ := sliceTi_ok hC hJ
            rw [V.sl?_eq hs] at h1
            obtain ⟨y, hy, _, rfl⟩ := cv_s h1
            refine ⟨_, cv_p_mk hy, fun _ _ _ _ _ => ?_⟩
            rw [r_indexAddr hu (sz_ok hC hT) h2 hk (by omega) (by omega), Addr.add_lit]
            simp [Nat.add_assoc]
        · cases h
      · split at h
        · rename_i l J hJ
          cases hb : Nat.blt m l with
          | false => rw [hb] at h; cases h
          | true =>
            rw [hb, cond_true] at h
            have hlt : m < l := Nat.le_of_ble_eq_true hb
            obtain ⟨el, hu, hT⟩ := arrTi_ok hC hJ
            obtain ⟨ad, rfl, h3⟩ := offP_ok h1 h
            refine ⟨_, h3, fun _ _ _ _ _ => ?_⟩
            simp [execOp, Instr.indexAt, h2, hk, asIntOf, run_underlying hu, Instr.sureAddr, hlt, sz_ok hC hT]
        · cases h
    · cases h
  · cases h
theorem pIx_ok (hC : OKC P C) (hf : Fe ρ e n a) {t : TypeId} {x i : Operand} {v : V} (h : pIx C e t x i = some v) : Pk P ρ a w (.index t x i) v := by
  unfold pIx at h
  split at h
  · rename_i p hp
    split at h
    · rename_i m hm
      obtain ⟨u1, h1, h2⟩ := opd_ok hf hp
      obtain ⟨k, hk⟩ := natAt_ok hf hm
      unfold ixV at h
      split at h
      · rename_i cs hs
        split at h
        · rename_i l J hJ
          cases hb : Nat.blt m l with
          | false => rw [hb] at h; cases h
          | true =>
            rw [hb, cond_true] at h
            have hlt : m < l := Nat.le_of_ble_eq_true hb
            obtain ⟨el, hu, hT⟩ := arrTi_ok hC hJ
            rw [V.agg?_eq hs] at h1
            obtain ⟨vs, h3, rfl⟩ := cv_g h1
            obtain ⟨u, h4, h5, _⟩ := cut_ok hC hT h3 h
            refine ⟨u, h4, fun _ _ _ _ _ => ?_⟩
            have h6 := h5 w
            simp [execOp, Instr.index, h2, hk, asIntOf, run_underlying hu, hlt, sz_ok hC hT, h6]
        · cases h
      · split at h
        · rename_i s hs
          cases hst : isStr C t with
          | false => rw [hst] at h; cases h
          | true =>
            rw [hst, cond_true] at h
            split at h
            · rename_i b hb
              injection h with h; subst h
              rw [V.str?_eq hs] at h1
              rw [cv_k h1] at h2
              have hsz : s.size = s.data.toList.length := rfl
              have hlt : m < s.size := by rw [hsz]; exact (List.getElem?_eq_some_iff.1 hb).1
              have h7 : s[m]? = some b := by
                rw [ByteArray.getElem?_lt' s m hlt]
                have h8 := (List.getElem?_eq_some_iff.1 hb).2
                rw [← h8]; rfl
              refine ⟨_, cv_it _ _, fun _ _ _ _ _ => ?_⟩
              simp [execOp, Instr.index, h2, hk, asIntOf, run_underlying (isStr_ok hC hst), h7]
            · cases h
        · cases h
    · cases h
  · cases h
/-! ### slices -/
/-- an optional bound -/
def OI (a : Act) (d m : Nat) (x : Option Operand) : Prop := (x = none ∧ m = d) ∨ ∃ y k, x = some y ∧ a.eval y = .int k (m : Int)
theorem optInt_ok (hf : Fe ρ e n a) {d m : Nat} {x : Option Operand} (h : optInt e d x = some m) : OI a d m x := by
  cases x with
  | none => injection h with h; exact .inl ⟨rfl, h.symm⟩
  | some y => obtain ⟨k, hk⟩ := natAt_ok hf (show natAt e y = some m from h); exact .inr ⟨y, k, rfl, hk⟩
theorem run_bound {k : IntKind} {m y : Nat} {code : BoundsCode} (h : m ≤ y) : (Instr.sliceBound (.int k (m : Int)) y code).run P w = .ok m w := by
  simp [Instr.sliceBound, asIntOf, h]
theorem run_bounds {isS : Bool} {len cap l h m : Nat} {lo hi mx : Option Operand} (h1 : OI a 0 l lo) (h2 : OI a len h hi) (h3 : OI a cap m mx) (h4 : mx.isSome = true → hi.isSome = true) (h5 : l ≤ h) (h6 : h ≤ m) (h7 : m ≤ cap) :
    (Instr.sliceBounds isS len cap (lo.map a.eval) (hi.map a.eval) (mx.map a.eval)).run P w = .ok (l, h, m) w := by
  rcases h3 with ⟨rfl, rfl⟩ | ⟨y3, k3, rfl, e3⟩ <;> rcases h2 with ⟨rfl, rfl⟩ | ⟨y2, k2, rfl, e2⟩ <;> rcases h1 with ⟨rfl, rfl⟩ | ⟨y1, k1, rfl, e1⟩ <;> first
    | (simp at h4; done)
    | (simp [Instr.sliceBounds, Sem.run_bind, *, run_bound h5, run_bound h6, run_bound h7]; done)
    | (simp [Instr.sliceBounds, Sem.run_bind, e1, e2, e3, run_bound h5, run_bound h6, run_bound h7]; done)
theorem optMx_ok (hf : Fe ρ e n a) {d : Nat} {x : Option Operand} {m : Option Nat} (h : optMx e x = some m) : OI a d (m.getD d) x ∧ (m = none → x = none) := by
  cases x with
  | none => injection h with h; subst h; exact ⟨.inl ⟨rfl, rfl⟩, fun _ => rfl⟩
  | some y =>
    have h' : (match natAt e y with
      | some m => some (some m)
      | none => none) = some m := h
    split at h'
    · rename_i q hq; injection h' with h'; subst h'; obtain ⟨k, hk⟩ := natAt_ok hf hq; exact ⟨.inr ⟨y, k, rfl, hk⟩, fun h => by cases h⟩
    · cases h'
theorem ite_none {α : Type} {b : Bool} {x : Option α} {v : α} (h : (bif b then none else x) = some v) : b = false ∧ x = some v := by cases b <;> first | (cases h; done) | exact ⟨rfl, h⟩
theorem ite_some {α : Type} {b : Bool} {x : Option α} {v : α} (h : (bif b then x else none) = some v) : b = true ∧ x = some v := by cases b <;> first | (cases h; done) | exact ⟨rfl, h⟩
theorem hiMx {hi mx : Option Operand} (h : (mx.isSome && hi.isNone) = false) : mx.isSome = true → hi.isSome = true := fun hm => by
  rw [hm, Bool.true_and] at h
  cases hi <;> first | (cases h; done) | rfl
theorem cutK_ok {sz lo hi m i o len k : Nat} {v : V} (h : cutK sz lo hi m i o len k = some v) : lo ≤ hi ∧ hi ≤ m ∧ m ≤ k ∧ v = .s i (if m = lo then o else o + lo * sz) (hi - lo) (.c (m - lo)) := by
  unfold cutK at h
  obtain ⟨hb, h⟩ := ite_some h
  rw [Bool.and_eq_true, Bool.and_eq_true] at hb
  injection h with h; subst h
  refine ⟨Nat.le_of_ble_eq_true hb.1.1, Nat.le_of_ble_eq_true hb.1.2, Nat.le_of_ble_eq_true hb.2, ?_⟩
  cases hm : Nat.beq m lo with
  | true => rw [if_pos (Nat.eq_of_beq_eq_true hm)]; rfl
  | false => rw [if_neg (fun e1 => by subst e1; simp at hm)]; rfl
theorem slSl_ok (hC : OKC P C) (hf : Fe ρ e n a) {t : TypeId} {x : Operand} {i o len : Nat} {c : Cap} {u1 : Value} {lo hi mx : Option Operand} {v : V} (h1 : cv ρ (.s i o len c) = some u1) (h2 : a.eval x = u1) (h : slSl C e t i o len c lo hi mx = some v) : Pk P ρ a w (.slice t x lo hi mx) v := by
  unfold slSl at h
  obtain ⟨hm0, h⟩ := ite_none h
  split at h
  · rename_i J hJ
    split at h
    · rename_i l hl
      split at h
      · rename_i hh hhh
        split at h
        · rename_i m hm
          obtain ⟨el, hu, _, hT⟩ := sliceTi_ok hC hJ
          obtain ⟨y, hy, hok, rfl⟩ := cv_s h1
          have key : ∀ (mm : Nat), OI a (capN y c) mm mx → l ≤ hh → hh ≤ mm → mm ≤ capN y c → Ex P a w (.slice t x lo hi mx) (.slice (if mm = l then some ⟨y.b, y.o + o, none⟩ else some ⟨y.b, y.o + o + l * J.n, none⟩) (hh - l) (mm - l)) := fun mm hmm g1 g2 g3 _ _ _ _ _ => by
            have hb := run_bounds (P := P) (w := w) (isS := true) (optInt_ok hf hl) (optInt_ok hf hhh) hmm (hiMx hm0) g1 g2 g3
            simp only [execOp, Instr.sliceAt, Sem.run_bind, run_underlying hu, Result.andThen_ok, h2, Instr.slice, hb, sz_ok hC hT, Sem.run_pure, Option.map_some, Addr.add_lit]
          cases c with
          | c k =>
            obtain ⟨g1, g2, g3, rfl⟩ := cutK_ok (show cutK J.n l hh (m.getD k) i o len k = some v from h)
            have := key (m.getD k) (optMx_ok hf hm).1 g1 g2 g3
            refine ⟨_, cv_s_mk hy (decide_eq_true (by omega)), fun d T p q g => ?_⟩
            have := this d T p q g
            rw [this]
            by_cases hml : m.getD k = l <;> simp [hml, capN, Nat.add_assoc]
          | u k z =>
            have hok' : z = y.s ∧ o = k * y.s ∧ k + len ≤ y.c := of_decide_eq_true hok
            cases m with
            | some m' =>
              obtain ⟨g1, g2, g3, rfl⟩ := cutK_ok (show cutK J.n l hh m' i o len len = some v from h)
              have := key m' (optMx_ok hf hm).1 g1 g2 (by show m' ≤ y.c - k; omega)
              refine ⟨_, cv_s_mk hy (decide_eq_true (by omega)), fun d T p q g => ?_⟩
              have := this d T p q g
              rw [this]
              by_cases hml : m' = l <;> simp [hml, capN, Nat.add_assoc]
            | none =>
              have h : cutU J.n l hh i o len k z = some v := h
              unfold cutU at h
              obtain ⟨hb, h⟩ := ite_some h
              rw [Bool.and_eq_true, Bool.and_eq_true, Bool.and_eq_true, Bool.or_eq_true] at hb
              injection h with h; subst h
              obtain ⟨⟨⟨b1, b2⟩, b3⟩, b4⟩ := hb
              have b1 := Nat.eq_of_beq_eq_true b1
              have b2 := Nat.le_of_ble_eq_true b2
              have b3 := Nat.le_of_ble_eq_true b3
              have hmx := (optMx_ok hf (d := y.c - k) hm).2 rfl
              have := key (y.c - k) (.inl ⟨hmx, rfl⟩) b2 (by omega) (Nat.le_refl _)
              refine ⟨_, cv_s_mk hy (decide_eq_true ⟨hok'.1, by rw [hok'.2.1, b1, hok'.1, Nat.add_mul], by omega⟩), fun d T p q g => ?_⟩
              have := this d T p q g
              rw [this]
              have hne : y.c - k = l → l = 0 := fun e1 => by
                rcases b4 with b4 | b4
                · have b4 : l < hh := Nat.le_of_ble_eq_true b4
                  omega
                · exact Nat.eq_of_beq_eq_true b4
              by_cases hml : y.c - k = l
              · have h0 := hne hml
                subst h0
                simp [capN, hml]
              · simp [hml, capN, Nat.add_assoc, Nat.sub_add_eq]
        · cases h
      · cases h
    · cases h
  · cases h
theorem slV_ok (hC : OKC P C) (hf : Fe ρ e n a) {t : TypeId} {x : Operand} {p v : V} {u1 : Value} {lo hi mx : Option Operand} (h1 : cv ρ p = some u1) (h2 : a.eval x = u1) (h : slV C e t p lo hi mx = some v) : Pk P ρ a w (.slice t x lo hi mx) v := by
  unfold slV at h
  split at h
  · rename_i i o len c hs
    rw [V.sl?_eq hs] at h1
    exact slSl_ok hC hf h1 h2 h
  · split at h
    · rename_i i o hp
      rw [V.ptr?_eq hp] at h1
      obtain ⟨y, hy, rfl⟩ := cv_p h1
      unfold slArr at h
      obtain ⟨hm0, h⟩ := ite_none h
      split at h
      · rename_i l0 J hJ
        split at h
        · rename_i l hl
          split at h
          · rename_i hh hhh
            split at h
            · rename_i m hm
              obtain ⟨el, hu, hT⟩ := arrTi_ok hC hJ
              obtain ⟨g1, g2, g3, rfl⟩ := cutK_ok h
              have hb := run_bounds (P := P) (w := w) (isS := false) (optInt_ok hf hl) (optInt_ok hf hhh) (optInt_ok hf hm) (hiMx hm0) g1 g2 g3
              refine ⟨_, cv_s_mk hy (decide_eq_true (by omega)), fun _ _ _ _ _ => ?_⟩
              simp only [execOp, Instr.sliceAt, Sem.run_bind, run_underlying hu, Result.andThen_ok, h2, Instr.sureAddr, hb, sz_ok hC hT, Sem.run_pure, Addr.add_lit]
              by_cases hml : m = l <;> simp [hml, capN, Nat.add_assoc]
            · cases h
          · cases h
        · cases h
      · cases h
    · split at h
      · rename_i s hs
        obtain ⟨hb, hq⟩ := ite_some h
        rw [Bool.and_eq_true] at hb
        have hmx : mx = none := by cases mx <;> first | rfl | cases hb.2
        subst hmx
        rw [V.str?_eq hs] at h1
        rw [cv_k h1] at h2
        clear h
        unfold slStr at hq
        split at hq
        · rename_i l hl
          split at hq
          · rename_i hh hhh
            obtain ⟨hb2, hr⟩ := ite_some hq
            rw [Bool.and_eq_true] at hb2
            injection hr with hr; subst hr
            have hbb := run_bounds (P := P) (w := w) (isS := false) (cap := s.size) (mx := none) (optInt_ok hf hl) (optInt_ok hf hhh) (.inl ⟨rfl, rfl⟩) (fun h => by cases h) (Nat.le_of_ble_eq_true hb2.1) (Nat.le_of_ble_eq_true hb2.2) (Nat.le_refl _)
            refine ⟨_, cv_str _, fun _ _ _ _ _ => ?_⟩
            have hu := isStr_ok hC hb.1
            simp only [Option.map_none] at hbb
            simp [execOp, Instr.sliceAt, run_underlying hu, h2, Instr.slice, hbb]
          · cases hq
        · cases hq
      · obtain ⟨hb, hq⟩ := ite_some h
        clear h
        rw [Bool.and_eq_true] at hb
        rw [V.nilS_eq hb.1] at h1
        rw [cv_k h1] at h2
        obtain ⟨J, he⟩ := Option.isSome_iff_exists.1 hb.2
        obtain ⟨el, hu, _, hT⟩ := sliceTi_ok hC he
        unfold slNil at hq
        obtain ⟨hm0, hq2⟩ := ite_none hq
        clear hq
        split at hq2
        · rename_i l hl
          split at hq2
          · rename_i hh hhh
            split at hq2
            · rename_i m hm
              obtain ⟨hz, hr⟩ := ite_some hq2
              injection hr with hr; subst hr
              have hz := Nat.eq_of_beq_eq_true hz
              obtain rfl : l = 0 := by omega
              obtain rfl : hh = 0 := by omega
              obtain rfl : m = 0 := by omega
              have hbb := run_bounds (P := P) (w := w) (isS := true) (optInt_ok hf hl) (optInt_ok hf hhh) (optInt_ok hf hm) (hiMx hm0) (Nat.le_refl _) (Nat.le_refl _) (Nat.le_refl _)
              refine ⟨.slice none 0 0, by unfold cv; rfl, fun _ _ _ _ _ => ?_⟩
              simp only [execOp, Instr.sliceAt, Sem.run_bind, run_underlying hu, Result.andThen_ok, h2, Instr.slice, hbb, sz_ok hC hT, Sem.run_pure]
              simp
            · cases hq2
          · cases hq2
        · cases hq2
theorem pSl_ok (hC : OKC P C) (hf : Fe ρ e n a) {t : TypeId} {x : Operand} {v : V} {lo hi mx : Option Operand} (h : pSl C e t x lo hi mx = some v) : Pk P ρ a w (.slice t x lo hi mx) v := by
  unfold pSl at h
  split at h
  · rename_i p hp
    obtain ⟨u1, h1, h2⟩ := opd_ok hf hp
    exact slV_ok hC hf h1 h2 h
  · cases h
end
end Go.M
end

section
set_option linter.unusedVariables false
set_option linter.unusedSimpArgs false
set_option linter.unusedSectionVars false
namespace Go.M
open Go.RowKit Go.Z
section
variable {P : Program} {C : Cx} {ρ : Rho} {e : Env} {n : Nat} {a : Act} {w : World}
theorem foldl_put (off : Nat) : ∀ (l : List Value) (j : Nat) (arr : Array Value), off + j + l.length ≤ arr.size →
    (l.zipIdx j).foldl (fun cs (x : Value × Nat) => cs.setIfInBounds (off + x.2) x.1) arr = (arr.toList.take (off + j) ++ l ++ arr.toList.drop (off + j + l.length)).toArray
  | [], j, arr, h => by simp
  | c :: r, j, arr, h => by
    simp only [List.length_cons] at h
    rw [List.zipIdx_cons, List.foldl_cons, foldl_put off r (j + 1) _ (by simp; omega)]
    apply Array.toList_inj.1
    simp only [Array.toList_setIfInBounds]
    have hlt : off + j < arr.toList.length := by simp; omega
    rw [show off + (j + 1) = off + j + 1 by omega, List.take_add_one, List.take_set_of_le (by omega), List.drop_set_of_lt (by omega), List.getElem?_set_self hlt]
    simp [show off + j + 1 + r.length = off + j + (r.length + 1) by omega]
theorem fillV_ok {pl : Nat → Option (Nat × Nat)} : ∀ {vs : List (Nat × V)} {us : List (Nat × Value)} {zs cs : List V} {zv : List Value}, fillV pl zs vs = some cs → cvc ρ zs = some zv → us.map (·.1) = vs.map (·.1) → cvl ρ (vs.map (·.2)) = some (us.map (·.2)) →
    ∃ cv', cvc ρ cs = some cv' ∧ Instr.fill pl zv.toArray us = some cv'.toArray
  | [], us, zs, cs, zv, h, hz, h1, h2 => by
    injection h with h; subst h
    cases us with
    | nil => exact ⟨zv, hz, rfl⟩
    | cons => cases h1
  | (i, v) :: r, us, zs, cs, zv, h, hz, h1, h2 => by
    cases us with
    | nil => cases h1
    | cons q us =>
      obtain ⟨i', u⟩ := q
      simp only [List.map_cons, List.cons.injEq] at h1
      obtain ⟨rfl, h1⟩ := h1
      obtain ⟨u', us', he, h3, h4⟩ := cvl_cons h2
      simp only [List.map_cons, List.cons.injEq] at he
      obtain ⟨rfl, rfl⟩ := he
      unfold fillV at h
      split at h
      · cases h
      · rename_i off sz hpl
        obtain ⟨hb, h⟩ := ite_some h
        rw [Bool.and_eq_true, Bool.and_eq_true, Bool.not_eq_true'] at hb
        obtain ⟨vs', h5, h6⟩ := cv_cells hb.2 h3
        have hl := Nat.eq_of_beq_eq_true hb.1.1
        have hle := Nat.le_of_ble_eq_true hb.1.2
        have hvl := cvc_len h5
        have hzl := cvc_len hz
        obtain ⟨cv', h7, h8⟩ := fillV_ok h (cvc_app (cvc_app (cvc_take off hz) h5) (cvc_drop (off + sz) hz)) h1 h4
        refine ⟨cv', h7, ?_⟩
        unfold Instr.fill
        rw [hpl, h6]
        simp only [List.size_toArray]
        rw [if_neg (by simp; omega)]
        have hf := foldl_put off vs' 0 zv.toArray (by simp; omega)
        rw [← Array.foldl_toList, Array.toList_zipIdx]
        simp only [Nat.add_zero] at hf
        rw [show (vs'.toArray.toList.zipIdx 0).foldl _ zv.toArray = _ from hf]
        rw [← h8, show off + vs'.length = off + sz by omega]
theorem zs_ok (hC : OKC P C) {t : TypeId} {I : Ti} (hI : C.ty.get t = some I) : ∃ z, (∀ w, (zeroValue t).run P w = .ok z w) ∧ cvc ρ I.z = some z.cells.toList ∧ cv ρ (zeroV I) = some z ∧ z.cells.size = I.n := by
  obtain ⟨i, z, h1, h2, h3, h4, h5, h6, _, _, h7⟩ := (hC.ty t I hI).info
  have hz : cvc ρ I.z = some z.cells.toList := by rw [h3]; exact cvc_k h4
  refine ⟨z, zero_run h1 h2, hz, ?_, h7⟩
  unfold zeroV
  cases hag : I.ag with
  | true =>
    rw [cond_true, cv_g_mk hz]
    have := h5 hag
    rw [this]; rfl
  | false =>
    rw [cond_false]
    have hp := h6 hag
    have hc : z.cells = #[z] := by cases z <;> first | rfl | cases hp
    rw [h3, hc]
    show cv ρ (.k z) = some z
    unfold cv
    rw [if_pos hp]
theorem pBuild_ok (hC : OKC P C) (hf : Fe ρ e n a) {t : TypeId} {ps : Array (Nat × Operand)} {v : V} (h : pBuild C e t ps.toList = some v) : Pk P ρ a w (.build t ps) v := by
  unfold pBuild at h
  split at h
  · rename_i I hI
    split at h
    · rename_i vs hvs
      obtain ⟨us, h1, h2, h3⟩ := parts_ok hf hvs
      obtain ⟨z, hz, hzc, _, _⟩ := zs_ok (ρ := ρ) hC hI
      have hu := (hC.ty t I hI).u
      unfold bldT at h
      split at h
      · rename_i fs hfs
        unfold bldV at h
        split at h
        · rename_i cs hcs
          injection h with h; subst h
          obtain ⟨cv', h4, h5⟩ := fillV_ok hcs hzc h1 h2
          refine ⟨_, cv_g_mk h4, fun _ _ _ _ _ => ?_⟩
          rw [hfs] at hu
          simp only [Array.toArray_toList] at h3
          simp only [execOp, Instr.build, h3, Sem.run_bind, hz w, Result.andThen_ok, run_underlying hu]
          rw [qpl_arr ((hC.ty t I hI).pl fs hfs) w]
          have h6 : Instr.fill (fun i => I.pl.toArray[i]?) z.cells us = some cv'.toArray := by simpa using h5
          simp only [Result.andThen_ok, h6, Sem.run_pure]
        · cases h
      · rename_i l el hel
        split at h
        · rename_i J hJ
          unfold bldV at h
          split at h
          · rename_i cs hcs
            injection h with h; subst h
            obtain ⟨cv', h4, h5⟩ := fillV_ok hcs hzc h1 h2
            refine ⟨_, cv_g_mk h4, fun _ _ _ _ _ => ?_⟩
            rw [hel] at hu
            simp only [Array.toArray_toList] at h3
            simp only [execOp, Instr.build, h3, Sem.run_bind, hz w, Result.andThen_ok, run_underlying hu, sz_ok hC hJ]
            have h6 : Instr.fill (fun i => some (i * J.n, J.n)) z.cells us = some cv'.toArray := by simpa using h5
            simp [h6]
          · cases h
        · cases h
      · cases h
    · cases h
  · cases h
theorem isIf_ok (hC : OKC P C) {t : TypeId} {u : TypeDesc} (h : isIf C t = false) (hu : und C t = some u) : ∀ ms, u ≠ .interface ms := fun ms e1 => by
  subst e1
  unfold isIf at h
  rw [hu] at h
  cases h
theorem pMki_ok (hC : OKC P C) (hf : Fe ρ e n a) {t : TypeId} {x : Operand} {v : V} (h : pMki C e t x = some v) : Pk P ρ a w (.makeInterface t x) v := by
  unfold pMki at h
  obtain ⟨hi, h⟩ := ite_none h
  split at h
  · rename_i u hu
    split at h
    · rename_i p hp
      injection h with h; subst h
      obtain ⟨u1, h1, h2⟩ := opd_ok hf hp
      have hn := isIf_ok hC hi hu
      refine ⟨_, cv_i_mk h1, fun _ _ _ _ _ => ?_⟩
      have hu' := und_ok hC hu
      cases u <;> first | (exact absurd rfl (hn _)) | simp [execOp, h2, Instr.makeInterface, run_underlying hu']
    · cases h
  · cases h
theorem tasNo_ok {I : Ti} {ok : Bool} {v : V} {z : Value} (hz : cv ρ (zeroV I) = some z) (h : tasNo I ok = some v) : ok = true ∧ cv ρ v = some (.tuple #[z, .bool false]) := by
  unfold tasNo at h
  obtain ⟨hb, h⟩ := ite_some h
  injection h with h; subst h
  exact ⟨hb, cv_t_mk (cvl_mk hz (cvl_mk (cv_bo false) (by unfold cvl; rfl)))⟩
theorem pTas_ok (hC : OKC P C) (hf : Fe ρ e n a) {x : Operand} {xT ty2_ : TypeId} {ok : Bool} {v : V} (h : pTas C e x ty2_ ok = some v) : Pk P ρ a w (.typeAssert x xT ty2_ ok) v := by
  unfold pTas at h
  split at h
  · rename_i I hI
    split at h
    · rename_i p hp
      obtain ⟨u1, h1, h2⟩ := opd_ok hf hp
      obtain ⟨z, hz, _, hzv, _⟩ := zs_ok (ρ := ρ) hC hI
      have hu := (hC.ty ty2_ I hI).u
      unfold tasV at h
      split at h
      · rename_i t q hq
        obtain ⟨hi, h'⟩ := ite_none h
        clear h
        have h := h'
        clear h'
        have hn := isIf_ok hC hi (show und C ty2_ = some I.u by unfold und; rw [hI])
        rw [V.if?_eq hq] at h1
        obtain ⟨uq, h3, rfl⟩ := cv_i h1
        cases ht : Nat.beq t ty2_ with
        | true =>
          rw [ht, cond_true] at h
          have := Nat.eq_of_beq_eq_true ht
          subst this
          injection h with h; subst h
          cases ok with
          | true =>
            refine ⟨_, cv_t_mk (cvl_mk h3 (cvl_mk (cv_bo true) (by unfold cvl; rfl))), fun _ _ _ _ _ => ?_⟩
            cases hIu : I.u <;> rw [hIu] at hu hn <;> first | (exact absurd rfl (hn _)) | simp [execOp, h2, Instr.typeAssert, run_underlying hu]
          | false =>
            refine ⟨_, h3, fun _ _ _ _ _ => ?_⟩
            cases hIu : I.u <;> rw [hIu] at hu hn <;> first | (exact absurd rfl (hn _)) | simp [execOp, h2, Instr.typeAssert, run_underlying hu]
        | false =>
          rw [ht, cond_false] at h
          obtain ⟨rfl, h4⟩ := tasNo_ok hzv h
          have hne : t ≠ ty2_ := fun e1 => by subst e1; simp at ht
          refine ⟨_, h4, fun _ _ _ _ _ => ?_⟩
          cases hIu : I.u <;> rw [hIu] at hu hn <;> first | (exact absurd rfl (hn _)) | simp [execOp, h2, Instr.typeAssert, run_underlying hu, hne, hz w]
      · obtain ⟨hi, h⟩ := ite_some h
        rw [isNilI_eq hi] at h1
        rw [cv_k h1] at h2
        obtain ⟨rfl, h4⟩ := tasNo_ok hzv h
        refine ⟨_, h4, fun _ _ _ _ _ => ?_⟩
        cases hIu : I.u <;> rw [hIu] at hu <;> simp [execOp, h2, Instr.typeAssert, run_underlying hu, hz w]
    · cases h
  · cases h
theorem arg1_ok {α : Type} {l : Option (List V)} {f : V → Option α} {v : α} (h : arg1 l f = some v) : ∃ x, l = some [x] ∧ f x = some v := by
  unfold arg1 at h
  split at h
  · exact ⟨_, rfl, h⟩
  · cases h
theorem arg2_ok {α : Type} {l : Option (List V)} {f : V → V → Option α} {v : α} (h : arg2 l f = some v) : ∃ x y, l = some [x, y] ∧ f x y = some v := by
  unfold arg2 at h
  split at h
  · exact ⟨_, _, rfl, h⟩
  · cases h
theorem ty1_ok {α : Type} {l : List TypeId} {f : TypeId → Option α} {v : α} (h : ty1 l f = some v) : ∃ t r, l = t :: r ∧ f t = some v := by
  unfold ty1 at h
  split at h
  · exact ⟨_, _, rfl, h⟩
  · cases h
theorem natV_ok {m : Option Nat} {v : V} (h : natV m = some v) : ∃ k, m = some k ∧ cv ρ v = some (.int .i64 (k : Int)) := by
  unfold natV at h
  split at h
  · injection h with h; subst h; exact ⟨_, rfl, cv_nt _⟩
  · cases h
/-- the arguments of a call -/
theorem args_ok (hf : Fe ρ e n a) {xs : Array Operand} {vs : List V} (h : opds e xs.toList = some vs) : ∃ us, cvl ρ vs = some us ∧ xs.map a.eval = us.toArray := by
  obtain ⟨us, h1, h2⟩ := opds_ok hf h
  exact ⟨us, h1, by simpa using h2⟩
theorem lenV_ok (hC : OKC P C) {t : TypeId} {x : V} {k : Nat} {u : Value} {ts : Array TypeId} {ty : TypeId} (hts : ts[0]? = some t) (hu : cv ρ x = some u) (h : lenV C t x = some k) : (Builtin.len_ ts ty #[u]).run P w = .ok (.int .i64 (k : Int)) w := by
  unfold lenV at h
  split at h
  · rename_i el he
    have ht := sliceEl_ok hC he
    unfold lenS at h
    split at h
    · rename_i hs
      injection h with h; subst h
      rw [V.sl?_eq hs] at hu
      obtain ⟨y, _, _, rfl⟩ := cv_s hu
      simp [Builtin.len_, hts, run_underlying ht, goInt]
    · obtain ⟨hn, h⟩ := ite_some h
      injection h with h; subst h
      rw [V.nilS_eq hn] at hu
      rw [cv_k hu]
      simp [Builtin.len_, hts, run_underlying ht, goInt]
  · cases hst : isStr C t with
    | true =>
      rw [hst, cond_true] at h
      have ht := isStr_ok hC hst
      unfold lenB at h
      split at h
      · rename_i hs
        injection h with h; subst h
        rw [V.str?_eq hs] at hu
        rw [cv_k hu]
        simp [Builtin.len_, hts, run_underlying ht, goInt]
      · cases h
    | false =>
      rw [hst, cond_false] at h
      unfold lenA at h
      split at h
      · rename_i m J hJ
        injection h with h; subst h
        obtain ⟨el, ht, _⟩ := arrTi_ok hC hJ
        simp [Builtin.len_, hts, run_underlying ht, goInt]
      · cases h
theorem cvl1 {x : V} {us : List Value} (h : cvl ρ [x] = some us) : ∃ u, us = [u] ∧ cv ρ x = some u := by
  obtain ⟨u, us', rfl, h3, h4⟩ := cvl_cons h
  rw [cvl_nil h4]
  exact ⟨u, rfl, h3⟩
theorem cvl2 {x y : V} {us : List Value} (h : cvl ρ [x, y] = some us) : ∃ u v, us = [u, v] ∧ cv ρ x = some u ∧ cv ρ y = some v := by
  obtain ⟨u, us', rfl, h3, h4⟩ := cvl_cons h
  obtain ⟨v, rfl, h5⟩ := cvl1 h4
  exact ⟨u, v, rfl, h3, h5⟩
theorem mm_ok {f : Int → Int → Int} {x y v : V} (h : mm f x y = some v) : ∃ k m k2 q, x = .k (.int k m) ∧ y = .k (.int k2 q) ∧ v = .k (.int k (f m q)) := by
  unfold mm at h
  split at h
  · rename_i k m hx
    split at h
    · rename_i k2 q hy
      injection h with h
      exact ⟨k, m, k2, q, V.int?_eq hx, V.int?_eq hy, h.symm⟩
    · cases h
  · cases h
theorem pBi_ok (hC : OKC P C) (hf : Fe ρ e n a) {xs : Array Operand} {ts : Array TypeId} {b : Builtin} {v : V} (h : pBi C e xs.toList ts.toList b = some v) : Pk P ρ a w (.call { callee := .builtin b, args := xs, argTypes := ts }) v := by
  unfold pBi at h
  split at h
  · obtain ⟨x, hx, h⟩ := arg1_ok h
    obtain ⟨t, tr, ht, h⟩ := ty1_ok h
    obtain ⟨us, h1, h2⟩ := args_ok hf hx
    obtain ⟨u, rfl, h3⟩ := cvl1 h1
    obtain ⟨k, hk, h4⟩ := natV_ok (ρ := ρ) h
    have hts : ts[0]? = some t := by rw [← Array.getElem?_toList, ht]; rfl
    refine ⟨_, h4, fun _ T _ _ _ => ?_⟩
    have := lenV_ok (w := w) (ty := T) hC hts h3 hk
    simp only [execOp, resolve, h2, Sem.run_bind, Sem.run_pure, Result.andThen_ok, invoke, builtin, this]
  · obtain ⟨x, y, hx, h⟩ := arg2_ok h
    obtain ⟨us, h1, h2⟩ := args_ok hf hx
    obtain ⟨u1, u2, rfl, h3, h4⟩ := cvl2 h1
    obtain ⟨k, m, k2, q, rfl, rfl, rfl⟩ := mm_ok h
    rw [cv_k h3, cv_k h4] at h2
    refine ⟨_, cv_it _ _, fun _ T _ _ _ => ?_⟩
    have e1 : (if q < m then q else m) = imin m q := by unfold imin; by_cases hq : q < m <;> simp [hq]
    simp [execOp, resolve, h2, invoke, builtin, Builtin.min_, Builtin.min2, e1]
  · obtain ⟨x, y, hx, h⟩ := arg2_ok h
    obtain ⟨us, h1, h2⟩ := args_ok hf hx
    obtain ⟨u1, u2, rfl, h3, h4⟩ := cvl2 h1
    obtain ⟨k, m, k2, q, rfl, rfl, rfl⟩ := mm_ok h
    rw [cv_k h3, cv_k h4] at h2
    refine ⟨_, cv_it _ _, fun _ T _ _ _ => ?_⟩
    have e1 : (if m < q then q else m) = imax m q := by unfold imax; by_cases hq : m < q <;> simp [hq]
    simp [execOp, resolve, h2, invoke, builtin, Builtin.max_, Builtin.max2, e1]
  · cases h
theorem pure1_ok (hC : OKC P C) (hf : Fe ρ e n a) {o : Op} {v : V} (h : pure1 C e o = some v) : Pk P ρ a w o v := by
  unfold pure1 at h
  split at h
  · obtain ⟨u, h1, h2⟩ := opd_ok hf h; exact ⟨u, h1, fun _ _ _ _ _ => r_move h2⟩
  · obtain ⟨u, h1, h2⟩ := opd_ok hf h; exact ⟨u, h1, fun _ _ _ _ _ => r_assign h2⟩
  · exact pPick_ok hf h
  · exact pBin_ok hC hf h
  · exact pUn_ok hf h
  · exact pExt_ok hf h
  · exact pNil_ok hf h
  · exact pFunc_ok hf h
  · exact pConv_ok hC hf h
  · exact pFa_ok hC hf h
  · exact pFld_ok hC hf h
  · exact pIxA_ok hC hf h
  · exact pIx_ok hC hf h
  · exact pSl_ok hC hf h
  · exact pBuild_ok hC hf h
  · exact pMki_ok hC hf h
  · exact pTas_ok hC hf h
  · rename_i c
    unfold pCall at h
    split at h
    · rename_i b hb
      obtain ⟨cal, xs, ts⟩ := c
      subst hb
      exact pBi_ok hC hf h
    · cases h
  · cases h
end
end Go.M
end

section
set_option linter.unusedVariables false
set_option linter.unusedSimpArgs false
set_option linter.unusedSectionVars false
namespace Go.M
open Go.RowKit Go.Z
/-- entries of a map -/
def cvp (ρ : Rho) : List (V × V) → Option (List (Value × Value))
  | [] => some []
  | (k, v) :: r => match cv ρ k, cv ρ v, cvp ρ r with
    | some a, some b, some l => some ((a, b) :: l)
    | _, _, _ => none
theorem cvp_cons {ρ : Rho} {k v : V} {r : List (V × V)} {l : List (Value × Value)} (h : cvp ρ ((k, v) :: r) = some l) : ∃ a b m, l = (a, b) :: m ∧ cv ρ k = some a ∧ cv ρ v = some b ∧ cvp ρ r = some m := by
  unfold cvp at h
  split at h
  · rename_i a b m h1 h2 h3; injection h with h; exact ⟨a, b, m, h.symm, h1, h2, h3⟩
  · cases h
theorem cvp_nil {ρ : Rho} {l : List (Value × Value)} (h : cvp ρ [] = some l) : l = [] := by unfold cvp at h; injection h with h; exact h.symm
theorem cvp_mk {ρ : Rho} {k v : V} {r : List (V × V)} {a b : Value} {m : List (Value × Value)} (h1 : cv ρ k = some a) (h2 : cv ρ v = some b) (h3 : cvp ρ r = some m) : cvp ρ ((k, v) :: r) = some ((a, b) :: m) := by unfold cvp; rw [h1, h2, h3]
theorem cvp_mono {ρ ρ' : Rho} (h : Le ρ ρ') : ∀ {x : List (V × V)} {l : List (Value × Value)}, cvp ρ x = some l → cvp ρ' x = some l
  | [], l, hl => by rw [cvp_nil hl]; unfold cvp; rfl
  | (k, v) :: r, l, hl => by obtain ⟨a, b, m, rfl, h1, h2, h3⟩ := cvp_cons hl; exact cvp_mk (cv_mono h _ _ h1) (cv_mono h _ _ h2) (cvp_mono h h3)
theorem cvp_app {ρ : Rho} : ∀ {x y : List (V × V)} {l m : List (Value × Value)}, cvp ρ x = some l → cvp ρ y = some m → cvp ρ (x ++ y) = some (l ++ m)
  | [], y, l, m, h, k => by rw [cvp_nil h]; exact k
  | (p, q) :: r, y, l, m, h, k => by obtain ⟨a, b, c, rfl, h1, h2, h3⟩ := cvp_cons h; exact cvp_mk h1 h2 (cvp_app h3 k)
theorem cvp_len {ρ : Rho} : ∀ {x : List (V × V)} {l : List (Value × Value)}, cvp ρ x = some l → l.length = x.length
  | [], l, h => by rw [cvp_nil h]; rfl
  | (k, v) :: r, l, h => by obtain ⟨a, b, m, rfl, _, _, h3⟩ := cvp_cons h; simp [cvp_len h3]
/-- what stands at an object's block -/
def OR (P : Program) (ρ : Rho) (w : World) (x : Pl) : O → Prop
  | .c T xs => ∃ vs arr, cvc ρ xs = some vs ∧ w.heap[x.b]? = some (.cells arr T (0, 0)) ∧ (∀ k v, vs[k]? = some v → arr[x.o + k]? = some v) ∧ szB P T = some x.s ∧ x.o + x.c * x.s = arr.size
  | .m es clk pend => ∃ ks arr, cvp ρ es = some ks ∧ w.heap[x.b]? = some (.map arr clk) ∧ ks.Perm (arr.toList.map fun e => (e.key, e.val)) ∧ (arr.toList.map (·.born)).Nodup ∧ (∀ e ∈ arr.toList, e.born < clk) ∧
      (∀ j p, pend = some (j, p) → ∃ y A ent B ka kb, ρ j = some y ∧ arr.toList = A ++ ent :: B ∧ ent.born = y.b ∧ ks = ka ++ (ent.key, ent.val) :: kb ∧ ka.length = p ∧ (ka ++ kb).Perm ((A ++ B).map fun e => (e.key, e.val)))
  | .q m clk p => ∃ y since seen, ρ m = some y ∧ y.b < w.heap.size ∧ w.heap[x.b]? = some (.mapIter (some y.b) since seen clk) ∧ (p = .fresh → since = clk ∧ seen = #[]) ∧
      (∀ k al, p = .cur k al → ∃ st kv, seen.back? = some st ∧ cv ρ k = some kv ∧ ∀ arr c2, w.heap[y.b]? = some (.map arr c2) → clk ≤ c2 ∧ (c2 = clk → (∀ e ∈ arr.toList, e.key = kv → e.born = st) ∧ (al = true → ∀ e ∈ arr.toList, e.born ∈ seen.toList)))
  | .qn => ∃ s t c, w.heap[x.b]? = some (.mapIter none s t c)
  | .st b pos => w.heap[x.b]? = some (.stringIter b pos)
  | .lp env ps asg body st pend => ∃ lp n, w.heap[x.b]? = some (.loop lp) ∧ lp.state = (if st = true then (if pend.isNone = true then .busy else .done) else .ready) ∧ lp.pending = pend ∧ lp.params = ps.toArray ∧ lp.assign = asg ∧ lp.body = body ∧
      Fe ρ env n ⟨lp.tmps, []⟩ ∧ okD n asg = true ∧ okD n body = true ∧ ∀ d ∈ ps, d < n
  | .df => w.heap[x.b]? = some (.deferred (some []))
/-- memory by names -/
structure HR (P : Program) (w0 : World) (ρ : Rho) (h : T O) (nx : Nat) (w : World) : Prop where
  live : ∀ i o, h.get i = some o → i < nx ∧ ∃ x, ρ i = some x ∧ w0.heap.size ≤ x.b ∧ x.b < w.heap.size ∧ OR P ρ w x o
  inj : ∀ i j o p x y, h.get i = some o → h.get j = some p → ρ i = some x → ρ j = some y → x.b = y.b → i = j
  top : ∀ i, nx ≤ i → ρ i = none
  base : ∀ k, k < w0.heap.size → w.heap[k]? = w0.heap[k]?
  size : w0.heap.size ≤ w.heap.size
  os : w.os = w0.os
  tape : w.tape = w0.tape
  output : w.output = w0.output
/-- what a step leaves as it was -/
structure Tr (ρ : Rho) (h : T O) (n0 : Nat) (w : World) (ρ' : Rho) (h' : T O) (n1 : Nat) (w' : World) (fl : Nat) : Prop where
  le : Le ρ ρ'
  nx : n0 ≤ n1
  size : w.heap.size ≤ w'.heap.size
  keep : ∀ b, b < w.heap.size → (∀ i o x, h.get i = some o → ρ i = some x → x.b ≠ b) → w'.heap[b]? = w.heap[b]?
  own : ∀ i o x, h'.get i = some o → ρ' i = some x → x.b < w.heap.size → ∃ j p y, h.get j = some p ∧ ρ j = some y ∧ y.b = x.b
  flo : ∀ i, i < fl → h'.get i = h.get i
  old : ∀ i o x, i < fl → h.get i = some o → ρ i = some x → w'.heap[x.b]? = w.heap[x.b]?
  new : ∀ i, i < n0 → ρ i = none → ρ' i = none
section
variable {P : Program} {w0 : World} {ρ ρ' ρ'' : Rho} {h h' h'' : T O} {nx nx' nx'' : Nat} {w w' w'' : World} {fl : Nat}
theorem Tr.refl (ρ : Rho) (h : T O) (nx : Nat) (w : World) (fl : Nat) : Tr ρ h nx w ρ h nx w fl := ⟨Le.refl _, Nat.le_refl _, Nat.le_refl _, fun _ _ _ => rfl, fun i o x h1 h2 _ => ⟨i, o, x, h1, h2, rfl⟩, fun _ _ => rfl, fun _ _ _ _ _ _ => rfl, fun _ _ h => h⟩
theorem Tr.trans (a : Tr ρ h nx w ρ' h' nx' w' fl) (b : Tr ρ' h' nx' w' ρ'' h'' nx'' w'' fl) : Tr ρ h nx w ρ'' h'' nx'' w'' fl where
  le := a.le.trans b.le
  nx := Nat.le_trans a.nx b.nx
  size := Nat.le_trans a.size b.size
  keep k hk hn := by
    have h1 := a.keep k hk hn
    rw [← h1]
    refine b.keep k (Nat.lt_of_lt_of_le hk a.size) fun i o x hi hx e1 => ?_
    obtain ⟨j, p, y, h2, h3, h4⟩ := a.own i o x hi hx (by omega)
    exact hn j p y h2 h3 (h4.trans e1)
  own i o x hi hx hb := by
    obtain ⟨j, p, y, h2, h3, h4⟩ := b.own i o x hi hx (Nat.lt_of_lt_of_le hb a.size)
    obtain ⟨j', p', y', h5, h6, h7⟩ := a.own j p y h2 h3 (by omega)
    exact ⟨j', p', y', h5, h6, h7.trans h4⟩
  flo i hi := (b.flo i hi).trans (a.flo i hi)
  old i o x hi h1 h2 := (b.old i o x hi ((a.flo i hi).trans h1) (a.le _ _ h2)).trans (a.old i o x hi h1 h2)
  new i hi h1 := b.new i (Nat.lt_of_lt_of_le hi a.nx) (a.new i hi h1)
/-- a map is changed so that iterators over it keep what they know -/
def Ben (w w' : World) (b : Nat) : Prop := ∀ arr' c', w'.heap[b]? = some (.map arr' c') → ∃ arr c, w.heap[b]? = some (.map arr c) ∧ c ≤ c' ∧ (c' = c → ∀ e' ∈ arr'.toList, ∃ e ∈ arr.toList, e.key = e'.key ∧ e.born = e'.born)
theorem Ben.of_eq {b : Nat} (hb : w'.heap[b]? = w.heap[b]?) : Ben w w' b := fun arr' c' h => ⟨arr', c', by rw [← hb]; exact h, Nat.le_refl _, fun _ e he => ⟨e, he, rfl, rfl⟩⟩
/-- what stands stays -/
theorem OR.keep {x : Pl} {o : O} (hl : Le ρ ρ') (hs : w.heap.size ≤ w'.heap.size) (hb : w'.heap[x.b]? = w.heap[x.b]?) (hben : ∀ b, b < w.heap.size → Ben w w' b) (ho : OR P ρ w x o) : OR P ρ' w' x o := by
  cases o with
  | c T xs => obtain ⟨vs, arr, h1, h2, h3⟩ := ho; exact ⟨vs, arr, cvc_mono hl _ _ h1, hb.trans h2, h3⟩
  | m es clk pend =>
    obtain ⟨ks, arr, h1, h2, h3, h4, h5, h6⟩ := ho
    refine ⟨ks, arr, cvp_mono hl h1, hb.trans h2, h3, h4, h5, fun j k e1 => ?_⟩
    obtain ⟨y, A, ent, B, ka, kb, g1, g2⟩ := h6 j k e1
    exact ⟨y, A, ent, B, ka, kb, hl _ _ g1, g2⟩
  | q m clk p =>
    obtain ⟨y, since, seen, h1, h2, h3, h4, h5⟩ := ho
    refine ⟨y, since, seen, hl _ _ h1, by omega, hb.trans h3, h4, fun k al e1 => ?_⟩
    obtain ⟨st, kv, g1, g2, g3⟩ := h5 k al e1
    refine ⟨st, kv, g1, cv_mono hl _ _ g2, fun arr' c' ha => ?_⟩
    obtain ⟨arr, c, k1, k2, k3⟩ := hben y.b h2 arr' c' ha
    obtain ⟨k4, k5⟩ := g3 arr c k1
    refine ⟨by omega, fun e2 => ⟨fun e' he hk => ?_, fun hal e' he => ?_⟩⟩
    · obtain ⟨e0, he0, h6, h7⟩ := k3 (by omega) e' he
      rw [← h7]
      exact (k5 (by omega)).1 e0 he0 (h6.trans hk)
    · obtain ⟨e0, he0, h6, h7⟩ := k3 (by omega) e' he
      rw [← h7]
      exact (k5 (by omega)).2 hal e0 he0
  | qn => obtain ⟨s, t, c, h1⟩ := ho; exact ⟨s, t, c, hb.trans h1⟩
  | st b pos => exact hb.trans ho
  | lp env ps asg body st pend =>
    obtain ⟨lp, n, h1, h2, h3, h4, h5, h6, h8, h9⟩ := ho
    exact ⟨lp, n, hb.trans h1, h2, h3, h4, h5, h6, h8.mono hl, h9⟩
  | df => exact hb.trans ho
/-- only what was drawn differs -/
theorem HR.heap (hr : HR P w0 ρ h nx w) (hh : w'.heap = w.heap) (ho : w'.os = w.os) (ht : w'.tape = w.tape) (hp : w'.output = w.output) : HR P w0 ρ h nx w' :=
  ⟨fun i o hi => by
    obtain ⟨h1, x, h2, h3, h4, h5⟩ := hr.live i o hi
    exact ⟨h1, x, h2, h3, by rw [hh]; exact h4, OR.keep (Le.refl _) (by rw [hh]; exact Nat.le_refl _) (by rw [hh]) (fun b _ => Ben.of_eq (by rw [hh])) h5⟩, hr.inj, hr.top, fun k hk => by rw [hh]; exact hr.base k hk, by rw [hh]; exact hr.size, ho.trans hr.os, ht.trans hr.tape, hp.trans hr.output⟩
theorem Tr.heap (ρ : Rho) (h : T O) (nx fl : Nat) (hh : w'.heap = w.heap) : Tr ρ h nx w ρ h nx w' fl :=
  ⟨Le.refl _, Nat.le_refl _, by rw [hh]; exact Nat.le_refl _, fun _ _ _ => by rw [hh], fun i o x h1 h2 _ => ⟨i, o, x, h1, h2, rfl⟩, fun _ _ => rfl, fun _ _ _ _ _ _ => by rw [hh], fun _ _ h => h⟩
/-- something new -/
theorem HR.alloc (hr : HR P w0 ρ h nx w) (ob : Obj) (o : O) (x : Pl) (hx : x.b = w.heap.size) (ho : OR P (ρ.add nx x) (w.alloc ob) x o) : HR P w0 (ρ.add nx x) (h.set nx o) (nx + 1) (w.alloc ob) := by
  have hl : Le ρ (ρ.add nx x) := Rho.le_add (hr.top nx (Nat.le_refl _))
  have hs : (w.alloc ob).heap.size = w.heap.size + 1 := by simp
  have old : ∀ k, k < w.heap.size → (w.alloc ob).heap[k]? = w.heap[k]? := fun k hk => Below.heap_alloc w ob k hk
  refine ⟨fun i p hi => ?_, fun i j p q y z hi hj hy hz e1 => ?_, fun i hi => ?_, fun k hk => (old k (Nat.lt_of_lt_of_le hk hr.size)).trans (hr.base k hk), by rw [hs]; have := hr.size; omega, hr.os, hr.tape, hr.output⟩
  · rw [T.get_set] at hi
    split at hi
    · rename_i e1
      subst e1
      injection hi with hi
      subst hi
      exact ⟨by omega, x, Rho.add_same _ _ _, by rw [hx]; exact hr.size, by rw [hs, hx]; omega, ho⟩
    · rename_i e1
      obtain ⟨h1, y, h2, h3, h4, h5⟩ := hr.live i p hi
      exact ⟨by omega, y, hl _ _ h2, h3, by omega, OR.keep hl (by omega) (old _ h4) (fun b hb => Ben.of_eq (old b hb)) h5⟩
  · rw [T.get_set] at hi hj
    have fresh : ∀ {k p y}, h.get k = some p → (ρ.add nx x) k = some y → y.b < w.heap.size := fun {k p y} hk hy => by
      obtain ⟨h1, y', h2, _, h4, _⟩ := hr.live k p hk
      rw [hl _ _ h2] at hy
      injection hy with hy
      subst hy; exact h4
    split at hi <;> split at hj
    · omega
    · rename_i e2 e3
      subst e2
      rw [Rho.add_same] at hy
      injection hy with hy; subst hy
      have := fresh hj hz
      omega
    · rename_i e2 e3
      subst e3
      rw [Rho.add_same] at hz
      injection hz with hz; subst hz
      have := fresh hi hy
      omega
    · rename_i e2 e3
      rw [Rho.add_other e2] at hy
      rw [Rho.add_other e3] at hz
      exact hr.inj i j p q y z hi hj hy hz e1
  · rw [Rho.add_other (by omega)]
    exact hr.top i (by omega)
theorem Tr.alloc (hr : HR P w0 ρ h nx w) (ob : Obj) (o : O) (x : Pl) (hx : x.b = w.heap.size) (hfl : fl ≤ nx) : Tr ρ h nx w (ρ.add nx x) (h.set nx o) (nx + 1) (w.alloc ob) fl :=
  ⟨Rho.le_add (hr.top nx (Nat.le_refl _)), by omega, by simp, fun b hb _ => Below.heap_alloc w ob b hb, fun i p y hi hy hb => by
    rw [T.get_set] at hi
    split at hi
    · rename_i e1
      subst e1
      rw [Rho.add_same] at hy
      injection hy with hy; subst hy
      omega
    · rename_i e1
      rw [Rho.add_other e1] at hy
      exact ⟨i, p, y, hi, hy, rfl⟩, fun i hi => T.get_set_other h o (by omega), fun i o y _ h1 h2 => by
    obtain ⟨_, y', g2, _, g4, _⟩ := hr.live i o h1
    rw [h2] at g2; injection g2 with g2; subst g2
    exact Below.heap_alloc w ob _ g4, fun i hi h1 => by rw [Rho.add_other (by omega)]; exact h1⟩
/-- something that stood is changed -/
theorem HR.upd (hr : HR P w0 ρ h nx w) {i : Nat} {o o' : O} {x : Pl} (hi : h.get i = some o) (hx : ρ i = some x) (hs : w'.heap.size = w.heap.size) (hw : ∀ k, k ≠ x.b → w'.heap[k]? = w.heap[k]?) (h1 : w'.os = w.os) (h2 : w'.tape = w.tape) (h3 : w'.output = w.output)
    (hben : Ben w w' x.b) (ho : OR P ρ w' x o') : HR P w0 ρ (h.set i o') nx w' := by
  obtain ⟨hin, x', hx', hlo, hhi, _⟩ := hr.live i o hi
  rw [hx] at hx'
  injection hx' with hx'
  subst hx'
  have hbenAll : ∀ b, b < w.heap.size → Ben w w' b := fun b _ => by
    by_cases hb : b = x.b
    · subst hb; exact hben
    · exact Ben.of_eq (hw b hb)
  refine ⟨fun j p hj => ?_, fun j k p q y z hj hk hy hz e1 => ?_, hr.top, fun k hk => (hw k (by omega)).trans (hr.base k hk), by rw [hs]; exact hr.size, h1.trans hr.os, h2.trans hr.tape, h3.trans hr.output⟩
  · rw [T.get_set] at hj
    split at hj
    · rename_i e1
      subst e1
      injection hj with hj
      subst hj
      exact ⟨hin, x, hx, hlo, by omega, ho⟩
    · rename_i e1
      obtain ⟨g1, y, g2, g3, g4, g5⟩ := hr.live j p hj
      refine ⟨g1, y, g2, g3, by omega, OR.keep (Le.refl _) (by omega) (hw y.b fun e2 => e1 (hr.inj j i p o y x hj hi g2 hx e2)) hbenAll g5⟩
  · have real : ∀ {l r}, (h.set i o').get l = some r → ∃ r', h.get l = some r' := fun {l r} hl => by
      rw [T.get_set] at hl
      split at hl
      · rename_i e2; subst e2; exact ⟨o, hi⟩
      · exact ⟨r, hl⟩
    obtain ⟨p', hj'⟩ := real hj
    obtain ⟨q', hk'⟩ := real hk
    exact hr.inj j k p' q' y z hj' hk' hy hz e1
theorem Tr.upd (hr : HR P w0 ρ h nx w) {i : Nat} {o o' : O} {x : Pl} (hi : h.get i = some o) (hx : ρ i = some x) (hs : w'.heap.size = w.heap.size) (hw : ∀ k, k ≠ x.b → w'.heap[k]? = w.heap[k]?) (hfl : fl ≤ i) : Tr ρ h nx w ρ (h.set i o') nx w' fl :=
  ⟨Le.refl _, Nat.le_refl _, by omega, fun b hb hn => hw b fun e1 => hn i o x hi hx e1.symm, fun j p y hj hy _ => by
    rw [T.get_set] at hj
    split at hj
    · rename_i e2; subst e2; exact ⟨j, o, y, hi, hy, rfl⟩
    · exact ⟨j, p, y, hj, hy, rfl⟩, fun j hj => T.get_set_other h o' (by omega), fun j p y hj h1 h2 => hw y.b fun e => by have := hr.inj j i p o y x h1 hi h2 hx e; omega, fun _ _ h => h⟩
/-- something is forgotten -/
theorem HR.del (hr : HR P w0 ρ h nx w) (i : Nat) : HR P w0 ρ (h.del i) nx w := by
  have real : ∀ {l r}, (h.del i).get l = some r → h.get l = some r := fun {l r} hl => by
    rw [T.get_del] at hl
    split at hl
    · cases hl
    · exact hl
  exact ⟨fun j p hj => hr.live j p (real hj), fun j k p q y z hj hk => hr.inj j k p q y z (real hj) (real hk), hr.top, hr.base, hr.size, hr.os, hr.tape, hr.output⟩
theorem Tr.del (ρ : Rho) (h : T O) (nx : Nat) (w : World) {i : Nat} (hfl : fl ≤ i) : Tr ρ h nx w ρ (h.del i) nx w fl :=
  ⟨Le.refl _, Nat.le_refl _, Nat.le_refl _, fun _ _ _ => rfl, fun j p y hj hy _ => by
    rw [T.get_del] at hj
    split at hj
    · cases hj
    · exact ⟨j, p, y, hj, hy, rfl⟩, fun j hj => by rw [T.get_del, if_neg (by omega)], fun _ _ _ _ _ _ => rfl, fun _ _ h => h⟩
end
end Go.M
end

section
set_option linter.unusedVariables false
set_option linter.unusedSimpArgs false
set_option linter.unusedSectionVars false
namespace Go.M
open Go.RowKit Go.Z
section
variable {P : Program} {C : Cx} {w0 : World} {ρ : Rho} {h : T O} {nx : Nat} {w : World} {e : Env} {n : Nat} {a : Act}
theorem rowAt_eq {i : Nat} {T : TypeId} {xs : List V} (hi : rowAt h i = some (T, xs)) : h.get i = some (.c T xs) := by
  unfold rowAt at hi
  split at hi
  · rename_i U ys hg; simp only [Option.some.injEq, Prod.mk.injEq] at hi; obtain ⟨rfl, rfl⟩ := hi; exact hg
  · cases hi
/-- a row that is known -/
theorem HR.row (hr : HR P w0 ρ h nx w) {i : Nat} {T : TypeId} {xs : List V} (hi : h.get i = some (.c T xs)) : ∃ x vs arr, ρ i = some x ∧ cvc ρ xs = some vs ∧ w.heap[x.b]? = some (.cells arr T (0, 0)) ∧ (∀ k v, vs[k]? = some v → arr[x.o + k]? = some v) ∧
    szB P T = some x.s ∧ x.o + x.c * x.s = arr.size ∧ i < nx ∧ w0.heap.size ≤ x.b ∧ x.b < w.heap.size := by
  obtain ⟨h1, x, h2, h3, h4, vs, arr, h5, h6, h7, h8, h9⟩ := hr.live i _ hi
  exact ⟨x, vs, arr, h2, h5, h6, h7, h8, h9, h1, h3, h4⟩
theorem cellOf {b : Nat} {arr : Array Value} {T : TypeId} (hb : w.heap[b]? = some (.cells arr T (0, 0))) (k : Nat) : w.cell? ⟨b, k, none⟩ = arr[k]? := cell_of_row w b k arr T (0, 0) hb
/-- loading -/
theorem loadV_ok (hC : OKC P C) (hr : HR P w0 ρ h nx w) {t : TypeId} {p v : V} {u : Value} (hp : cv ρ p = some u) (hl : loadV C h t p = some v) : ∃ z, cv ρ v = some z ∧ (Instr.loadAt t u).run P w = .ok z w := by
  unfold loadV at hl
  split at hl
  · rename_i J hJ
    split at hl
    · rename_i xs o hc
      unfold cellsAt at hc
      split at hc
      · rename_i i o' hpp
        split at hc
        · rename_i T ys hrow
          simp only [Option.some.injEq, Prod.mk.injEq] at hc
          obtain ⟨rfl, rfl⟩ := hc
          obtain ⟨x, vs, arr, hx, hvs, hb, hget, _⟩ := hr.row (rowAt_eq hrow)
          rw [V.ptr?_eq hpp] at hp
          obtain ⟨x', hx', rfl⟩ := cv_p hp
          rw [hx] at hx'
          injection hx' with hx'
          subst hx'
          obtain ⟨z, hz, _, hz2⟩ := cut_ok hC hJ hvs hl
          refine ⟨z, hz, ?_⟩
          cases hag : J.ag with
          | true =>
            rw [hag] at hz2
            obtain ⟨rfl, hlen⟩ := hz2
            have := run_loadCells_list (P := P) w ⟨x.b, x.o + o', none⟩ ((vs.drop o').take J.n) (fun j q hj => by
              rw [Addr.add_lit, cellOf hb, Nat.add_assoc]
              refine hget _ _ ?_
              rw [List.getElem?_take] at hj
              split at hj
              · rw [List.getElem?_drop] at hj; exact hj
              · cases hj)
            rw [hlen] at this
            simp [Instr.loadAt, Instr.sureAddr, loadVar, ag_ok hC hJ, hag, sz_ok hC hJ, this]
          | false =>
            rw [hag] at hz2
            have hcell : w.cell? ⟨x.b, x.o + o', none⟩ = some z := by rw [cellOf hb]; exact hget _ _ hz2
            simp [Instr.loadAt, Instr.sureAddr, loadVar, ag_ok hC hJ, hag, hcell]
        · cases hc
      · split at hc
        · rw [hC.gv] at hc; cases hc
        · cases hc
    · cases hl
  · cases hl
theorem rLoad_ok (hC : OKC P C) (hr : HR P w0 ρ h nx w) (hf : Fe ρ e n a) {t : TypeId} {x : Operand} {v : V} (hl : rLoad C e h t x = some v) : Pk P ρ a w (.load t x) v := by
  unfold rLoad at hl
  split at hl
  · rename_i p hp
    obtain ⟨u, h1, h2⟩ := opd_ok hf hp
    obtain ⟨z, h3, h4⟩ := loadV_ok hC hr h1 hl
    refine ⟨z, h3, fun _ _ _ _ _ => ?_⟩
    simp only [execOp, h2, Sem.run_bind, h4, Result.andThen_ok, Sem.run_pure]
  · cases hl
/-! ### maps -/
/-- a part that is there -/
theorem part_there (hC : OKC P C) {T : TypeId} {J : Ti} (hJ : C.ty.get T = some J) {xs : List V} {vs : List Value} (hvs : cvc ρ xs = some vs) {o : Nat} (h1 : o + J.n ≤ xs.length) (h2 : 1 ≤ J.n) : ∃ v z, keyS C T v = true ∧ cv ρ v = some z ∧ ∀ w, (part T vs.toArray o).run P w = .ok z w := by
  have hcut : ∃ v, cut J.ag J.n o xs = some v ∧ keyS C T v = true := by
    unfold cut keyS
    rw [hJ]
    cases hJag : J.ag with
    | true =>
      have hl : ((xs.drop o).take J.n).length = J.n := by simp; omega
      refine ⟨.g ((xs.drop o).take J.n), by rw [hl]; simp, ?_⟩
      simp only [hJag, cond_true, V.agg?, hl]
      simp
    | false => exact ⟨xs[o]'(by omega), by simp, by simp [hJag]⟩
  obtain ⟨v, hv, hks⟩ := hcut
  obtain ⟨z, hz, hz2, _⟩ := cut_ok hC hJ hvs hv
  exact ⟨v, z, hks, hz, hz2⟩
theorem keyT_ok (hC : OKC P C) (em : Bool) : ∀ (d k : Nat) (t : TypeId) (x : V) (u : Value), keyT C d t = true → keyS C t x = true → cv ρ x = some u → (Instr.checkKey em (d + k) t u).run P w = .ok () w
  | 0, _, _, _, _, h1, _, _ => by cases h1
  | d + 1, k, t, x, u, h1, h2, hu => by
    rw [show d + 1 + k = (d + k) + 1 by omega]
    unfold keyT at h1
    split at h1
    · rename_i I hI
      have hut := (hC.ty t I hI).u
      have hab := (hC.ty t I hI).ag
      unfold keyS at h2
      rw [hI] at h2
      split at h1
      · rename_i fs hfs
        rw [hfs] at hut
        have hag : I.ag = true := by unfold aggB at hab; rw [hut] at hab; injection hab with hab; exact hab.symm
        simp only [hag, cond_true] at h2
        split at h2
        · rename_i xs hx
          rw [V.agg?_eq hx] at hu
          obtain ⟨vs, hvs, rfl⟩ := cv_g hu
          have hxl := Nat.eq_of_beq_eq_true h2
          unfold Instr.checkKey
          simp only [Sem.run_bind, run_underlying hut, Result.andThen_ok]
          rw [← Array.forIn_toList]
          generalize fs.toList = l at h1
          induction l with
          | nil => simp
          | cons f l ih =>
            rw [List.all_cons, Bool.and_eq_true] at h1
            obtain ⟨g1, g2⟩ := h1
            simp only [List.forIn_cons, Sem.run_bind]
            have step : (Instr.checkKey em (d + k) f.type =<< part f.type vs.toArray f.offset).run P w = .ok () w := by
              split at g1
              · rename_i J hJ
                rw [Bool.and_eq_true, Bool.and_eq_true] at g1
                obtain ⟨⟨k1, k2⟩, k3⟩ := g1
                have k1 := Nat.le_of_ble_eq_true k1
                have k2 := Nat.le_of_ble_eq_true k2
                obtain ⟨v, z, hks, hz, hz2⟩ := part_there hC hJ hvs (o := f.offset) (by omega) k2
                have := keyT_ok hC em d k f.type v z k3 hks hz
                show (Bind.bind (part f.type vs.toArray f.offset) fun z => Instr.checkKey em (d + k) f.type z).run P w = _
                rw [Sem.run_bind, hz2]
                exact this
              · cases g1
            by_cases hn : f.name = "_"
            · simp only [hn, ne_eq, not_true, if_false, Sem.run_pure, Result.andThen_ok]
              exact ih g2
            · have s1 : ((part f.type vs.toArray f.offset).run P w).andThen (fun z w => (Instr.checkKey em (d + k) f.type z).run P w) = .ok () w := by rw [← Sem.run_bind]; exact step
              simp only [ne_eq, hn, not_false_eq_true, if_true, Sem.run_bind]
              cases hpp : (part f.type vs.toArray f.offset).run P w with
              | halt q w1 => rw [hpp] at s1; cases s1
              | ok z w1 =>
                rw [hpp] at s1
                simp only [Result.andThen_ok] at s1 ⊢
                rw [s1]
                simp only [Result.andThen_ok, Sem.run_pure]
                exact ih g2
        · cases h2
      · rename_i m el hel
        rw [hel] at hut
        have hag : I.ag = true := by unfold aggB at hab; rw [hut] at hab; injection hab with hab; exact hab.symm
        simp only [hag, cond_true] at h2
        split at h1
        · rename_i J hJ
          rw [Bool.and_eq_true, Bool.and_eq_true] at h1
          obtain ⟨⟨k1, k2⟩, k3⟩ := h1
          have k1 := Nat.le_of_ble_eq_true k1
          have k2 := Nat.le_of_ble_eq_true k2
          split at h2
          · rename_i xs hx
            rw [V.agg?_eq hx] at hu
            obtain ⟨vs, hvs, rfl⟩ := cv_g hu
            have hxl := Nat.eq_of_beq_eq_true h2
            unfold Instr.checkKey
            simp only [Sem.run_bind, run_underlying hut, Result.andThen_ok]
            simp only [Std.Legacy.Range.forIn_eq_forIn_range', Std.Legacy.Range.size, Nat.sub_zero, Nat.add_one_sub_one, Nat.div_one]
            have hr : ∀ i ∈ List.range' 0 m, i < m := fun i hi => by simp [List.mem_range'] at hi; omega
            generalize List.range' 0 m = l at hr
            induction l with
            | nil => simp
            | cons i l ih =>
              have hi : i < m := hr i (List.mem_cons_self ..)
              have hmul : i * J.n + J.n ≤ m * J.n := by rw [← Nat.succ_mul]; exact Nat.mul_le_mul_right _ hi
              obtain ⟨v, z, hks, hz, hz2⟩ := part_there hC hJ hvs (o := i * J.n) (by omega) k2
              have := keyT_ok hC em d k el v z k3 hks hz
              simp only [List.forIn_cons, Sem.run_bind, sz_ok hC hJ, Result.andThen_ok, hz2, this, Sem.run_pure]
              exact ih fun i hi => hr i (List.mem_cons_of_mem _ hi)
          · cases h2
        · cases h1
      · cases h1
      · unfold Instr.checkKey
        simp only [Sem.run_bind, run_underlying hut, Result.andThen_ok]
        cases hIu : I.u <;> simp_all
    · cases h1
/-! ### finding a key -/
theorem sameNow_ok {d : TypeDesc} {kt : TypeId} {u v : Value} {b c : Bool} {m : Nat} (hd : P.underlying kt = some d) (h1 : Instr.sameNow d u v = some c) (h2 : EqV P (m + 1) kt u v b) : c = b := by
  have h2 := h2 default
  unfold Instr.sameNow at h1
  split at h1
  · split at h1
    · rename_i hk
      injection h1 with h1
      subst hk
      rw [run_equalIn_int default m kt _ _ _ _ hd] at h2
      injection h2 with h2
      rw [← h1, ← h2]
    · cases h1
  · injection h1 with h1
    simp [Op.equalIn, run_underlying hd] at h2
    rw [← h1, ← h2]
  · injection h1 with h1
    rw [run_equalIn_bool default m kt _ _ hd] at h2
    injection h2 with h2
    rw [← h1, ← h2]
  · cases h1
theorem findNow_at {d : TypeDesc} {kt : TypeId} {u : Value} {e0 : MapEntry} {B : List MapEntry} (hd : P.underlying kt = some d) (h0 : EqV P 10000 kt u e0.key true) : ∀ {A : List MapEntry} {i : Nat} {r : Option (Nat × Value)}, (∀ e ∈ A, EqV P 10000 kt u e.key false) → Instr.findNow d u (A ++ e0 :: B) i = some r → r = some (i + A.length, e0.val)
  | [], i, r, _, h => by
    simp only [List.nil_append] at h
    unfold Instr.findNow at h
    split at h
    · injection h with h; simp [← h]
    · rename_i hs; cases sameNow_ok hd hs h0
    · cases h
  | x :: A, i, r, hA, h => by
    simp only [List.cons_append] at h
    unfold Instr.findNow at h
    split at h
    · rename_i hs; cases sameNow_ok hd hs (hA x (List.mem_cons_self ..))
    · have := findNow_at hd h0 (fun e he => hA e (List.mem_cons_of_mem _ he)) h
      rw [this]; simp; omega
    · cases h
theorem findNow_no {d : TypeDesc} {kt : TypeId} {u : Value} (hd : P.underlying kt = some d) : ∀ {A : List MapEntry} {i : Nat} {r : Option (Nat × Value)}, (∀ e ∈ A, EqV P 10000 kt u e.key false) → Instr.findNow d u A i = some r → r = none
  | [], i, r, _, h => by unfold Instr.findNow at h; injection h with h; exact h.symm
  | x :: A, i, r, hA, h => by
    unfold Instr.findNow at h
    split at h
    · rename_i hs; cases sameNow_ok hd hs (hA x (List.mem_cons_self ..))
    · exact findNow_no hd (fun e he => hA e (List.mem_cons_of_mem _ he)) h
    · cases h
theorem findAsk_at {kt : TypeId} {u : Value} {e0 : MapEntry} {B : List MapEntry} (h0 : EqV P 10000 kt u e0.key true) : ∀ {A : List MapEntry} {i : Nat}, (∀ e ∈ A, EqV P 10000 kt u e.key false) → ∀ w, (Instr.findAsking kt u (A ++ e0 :: B) i).run P w = .ok (some (i + A.length, e0.val)) w
  | [], i, _, w => by
    have := h0 w
    simp [Instr.findAsking, Op.equal, Op.maxDepth, this]
  | x :: A, i, hA, w => by
    have h1 := hA x (List.mem_cons_self ..) w
    have := findAsk_at (B := B) h0 (A := A) (i := i + 1) (fun e he => hA e (List.mem_cons_of_mem _ he)) w
    simp only [List.cons_append]
    unfold Instr.findAsking
    simp only [Op.equal, Op.maxDepth, Sem.run_bind, h1, Result.andThen_ok, Bool.false_eq_true, if_false, this]
    simp [Nat.add_assoc, Nat.add_comm 1]
theorem findAsk_no {kt : TypeId} {u : Value} : ∀ {A : List MapEntry} {i : Nat}, (∀ e ∈ A, EqV P 10000 kt u e.key false) → ∀ w, (Instr.findAsking kt u A i).run P w = .ok none w
  | [], i, _, w => by simp [Instr.findAsking]
  | x :: A, i, hA, w => by
    have h1 := hA x (List.mem_cons_self ..) w
    have := findAsk_no (A := A) (i := i + 1) (fun e he => hA e (List.mem_cons_of_mem _ he)) w
    unfold Instr.findAsking
    simp only [Op.equal, Op.maxDepth, Sem.run_bind, h1, Result.andThen_ok, Bool.false_eq_true, if_false, this]
theorem find_at {kt : TypeId} {d : TypeDesc} {u : Value} {e0 : MapEntry} {A B : List MapEntry} (hd : P.underlying kt = some d) (h0 : EqV P 10000 kt u e0.key true) (hA : ∀ e ∈ A, EqV P 10000 kt u e.key false) (w : World) :
    (Instr.findKey kt u (A ++ e0 :: B)).run P w = .ok (some (A.length, e0.val)) w := by
  unfold Instr.findKey
  simp only [Sem.run_bind, run_underlying hd, Result.andThen_ok]
  cases hn : Instr.findNow d u (A ++ e0 :: B) 0 with
  | some r => rw [findNow_at hd h0 hA hn]; simp
  | none => have := findAsk_at (B := B) h0 (i := 0) hA w; simpa using this
theorem find_no {kt : TypeId} {d : TypeDesc} {u : Value} {A : List MapEntry} (hd : P.underlying kt = some d) (hA : ∀ e ∈ A, EqV P 10000 kt u e.key false) (w : World) : (Instr.findKey kt u A).run P w = .ok none w := by
  unfold Instr.findKey
  simp only [Sem.run_bind, run_underlying hd, Result.andThen_ok]
  cases hn : Instr.findNow d u A 0 with
  | some r => rw [findNow_no hd hA hn]; simp
  | none => exact findAsk_no hA w
theorem look_none {kt : TypeId} {k : V} : ∀ {es : List (V × V)} {i : Nat}, look C kt k es i = some none → ∀ y ∈ es, eqV C 20 kt k y.1 = some false
  | [], _, _ => fun _ h => by cases h
  | (x, z) :: r, i, h => by
    unfold look at h
    split at h
    · split at h <;> cases h
    · rename_i he
      have := look_none h
      exact fun y hy => by rcases List.mem_cons.1 hy with rfl | hy; exact he; exact this y hy
    · cases h
theorem look_some {kt : TypeId} {k x v : V} {p : Nat} : ∀ {es : List (V × V)} {i : Nat}, look C kt k es i = some (some (p, x, v)) → ∃ a b, es = a ++ (x, v) :: b ∧ p = i + a.length ∧ eqV C 20 kt k x = some true ∧ (∀ y ∈ a, eqV C 20 kt k y.1 = some false) ∧ ∀ y ∈ b, eqV C 20 kt k y.1 = some false
  | [], _, h => by cases h
  | (y, z) :: r, i, h => by
    unfold look at h
    split at h
    · rename_i he
      split at h
      · rename_i hl
        simp only [Option.some.injEq, Prod.mk.injEq] at h
        obtain ⟨rfl, rfl, rfl⟩ := h
        exact ⟨[], r, rfl, rfl, he, fun _ h => (by cases h), look_none hl⟩
      · cases h
    · rename_i he
      obtain ⟨a, b, h1, h2, h3, h4, h5⟩ := look_some h
      subst h1
      exact ⟨(y, z) :: a, b, rfl, by simp; omega, h3, fun q hq => by rcases List.mem_cons.1 hq with rfl | hq; exact he; exact h4 q hq, h5⟩
    · cases h
end
end Go.M
end

section
set_option linter.unusedVariables false
set_option linter.unusedSimpArgs false
set_option linter.unusedSectionVars false
namespace Go.M
open Go.RowKit Go.Z
section
variable {P : Program} {C : Cx} {w0 : World} {ρ : Rho} {h : T O} {nx : Nat} {w : World} {e : Env} {n : Nat} {a : Act}
theorem cvp_mem : ∀ {x : List (V × V)} {l : List (Value × Value)}, cvp ρ x = some l → ∀ p ∈ l, ∃ y ∈ x, cv ρ y.1 = some p.1 ∧ cv ρ y.2 = some p.2
  | [], l, h, p, hp => by rw [cvp_nil h] at hp; cases hp
  | (k, v) :: r, l, h, p, hp => by
    obtain ⟨a, b, m, rfl, h1, h2, h3⟩ := cvp_cons h
    rcases List.mem_cons.1 hp with rfl | hp
    · exact ⟨(k, v), List.mem_cons_self .., h1, h2⟩
    · obtain ⟨y, hy, h4⟩ := cvp_mem h3 p hp; exact ⟨y, List.mem_cons_of_mem _ hy, h4⟩
theorem cvp_split : ∀ {x : List (V × V)} {k v : V} {y : List (V × V)} {l : List (Value × Value)}, cvp ρ (x ++ (k, v) :: y) = some l → ∃ l1 a b l2, l = l1 ++ (a, b) :: l2 ∧ cvp ρ x = some l1 ∧ cv ρ k = some a ∧ cv ρ v = some b ∧ cvp ρ y = some l2
  | [], k, v, y, l, h => by obtain ⟨a, b, m, rfl, h1, h2, h3⟩ := cvp_cons h; exact ⟨[], a, b, m, rfl, by unfold cvp; rfl, h1, h2, h3⟩
  | (p, q) :: x, k, v, y, l, h => by
    obtain ⟨a, b, m, rfl, h1, h2, h3⟩ := cvp_cons h
    obtain ⟨l1, a', b', l2, rfl, h4, h5⟩ := cvp_split h3
    exact ⟨(a, b) :: l1, a', b', l2, rfl, cvp_mk h1 h2 h4, h5⟩
/-- where a key's entry stands -/
structure At (P : Program) (kt : TypeId) (u : Value) (l A : List MapEntry) (e0 : MapEntry) (B : List MapEntry) : Prop where
  eq : l = A ++ e0 :: B
  yes : EqV P 10000 kt u e0.key true
  noA : ∀ e ∈ A, EqV P 10000 kt u e.key false
  noB : ∀ e ∈ B, EqV P 10000 kt u e.key false
theorem eqV10 (hC : OKC P C) {kt : TypeId} {k x : V} {b : Bool} {u v : Value} (h : eqV C 20 kt k x = some b) (hu : cv ρ k = some u) (hv : cv ρ x = some v) : EqV P 10000 kt u v b := eqV_ok hC 20 9980 kt k x b u v h hu hv
theorem find_some (hC : OKC P C) {kt : TypeId} {k x v : V} {p : Nat} {u : Value} {es : List (V × V)} {ks : List (Value × Value)} {l : List MapEntry} (hk : cv ρ k = some u) (hl : look C kt k es 0 = some (some (p, x, v))) (hes : cvp ρ es = some ks) (hp : ks.Perm (l.map fun e => (e.key, e.val))) :
    ∃ A e0 B a b ka kb, At P kt u l A e0 B ∧ es = a ++ (x, v) :: b ∧ p = a.length ∧ ks = ka ++ (e0.key, e0.val) :: kb ∧ cv ρ x = some e0.key ∧ cv ρ v = some e0.val ∧ cvp ρ a = some ka ∧ cvp ρ b = some kb ∧
      (ka ++ kb).Perm ((A ++ B).map fun e => (e.key, e.val)) := by
  obtain ⟨a, b, rfl, hpl, h1, h2, h3⟩ := look_some hl
  obtain ⟨ka, kx, kv, kb, rfl, h4, h5, h6, h7⟩ := cvp_split hes
  have hm : (kx, kv) ∈ l.map fun e => (e.key, e.val) := hp.mem_iff.1 (List.mem_append_right _ (List.mem_cons_self ..))
  obtain ⟨e0, he0, hee⟩ := List.mem_map.1 hm
  simp only [Prod.mk.injEq] at hee
  obtain ⟨rfl, rfl⟩ := hee
  obtain ⟨A, B, rfl⟩ := List.append_of_mem he0
  have hp2 : (ka ++ kb).Perm ((A ++ B).map fun e => (e.key, e.val)) := by
    have : ((e0.key, e0.val) :: (ka ++ kb)).Perm ((e0.key, e0.val) :: ((A ++ B).map fun e => (e.key, e.val))) := by
      refine (List.perm_middle.symm.trans hp).trans ?_
      simp only [List.map_append, List.map_cons]
      exact List.perm_middle
    exact this.cons_inv
  have hno : ∀ e ∈ A ++ B, EqV P 10000 kt u e.key false := fun e he => by
    have : (e.key, e.val) ∈ ka ++ kb := hp2.mem_iff.2 (List.mem_map.2 ⟨e, he, rfl⟩)
    rcases List.mem_append.1 this with h8 | h8
    · obtain ⟨y, hy, h9, _⟩ := cvp_mem h4 _ h8; exact eqV10 hC (h2 y hy) hk h9
    · obtain ⟨y, hy, h9, _⟩ := cvp_mem h7 _ h8; exact eqV10 hC (h3 y hy) hk h9
  exact ⟨A, e0, B, a, b, ka, kb, ⟨rfl, eqV10 hC h1 hk h5, fun e he => hno e (List.mem_append_left _ he), fun e he => hno e (List.mem_append_right _ he)⟩, rfl, by omega, rfl, h5, h6, h4, h7, hp2⟩
theorem find_none (hC : OKC P C) {kt : TypeId} {k : V} {u : Value} {es : List (V × V)} {ks : List (Value × Value)} {l : List MapEntry} (hk : cv ρ k = some u) (hl : look C kt k es 0 = some none) (hes : cvp ρ es = some ks) (hp : ks.Perm (l.map fun e => (e.key, e.val))) :
    ∀ e ∈ l, EqV P 10000 kt u e.key false := fun e he => by
  have : (e.key, e.val) ∈ ks := hp.mem_iff.2 (List.mem_map.2 ⟨e, he, rfl⟩)
  obtain ⟨y, hy, h9, _⟩ := cvp_mem hes _ this
  exact eqV10 hC (look_none hl y hy) hk h9
theorem run_getObj' {r : Nat} {o : Obj} (hr : w.heap[r]? = some o) (hn : ∀ c t f, o ≠ .cells c t f) : (getObj r).run P w = .ok o w := by
  cases o <;> first | (exact absurd rfl (hn _ _ _)) | simp [getObj, Sem.run, hr]
theorem mapC_eq {i : Nat} {es : List (V × V)} {c : Nat} (hm : mapC h i = some (es, c)) : ∃ p, h.get i = some (.m es c p) := by
  unfold mapC at hm
  split at hm
  · rename_i es' c' p hg; simp only [Option.some.injEq, Prod.mk.injEq] at hm; obtain ⟨rfl, rfl⟩ := hm; exact ⟨p, hg⟩
  · cases hm
theorem mapAt_eq {i : Nat} {es : List (V × V)} (hm : mapAt h i = some es) : ∃ c p, h.get i = some (.m es c p) := by
  unfold mapAt at hm
  split at hm
  · rename_i es' c hg; injection hm with hm; subst hm; obtain ⟨p, hp⟩ := mapC_eq hg; exact ⟨c, p, hp⟩
  · cases hm
/-- the entries of a map, or of none -/
theorem mapOf_ok (hr : HR P w0 ρ h nx w) {m : V} {es : List (V × V)} {u : Value} (hu : cv ρ m = some u) (hm : mapOf h m = some es) : ∃ ks arr, cvp ρ es = some ks ∧ ks.Perm (arr.toList.map fun e => (e.key, e.val)) ∧
    ((u = .map none ∧ arr = #[]) ∨ ∃ b c, u = .map (some b) ∧ w.heap[b]? = some (.map arr c)) := by
  unfold mapOf at hm
  split at hm
  · rename_i i hi
    rw [V.map?_eq hi] at hu
    obtain ⟨x, hx, rfl⟩ := cv_m hu
    obtain ⟨c, p, hg⟩ := mapAt_eq hm
    obtain ⟨_, x', hx', _, _, ks, arr, h1, h2, h3, _⟩ := hr.live i _ hg
    rw [hx] at hx'
    injection hx' with hx'
    subst hx'
    exact ⟨ks, arr, h1, h3, .inr ⟨x.b, c, rfl, h2⟩⟩
  · obtain ⟨hn, hm⟩ := ite_some hm
    injection hm with hm; subst hm
    rw [isNilM_eq hn] at hu
    exact ⟨[], #[], by unfold cvp; rfl, by simp, .inl ⟨cv_k hu, rfl⟩⟩
theorem okV_ok {ok b : Bool} {v : V} {z : Value} (hz : cv ρ v = some z) : cv ρ (okV ok v b) = some (if ok = true then .tuple #[z, .bool b] else z) := by
  unfold okV
  cases ok with
  | true => exact cv_t_mk (cvl_mk hz (cvl_mk (cv_bo b) (by unfold cvl; rfl)))
  | false => exact hz
theorem rLook_ok (hC : OKC P C) (hr : HR P w0 ρ h nx w) (hf : Fe ρ e n a) {t : TypeId} {m k : Operand} {ok : Bool} {v : V} (hl : rLook C e h t m k ok = some v) : Pk P ρ a w (.lookup t m k ok) v := by
  unfold rLook at hl
  split at hl
  · rename_i mv hmv
    split at hl
    · rename_i kv hkv
      split at hl
      · rename_i es hes
        obtain ⟨um, h1, h2⟩ := opd_ok hf hmv
        obtain ⟨uk, h3, h4⟩ := opd_ok hf hkv
        obtain ⟨ks, arr, hks, hp, hcase⟩ := mapOf_ok hr h1 hes
        unfold lkV at hl
        split at hl
        · rename_i kt J hJ
          obtain ⟨vt, hu, hT⟩ := mapTi_ok hC hJ
          have hkey : ∀ r, lookB C kt kv es = some r → look C kt kv es 0 = some r ∧ ∀ em w, (Instr.checkKey em 10000 kt uk).run P w = .ok () w := fun r hr => by
            unfold lookB at hr
            obtain ⟨hb, hr⟩ := ite_some hr
            unfold keyB at hb
            rw [Bool.and_eq_true] at hb
            exact ⟨hr, fun em w => keyT_ok hC em 20 9980 kt kv uk hb.1 hb.2 h3⟩
          have hut : ∃ d, P.underlying kt = some d := by
            have := hkey
            cases hlb : lookB C kt kv es with
            | none => rw [hlb] at hl; cases hl
            | some r =>
              unfold lookB at hlb
              obtain ⟨hb, _⟩ := ite_some hlb
              unfold keyB keyT at hb
              rw [Bool.and_eq_true] at hb
              cases hI : C.ty.get kt with
              | none => rw [hI] at hb; cases hb.1
              | some I => exact ⟨_, (hC.ty kt I hI).u⟩
          obtain ⟨d, hd⟩ := hut
          have run1 : ∀ (i : Nat) (z : Value), (Instr.findKey kt uk arr.toList).run P w = .ok (some (i, z)) w → (∀ em w, (Instr.checkKey em 10000 kt uk).run P w = .ok () w) → Ex P a w (.lookup t m k ok) (if ok = true then .tuple #[z, .bool true] else z) := fun i z hfk hck _ _ _ _ _ => by
            rcases hcase with ⟨rfl, rfl⟩ | ⟨bb, c, rfl, hb⟩
            · simp only [execOp, h2, h4, Instr.lookup, Sem.run_bind, run_underlying hu, Result.andThen_ok, Sem.run_pure, hck, hfk]
              try (cases ok <;> rfl)
            · have hg := run_getObj' (P := P) hb (fun _ _ _ h => by cases h)
              simp only [execOp, h2, h4, Instr.lookup, Sem.run_bind, run_underlying hu, Result.andThen_ok, Sem.run_pure, hg, hck, hfk]
              try (cases ok <;> rfl)
          have run0 : ∀ (z : Value), (Instr.findKey kt uk arr.toList).run P w = .ok none w → (zeroValue vt).run P w = .ok z w → (∀ em w, (Instr.checkKey em 10000 kt uk).run P w = .ok () w) → Ex P a w (.lookup t m k ok) (if ok = true then .tuple #[z, .bool false] else z) := fun z hfk hz hck _ _ _ _ _ => by
            rcases hcase with ⟨rfl, rfl⟩ | ⟨bb, c, rfl, hb⟩
            · simp only [execOp, h2, h4, Instr.lookup, Sem.run_bind, run_underlying hu, Result.andThen_ok, Sem.run_pure, hck, hfk, hz]
              try (cases ok <;> rfl)
            · have hg := run_getObj' (P := P) hb (fun _ _ _ h => by cases h)
              simp only [execOp, h2, h4, Instr.lookup, Sem.run_bind, run_underlying hu, Result.andThen_ok, Sem.run_pure, hg, hck, hfk, hz]
              try (cases ok <;> rfl)
          split at hl
          · rename_i p0 x0 v0 hlk
            injection hl with hl; subst hl
            obtain ⟨hlk, hck⟩ := hkey _ hlk
            obtain ⟨A, e0, B, _, _, _, _, hat, _, _, _, _, hval, _⟩ := find_some hC h3 hlk hks hp
            exact ⟨_, okV_ok hval, run1 A.length _ (by rw [hat.eq]; exact find_at hd hat.yes hat.noA w) hck⟩
          · rename_i hlk
            injection hl with hl; subst hl
            obtain ⟨hlk, hck⟩ := hkey _ hlk
            obtain ⟨z, hz, _, hzv, _⟩ := zs_ok (ρ := ρ) hC hT
            exact ⟨_, okV_ok hzv, run0 _ (find_no hd (find_none hC h3 hlk hks hp) w) (hz w) hck⟩
          · cases hl
        · cases hl
      · cases hl
    · cases hl
  · cases hl
theorem beq_val {u v : Value} (h : vB u v = true) : u = v := by
  unfold vB at h
  split at h
  · rw [Bool.and_eq_true] at h
    rw [of_decide_eq_true h.1, of_decide_eq_true h.2]
  · rw [eq_of_beq h]
  · rw [of_decide_eq_true h]
  all_goals first | rfl | cases h
theorem capB_eq {x y : Cap} (h : capB x y = true) : x = y := by
  unfold capB at h
  split at h
  · rw [Nat.eq_of_beq_eq_true h]
  · rw [Bool.and_eq_true] at h; rw [Nat.eq_of_beq_eq_true h.1, Nat.eq_of_beq_eq_true h.2]
  · cases h
mutual
theorem beq_eq : ∀ (x y : V), beq x y = true → x = y
  | x, y, h => by
    unfold beq at h
    split at h
    · rw [beq_val h]
    · rw [Bool.and_eq_true] at h; rw [Nat.eq_of_beq_eq_true h.1, Nat.eq_of_beq_eq_true h.2]
    · simp only [Bool.and_eq_true] at h; obtain ⟨⟨⟨h1, h2⟩, h3⟩, h4⟩ := h; rw [Nat.eq_of_beq_eq_true h1, Nat.eq_of_beq_eq_true h2, Nat.eq_of_beq_eq_true h3, capB_eq h4]
    · rw [Nat.eq_of_beq_eq_true h]
    · simp only [Bool.and_eq_true] at h; obtain ⟨⟨h1, h2⟩, h3⟩ := h; rw [Nat.eq_of_beq_eq_true h1, beqs_eq _ _ h2, beqs_eq _ _ h3]
    · rw [Nat.eq_of_beq_eq_true h]
    · rw [Nat.eq_of_beq_eq_true h]
    · rw [Nat.eq_of_beq_eq_true h]
    · rw [Bool.and_eq_true] at h; rw [Nat.eq_of_beq_eq_true h.1, Nat.eq_of_beq_eq_true h.2]
    · rw [beqs_eq _ _ h]
    · rw [beqs_eq _ _ h]
    · rw [Bool.and_eq_true] at h; rw [Nat.eq_of_beq_eq_true h.1, beq_eq _ _ h.2]
    · cases h
theorem beqs_eq : ∀ (x y : List V), beqs x y = true → x = y
  | [], [], _ => rfl
  | a :: x, b :: y, h => by
    unfold beqs at h
    rw [Bool.and_eq_true] at h
    rw [beq_eq _ _ h.1, beqs_eq _ _ h.2]
  | [], _ :: _, h => by cases h
  | _ :: _, [], h => by cases h
end
theorem rEnt_ok (hr : HR P w0 ρ h nx w) (hf : Fe ρ e n a) {x : Operand} {v : V} (hl : rEnt e h x = some v) : Pk P ρ a w (.entry x) v := by
  unfold rEnt at hl
  split at hl
  · rename_i p hp
    split at hl
    · rename_i i hi
      split at hl
      · rename_i m c k hcur
        split at hl
        · rename_i es c' hm
          obtain ⟨hc, hl2⟩ := ite_some hl
          clear hl
          have hc := Nat.eq_of_beq_eq_true hc
          subst hc
          split at hl2
          · rename_i k' v' hfind
            injection hl2 with hl2; subst hl2
            obtain ⟨u, h1, h2⟩ := opd_ok hf hp
            rw [V.it?_eq hi] at h1
            obtain ⟨x1, hx1, rfl⟩ := cv_q h1
            have hq : ∃ al, h.get i = some (.q m c (.cur k al)) := by
              unfold curOf at hcur
              split at hcur
              · rename_i a1 a2 a3 hg; simp only [Option.some.injEq, Prod.mk.injEq] at hcur; obtain ⟨rfl, rfl, rfl⟩ := hcur; exact ⟨_, hg⟩
              · cases hcur
            obtain ⟨al, hq⟩ := hq
            obtain ⟨_, x1', hx1', _, _, y, since, seen, hy, hyb, hit, _, hcu⟩ := hr.live i _ hq
            rw [hx1] at hx1'
            injection hx1' with e1
            subst e1
            obtain ⟨st, kv, hst, hkv, hmap⟩ := hcu k al rfl
            obtain ⟨pp, hg⟩ := mapC_eq hm
            obtain ⟨_, y', hy', _, _, ks, arr, hks, harr, hperm, hnod, _, _⟩ := hr.live m _ hg
            rw [hy] at hy'
            injection hy' with e1
            subst e1
            have hmem := List.mem_of_find?_eq_some hfind
            have hbq := List.find?_some hfind
            have hkk : k' = k := beq_eq _ _ hbq
            subst hkk
            obtain ⟨s1, s2, rfl⟩ := List.append_of_mem hmem
            obtain ⟨l1, ak, av, l2, rfl, _, g1, g2, _⟩ := cvp_split hks
            rw [hkv] at g1
            injection g1 with g1
            subst g1
            have hmm : (kv, av) ∈ arr.toList.map fun e => (e.key, e.val) := hperm.mem_iff.1 (List.mem_append_right _ (List.mem_cons_self ..))
            obtain ⟨e0, he0, hee⟩ := List.mem_map.1 hmm
            simp only [Prod.mk.injEq] at hee
            obtain ⟨rfl, rfl⟩ := hee
            have hborn : e0.born = st := ((hmap arr c harr).2 rfl).1 e0 he0 rfl
            have hfb : arr.find? (fun e => e.born == st) = some e0 := by
              rw [← Array.find?_toList]
              obtain ⟨A, B, hAB⟩ := List.append_of_mem he0
              rw [hAB] at hnod ⊢
              rw [List.find?_append]
              have hA : A.find? (fun e => e.born == st) = none := by
                rw [List.find?_eq_none]
                intro q hq hqb
                rw [List.map_append, List.map_cons, List.nodup_append] at hnod
                have := hnod.2.2 q.born (List.mem_map.2 ⟨q, hq, rfl⟩) e0.born (List.mem_cons_self ..)
                rw [hborn] at this
                exact this (by simpa using hqb)
              rw [hA, List.find?_cons, hborn]
              simp
            refine ⟨_, cv_t_mk (cvl_mk hkv (cvl_mk g2 (by unfold cvl; rfl))), fun _ _ _ _ _ => ?_⟩
            have r1 := run_getObj' (P := P) hit (fun _ _ _ h => by cases h)
            have r2 := run_getObj' (P := P) harr (fun _ _ _ h => by cases h)
            simp only [execOp, h2, Instr.entry, Sem.run_bind, r1, Result.andThen_ok, hst, r2, bne_self_eq_false, Bool.false_eq_true, if_false, hfb, Sem.run_pure]
          · cases hl2
        · cases hl
      · cases hl
    · cases hl
  · cases hl
end
end Go.M
end

section
set_option linter.unusedVariables false
set_option linter.unusedSimpArgs false
set_option linter.unusedSectionVars false
namespace Go.M
open Go.RowKit Go.Z
section
variable {P : Program} {C : Cx} {w0 : World} {ρ : Rho} {h : T O} {nx : Nat} {w : World} {e : Env} {n : Nat} {a : Act}
theorem run_bytes {ad : Addr} {c : Nat} {bs : List UInt8} (hc : ∀ j b, bs[j]? = some b → w.cell? (ad.add j) = some (.int .u8 (b.toNat : Int))) : (Conv.bytesToString (.slice (some ad) bs.length c)).run P w = .ok (.string ⟨bs.toArray⟩) w := by
  have hload : (loadCells ad bs.length).run P w = .ok (bs.map fun b => Value.int .u8 (b.toNat : Int)).toArray w := by
    have := run_loadCells_list (P := P) w ad (bs.map fun b => Value.int .u8 (b.toNat : Int)) (fun j v hj => by
      rw [List.getElem?_map] at hj
      cases hb : bs[j]? with
      | none => rw [hb] at hj; cases hj
      | some b => rw [hb] at hj; injection hj with hj; subst hj; exact hc j b hb)
    rw [List.length_map] at this
    exact this
  have hloop : ∀ (l : List UInt8) (acc : ByteArray), (forIn (m := Sem) (l.map fun b => Value.int .u8 (b.toNat : Int)) acc fun c r => (match c with
      | .int .u8 m => (pure (ForInStep.yield (r.push (UInt8.ofNat m.toNat))) : Sem (ForInStep ByteArray))
      | _ => stuck "bytesToString: byte expected")).run P w = .ok ⟨acc.data ++ l.toArray⟩ w := by
    intro l
    induction l with
    | nil => intro acc; simp
    | cons b r ih =>
      intro acc
      simp only [List.map_cons, List.forIn_cons, Sem.run_bind, Sem.run_pure, Result.andThen_ok]
      rw [ih]
      simp only [ByteArray.push, Int.toNat_natCast, UInt8.ofNat_toNat]
      congr 2
      apply Array.toList_inj.1
      simp
  simp only [Conv.bytesToString, Sem.run_bind, hload, Result.andThen_ok]
  rw [← Array.forIn_toList]
  have := hloop bs ByteArray.empty
  erw [this]
  simp [ByteArray.empty, ByteArray.emptyWithCapacity]
  rfl
theorem bytesV_ok : ∀ {l : List V} {bs : List UInt8} {vs : List Value}, bytesV l = some bs → cvc ρ l = some vs → bs.length = l.length ∧ ∀ (j : Nat) (b : UInt8), bs[j]? = some b → vs[j]? = some (Value.int .u8 (b.toNat : Int))
  | [], bs, vs, h, _ => by injection h with h; subst h; exact ⟨rfl, fun j b hb => by cases hb⟩
  | x :: r, bs, vs, h, hv => by
    obtain ⟨v, us, rfl, _, h1, h2⟩ := cvc_cons hv
    unfold bytesV at h
    split at h
    · rename_i b hb
      split at h
      · rename_i l hl
        injection h with h; subst h
        obtain ⟨g1, g2⟩ := bytesV_ok hl h2
        refine ⟨by simp [g1], fun j c hc => ?_⟩
        cases j with
        | zero =>
          injection hc with hc; subst hc
          unfold byteV at hb
          split at hb
          · rename_i m hm
            obtain ⟨hlt, hb2⟩ := ite_some hb
            injection hb2 with hb2
            have hlt : m < 256 := Nat.le_of_ble_eq_true hlt
            rw [V.int?_eq hm] at h1
            rw [cv_k h1, ← hb2]
            simp [UInt8.toNat_ofNat', Nat.mod_eq_of_lt hlt]
          · cases hb
        | succ j => exact g2 j c (by simpa using hc)
      · cases h
    · cases h
theorem u8T_ok (hC : OKC P C) {t : TypeId} (h : u8T C t = true) : ∃ el, P.underlying t = some (.slice el) ∧ P.underlying el = some (.int .u8) := by
  unfold u8T at h
  split at h
  · rename_i el he
    split at h
    · rename_i hk; exact ⟨el, sliceEl_ok hC he, intK_ok hC hk⟩
    · cases h
  · cases h
/-- the cells of a slice's elements -/
theorem HR.cells (hr : HR P w0 ρ h nx w) {i o len : Nat} {c : Cap} {T : TypeId} {xs : List V} {u : Value} (hu : cv ρ (.s i o len c) = some u) (hrow : rowAt h i = some (T, xs)) : ∃ x vs arr, ρ i = some x ∧ u = .slice (some ⟨x.b, x.o + o, none⟩) len (capN x c) ∧ slOk x o len c = true ∧ cvc ρ xs = some vs ∧
    w.heap[x.b]? = some (.cells arr T (0, 0)) ∧ szB P T = some x.s ∧ x.o + x.c * x.s = arr.size ∧ (∀ k v, vs[k]? = some v → arr[x.o + k]? = some v) ∧ x.b < w.heap.size ∧ (∀ k v, vs[o + k]? = some v → w.cell? (Addr.add ⟨x.b, x.o + o, none⟩ k) = some v) := by
  obtain ⟨x, vs, arr, hx, hvs, hb, hget, hsz, hcap, _, _, hlt⟩ := hr.row (rowAt_eq hrow)
  obtain ⟨x', hx', hok, rfl⟩ := cv_s hu
  rw [hx] at hx'
  injection hx' with hx'
  subst hx'
  refine ⟨x, vs, arr, hx, rfl, hok, hvs, hb, hsz, hcap, hget, hlt, fun k v hk => ?_⟩
  rw [Addr.add_lit, cellOf hb, Nat.add_assoc]
  exact hget _ _ hk
theorem rConv_ok (hC : OKC P C) (hr : HR P w0 ρ h nx w) (hf : Fe ρ e n a) {s d : TypeId} {x : Operand} {v : V} (hl : rConv C e h s d x = some v) : Pk P ρ a w (.convert s d x) v := by
  unfold rConv at hl
  obtain ⟨hb, h1⟩ := ite_some hl
  clear hl
  rw [Bool.and_eq_true] at hb
  obtain ⟨el, hs, hel⟩ := u8T_ok hC hb.1
  have hd := isStr_ok hC hb.2
  split at h1
  · rename_i p hp
    split at h1
    · rename_i l hbs
      injection h1 with h1; subst h1
      obtain ⟨u, h2, h3⟩ := opd_ok hf hp
      have key : (Conv.bytesToString u).run P w = .ok (.string ⟨l.toArray⟩) w := by
        unfold bytesOf at hbs
        split at hbs
        · rename_i i o len c hsl
          split at hbs
          · rename_i T xs hrow
            obtain ⟨hlen, hbs2⟩ := ite_some hbs
            clear hbs
            rw [V.sl?_eq hsl] at h2
            obtain ⟨x1, vs, arr, hx1, rfl, _, hvs, _, _, _, _, _, hcell⟩ := hr.cells h2 hrow
            have hl2 := Nat.eq_of_beq_eq_true hlen
            obtain ⟨g1, g2⟩ := bytesV_ok hbs2 (cvc_take len (cvc_drop o hvs))
            rw [hl2] at g1
            have := run_bytes (P := P) (w := w) (ad := ⟨x1.b, x1.o + o, none⟩) (c := capN x1 c) (bs := l) (fun j b hj => hcell j _ (by
              have h9 := g2 j b hj
              rw [List.getElem?_take] at h9
              split at h9
              · rw [List.getElem?_drop] at h9; exact h9
              · cases h9))
            rw [g1] at this
            exact this
          · cases hbs
        · obtain ⟨hn, hbs2⟩ := ite_some hbs
          injection hbs2 with hbs2; subst hbs2
          rw [V.nilS_eq hn] at h2
          rw [cv_k h2]
          simp [Conv.bytesToString]; rfl
      refine ⟨_, cv_str _, fun _ _ _ _ _ => ?_⟩
      subst h3
      cases hu : a.eval x with
      | slice A len c => rw [hu] at key; simp [execOp, hu, convert, run_underlying hs, run_underlying hd, run_underlying hel, key]
      | _ => rw [hu] at key; simp [Conv.bytesToString, stuck] at key
    · cases h1
  · cases h1
theorem rCall_ok (hC : OKC P C) (hr : HR P w0 ρ h nx w) (hf : Fe ρ e n a) {c : Call} {v : V} (hl : rCall C e h c = some v) : Pk P ρ a w (.call c) v := by
  unfold rCall at hl
  split at hl
  · rename_i hcal
    obtain ⟨cal, xs, ts⟩ := c
    subst hcal
    obtain ⟨x, hx, h1⟩ := arg1_ok hl
    obtain ⟨t, tr, ht, h2⟩ := ty1_ok h1
    obtain ⟨us, h3, h4⟩ := args_ok hf hx
    obtain ⟨u, rfl, h5⟩ := cvl1 h3
    have hts : ts[0]? = some t := by rw [← Array.getElem?_toList, ht]; rfl
    unfold lenM at h2
    obtain ⟨hm, h6⟩ := ite_some h2
    obtain ⟨⟨kt, J⟩, hJ⟩ := Option.isSome_iff_exists.1 hm
    obtain ⟨vt, hu, _⟩ := mapTi_ok hC hJ
    split at h6
    · rename_i es hes
      injection h6 with h6; subst h6
      obtain ⟨ks, arr, hks, hp, hcase⟩ := mapOf_ok hr h5 hes
      have hlen : es.length = arr.size := by rw [← cvp_len hks, hp.length_eq]; simp
      refine ⟨_, cv_nt _, fun _ T _ _ _ => ?_⟩
      have key : (Builtin.len_ ts T #[u]).run P w = .ok (.int .i64 (es.length : Int)) w := by
        rcases hcase with ⟨rfl, rfl⟩ | ⟨b, cl, rfl, hb⟩
        · simp [Builtin.len_, hts, run_underlying hu, goInt, hlen]
        · have hg := run_getObj' (P := P) hb (fun _ _ _ h => by cases h)
          simp [Builtin.len_, hts, run_underlying hu, goInt, hg, hlen]
      simp only [execOp, resolve, h4, Sem.run_bind, Sem.run_pure, Result.andThen_ok, invoke, builtin, key]
    · cases h6
  · cases hl
theorem read1_ok (hC : OKC P C) (hr : HR P w0 ρ h nx w) (hf : Fe ρ e n a) {o : Op} {v : V} (hl : read1 C e h o = some v) : Pk P ρ a w o v := by
  unfold read1 at hl
  split at hl
  · exact rLoad_ok hC hr hf hl
  · exact rLook_ok hC hr hf hl
  · exact rEnt_ok hr hf hl
  · exact rConv_ok hC hr hf hl
  · exact rCall_ok hC hr hf hl
  · cases hl
theorem look1_ok (hC : OKC P C) (hr : HR P w0 ρ h nx w) (hf : Fe ρ e n a) {o : Op} {k : Nat} {v : V} (hl : look1 C e h o k = some v) : Pk P ρ a w o v := by
  unfold look1 at hl
  split at hl
  · exact pure1_ok hC hf hl
  · exact read1_ok hC hr hf hl
  · unfold orV at hl
    split at hl
    · rename_i u hu; injection hl with hl; subst hl; exact pure1_ok hC hf hu
    · exact read1_ok hC hr hf hl
end
end Go.M
end

section
set_option linter.unusedVariables false
set_option linter.unusedSimpArgs false
set_option linter.unusedSectionVars false
namespace Go.M
open Go.RowKit Go.Z
/-- an operation that makes something -/
def Mk (P : Program) (ρ : Rho) (nx : Nat) (a : Act) (w : World) (o : Op) (v : V) (ob : O) : Prop := ∃ (obj : Obj) (x : Pl) (u : Value), x.b = w.heap.size ∧ OR P (ρ.add nx x) (w.alloc obj) x ob ∧ cv (ρ.add nx x) v = some u ∧
  ∀ (dst : Option Tmp) (T : TypeId) (pos : String) (af : Array Edge) (gd : Option (Nat × Bool)), (execOp a.eval ⟨dst, o, T, pos, af, gd⟩).run P w = .ok (.value u) (w.alloc obj)
section
variable {P : Program} {C : Cx} {w0 : World} {ρ : Rho} {h : T O} {nx : Nat} {w : World} {e : Env} {n : Nat} {a : Act}
theorem newCells (hq : ρ nx = none) {t : TypeId} {J : Ti} (hC : OKC P C) (hJ : C.ty.get t = some J) {xs : List V} {vs : List Value} (hvs : cvc ρ xs = some vs) (c : Nat) (hc : c * J.n = vs.length) :
    OR P (ρ.add nx ⟨w.heap.size, 0, c, J.n⟩) (w.alloc (.cells vs.toArray t)) ⟨w.heap.size, 0, c, J.n⟩ (.c t xs) :=
  ⟨vs, vs.toArray, cvc_mono (Rho.le_add hq) _ _ hvs, World.alloc_heap_new w _, fun k v hk => by simpa using hk, (hC.ty t J hJ).sz, by simpa using hc⟩
theorem aAl_ok (hC : OKC P C) (hq : ρ nx = none) {t : TypeId} {v : V} {ob : O} (hl : aAl C nx t = some (v, ob)) : Mk P ρ nx a w (.alloc t) v ob := by
  unfold aAl at hl
  split at hl
  · rename_i I hI
    simp only [Option.some.injEq, Prod.mk.injEq] at hl
    obtain ⟨rfl, rfl⟩ := hl
    obtain ⟨z, hz, hzc, _, hzn⟩ := zs_ok (ρ := ρ) hC hI
    refine ⟨.cells z.cells t, ⟨w.heap.size, 0, 1, I.n⟩, _, rfl, by have := newCells (w := w) hq hC hI hzc 1 (by simp [hzn]); simpa using this, cv_p_mk (Rho.add_same _ _ _), fun _ _ _ _ _ => ?_⟩
    simp [execOp, Instr.alloc, hz w, newVar, newRow]
  · cases hl
theorem aBox_ok (hC : OKC P C) (hq : ρ nx = none) (hf : Fe ρ e n a) {t : TypeId} {x : Operand} {v : V} {ob : O} (hl : aBox C e nx t x = some (v, ob)) : Mk P ρ nx a w (.box t x) v ob := by
  unfold aBox at hl
  split at hl
  · rename_i p hp
    split at hl
    · rename_i J hJ
      obtain ⟨hb, h1⟩ := ite_some hl
      rw [Bool.and_eq_true, Bool.not_eq_true'] at hb
      simp only [Option.some.injEq, Prod.mk.injEq] at h1
      obtain ⟨rfl, rfl⟩ := h1
      obtain ⟨u, h2, h3⟩ := opd_ok hf hp
      obtain ⟨vs, h4, h5⟩ := cv_cells hb.1 h2
      have hn := Nat.eq_of_beq_eq_true hb.2
      refine ⟨.cells vs.toArray t, ⟨w.heap.size, 0, 1, J.n⟩, _, rfl, newCells (w := w) hq hC hJ h4 1 (by rw [cvc_len h4]; omega), cv_p_mk (Rho.add_same _ _ _), fun _ _ _ _ _ => ?_⟩
      simp [execOp, h3, Instr.box, newVar, newRow, h5]
    · cases hl
  · cases hl
theorem rep_ok : ∀ {z : List V} {zv : List Value} (m : Nat), cvc ρ z = some zv → cvc ρ (rep z m) = some ((List.range (m * zv.length)).map fun i => zv[i % zv.length]!)
  | z, zv, 0, h => by simp [rep]; unfold cvc; rfl
  | z, zv, m + 1, h => by
    unfold rep
    have := cvc_app h (rep_ok m h)
    rw [this]
    congr 1
    rw [Nat.succ_mul, Nat.add_comm, List.range_add, List.map_append, List.map_map]
    congr 1
    · apply List.ext_getElem
      · simp
      · intro i h1 h2
        simp only [List.length_map, List.length_range] at h2
        simp [Nat.mod_eq_of_lt h2, h2]
    · apply List.map_congr_left
      intro i hi
      simp
theorem fillV_len {pl : Nat → Option (Nat × Nat)} : ∀ {vs : List (Nat × V)} {zs cs : List V}, fillV pl zs vs = some cs → cs.length = zs.length
  | [], zs, cs, h => by injection h with h; rw [h]
  | (i, v) :: r, zs, cs, h => by
    unfold fillV at h
    split at h
    · cases h
    · obtain ⟨hb, h1⟩ := ite_some h
      rw [Bool.and_eq_true, Bool.and_eq_true] at hb
      have h2 := Nat.eq_of_beq_eq_true hb.1.1
      have h3 := Nat.le_of_ble_eq_true hb.1.2
      rw [fillV_len h1]
      simp only [List.length_append, List.length_take, List.length_drop]
      omega
theorem aBs_ok (hC : OKC P C) (hq : ρ nx = none) (hf : Fe ρ e n a) {t : TypeId} {len : Nat} {ps : Array (Nat × Operand)} {v : V} {ob : O} (hl : aBs C e nx t len ps.toList = some (v, ob)) : Mk P ρ nx a w (.buildSlice t len ps) v ob := by
  unfold aBs at hl
  split at hl
  · rename_i el hel
    split at hl
    · rename_i J hJ
      split at hl
      · rename_i vs hvs
        unfold bsV at hl
        obtain ⟨hb, h1⟩ := ite_some hl
        rw [Bool.and_eq_true] at hb
        have hb1 := Nat.le_of_ble_eq_true hb.1
        have hb2 := Nat.le_of_ble_eq_true hb.2
        split at h1
        · rename_i cs hcs
          simp only [Option.some.injEq, Prod.mk.injEq] at h1
          obtain ⟨rfl, rfl⟩ := h1
          obtain ⟨us, g1, g2, g3⟩ := parts_ok hf hvs
          obtain ⟨z, hz, hzc, _, hzn⟩ := zs_ok (ρ := ρ) hC hJ
          have hrep := rep_ok len hzc
          have hzl : z.cells.toList.length = J.n := by simpa using hzn
          rw [hzl] at hrep
          obtain ⟨cv', g4, g5⟩ := fillV_ok hcs hrep g1 g2
          have hul := sliceEl_ok hC hel
          have hlen : cv'.length = len * J.n := by
            rw [cvc_len g4, fillV_len hcs, ← cvc_len hrep]
            simp
          refine ⟨.cells cv'.toArray el, ⟨w.heap.size, 0, len, J.n⟩, _, rfl, newCells (w := w) hq hC hJ g4 len (by omega), cv_s_mk (Rho.add_same _ _ _) (decide_eq_true (Nat.le_refl _)), fun _ _ _ _ _ => ?_⟩
          have hnot : ¬ (2 ^ 24 < len * J.n) := by omega
          simp only [Array.toArray_toList] at g3
          simp only [execOp, g3, Instr.buildSlice, Sem.run_bind, run_underlying hul, Result.andThen_ok, sz_ok hC hJ, gt_iff_lt, hnot, if_false]
          by_cases h0 : len * J.n = 0
          · have hl0 : len = 0 := by
              rcases Nat.mul_eq_zero.1 h0 with h0 | h0
              · exact h0
              · omega
            subst hl0
            simp only [Nat.zero_mul, if_true, Sem.run_pure, Result.andThen_ok]
            have g5' : Instr.fill (fun i => some (i * J.n, J.n)) #[] us = some cv'.toArray := by simpa using g5
            have e0 : (Array.range 0).map (fun _ => (default : Value)) = #[] := by apply Array.toList_inj.1; simp
            simp [e0, g5', newRow, capN]
          · simp only [h0, if_false, Sem.run_bind, hz w, Result.andThen_ok, Sem.run_pure]
            have e1 : (Array.range (len * J.n)).map (fun x => z.cells[x % z.cells.size]!) = ((List.range (len * J.n)).map fun i => z.cells.toList[i % J.n]!).toArray := by
              apply Array.toList_inj.1
              simp only [Array.toList_map, Array.toList_range]
              apply List.map_congr_left
              intro i _
              rw [hzn]
              simp [getElem!_def]
            rw [e1, g5]
            simp [newRow, capN]
        · cases h1
      · cases hl
    · cases hl
  · cases hl
theorem aRg_ok (hC : OKC P C) {nm : Nat} (hr : HR P w0 ρ h nm w) (hq : ρ nx = none) (hf : Fe ρ e n a) {t : TypeId} {x : Operand} {v : V} {ob : O} (hl : aRg C e h nx t x = some (v, ob)) : Mk P ρ nx a w (.range t x) v ob := by
  unfold aRg at hl
  split at hl
  · rename_i p hp
    obtain ⟨u, h2, h3⟩ := opd_ok hf hp
    unfold rgV at hl
    split at hl
    · rename_i m hm
      obtain ⟨hb, h1⟩ := ite_some hl
      obtain ⟨⟨kt, J⟩, hJ⟩ := Option.isSome_iff_exists.1 hb
      obtain ⟨vt, hu, _⟩ := mapTi_ok hC hJ
      split at h1
      · rename_i es c hmc
        simp only [Option.some.injEq, Prod.mk.injEq] at h1
        obtain ⟨rfl, rfl⟩ := h1
        obtain ⟨pp, hg⟩ := mapC_eq hmc
        rw [V.map?_eq hm] at h2
        obtain ⟨y, hy, rfl⟩ := cv_m h2
        obtain ⟨hmn, y', hy', _, hlt, ks, arr, _, harr, _⟩ := hr.live m _ hg
        rw [hy] at hy'
        injection hy' with e1
        subst e1
        have hle := Rho.le_add (ρ := ρ) (x := ⟨w.heap.size, 0, 0, 0⟩) hq
        refine ⟨.mapIter (some y.b) c #[] c, ⟨w.heap.size, 0, 0, 0⟩, .pointer (some ⟨w.heap.size, 0, none⟩), rfl, ⟨y, c, #[], hle _ _ hy, by simp; omega, World.alloc_heap_new w _, fun _ => ⟨rfl, rfl⟩, fun k al hk => by cases hk⟩, by unfold cv; rw [Rho.add_same], fun _ _ _ _ _ => ?_⟩
        have r1 := run_getObj' (P := P) harr (fun _ _ _ h => by cases h)
        simp [execOp, h3, Instr.range, run_underlying hu, r1]
      · cases h1
    · split at hl
      · rename_i s hs
        obtain ⟨hb, h1⟩ := ite_some hl
        simp only [Option.some.injEq, Prod.mk.injEq] at h1
        obtain ⟨rfl, rfl⟩ := h1
        rw [V.str?_eq hs] at h2
        rw [cv_k h2] at h3
        refine ⟨.stringIter s 0, ⟨w.heap.size, 0, 0, 0⟩, .pointer (some ⟨w.heap.size, 0, none⟩), rfl, World.alloc_heap_new w _, by unfold cv; rw [Rho.add_same], fun _ _ _ _ _ => ?_⟩
        simp [execOp, h3, Instr.range, run_underlying (isStr_ok hC hb)]
      · obtain ⟨hb, h1⟩ := ite_some hl
        rw [Bool.and_eq_true] at hb
        simp only [Option.some.injEq, Prod.mk.injEq] at h1
        obtain ⟨rfl, rfl⟩ := h1
        obtain ⟨⟨kt, J⟩, hJ⟩ := Option.isSome_iff_exists.1 hb.2
        obtain ⟨vt, hu, _⟩ := mapTi_ok hC hJ
        rw [isNilM_eq hb.1] at h2
        rw [cv_k h2] at h3
        refine ⟨.mapIter none 0 #[] 0, ⟨w.heap.size, 0, 0, 0⟩, .pointer (some ⟨w.heap.size, 0, none⟩), rfl, ⟨_, _, _, World.alloc_heap_new w _⟩, by unfold cv; rw [Rho.add_same], fun _ _ _ _ _ => ?_⟩
        simp [execOp, h3, Instr.range, run_underlying hu]
  · cases hl
theorem alloc1_ok (hC : OKC P C) {nm : Nat} (hr : HR P w0 ρ h nm w) (hq : ρ nx = none) (hf : Fe ρ e n a) {o : Op} {v : V} {ob : O} (hl : alloc1 C e h nx o = some (v, ob)) : Mk P ρ nx a w o v ob := by
  unfold alloc1 at hl
  split at hl
  · exact aAl_ok hC hq hl
  · exact aBox_ok hC hq hf hl
  · exact aBs_ok hC hq hf hl
  · rename_i t r
    obtain ⟨hb, h1⟩ := ite_some hl
    simp only [Option.some.injEq, Prod.mk.injEq] at h1
    obtain ⟨rfl, rfl⟩ := h1
    have hr0 : r = none := by cases r <;> first | rfl | cases hb
    subst hr0
    refine ⟨.map #[] 0, ⟨w.heap.size, 0, 0, 0⟩, .map (some w.heap.size), rfl, ⟨[], #[], by unfold cvp; rfl, World.alloc_heap_new w _, by simp, by simp, by simp, fun j k hk => by cases hk⟩, by unfold cv; rw [Rho.add_same], fun _ _ _ _ _ => ?_⟩
    simp [execOp, Instr.makeMap]
  · exact aRg_ok hC hr hq hf hl
  · cases hl
end
end Go.M
end

section
set_option linter.unusedVariables false
set_option linter.unusedSimpArgs false
set_option linter.unusedSectionVars false
namespace Go.M
open Go.RowKit Go.Z
/-- an operation that changes memory -/
def Do (P : Program) (w0 : World) (ρ : Rho) (s : S) (a : Act) (w : World) (o : Op) (v : V) (s' : S) : Prop := ∃ (ρ' : Rho) (w' : World) (u : Value) (nxt : Next), s' = s.sethn s'.h s'.nx ∧ HR P w0 ρ' s'.h s'.nx w' ∧ Tr ρ s.h s.nx w ρ' s'.h s'.nx w' s.fl ∧ cv ρ' v = some u ∧
  (nxt = .value u ∨ nxt = .skip ∧ u = undef) ∧ ∀ (dst : Option Tmp) (T : TypeId) (pos : String) (af : Array Edge) (gd : Option (Nat × Bool)), (execOp a.eval ⟨dst, o, T, pos, af, gd⟩).run P w = .ok nxt w'
theorem cv_un {ρ : Rho} : cv ρ un = some undef := by unfold un; exact cv_t_mk (by unfold cvl; rfl)
theorem get_put {α : Type} {L us : List α} {p : Nat} (hp : p + us.length ≤ L.length) (j : Nat) : (L.take p ++ us ++ L.drop (p + us.length))[j]? = if j < p then L[j]? else if j < p + us.length then us[j - p]? else L[j]? := by
  rw [List.append_assoc, List.getElem?_append]
  simp only [List.length_take, Nat.min_eq_left (show p ≤ L.length by omega)]
  split
  · rename_i h1; rw [List.getElem?_take, if_pos h1]
  · rename_i h1
    rw [List.getElem?_append]
    split
    · rename_i h2; rw [if_pos (by omega)]
    · rename_i h2
      rw [if_neg (by omega), List.getElem?_drop]
      congr 1
      omega
section
variable {P : Program} {C : Cx} {w0 : World} {ρ : Rho} {h : T O} {nx fl : Nat} {w : World} {e : Env} {n : Nat} {a : Act} {s s' : S}
theorem row_in {vs : List Value} {arr : Array Value} {o0 k : Nat} (hget : ∀ k v, vs[k]? = some v → arr[o0 + k]? = some v) (h0 : o0 ≤ arr.size) (hk : k ≤ vs.length) : o0 + k ≤ arr.size := by
  cases k with
  | zero => simpa using h0
  | succ k =>
    have := hget k _ (List.getElem?_eq_getElem (by omega))
    have := (Array.getElem?_eq_some_iff.1 this).1
    omega
theorem splice_ok {xs ys zs : List V} {o : Nat} (hs : splice xs o ys = some zs) : o + ys.length ≤ xs.length ∧ zs = xs.take o ++ ys ++ xs.drop (o + ys.length) := by
  unfold splice at hs
  obtain ⟨hb, h1⟩ := ite_some hs
  injection h1 with h1
  exact ⟨Nat.le_of_ble_eq_true hb, h1.symm⟩
theorem HR.write (hr : HR P w0 ρ h nx w) {i : Nat} {T : TypeId} {xs ys zs : List V} {us : List Value} {o : Nat} (hi : h.get i = some (.c T xs)) (hfl : fl ≤ i) (hs : splice xs o ys = some zs) (hus : cvc ρ ys = some us) :
    ∃ x arr w', ρ i = some x ∧ w.heap[x.b]? = some (.cells arr T (0, 0)) ∧ x.o + o + us.length ≤ arr.size ∧ w' = w.setRow x.b (arr.toList.take (x.o + o) ++ us ++ arr.toList.drop (x.o + o + us.length)).toArray ∧
      HR P w0 ρ (h.set i (.c T zs)) nx w' ∧ Tr ρ h nx w ρ (h.set i (.c T zs)) nx w' fl := by
  obtain ⟨x, vs, arr, hx, hvs, hb, hget, hsz, hcap, _, _, hlt⟩ := hr.row hi
  obtain ⟨h1, rfl⟩ := splice_ok hs
  have hul := cvc_len hus
  have hvl := cvc_len hvs
  have hin : x.o + (o + us.length) ≤ arr.size := row_in hget (by omega) (by omega)
  have hset : (w.setRow x.b (arr.toList.take (x.o + o) ++ us ++ arr.toList.drop (x.o + o + us.length)).toArray).heap[x.b]? = some (.cells (arr.toList.take (x.o + o) ++ us ++ arr.toList.drop (x.o + o + us.length)).toArray T (0, 0)) := setRow_heap w x.b arr _ T (0, 0) hb
  have hoth : ∀ k, k ≠ x.b → (w.setRow x.b (arr.toList.take (x.o + o) ++ us ++ arr.toList.drop (x.o + o + us.length)).toArray).heap[k]? = w.heap[k]? := fun k hk => setRow_other w x.b k _ hk
  have hss : (w.setRow x.b (arr.toList.take (x.o + o) ++ us ++ arr.toList.drop (x.o + o + us.length)).toArray).heap.size = w.heap.size := by simp [World.setRow]
  refine ⟨x, arr, _, hx, hb, by omega, rfl, hr.upd hi hx hss hoth rfl rfl rfl (fun arr' c' ha => ?_) ?_, Tr.upd hr hi hx hss hoth hfl⟩
  · rw [hset] at ha; injection ha with ha; cases ha
  · refine ⟨vs.take o ++ us ++ vs.drop (o + us.length), _, by rw [hul]; exact cvc_app (cvc_app (cvc_take o hvs) hus) (cvc_drop _ hvs), hset, fun k v hk => ?_, hsz, ?_⟩
    · rw [get_put (by omega)] at hk
      simp only [List.getElem?_toArray]
      rw [get_put (by simp; omega)]
      split at hk
      · rename_i g1
        rw [if_pos (by omega)]
        have := hget k v hk
        simpa using this
      · rename_i g1
        rw [if_neg (by omega)]
        split at hk
        · rename_i g2
          rw [if_pos (by omega), ← hk]
          congr 1
          omega
        · rename_i g2
          rw [if_neg (by omega)]
          have := hget k v hk
          simpa using this
    · simp only [List.size_toArray, List.length_append, List.length_take, List.length_drop, Array.length_toList]
      omega
theorem blt_false {i fl : Nat} (hb : Nat.blt i fl = false) : fl ≤ i := by
  rcases Nat.lt_or_ge i fl with h1 | h1
  · have : Nat.blt i fl = true := Nat.ble_eq_true_of_le h1
    rw [this] at hb; cases hb
  · exact h1
theorem eStore_ok (hC : OKC P C) (hr : HR P w0 ρ s.h s.nx w) (hf : Fe ρ s.env n a) {t : TypeId} {x y : Operand} {v : V} (hl : eStore C s t x y = some (v, s')) : Do P w0 ρ s a w (.store t x y) v s' := by
  unfold eStore at hl
  split at hl
  · rename_i p hp
    split at hl
    · rename_i i o hpp
      split at hl
      · rename_i q hq
        split at hl
        · rename_i J hJ
          obtain ⟨hb, h1⟩ := ite_some hl
          rw [Bool.and_eq_true, Bool.not_eq_true'] at hb
          unfold storeAt at h1
          obtain ⟨hfl, h2⟩ := ite_none h1
          split at h2
          · rename_i T xs hrow
            split at h2
            · rename_i ys hys
              simp only [Option.some.injEq, Prod.mk.injEq] at h2
              obtain ⟨rfl, rfl⟩ := h2
              obtain ⟨u1, g1, g2⟩ := opd_ok hf hp
              obtain ⟨u2, g3, g4⟩ := opd_ok hf hq
              obtain ⟨us, g5, g6⟩ := cv_cells hb.2 g3
              rw [V.ptr?_eq hpp] at g1
              obtain ⟨x1, hx1, rfl⟩ := cv_p g1
              obtain ⟨x2, arr, w', k1, k2, k3, k4, k5, k6⟩ := hr.write (rowAt_eq hrow) (blt_false hfl) hys g5
              rw [hx1] at k1
              injection k1 with k1
              subst k1
              refine ⟨ρ, w', undef, .skip, rfl, k5, k6, cv_un, .inr ⟨rfl, rfl⟩, fun _ _ _ _ _ => ?_⟩
              have hn : us.length = J.n := by rw [cvc_len g5]; exact Nat.eq_of_beq_eq_true hb.1
              have hrun := run_storeB (P := P) (t := t) (v := u2) (new := us) (m := J.n) (cs := arr.toList) (bt := T) (g := x1.b) (o := x1.o + o) (by simpa [Blk] using k2) (sz_ok hC hJ) g6 hn (by simp; omega) (cvc_one g5)
              rw [← hn, ← k4] at hrun
              simp only [execOp, g2, g4, Sem.run_bind, hrun, Result.andThen_ok, Sem.run_pure]
            · cases h2
          · cases h2
        · cases hl
      · cases hl
    · cases hl
  · cases hl
/-! ### maps -/
theorem mapI_ok (hf : Fe ρ e n a) {m : Operand} {i : Nat} (hm : mapI e m = some i) : ∃ x, ρ i = some x ∧ a.eval m = .map (some x.b) := by
  unfold mapI at hm
  split at hm
  · rename_i v hv
    obtain ⟨u, h1, h2⟩ := opd_ok hf hv
    rw [V.map?_eq hm] at h1
    obtain ⟨x, hx, rfl⟩ := cv_m h1
    exact ⟨x, hx, h2⟩
  · cases hm
theorem mapW_ok {i c : Nat} {es : List (V × V)} (hm : mapW s i = some (es, c)) : s.fl ≤ i ∧ ∃ p, s.h.get i = some (.m es c p) := by
  unfold mapW at hm
  obtain ⟨hb, h1⟩ := ite_none hm
  refine ⟨blt_false hb, ?_⟩
  split at h1
  · rename_i es' c' p hg; simp only [Option.some.injEq, Prod.mk.injEq] at h1; obtain ⟨rfl, rfl⟩ := h1; exact ⟨p, hg⟩
  · cases h1
theorem sameBits_flat {v : Value} {d : Nat} (hv : flatV v = true) : Instr.sameBits d v v = true := by
  cases v <;> first | (cases hv; done) | (cases d <;> simp [Instr.sameBits]; done) | (cases d <;> simp only [Instr.sameBits] <;> exact bbeq _)
theorem sameBits_self {k : V} {u : Value} (hk : flatK k = true) (hu : cv ρ k = some u) : Instr.sameBits 10000 u u = true := by
  cases k with
  | k v => rw [cv_k hu]; exact sameBits_flat hk
  | g l =>
    obtain ⟨vs, h1, rfl⟩ := cv_g hu
    replace hk : l.all flatC = true := hk
    have hall : ∀ v ∈ vs, flatV v = true := by
      clear hu
      induction l generalizing vs with
      | nil => rw [cvc_nil h1]; intro v hv; cases hv
      | cons x r ih =>
        rw [List.all_cons, Bool.and_eq_true] at hk
        obtain ⟨v, us, rfl, _, h2, h3⟩ := cvc_cons h1
        intro y hy
        rcases List.mem_cons.1 hy with rfl | hy
        · cases x with
          | k q => rw [cv_k h2]; exact hk.1
          | _ => cases hk.1
        · exact ih us h3 hk.2 y hy
    show (vs.toArray.size == vs.toArray.size && (vs.toArray.toList.zip vs.toArray.toList).all fun (x, y) => Instr.sameBits 9999 x y) = true
    simp only [BEq.rfl, Bool.true_and, List.all_eq_true]
    intro q hq
    have hz : ∀ {l : List Value}, q ∈ l.zip l → q.1 = q.2 ∧ q.1 ∈ l := fun {l} => by
      induction l with
      | nil => intro h; cases h
      | cons b l ih =>
        intro h
        rw [List.zip_cons_cons] at h
        rcases List.mem_cons.1 h with rfl | h
        · exact ⟨rfl, List.mem_cons_self ..⟩
        · obtain ⟨g1, g2⟩ := ih h; exact ⟨g1, List.mem_cons_of_mem _ g2⟩
    obtain ⟨g1, g2⟩ := hz hq
    obtain ⟨q1, q2⟩ := q
    simp only at g1 g2
    subst g1
    exact sameBits_flat (hall q1 (by simpa using g2))
  | _ => cases hk
theorem run_setObj' {r : Nat} {o o' : Obj} (hr : w.heap[r]? = some o) (hn : ∀ c t f, o ≠ .cells c t f) : (setObj r o').run P w = .ok () (w.putObj r o') := by
  cases o <;> first | (exact absurd rfl (hn _ _ _)) | simp [setObj, Sem.run, hr, World.putObj]
theorem setAt_eq {v x u : V} {b : List (V × V)} : ∀ (a : List (V × V)), setAt v (a ++ (x, u) :: b) a.length = a ++ (x, v) :: b
  | [] => rfl
  | (y, z) :: a => by simp only [List.cons_append, List.length_cons]; show (y, z) :: setAt v _ _ = _; rw [setAt_eq a]
/-- a map is changed -/
theorem HR.putMap (hr : HR P w0 ρ h nx w) {i c c' : Nat} {es es' : List (V × V)} {p p' : Option (Nat × Nat)} {x : Pl} {arr arr' : Array MapEntry} {ks' : List (Value × Value)} (hi : h.get i = some (.m es c p)) (hx : ρ i = some x) (harr : w.heap[x.b]? = some (.map arr c)) (hlt : x.b < w.heap.size)
    (h1 : cvp ρ es' = some ks') (h2 : ks'.Perm (arr'.toList.map fun e => (e.key, e.val))) (h3 : (arr'.toList.map (·.born)).Nodup) (h4 : ∀ e ∈ arr'.toList, e.born < c') (h5 : ∀ j q, p' = some (j, q) → ∃ y A ent B ka kb, ρ j = some y ∧ arr'.toList = A ++ ent :: B ∧ ent.born = y.b ∧ ks' = ka ++ (ent.key, ent.val) :: kb ∧ ka.length = q ∧ (ka ++ kb).Perm ((A ++ B).map fun e => (e.key, e.val)))
    (hc : c ≤ c') (hben : c' = c → ∀ e' ∈ arr'.toList, ∃ e ∈ arr.toList, e.key = e'.key ∧ e.born = e'.born) (hfl : fl ≤ i) :
    HR P w0 ρ (h.set i (.m es' c' p')) nx (w.putObj x.b (.map arr' c')) ∧ Tr ρ h nx w ρ (h.set i (.m es' c' p')) nx (w.putObj x.b (.map arr' c')) fl := by
  have hsame : (w.putObj x.b (.map arr' c')).heap[x.b]? = some (.map arr' c') := World.putObj_heap_same hlt
  have hoth : ∀ k, k ≠ x.b → (w.putObj x.b (.map arr' c')).heap[k]? = w.heap[k]? := fun k hk => World.putObj_heap_other hk
  have hss : (w.putObj x.b (.map arr' c')).heap.size = w.heap.size := by simp
  exact ⟨hr.upd hi hx hss hoth rfl rfl rfl (fun a2 c2 ha => by
    rw [hsame] at ha
    injection ha with ha
    injection ha with e1 e2
    subst e1; subst e2
    exact ⟨arr, c, harr, hc, hben⟩) ⟨ks', arr', h1, hsame, h2, h3, h4, h5⟩, Tr.upd hr hi hx hss hoth hfl⟩
end
end Go.M
end

section
set_option linter.unusedVariables false
set_option linter.unusedSimpArgs false
set_option linter.unusedSectionVars false
namespace Go.M
open Go.RowKit Go.Z
section
variable {P : Program} {C : Cx} {w0 : World} {ρ : Rho} {h : T O} {nx fl : Nat} {w : World} {e : Env} {n : Nat} {a : Act} {s s' : S}
theorem list_modify {α : Type} (f : α → α) (x : α) (B : List α) : ∀ A : List α, (A ++ x :: B).modify A.length f = A ++ f x :: B
  | [] => rfl
  | a :: A => by simp only [List.cons_append, List.length_cons, List.modify_succ_cons, list_modify f x B A]
theorem arr_modify {arr : Array MapEntry} {A B : List MapEntry} {e0 : MapEntry} (h : arr.toList = A ++ e0 :: B) (f : MapEntry → MapEntry) : (arr.modify A.length f).toList = A ++ f e0 :: B := by
  rw [Array.toList_modify, h, list_modify]
theorem arr_get {arr : Array MapEntry} {A B : List MapEntry} {e0 : MapEntry} (h : arr.toList = A ++ e0 :: B) : arr[A.length]? = some e0 := by
  rw [← Array.getElem?_toList, h]; simp
theorem lookB_ok (hC : OKC P C) {kt : TypeId} {k : V} {u : Value} {es : List (V × V)} {r : Option (Nat × V × V)} (hu : cv ρ k = some u) (hl : lookB C kt k es = some r) : look C kt k es 0 = some r ∧ (∀ em w, (Instr.checkKey em 10000 kt u).run P w = .ok () w) ∧ ∃ d, P.underlying kt = some d := by
  unfold lookB at hl
  obtain ⟨hb, h1⟩ := ite_some hl
  unfold keyB at hb
  rw [Bool.and_eq_true] at hb
  refine ⟨h1, fun em w => keyT_ok hC em 20 9980 kt k u hb.1 hb.2 hu, ?_⟩
  have hb1 := hb.1
  unfold keyT at hb1
  cases hI : C.ty.get kt with
  | none => rw [hI] at hb1; cases hb1
  | some I => exact ⟨_, (hC.ty kt I hI).u⟩
theorem perm_set {α : Type} {ka kb : List α} {y : α} {β : Type} {f : β → α} {A B : List β} {b : β} (hp : (ka ++ kb).Perm ((A ++ B).map f)) (hb : f b = y) : (ka ++ y :: kb).Perm ((A ++ b :: B).map f) := by
  rw [List.map_append, List.map_cons, hb]
  rw [List.map_append] at hp
  exact List.perm_middle.trans ((hp.cons y).trans List.perm_middle.symm)
theorem keyStays {u : Value} (h : Instr.sameBits 10000 u u = true) (w : World) : (Instr.keyThatStays u u).run P w = .ok u w := by
  simp [Instr.keyThatStays, h]
/-- another value, or a new entry -/
theorem putM_ok (hC : OKC P C) (hr : HR P w0 ρ s.h s.nx w) {t : TypeId} {kt vt : TypeId} {i c : Nat} {es : List (V × V)} {k v r : V} {uk uv : Value} {x : Pl} (hx : ρ i = some x) (hu : P.underlying t = some (.map kt vt)) (hk : cv ρ k = some uk) (hv : cv ρ v = some uv) (hm : mapW s i = some (es, c))
    (hl : putM s i es c k v (lookB C kt k es) = some (r, s')) : ∃ w', s' = s.sethn s'.h s'.nx ∧ r = un ∧ HR P w0 ρ s'.h s'.nx w' ∧ Tr ρ s.h s.nx w ρ s'.h s'.nx w' s.fl ∧ (Instr.mapUpdate t (.map (some x.b)) uk uv).run P w = .ok () w' := by
  obtain ⟨hfl, p, hg⟩ := mapW_ok hm
  obtain ⟨_, x', hx', _, hlt, ks, arr, hks, harr, hperm, hnod, hborn, _⟩ := hr.live i _ hg
  rw [hx] at hx'
  injection hx' with e1
  subst e1
  have hget := run_getObj' (P := P) harr (fun _ _ _ h => by cases h)
  have hset : ∀ o', (setObj x.b o').run P w = .ok () (w.putObj x.b o') := fun o' => run_setObj' harr (fun _ _ _ h => by cases h)
  unfold putM at hl
  split at hl
  · rename_i p0 x0 v0 hlk
    obtain ⟨hb, h1⟩ := ite_some hl
    rw [Bool.and_eq_true] at hb
    simp only [Option.some.injEq, Prod.mk.injEq] at h1
    obtain ⟨rfl, rfl⟩ := h1
    obtain ⟨hlk2, hck, d, hd⟩ := lookB_ok hC hk hlk
    obtain ⟨A, e0, B, a1, b1, ka, kb, hat, rfl, rfl, rfl, hxk, hval, hka, hkb, hp2⟩ := find_some hC hk hlk2 hks hperm
    have := beq_eq _ _ hb.1
    subst this
    rw [hk] at hxk
    injection hxk with hxk
    subst hxk
    have hmod := arr_modify hat.eq (fun e => { e with key := e0.key, val := uv })
    obtain ⟨g1, g2⟩ := hr.putMap (fl := s.fl) (es' := setAt v (a1 ++ (k, v0) :: b1) a1.length) (p' := none) (c' := c) (arr' := arr.modify A.length fun e => { e with key := e0.key, val := uv }) (ks' := ka ++ (e0.key, uv) :: kb) hg hx harr hlt
      (by rw [setAt_eq]; exact cvp_app hka (cvp_mk hk hv hkb)) (by rw [hmod]; exact perm_set hp2 rfl) (by rw [hmod]; rw [hat.eq] at hnod; simpa using hnod)
      (fun e he => by
        rw [hmod] at he
        rcases List.mem_append.1 he with he | he
        · exact hborn e (by rw [hat.eq]; exact List.mem_append_left _ he)
        · rcases List.mem_cons.1 he with rfl | he
          · exact hborn e0 (by rw [hat.eq]; exact List.mem_append_right _ (List.mem_cons_self ..))
          · exact hborn e (by rw [hat.eq]; exact List.mem_append_right _ (List.mem_cons_of_mem _ he)))
      (fun j q hq => by cases hq) (Nat.le_refl _)
      (fun _ e' he' => by
        rw [hmod] at he'
        rw [hat.eq]
        rcases List.mem_append.1 he' with he | he
        · exact ⟨e', List.mem_append_left _ he, rfl, rfl⟩
        · rcases List.mem_cons.1 he with rfl | he
          · exact ⟨e0, List.mem_append_right _ (List.mem_cons_self ..), rfl, rfl⟩
          · exact ⟨e', List.mem_append_right _ (List.mem_cons_of_mem _ he), rfl, rfl⟩) hfl
    refine ⟨_, rfl, rfl, g1, g2, ?_⟩
    have hfind := find_at hd hat.yes hat.noA (B := B) w
    rw [← hat.eq] at hfind
    have hkey := keyStays (P := P) (sameBits_self hb.2 hk) w
    simp only [Instr.mapUpdate, Sem.run_bind, run_underlying hu, Result.andThen_ok, hget, hck, hfind, arr_get hat.eq, Option.map_some, Option.getD_some, hkey, hset]
  · rename_i hlk
    simp only [Option.some.injEq, Prod.mk.injEq] at hl
    obtain ⟨rfl, rfl⟩ := hl
    obtain ⟨hlk2, hck, d, hd⟩ := lookB_ok hC hk hlk
    have hno := find_none hC hk hlk2 hks hperm
    obtain ⟨g1, g2⟩ := hr.putMap (fl := s.fl) (es' := es ++ [(k, v)]) (p' := none) (c' := c + 1) (arr' := arr.push { key := uk, val := uv, born := c }) (ks' := ks ++ [(uk, uv)]) hg hx harr hlt
      (cvp_app hks (cvp_mk hk hv (by unfold cvp; rfl))) (by rw [Array.toList_push, List.map_append]; exact hperm.append_right _)
      (by
        rw [Array.toList_push, List.map_append, List.nodup_append]
        refine ⟨hnod, by simp, fun b hb q hq => ?_⟩
        obtain ⟨e, he, rfl⟩ := List.mem_map.1 hb
        have := hborn e he
        simp at hq
        omega)
      (fun e he => by
        rw [Array.toList_push] at he
        rcases List.mem_append.1 he with he | he
        · have := hborn e he; omega
        · simp at he; subst he; simp)
      (fun j q hq => by cases hq) (by omega) (fun hc => by omega) hfl
    refine ⟨_, rfl, rfl, g1, g2, ?_⟩
    have hfind := find_no hd hno w
    simp only [Instr.mapUpdate, Sem.run_bind, run_underlying hu, Result.andThen_ok, hget, hck, hfind, hset]
  · cases hl
theorem eUpd_ok (hC : OKC P C) (hr : HR P w0 ρ s.h s.nx w) (hf : Fe ρ s.env n a) {t : TypeId} {m k x : Operand} {v : V} {o : Op} (ho : o = .mapUpdate t m k x ∨ o = .insert t m k x) (hl : eUpd C s t m k x = some (v, s')) : Do P w0 ρ s a w o v s' := by
  unfold eUpd at hl
  split at hl
  · rename_i i hi
    split at hl
    · rename_i kv hkv
      split at hl
      · rename_i xv hxv
        split at hl
        · rename_i kt J hJ
          split at hl
          · rename_i es c hm
            obtain ⟨x1, hx1, hm1⟩ := mapI_ok hf hi
            obtain ⟨uk, h1, h2⟩ := opd_ok hf hkv
            obtain ⟨uv, h3, h4⟩ := opd_ok hf hxv
            obtain ⟨vt, hu, _⟩ := mapTi_ok hC hJ
            obtain ⟨w', g1, rfl, g3, g4, g5⟩ := putM_ok hC hr hx1 hu h1 h3 hm hl
            refine ⟨ρ, w', undef, .skip, g1, g3, g4, cv_un, .inr ⟨rfl, rfl⟩, fun _ _ _ _ _ => ?_⟩
            rcases ho with rfl | rfl <;> simp only [execOp, hm1, h2, h4, Sem.run_bind, g5, Result.andThen_ok, Sem.run_pure]
          · cases hl
        · cases hl
      · cases hl
    · cases hl
  · cases hl
end
end Go.M
end

section
set_option linter.unusedVariables false
set_option linter.unusedSimpArgs false
set_option linter.unusedSectionVars false
namespace Go.M
open Go.RowKit Go.Z
section
variable {P : Program} {C : Cx} {w0 : World} {ρ : Rho} {h : T O} {nx fl : Nat} {w w' : World} {e : Env} {n : Nat} {a : Act} {s s' : S}
/-- what stood goes by another name -/
theorem HR.move (hr : HR P w0 ρ h nx w) {i : Nat} {o o' : O} {x x' : Pl} (hi : h.get i = some o) (hx : ρ i = some x) (hb : x'.b = x.b) (hs : w'.heap.size = w.heap.size) (hw : ∀ k, k ≠ x.b → w'.heap[k]? = w.heap[k]?) (h1 : w'.os = w.os) (h2 : w'.tape = w.tape) (h3 : w'.output = w.output)
    (hben : Ben w w' x.b) (ho : OR P (ρ.add nx x') w' x' o') : HR P w0 (ρ.add nx x') ((h.del i).set nx o') (nx + 1) w' := by
  obtain ⟨hin, y, hy, hlo, hhi, _⟩ := hr.live i o hi
  rw [hx] at hy
  injection hy with hy
  subst hy
  have hl : Le ρ (ρ.add nx x') := Rho.le_add (hr.top nx (Nat.le_refl _))
  have hbenAll : ∀ b, b < w.heap.size → Ben w w' b := fun b _ => by
    by_cases hb : b = x.b
    · subst hb; exact hben
    · exact Ben.of_eq (hw b hb)
  have old : ∀ {k r}, k ≠ nx → ((h.del i).set nx o').get k = some r → h.get k = some r ∧ k ≠ i := fun {k r} hk hg => by
    rw [T.get_set_other _ _ hk, T.get_del] at hg
    split at hg
    · cases hg
    · rename_i e1; exact ⟨hg, e1⟩
  have apart : ∀ {k r y}, h.get k = some r → k ≠ i → ρ k = some y → y.b ≠ x.b := fun {k r y} hk hki hy e1 => hki (hr.inj k i r o y x hk hi hy hx e1)
  refine ⟨fun j p hj => ?_, fun j k p q y z hj hk hy hz e1 => ?_, fun j hj => ?_, fun k hk => (hw k (by omega)).trans (hr.base k hk), by rw [hs]; exact hr.size, h1.trans hr.os, h2.trans hr.tape, h3.trans hr.output⟩
  · by_cases hjn : j = nx
    · subst hjn
      rw [T.get_set_same] at hj
      injection hj with hj
      subst hj
      exact ⟨by omega, x', Rho.add_same _ _ _, by omega, by omega, ho⟩
    · obtain ⟨g1, g2⟩ := old hjn hj
      obtain ⟨k1, y, k2, k3, k4, k5⟩ := hr.live j p g1
      exact ⟨by omega, y, hl _ _ k2, k3, by omega, OR.keep hl (by omega) (hw y.b (apart g1 g2 k2)) hbenAll k5⟩
  · have res : ∀ {k r y}, k ≠ nx → h.get k = some r → (ρ.add nx x') k = some y → ρ k = some y := fun {k r y} hk _ hy => by rwa [Rho.add_other hk] at hy
    by_cases hjn : j = nx <;> by_cases hkn : k = nx
    · omega
    · subst hjn
      rw [Rho.add_same] at hy
      injection hy with hy; subst hy
      obtain ⟨g1, g2⟩ := old hkn hk
      exact absurd (by rw [← e1, hb]) (apart g1 g2 (res hkn g1 hz))
    · subst hkn
      rw [Rho.add_same] at hz
      injection hz with hz; subst hz
      obtain ⟨g1, g2⟩ := old hjn hj
      exact absurd (by rw [e1, hb]) (apart g1 g2 (res hjn g1 hy))
    · obtain ⟨g1, _⟩ := old hjn hj
      obtain ⟨g3, _⟩ := old hkn hk
      exact hr.inj j k p q y z g1 g3 (res hjn g1 hy) (res hkn g3 hz) e1
  · rw [Rho.add_other (by omega)]; exact hr.top j (by omega)
theorem Tr.move (hr : HR P w0 ρ h nx w) {i : Nat} {o o' : O} {x x' : Pl} (hi : h.get i = some o) (hx : ρ i = some x) (hb : x'.b = x.b) (hs : w'.heap.size = w.heap.size) (hw : ∀ k, k ≠ x.b → w'.heap[k]? = w.heap[k]?) (hfl : fl ≤ i) (hnx : fl ≤ nx) : Tr ρ h nx w (ρ.add nx x') ((h.del i).set nx o') (nx + 1) w' fl :=
  ⟨Rho.le_add (hr.top nx (Nat.le_refl _)), by omega, by omega, fun b hb2 hn => hw b fun e1 => hn i o x hi hx e1.symm, fun j p y hj hy _ => by
    by_cases hjn : j = nx
    · subst hjn
      rw [Rho.add_same] at hy
      injection hy with hy; subst hy
      exact ⟨i, o, x, hi, hx, hb.symm⟩
    · rw [T.get_set_other _ _ hjn, T.get_del] at hj
      rw [Rho.add_other hjn] at hy
      split at hj
      · cases hj
      · exact ⟨j, p, y, hj, hy, rfl⟩, fun j hj => by rw [T.get_set_other _ _ (by omega), T.get_del, if_neg (by omega)], fun j p y hj h1 h2 => hw y.b fun e => by have := hr.inj j i p o y x h1 hi h2 hx e; omega, fun j hj h1 => by rw [Rho.add_other (by omega)]; exact h1⟩
theorem cells_ok {xs l : List V} {o m : Nat} (h : cells xs o m = some l) : l = (xs.drop o).take m ∧ l.length = m := by
  unfold cells at h
  obtain ⟨hb, h1⟩ := ite_some h
  injection h1 with h1
  exact ⟨h1.symm, by rw [← h1]; exact Nat.eq_of_beq_eq_true hb⟩
/-- the elements that are appended -/
theorem elems_ok (hr : HR P w0 ρ h nx w) {sz k : Nat} {y : V} {ys : List V} {uy : Value} (hy : cv ρ y = some uy) (hsl : isSl y = true) (he : elems h sz y = some (ys, k)) :
    (k = 0 ∧ ∃ A c, uy = .slice A 0 c) ∨ (0 < k ∧ ∃ ad c news, uy = .slice (some ad) k c ∧ cvc ρ ys = some news ∧ news.length = k * sz ∧ ∀ j u, news[j]? = some u → w.cell? (ad.add j) = some u) := by
  unfold elems at he
  split at he
  · rename_i i o len c hs
    rw [V.sl?_eq hs] at hy
    cases h0 : Nat.beq len 0 with
    | true =>
      rw [h0, cond_true] at he
      simp only [Option.some.injEq, Prod.mk.injEq] at he
      obtain ⟨rfl, rfl⟩ := he
      have := Nat.eq_of_beq_eq_true h0
      subst this
      obtain ⟨x, _, _, rfl⟩ := cv_s hy
      exact .inl ⟨rfl, _, _, rfl⟩
    | false =>
      rw [h0, cond_false] at he
      split at he
      · rename_i T xs hrow
        split at he
        · rename_i l hl
          simp only [Option.some.injEq, Prod.mk.injEq] at he
          obtain ⟨rfl, rfl⟩ := he
          obtain ⟨rfl, hlen⟩ := cells_ok hl
          obtain ⟨x, vs, arr, hx, rfl, _, hvs, _, _, _, _, _, hcell⟩ := hr.cells hy hrow
          have hvs2 := cvc_take (len * sz) (cvc_drop o hvs)
          have hpos : 0 < len := by
            cases len with
            | zero => cases h0
            | succ m => omega
          refine .inr ⟨hpos, _, _, _, rfl, hvs2, by rw [cvc_len hvs2, hlen], fun j u hj => hcell j u ?_⟩
          rw [List.getElem?_take] at hj
          split at hj
          · rw [List.getElem?_drop] at hj; exact hj
          · cases hj
        · cases he
      · cases he
  · split at he
    · rename_i b hb
      rw [V.str?_eq hb] at hsl
      cases hsl
    · obtain ⟨hn, h1⟩ := ite_some he
      simp only [Option.some.injEq, Prod.mk.injEq] at h1
      obtain ⟨rfl, rfl⟩ := h1
      rw [V.nilS_eq hn] at hy
      exact .inl ⟨rfl, none, 0, cv_k hy⟩
/-- nothing is appended -/
theorem append_zero (hC : OKC P C) {t el ty : TypeId} {J : Ti} (ht : P.underlying t = some (.slice el)) (hJ : C.ty.get el = some J) {A B : Option Addr} {len c d : Nat} (hle : len ≤ c) (w : World) : (Builtin.append_ #[t, t] ty #[.slice A len c, .slice B 0 d]).run P w = .ok (.slice A len c) w := by
  cases B <;> cases A <;> simp [Builtin.append_, run_underlying ht, sz_ok hC hJ, Builtin.lenOf, hle, Builtin.firstCells, loadCells, loadCellsFrom, storeCells]
/-- a new row -/
theorem newRow_ok (hC : OKC P C) (hr : HR P w0 ρ h nx w) {el : TypeId} {J : Ti} (hJ : C.ty.get el = some J) {l : List V} {vs : List Value} (hvs : cvc ρ l = some vs) {m cap : Nat} (hm : vs.length = m * J.n) (hcap : m ≤ cap) {z : Value} (hz : z.cells.size = J.n) (hnx : fl ≤ nx) :
    HR P w0 (ρ.add nx ⟨w.heap.size, 0, cap, J.n⟩) (h.set nx (.c el l)) (nx + 1) (w.drew.alloc (.cells (vs.toArray ++ Builtin.zeroCells z.cells (cap - m)) el)) ∧
      Tr ρ h nx w (ρ.add nx ⟨w.heap.size, 0, cap, J.n⟩) (h.set nx (.c el l)) (nx + 1) (w.drew.alloc (.cells (vs.toArray ++ Builtin.zeroCells z.cells (cap - m)) el)) fl := by
  have hr1 : HR P w0 ρ h nx w.drew := hr.heap rfl rfl rfl rfl
  have hor : OR P (ρ.add nx ⟨w.heap.size, 0, cap, J.n⟩) (w.drew.alloc (.cells (vs.toArray ++ Builtin.zeroCells z.cells (cap - m)) el)) ⟨w.heap.size, 0, cap, J.n⟩ (.c el l) :=
    ⟨vs, _, cvc_mono (Rho.le_add (hr.top nx (Nat.le_refl _))) _ _ hvs, World.alloc_heap_new w.drew _, fun k v hk => by
      have hlt := (List.getElem?_eq_some_iff.1 hk).1
      rw [Nat.zero_add, Array.getElem?_append_left (by simpa using hlt)]
      simpa using hk, (hC.ty el J hJ).sz, by
      simp only [Nat.zero_add, Array.size_append, List.size_toArray, size_zeroCells, hz, hm, ← Nat.add_mul]
      congr 1
      omega⟩
  exact ⟨hr1.alloc _ _ _ rfl hor, (Tr.heap (w := w) (w' := w.drew) ρ h nx fl rfl).trans (Tr.alloc (w := w.drew) hr1 (.cells (vs.toArray ++ Builtin.zeroCells z.cells (cap - m)) el) (.c el l) ⟨w.heap.size, 0, cap, J.n⟩ rfl hnx)⟩
/-- what an append gives -/
def Ap (P : Program) (w0 : World) (ρ : Rho) (h : T O) (nx fl : Nat) (w : World) (t ty : TypeId) (ux uy : Value) (r : V × T O × Nat) : Prop := ∃ ρ' w' u, HR P w0 ρ' r.2.1 r.2.2 w' ∧ Tr ρ h nx w ρ' r.2.1 r.2.2 w' fl ∧ cv ρ' r.1 = some u ∧ (Builtin.append_ #[t, t] ty #[ux, uy]).run P w = .ok u w'
theorem run_room {t el ty : TypeId} {J : Ti} (hC : OKC P C) (ht : P.underlying t = some (.slice el)) (hJ : C.ty.get el = some J) {g off sLen sCap : Nat} {cur : Array Value} (hg : w.heap[g]? = some (.cells cur el (0, 0))) {ad : Addr} {m c : Nat} {news : List Value} (hl : news.length = m * J.n) (hnews : ∀ j u, news[j]? = some u → w.cell? (ad.add j) = some u)
    (h1 : ∀ u ∈ news, u.oneCell' = true) (hroom : sLen + m ≤ sCap) (hfit : off + sLen * J.n + news.length ≤ cur.size) :
    (Builtin.append_ #[t, t] ty #[.slice (some ⟨g, off, none⟩) sLen sCap, .slice (some ad) m c]).run P w = .ok (.slice (some ⟨g, off, none⟩) (sLen + m) sCap) (w.setRow g (cur.toList.take (off + sLen * J.n) ++ news ++ cur.toList.drop (off + sLen * J.n + news.length)).toArray) := by
  obtain ⟨i, z, hi, hz, _, _, _, _, _, hn, _⟩ := (hC.ty el J hJ).info
  have hf := run_firstCells_some (P := P) w i.size m ad m c news (by rw [hn]; exact hl) hnews
  rw [hn] at hf
  have hst := run_storeCells_at P g (off + sLen * J.n) el news 0 cur w hg (by simpa using hfit) h1
  simp only [Nat.add_zero] at hst
  simp [Builtin.append_, run_underlying ht, sizeOf, typeInfo, hi, Builtin.lenOf, hroom, hf, Addr.add_lit, hn, hst]
theorem append1_ok (hC : OKC P C) (hr : HR P w0 ρ h nx w) (hnx : fl ≤ nx) {t el ty : TypeId} {J : Ti} (ht : P.underlying t = some (.slice el)) (hJ : C.ty.get el = some J) {x y : V} {ux uy : Value} (hx : cv ρ x = some ux) (hy : cv ρ y = some uy) {r : V × T O × Nat} (hl : append1 J el h nx fl x y = some r) : Ap P w0 ρ h nx fl w t ty ux uy r := by
  unfold append1 at hl
  obtain ⟨hsy, h1⟩ := ite_none hl
  clear hl
  rw [Bool.not_eq_false'] at hsy
  split at h1
  · cases h1
  · rename_i ys k he
    rcases elems_ok hr hy hsy he with ⟨rfl, B, d, rfl⟩ | ⟨hk, ad, cy, news, rfl, hys, hnl, hnews⟩
    · rw [show Nat.beq 0 0 = true from rfl, cond_true] at h1
      obtain ⟨hsx, h2⟩ := ite_some h1
      injection h2 with h2
      subst h2
      have key : ∃ A len c, ux = .slice A len c ∧ len ≤ c := by
        unfold isSl at hsx
        rw [Bool.or_eq_true] at hsx
        rcases hsx with hsx | hsx
        · rw [V.nilS_eq hsx] at hx; exact ⟨none, 0, 0, cv_k hx, Nat.le_refl _⟩
        · obtain ⟨⟨i, o, len, c⟩, hs⟩ := Option.isSome_iff_exists.1 hsx
          rw [V.sl?_eq hs] at hx
          obtain ⟨x1, _, hok, rfl⟩ := cv_s hx
          refine ⟨_, _, _, rfl, ?_⟩
          cases c with
          | c m => exact of_decide_eq_true hok
          | u m z =>
            have hok : z = x1.s ∧ o = m * x1.s ∧ m + len ≤ x1.c := of_decide_eq_true hok
            show len ≤ x1.c - m
            omega
      obtain ⟨A, len, c, rfl, hle⟩ := key
      exact ⟨ρ, w, _, hr, Tr.refl _ _ _ _ _, hx, append_zero hC ht hJ hle w⟩
    · have hk0 : Nat.beq k 0 = false := by cases k with
        | zero => omega
        | succ => rfl
      rw [hk0, cond_false] at h1
      obtain ⟨hfit, h2⟩ := ite_some h1
      clear h1
      unfold fits at hfit
      rw [Bool.and_eq_true, Bool.and_eq_true] at hfit
      have f1 := Nat.le_of_ble_eq_true hfit.1.1
      have f2 := Nat.le_of_ble_eq_true hfit.1.2
      have f3 := Nat.le_of_ble_eq_true hfit.2
      obtain ⟨i0, z, hi, hz, _, _, _, _, hby, hn, hzn⟩ := (hC.ty el J hJ).info
      have hone := cvc_one hys
      unfold ap1 at h2
      split at h2
      · rename_i i o len c hs
        simp only [hs, Option.elim] at f1
        split at h2
        · rename_i TT xs hrow
          obtain ⟨hT, h3⟩ := ite_some h2
          clear h2
          have hT := Nat.eq_of_beq_eq_true hT
          subst hT
          rw [V.sl?_eq hs] at hx
          obtain ⟨x1, vs, arr, hx1, rfl, hok, hvs, hb, hsz, hcap, hget, hlt, hcell⟩ := hr.cells hx hrow
          have hs1 : x1.s = J.n := by
            have := (hC.ty TT J hJ).sz
            rw [hsz] at this
            injection this
          have hkb : (len + k) * i0.bytes ≤ 140737488355328 := by rw [hby]; exact f1
          have h63 : len + k ≤ 140737488355328 := Nat.le_trans (Nat.le_mul_of_pos_right _ f2) f1
          have grow : ∀ (h' : T O), HR P w0 ρ h' nx w → Tr ρ h nx w ρ h' nx w fl → capN x1 c < len + k → ∀ l, cells xs o (len * J.n) = some l → Ap P w0 ρ h nx fl w t ty (.slice (some ⟨x1.b, x1.o + o, none⟩) len (capN x1 c)) (.slice (some ad) k cy) (.s nx 0 (len + k) (.u 0 J.n), h'.set nx (.c TT (l ++ ys)), nx + 1) := fun h' hr' htr hlt2 l hl => by
            obtain ⟨rfl, hll⟩ := cells_ok hl
            have hvs2 := cvc_take (len * J.n) (cvc_drop o hvs)
            have hol : ((vs.drop o).take (len * J.n)).length = len * J.n := by rw [cvc_len hvs2, hll]
            have hg := grownCap_ge w (len + k) (capN x1 c) TT
            obtain ⟨g1, g2⟩ := newRow_ok (fl := fl) (m := len + k) (cap := grownCap w (len + k) (capN x1 c) TT) hC hr' hJ (cvc_app hvs2 hys) (by rw [List.length_append, hol, hnl, Nat.add_mul]) hg hzn hnx
            refine ⟨_, _, _, g1, htr.trans g2, cv_s_mk (Rho.add_same _ _ _) (decide_eq_true (⟨rfl, (Nat.zero_mul _).symm, by show 0 + (len + k) ≤ grownCap w (len + k) (capN x1 c) TT; omega⟩ : J.n = (Pl.mk w.heap.size 0 (grownCap w (len + k) (capN x1 c) TT) J.n).s ∧ 0 = 0 * (Pl.mk w.heap.size 0 (grownCap w (len + k) (capN x1 c) TT) J.n).s ∧ 0 + (len + k) ≤ (Pl.mk w.heap.size 0 (grownCap w (len + k) (capN x1 c) TT) J.n).c)), ?_⟩
            have := run_append_grow (P := P) w t ty TT i0 z ht hi hz ⟨x1.b, x1.o + o, none⟩ len (capN x1 c) ((vs.drop o).take (len * J.n)) (by rw [hol, hn]) (fun j v hj => hcell j v (by
              rw [List.getElem?_take] at hj
              split at hj
              · rw [List.getElem?_drop] at hj; exact hj
              · cases hj)) ad k cy news (by rw [hn]; exact hnl) hnews hlt2 (by omega) (growslice_fits hlt2 hkb)
            rw [this]
            simp [capN]
          have inpl : ∀ xs', splice xs (o + len * J.n) ys = some xs' → fl ≤ i → len + k ≤ capN x1 c → slOk x1 o (len + k) c = true → Ap P w0 ρ h nx fl w t ty (.slice (some ⟨x1.b, x1.o + o, none⟩) len (capN x1 c)) (.slice (some ad) k cy) (.s i o (len + k) c, h.set i (.c TT xs'), nx) := fun xs' hsp hfl hroom hok2 => by
            obtain ⟨x2, arr2, w2, k1, k2, k3, k4, k5, k6⟩ := hr.write (rowAt_eq hrow) hfl hsp hys
            rw [hx1] at k1
            injection k1 with k1
            subst k1
            rw [hb] at k2
            injection k2 with k2
            injection k2 with k2 _ _
            subst k2
            refine ⟨ρ, w2, _, k5, k6, cv_s_mk hx1 hok2, ?_⟩
            rw [run_room hC ht hJ hb hnl hnews hone hroom (by omega), k4]
            simp [Nat.add_assoc]
          unfold apS at h3
          cases c with
          | c cap =>
            simp only at h3
            cases hcb : Nat.ble (len + k) cap with
            | true =>
              rw [hcb, cond_true] at h3
              obtain ⟨hfl, h4⟩ := ite_some h3
              unfold apIn at h4
              split at h4
              · rename_i xs' hsp
                injection h4 with h4
                subst h4
                have := Nat.le_of_ble_eq_true hcb
                exact inpl xs' hsp (Nat.le_of_ble_eq_true hfl) this (decide_eq_true this)
              · cases h4
            | false =>
              rw [hcb, cond_false] at h3
              unfold apNew at h3
              split at h3
              · rename_i l hl
                injection h3 with h3
                subst h3
                have hlt2 : cap < len + k := by
                  rcases Nat.lt_or_ge cap (len + k) with g | g
                  · exact g
                  · rw [Nat.ble_eq_true_of_le g] at hcb; cases hcb
                exact grow h hr (Tr.refl _ _ _ _ _) hlt2 l hl
              · cases h3
          | u m zz =>
            simp only at h3
            obtain ⟨hfl, h4⟩ := ite_some h3
            have hfl := Nat.le_of_ble_eq_true hfl
            have hok' : zz = x1.s ∧ o = m * x1.s ∧ m + len ≤ x1.c := of_decide_eq_true hok
            have hrowin : x1.o + xs.length ≤ arr.size := by
              have := row_in (vs := vs) (arr := arr) (o0 := x1.o) (k := vs.length) hget (by omega) (Nat.le_refl _)
              rwa [cvc_len hvs] at this
            cases hcb : Nat.ble (o + len * J.n + ys.length) xs.length with
            | true =>
              rw [hcb, cond_true] at h4
              unfold apIn at h4
              split at h4
              · rename_i xs' hsp
                injection h4 with h4
                subst h4
                have hle := Nat.le_of_ble_eq_true hcb
                have hyl : ys.length = k * J.n := by rw [← cvc_len hys, hnl]
                have hmul : (m + len + k) * J.n ≤ x1.c * J.n := by
                  rw [Nat.add_mul, Nat.add_mul]
                  have e1 : o = m * J.n := by rw [← hs1]; exact hok'.2.1
                  rw [hs1] at hcap
                  omega
                have hfin : m + len + k ≤ x1.c := Nat.le_of_mul_le_mul_right hmul f3
                exact inpl xs' hsp hfl (by show len + k ≤ x1.c - m; omega) (decide_eq_true ⟨hok'.1, hok'.2.1, by omega⟩)
              · cases h4
            | false =>
              rw [hcb, cond_false] at h4
              unfold apNew at h4
              split at h4
              · rename_i l hl
                injection h4 with h4
                subst h4
                rcases Nat.lt_or_ge (x1.c - m) (len + k) with hlt2 | hge
                · exact grow (h.del i) (hr.del i) (Tr.del ρ h nx w hfl) hlt2 l hl
                · obtain ⟨rfl, hll⟩ := cells_ok hl
                  have hvs2 := cvc_take (len * J.n) (cvc_drop o hvs)
                  have hol : ((vs.drop o).take (len * J.n)).length = len * J.n := by rw [cvc_len hvs2, hll]
                  have ho : o = m * J.n := by rw [← hs1]; exact hok'.2.1
                  have hmul : (m + (len + k)) * J.n ≤ x1.c * J.n := Nat.mul_le_mul_right _ (by omega)
                  rw [Nat.add_mul, Nat.add_mul] at hmul
                  rw [hs1] at hcap
                  have hin : x1.o + o + len * J.n + news.length ≤ arr.size := by omega
                  have hrun := run_room (ty := ty) (w := w) (sCap := x1.c - m) (c := cy) hC ht hJ hb hnl hnews hone hge (by omega)
                  have hset : (w.setRow x1.b (arr.toList.take (x1.o + o + len * J.n) ++ news ++ arr.toList.drop (x1.o + o + len * J.n + news.length)).toArray).heap[x1.b]? = some (.cells (arr.toList.take (x1.o + o + len * J.n) ++ news ++ arr.toList.drop (x1.o + o + len * J.n + news.length)).toArray TT (0, 0)) := setRow_heap w x1.b arr _ TT (0, 0) hb
                  have hoth : ∀ j, j ≠ x1.b → (w.setRow x1.b (arr.toList.take (x1.o + o + len * J.n) ++ news ++ arr.toList.drop (x1.o + o + len * J.n + news.length)).toArray).heap[j]? = w.heap[j]? := fun j hj => setRow_other w x1.b j _ hj
                  have hss : (w.setRow x1.b (arr.toList.take (x1.o + o + len * J.n) ++ news ++ arr.toList.drop (x1.o + o + len * J.n + news.length)).toArray).heap.size = w.heap.size := by simp [World.setRow]
                  have hle : Le ρ (ρ.add nx ⟨x1.b, x1.o + o, x1.c - m, J.n⟩) := Rho.le_add (hr.top nx (Nat.le_refl _))
                  have hor : OR P (ρ.add nx ⟨x1.b, x1.o + o, x1.c - m, J.n⟩) (w.setRow x1.b (arr.toList.take (x1.o + o + len * J.n) ++ news ++ arr.toList.drop (x1.o + o + len * J.n + news.length)).toArray) ⟨x1.b, x1.o + o, x1.c - m, J.n⟩ (.c TT ((xs.drop o).take (len * J.n) ++ ys)) := by
                    refine ⟨_, _, cvc_mono hle _ _ (cvc_app hvs2 hys), hset, fun j v hj => ?_, (hC.ty TT J hJ).sz, ?_⟩
                    · simp only [List.getElem?_toArray]
                      rw [get_put (by simp; omega)]
                      rw [List.getElem?_append] at hj
                      split at hj
                      · rename_i g1
                        rw [hol] at g1
                        rw [if_pos (by omega)]
                        rw [List.getElem?_take, if_pos g1, List.getElem?_drop] at hj
                        have := hget _ _ hj
                        rw [← Array.getElem?_toList, ← Nat.add_assoc] at this
                        exact this
                      · rename_i g1
                        rw [hol] at g1 hj
                        have hlt3 := (List.getElem?_eq_some_iff.1 hj).1
                        rw [if_neg (by omega), if_pos (by omega), ← hj]
                        congr 1
                        omega
                    · have e2 : (x1.c - m) * J.n + m * J.n = x1.c * J.n := by rw [← Nat.add_mul]; congr 1; omega
                      simp only [List.size_toArray, List.length_append, List.length_take, List.length_drop, Array.length_toList]
                      omega
                  refine ⟨_, _, _, hr.move (rowAt_eq hrow) hx1 (x' := ⟨x1.b, x1.o + o, x1.c - m, J.n⟩) rfl hss hoth rfl rfl rfl (fun a2 c2 ha => by rw [hset] at ha; injection ha with ha; cases ha) hor, Tr.move hr (rowAt_eq hrow) hx1 rfl hss hoth hfl hnx, cv_s_mk (Rho.add_same _ _ _) (decide_eq_true (⟨rfl, (Nat.zero_mul _).symm, by show 0 + (len + k) ≤ x1.c - m; omega⟩ : J.n = (Pl.mk x1.b (x1.o + o) (x1.c - m) J.n).s ∧ 0 = 0 * (Pl.mk x1.b (x1.o + o) (x1.c - m) J.n).s ∧ 0 + (len + k) ≤ (Pl.mk x1.b (x1.o + o) (x1.c - m) J.n).c)), ?_⟩
                  rw [show capN x1 (Cap.u m zz) = x1.c - m from rfl, hrun]
                  simp [capN]
              · cases h4
        · cases h2
      · obtain ⟨hnil, h3⟩ := ite_some h2
        injection h3 with h3
        subst h3
        rw [V.nilS_eq hnil] at hx
        rw [cv_k hx]
        have f1' : k * J.b ≤ 140737488355328 := by
          have : (0 + k) * J.b ≤ 140737488355328 := by simpa [‹x.sl? = none›] using f1
          simpa using this
        have hg := grownCap_ge w k 0 el
        obtain ⟨g1, g2⟩ := newRow_ok (fl := fl) (m := k) (cap := grownCap w k 0 el) hC hr hJ hys hnl hg hzn hnx
        refine ⟨_, _, _, g1, g2, cv_s_mk (Rho.add_same _ _ _) (decide_eq_true (⟨rfl, (Nat.zero_mul _).symm, by show 0 + k ≤ grownCap w k 0 el; omega⟩ : J.n = (Pl.mk w.heap.size 0 (grownCap w k 0 el) J.n).s ∧ 0 = 0 * (Pl.mk w.heap.size 0 (grownCap w k 0 el) J.n).s ∧ 0 + k ≤ (Pl.mk w.heap.size 0 (grownCap w k 0 el) J.n).c)), ?_⟩
        have h63 : k ≤ 140737488355328 := Nat.le_trans (Nat.le_mul_of_pos_right _ f2) f1'
        have := run_append_nil (P := P) w t ty el i0 z ht hi hz ad k cy news (by rw [hn]; exact hnl) hnews hk (by omega) (by rw [hby]; omega)
        rw [this]
        simp [capN]
end
end Go.M
end

section
set_option linter.unusedVariables false
set_option linter.unusedSimpArgs false
set_option linter.unusedSectionVars false
namespace Go.M
open Go.RowKit Go.Z
section
variable {P : Program} {C : Cx} {w0 : World} {ρ : Rho} {h : T O} {nx fl : Nat} {w w' : World} {e : Env} {n : Nat} {a : Act} {s s' : S}
/-- a number gets a name -/
theorem HR.stamp (hr : HR P w0 ρ h nx w) (x : Pl) : HR P w0 (ρ.add nx x) h (nx + 1) w := by
  have hl : Le ρ (ρ.add nx x) := Rho.le_add (hr.top nx (Nat.le_refl _))
  refine ⟨fun i o hi => ?_, fun i j o p y z hi hj hy hz e1 => ?_, fun i hi => ?_, hr.base, hr.size, hr.os, hr.tape, hr.output⟩
  · obtain ⟨h1, y, h2, h3, h4, h5⟩ := hr.live i o hi
    exact ⟨by omega, y, hl _ _ h2, h3, h4, OR.keep hl (Nat.le_refl _) rfl (fun b _ => Ben.of_eq rfl) h5⟩
  · have h1 := (hr.live i o hi).1
    have h2 := (hr.live j p hj).1
    rw [Rho.add_other (by omega)] at hy hz
    exact hr.inj i j o p y z hi hj hy hz e1
  · rw [Rho.add_other (by omega)]; exact hr.top i (by omega)
theorem Tr.stamp (hr : HR P w0 ρ h nx w) (x : Pl) (fl : Nat) : Tr ρ h nx w (ρ.add nx x) h (nx + 1) w fl :=
  ⟨Rho.le_add (hr.top nx (Nat.le_refl _)), by omega, Nat.le_refl _, fun _ _ _ => rfl, fun i o y hi hy _ => ⟨i, o, y, hi, by
    have h1 := (hr.live i o hi).1
    rwa [Rho.add_other (by omega)] at hy, rfl⟩, fun _ _ => rfl, fun _ _ _ _ _ _ => rfl, fun j hj h1 => by rw [Rho.add_other (by omega)]; exact h1⟩
theorem eEnt_ok (hC : OKC P C) (hr : HR P w0 ρ s.h s.nx w) (hf : Fe ρ s.env n a) {t : TypeId} {m k : Operand} {v : V} (hl : eEnt C s t m k = some (v, s')) : Do P w0 ρ s a w (.mapEntry t m k) v s' := by
  unfold eEnt at hl
  split at hl
  · rename_i i hi
    split at hl
    · rename_i kv hkv
      split at hl
      · rename_i kt J hJ
        split at hl
        · rename_i es c hm
          obtain ⟨x1, hx1, hm1⟩ := mapI_ok hf hi
          obtain ⟨uk, h1, h2⟩ := opd_ok hf hkv
          obtain ⟨vt, hu, hT⟩ := mapTi_ok hC hJ
          obtain ⟨hfl, p, hg⟩ := mapW_ok hm
          obtain ⟨_, x', hx', _, hlt, ks, arr, hks, harr, hperm, hnod, hborn, _⟩ := hr.live i _ hg
          rw [hx1] at hx'
          injection hx' with e1
          subst e1
          have hget := run_getObj' (P := P) harr (fun _ _ _ h => by cases h)
          have hset : ∀ o', (setObj x1.b o').run P w = .ok () (w.putObj x1.b o') := fun o' => run_setObj' harr (fun _ _ _ h => by cases h)
          unfold entM at hl
          split at hl
          · rename_i p0 x0 v0 hlk
            obtain ⟨hb, h3⟩ := ite_some hl
            rw [Bool.and_eq_true] at hb
            unfold entP at h3
            simp only [Option.some.injEq, Prod.mk.injEq] at h3
            obtain ⟨rfl, rfl⟩ := h3
            obtain ⟨hlk2, hck, d, hd⟩ := lookB_ok hC h1 hlk
            obtain ⟨A, e0, B, a1, b1, ka, kb, hat, rfl, rfl, rfl, hxk, hval, hka, hkb, hp2⟩ := find_some hC h1 hlk2 hks hperm
            have := beq_eq _ _ hb.1
            subst this
            rw [h1] at hxk
            injection hxk with hxk
            subst hxk
            have hr1 := hr.stamp ⟨e0.born, 0, 0, 0⟩
            have hle : Le ρ (ρ.add s.nx ⟨e0.born, 0, 0, 0⟩) := Rho.le_add (hr.top s.nx (Nat.le_refl _))
            have hmod := arr_modify hat.eq (fun e => { e with key := e0.key })
            obtain ⟨g1, g2⟩ := hr1.putMap (fl := s.fl) (es' := a1 ++ (kv, v0) :: b1) (p' := some (s.nx, a1.length)) (c' := c) (arr' := arr.modify A.length fun e => { e with key := e0.key }) (ks' := ka ++ (e0.key, e0.val) :: kb) hg (hle _ _ hx1) harr hlt
              (cvp_mono hle hks) (by rw [hmod]; exact perm_set hp2 rfl) (by rw [hmod]; rw [hat.eq] at hnod; simpa using hnod)
              (fun e he => hborn e (by rw [hmod] at he; rw [hat.eq]; exact he))
              (fun j q hq => by
                simp only [Option.some.injEq, Prod.mk.injEq] at hq
                obtain ⟨rfl, rfl⟩ := hq
                exact ⟨_, A, e0, B, ka, kb, Rho.add_same _ _ _, hmod, rfl, rfl, (cvp_len hka), hp2⟩) (Nat.le_refl _)
              (fun _ e' he' => ⟨e', by rw [hmod] at he'; rw [hat.eq]; exact he', rfl, rfl⟩) hfl
            refine ⟨_, _, .tuple #[e0.val, .int .i64 (e0.born : Int)], .value _, rfl, g1, (Tr.stamp hr _ s.fl).trans g2, ?_, .inl rfl, fun _ _ _ _ _ => ?_⟩
            · refine cv_t_mk (cvl_mk (cv_mono hle _ _ hval) (cvl_mk ?_ (by unfold cvl; rfl)))
              unfold cv
              rw [Rho.add_same]
            · have hfind := find_at hd hat.yes hat.noA (B := B) w
              rw [← hat.eq] at hfind
              have hkey := keyStays (P := P) (sameBits_self hb.2 h1) w
              simp only [execOp, hm1, h2, Instr.mapEntry, Sem.run_bind, run_underlying hu, Result.andThen_ok, hget, hck, hfind, arr_get hat.eq, Option.map_some, Option.getD_some, hkey, hset, Sem.run_pure, goInt]
          · rename_i hlk
            unfold entP at hl
            simp only [Option.some.injEq, Prod.mk.injEq] at hl
            obtain ⟨rfl, rfl⟩ := hl
            obtain ⟨hlk2, hck, d, hd⟩ := lookB_ok hC h1 hlk
            have hno := find_none hC h1 hlk2 hks hperm
            obtain ⟨z, hz, _, hzv, _⟩ := zs_ok (ρ := ρ) hC hT
            have hr1 := hr.stamp ⟨c, 0, 0, 0⟩
            have hle : Le ρ (ρ.add s.nx ⟨c, 0, 0, 0⟩) := Rho.le_add (hr.top s.nx (Nat.le_refl _))
            have hpush : (arr.push { key := uk, val := z, born := c : MapEntry }).toList = arr.toList ++ { key := uk, val := z, born := c } :: [] := by simp
            obtain ⟨g1, g2⟩ := hr1.putMap (fl := s.fl) (es' := es ++ [(kv, zeroV J)]) (p' := some (s.nx, es.length)) (c' := c + 1) (arr' := arr.push { key := uk, val := z, born := c }) (ks' := ks ++ [(uk, z)]) hg (hle _ _ hx1) harr hlt
              (cvp_app (cvp_mono hle hks) (cvp_mk (cv_mono hle _ _ h1) (cv_mono hle _ _ hzv) (by unfold cvp; rfl))) (by rw [Array.toList_push, List.map_append]; exact hperm.append_right _)
              (by
                rw [Array.toList_push, List.map_append, List.nodup_append]
                refine ⟨hnod, by simp, fun b hb q hq => ?_⟩
                obtain ⟨e, he, rfl⟩ := List.mem_map.1 hb
                have := hborn e he
                simp at hq
                omega)
              (fun e he => by
                rw [Array.toList_push] at he
                rcases List.mem_append.1 he with he | he
                · have := hborn e he; omega
                · simp at he; subst he; simp)
              (fun j q hq => by
                simp only [Option.some.injEq, Prod.mk.injEq] at hq
                obtain ⟨rfl, rfl⟩ := hq
                exact ⟨_, arr.toList, _, [], ks, [], Rho.add_same _ _ _, hpush, rfl, rfl, cvp_len hks, by simpa using hperm⟩) (by omega) (fun hc => by omega) hfl
            refine ⟨_, _, .tuple #[z, .int .i64 (c : Int)], .value _, rfl, g1, (Tr.stamp hr _ s.fl).trans g2, ?_, .inl rfl, fun _ _ _ _ _ => ?_⟩
            · refine cv_t_mk (cvl_mk (cv_mono hle _ _ hzv) (cvl_mk ?_ (by unfold cvl; rfl)))
              unfold cv
              rw [Rho.add_same]
            · have hfind := find_no hd hno w
              simp only [execOp, hm1, h2, Instr.mapEntry, Sem.run_bind, run_underlying hu, Result.andThen_ok, hget, hck, hfind, hz w, hset, Sem.run_pure, goInt]
          · cases hl
        · cases hl
      · cases hl
    · cases hl
  · cases hl
theorem eEst_ok (hr : HR P w0 ρ s.h s.nx w) (hf : Fe ρ s.env n a) {t : TypeId} {m k x : Operand} {v : V} (hl : eEst s m k x = some (v, s')) : Do P w0 ρ s a w (.entryStore t m k x) v s' := by
  unfold eEst at hl
  split at hl
  · rename_i i hi
    split at hl
    · rename_i wv hwv
      split at hl
      · rename_i j hj
        split at hl
        · rename_i xv hxv
          split at hl
          · rename_i es c j' p hp
            obtain ⟨hjj, h3⟩ := ite_some hl
            have hjj := Nat.eq_of_beq_eq_true hjj
            subst hjj
            simp only [Option.some.injEq, Prod.mk.injEq] at h3
            obtain ⟨rfl, rfl⟩ := h3
            obtain ⟨x1, hx1, hm1⟩ := mapI_ok hf hi
            obtain ⟨uw, h1, h2⟩ := opd_ok hf hwv
            obtain ⟨ux, h4, h5⟩ := opd_ok hf hxv
            have hwj : wv = .w j := by
              unfold V.w? at hj
              cases wv <;> first | (injection hj with hj; subst hj; rfl) | cases hj
            rw [hwj] at h1
            obtain ⟨y, hy, rfl⟩ := cv_w h1
            unfold pendAt at hp
            obtain ⟨hfl, hp2⟩ := ite_none hp
            have hfl := blt_false hfl
            split at hp2
            · rename_i es' c' j2 p2 hg
              simp only [Option.some.injEq, Prod.mk.injEq] at hp2
              obtain ⟨rfl, rfl, rfl, rfl⟩ := hp2
              obtain ⟨_, x', hx', _, hlt, ks, arr, hks, harr, hperm, hnod, hborn, hpend⟩ := hr.live i _ hg
              rw [hx1] at hx'
              injection hx' with e1
              subst e1
              obtain ⟨y', A, ent, B, ka, kb, hy', harrL, hbe, rfl, hlen, hpp⟩ := hpend _ _ rfl
              rw [hy] at hy'
              injection hy' with e1
              subst e1
              have hget := run_getObj' (P := P) harr (fun _ _ _ h => by cases h)
              have hset : ∀ o', (setObj x1.b o').run P w = .ok () (w.putObj x1.b o') := fun o' => run_setObj' harr (fun _ _ _ h => by cases h)
              have hmod := arr_modify harrL (fun e => { e with val := ux })
              -- the entry's place among the names
              have hes : ∃ a1 kk vv b1, es' = a1 ++ (kk, vv) :: b1 ∧ a1.length = p2 ∧ cvp ρ a1 = some ka ∧ cv ρ kk = some ent.key ∧ cvp ρ b1 = some kb := by
                clear hg hp hl hperm hpend hpp
                induction ka generalizing es' p2 with
                | nil =>
                  cases es' with
                  | nil => have := cvp_nil hks; cases this
                  | cons q r =>
                    obtain ⟨kk, vv⟩ := q
                    obtain ⟨b1, b2, m1, e1, g1, g2, g3⟩ := cvp_cons hks
                    simp only [List.nil_append, List.cons.injEq, Prod.mk.injEq] at e1
                    obtain ⟨⟨rfl, rfl⟩, rfl⟩ := e1
                    exact ⟨[], kk, vv, r, rfl, hlen, by unfold cvp; rfl, g1, g3⟩
                | cons q ka ih =>
                  cases es' with
                  | nil => have := cvp_nil hks; cases this
                  | cons q2 r =>
                    obtain ⟨kk, vv⟩ := q2
                    obtain ⟨b1, b2, m1, e1, g1, g2, g3⟩ := cvp_cons hks
                    simp only [List.cons_append, List.cons.injEq] at e1
                    obtain ⟨rfl, rfl⟩ := e1
                    have hih : ∃ a1 kk vv b1, r = a1 ++ (kk, vv) :: b1 ∧ a1.length = ka.length ∧ cvp ρ a1 = some ka ∧ cv ρ kk = some ent.key ∧ cvp ρ b1 = some kb := by first | exact ih r g3 _ rfl | exact ih r _ g3 rfl | exact ih _ r g3 rfl | exact ih r _ rfl g3 | exact ih r ka.length g3 rfl
                    obtain ⟨a2, k2, v2, c2, rfl, hl2, f1, f2, f3⟩ := hih
                    exact ⟨(kk, vv) :: a2, k2, v2, c2, rfl, by simp only [List.length_cons] at hlen ⊢; omega, cvp_mk g1 g2 f1, f2, f3⟩
              obtain ⟨a1, kk, vv, b1, rfl, hal, f1, f2, f3⟩ := hes
              subst hal
              obtain ⟨g1, g2⟩ := hr.putMap (fl := s.fl) (es' := setAt xv (a1 ++ (kk, vv) :: b1) a1.length) (p' := none) (c' := c') (arr' := arr.modify A.length fun e => { e with val := ux }) (ks' := ka ++ (ent.key, ux) :: kb) hg hx1 harr hlt
                (by rw [setAt_eq]; exact cvp_app f1 (cvp_mk f2 h4 f3)) (by rw [hmod]; exact perm_set hpp rfl) (by rw [hmod]; rw [harrL] at hnod; simpa using hnod)
                (fun e he => by
                  rw [hmod] at he
                  rcases List.mem_append.1 he with he | he
                  · exact hborn e (by rw [harrL]; exact List.mem_append_left _ he)
                  · rcases List.mem_cons.1 he with rfl | he
                    · exact hborn ent (by rw [harrL]; exact List.mem_append_right _ (List.mem_cons_self ..))
                    · exact hborn e (by rw [harrL]; exact List.mem_append_right _ (List.mem_cons_of_mem _ he)))
                (fun j q hq => by cases hq) (Nat.le_refl _)
                (fun _ e' he' => by
                  rw [hmod] at he'
                  rw [harrL]
                  rcases List.mem_append.1 he' with he | he
                  · exact ⟨e', List.mem_append_left _ he, rfl, rfl⟩
                  · rcases List.mem_cons.1 he with rfl | he
                    · exact ⟨ent, List.mem_append_right _ (List.mem_cons_self ..), rfl, rfl⟩
                    · exact ⟨e', List.mem_append_right _ (List.mem_cons_of_mem _ he), rfl, rfl⟩) hfl
              refine ⟨ρ, _, undef, .skip, rfl, g1, g2, cv_un, .inr ⟨rfl, rfl⟩, fun _ _ _ _ _ => ?_⟩
              have hidx : arr.findIdx? (fun e => (e.born : Int) == (y.b : Int)) = some A.length := by
                have harr2 : arr = (A ++ ent :: B).toArray := by rw [← harrL]
                rw [harr2, List.findIdx?_toArray]
                rw [harrL] at hnod
                rw [List.findIdx?_append]
                have hA : A.findIdx? (fun e => (e.born : Int) == (y.b : Int)) = none := by
                  rw [List.findIdx?_eq_none_iff]
                  intro q hq
                  rw [List.map_append, List.map_cons, List.nodup_append] at hnod
                  have := hnod.2.2 q.born (List.mem_map.2 ⟨q, hq, rfl⟩) ent.born (List.mem_cons_self ..)
                  rw [hbe] at this
                  simp only [beq_eq_false_iff_ne, ne_eq]
                  omega
                rw [hA]
                simp [List.findIdx?_cons, hbe]
              simp only [execOp, hm1, h2, h5, Instr.entryStore, Sem.run_bind, hget, Result.andThen_ok, asInt, asIntOf, Sem.run_pure, hidx, hset]
            · cases hp2
          · cases hl
        · cases hl
      · cases hl
    · cases hl
  · cases hl
theorem eNext_ok (hr : HR P w0 ρ s.h s.nx w) (hf : Fe ρ s.env n a) {x : Operand} {b : Bool} {v : V} (hl : eNext s x b = some (v, s')) : Do P w0 ρ s a w (.next x b) v s' := by
  unfold eNext at hl
  split at hl
  · rename_i p hp
    split at hl
    · rename_i i hi
      split at hl
      · rename_i o ho
        obtain ⟨u, h1, h2⟩ := opd_ok hf hp
        rw [V.it?_eq hi] at h1
        obtain ⟨x1, hx1, rfl⟩ := cv_q h1
        obtain ⟨_, x', hx', _, hlt, hor⟩ := hr.live i _ ho
        rw [hx1] at hx'
        injection hx' with e1
        subst e1
        cases b with
        | true =>
          rw [cond_true] at hl
          unfold nxStr at hl
          split at hl
          · rename_i bs pos
            have hob : w.heap[x1.b]? = some (.stringIter bs pos) := hor
            have hget := run_getObj' (P := P) hob (fun _ _ _ h => by cases h)
            cases hb : Nat.blt pos bs.size with
            | true =>
              rw [hb, cond_true] at hl
              obtain ⟨hfl, h3⟩ := ite_none hl
              have hfl := blt_false hfl
              simp only [Option.some.injEq, Prod.mk.injEq] at h3
              obtain ⟨rfl, rfl⟩ := h3
              have hpos : pos < bs.size := Nat.le_of_ble_eq_true hb
              have hsame : (w.putObj x1.b (.stringIter bs (pos + (Utf8.decode bs pos).2))).heap[x1.b]? = some (.stringIter bs (pos + (Utf8.decode bs pos).2)) := World.putObj_heap_same hlt
              have hoth : ∀ k, k ≠ x1.b → (w.putObj x1.b (.stringIter bs (pos + (Utf8.decode bs pos).2))).heap[k]? = w.heap[k]? := fun k hk => World.putObj_heap_other hk
              have hss : (w.putObj x1.b (.stringIter bs (pos + (Utf8.decode bs pos).2))).heap.size = w.heap.size := by simp
              refine ⟨ρ, _, _, .value _, rfl, hr.upd (o' := .st bs (pos + (Utf8.decode bs pos).2)) ho hx1 hss hoth rfl rfl rfl (fun a2 c2 ha => by rw [hsame] at ha; cases ha) hsame, Tr.upd hr ho hx1 hss hoth hfl,
                cv_t_mk (cvl_mk (cv_bo true) (cvl_mk (cv_nt pos) (cvl_mk (cv_it .i32 (Utf8.decode bs pos).1) (by unfold cvl; rfl)))), .inl rfl, fun _ _ _ _ _ => ?_⟩
              have hset := run_setObj' (P := P) (o' := .stringIter bs (pos + (Utf8.decode bs pos).2)) hob (fun _ _ _ h => by cases h)
              simp only [execOp, h2, Instr.next, Sem.run_bind, hget, Result.andThen_ok, hpos, if_true, hset, Sem.run_pure, goInt]
            | false =>
              rw [hb, cond_false] at hl
              simp only [Option.some.injEq, Prod.mk.injEq] at hl
              obtain ⟨rfl, rfl⟩ := hl
              have hpos : ¬ pos < bs.size := fun h3 => by rw [show Nat.blt pos bs.size = true from Nat.ble_eq_true_of_le h3] at hb; cases hb
              refine ⟨ρ, w, _, .value _, rfl, hr, Tr.refl _ _ _ _ _, cv_t_mk (cvl_mk (cv_bo false) (by unfold cvl; rfl)), .inl rfl, fun _ _ _ _ _ => ?_⟩
              simp only [execOp, h2, Instr.next, Sem.run_bind, hget, Result.andThen_ok, hpos, if_false, Sem.run_pure]
          · cases hl
        | false =>
          rw [cond_false] at hl
          unfold nxQ at hl
          split at hl
          · simp only [Option.some.injEq, Prod.mk.injEq] at hl
            obtain ⟨rfl, rfl⟩ := hl
            obtain ⟨q1, q2, q3, hob⟩ := hor
            have hget := run_getObj' (P := P) hob (fun _ _ _ h => by cases h)
            refine ⟨ρ, w, _, .value _, rfl, hr, Tr.refl _ _ _ _ _, cv_t_mk (cvl_mk (cv_bo false) (by unfold cvl; rfl)), .inl rfl, fun _ _ _ _ _ => ?_⟩
            simp only [execOp, h2, Instr.next, Sem.run_bind, hget, Result.andThen_ok, Sem.run_pure]
          · cases hl
      · cases hl
    · cases hl
  · cases hl
theorem eApp_ok (hC : OKC P C) (hr : HR P w0 ρ s.h s.nx w) (hf : Fe ρ s.env n a) (hnx : s.fl ≤ s.nx) {xs : Array Operand} {ts : Array TypeId} {v : V} (hl : eBi C s xs.toList ts.toList .append = some (v, s')) : Do P w0 ρ s a w (.call { callee := .builtin .append, args := xs, argTypes := ts }) v s' := by
  have hl : (ty2 ts.toList fun t => arg2 (opds s.env xs.toList) fun x y => eApp C s t x y) = some (v, s') := hl
  unfold ty2 at hl
  split at hl
  · rename_i t u hts
    obtain ⟨htu, h1⟩ := ite_some hl
    have htu := Nat.eq_of_beq_eq_true htu
    subst htu
    obtain ⟨x, y, hxy, h2⟩ := arg2_ok h1
    obtain ⟨us, h3, h4⟩ := args_ok hf hxy
    obtain ⟨ux, uy, rfl, h5, h6⟩ := cvl2 h3
    have hta : ts = #[t, t] := by rw [← Array.toArray_toList (xs := ts), hts]
    subst hta
    unfold eApp at h2
    split at h2
    · rename_i el hel
      split at h2
      · rename_i J hJ
        unfold back at h2
        split at h2
        · rename_i r1 r2 r3 hap
          simp only [Option.some.injEq, Prod.mk.injEq] at h2
          obtain ⟨rfl, rfl⟩ := h2
          obtain ⟨ρ', w', u, g1, g2, g3, g4⟩ := append1_ok (ty := 0) hC hr hnx (sliceEl_ok hC hel) hJ h5 h6 hap
          refine ⟨ρ', w', u, .value u, rfl, g1, g2, g3, .inl rfl, fun _ T _ _ _ => ?_⟩
          have g5 : (Builtin.append_ #[t, t] T #[ux, uy]).run P w = .ok u w' := g4
          simp only [execOp, resolve, h4, Sem.run_bind, Sem.run_pure, Result.andThen_ok, invoke, builtin, g5]
        · cases h2
      · cases h2
    · cases h2
  · cases hl
end
end Go.M
end

section
set_option linter.unusedVariables false
set_option linter.unusedSimpArgs false
set_option linter.unusedSectionVars false
namespace Go.M
open Go.RowKit Go.Z
def exOf : X → Exit
  | .n => .normal
  | .r => .ret
  | .e i => .exit i
/-- calls that were deferred; blocks for those of rounds -/
def dcv (ρ : Rho) (x : Option (V × List V) × Nat) (d : Deferred) : Prop := match x with
  | (none, i) => ∃ y, ρ i = some y ∧ d = mkD y.b
  | (some (f, args), _) => ∃ fid first cap a us c, f = .f fid first cap ∧ cvl ρ first = some a ∧ cvl ρ args = some us ∧ cvl ρ cap = some c ∧ d = { target := .fn (.func fid) c.toArray, args := (a ++ us).toArray }
def dcl (ρ : Rho) : List (Option (V × List V) × Nat) → List Deferred → Prop
  | [], [] => True
  | x :: r, d :: ds => dcv ρ x d ∧ dcl ρ r ds
  | _, _ => False
theorem dcv_mono {ρ ρ' : Rho} (hl : Le ρ ρ') {x : Option (V × List V) × Nat} {d : Deferred} (h : dcv ρ x d) : dcv ρ' x d := by
  obtain ⟨_ | ⟨f, args⟩, i⟩ := x
  · obtain ⟨y, h1, h2⟩ := h; exact ⟨y, hl _ _ h1, h2⟩
  · obtain ⟨fid, first, cap, a, us, c, h1, h2, h3, h4, h5⟩ := h
    exact ⟨fid, first, cap, a, us, c, h1, cvl_mono hl _ _ h2, cvl_mono hl _ _ h3, cvl_mono hl _ _ h4, h5⟩
theorem dcl_mono {ρ ρ' : Rho} (hl : Le ρ ρ') : ∀ {x : List (Option (V × List V) × Nat)} {ds : List Deferred}, dcl ρ x ds → dcl ρ' x ds
  | [], [], _ => trivial
  | [], _ :: _, h => h.elim
  | _ :: _, [], h => h.elim
  | _ :: _, _ :: _, h => ⟨dcv_mono hl h.1, dcl_mono hl h.2⟩
/-- the machine's state and the model's -/
structure St (P : Program) (w0 : World) (ρ : Rho) (n : Nat) (s : S) (a : Act) (w : World) : Prop where
  fe : Fe ρ s.env n a
  ds : dcl ρ s.ds a.defers
  hr : HR P w0 ρ s.h s.nx w
  fl : s.fl ≤ s.nx
/-- from one state to another -/
def To (P : Program) (w0 : World) (ρ : Rho) (n : Nat) (s : S) (w : World) (s' : S) (a' : Act) (w' : World) : Prop :=
  ∃ ρ', St P w0 ρ' n s' a' w' ∧ Tr ρ s.h s.nx w ρ' s'.h s'.nx w' s.fl ∧ s'.rd = s.rd ∧ s'.fl = s.fl
/-- how a call ends -/
def En (P : Program) (w0 : World) (ρ : Rho) (h : T O) (nx fl : Nat) (w : World) (v : V) (h' : T O) (nx' : Nat) : Ending → World → Prop :=
  fun e w' => ∃ u ρ', e = .returned u ∧ cv ρ' v = some u ∧ HR P w0 ρ' h' nx' w' ∧ Tr ρ h nx w ρ' h' nx' w' fl
def CF (P : Program) (fid : FuncId) : Prop := ∀ args w, (callFunc fid args).run P w = .ok (.enter fid args) w
def Cl (P : Program) (w0 : World) (ρ : Rho) (h : T O) (nx fl : Nat) (w : World) (us : List Value) (v : V) (h' : T O) (nx' : Nat) : V → Prop
  | .f fid first cap => ∃ a c, cvl ρ first = some a ∧ cvl ρ cap = some c ∧ CF P fid ∧ Calls P fid (a ++ us ++ c).toArray w (En P w0 ρ h nx fl w v h' nx')
  | .y i => ∃ x, ρ i = some x ∧ YieldAt (FW none) 0 P x.b us.toArray w (En P w0 ρ h nx fl w v h' nx')
  | _ => False
def Dl (P : Program) (w0 : World) (ρ : Rho) (h : T O) (nx fl : Nat) (w : World) (us : List Value) (v : V) (h' : T O) (nx' : Nat) : V → Prop
  | .f fid first cap => ∃ a c, cvl ρ first = some a ∧ cvl ρ cap = some c ∧ CF P fid ∧ CallsDIn (FW none) 0 P fid (a ++ us ++ c).toArray .returning w (fun e u2 w' => u2 = .returning ∧ En P w0 ρ h nx fl w v h' nx' e w')
  | _ => False
/-- a loop's body, and what comes behind it -/
def LP (r : Option Nat) (P : Program) (c : Code) (Q : Exit → Act → World → Prop) (a : Act) (w : World) : Prop := ∀ (b : Frame) (k : List Item) (cs : List Frame), b.roundOf = (FW r).round → (FW r).fn b.fn → (FW r).room (cs.length + 1 + 0) →
  ∃ e a' w', Q e a' w' ∧ ArrivesIn (Machine.fenced P (FW r)) P (lone (b.atR a (.code c :: .inLoop c :: k)) cs w) b k cs e a' w'
section
variable {r : Option Nat} {P : Program} {Q Q' : Exit → Act → World → Prop} {a : Act} {w : World} {c : Code}
theorem LP.loop (h : LP r P c Q a w) : WP r P (.loop c) Q a w := fun b k cs hro hb hr => by
  obtain ⟨e, a', w', q, harr⟩ := h b k cs hro hb hr
  exact ⟨e, a', w', q, .of_steps (.one (fenced_calm hb hr rfl) stepR_loop) harr⟩
theorem LP.step (h : WP r P c (fun e a' w' => (e = .normal ∧ LP r P c Q a' w') ∨ (e ≠ .normal ∧ Q e a' w')) a w) : LP r P c Q a w := fun b k cs hro hb hr => by
  obtain ⟨e, a₁, w₁, hq, harr⟩ := h b (.inLoop c :: k) cs hro hb hr
  cases e with
  | normal =>
    have hq := hq.resolve_right (fun h => h.1 rfl)
    obtain ⟨e₂, a₂, w₂, hq₂, harr₂⟩ := hq.2 b k cs hro hb hr
    exact ⟨e₂, a₂, w₂, hq₂, .of_steps (StepsIn.trans harr (.one (fenced_calm hb hr rfl) stepR_inLoop)) harr₂⟩
  | exit id => exact ⟨_, a₁, w₁, (hq.resolve_left (by simp)).2, .pass (x := .inLoop c) rfl (fun _ _ => .inl (by simp)) harr⟩
  | goto l => exact ⟨_, a₁, w₁, (hq.resolve_left (by simp)).2, .pass (x := .inLoop c) rfl (fun _ _ => .inl (by simp)) harr⟩
  | ret => exact ⟨_, a₁, w₁, (hq.resolve_left (by simp)).2, .pass (x := .inLoop c) rfl (fun _ _ => .inl (by simp)) harr⟩
  | panic ch => exact ⟨_, a₁, w₁, (hq.resolve_left (by simp)).2, .pass (x := .inLoop c) rfl (fun _ _ => .inl (by simp)) harr⟩
  | outgrown => exact ⟨_, a₁, w₁, (hq.resolve_left (by simp)).2, .pass (x := .inLoop c) rfl (fun _ _ => .inl (by simp)) harr⟩
theorem LP.mono (h : LP r P c Q a w) (hq : ∀ e a w, Q e a w → Q' e a w) : LP r P c Q' a w := fun b k cs hro hb hr =>
  let ⟨e, a', w', q, x⟩ := h b k cs hro hb hr; ⟨e, a', w', hq _ _ _ q, x⟩
theorem stepR_scope {b : Frame} {k : List Item} {cs : List Frame} : step P (lone (b.atR a (.code (.scope c) :: k)) cs w) = .next (lone (b.atR a (.code c :: .inScope c :: k)) cs w) :=
  step_lone_go (by simp [stepG, stepG.exec, Frame.atR])
theorem stepR_inScope {b : Frame} {k : List Item} {cs : List Frame} : step P (lone (b.atR a (.inScope c :: k)) cs w) = .next (lone (b.atR a k) cs w) :=
  step_lone_go (by simp [stepG, stepG.exec, Frame.atR])
theorem scopeR (h : WP r P c Q a w) (hQ : ∀ l a w, ¬ Q (.goto l) a w) : WP r P (.scope c) Q a w := by
  intro b k cs hro hb hr
  have h0 : (lone (b.atR a (.code (.scope c) :: k)) cs w).fenced P (FW r) := fenced_calm hb hr rfl
  obtain ⟨e, a₁, w₁, hq, harr⟩ := h b (.inScope c :: k) cs hro hb hr
  cases e with
  | normal => exact ⟨.normal, a₁, w₁, hq, .head h0 stepR_scope (StepsIn.trans harr (.one (fenced_calm hb hr rfl) stepR_inScope))⟩
  | exit id =>
    have hx : exitTo id (.inScope c :: k) = exitTo id k := by simp [exitTo]
    exact ⟨.exit id, a₁, w₁, hq, fun k' hk => .head h0 stepR_scope (harr.1 k' (by rw [hx]; exact hk)),
      fun hr' hk => let ⟨k₁, h1, h2⟩ := harr.2 hr' (by rw [hx]; exact hk); ⟨k₁, h1, .head h0 stepR_scope h2⟩⟩
  | goto l => exact (hQ _ _ _ hq).elim
  | ret => exact ⟨_, a₁, w₁, hq, .of_steps (.one h0 stepR_scope) harr⟩
  | panic ch => exact ⟨_, a₁, w₁, hq, .of_steps (.one h0 stepR_scope) harr⟩
  | outgrown => exact ⟨_, a₁, w₁, hq, .of_steps (.one h0 stepR_scope) harr⟩
end
/-- what the jobs of one depth say -/
structure Sd (P : Program) (C : Cx) (ih : Job → Option Rs) : Prop where
  code : ∀ {c : Code} {s s' : S} {x : X}, ih (.code c s) = some (.code x s') → ∀ {w0 : World} {ρ : Rho} {n : Nat} {a : Act} {w : World} {r : Option Nat}, okD n c = true → r.isSome = s.rd → St P w0 ρ n s a w →
    WP r P c (fun e a' w' => e = exOf x ∧ To P w0 ρ n s w s' a' w') a w
  loop : ∀ {c : Code} {s s' : S} {x : X}, ih (.code (.loop c) s) = some (.code x s') → ∀ {w0 : World} {ρ : Rho} {n : Nat} {a : Act} {w : World} {r : Option Nat}, okD n c = true → r.isSome = s.rd → St P w0 ρ n s a w →
    LP r P c (fun e a' w' => e = exOf x ∧ To P w0 ρ n s w s' a' w') a w
  call : ∀ {f : V} {args : List V} {h h' : T O} {nx nx' fl : Nat} {v : V}, ih (.call f args h nx fl) = some (.call v h' nx') → ∀ {w0 : World} {ρ : Rho} {w : World} {u : Value} {us : List Value}, HR P w0 ρ h nx w → fl ≤ nx → cv ρ f = some u → cvl ρ args = some us →
    Cl P w0 ρ h nx fl w us v h' nx' f
  dcall : ∀ {f : V} {args : List V} {h h' : T O} {nx nx' fl : Nat} {v : V}, ih (.dcall f args h nx fl) = some (.call v h' nx') → ∀ {w0 : World} {ρ : Rho} {w : World} {u : Value} {us : List Value}, HR P w0 ρ h nx w → fl ≤ nx → cv ρ f = some u → cvl ρ args = some us →
    Dl P w0 ρ h nx fl w us v h' nx' f
theorem roundFW {r : Option Nat} {P : Program} {l : Nat} {f : FuncId} {t : Array Value} {x y : Code} {w : World} {R : Ending → World → Prop} (h : RoundIn (FW none) 0 P l f t x y w R) : RoundIn (FW r) 0 P l f t x y w R := by
  cases r with
  | none => exact h
  | some l => exact h
section
variable {P : Program} {C : Cx} {ih : Job → Option Rs} {w0 : World} {ρ : Rho} {n : Nat} {s s' : S} {a : Act} {w : World} {r : Option Nat} {v : V} {K : Act → World → Prop} {Q : Exit → Act → World → Prop}
/-- what is asked of the rest, behind an operation -/
def Go (P : Program) (w0 : World) (ρ : Rho) (n : Nat) (s : S) (a : Act) (w : World) (dst : Option Tmp) (v : V) (s' : S) (K : Act → World → Prop) : Prop :=
  ∀ ρ' w' u ds', cv ρ' v = some u → St P w0 ρ' n s' { a with defers := ds' } w' → Tr ρ s.h s.nx w ρ' s'.h s'.nx w' s.fl → s'.rd = s.rd → s'.fl = s.fl → K (({ a with defers := ds' } : Act).put dst u) w'
theorem wpIn_of {o : Oper} {x : Next} {w' : World} (hr : (execOp a.eval o).run P w = .ok x w') (hx : ∀ d, x ≠ .defer d) (h : o.uponIn (FW r) 0 P a K Q (.ok x w')) : o.wpIn (FW r) 0 P a w K Q :=
  ⟨fun _ _ => trivial, by rw [semAt_run hr hx]; exact h⟩
theorem go_do {o : Op} {dst : Option Tmp} {T : TypeId} {pos : String} {af : Array Edge} {gd : Option (Nat × Bool)} (hst : St P w0 ρ n s a w) (hd : Do P w0 ρ s a w o v s') (hK : Go P w0 ρ n s a w dst v s' K) : (⟨dst, o, T, pos, af, gd⟩ : Oper).wpIn (FW r) 0 P a w K Q := by
  obtain ⟨ρ', w', u, nxt, h1, h2, h3, h4, h5, h6⟩ := hd
  have hk : K (a.put dst u) w' := hK ρ' w' u a.defers h4 (by rw [h1]; exact ⟨hst.fe.mono h3.le, dcl_mono h3.le hst.ds, h2, Nat.le_trans hst.fl h3.nx⟩) h3 (by rw [h1]; rfl) (by rw [h1]; rfl)
  rcases h5 with rfl | ⟨rfl, rfl⟩
  · exact wpIn_of (h6 dst T pos af gd) (fun _ h => by cases h) hk
  · exact wpIn_of (h6 dst T pos af gd) (fun _ h => by cases h) hk
theorem go_pk {o : Op} {dst : Option Tmp} {T : TypeId} {pos : String} {af : Array Edge} {gd : Option (Nat × Bool)} (hst : St P w0 ρ n s a w) (hp : Pk P ρ a w o v) (hK : Go P w0 ρ n s a w dst v s K) : (⟨dst, o, T, pos, af, gd⟩ : Oper).wpIn (FW r) 0 P a w K Q := by
  obtain ⟨u, h1, h2⟩ := hp
  exact wpIn_of (h2 dst T pos af gd) (fun _ h => by cases h) (hK ρ w u a.defers h1 hst (Tr.refl _ _ _ _ _) rfl rfl)
theorem go_mk {o : Op} {ob : O} {dst : Option Tmp} {T : TypeId} {pos : String} {af : Array Edge} {gd : Option (Nat × Bool)} (hst : St P w0 ρ n s a w) (hm : Mk P ρ s.nx a w o v ob) (hK : Go P w0 ρ n s a w dst v (s.new ob) K) : (⟨dst, o, T, pos, af, gd⟩ : Oper).wpIn (FW r) 0 P a w K Q := by
  obtain ⟨obj, x, u, h1, h2, h3, h4⟩ := hm
  have hl := Rho.le_add (x := x) (hst.hr.top s.nx (Nat.le_refl _))
  exact wpIn_of (h4 dst T pos af gd) (fun _ h => by cases h) (hK _ _ u a.defers h3 ⟨hst.fe.mono hl, dcl_mono hl hst.ds, hst.hr.alloc obj ob x h1 h2, Nat.le_succ_of_le hst.fl⟩ (Tr.alloc hst.hr obj ob x h1 hst.fl) rfl rfl)
theorem callR_ok {x : Option Rs} (h : callR s x = some (v, s')) : ∃ h' nx', x = some (.call v h' nx') ∧ s' = s.sethn h' nx' := by
  unfold callR at h
  split at h
  · simp only [Option.some.injEq, Prod.mk.injEq] at h
    obtain ⟨rfl, rfl⟩ := h
    exact ⟨_, _, rfl, rfl⟩
  · cases h
theorem En.go {h' : T O} {nx' : Nat} {dst : Option Tmp} (hst : St P w0 ρ n s a w) (hK : Go P w0 ρ n s a w dst v (s.sethn h' nx') K) {e : Ending} {w' : World} (he : En P w0 ρ s.h s.nx s.fl w v h' nx' e w') : ∃ u, e = .returned u ∧ K (a.put dst u) w' := by
  obtain ⟨u, ρ', rfl, h1, h2, h3⟩ := he
  exact ⟨u, rfl, hK ρ' w' u a.defers h1 ⟨hst.fe.mono h3.le, dcl_mono h3.le hst.ds, h2, Nat.le_trans hst.fl h3.nx⟩ h3 rfl rfl⟩
theorem go_cv (hi : Sd P C ih) {f : Operand} {xs ts : Array _} {dst : Option Tmp} {T : TypeId} {pos : String} {af : Array Edge} {gd : Option (Nat × Bool)} (hst : St P w0 ρ n s a w) (hl : eCv ih s f xs.toList = some (v, s')) (hK : Go P w0 ρ n s a w dst v s' K) :
    (⟨dst, .call { callee := .value f, args := xs, argTypes := ts }, T, pos, af, gd⟩ : Oper).wpIn (FW r) 0 P a w K Q := by
  unfold eCv at hl
  split at hl
  · rename_i args hargs
    split at hl
    · rename_i fv hfv
      obtain ⟨us, h1, h2⟩ := opds_ok hst.fe hargs
      rw [Array.toArray_toList] at h2
      obtain ⟨u, h3, h4⟩ := opd_ok hst.fe hfv
      obtain ⟨h', nx', h5, rfl⟩ := callR_ok hl
      have h6 := hi.call h5 hst.hr hst.fl h3 h1
      cases fv with
      | f fid first cap =>
        obtain ⟨A, c, g1, g2, g3, g4⟩ := h6
        have h7 : u = .func (.func fid) A.toArray c.toArray := by
          obtain ⟨A', c', k1, k2, rfl⟩ := cv_f h3
          rw [g1] at k1; injection k1 with k1; subst k1
          rw [g2] at k2; injection k2 with k2; subst k2; rfl
        rw [h7] at h4
        refine wpIn_of (x := .enter fid (A ++ us ++ c).toArray) (w' := w) ?_ (fun _ h => by cases h) ⟨(fun h => by cases h), (callsFW g4).mono fun e w' he => ?_⟩
        · simp only [execOp, resolve, h2, h4]
          simp [Deferred.ofValue, invoke, g3 _ _]
        · obtain ⟨u', rfl, hk⟩ := En.go hst hK he
          exact hk
      | y i =>
        obtain ⟨x, g1, fn, tmps, assign, body, hy, hR⟩ := h6
        have h7 : u = .func (.yield x.b) #[] #[] := by
          obtain ⟨x', k1, rfl⟩ := cv_y h3
          rw [g1] at k1; injection k1 with k1; subst k1; rfl
        rw [h7] at h4
        refine wpIn_of (x := .round x.b fn tmps assign body) (w' := w) ?_ (fun _ h => by cases h) ⟨(fun h => by cases h), (roundFW hR).mono fun e w' he => ?_⟩
        · simp only [execOp, resolve, h2, h4]
          simp [Deferred.ofValue, invoke, hy]
        · obtain ⟨u', rfl, hk⟩ := En.go hst hK he
          exact hk
      | k _ => exact h6.elim
      | p _ _ => exact h6.elim
      | s _ _ _ _ => exact h6.elim
      | m _ => exact h6.elim
      | q _ => exact h6.elim
      | w _ => exact h6.elim
      | gl _ _ => exact h6.elim
      | g _ => exact h6.elim
      | t _ => exact h6.elim
      | i _ _ => exact h6.elim
    · cases hl
  · cases hl
theorem go_def {c : Call} {dst : Option Tmp} {T : TypeId} {pos : String} {af : Array Edge} {gd : Option (Nat × Bool)} (hst : St P w0 ρ n s a w) (hrd : r.isSome = s.rd) (hl : eDef s c = some (v, s')) (hK : Go P w0 ρ n s a w dst v s' K) :
    (⟨dst, .defer c, T, pos, af, gd⟩ : Oper).wpIn (FW r) 0 P a w K Q := by
  obtain ⟨ce, xs, ts⟩ := c
  unfold eDef at hl
  split at hl
  · rename_i f hce
    have hce : ce = .value f := hce
    subst hce
    split at hl
    · rename_i args hargs
      split at hl
      · rename_i fv hfv
        cases hb : s.rd with
        | true => rw [hb] at hl; cases hl
        | false =>
          rw [hb] at hl hrd
          have hr : r = none := by cases r <;> first | rfl | cases hrd
          subst hr
          cases fv with
          | f fid first cap =>
            have hl : some (un, (⟨s.env, (some (V.f fid first cap, args), 0) :: s.ds, s.h, s.nx, false, s.fl⟩ : S)) = some (v, s') := hl
            simp only [Option.some.injEq, Prod.mk.injEq] at hl
            obtain ⟨rfl, rfl⟩ := hl
            obtain ⟨us, h1, h2⟩ := opds_ok hst.fe hargs
            have h2 : xs.map a.eval = us.toArray := by rw [Array.toArray_toList] at h2; exact h2
            obtain ⟨u, h3, h4⟩ := opd_ok hst.fe hfv
            obtain ⟨A, cc, k1, k2, rfl⟩ := cv_f h3
            refine ⟨fun _ _ => trivial, ?_⟩
            rw [Oper.semAt_none]
            have hx : (execOp a.eval ⟨dst, .defer { callee := .value f, args := xs, argTypes := ts }, T, pos, af, gd⟩).run P w = .ok (.defer { target := .fn (.func fid) cc.toArray, args := (A ++ us).toArray }) w := by
              simp only [execOp, resolve, h2, h4]
              simp [Deferred.ofValue]
            rw [hx]
            exact hK ρ w undef _ cv_un ⟨⟨hst.fe.size, hst.fe.get⟩, ⟨⟨fid, first, cap, A, us, cc, rfl, k1, h1, k2, rfl⟩, hst.ds⟩, hst.hr, hst.fl⟩ (Tr.refl _ _ _ _ _) hb.symm rfl
          | k _ => cases hl
          | p _ _ => cases hl
          | s _ _ _ _ => cases hl
          | m _ => cases hl
          | q _ => cases hl
          | w _ => cases hl
          | gl _ _ => cases hl
          | g _ => cases hl
          | t _ => cases hl
          | i _ _ => cases hl
          | y _ => cases hl
      · cases hl
    · cases hl
  · cases hl
theorem eff_ok (hC : OKC P C) (hi : Sd P C ih) {o : Op} {dst : Option Tmp} {T : TypeId} {pos : String} {af : Array Edge} {gd : Option (Nat × Bool)} (hst : St P w0 ρ n s a w) (hrd : r.isSome = s.rd) (hl : eff C ih s o = some (v, s')) (hK : Go P w0 ρ n s a w dst v s' K) :
    (⟨dst, o, T, pos, af, gd⟩ : Oper).wpIn (FW r) 0 P a w K Q := by
  unfold eff at hl
  split at hl
  · exact go_do hst (eStore_ok hC hst.hr hst.fe hl) hK
  · exact go_do hst (eUpd_ok hC hst.hr hst.fe (.inl rfl) hl) hK
  · exact go_do hst (eUpd_ok hC hst.hr hst.fe (.inr rfl) hl) hK
  · exact go_do hst (eEnt_ok hC hst.hr hst.fe hl) hK
  · exact go_do hst (eEst_ok hst.hr hst.fe hl) hK
  · exact go_do hst (eNext_ok hst.hr hst.fe hl) hK
  · rename_i c
    obtain ⟨ce, xs, ts⟩ := c
    unfold eCall at hl
    split at hl
    · rename_i f hce
      have hce : ce = .value f := hce
      subst hce
      exact go_cv hi hst hl hK
    · rename_i b hce
      have hce : ce = .builtin b := hce
      subst hce
      cases b <;> first | exact go_do hst (eApp_ok hC hst.hr hst.fe hst.fl hl) hK | cases hl
    · cases hl
  · exact go_def hst hrd hl hK
  · cases hl
theorem op1_ok (hC : OKC P C) (hi : Sd P C ih) {o : Oper} {k : Nat} (hst : St P w0 ρ n s a w) (hrd : r.isSome = s.rd) (hl : op1 C ih s o.op k = some (v, s')) (hK : Go P w0 ρ n s a w o.dst v s' K) : o.wpIn (FW r) 0 P a w K Q := by
  obtain ⟨dst, o, T, pos, af, gd⟩ := o
  have mk : ∀ {s1 : S}, made s (alloc1 C s.env s.h s.nx o) = some (v, s1) → Go P w0 ρ n s a w dst v s1 K → (⟨dst, o, T, pos, af, gd⟩ : Oper).wpIn (FW r) 0 P a w K Q := fun {s1} h1 h2 => by
    unfold made at h1
    split at h1
    · rename_i v' ob hm
      simp only [Option.some.injEq, Prod.mk.injEq] at h1
      obtain ⟨rfl, rfl⟩ := h1
      exact go_mk hst (alloc1_ok hC hst.hr (hst.hr.top _ (Nat.le_refl _)) hst.fe hm) h2
    · cases h1
  unfold op1 at hl
  split at hl
  · exact eff_ok hC hi hst hrd hl hK
  · exact mk hl hK
  · unfold kept at hl
    split at hl
    · rename_i u hu
      simp only [Option.some.injEq, Prod.mk.injEq] at hl
      obtain ⟨rfl, rfl⟩ := hl
      exact go_pk hst (look1_ok hC hst.hr hst.fe hu) hK
    · exact mk hl hK
/-- is it to run? -/
theorem bool?_no {x : V} {u : Value} (h : x.bool? = none) (hu : cv ρ x = some u) : ∀ b, u ≠ .bool b := by
  rintro b rfl
  cases x with
  | k v => have h1 := cv_k hu; subst h1; cases h
  | p i o => obtain ⟨x, _, h1⟩ := cv_p hu; cases h1
  | s i o n c => obtain ⟨x, _, _, h1⟩ := cv_s hu; cases h1
  | m i => obtain ⟨x, _, h1⟩ := cv_m hu; cases h1
  | f a b c => obtain ⟨x, y, _, _, h1⟩ := cv_f hu; cases h1
  | y i => obtain ⟨x, _, h1⟩ := cv_y hu; cases h1
  | q i => obtain ⟨x, _, h1⟩ := cv_q hu; cases h1
  | w i => obtain ⟨x, _, h1⟩ := cv_w hu; cases h1
  | gl i o => have h1 := cv_gl hu; cases h1
  | g l => obtain ⟨x, _, h1⟩ := cv_g hu; cases h1
  | t l => obtain ⟨x, _, h1⟩ := cv_t hu; cases h1
  | i t x => obtain ⟨x, _, h1⟩ := cv_i hu; cases h1
theorem wanted_ok {ops : Array Oper} {e : Env} (hf : Fe ρ e n a) {o : Oper} {b : Bool} (h : wantedV ops.toList e o.guard = some b) : Region.wanted o (yielded ops a.tmps) = b := by
  unfold wantedV at h
  unfold Region.wanted
  split at h
  · rename_i hg; injection h with h; subst h; simp [hg]
  · rename_i j want hg
    rw [hg]
    show (yielded ops a.tmps j == some want) = b
    unfold yielded
    split at h
    · rename_i o' ho
      rw [Array.getElem?_toList] at ho
      rw [ho]
      unfold wantB at h
      split at h
      · rename_i d hd
        split at h
        · rename_i x hx
          obtain ⟨u, h1, h2⟩ := hf.get d x hx
          simp only [Option.bind_some, hd, h2]
          split at h
          · rename_i t ht
            injection h with h; subst h
            rw [V.bool?_eq ht] at h1
            rw [cv_k h1]
            cases t <;> cases want <;> rfl
          · rename_i ht
            injection h with h; subst h
            have hn := bool?_no ht h1
            cases u <;> first | exact absurd rfl (hn _) | rfl
        · cases h
      · rename_i hd
        injection h with h; subst h
        simp [hd]
    · rename_i ho
      injection h with h; subst h
      rw [Array.getElem?_toList] at ho
      simp [ho]
theorem St.put (hst : St P w0 ρ n s a w) {dst : Option Nat} (hd : ∀ d, dst = some d → d < n) {u : Value} (hu : cv ρ v = some u) : St P w0 ρ n (s.upo dst v) (a.put dst u) w := by
  cases dst with
  | none => exact hst
  | some d => exact ⟨hst.fe.put (hd d rfl) hu, hst.ds, hst.hr, hst.fl⟩
theorem upo_eq (s : S) (dst : Option Nat) (v : V) : (s.upo dst v).h = s.h ∧ (s.upo dst v).nx = s.nx ∧ (s.upo dst v).fl = s.fl ∧ (s.upo dst v).rd = s.rd ∧ (s.upo dst v).ds = s.ds := by cases dst <;> exact ⟨rfl, rfl, rfl, rfl, rfl⟩
/-- operations in sequence -/
theorem seq1_ok (hC : OKC P C) (hi : Sd P C ih) {ops : Array Oper} : ∀ (l : List Oper) {s s' : S} {ρ : Rho} {a : Act} {w : World}, seq1 C ih ops.toList l s = some s' → (∀ o ∈ l, ∀ d, o.dst = some d → d < n) → r.isSome = s.rd → St P w0 ρ n s a w →
    (∀ a' w', To P w0 ρ n s w s' a' w' → Q .normal a' w') → WL r P ops Q l a w
  | [], s, s', ρ, a, w, hl, hd, hrd, hst, hQ => by
    injection hl with hl; subst hl
    exact hQ a w ⟨ρ, hst, Tr.refl _ _ _ _ _, rfl, rfl⟩
  | o :: l, s, s', ρ, a, w, hl, hd, hrd, hst, hQ => by
    unfold seq1 at hl
    unfold WL wpListIn
    split at hl
    · rename_i hw
      rw [wanted_ok hst.fe hw, if_pos rfl]
      split at hl
      · rename_i v1 s1 h1
        refine op1_ok hC hi hst hrd h1 fun ρ1 w1 u ds1 g1 g2 g3 g4 g5 => ?_
        obtain ⟨e1, e2, e3, e4, e5⟩ := upo_eq s1 o.dst v1
        have hst1 := g2.put (dst := o.dst) (fun d h => hd o (List.mem_cons_self ..) d h) g1
        refine seq1_ok hC hi l hl (fun p hp => hd p (List.mem_cons_of_mem _ hp)) (by rw [e4, g4]; exact hrd) hst1 fun a' w' ⟨ρ2, q1, q2, q3, q4⟩ => hQ a' w' ⟨ρ2, q1, g3.trans ?_, q3.trans (e4.trans g4), q4.trans (e3.trans g5)⟩
        rw [e1, e2, e3, g5] at q2; exact q2
      · cases hl
    · rename_i hw
      rw [wanted_ok hst.fe hw, if_neg (by decide)]
      obtain ⟨e1, e2, e3, e4, e5⟩ := upo_eq s o.dst un
      refine ⟨fun _ _ => trivial, seq1_ok hC hi l hl (fun p hp => hd p (List.mem_cons_of_mem _ hp)) (by rw [e4]; exact hrd) (hst.put (fun d h => hd o (List.mem_cons_self ..) d h) cv_un) fun a' w' ⟨ρ2, q1, q2, q3, q4⟩ => hQ a' w' ⟨ρ2, q1, ?_, q3.trans e4, q4.trans e3⟩⟩
      rw [e1, e2, e3] at q2; exact q2
    · cases hl
end
end Go.M
end

section
set_option linter.unusedVariables false
set_option linter.unusedSimpArgs false
set_option linter.unusedSectionVars false
namespace Go.M
open Go.RowKit Go.Z
section
variable {P : Program} {C : Cx} {ih : Job → Option Rs} {w0 : World} {ρ : Rho} {n : Nat} {s s' : S} {a : Act} {w : World} {r : Option Nat} {v : V} {h h2 : T O} {nx nx2 fl : Nat}
theorem To.trans {s1 s2 : S} {a2 : Act} {w1 w2 : World} {ρ1 : Rho} (h1 : Tr ρ s.h s.nx w ρ1 s1.h s1.nx w1 s.fl) (h3 : s1.rd = s.rd) (h4 : s1.fl = s.fl) (h2 : To P w0 ρ1 n s1 w1 s2 a2 w2) : To P w0 ρ n s w s2 a2 w2 := by
  obtain ⟨ρ2, q1, q2, q3, q4⟩ := h2
  rw [h4] at q2
  exact ⟨ρ2, q1, h1.trans q2, q3.trans h3, q4.trans h4⟩
/-- something is forgotten, whatever stands there then -/
theorem HR.drop (hr : HR P w0 ρ h nx w) {i : Nat} {o : O} {x : Pl} (hi : h.get i = some o) (hx : ρ i = some x) {ob : Obj} (hm : ∀ arr c, ob ≠ .map arr c) : HR P w0 ρ (h.del i) nx (w.putObj x.b ob) := by
  obtain ⟨hin, x', hx', hlo, hhi, _⟩ := hr.live i o hi
  rw [hx] at hx'; injection hx' with hx'; subst hx'
  have hs : (w.putObj x.b ob).heap.size = w.heap.size := by simp
  have hw : ∀ k, k ≠ x.b → (w.putObj x.b ob).heap[k]? = w.heap[k]? := fun k hk => World.putObj_heap_other hk
  have real : ∀ {l r}, (h.del i).get l = some r → h.get l = some r ∧ l ≠ i := fun {l r} hl => by
    rw [T.get_del] at hl
    split at hl
    · cases hl
    · rename_i e; exact ⟨hl, e⟩
  refine ⟨fun j p hj => ?_, fun j k p q y z hj hk => hr.inj j k p q y z (real hj).1 (real hk).1, hr.top, fun k hk => (hw k (by omega)).trans (hr.base k hk), by rw [hs]; exact hr.size, hr.os, hr.tape, hr.output⟩
  obtain ⟨h1, h2⟩ := real hj
  obtain ⟨g1, y, g2, g3, g4, g5⟩ := hr.live j p h1
  refine ⟨g1, y, g2, g3, by omega, OR.keep (Le.refl _) (by omega) (hw y.b fun e2 => h2 (hr.inj j i p o y x h1 hi g2 hx e2)) (fun b _ => ?_) g5⟩
  by_cases hb : b = x.b
  · subst hb
    intro arr' c' ha
    rw [World.putObj_heap_same hhi] at ha
    injection ha with ha
    exact absurd ha (hm _ _)
  · exact Ben.of_eq (hw b hb)
theorem Tr.drop (hr : HR P w0 ρ h nx w) {i : Nat} {o : O} {x : Pl} (hi : h.get i = some o) (hx : ρ i = some x) (ob : Obj) (hfl : fl ≤ i) : Tr ρ h nx w ρ (h.del i) nx (w.putObj x.b ob) fl :=
  ⟨Le.refl _, Nat.le_refl _, by simp, fun b hb hn => World.putObj_heap_other fun e => hn i o x hi hx e.symm, fun j p y hj hy _ => by
    rw [T.get_del] at hj
    split at hj
    · cases hj
    · exact ⟨j, p, y, hj, hy, rfl⟩, fun j hj => by rw [T.get_del, if_neg (by omega)], fun j p y hj h1 h2 => World.putObj_heap_other fun e => by have := hr.inj j i p o y x h1 hi h2 hx e; omega, fun _ _ h => h⟩
theorem callH_ok {x : Option Rs} {p : T O × Nat} (hl : callH x = some p) : ∃ v, x = some (.call v p.1 p.2) := by
  unfold callH at hl
  split at hl
  · injection hl with hl; subst hl; exact ⟨_, rfl⟩
  · cases hl
theorem isDf_eq {o : Option O} (h : isDf o = true) : o = some .df := by
  unfold isDf at h
  split at h
  · rfl
  · cases h
/-- the deferred calls, the last first -/
theorem runDs_ok (hi : Sd P C ih) {fn : Func} {tmps : Array Value} {R : Ending → World → Prop} : ∀ (ds : List (Option (V × List V) × Nat)) {dl : List Deferred} {h : T O} {nx : Nat} {ρ : Rho} {w : World}, runDs ih fl ds h nx = some (h2, nx2) → dcl ρ ds dl → HR P w0 ρ h nx w → fl ≤ nx →
    (∀ ρ' w', HR P w0 ρ' h2 nx2 w' → Tr ρ h nx w ρ' h2 nx2 w' fl → ∃ v, (results fn tmps).run P w' = .ok v w' ∧ R (.returned v) w') → LeavesInM (FW none) 0 P fn tmps R dl .returning w
  | [], [], h, nx, ρ, w, hl, _, hr, _, hQ => by
    simp only [runDs, Option.some.injEq, Prod.mk.injEq] at hl
    obtain ⟨rfl, rfl⟩ := hl
    exact hQ ρ w hr (Tr.refl _ _ _ _ _)
  | [], _ :: _, _, _, _, _, _, hd, _, _, _ => hd.elim
  | _ :: _, [], _, _, _, _, _, hd, _, _, _ => hd.elim
  | (none, i) :: r, d :: dl, h, nx, ρ, w, hl, hd, hr, hfl, hQ => by
    unfold runDs at hl
    obtain ⟨hb, h1⟩ := ite_some hl
    rw [Bool.and_eq_true] at hb
    have hdf := isDf_eq hb.2
    have hfi := Nat.le_of_ble_eq_true hb.1
    obtain ⟨⟨y, hy, rfl⟩, hd2⟩ := hd
    obtain ⟨_, y', hy', _, _, hor⟩ := hr.live i _ hdf
    rw [hy] at hy'; injection hy' with hy'; subst hy'
    refine ⟨by simp, .inl ⟨y.b, _, rfl, run_takeDeferred hor, runDs_ok hi r h1 hd2 (hr.drop hdf hy (fun _ _ h => by cases h)) hfl fun ρ' w' g1 g2 => hQ ρ' w' g1 ((Tr.drop hr hdf hy _ hfi).trans g2)⟩⟩
  | (some (f, args), j) :: r, d :: dl, h, nx, ρ, w, hl, hd, hr, hfl, hQ => by
    unfold runDs at hl
    split at hl
    · rename_i h1 nx1 hc
      obtain ⟨v, hc⟩ := callH_ok hc
      obtain ⟨⟨fid, first, cap, A, us, c, rfl, k1, k2, k3, rfl⟩, hd2⟩ := hd
      obtain ⟨A', c', g1, g2, g3, g4⟩ := hi.dcall hc hr hfl (cv_f_mk k1 k3) k2
      rw [k1] at g1; injection g1 with g1; subst g1
      rw [k3] at g2; injection g2 with g2; subst g2
      refine ⟨by simp, .inr ⟨(fun h => by cases h), .func fid, c.toArray, fid, (A ++ us ++ c).toArray, rfl, ?_, fun _ _ => trivial, CallsDIn.mono g4 fun e u2 w' ⟨hu, u, ρ1, he, _, q2, q3⟩ => ?_⟩⟩
      · simp [invoke, g3 _ _]
      · subst hu; subst he
        exact runDs_ok hi r hl (dcl_mono q3.le hd2) q2 (Nat.le_trans hfl q3.nx) fun ρ' w' p1 p2 => hQ ρ' w' p1 (q3.trans p2)
    · cases hl
theorem loadV_p {t : TypeId} {p : V} {u : Value} (hl : loadV C h t p = some v) (hp : cv ρ p = some u) : ∃ ad, u = .pointer (some ad) := by
  unfold loadV at hl
  split at hl
  · split at hl
    · rename_i hc
      unfold cellsAt at hc
      split at hc
      · rename_i i o hpp
        rw [V.ptr?_eq hpp] at hp
        obtain ⟨x, _, h1⟩ := cv_p hp; exact ⟨_, h1⟩
      · split at hc
        · rename_i g o hgg
          rw [V.gl?_eq hgg] at hp
          exact ⟨_, cv_gl hp⟩
        · cases hc
    · cases hl
  · cases hl
/-- results -/
def resOp (tmps : Array Value) : ResultVar → Sem Value
  | .tmp t => pure (tmps.getD t undef)
  | .cell a t => do loadVar t (← asAddr (tmps.getD a undef))
theorem res1_ok (hC : OKC P C) (hf : Fe ρ s.env n a) (hr : HR P w0 ρ h nx w) {x : ResultVar} (hl : res1 C s.env h x = some v) : ∃ u, cv ρ v = some u ∧ (resOp a.tmps x).run P w = .ok u w := by
  cases x with
  | tmp t =>
    obtain ⟨u, h1, h2⟩ := hf.get t v hl
    exact ⟨u, h1, by simp [resOp, Array.getD_eq_getD_getElem?, h2]⟩
  | cell t T =>
    unfold res1 at hl
    simp only at hl
    split at hl
    · rename_i p hp
      obtain ⟨u, h1, h2⟩ := hf.get t p hp
      obtain ⟨z, h3, h4⟩ := loadV_ok hC hr h1 hl
      obtain ⟨ad, rfl⟩ := loadV_p hl h1
      refine ⟨z, h3, ?_⟩
      have h5 : a.tmps.getD t undef = .pointer (some ad) := by simp [Array.getD_eq_getD_getElem?, h2]
      simp only [resOp, h5]
      simp only [Instr.loadAt, Instr.sureAddr] at h4
      simpa [asAddr] using h4
    · cases hl
theorem resV_ok (hC : OKC P C) (hf : Fe ρ s.env n a) (hr : HR P w0 ρ h nx w) : ∀ {xs : List ResultVar} {vs : List V}, resV C s.env h xs = some vs → ∃ us, cvl ρ vs = some us ∧ (xs.mapM (resOp a.tmps)).run P w = .ok us w
  | [], vs, hl => by injection hl with hl; subst hl; exact ⟨[], by unfold cvl; rfl, by simp⟩
  | x :: xs, vs, hl => by
    unfold resV at hl
    split at hl
    · rename_i v1 h1
      split at hl
      · rename_i ws h2
        injection hl with hl; subst hl
        obtain ⟨u, g1, g2⟩ := res1_ok hC hf hr h1
        obtain ⟨us, g3, g4⟩ := resV_ok hC hf hr h2
        refine ⟨u :: us, cvl_mk g1 g3, ?_⟩
        rw [List.mapM_cons]
        simp [Sem.run_bind, g2, g4]
      · cases hl
    · cases hl
theorem results_ok (hC : OKC P C) (hf : Fe ρ s.env n a) (hr : HR P w0 ρ h nx w) {fn : Func} {vs : List V} (hl : resV C s.env h fn.results.toList = some vs) : ∃ u, cv ρ (one vs) = some u ∧ (results fn a.tmps).run P w = .ok u w := by
  obtain ⟨us, h1, h2⟩ := resV_ok hC hf hr hl
  have h3 : (fn.results.mapM (resOp a.tmps)).run P w = .ok us.toArray w := by
    rw [← Array.toArray_toList (xs := fn.results), List.mapM_toArray, Sem.run_map, h2]; rfl
  have h4 : (results fn a.tmps).run P w = .ok (if h : us.toArray.size = 1 then us.toArray[0] else .tuple us.toArray) w := by
    have h5 : results fn a.tmps = (do let vs ← fn.results.mapM (resOp a.tmps); pure (if h : vs.size = 1 then vs[0] else .tuple vs)) := by
      unfold results; congr 1
    rw [h5, Sem.run_bind, h3]
    simp
  refine ⟨_, ?_, h4⟩
  match vs, us, h1 with
  | [], us, h1 =>
    have h2 := cvl_nil h1
    subst h2
    exact cv_t_mk h1
  | [x], us, h1 =>
    obtain ⟨u, us', rfl, g1, g2⟩ := cvl_cons h1
    rw [cvl_nil g2]
    simpa [one] using g1
  | x :: y :: l, us, h1 =>
    obtain ⟨u, us', rfl, g1, g2⟩ := cvl_cons h1
    obtain ⟨u2, us2, rfl, g3, g4⟩ := cvl_cons g2
    simp [one]
    exact cv_t_mk h1
theorem argV_get : ∀ (vs : List V) (i : Nat) (e : Env) (d : Nat) (x : V), (argV vs i e).get d = some x → (i ≤ d ∧ vs[d - i]? = some x) ∨ e.get d = some x
  | [], i, e, d, x, h => .inr h
  | y :: vs, i, e, d, x, h => by
    rcases argV_get vs (i + 1) (e.set i y) d x h with ⟨h1, h2⟩ | h0
    · refine .inl ⟨by omega, ?_⟩
      rw [show d - i = (d - (i + 1)) + 1 by omega, List.getElem?_cons_succ]; exact h2
    · have h1 : (Env.c i y e).get d = some x := h0
      clear h0
      rw [Env.get_c] at h1
      split at h1
      · rename_i e1; subst e1; exact .inl ⟨Nat.le_refl _, by simpa using h1⟩
      · exact .inr h1
theorem Fe.entry {vs : List V} {us : List Value} (hv : cvl ρ vs = some us) {n : Nat} (hn : vs.length ≤ n) : Fe ρ (argV vs 0 .o) n { tmps := us.toArray ++ Array.replicate (n - us.toArray.size) undef, defers := [] } := by
  have hlen := cvl_len hv
  refine ⟨by simp; omega, fun d x hd => ?_⟩
  rcases argV_get vs 0 .o d x hd with ⟨_, h1⟩ | h1
  · obtain ⟨u, h2, h3⟩ := cvl_get hv h1
    refine ⟨u, h3, ?_⟩
    have hd : d < us.length := by
      rcases Nat.lt_or_ge d us.length with h' | h'
      · exact h'
      · rw [List.getElem?_eq_none (by omega)] at h2; cases h2
    rw [Array.getElem?_append_left (by simpa using hd)]
    simpa using h2
  · cases h1
theorem CF_ok (hC : OKC P C) {fid : Nat} {fn : Func} {c : Code} (hf : C.fn.get fid = some fn) (hb : fn.body = some c) : P.funcs[fid]? = some fn ∧ CF P fid := by
  obtain ⟨h1, h2⟩ := hC.fn fid fn hf
  refine ⟨h1, fun args w => ?_⟩
  simp [callFunc, Sem.run_bind, h1, h2, hb]
theorem isExit_no {x : X} (h : isExit x = false) : exOf x = .normal ∨ exOf x = .ret := by cases x <;> first | exact .inl rfl | exact .inr rfl | cases h
/-- a function is called -/
theorem fnCall_ok (hC : OKC P C) (hi : Sd P C ih) {fid : Nat} {args : List V} {v : V} {us : List Value} (hl : fnCall C ih fid args h nx fl = some (.call v h2 nx2)) (hr : HR P w0 ρ h nx w) (hfl : fl ≤ nx) (hv : cvl ρ args = some us) :
    CF P fid ∧ Calls P fid us.toArray w (En P w0 ρ h nx fl w v h2 nx2) := by
  unfold fnCall at hl
  split at hl
  · rename_i fn hfn
    split at hl
    · rename_i c hc
      obtain ⟨hb, h1⟩ := ite_some hl
      clear hl
      rw [Bool.and_eq_true] at hb
      obtain ⟨hpf, hcf⟩ := CF_ok hC hfn hc
      refine ⟨hcf, callsIn_wide.1 (callsIn_of_wp_marks (F := FW none) (n := 0) hpf hc trivial ?_)⟩
      unfold bodyR at h1
      split at h1
      · rename_i x s1 hcode
        cases hx : isExit x with
        | true => rw [hx] at h1; cases h1
        | false =>
          rw [hx, cond_false] at h1
          have hw := hi.code hcode hb.1 (r := none) rfl (St.mk (P := P) (w0 := w0) (ρ := ρ) (w := w) (Fe.entry hv (Nat.le_of_ble_eq_true hb.2)) trivial hr hfl)
          refine wpIn_mono hw fun e a' w' ⟨he, ρ1, g1, g2, _, g4⟩ => ?_
          have hL : LeavesInM (FW none) 0 P fn a'.tmps (En P w0 ρ h nx fl w v h2 nx2) a'.defers .returning w' := by
            unfold retR at h1
            split at h1
            · rename_i h3 nx3 hds
              split at h1
              · rename_i vs hres
                simp only [Option.some.injEq, Rs.call.injEq] at h1
                obtain ⟨rfl, rfl, rfl⟩ := h1
                have g4 : s1.fl = fl := g4
                refine runDs_ok hi s1.ds hds g1.ds g1.hr (by rw [← g4]; exact g1.fl) fun ρ' w2 p1 p2 => ?_
                obtain ⟨u, q1, q2⟩ := results_ok hC (g1.fe.mono p2.le) p1 hres
                exact ⟨u, q2, u, ρ', rfl, q1, p1, g2.trans p2⟩
              · cases h1
            · cases h1
          rcases isExit_no hx with hx | hx <;> rw [he, hx] <;> exact hL
      · cases h1
    · cases hl
  · cases hl
theorem isRec_eq {c : Call} (h : isRec c = true) : c = { callee := .builtin .recover, args := #[], argTypes := #[] } := by
  obtain ⟨ce, xs, ts⟩ := c
  unfold isRec at h
  split at h
  · rename_i hce
    have hce : ce = .builtin .recover := hce
    subst hce
    rw [Bool.and_eq_true] at h
    have h1 := Nat.eq_of_beq_eq_true h.1
    have h2 := Nat.eq_of_beq_eq_true h.2
    simp only [Array.size_eq_zero_iff] at h1 h2
    subst h1; subst h2; rfl
  · cases h
theorem dBody_eq {c b : Code} {d : Nat} (h : dBody c = some (d, b)) : ∃ id T pos af, c = .seq (.region id #[⟨some d, .call { callee := .builtin .recover, args := #[], argTypes := #[] }, T, pos, af, none⟩] false) b := by
  unfold dBody at h
  split at h
  · rename_i id ops b'
    split at h
    · rename_i d' hrec
      simp only [Option.some.injEq, Prod.mk.injEq] at h
      obtain ⟨rfl, rfl⟩ := h
      unfold recOp at hrec
      split at hrec
      · rename_i d2 c2 T pos af hops
        obtain ⟨hb, h1⟩ := ite_some hrec
        injection h1 with h1; subst h1
        have := isRec_eq hb; subst this
        refine ⟨id, T, pos, af, ?_⟩
        rw [← Array.toArray_toList (xs := ops), hops]
      · cases hrec
    · cases h
  · cases h
/-- a deferred function that asks at once for the panic, where there is none -/
theorem enterRecIn {f : FuncId} {fn : Func} {c : Code} {args : Array Value} {id d : Nat} {T : TypeId} {pos : String} {af : Array Edge} {R : Ending → World → Prop} (hf : P.funcs[f]? = some fn)
    (hb : fn.body = some (Code.seq (.region id #[⟨some d, .call { callee := .builtin .recover, args := #[], argTypes := #[] }, T, pos, af, none⟩] false) c))
    (h : WP none P c (bodyPost P fn R) (({ tmps := args ++ Array.replicate (fn.ntmps - args.size) undef, defers := [] } : Act).put (some d) .nilIface) w) : CallsDIn (FW none) 0 P f args .returning w fun e u2 w' => u2 = .returning ∧ R e w' := by
  refine callsDIn_of_wpSIn hf hb trivial fun c₀ cs hu => wpSIn_seq (wpSIn_region ?_)
  have hx : ∀ a' : Act, (execOp a'.eval ⟨some d, .call { callee := .builtin .recover, args := #[], argTypes := #[] }, T, pos, af, none⟩).run P w = .ok .recover w := fun a' => by
    simp [execOp, resolve, invoke, builtin]
  have hl : List.range (Array.size #[(⟨some d, .call { callee := .builtin .recover, args := #[], argTypes := #[] }, T, pos, af, none⟩ : Oper)]) = [0] := rfl
  rw [hl]
  have hrec : recoverD (c₀ :: cs) = none := by simp [recoverD, hu]
  have hc : c₀ = { c₀ with mode := .returning } := by rw [← hu]
  simp only [wpOpsSIn, List.getElem?_toArray, List.getElem?_cons_zero, Region.wanted, if_true, hx, hrec, Exit.thenS]
  refine ⟨fun _ _ => trivial, wpSIn_of_wpIn rfl (wpIn_mono h fun e a w hq => ?_)⟩
  rw [hc]; exact bodyPost_S e a w hq
theorem dCall_ok (hC : OKC P C) (hi : Sd P C ih) {f : V} {args : List V} {v : V} {u : Value} {us : List Value} (hl : dCall C ih args h nx fl f = some (.call v h2 nx2)) (hr : HR P w0 ρ h nx w) (hfl : fl ≤ nx) (hf : cv ρ f = some u) (hv : cvl ρ args = some us) :
    Dl P w0 ρ h nx fl w us v h2 nx2 f := by
  unfold dCall at hl
  split at hl
  · rename_i fid first cap
    obtain ⟨A, c, k1, k2, _⟩ := cv_f hf
    split at hl
    · rename_i fn hfn
      split at hl
      · rename_i cd hcd
        obtain ⟨hpf, hcf⟩ := CF_ok hC hfn hcd
        refine ⟨A, c, k1, k2, hcf, ?_⟩
        have hvs := cvl_app (cvl_app k1 hv) k2
        unfold dRun at hl
        split at hl
        · rename_i d b hdb
          obtain ⟨id, T, pos, af, rfl⟩ := dBody_eq hdb
          obtain ⟨hb, h1⟩ := ite_some hl
          clear hl
          rw [Bool.and_eq_true, Bool.and_eq_true] at hb
          refine enterRecIn hpf hcd ?_
          unfold endD at h1
          split at h1
          · rename_i x s1 hcode
            cases hx : isExit x || !s1.ds.isEmpty || !fn.results.toList.isEmpty with
            | true => rw [hx] at h1; cases h1
            | false =>
              rw [hx, cond_false] at h1
              simp only [Bool.or_eq_false_iff, Bool.not_eq_false', List.isEmpty_iff] at hx
              obtain ⟨⟨hx1, hx2⟩, hx3⟩ := hx
              simp only [Option.some.injEq, Rs.call.injEq] at h1
              obtain ⟨rfl, rfl, rfl⟩ := h1
              have hd : d < fn.ntmps := Nat.le_of_ble_eq_true hb.2
              have hn : cv ρ (.k .nilIface) = some .nilIface := by unfold cv; rfl
              have hw := hi.code hcode hb.1.1 (r := none) rfl (St.mk (P := P) (w0 := w0) (ρ := ρ) (w := w) ((Fe.entry hvs (Nat.le_of_ble_eq_true hb.1.2)).put hd hn) trivial hr hfl)
              refine wpIn_mono hw fun e a' w' ⟨he, ρ1, g1, g2, _, g4⟩ => ?_
              have hdf : a'.defers = [] := by
                have := g1.ds
                rw [hx2] at this
                cases hd2 : a'.defers with
                | nil => rfl
                | cons _ _ => rw [hd2] at this; exact this.elim
              have hrs : fn.results = #[] := by rw [← Array.toArray_toList (xs := fn.results), hx3]
              have hL : a'.defers = [] ∧ ∃ v, (results fn a'.tmps).run P w' = .ok v w' ∧ En P w0 ρ h nx fl w un s1.h s1.nx (.returned v) w' :=
                ⟨hdf, undef, results_none hrs _ _ _, undef, ρ1, rfl, cv_un, g1.hr, g2⟩
              rcases isExit_no hx1 with hx | hx <;> rw [he, hx] <;> exact hL
          · cases h1
        · cases hl
      · cases hl
    · cases hl
  · cases hl
end
end Go.M
end

section
set_option linter.unusedVariables false
set_option linter.unusedSimpArgs false
set_option linter.unusedSectionVars false
namespace Go.M
open Go.RowKit Go.Z
section
variable {P : Program} {C : Cx} {ih : Job → Option Rs} {w0 : World} {ρ : Rho} {n : Nat} {s s' : S} {a : Act} {w : World} {r : Option Nat} {v : V} {h h2 : T O} {nx nx2 fl : Nat}
theorem lpAt_eq {i : Nat} {e : Env} {ps : List Nat} {x y : Code} {st : Bool} {p : Option Code} (hl : lpAt h i = some (e, ps, x, y, st, p)) : h.get i = some (.lp e ps x y st p) := by
  unfold lpAt at hl
  split at hl
  · rename_i hg
    simp only [Option.some.injEq, Prod.mk.injEq] at hl
    obtain ⟨rfl, rfl, rfl, rfl, rfl, rfl⟩ := hl
    exact hg
  · cases hl
theorem pendX_eq {p : Option Code} {x : X} (hl : pendX p = some x) : (p = none ∧ x = .n) ∨ (p = some .ret ∧ x = .r) ∨ ∃ j, p = some (.exit j) ∧ x = .e j := by
  unfold pendX at hl
  split at hl
  · injection hl with hl; exact .inl ⟨rfl, hl.symm⟩
  · injection hl with hl; exact .inr (.inl ⟨rfl, hl.symm⟩)
  · rename_i j; injection hl with hl; exact .inr (.inr ⟨j, rfl, hl.symm⟩)
  · cases hl
theorem Fe.acts {e : Env} {t : Array Value} {ds ds' : List Deferred} (hf : Fe ρ e n ⟨t, ds⟩) : Fe ρ e n ⟨t, ds'⟩ := ⟨hf.size, hf.get⟩
theorem loop_ne {b : Nat} {lp : Loop} {w' : World} (h : w'.heap[b]? = some (.loop lp)) : Ben w w' b := fun arr c hc => by rw [h] at hc; injection hc with hc; cases hc
/-- a range over a function -/
theorem cRf_ok (hC : OKC P C) (hi : Sd P C ih) {f : Operand} {ps : Array Nat} {asg body : Code} {x : X} (hl : cRf ih f ps.toList asg body s = some (.code x s')) (hok : okD n (.rangeFunc f ps asg body) = true) (hrd : r.isSome = s.rd) (hst : St P w0 ρ n s a w) :
    WP r P (.rangeFunc f ps asg body) (fun e a' w' => e = exOf x ∧ To P w0 ρ n s w s' a' w') a w := by
  unfold cRf at hl
  split at hl
  · rename_i fv hfv
    cases hb : s.rd || !isF fv with
    | true => rw [hb] at hl; cases hl
    | false =>
      rw [hb, cond_false] at hl
      simp only [Bool.or_eq_false_iff, Bool.not_eq_false'] at hb
      obtain ⟨hb1, hb2⟩ := hb
      rw [hb1] at hrd
      have hr0 : r = none := by cases r <;> first | rfl | cases hrd
      subst hr0
      unfold rfEnd at hl
      split at hl
      · rename_i h3 nx3 hcl
        obtain ⟨v, hcl⟩ := callH_ok hcl
        split at hl
        · rename_i e3 ps3 x3 y3 st3 p3 hlp
          cases hsp : st3 && p3.isNone with
          | true => rw [hsp] at hl; cases hl
          | false =>
            rw [hsp, cond_false] at hl
            split at hl
            · rename_i x' hpx
              simp only [Option.some.injEq, Rs.code.injEq] at hl
              obtain ⟨rfl, rfl⟩ := hl
              have hlp := lpAt_eq hlp
              have hok : (ps.toList.all (fun d => Nat.blt d n) && okD n asg && okD n body) = true := hok
              rw [Bool.and_eq_true, Bool.and_eq_true] at hok
              obtain ⟨u, h1, h2⟩ := opd_ok hst.fe hfv
              refine wpIn_rangeFunc fun fn hfn => ?_
              obtain ⟨rec, hrec⟩ : ∃ rec : Loop, rec = { state := .ready, pending := none, fn, tmps := a.tmps, params := ps, assign := asg, body, defers := w.heap.size } := ⟨_, rfl⟩
              have hx1 : OR P (ρ.add s.nx ⟨w.heap.size, 0, 0, 0⟩) (w.alloc (.deferred (some []))) ⟨w.heap.size, 0, 0, 0⟩ .df := World.alloc_heap_new w _
              have hr1 := hst.hr.alloc (.deferred (some [])) .df ⟨w.heap.size, 0, 0, 0⟩ rfl hx1
              have ht1 := Tr.alloc hst.hr (.deferred (some [])) .df ⟨w.heap.size, 0, 0, 0⟩ rfl hst.fl
              have hsz : w.heap.size + 1 = (w.alloc (.deferred (some []))).heap.size := by simp
              obtain ⟨ρ1, hρ1⟩ : ∃ ρ1, ρ1 = ρ.add s.nx ⟨w.heap.size, 0, 0, 0⟩ := ⟨_, rfl⟩
              have hd1 : ρ1 s.nx = some ⟨w.heap.size, 0, 0, 0⟩ := by rw [hρ1]; exact Rho.add_same _ _ _
              rw [← hρ1] at hr1 ht1
              have hl2 : Le ρ1 (ρ1.add (s.nx + 1) ⟨w.heap.size + 1, 0, 0, 0⟩) := Rho.le_add (hr1.top _ (Nat.le_refl _))
              have hx2 : OR P (ρ1.add (s.nx + 1) ⟨w.heap.size + 1, 0, 0, 0⟩) ((w.alloc (.deferred (some []))).alloc (.loop rec)) ⟨w.heap.size + 1, 0, 0, 0⟩ (.lp s.env ps.toList asg body false none) := by
                refine ⟨rec, n, ?_, by rw [hrec]; rfl, by rw [hrec], by rw [hrec], by rw [hrec], by rw [hrec], ?_, hok.1.2, hok.2, fun d hd => ?_⟩
                · have := World.alloc_heap_new (w.alloc (.deferred (some []))) (.loop rec)
                  rwa [← hsz] at this
                · rw [hrec]; exact (hst.fe.mono (ht1.le.trans hl2)).acts
                · have := List.all_eq_true.1 hok.1.1 d hd
                  exact Nat.le_of_ble_eq_true this
              have hr2 := hr1.alloc (.loop rec) (.lp s.env ps.toList asg body false none) ⟨w.heap.size + 1, 0, 0, 0⟩ hsz hx2
              have ht2 := Tr.alloc hr1 (.loop rec) (.lp s.env ps.toList asg body false none) ⟨w.heap.size + 1, 0, 0, 0⟩ hsz (fl := s.fl) (Nat.le_succ_of_le hst.fl)
              obtain ⟨ρ2, hρ2⟩ : ∃ ρ2, ρ2 = ρ1.add (s.nx + 1) ⟨w.heap.size + 1, 0, 0, 0⟩ := ⟨_, rfl⟩
              have hd2 : ρ2 (s.nx + 1) = some ⟨w.heap.size + 1, 0, 0, 0⟩ := by rw [hρ2]; exact Rho.add_same _ _ _
              rw [← hρ2] at hr2 ht2
              obtain ⟨W1, hW1⟩ : ∃ W1, W1 = (w.alloc (.deferred (some []))).alloc (.loop rec) := ⟨_, rfl⟩
              rw [← hW1] at hr2 ht2
              have hy : cvl ρ2 [.y (s.nx + 1)] = some [.func (.yield (w.heap.size + 1)) #[] #[]] := cvl_mk (by unfold cv; rw [hd2]) (by unfold cvl; rfl)
              have hc := hi.call hcl hr2 (Nat.le_succ_of_le (Nat.le_succ_of_le hst.fl)) (cv_mono (ht1.le.trans ht2.le) _ _ h1) hy
              cases fv with
              | f fid first cap =>
                obtain ⟨A, c, k1, k2, hcf, hcalls⟩ := hc
                have h7 : u = .func (.func fid) A.toArray c.toArray := by
                  obtain ⟨A', c', q1, q2, rfl⟩ := cv_f (cv_mono (ht1.le.trans ht2.le) _ _ h1)
                  rw [k1] at q1; injection q1 with q1; subst q1
                  rw [k2] at q2; injection q2 with q2; subst q2; rfl
                rw [h7] at h2
                have hc0 := callsFW (r := none) (n := 0) hcalls
                have henter : (Instr.enterLoop fn a.tmps ps asg body none).run P w = .ok (w.heap.size + 1, [mkD w.heap.size]) W1 := by rw [hW1, hrec]; exact run_enterLoop_outer _ _ _ _ _
                have hres : (resolve a.eval (rangeCall f (w.heap.size + 1)) 0).run P W1 = .ok { target := .fn (.func fid) c.toArray, args := A.toArray ++ #[.func (.yield (w.heap.size + 1)) #[] #[]] } W1 := by
                  simp only [resolve, h2]
                  simp [Deferred.ofValue, Act.eval]
                have hinv : (invoke (.fn (.func fid) c.toArray) (A.toArray ++ #[Value.func (.yield (w.heap.size + 1)) #[] #[]])).run P W1 = .ok (.enter fid (A ++ [Value.func (.yield (w.heap.size + 1)) #[] #[]] ++ c).toArray) W1 := by
                  simp [invoke, hcf _ _]
                refine ⟨w.heap.size + 1, [mkD w.heap.size], W1, _, W1, fid, _, W1, henter, hres, fun _ _ => trivial, hinv, (fun h => by cases h), CallsIn.mono hc0 ?_⟩
                · rintro e w3 ⟨uv, ρ3, rfl, _, hr3, ht3⟩
                  obtain ⟨_, x3', hx3, _, _, hor⟩ := hr3.live _ _ hlp
                  have := ht3.le _ _ hd2
                  rw [hx3] at this; injection this with this; subst this
                  obtain ⟨lp3, n3, g1, g2, g3, g4, g5, g6, _⟩ := hor
                  have hnb : lp3.state ≠ .busy := by
                    rw [g2]
                    cases st3 with
                    | false => simp
                    | true =>
                      have hpn : p3.isNone = false := by simpa using hsp
                      simp [hpn]
                  have hend := run_endLoop (P := P) g1 hnb
                  have hfl3 : s.fl ≤ nx3 := Nat.le_trans (Nat.le_succ_of_le (Nat.le_succ_of_le hst.fl)) ht3.nx
                  have kA := (hst.fe.mono (ht1.le.trans (ht2.le.trans ht3.le)))
                  have kB : dcl ρ3 ((none, s.nx) :: s.ds) ([mkD w.heap.size] ++ a.defers) := ⟨⟨_, ht3.le _ _ (ht2.le _ _ hd1), rfl⟩, dcl_mono (ht1.le.trans (ht2.le.trans ht3.le)) hst.ds⟩
                  obtain ⟨w4, hw4⟩ : ∃ w4, w4 = w3.putObj (w.heap.size + 1) (.loop { lp3 with state := .exhausted }) := ⟨_, rfl⟩
                  have kC : HR P w0 ρ3 (h3.del (s.nx + 1)) nx3 w4 := by rw [hw4]; exact hr3.drop hlp hx3 (fun _ _ h => by cases h)
                  have kD : Tr ρ s.h s.nx w ρ3 (h3.del (s.nx + 1)) nx3 w4 s.fl := by rw [hw4]; exact ((ht1.trans ht2).trans ht3).trans (Tr.drop hr3 hlp hx3 _ (Nat.le_succ_of_le hst.fl))
                  have hto : To P w0 ρ n s w ⟨s.env, (none, s.nx) :: s.ds, h3.del (s.nx + 1), nx3, s.rd, s.fl⟩ { a with defers := [mkD w.heap.size] ++ a.defers } w4 := ⟨ρ3, ⟨kA.acts, kB, kC, hfl3⟩, kD, rfl, rfl⟩
                  have hend : (Instr.endLoop (w.heap.size + 1)).run P w3 = .ok p3 w4 := by rw [hw4, ← g3]; exact hend
                  refine ⟨p3, _, hend, ?_⟩
                  rcases pendX_eq hpx with ⟨rfl, rfl⟩ | ⟨rfl, rfl⟩ | ⟨j, rfl, rfl⟩
                  · exact ⟨rfl, hto⟩
                  · exact wpIn_ret ⟨rfl, hto⟩
                  · exact wpIn_exit ⟨rfl, hto⟩
              | k _ => exact hc.elim
              | p _ _ => exact hc.elim
              | s _ _ _ _ => exact hc.elim
              | m _ => exact hc.elim
              | q _ => exact hc.elim
              | w _ => exact hc.elim
              | gl _ _ => exact hc.elim
              | g _ => exact hc.elim
              | t _ => exact hc.elim
              | i _ _ => exact hc.elim
              | y _ => cases hb2
            · cases hl
        · cases hl
      · cases hl
  · cases hl
theorem bindV_ok : ∀ {ps : List Nat} {vs : List V} {us : List Value} {e e' : Env} {t : Array Value}, bindV ps vs e = some e' → cvl ρ vs = some us → (∀ d ∈ ps, d < n) → Fe ρ e n ⟨t, []⟩ → us.length = ps.length ∧ Fe ρ e' n ⟨(ps.zip us).foldl (fun t (p, v) => t.setIfInBounds p v) t, []⟩
  | [], [], us, e, e', t, h, hv, _, hf => by
    injection h with h; subst h; rw [cvl_nil hv]; exact ⟨rfl, hf⟩
  | [], _ :: _, _, _, _, _, h, _, _, _ => by cases h
  | _ :: _, [], _, _, _, _, h, _, _, _ => by cases h
  | p :: ps, x :: vs, us, e, e', t, h, hv, hd, hf => by
    obtain ⟨u, us', rfl, h1, h2⟩ := cvl_cons hv
    obtain ⟨h3, h4⟩ := bindV_ok (e := e.set p x) h h2 (fun d hd' => hd d (List.mem_cons_of_mem _ hd')) (hf.put (hd p (List.mem_cons_self ..)) h1)
    exact ⟨by simp [h3], h4⟩
theorem jump_eq {x : X} {b : Bool} {c : Option Code} (hl : jump x = some (b, c)) : b = c.isSome ∧ ((x = .n ∧ c = none) ∨ (x = .r ∧ c = some .ret) ∨ ∃ j, x = .e j ∧ c = some (.exit j)) := by
  cases x with
  | n => simp only [jump, Option.some.injEq, Prod.mk.injEq] at hl; obtain ⟨rfl, rfl⟩ := hl; exact ⟨rfl, .inl ⟨rfl, rfl⟩⟩
  | r => simp only [jump, Option.some.injEq, Prod.mk.injEq] at hl; obtain ⟨rfl, rfl⟩ := hl; exact ⟨rfl, .inr (.inl ⟨rfl, rfl⟩)⟩
  | e j => simp only [jump, Option.some.injEq, Prod.mk.injEq] at hl; obtain ⟨rfl, rfl⟩ := hl; exact ⟨rfl, .inr (.inr ⟨j, rfl, rfl⟩)⟩
/-- a round -/
theorem yCall_ok (hC : OKC P C) (hi : Sd P C ih) {i : Nat} {args : List V} {us : List Value} (hl : yCall ih i args h nx fl = some (.call v h2 nx2)) (hr : HR P w0 ρ h nx w) (hfl : fl ≤ nx) (hv : cvl ρ args = some us) : Cl P w0 ρ h nx fl w us v h2 nx2 (.y i) := by
  unfold yCall at hl
  cases hb : Nat.blt i fl with
  | true => rw [hb] at hl; cases hl
  | false =>
    rw [hb, cond_false] at hl
    have hfi := blt_false hb
    split at hl
    · rename_i e ps asg body hlp
      have hlp := lpAt_eq hlp
      split at hl
      · rename_i e' hbd
        unfold yBody at hl
        split at hl
        · rename_i s1 hasg
          unfold yGo at hl
          split at hl
          · rename_i e1 ps1 a1 b1 hlp1
            have hlp1 := lpAt_eq hlp1
            unfold yEnd at hl
            split at hl
            · rename_i x s2 hbody
              split at hl
              · rename_i b c hj
                unfold yOut at hl
                split at hl
                · rename_i e2 ps2 a2 b2 st2 p2 hlp2
                  have hlp2 := lpAt_eq hlp2
                  simp only [Option.some.injEq, Rs.call.injEq] at hl
                  obtain ⟨rfl, rfl, rfl⟩ := hl
                  obtain ⟨_, y, hy, _, hyb, lp, m, g1, g2, g3, g4, g5, g6, g7, g8, g9, g10⟩ := hr.live i _ hlp
                  obtain ⟨k1, k2⟩ := bindV_ok hbd hv g10 g7
                  have hyl := run_yield (P := P) (args := us.toArray) g1 (by rw [g4]; simpa using k1)
                  refine ⟨y, hy, lp.fn, _, lp.assign, lp.body, hyl, roundIn_of_wpIn trivial ?_⟩
                  have hz : (lp.params.zip us.toArray).foldl (fun t (p, v) => t.setIfInBounds p v) lp.tmps = (ps.zip us).foldl (fun t (p, v) => t.setIfInBounds p v) lp.tmps := by rw [g4]; simp
                  rw [hz, g5, g6]
                  refine wpIn_mono (hi.code hasg g8 (r := some y.b) rfl (St.mk (P := P) (w0 := w0) (ρ := ρ) (w := w) k2 trivial hr hfl)) fun ex a' W ⟨he, ρ1, q1, q2, q3, q4⟩ => ?_
                  subst he
                  have hy1 := q2.le _ _ hy
                  obtain ⟨_, y', hy', _, hyb1, lp1, m1, j1, j2, j3, j4, j5, j6, j7, j8, j9, j10⟩ := q1.hr.live i _ hlp1
                  rw [hy1] at hy'; injection hy' with hy'; subst hy'
                  refine ⟨_, run_beginRound j1 (by rw [j2]; rfl), ?_⟩
                  have q4 : s1.fl = fl := q4
                  have hsame : (W.putObj y.b (.loop { lp1 with state := .busy })).heap[y.b]? = some (.loop { lp1 with state := .busy }) := World.putObj_heap_same hyb1
                  have hru : HR P w0 ρ1 (s1.h.set i (.lp e1 ps1 a1 b1 true none)) s1.nx (W.putObj y.b (.loop { lp1 with state := .busy })) :=
                    q1.hr.upd hlp1 hy1 (by simp) (fun k hk => World.putObj_heap_other hk) rfl rfl rfl (loop_ne hsame) ⟨_, m1, hsame, rfl, j3, j4, j5, j6, j7, j8, j9, j10⟩
                  have htu : Tr ρ1 s1.h s1.nx W ρ1 (s1.h.set i (.lp e1 ps1 a1 b1 true none)) s1.nx (W.putObj y.b (.loop { lp1 with state := .busy })) fl :=
                    Tr.upd q1.hr hlp1 hy1 (by simp) (fun k hk => World.putObj_heap_other hk) hfi
                  refine wpIn_mono (hi.code hbody g9 (r := some y.b) (by show true = s1.rd; rw [q3]) (St.mk (P := P) (w0 := w0) (ρ := ρ1) q1.fe q1.ds hru q1.fl)) fun ex2 a3 W3 ⟨he, ρ2, z1, z2, z3, z4⟩ => ?_
                  subst he
                  have hy2 := z2.le _ _ hy1
                  obtain ⟨_, y', hy', _, hyb2, lp2, m2, v1, v2, v3, v4, v5, v6, v7, v8, v9, v10⟩ := z1.hr.live i _ hlp2
                  rw [hy2] at hy'; injection hy' with hy'; subst hy'
                  have hend := fun jump => run_endRound (P := P) jump v1
                  obtain ⟨hbc, hcs⟩ := jump_eq hj
                  have hsame2 : ∀ lp', (W3.putObj y.b (.loop lp')).heap[y.b]? = some (.loop lp') := fun lp' => World.putObj_heap_same hyb2
                  have z2 : Tr ρ1 (s1.h.set i (.lp e1 ps1 a1 b1 true none)) s1.nx (W.putObj y.b (.loop { lp1 with state := .busy })) ρ2 s2.h s2.nx W3 fl := by rw [← q4]; exact z2
                  have fin : En P w0 ρ h nx fl w (bo (!b)) (s2.h.set i (.lp e2 ps2 a2 b2 b c)) s2.nx (.returned (.bool c.isNone)) (W3.putObj y.b (.loop { lp2 with state := if c.isNone then .ready else .done, pending := c })) := by
                    have hru2 : HR P w0 ρ2 (s2.h.set i (.lp e2 ps2 a2 b2 b c)) s2.nx (W3.putObj y.b (.loop { lp2 with state := if c.isNone then .ready else .done, pending := c })) :=
                      z1.hr.upd hlp2 hy2 (by simp) (fun k hk => World.putObj_heap_other hk) rfl rfl rfl (loop_ne (hsame2 _)) ⟨_, m2, hsame2 _, by rw [hbc]; cases c <;> rfl, rfl, v4, v5, v6, v7, v8, v9, v10⟩
                    have htu2 : Tr ρ2 s2.h s2.nx W3 ρ2 (s2.h.set i (.lp e2 ps2 a2 b2 b c)) s2.nx (W3.putObj y.b (.loop { lp2 with state := if c.isNone then .ready else .done, pending := c })) fl :=
                      Tr.upd z1.hr hlp2 hy2 (by simp) (fun k hk => World.putObj_heap_other hk) hfi
                    exact ⟨_, ρ2, rfl, by rw [hbc]; cases c <;> exact cv_bo _, hru2, ((q2.trans htu).trans z2).trans htu2⟩
                  rcases hcs with ⟨rfl, rfl⟩ | ⟨rfl, rfl⟩ | ⟨j, rfl, rfl⟩
                  · exact ⟨_, _, hend _, fin⟩
                  · exact ⟨_, _, hend _, fin⟩
                  · exact ⟨_, _, hend _, fin⟩
                · cases hl
              · cases hl
            · cases hl
          · cases hl
        · cases hl
      · cases hl
    · cases hl
theorem fCall_ok (hC : OKC P C) (hi : Sd P C ih) {f : V} {args : List V} {u : Value} {us : List Value} (hl : fCall C ih args h nx fl f = some (.call v h2 nx2)) (hr : HR P w0 ρ h nx w) (hfl : fl ≤ nx) (hf : cv ρ f = some u) (hv : cvl ρ args = some us) :
    Cl P w0 ρ h nx fl w us v h2 nx2 f := by
  unfold fCall at hl
  split at hl
  · exact yCall_ok hC hi hl hr hfl hv
  · obtain ⟨A, c, k1, k2, _⟩ := cv_f hf
    obtain ⟨h3, h4⟩ := fnCall_ok hC hi hl hr hfl (cvl_app (cvl_app k1 hv) k2)
    exact ⟨A, c, k1, k2, h3, h4⟩
  · cases hl
end
/-- regions in an open order -/
def DrOk (P : Program) (C : Cx) (ih : Job → Option Rs) : Prop := ∀ {ops : Array Oper} {s s' : S}, drawn C ih ops s = some s' → ∀ {w0 : World} {ρ : Rho} {n id : Nat} {a : Act} {w : World} {r : Option Nat}, okD n (.region id ops true) = true → r.isSome = s.rd → St P w0 ρ n s a w →
  WP r P (.region id ops true) (fun e a' w' => e = .normal ∧ To P w0 ρ n s w s' a' w') a w
/-- loops over maps -/
def MlOk (P : Program) (C : Cx) (ih : Job → Option Rs) : Prop := ∀ {b : Code} {s s' : S} {x : X} {N : Nx} {i m c : Nat} {es : List (V × V)}, isNext b s = some (N, i, m, c, es) → Nat.blt i s.fl = false → mapLoop C ih b N s i m c es = some (.code x s') → ∀ {w0 : World} {ρ : Rho} {n : Nat} {a : Act} {w : World} {r : Option Nat},
  okD n b = true → r.isSome = s.rd → St P w0 ρ n s a w → LP r P b (fun e a' w' => e = exOf x ∧ To P w0 ρ n s w s' a' w') a w
section
variable {P : Program} {C : Cx} {ih : Job → Option Rs} {w0 : World} {ρ : Rho} {n : Nat} {s s' : S} {a : Act} {w : World} {r : Option Nat}
theorem cLoop_ok (hC : OKC P C) (hi : Sd P C ih) (hm : MlOk P C ih) {b : Code} {x : X} (hl : cLoop C ih b s = some (.code x s')) (hok : okD n b = true) (hrd : r.isSome = s.rd) (hst : St P w0 ρ n s a w) :
    LP r P b (fun e a' w' => e = exOf x ∧ To P w0 ρ n s w s' a' w') a w := by
  unfold cLoop at hl
  split at hl
  · rename_i N i m c es hN
    cases hb : Nat.blt i s.fl with
    | true => rw [hb] at hl; cases hl
    | false => rw [hb, cond_false] at hl; exact hm hN hb hl hok hrd hst
  · unfold cAgain at hl
    split at hl
    · rename_i s1 h1
      refine LP.step (wpIn_mono (hi.code h1 hok hrd hst) fun e a1 w1 ⟨he, ρ1, q1, q2, q3, q4⟩ => .inl ⟨he, ?_⟩)
      exact LP.mono (hi.loop hl hok (by rw [q3]; exact hrd) q1) fun e a2 w2 ⟨he, hto⟩ => ⟨he, To.trans q2 q3 q4 hto⟩
    · rename_i hne
      refine LP.step (wpIn_mono (hi.code hl hok hrd hst) fun e a1 w1 ⟨he, hto⟩ => .inr ⟨?_, he, hto⟩)
      rw [he]
      cases x with
      | n => exact absurd hl (hne _)
      | r => simp [exOf]
      | e j => simp [exOf]
theorem fCode_ok (hC : OKC P C) (hi : Sd P C ih) (hd : DrOk P C ih) (hm : MlOk P C ih) {c : Code} {x : X} (hl : fCode C ih s c = some (.code x s')) (hok : okD n c = true) (hrd : r.isSome = s.rd) (hst : St P w0 ρ n s a w) :
    WP r P c (fun e a' w' => e = exOf x ∧ To P w0 ρ n s w s' a' w') a w := by
  have here : To P w0 ρ n s w s a w := ⟨ρ, hst, Tr.refl _ _ _ _ _, rfl, rfl⟩
  unfold fCode at hl
  split at hl
  · simp only [Option.some.injEq, Rs.code.injEq] at hl
    obtain ⟨rfl, rfl⟩ := hl
    exact wpIn_skip ⟨rfl, here⟩
  · simp only [Option.some.injEq, Rs.code.injEq] at hl
    obtain ⟨rfl, rfl⟩ := hl
    exact wpIn_label ⟨rfl, here⟩
  · rename_i id ops d
    unfold nrm at hl
    split at hl
    · rename_i s1 h1
      simp only [Option.some.injEq, Rs.code.injEq] at hl
      obtain ⟨rfl, rfl⟩ := hl
      cases d with
      | true => exact hd h1 hok hrd hst
      | false =>
        have hok : (ops.toList.all fun o => match o.dst with | some d => Nat.blt d n | none => true) = true := hok
        have hdst : ∀ o ∈ ops.toList, ∀ d, o.dst = some d → d < n := fun o ho d hod => by
          have := List.all_eq_true.1 hok o ho
          rw [hod] at this
          exact Nat.le_of_ble_eq_true this
        have := Z.reg (r := r) (P := P) (id := id) (lo := ops.toList) (Q := fun e a' w' => e = exOf .n ∧ To P w0 ρ n s w s1 a' w') (a := a) (w := w)
        rw [Array.toArray_toList] at this
        exact this (seq1_ok hC hi ops.toList h1 hdst hrd hst fun a' w' hto => ⟨rfl, hto⟩)
    · cases hl
  · rename_i c1 c2
    have hok : (okD n c1 && okD n c2) = true := hok
    rw [Bool.and_eq_true] at hok
    unfold cSeq at hl
    split at hl
    · rename_i s1 h1
      refine seqn fun Q' hn _ => wpIn_mono (hi.code h1 hok.1 hrd hst) fun e a1 w1 ⟨he, ρ1, q1, q2, q3, q4⟩ => ?_
      rw [he]
      exact hn _ _ (wpIn_mono (hi.code hl hok.2 (by rw [q3]; exact hrd) q1) fun e a2 w2 ⟨he, hto⟩ => ⟨he, To.trans q2 q3 q4 hto⟩)
    · rename_i hne
      refine seqn fun Q' _ hx => wpIn_mono (hi.code hl hok.1 hrd hst) fun e a1 w1 ⟨he, hto⟩ => hx _ _ _ ?_ ⟨he, hto⟩
      rw [he]
      cases x with
      | n => exact absurd hl (hne _)
      | r => simp [exOf]
      | e j => simp [exOf]
  · rename_i y c1 c2
    have hok : (okD n c1 && okD n c2) = true := hok
    rw [Bool.and_eq_true] at hok
    unfold cCond at hl
    split at hl
    · rename_i v hv
      split at hl
      · rename_i t ht
        obtain ⟨u, h1, h2⟩ := opd_ok hst.fe hv
        rw [V.bool?_eq ht] at h1
        rw [cv_k h1] at h2
        cases t with
        | true => exact wpIn_cond_true h2 (hi.code hl hok.1 hrd hst)
        | false => exact wpIn_cond_false h2 (hi.code hl hok.2 hrd hst)
      · cases hl
    · cases hl
  · rename_i id c1
    unfold cBlock at hl
    split at hl
    · rename_i j s1 h1
      unfold blk at hl
      cases hb : Nat.beq j id with
      | true =>
        have := Nat.eq_of_beq_eq_true hb
        subst this
        rw [hb, cond_true] at hl
        simp only [Option.some.injEq, Rs.code.injEq] at hl
        obtain ⟨rfl, rfl⟩ := hl
        exact blockn fun Q' _ hx _ => wpIn_mono (hi.code h1 hok hrd hst) fun e a1 w1 ⟨he, hto⟩ => by rw [he]; exact hx _ _ ⟨rfl, hto⟩
      | false =>
        rw [hb, cond_false] at hl
        simp only [Option.some.injEq, Rs.code.injEq] at hl
        obtain ⟨rfl, rfl⟩ := hl
        refine blockn fun Q' _ _ hx => wpIn_mono (hi.code h1 hok hrd hst) fun e a1 w1 ⟨he, hto⟩ => hx _ _ _ ?_ ?_ ⟨he, hto⟩
        · rw [he]; simp [exOf]
        · rw [he]; simp only [exOf, ne_eq, Exit.exit.injEq]; rintro rfl; simp at hb
    · rename_i hne
      cases x with
      | n => exact blockn fun Q' hn _ _ => wpIn_mono (hi.code hl hok hrd hst) fun e a1 w1 ⟨he, hto⟩ => by rw [he]; exact hn _ _ ⟨rfl, hto⟩
      | r => exact blockn fun Q' _ _ hx => wpIn_mono (hi.code hl hok hrd hst) fun e a1 w1 ⟨he, hto⟩ => hx _ _ _ (by rw [he]; simp [exOf]) (by rw [he]; simp [exOf]) ⟨he, hto⟩
      | e j => exact absurd hl (hne _ _)
  · exact scopeR (hi.code hl hok hrd hst) fun l a' w' ⟨he, _⟩ => by cases x <;> cases he
  · exact LP.loop (cLoop_ok hC hi hm hl hok hrd hst)
  · simp only [Option.some.injEq, Rs.code.injEq] at hl
    obtain ⟨rfl, rfl⟩ := hl
    exact wpIn_exit ⟨rfl, here⟩
  · simp only [Option.some.injEq, Rs.code.injEq] at hl
    obtain ⟨rfl, rfl⟩ := hl
    exact wpIn_ret ⟨rfl, here⟩
  · exact cRf_ok hC hi hl hok hrd hst
  · cases hl
/-- one depth more -/
theorem Sd.succ (hC : OKC P C) (hi : Sd P C ih) (hd : DrOk P C ih) (hm : MlOk P C ih) : Sd P C (F C ih) where
  code h1 _ _ _ _ _ _ hok hrd hst := fCode_ok hC hi hd hm h1 hok hrd hst
  loop h1 _ _ _ _ _ _ hok hrd hst := cLoop_ok hC hi hm h1 hok hrd hst
  call h1 _ _ _ _ _ hr hfl hf hv := fCall_ok hC hi h1 hr hfl hf hv
  dcall h1 _ _ _ _ _ hr hfl hf hv := dCall_ok hC hi h1 hr hfl hf hv
theorem Sd.ai (hC : OKC P C) (hd : ∀ ih, Sd P C ih → DrOk P C ih) (hm : ∀ ih, Sd P C ih → MlOk P C ih) : ∀ n, Sd P C (ai C n)
  | 0 => ⟨(fun h => by cases h), (fun h => by cases h), (fun h => by cases h), (fun h => by cases h)⟩
  | n + 1 => (Sd.ai hC hd hm n).succ hC (hd _ (Sd.ai hC hd hm n)) (hm _ (Sd.ai hC hd hm n))
end
end Go.M
end

section
set_option linter.unusedVariables false
set_option linter.unusedSimpArgs false
set_option linter.unusedSectionVars false
namespace Go.M
open Go.RowKit Go.Z
section
variable {P : Program} {C : Cx} {ih : Job → Option Rs} {w0 : World} {ρ : Rho} {n : Nat} {s s' : S} {a : Act} {w w' : World} {r : Option Nat} {v : V} {h : T O} {nx fl : Nat} {Q : Exit → Act → World → Prop}
theorem run_over {g b since last c : Nat} {seen : Array Nat} {arr : Array MapEntry} (hg : w.heap[g]? = some (.mapIter (some b) since seen last)) (hb : w.heap[b]? = some (.map arr c)) (h1 : ∀ e ∈ arr.toList, e.born < last) (h2 : ∀ e ∈ arr.toList, e.born ∈ seen.toList) (ty : TypeId) :
    (Instr.next (.pointer (some ⟨g, 0, none⟩)) false ty).run P w = .ok (.tuple #[.bool false]) w := by
  have hgetg := run_getObj' (P := P) hg (fun _ _ _ h => by cases h)
  have hgetb := run_getObj' (P := P) hb (fun _ _ _ h => by cases h)
  have htest := next_test_false seen arr last last h1 (Nat.le_refl _)
  have hL : (arr.filter fun e => !seen.contains e.born) = #[] := by
    rw [Array.filter_eq_empty_iff]
    intro x hx
    have := h2 x (by simpa using hx)
    simpa using this
  simp only [Instr.next, Sem.run_bind, hgetg, Result.andThen_ok, hgetb, htest, Bool.false_eq_true, if_false, hL]
  simp [Question.forced]
theorem run_step {g b c : Nat} {sb : Array Nat} {arr : Array MapEntry} (hg : w.heap[g]? = some (.mapIter (some b) c sb c)) (hb : w.heap[b]? = some (.map arr c)) (h1 : ∀ e ∈ arr.toList, e.born < c) (ty : TypeId) :
    ((∀ e ∈ arr.toList, e.born ∈ sb.toList) ∧ (Instr.next (.pointer (some ⟨g, 0, none⟩)) false ty).run P w = .ok (.tuple #[.bool false]) w) ∨
    ∃ (e : MapEntry) (w1 : World), e ∈ arr.toList ∧ e.born ∉ sb.toList ∧ w1.heap = w.heap ∧ w1.os = w.os ∧ w1.tape = w.tape ∧ w1.output = w.output ∧ (Instr.next (.pointer (some ⟨g, 0, none⟩)) false ty).run P w = .ok (.tuple #[.bool true, e.key, e.val]) (w1.putObj g (.mapIter (some b) c (sb.push e.born) c)) := by
  have hgetg := run_getObj' (P := P) hg (fun _ _ _ h => by cases h)
  have hgetb := run_getObj' (P := P) hb (fun _ _ _ h => by cases h)
  have htest := next_test_false sb arr c c h1 (Nat.le_refl _)
  obtain ⟨L, hL⟩ : ∃ L, L = arr.filter fun e => !sb.contains e.born := ⟨_, rfl⟩
  have hLm : ∀ e, e ∈ L.toList ↔ e ∈ arr.toList ∧ e.born ∉ sb.toList := fun e => by rw [hL]; simp
  have e1 : L.filter (fun x => decide (x.born < c)) = L := Array.filter_eq_self.2 (fun x hx => by have := (hLm x).1 (by simpa using hx); simpa using h1 x this.1)
  have e2 : L.filter (fun x => decide (x.born ≥ c)) = #[] := by
    rw [Array.filter_eq_empty_iff]
    intro x hx
    have := h1 x ((hLm x).1 (by simpa using hx)).1
    simp; omega
  by_cases h0 : L.size = 0
  · left
    have hLe : L = #[] := Array.eq_empty_of_size_eq_zero h0
    have hall : ∀ e ∈ arr.toList, e.born ∈ sb.toList := fun e he => Classical.byContradiction fun hn => by
      have := (hLm e).2 ⟨he, hn⟩
      rw [hLe] at this; simp at this
    exact ⟨hall, run_over hg hb h1 hall ty⟩
  · right
    have hie : L.isEmpty = false := by simp [Array.isEmpty, h0]
    have hj : ∃ j, j < L.size ∧ ∃ w1 : World, (choose (.mapNext L.size)).run P w = .ok j w1 ∧ (w1 = w ∨ w1 = w.drew) := by
      rw [run_choose_drew]
      by_cases hfo : (Question.mapNext L.size).forced = true
      · rw [if_pos hfo]; exact ⟨0, by omega, w, rfl, .inl rfl⟩
      · rw [if_neg hfo]; exact ⟨_, Nat.mod_lt _ (by omega), _, rfl, .inr rfl⟩
    obtain ⟨j, hjl, w1, hch, hw1⟩ := hj
    obtain ⟨e, he⟩ : ∃ e, L[j]? = some e := ⟨_, Array.getElem?_eq_getElem hjl⟩
    have heL : e ∈ L.toList := by have := List.mem_of_getElem? (l := L.toList) (i := j) (by rw [Array.getElem?_toList]; exact he); exact this
    obtain ⟨hea, hen⟩ := (hLm e).1 heL
    have hheap : w1.heap = w.heap := by rcases hw1 with rfl | rfl <;> rfl
    have hc1 : Ch [] w w1 := by rcases hw1 with rfl | rfl; exact Ch.refl _; exact Ch.drew _
    have hset : (setObj g (.mapIter (some b) c (sb.push e.born) c)).run P w1 = .ok () (w1.putObj g (.mapIter (some b) c (sb.push e.born) c)) := by
      simp [setObj, Sem.run, World.putObj, hheap, hg]
    refine ⟨e, w1, hea, hen, hheap, by rcases hw1 with rfl | rfl <;> rfl, by rcases hw1 with rfl | rfl <;> rfl, by rcases hw1 with rfl | rfl <;> rfl, ?_⟩
    simp only [Instr.next, Sem.run_bind, hgetg, Result.andThen_ok, hgetb, htest, Bool.false_eq_true, if_false, ← hL, e1, e2, hie, Array.append_empty, Array.empty_append, Array.size_map, hch, Array.getElem?_map, he, Option.map_some, hset, Sem.run_pure]
/-- more memory, and what stands under a name as it was -/
theorem HR.grow (hr : HR P w0 ρ h nx w) (hs : w.heap.size ≤ w'.heap.size) (hn : ∀ i o x, h.get i = some o → ρ i = some x → w'.heap[x.b]? = w.heap[x.b]?) (hben : ∀ b, b < w.heap.size → Ben w w' b) (hbase : ∀ k, k < w0.heap.size → w'.heap[k]? = w.heap[k]?)
    (h1 : w'.os = w.os) (h2 : w'.tape = w.tape) (h3 : w'.output = w.output) : HR P w0 ρ h nx w' :=
  ⟨fun i o hi => by
    obtain ⟨g1, x, g2, g3, g4, g5⟩ := hr.live i o hi
    exact ⟨g1, x, g2, g3, Nat.lt_of_lt_of_le g4 hs, OR.keep (Le.refl _) hs (hn i o x hi g2) hben g5⟩, hr.inj, hr.top, fun k hk => (hbase k hk).trans (hr.base k hk), Nat.le_trans hr.size hs, h1.trans hr.os, h2.trans hr.tape, h3.trans hr.output⟩
theorem nextIt_eq {b : Code} {N : Nx} (hl : nextIt b = some N) : ∃ id ops T pos af, b = .seq (.region id ops false) N.c ∧ ops.toList = ⟨some N.d, .next N.x false, T, pos, af, none⟩ :: N.r ∧ N.all = ops.toList := by
  unfold nextIt at hl
  split at hl
  · rename_i id ops c
    unfold nextOp at hl
    split at hl
    · rename_i d x T pos af r hops
      injection hl with hl; subst hl
      exact ⟨id, ops, T, pos, af, rfl, hops, rfl⟩
    · cases hl
  · cases hl
theorem isNext_eq {b : Code} {N : Nx} {i m c : Nat} {es : List (V × V)} (hl : isNext b s = some (N, i, m, c, es)) : nextIt b = some N ∧ opd s.env N.x = some (.q i) ∧ s.h.get i = some (.q m c .fresh) ∧ ∃ p, s.h.get m = some (.m es c p) := by
  unfold isNext at hl
  split at hl
  · rename_i N' hN
    split at hl
    · rename_i v hv
      split at hl
      · rename_i i' hi
        split at hl
        · rename_i m' c' hf
          split at hl
          · rename_i es' c2 hm
            obtain ⟨hb, h1⟩ := ite_some hl
            clear hl
            have hb := Nat.eq_of_beq_eq_true hb
            subst hb
            simp only [Option.some.injEq, Prod.mk.injEq] at h1
            obtain ⟨rfl, rfl, rfl, rfl, rfl⟩ := h1
            refine ⟨hN, by rw [hv, V.it?_eq hi], ?_, mapC_eq hm⟩
            unfold freshAt at hf
            split at hf
            · rename_i hg; simp only [Option.some.injEq, Prod.mk.injEq] at hf; obtain ⟨rfl, rfl⟩ := hf; exact hg
            · cases hf
          · cases hl
        · cases hl
      · cases hl
    · cases hl
  · cases hl
/-- one time through the loop's body -/
theorem body_ok (hC : OKC P C) (hi : Sd P C ih) {b : Code} {N : Nx} {g : Nat} {u : Value} {x : X} (hN : nextIt b = some N) (hx : a.eval N.x = .pointer (some ⟨g, 0, none⟩)) (hn : ∀ ty, (Instr.next (.pointer (some ⟨g, 0, none⟩)) false ty).run P w = .ok u w')
    (hl : round0 C ih N s v = some (.code x s')) (hu : cv ρ v = some u) (hst : St P w0 ρ n s a w') (hok : okD n b = true) (hrd : r.isSome = s.rd) : WP r P b (fun e a' w2 => e = exOf x ∧ To P w0 ρ n s w' s' a' w2) a w := by
  obtain ⟨id, ops, T, pos, af, rfl, hops, hall⟩ := nextIt_eq hN
  have hok : ((ops.toList.all fun o => match o.dst with | some d => Nat.blt d n | none => true) && okD n N.c) = true := hok
  rw [Bool.and_eq_true] at hok
  have hdst : ∀ o ∈ ops.toList, ∀ d, o.dst = some d → d < n := fun o ho d hod => by
    have := List.all_eq_true.1 hok.1 o ho
    rw [hod] at this
    exact Nat.le_of_ble_eq_true this
  unfold round0 roundC at hl
  split at hl
  · rename_i s1 h1
    rw [hall] at h1
    refine seqn fun Q' hnm _ => ?_
    have := Z.reg (r := r) (P := P) (id := id) (lo := ops.toList) (Q := Q') (a := a) (w := w)
    rw [Array.toArray_toList] at this
    refine this ?_
    rw [hops]
    unfold WL wpListIn
    rw [show Region.wanted ⟨some N.d, .next N.x false, T, pos, af, none⟩ (yielded ops a.tmps) = true from rfl, if_pos rfl]
    refine wpIn_of (x := .value u) (w' := w') ?_ (fun _ h => by cases h) ?_
    · simp only [execOp, hx, Sem.run_bind, hn, Result.andThen_ok, Sem.run_pure]
    · have hd : N.d < n := hdst _ (by rw [hops]; exact List.mem_cons_self ..) N.d rfl
      have hst1 : St P w0 ρ n (s.up N.d v) (a.put (some N.d) u) w' := ⟨hst.fe.put hd hu, hst.ds, hst.hr, hst.fl⟩
      refine seq1_ok hC hi N.r h1 (fun o ho => hdst o (by rw [hops]; exact List.mem_cons_of_mem _ ho)) hrd hst1 fun a1 w1 ⟨ρ1, q1, q2, q3, q4⟩ => hnm _ _ ?_
      exact wpIn_mono (hi.code hl hok.2 (by rw [q3]; exact hrd) q1) fun e a2 w2 ⟨he, hto⟩ => ⟨he, To.trans q2 q3 q4 hto⟩
  · cases hl
theorem left_eq {o : Option Rs} {x : X} (hl : left o = some (.code x s')) : o = some (.code x s') ∧ exOf x ≠ .normal := by
  unfold left at hl
  split at hl
  · rename_i x' s1
    split at hl
    · cases hl
    · rename_i hx
      simp only [Option.some.injEq, Rs.code.injEq] at hl
      obtain ⟨rfl, rfl⟩ := hl
      refine ⟨rfl, ?_⟩
      cases x' with
      | n => exact absurd rfl hx
      | r => simp [exOf]
      | e j => simp [exOf]
  · cases hl
/-- the walk is over -/
theorem finL_ok (hC : OKC P C) (hi : Sd P C ih) {b : Code} {N : Nx} {i g : Nat} {x : X} (hN : nextIt b = some N) (hx : a.eval N.x = .pointer (some ⟨g, 0, none⟩)) (hn : ∀ ty, (Instr.next (.pointer (some ⟨g, 0, none⟩)) false ty).run P w = .ok (.tuple #[.bool false]) w)
    (hl : finL C ih N s i = some (.code x s')) (hst : St P w0 ρ n (s.seth (s.h.del i)) a w) (hok : okD n b = true) (hrd : r.isSome = s.rd) : LP r P b (fun e a' w2 => e = exOf x ∧ To P w0 ρ n (s.seth (s.h.del i)) w s' a' w2) a w := by
  obtain ⟨h1, h2⟩ := left_eq hl
  have hu : cv ρ (.t [bo false]) = some (.tuple #[.bool false]) := cv_t_mk (cvl_mk (cv_bo false) (by unfold cvl; rfl))
  exact LP.step (wpIn_mono (body_ok hC hi hN hx hn h1 hu hst hok hrd) fun e a' w2 ⟨he, hto⟩ => .inr ⟨by rw [he]; exact h2, he, hto⟩)
end
end Go.M
end

section
set_option linter.unusedVariables false
set_option linter.unusedSimpArgs false
set_option linter.unusedSectionVars false
namespace Go.M
open Go.RowKit Go.Z
section
variable {P : Program} {C : Cx} {ih : Job → Option Rs} {w0 : World} {ρ : Rho} {n : Nat} {s s' : S} {a : Act} {w w' : World} {r : Option Nat} {v : V} {h : T O} {nx fl : Nat}
/-! ### keys that are different -/
theorem vB_refl {u : Value} (h : flatV u = true) : vB u u = true := by cases u <;> first | (cases h; done) | simp [vB]
theorem ne0_ok {x y : V} {u v : Value} (h : ne0 x y = true) (hu : cv ρ x = some u) (hv : cv ρ y = some v) : u ≠ v := by
  unfold ne0 at h
  split at h
  · rename_i p q
    rw [Bool.and_eq_true, Bool.and_eq_true] at h
    rw [cv_k hu, cv_k hv]
    rintro rfl
    rw [vB_refl h.1.1] at h
    cases h.2
  · cases h
theorem neL_ok : ∀ {x y : List V} {us vs : List Value}, neL x y = true → cvc ρ x = some us → cvc ρ y = some vs → us ≠ vs
  | [], _, _, _, h, _, _ => by cases h
  | _ :: _, [], _, _, h, _, _ => by cases h
  | a :: x, b :: y, us, vs, h, hu, hv => by
    obtain ⟨p, us', rfl, _, h1, h2⟩ := cvc_cons hu
    obtain ⟨q, vs', rfl, _, h3, h4⟩ := cvc_cons hv
    have h : (ne0 a b || neL x y) = true := h
    rw [Bool.or_eq_true] at h
    rcases h with h | h
    · intro e; injection e with e1 e2; exact ne0_ok h h1 h3 e1
    · intro e; injection e with e1 e2; exact neL_ok h h2 h4 e2
theorem neK_ok {x y : V} {u v : Value} (h : neK x y = true) (hu : cv ρ x = some u) (hv : cv ρ y = some v) : u ≠ v := by
  unfold neK at h
  split at h
  · obtain ⟨us, h1, rfl⟩ := cv_g hu
    obtain ⟨vs, h2, rfl⟩ := cv_g hv
    intro e
    injection e with e
    exact neL_ok h h1 h2 (List.toArray_inj e)
  · exact ne0_ok h hu hv
theorem dk_ok : ∀ {es : List (V × V)} {ks : List (Value × Value)}, dk es = true → cvp ρ es = some ks → (ks.map (·.1)).Nodup
  | [], ks, _, h => by rw [cvp_nil h]; exact List.nodup_nil
  | (k, v) :: es, ks, hd, h => by
    obtain ⟨a, b, m, rfl, h1, _, h3⟩ := cvp_cons h
    have hd : (es.all (fun y => neK k y.1) && dk es) = true := hd
    rw [Bool.and_eq_true] at hd
    rw [List.map_cons, List.nodup_cons]
    refine ⟨fun hm => ?_, dk_ok hd.2 h3⟩
    obtain ⟨p, hp, hpe⟩ := List.mem_map.1 hm
    obtain ⟨y, hy, g1, _⟩ := cvp_mem h3 p hp
    exact neK_ok (List.all_eq_true.1 hd.1 y hy) h1 g1 hpe.symm
theorem key_born {arr : List MapEntry} (h : (arr.map (·.key)).Nodup) {e e' : MapEntry} (he : e ∈ arr) (he' : e' ∈ arr) (hk : e'.key = e.key) : e' = e := by
  obtain ⟨i, hi⟩ := List.mem_iff_getElem?.1 he
  obtain ⟨j, hj⟩ := List.mem_iff_getElem?.1 he'
  have hil := (List.getElem?_eq_some_iff.1 hi).1
  have hjl := (List.getElem?_eq_some_iff.1 hj).1
  have := (List.getElem_inj h (i := j) (j := i) (h₀ := by simpa using hjl) (h₁ := by simpa using hil)).1 (by
    simp only [List.getElem_map]
    rw [(List.getElem?_eq_some_iff.1 hj).2, (List.getElem?_eq_some_iff.1 hi).2]; exact hk)
  subst this
  rw [hi] at hj; injection hj with hj; exact hj.symm
/-! ### slots that stay -/
theorem sameO_ok {x y : Option V} {v : V} (h : sameO x y = true) (hx : x = some v) : y = some v := by
  subst hx
  unfold sameO at h
  split at h
  · rename_i a ha
    injection ha with ha; subst ha
    split at h
    · rw [beq_eq _ _ h]
    · cases h
  · rename_i ha; cases ha
theorem envLe_ok {e0 e2 : Env} : ∀ {e : Env}, envLe e0 e2 e = true → ∀ d v, e.get d = some v → sameO (e0.get d) (e2.get d) = true
  | .o, _, d, v, h => by cases h
  | .c t u e, hl, d, v, h => by
    have hl : (sameO (e0.get t) (e2.get t) && envLe e0 e2 e) = true := hl
    rw [Bool.and_eq_true] at hl
    rw [Env.get_c] at h
    split at h
    · rename_i e1; subst e1; exact hl.1
    · exact envLe_ok hl.2 d v h
/-! ### another object under a name, in a memory that grew -/
theorem HR.at (hr : HR P w0 ρ h nx w) {i : Nat} {o o' : O} {x : Pl} (hi : h.get i = some o) (hx : ρ i = some x) (hs : w.heap.size ≤ w'.heap.size) (hw : ∀ k, k < w.heap.size → k ≠ x.b → w'.heap[k]? = w.heap[k]?) (h1 : w'.os = w.os) (h2 : w'.tape = w.tape) (h3 : w'.output = w.output)
    (hben : Ben w w' x.b) (ho : OR P ρ w' x o') : HR P w0 ρ (h.set i o') nx w' := by
  obtain ⟨hin, x', hx', hlo, hhi, _⟩ := hr.live i o hi
  rw [hx] at hx'
  injection hx' with hx'
  subst hx'
  have hbenAll : ∀ b, b < w.heap.size → Ben w w' b := fun b hb2 => by
    by_cases hb : b = x.b
    · subst hb; exact hben
    · exact Ben.of_eq (hw b hb2 hb)
  refine ⟨fun j p hj => ?_, fun j k p q y z hj hk hy hz e1 => ?_, hr.top, fun k hk => (hw k (by have := hr.size; omega) (by omega)).trans (hr.base k hk), by have := hr.size; omega, h1.trans hr.os, h2.trans hr.tape, h3.trans hr.output⟩
  · rw [T.get_set] at hj
    split at hj
    · rename_i e1
      subst e1
      injection hj with hj
      subst hj
      exact ⟨hin, x, hx, hlo, by omega, ho⟩
    · rename_i e1
      obtain ⟨g1, y, g2, g3, g4, g5⟩ := hr.live j p hj
      refine ⟨g1, y, g2, g3, by omega, OR.keep (Le.refl _) (by omega) (hw y.b g4 fun e2 => e1 (hr.inj j i p o y x hj hi g2 hx e2)) hbenAll g5⟩
  · have real : ∀ {l r}, (h.set i o').get l = some r → ∃ r', h.get l = some r' := fun {l r} hl => by
      rw [T.get_set] at hl
      split at hl
      · rename_i e2; subst e2; exact ⟨o, hi⟩
      · exact ⟨r, hl⟩
    obtain ⟨p', hj'⟩ := real hj
    obtain ⟨q', hk'⟩ := real hk
    exact hr.inj j k p' q' y z hj' hk' hy hz e1
/-- a walk under way: memory as it was, but for the iterator's block -/
structure Wk (w : World) (g b c : Nat) (sb : Array Nat) (W : World) : Prop where
  size : w.heap.size ≤ W.heap.size
  same : ∀ k, k < w.heap.size → k ≠ g → W.heap[k]? = w.heap[k]?
  it : W.heap[g]? = some (.mapIter (some b) c sb c)
  os : W.os = w.os
  tape : W.tape = w.tape
  output : W.output = w.output
theorem Wk.ben {g b c : Nat} {sb : Array Nat} {W : World} (hk : Wk w g b c sb W) : ∀ k, k < w.heap.size → Ben w W k := fun k hk2 => by
  by_cases hg : k = g
  · subst hg
    intro arr' c' ha
    rw [hk.it] at ha; injection ha with ha; cases ha
  · exact Ben.of_eq (hk.same k hk2 hg)
theorem Wk.del {g b c : Nat} {sb : Array Nat} {W : World} (hk : Wk w g b c sb W) (hr : HR P w0 ρ h nx w) {i : Nat} {o : O} {x : Pl} (hi : h.get i = some o) (hx : ρ i = some x) (hg : x.b = g) : HR P w0 ρ (h.del i) nx W := by
  obtain ⟨_, x', hx', hlo, hhi, _⟩ := hr.live i o hi
  rw [hx] at hx'; injection hx' with hx'; subst hx'
  refine (hr.del i).grow hk.size (fun j p y hj hy => ?_) hk.ben (fun k hk2 => hk.same k (by have := hr.size; omega) (by omega)) hk.os hk.tape hk.output
  rw [T.get_del] at hj
  split at hj
  · cases hj
  · rename_i hne
    obtain ⟨_, y', hy', _, g4, _⟩ := hr.live j p hj
    rw [hy] at hy'; injection hy' with hy'; subst hy'
    exact hk.same _ g4 fun e => hne (hr.inj j i p o y x hj hi hy hx (e.trans hg.symm))
theorem Wk.trDel {g b c : Nat} {sb : Array Nat} {W : World} (hk : Wk w g b c sb W) (hr : HR P w0 ρ h nx w) {i : Nat} {o : O} {x : Pl} (hi : h.get i = some o) (hx : ρ i = some x) (hg : x.b = g) (hfl : fl ≤ i) : Tr ρ h nx w ρ (h.del i) nx W fl :=
  ⟨Le.refl _, Nat.le_refl _, hk.size, fun k hk2 hn => hk.same k hk2 fun e => hn i o x hi hx (hg.trans e.symm), fun j p y hj hy _ => by
    rw [T.get_del] at hj
    split at hj
    · cases hj
    · exact ⟨j, p, y, hj, hy, rfl⟩, fun j hj => by rw [T.get_del, if_neg (by omega)], fun j p y hj h1 h2 => by
      obtain ⟨_, y', hy', _, g4, _⟩ := hr.live j p h1
      rw [h2] at hy'; injection hy' with hy'; subst hy'
      exact hk.same _ g4 fun e => by have := hr.inj j i p o y x h1 hi h2 hx (e.trans hg.symm); omega, fun _ _ h => h⟩
/-- an entry is taken -/
theorem Wk.cur {c : Nat} {sb : Array Nat} {W : World} {i m : Nat} {o : O} {x y : Pl} {k : V} {al : Bool} {e : MapEntry} {arr : Array MapEntry} (hk : Wk w x.b y.b c (sb.push e.born) W) (hr : HR P w0 ρ h nx w) (hi : h.get i = some o) (hx : ρ i = some x) (hy : ρ m = some y) (hyb : y.b < w.heap.size) (hne : y.b ≠ x.b)
    (harr : w.heap[y.b]? = some (.map arr c)) (hcv : cv ρ k = some e.key) (hd : ∀ e' ∈ arr.toList, e'.key = e.key → e'.born = e.born) (hal : al = true → ∀ e' ∈ arr.toList, e'.born ∈ (sb.push e.born).toList) (hxl : x.b < w.heap.size) :
    HR P w0 ρ (h.set i (.q m c (.cur k al))) nx W := by
  refine hr.at hi hx hk.size hk.same hk.os hk.tape hk.output (hk.ben x.b hxl) ⟨y, c, sb.push e.born, hy, Nat.lt_of_lt_of_le hyb hk.size, hk.it, (fun h => by cases h), fun k' al' e1 => ?_⟩
  injection e1 with e1 e2
  subst e1; subst e2
  refine ⟨e.born, e.key, by simp, hcv, fun arr2 c2 ha => ?_⟩
  rw [hk.same _ hyb hne, harr] at ha
  injection ha with ha
  injection ha with ha1 ha2
  subst ha1; subst ha2
  exact ⟨Nat.le_refl _, fun _ => ⟨hd, hal⟩⟩
theorem Wk.trCur {g b c : Nat} {sb : Array Nat} {W : World} (hk : Wk w g b c sb W) (hr : HR P w0 ρ h nx w) {i : Nat} {o o' : O} {x : Pl} (hi : h.get i = some o) (hx : ρ i = some x) (hg : x.b = g) (hfl : fl ≤ i) : Tr ρ h nx w ρ (h.set i o') nx W fl :=
  ⟨Le.refl _, Nat.le_refl _, hk.size, fun k hk2 hn => hk.same k hk2 fun e => hn i o x hi hx (hg.trans e.symm), fun j p y hj hy _ => by
    rw [T.get_set] at hj
    split at hj
    · rename_i e2; subst e2; exact ⟨j, o, y, hi, hy, rfl⟩
    · exact ⟨j, p, y, hj, hy, rfl⟩, fun j hj => T.get_set_other h o' (by omega), fun j p y hj h1 h2 => by
      obtain ⟨_, y', hy', _, g4, _⟩ := hr.live j p h1
      rw [h2] at hy'; injection hy' with hy'; subst hy'
      exact hk.same _ g4 fun e => by have := hr.inj j i p o y x h1 hi h2 hx (e.trans hg.symm); omega, fun _ _ h => h⟩
/-- behind a round in which nothing that stands may be changed -/
theorem Tr.all {W W' : World} {ρ' : Rho} {h' : T O} {nx' : Nat} (ht : Tr ρ h nx W ρ' h' nx' W' nx) (hr : HR P w0 ρ h nx W) : ∀ k, k < W.heap.size → W'.heap[k]? = W.heap[k]? := fun k hk => by
  by_cases hex : ∃ i o x, h.get i = some o ∧ ρ i = some x ∧ x.b = k
  · obtain ⟨i, o, x, h1, h2, rfl⟩ := hex
    exact ht.old i o x (hr.live i o h1).1 h1 h2
  · exact ht.keep k hk fun i o x h1 h2 e => hex ⟨i, o, x, h1, h2, e⟩
end
end Go.M
end
