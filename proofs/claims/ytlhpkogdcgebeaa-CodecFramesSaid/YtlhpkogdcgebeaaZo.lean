/- A small logic over the model's walk, continued: a range over a function. No program in sight. -/
import Derived.Test.YtlhpkogdcgebeaaZn
import Derived.RangeFuncSeq
import Derived.RangeFuncBound
namespace Go.Z
open Go.RowKit

/-- a loop variable's slots -/
def bindl : List Nat → List Value → List (Nat × Value) → List (Nat × Value)
  | p :: ps, v :: vs, l => bindl ps vs ((p, v) :: l)
  | _, _, l => l
abbrev mkD (D : Nat) : Deferred := { target := .collected D, args := #[] }
/-- a block for the rounds' deferred calls, with none in it -/
def Dfr (w : World) (D : Nat) : Prop := w.heap[D]? = some (.deferred (some []))
theorem Dfr.lt {w : World} {D : Nat} (h : Dfr w D) : D < w.heap.size := (Array.getElem?_eq_some_iff.1 h).1
theorem Dfr.ch {w w' : World} {D : Nat} {S : List Nat} (h : Dfr w D) (hc : Ch S w w') (hn : D ∉ S) : Dfr w' D := (hc.block D h.lt hn).trans h

theorem Ch.putObj (w : World) (r : Nat) (o : Obj) : Ch [r] w (w.putObj r o) :=
  ⟨rfl, rfl, rfl, by simp, fun k _ hn => World.putObj_heap_other (by simpa using hn)⟩

/-- what an iterator promises: element after element, each as E says -/
def Seq (P : Program) (gf : FuncId) (cap : List Value) (N : Nat) (E : Nat → World → World → List Value → Prop) (Dat : World → Prop) : Prop :=
  ∀ (lid : Nat) (w : World) (J : Nat → World → Prop) (Jx : World → Prop), (∀ k W W', J k W → Ch [] W W' → J k W') → (∀ W W', Jx W → Ch [] W W' → Jx W') → (∀ k W, J k W → Dat W) → J 0 w →
    (∀ k W0 W args, k < N → J k W0 → Ch [] W0 W → E k W0 W args → YieldAt (FW none) 0 P lid args.toArray W fun e W' => (e = .returned (.bool true) ∧ J (k + 1) W') ∨ (e = .returned (.bool false) ∧ Jx W')) →
    Calls P gf (.func (.yield lid) #[] #[] :: cap).toArray w fun e W' => e = .returned (.tuple #[]) ∧ (J N W' ∨ Jx W')

/-- how a round may be left -/
def RP (D : Nat) (I : Nat → World → Prop) (X : Exit → World → Prop) (k : Nat) (W : World) (e : Exit) (W' : World) : Prop :=
  (∃ S, Ch S W W' ∧ D ∉ S ∧ D + 1 ∉ S) ∧ match e with
    | .normal => I (k + 1) W'
    | .ret => X .ret W'
    | .exit id => X (.exit id) W'
    | _ => False
def RQ (D : Nat) (I : Nat → World → Prop) (X : Exit → World → Prop) (k : Nat) (W : World) : Exit → Act → World → Prop := fun e _ W' => RP D I X k W e W'
theorem RQ.pq {D : Nat} {I : Nat → World → Prop} {X : Exit → World → Prop} {k : Nat} {W : World} : Pq (RQ D I X k W) := fun _ _ _ _ _ h => h

section
variable {P : Program} {Q : Exit → Act → World → Prop} {a : Act} {w : World} {n : Nat} {ds : List Deferred} {l : List (Nat × Value)}

theorem bind_fr : ∀ (ps : List Nat) (args : List Value) {l : List (Nat × Value)} {t : Array Value}, (∀ p, p ∈ ps → p < n) → Fr ⟨t, []⟩ n [] l → Fr ⟨(ps.zip args).foldl (fun t (p, v) => t.setIfInBounds p v) t, []⟩ n [] (bindl ps args l)
  | [], _, _, _, _, h => h
  | _ :: _, [], _, _, _, h => h
  | p :: ps, v :: args, _, _, hp, h => bind_fr ps args (fun q hq => hp q (List.mem_cons_of_mem _ hq)) (h.put (d := p) (hp p (List.mem_cons_self ..)) v)

theorem rangeF {g : Operand} {ps : List Nat} {assign body : Code} {gf : FuncId} {cap : List Value} {G : List Value → Act → Prop} (hf : Fr a n ds l) (hg : ev l g = some (.func (.func gf) #[] cap.toArray))
    (hcf : ∀ args w, (callFunc gf args).run P w = .ok (.enter gf args) w) (N : Nat) (E : Nat → World → World → List Value → Prop) (Dat : World → Prop) (I : Nat → World → Prop) (X : Exit → World → Prop) (hseq : Seq P gf cap N E Dat)
    (hlen : ∀ k W0 W args, E k W0 W args → args.length = ps.length) (hps : ∀ p, p ∈ ps → p < n)
    (hE : ∀ k W0 W W' args, E k W0 W args → W0.heap.size ≤ W.heap.size → Ch [w.heap.size + 1] W W' → w.heap.size + 1 < W0.heap.size → E k W0 W' args)
    (hI0 : I 0 w) (hst : ∀ k W W', I k W → Ch [w.heap.size + 1] W W' → I k W') (hxt : ∀ e W W', X e W → Ch [w.heap.size + 1] W W' → X e W') (hdat : ∀ k W, I k W → Dat W)
    (hassign : ∀ W a args, args.length = ps.length → Fr a n [] (bindl ps args l) → WP (some (w.heap.size + 1)) P assign (fun e a' W' => e = .normal ∧ W' = W ∧ G args a') a W)
    (hbody : ∀ k W0 W args a, k < N → I k W0 → Ch [w.heap.size + 1] W0 W → w.heap.size + 1 < W0.heap.size → E k W0 W args → G args a → WP (some (w.heap.size + 1)) P body (RQ w.heap.size I X k W) a W)
    (hdone : ∀ W a', I N W → Dfr W w.heap.size → Fr a' n (mkD w.heap.size :: ds) l → Q .normal a' W)
    (hret : ∀ W a', X .ret W → Dfr W w.heap.size → Fr a' n (mkD w.heap.size :: ds) l → Q .ret a' W)
    (hexit : ∀ id W a', X (.exit id) W → Dfr W w.heap.size → Fr a' n (mkD w.heap.size :: ds) l → Q (.exit id) a' W) : WP none P (Code.rangeFunc g ps.toArray assign body) Q a w := by
  refine wpIn_rangeFunc fun fn hfn => ?_
  obtain ⟨rec, hrec⟩ : ∃ rec : LoopState → Option Code → Loop, rec = fun st pe => { state := st, pending := pe, fn, tmps := a.tmps, params := ps.toArray, assign, body, defers := w.heap.size } := ⟨_, rfl⟩
  obtain ⟨W1, hW1⟩ : ∃ W1, (w.alloc (.deferred (some []))).alloc (.loop (rec .ready none)) = W1 := ⟨_, rfl⟩
  have hL1 : W1.heap[w.heap.size + 1]? = some (.loop (rec .ready none)) := by
    rw [← hW1]; have := World.alloc_heap_new (w.alloc (.deferred (some []))) (.loop (rec .ready none)); rwa [World.size_alloc] at this
  have hK1 : Dfr W1 w.heap.size := by
    rw [← hW1]; exact (Below.heap_alloc _ _ _ (by simp)).trans (World.alloc_heap_new w _)
  have hc1 : Ch [] w W1 := by rw [← hW1]; exact (Ch.alloc w _).step (Ch.alloc _ _)
  have up : ∀ {W W' : World}, Ch [] W W' → Ch [w.heap.size + 1] W W' := fun h => h.mono (by simp)
  have hI1 : I 0 W1 := hst 0 w W1 hI0 (up hc1)
  have hfr : a.eval g = .func (.func gf) #[] cap.toArray := hf.eval hg
  have hcall := hseq (w.heap.size + 1) W1
    (fun k W => I k W ∧ W.heap[w.heap.size + 1]? = some (.loop (rec .ready none)) ∧ Dfr W w.heap.size)
    (fun W => ∃ e c, X e W ∧ ((e = .ret ∧ c = Code.ret) ∨ ∃ id, e = .exit id ∧ c = Code.exit id) ∧ W.heap[w.heap.size + 1]? = some (.loop (rec .done (some c))) ∧ Dfr W w.heap.size)
    (fun k W W' ⟨h1, h2, h3⟩ hc => ⟨hst k W W' h1 (up hc), (hc.block _ (Array.getElem?_eq_some_iff.1 h2).1 (by simp)).trans h2, h3.ch hc (by simp)⟩)
    (fun W W' ⟨e, c, h1, h0, h2, h3⟩ hc => ⟨e, c, hxt e W W' h1 (up hc), h0, (hc.block _ (Array.getElem?_eq_some_iff.1 h2).1 (by simp)).trans h2, h3.ch hc (by simp)⟩)
    (fun k W h => hdat k W h.1) ⟨hI1, hL1, hK1⟩ ?_
  · refine ⟨w.heap.size + 1, [mkD w.heap.size], W1, { target := .fn (.func gf) cap.toArray, args := #[.func (.yield (w.heap.size + 1)) #[] #[]] }, W1, gf,
      (.func (.yield (w.heap.size + 1)) #[] #[] :: cap).toArray, W1, ?_, ?_, fun _ _ => trivial, ?_, (fun h => by cases h), (callsFW hcall).mono ?_⟩
    · rw [← hW1, hrec]; exact run_enterLoop_outer _ _ _ _ _
    · simp only [resolve, hfr]
      simp [go_sem]
    · simp [invoke, go_sem, hcf]
    · have fin : ∀ (W : World) (st : LoopState) (pe : Option Code), W.heap[w.heap.size + 1]? = some (.loop (rec st pe)) → st ≠ .busy → Dfr W w.heap.size →
          ∃ W', (Instr.endLoop (w.heap.size + 1)).run P W = .ok pe W' ∧ Ch [w.heap.size + 1] W W' ∧ Dfr W' w.heap.size := fun W st pe hl hb hk => by
        have := run_endLoop (P := P) hl (by rw [hrec]; exact hb)
        rw [hrec] at this
        exact ⟨_, this, Ch.putObj _ _ _, hk.ch (Ch.putObj _ _ _) (by simp)⟩
      rintro e W ⟨rfl, ⟨h1, h2, h3⟩ | ⟨e, c, h1, h0, h2, h3⟩⟩
      · obtain ⟨W', hr, hc, hk⟩ := fin W .ready none h2 (by simp) h3
        exact ⟨none, W', hr, hdone W' _ (hst N W W' h1 hc) hk ⟨hf.size, by show [mkD w.heap.size] ++ a.defers = _; rw [hf.defs]; rfl, hf.get⟩⟩
      · obtain ⟨W', hr, hc, hk⟩ := fin W .done (some c) h2 (by simp) h3
        have hfr' : Fr { a with defers := [mkD w.heap.size] ++ a.defers } n (mkD w.heap.size :: ds) l := ⟨hf.size, by show [mkD w.heap.size] ++ a.defers = _; rw [hf.defs]; rfl, hf.get⟩
        refine ⟨some c, W', hr, ?_⟩
        rcases h0 with ⟨rfl, rfl⟩ | ⟨id, rfl, rfl⟩
        · exact wpIn_ret (hret W' _ (hxt _ W W' h1 hc) hk hfr')
        · exact wpIn_exit (hexit id W' _ (hxt _ W W' h1 hc) hk hfr')
  · rintro k W0 W args hk ⟨h1, h2, h3⟩ hc hEk
    have hlt : w.heap.size + 1 < W0.heap.size := (Array.getElem?_eq_some_iff.1 h2).1
    have hl : W.heap[w.heap.size + 1]? = some (.loop (rec .ready none)) := (hc.block _ hlt (by simp)).trans h2
    have hkk : Dfr W w.heap.size := h3.ch hc (by simp)
    have hltW : w.heap.size + 1 < W.heap.size := (Array.getElem?_eq_some_iff.1 hl).1
    have hlen' := hlen k W0 W args hEk
    have hy := run_yield (P := P) (args := args.toArray) hl (by rw [hrec]; simpa using hlen')
    refine ⟨fn, _, assign, body, by rw [hrec] at hy; exact hy, roundIn_of_wpIn hfn ?_⟩
    have hfr0 : Fr ⟨(ps.zip args).foldl (fun t (p, v) => t.setIfInBounds p v) a.tmps, []⟩ n [] (bindl ps args l) := bind_fr ps args hps ⟨hf.size, rfl, hf.get⟩
    have hzip : ((rec .ready none).params.zip args.toArray).foldl (fun t (p, v) => t.setIfInBounds p v) (rec .ready none).tmps = (ps.zip args).foldl (fun t (p, v) => t.setIfInBounds p v) a.tmps := by
      rw [hrec]; simp
    rw [hrec] at hzip
    simp only at hzip
    rw [hzip]
    refine wpIn_mono (hassign W _ args hlen' hfr0) ?_
    rintro e a1 W' ⟨rfl, rfl, hfr1⟩
    refine ⟨_, run_beginRound hl (by rw [hrec]), ?_⟩
    have hc2 : Ch [w.heap.size + 1] W' (W'.putObj (w.heap.size + 1) (.loop { rec .ready none with state := .busy })) := Ch.putObj _ _ _
    have hl2 : (W'.putObj (w.heap.size + 1) (.loop { rec .ready none with state := .busy })).heap[w.heap.size + 1]? = some (.loop { rec .ready none with state := .busy }) := World.putObj_heap_same hltW
    have hk2 := hkk.ch hc2 (by simp)
    refine wpIn_mono (hbody k W0 _ args a1 hk h1 ((up hc).then hc2) hlt (hE k W0 W' _ args hEk hc.size hc2 hlt) hfr1) ?_
    have fin : ∀ (jump : Option Code) (W3 : World), (∃ S, Ch S (W'.putObj (w.heap.size + 1) (.loop { rec .ready none with state := .busy })) W3 ∧ w.heap.size ∉ S ∧ w.heap.size + 1 ∉ S) →
        ∃ W4, (Instr.endRound (w.heap.size + 1) jump).run P W3 = .ok (.bool jump.isNone) W4 ∧ Ch [w.heap.size + 1] W3 W4 ∧ W4.heap[w.heap.size + 1]? = some (.loop (rec (if jump.isNone then .ready else .done) jump)) ∧ Dfr W4 w.heap.size := fun jump W3 ⟨S, hS, hD, hL⟩ => by
      have hl3 := (hS.block _ (Array.getElem?_eq_some_iff.1 hl2).1 hL).trans hl2
      have hk3 := hk2.ch hS hD
      have hend := run_endRound (P := P) jump hl3
      rw [hrec] at hend ⊢
      exact ⟨_, hend, Ch.putObj _ _ _, World.putObj_heap_same (Array.getElem?_eq_some_iff.1 hl3).1, hk3.ch (Ch.putObj _ _ _) (by simp)⟩
    rintro e a3 W3 ⟨hS, hp⟩
    cases e with
    | normal =>
      obtain ⟨W4, hr, hc4, hl4, hk4⟩ := fin none W3 hS
      exact ⟨_, W4, hr, .inl ⟨rfl, hst _ _ _ hp hc4, hl4, hk4⟩⟩
    | ret =>
      obtain ⟨W4, hr, hc4, hl4, hk4⟩ := fin (some .ret) W3 hS
      exact ⟨_, W4, hr, .inr ⟨rfl, .ret, .ret, hxt _ _ _ hp hc4, .inl ⟨rfl, rfl⟩, hl4, hk4⟩⟩
    | exit id =>
      obtain ⟨W4, hr, hc4, hl4, hk4⟩ := fin (some (.exit id)) W3 hS
      exact ⟨_, W4, hr, .inr ⟨rfl, .exit id, .exit id, hxt _ _ _ hp hc4, .inr ⟨id, rfl, rfl⟩, hl4, hk4⟩⟩
    | goto t => exact hp.elim
    | panic ch => exact hp.elim
    | outgrown => exact hp.elim

theorem len1 {args : List Value} (h : args.length = 1) : ∃ v, args = [v] := by
  rcases args with _ | ⟨v, _ | ⟨u, r⟩⟩
  · cases h
  · exact ⟨v, rfl⟩
  · cases h
theorem len2 {args : List Value} (h : args.length = 2) : ∃ v u, args = [v, u] := by
  rcases args with _ | ⟨v, _ | ⟨u, _ | ⟨x, r⟩⟩⟩
  · cases h
  · cases h
  · exact ⟨v, u, rfl⟩
  · cases h
section
variable {r : Option Nat}
theorem blockn {id : Nat} {c : Code} (h : ∀ Q' : Exit → Act → World → Prop, (∀ a w, Q .normal a w → Q' .normal a w) → (∀ a w, Q .normal a w → Q' (.exit id) a w) → (∀ e a w, e ≠ .normal → e ≠ .exit id → Q e a w → Q' e a w) → WP r P c Q' a w) : WP r P (Code.block id c) Q a w := by
  refine wpIn_block (h (Exit.inBlock id Q) (fun _ _ h => h) (fun a w hq => ?_) (fun e a w h1 h2 hq => ?_))
  · simp [Exit.inBlock, hq]
  · cases e <;> first | exact hq | (rename_i i; have : i ≠ id := fun e => h2 (by rw [e]); simp [Exit.inBlock, this, hq])
theorem loopn {c : Code} (I : Nat → Act → World → Prop) (m : Nat) (h0 : I m a w)
    (h : ∀ m a w, I m a w → ∀ Q' : Exit → Act → World → Prop, (∀ m' a w, m' < m → I m' a w → Q' .normal a w) → (∀ e a w, e ≠ .normal → Q e a w → Q' e a w) → WP r P c Q' a w) : WP r P (Code.loop c) Q a w :=
  loop I m h0 fun m a w hI => by
    refine h m a w hI _ (fun m' a w hlt hI' => ⟨m', hlt, hI'⟩) (fun e a w hne hq => ?_)
    cases e <;> first | exact hq | exact absurd rfl hne
end
section
variable {d : Option Tmp} {T : TypeId} {pos : String} {af : Array Edge} {gd : Option (Nat × Bool)} {t ty : TypeId} {x : Operand} {fn : Fn} {f c : Array Value} {p q : Array TypeId} {va : Bool}
theorem r_eqfn (ht : P.underlying t = some (.func p q va)) (hx : a.eval x = .func fn f c) : (execOp a.eval ⟨d, .binOp .eql t x (.const .nilFunc) ty, T, pos, af, gd⟩).run P w = .ok (.value (.bool false)) w := by
  have hy : a.eval (.const .nilFunc) = .nilFunc := rfl
  have h : ∀ m, (Op.equalIn (m + 1) t (.func fn f c) .nilFunc).run P w = .ok false w := fun m => by simp [Op.equalIn, run_underlying ht]
  have h2 : (Op.equal t (.func fn f c) .nilFunc).run P w = .ok false w := h 9999
  simp [execOp, hx, hy, eqGuard, binOp, h2]
theorem r_nefn (ht : P.underlying t = some (.func p q va)) (hx : a.eval x = .func fn f c) : (execOp a.eval ⟨d, .binOp .neq t x (.const .nilFunc) ty, T, pos, af, gd⟩).run P w = .ok (.value (.bool true)) w := by
  have hy : a.eval (.const .nilFunc) = .nilFunc := rfl
  have h : ∀ m, (Op.equalIn (m + 1) t (.func fn f c) .nilFunc).run P w = .ok false w := fun m => by simp [Op.equalIn, run_underlying ht]
  have h2 : (Op.equal t (.func fn f c) .nilFunc).run P w = .ok false w := h 9999
  simp [execOp, hx, hy, eqGuard, binOp, h2]
end
/-! ### functions that hold such a loop -/
theorem enterM {f : FuncId} {fn : Func} {c : Code} {vs : List Value} {m : Nat} {R : Ending → World → Prop} (hf : P.funcs[f]? = some fn) (hb : fn.body = some c) (hn : fn.ntmps = m) (hm : vs.length ≤ m)
    (h : ∀ a, Fr a m [] (argl vs 0) → WP none P c (bodyPostM (FW none) 0 P fn R) a w) : Calls P f vs.toArray w R := by
  refine callsIn_wide.1 (callsIn_of_wp_marks (F := FW none) (n := 0) hf hb trivial (h _ ?_))
  subst hn
  exact Fr.entry vs _ hm

/-- marks are taken off -/
def marks : List Nat → List Deferred
  | [] => []
  | D :: r => mkD D :: marks r
theorem leavesM {fn : Func} {R : Ending → World → Prop} : ∀ {Ds : List Nat} {w : World} {tmps : Array Value}, (∀ D, D ∈ Ds → Dfr w D) → Ds.Nodup → (∀ w', Ch Ds w w' → w'.heap.size = w.heap.size → ∃ v, (results fn tmps).run P w' = .ok v w' ∧ R (.returned v) w') →
    LeavesInM (FW none) 0 P fn tmps R (marks Ds) .returning w
  | [], w, tmps, _, _, h => by
    obtain ⟨v, h1, h2⟩ := h w (Ch.refl w) rfl
    exact ⟨v, h1, h2⟩
  | D :: Ds, w, tmps, hD, hn, h => by
    refine ⟨by simp, .inl ⟨D, _, rfl, run_takeDeferred (hD D (List.mem_cons_self ..)), leavesM (fun D' hD' => ?_) (List.nodup_cons.1 hn).2 fun w' hc hz => h w' ?_ (by rw [hz]; simp)⟩⟩
    · exact (hD D' (List.mem_cons_of_mem _ hD')).ch (Ch.putObj _ _ _) (by simp only [List.mem_singleton]; rintro rfl; exact (List.nodup_cons.1 hn).1 hD')
    · exact (Ch.putObj w D _).then hc (fun i hi => .inl (by simp at hi; simp [hi])) (fun i hi => .inl (List.mem_cons_of_mem _ hi))
theorem retM {fn : Func} {R : Ending → World → Prop} {Ds : List Nat} (hf : Fr a n (marks Ds) l) (hD : ∀ D, D ∈ Ds → Dfr w D) (hn : Ds.Nodup)
    (h : ∀ w', Ch Ds w w' → w'.heap.size = w.heap.size → ∃ v, (results fn a.tmps).run P w' = .ok v w' ∧ R (.returned v) w') : bodyPostM (FW none) 0 P fn R .ret a w := by
  show LeavesInM _ _ _ _ _ _ a.defers _ _
  rw [hf.defs]; exact leavesM hD hn h
theorem endM {fn : Func} {R : Ending → World → Prop} {Ds : List Nat} (hf : Fr a n (marks Ds) l) (hD : ∀ D, D ∈ Ds → Dfr w D) (hn : Ds.Nodup)
    (h : ∀ w', Ch Ds w w' → w'.heap.size = w.heap.size → ∃ v, (results fn a.tmps).run P w' = .ok v w' ∧ R (.returned v) w') : bodyPostM (FW none) 0 P fn R .normal a w := by
  show LeavesInM _ _ _ _ _ _ a.defers _ _
  rw [hf.defs]; exact leavesM hD hn h
theorem res1 {fn : Func} {t : Nat} {v : Value} (hf : Fr a n ds l) (h : fn.results = #[.tmp t]) (ht : lk l t = some v) (w : World) : (results fn a.tmps).run P w = .ok v w := by
  rw [results_tmp h]; exact congrArg (fun x => Result.ok x w) (hf.eval (x := .tmp t) ht)
theorem res2 {fn : Func} {t u : Nat} {v v' : Value} (hf : Fr a n ds l) (h : fn.results = #[.tmp t, .tmp u]) (ht : lk l t = some v) (hu : lk l u = some v') (w : World) : (results fn a.tmps).run P w = .ok (.tuple #[v, v']) w := by
  rw [results_tmp2 h]
  have h1 : a.tmps.getD t undef = v := hf.eval (x := .tmp t) ht
  have h2 : a.tmps.getD u undef = v' := hf.eval (x := .tmp u) hu
  rw [h1, h2]
theorem res0 {fn : Func} (h : fn.results = #[]) (w : World) : (results fn a.tmps).run P w = .ok (.tuple #[]) w := results_none h _ _ _
end

section
variable {r : Option Nat} {P : Program} {ops : Array Oper} {Q : Exit → Act → World → Prop} {a : Act} {w : World} {rest : List Oper} {n : Nat} {ds : List Deferred} {l : List (Nat × Value)}
/-- a call of yield -/
theorem callY {d : Nat} {T : TypeId} {pos : String} {af : Array Edge} {c : Operand} {xs : List Operand} {ts : Array TypeId} {lid : Nat} {vs : List Value} {R : Ending → World → Prop} (hf : Fr a n ds l) (hd : Nat.ble (d + 1) n = true)
    (hc : ev l c = some (.func (.yield lid) #[] #[])) (hx : evs l xs = some vs) (hY : YieldAt (FW none) 0 P lid vs.toArray w R) (h : ∀ e w', R e w' → ∃ v, e = .returned v ∧ ∀ a', Fr a' n ds ((d, v) :: l) → WL none P ops Q rest a' w') :
    WL none P ops Q (⟨some d, .call { callee := .value c, args := xs.toArray, argTypes := ts }, T, pos, af, none⟩ :: rest) a w := by
  obtain ⟨fn, tmps, assign, body, hy, hR⟩ := hY
  have h1 := hf.evals xs hx
  have h2 := hf.eval hc
  refine stepw (x := .round lid fn tmps assign body) (w' := w) rfl ?_ (fun _ h => by cases h) fun K hK => ⟨(fun h => by cases h), hR.mono fun e w' he => ?_⟩
  · simp only [execOp, resolve, h1, h2]
    simp [Deferred.ofValue, invoke, hy]
  · obtain ⟨v, rfl, hv⟩ := h e w' he
    exact hK _ _ (hv _ (hf.put (Nat.le_of_ble_eq_true hd) v))
end
end Go.Z
