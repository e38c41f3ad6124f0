/- A small logic over the model's walk, continued: buffers that are filled from the front (make without zeros, copy). No program in sight. -/
import Derived.Test.YtlhpkogdcgebeaaZe
import Derived.Lib.MakeNoZero
import Derived.Laws.Externs
import Derived.Laws.CopyOwn
namespace Go.Z
open Go.RowKit

def bv (b : UInt8) : Value := .int .u8 (b.toNat : Int)

/-- block g is a buffer of which the first bytes are 'done'; u of them are wanted -/
def FB (w : World) (g : Nat) (e : TypeId) (u : Nat) (done : List UInt8) : Prop :=
  ∃ rest : List Value, Blk w g e (done.map bv ++ rest) ∧ u ≤ done.length + rest.length ∧ done.length + rest.length ≤ maxLen

theorem FB.lt {w : World} {g : Nat} {e : TypeId} {u : Nat} {done : List UInt8} (h : FB w g e u done) : g < w.heap.size := by obtain ⟨_, hb, _⟩ := h; exact hb.lt
theorem FB.ch {w w' : World} {g : Nat} {e : TypeId} {u : Nat} {done : List UInt8} {S : List Nat} (h : FB w g e u done) (hc : Ch S w w') (hn : g ∉ S) : FB w' g e u done := by
  obtain ⟨r, hb, h1⟩ := h; exact ⟨r, hb.ch hc hn, h1⟩

theorem FB.rep {w : World} {g : Nat} {e : TypeId} {u : Nat} {done : List UInt8} {F : Nat → Prop} {c : Nat} (h : FB w g e u done) (hl : done.length = u) (hF : F g) (hc : u ≤ c) (hm : c ≤ maxLen) : (Ty.slice .byte).rep w F [.slice (some ⟨g, 0, none⟩) done.length c] done := by
  obtain ⟨r, hb, h1, h2⟩ := h
  refine ⟨_, _, done.map bv, rfl, by omega, hm, by simp [Ty.size], .inr ⟨g, 0, rfl, hF, fun j v hj => ?_⟩, fun i x hi => ?_⟩
  · rw [hb.cell, Nat.zero_add, List.getElem?_append_left (by have := (List.getElem?_eq_some_iff.1 hj).1; exact this)]
    exact hj
  · show _ = _
    have hlt := (List.getElem?_eq_some_iff.1 hi).1
    simp only [Ty.size, Nat.mul_one]
    have : (done.map bv).drop i = bv x :: (done.map bv).drop (i + 1) := by
      rw [List.drop_eq_getElem_cons (by simpa using hlt)]
      congr 1
      rw [List.getElem_map]
      rw [(List.getElem?_eq_some_iff.1 hi).2]
    rw [this]
    rfl

theorem bytes_cells {w : World} {F : Nat → Prop} {A : Option Addr} {n c : Nat} {ys : List UInt8} (h : (Ty.slice .byte).rep w F [.slice A n c] ys) :
    n = ys.length ∧ (ys.length = 0 ∨ ∃ ad, A = some ad ∧ ∀ j v, (ys.map bv)[j]? = some v → w.cell? (ad.add j) = some v) := by
  obtain ⟨hl, _, _⟩ := rep_slice_len h
  refine ⟨hl.symm, ?_⟩
  by_cases h0 : ys.length = 0
  · exact .inl h0
  · right
    obtain ⟨ad0, es0, hA0, hc0, hr0⟩ := rep_at h (k := 0) (by omega)
    refine ⟨ad0, hA0, fun j v hj => ?_⟩
    have hjl : j < ys.length := by have := (List.getElem?_eq_some_iff.1 hj).1; simpa using this
    obtain ⟨ad, es, hA, hc, hr⟩ := rep_at h hjl
    rw [hA0] at hA
    injection hA with hA
    subst hA
    have hes : es = [.int .u8 ((ys[j]).toNat : Int)] := hr
    have := hc 0 _ (by rw [hes]; rfl)
    rw [Addr.add_zero', show Ty.byte.size = 1 from rfl, Nat.mul_one] at this
    rw [this]
    rw [List.getElem?_map, List.getElem?_eq_getElem hjl] at hj
    exact hj

section
variable {r : Option Nat} {P : Program} {ops : Array Oper} {Q : Exit → Act → World → Prop} {a : Act} {w : World} {rest : List Oper} {n : Nat} {ds : List Deferred} {l : List (Nat × Value)} {d : Nat} {T : TypeId} {pos : String} {af : Array Edge}

theorem st_nozero {f : FuncId} {x : Operand} {ts ps : Array TypeId} {t e : TypeId} {u : Nat} {m : Int} (hcf : ∀ args w, (callFunc f args).run P w = ((Extern.BytealgMakeNoZero.makeNoZero ps #[t] args).run P w).andThen fun v w' => .ok (.value v) w') (hf : Fr a n ds l) (hd : Nat.ble (d + 1) n = true)
    (ht : P.underlying t = some (.slice e)) (hx : ev l x = some (.int .i64 m)) (hm : m = (u : Int)) (hu : u ≤ 140737488355328)
    (h : ∀ g w' a' (c : Nat), g = w.heap.size → w'.heap.size = g + 1 → FB w' g e u [] → Ch [] w w' → u ≤ c → c ≤ maxLen → Fr a' n ds ((d, .slice (some ⟨g, 0, none⟩) u c) :: l) → WL r P ops Q rest a' w') :
    WL r P ops Q (⟨some d, .call { callee := .value (.func f), args := #[x], argTypes := ts }, T, pos, af, none⟩ :: rest) a w := by
  subst hm
  obtain ⟨cs, hrun, h1, h2⟩ := Lib.run_makeNoZero (P := P) w ps t e ht u (by omega)
  have hmax := h2 (by simp only [maxLen]; omega)
  refine valw (w' := w.drew.drew.alloc (.cells cs e)) (v := .slice (some ⟨w.heap.size, 0, none⟩) u cs.size) hf hd ?_ fun a' hf' => h w.heap.size (w.drew.drew.alloc (.cells cs e)) a' cs.size rfl (by simp) ⟨cs.toList, ?_, by simpa using h1, by simpa using hmax⟩ (((Ch.drew w).step (Ch.drew _)).step (Ch.alloc _ _)) h1 hmax hf'
  · simp only [execOp, resolve, List.map_toArray, List.map_cons, List.map_nil, hf.eval hx]
    simp [Act.eval, Deferred.ofValue, invoke, hcf, hrun]
  · have := Blk.new w.drew.drew e cs.toList
    simpa using this

theorem st_copy {x y : Operand} {dT sT e : TypeId} {g u : Nat} {done : List UInt8} {A' A2 : Option Addr} {L c' n2 c2 : Nat} {F2 : Nat → Prop} {ys : List UInt8} (hf : Fr a n ds l) (hd : Nat.ble (d + 1) n = true)
    (ht : P.underlying dT = some (.slice e)) (hi : (P.info? e).map (·.size) = some 1) (hx : ev l x = some (.slice A' L c')) (hA : ys.length = 0 ∨ A' = some ⟨g, done.length, none⟩) (hy : ev l y = some (.slice A2 n2 c2)) (hr : (Ty.slice .byte).rep w F2 [.slice A2 n2 c2] ys)
    (hfb : FB w g e u done) (hL : L + done.length = u) (hly : ys.length ≤ L)
    (h : ∀ w' a', FB w' g e u (done ++ ys) → Ch [g] w w' → w'.heap.size = w.heap.size → Fr a' n ds ((d, .int .i64 (ys.length : Int)) :: l) → WL r P ops Q rest a' w') :
    WL r P ops Q (⟨some d, .call { callee := .builtin .copy, args := #[x, y], argTypes := #[dT, sT] }, T, pos, af, none⟩ :: rest) a w := by
  obtain ⟨hn2, hsrc⟩ := bytes_cells hr
  subst hn2
  obtain ⟨r, hb, h1, h2⟩ := hfb
  have hmin : Nat.min ys.length L = ys.length := Nat.min_eq_left hly
  by_cases h0 : ys.length = 0
  · have hy0 : ys = [] := List.eq_nil_of_length_eq_zero h0
    subst hy0
    have hrun := run_copy_none (P := P) w dT sT T e A' A2 L c' 0 c2 ht hi (by simp)
    refine valw (w' := w) (v := .int .i64 0) hf hd ?_ fun a' hf' => h w a' (by rw [List.append_nil]; exact ⟨r, hb, h1, h2⟩) (Ch.refl' _ _) rfl hf'
    simp only [execOp, resolve, invoke, builtin, Sem.run_bind, Sem.run_pure, Result.andThen_ok, List.map_toArray, List.map_cons, List.map_nil, hf.eval hx, hf.eval hy, List.length_nil, hrun]; rfl
  · have hA' := hA.resolve_left h0
    subst hA'
    obtain ⟨ad, rfl, hcell⟩ := hsrc.resolve_left h0
    have hrun := run_copy_row (P := P) w dT sT T e g done.length L c' ad ys.length c2 _ e (ys.map bv) ht hi hb (by rw [List.length_map]; exact hmin.symm) hcell (by simp; omega) (by intro v hv; obtain ⟨b, _, rfl⟩ := List.mem_map.1 hv; rfl)
    refine valw (w' := _) (v := .int .i64 (ys.length : Int)) hf hd (by
      simp only [execOp, resolve, invoke, builtin, Sem.run_bind, Sem.run_pure, Result.andThen_ok, List.map_toArray, List.map_cons, List.map_nil, hf.eval hx, hf.eval hy, hrun]
      rw [List.length_map]; rfl) fun a' hf' => h _ a' ⟨r.drop ys.length, ?_, by simp; omega, by simp; omega⟩ (Ch.setRow w g _) (by simp [World.setRow]) hf'
    have e1 : (done.map bv ++ r).take done.length = done.map bv := by
      rw [List.take_append_of_le_length (by simp), List.take_of_length_le (by simp)]
    have e2 : (done.map bv ++ r).drop (done.length + ys.length) = r.drop ys.length := by
      rw [List.drop_append, List.drop_eq_nil_of_le (by simp), List.nil_append, List.length_map]
      congr 1; omega
    simp only [e1, e2, List.map_append, List.append_assoc]
    exact hb.setRow
end
end Go.Z
